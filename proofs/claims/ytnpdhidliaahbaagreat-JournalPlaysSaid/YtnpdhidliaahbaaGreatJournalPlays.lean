/- 'Rows.JournalPlaysSaid': for every input the law's Go text answers true and leaves its arguments as they were. No condition. -/
import Derived.Test.YtnpdhidliaahbaaGreatP28
import Derived.Test.YtnpdhidliaahbaaGreatP62
import Derived.Test.YtnpdhidliaahbaaGreatP64
namespace Go.Proofs.YtnpdhidliaahbaaGreat.journalPlays
set_option linter.unusedSimpArgs false
open Go Go.ChangeShapes Go.WideShapes Go.ChangeAt Go.RowKit
open Go.ChangeMaps (open_string shut_string)
set_option linter.unusedVariables false

set_option maxRecDepth 100000 in
theorem lifted (os : Os) (started : os.Started) (H : Type) (enc : TypeId × Value → H) :
    ReturnsInHanded {} Tryz.checked os 10 .any (Rows.journalPlaysSpec.pre6 enc Tryz.prog Tryz.f10 Rows.journalPlaysRow.domain false) (Rows.journalPlaysSpec.post enc Tryz.prog Tryz.f10 false true false false) := by
  refine returnsInHanded_of_change (C := Tryz.checked) own started (by kernel_rfl) Tryz.func10
    (ChangeSpec.witness6 (enc := enc) (C := Tryz.checked) false ⟨#[], #[.agg #[.int .u8 0, .int .u8 0, .int .u8 0], .slice none 0 0], []⟩ 8 (by kernel_rfl) (by kernel_rfl) (by kernel_rfl) (by kernel_rfl)) ?_
  intro W base args ds gs before hval0 hW hcnd _
  have hval : ∀ (j : Nat) t v, Tryz.f10.params[j]? = some t → args[j]? = some v → Value.okWide Tryz.prog W .any base t v := hval0
  have hW' := hW
  obtain ⟨p, q, hA0, hV, rfl, hfz, hnd⟩ := hW
  have hA : DataW.TrodAll enc Tryz.prog W 0 (fun _ => true) true Tryz.f10.params.toList args.toList ds p := hA0
  rw [Tryz.params10] at hA hval
  obtain ⟨v0, vs0, d0, ds0, p0, q0, hargs, rfl, rfl, h0, r0⟩ := trodAll_cons hA
  obtain ⟨v1, vs1, d1, ds1, p1, q1, rfl, rfl, rfl, h1, r1⟩ := trodAll_cons r0
  obtain ⟨rfl, rfl, rfl⟩ := trodAll_nil r1
  obtain rfl : args = #[v0, v1] := by cases args; simp_all
  obtain ⟨rfl, rfl⟩ := trodVars_none hV
  have k0 := h0
  have lt0 : ∀ x ∈ p0, x.block < W.heap.size := by obtain ⟨m, hm⟩ := k0; exact DataW.trod_lt m _ _ _ hm
  obtain ⟨c0_0, c0_1, c0_2, _, _, _, _, rfl, e0_0, e0_1, e0_2⟩ := open_arr3 Tryz.underlying54 (by kernel_rfl) (by kernel_rfl) (hval 0 54 v0 rfl rfl) h0
  obtain ⟨a0_0, rfl, w0_0⟩ := trod_int1 Tryz.underlying5 e0_0
  obtain ⟨a0_0x, rfl⟩ := wf_u8 w0_0
  obtain ⟨a0_1, rfl, w0_1⟩ := trod_int1 Tryz.underlying5 e0_1
  obtain ⟨a0_1x, rfl⟩ := wf_u8 w0_1
  obtain ⟨a0_2, rfl, w0_2⟩ := trod_int1 Tryz.underlying5 e0_2
  obtain ⟨a0_2x, rfl⟩ := wf_u8 w0_2
  have k1 := h1
  have lt1 : ∀ x ∈ p1, x.block < W.heap.size := by obtain ⟨m, hm⟩ := k1; exact DataW.trod_lt m _ _ _ hm
  obtain ⟨ax1, lx1, cx1, rfl⟩ := okWide_slice Tryz.underlying110 (hval 1 110 v1 rfl rfl)
  obtain ⟨fu1, hf1⟩ := h1
  obtain ⟨ad1, cap1, l1, he1, s1⟩ := read_acts (v := .slice ax1 lx1 cx1) (hval 1 110 _ rfl rfl) hf1
  obtain ⟨rfl, rfl, rfl⟩ : ax1 = ad1 ∧ lx1 = l1.length ∧ cx1 = cap1 := by simpa only [Value.slice.injEq] using he1
  clear hA0 hval0
  refine (JournalPlays_walk a0_0x a0_1x a0_2x ax1 cx1 l1 s1 (w := W)).mono fun e W' ⟨he, bel⟩ => ?_
  subst he
  exact ⟨_, rfl, _, _, _, [], _, [], hW', trodAll_mk1 (shut_bool Tryz.underlying4 _), (trodAll_cons_mk (Below.trod laidOut (by kernel_rfl) (of_decide_eq_true (by kernel_rfl)) k0 bel lt0) (trodAll_cons_mk (Below.trod laidOut (by kernel_rfl) (of_decide_eq_true (by kernel_rfl)) k1 bel lt1) trodAll_mk0)), rfl, bel.frame _, fun h => by cases h⟩

theorem over : Rows.journalPlaysRow.holds Tryz.pinned (OpenSpec.ofChange Rows.journalPlaysSpec) :=
  OpenClaim.holds_of_wide 10 Tryz.f10 rfl rfl rfl rfl rfl rfl rfl ⟨rfl, rfl, rfl, rfl, rfl⟩ rfl rfl rfl rfl rfl (by kernel_rfl) Tryz.func10 (by kernel_rfl)
    (of_decide_eq_true (by kernel_rfl)) (by unfold Func.isWrapper; first | (rw [if_pos (by decide +kernel)]; kernel_rfl) | (rw [if_neg (by decide +kernel)]; exact ⟨rfl, rfl⟩))
    (fun os started H enc _ => lifted os started H enc)

/-- The statement. -/
theorem proved : Rows.JournalPlaysSaid := over
#print axioms proved
end Go.Proofs.YtnpdhidliaahbaaGreat.journalPlays
