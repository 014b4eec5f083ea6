/- 'Rows.ForksGrowSaid': for every input the law's Go text answers true and leaves its arguments as they were. No condition. -/
import Derived.Test.YtgjmeeiejcbjfaaGreatH01
import Derived.Test.YtgjmeeiejcbjfaaGreatH39
import Derived.Test.YtgjmeeiejcbjfaaGreatH41
namespace Go.Proofs.YtgjmeeiejcbjfaaGreat.forksGrow
set_option linter.unusedSimpArgs false
open Go Go.ChangeShapes Go.WideShapes Go.ChangeAt Go.RowKit
open Go.ChangeMaps (open_string shut_string)
set_option linter.unusedVariables false

set_option maxRecDepth 100000 in
theorem lifted (os : Os) (started : os.Started) (H : Type) (enc : TypeId × Value → H) :
    ReturnsInHanded {} Tryz.checked os 8 .any (Rows.forksGrowSpec.pre6 enc Tryz.prog Tryz.f8 Rows.forksGrowRow.domain false) (Rows.forksGrowSpec.post enc Tryz.prog Tryz.f8 false true false false) := by
  refine returnsInHanded_of_change (C := Tryz.checked) own started (by kernel_rfl) Tryz.func8
    (ChangeSpec.witness6 (enc := enc) (C := Tryz.checked) false ⟨#[], #[.slice none 0 0], []⟩ 8 (by kernel_rfl) (by kernel_rfl) (by kernel_rfl) (by kernel_rfl)) ?_
  intro W base args ds gs before hval0 hW hcnd _
  have hval : ∀ (j : Nat) t v, Tryz.f8.params[j]? = some t → args[j]? = some v → Value.okWide Tryz.prog W .any base t v := hval0
  have hW' := hW
  obtain ⟨p, q, hA0, hV, rfl, hfz, hnd⟩ := hW
  have hA : DataW.TrodAll enc Tryz.prog W 0 (fun _ => true) true Tryz.f8.params.toList args.toList ds p := hA0
  rw [Tryz.params8] at hA hval
  obtain ⟨v0, vs0, d0, ds0, p0, q0, hargs, rfl, rfl, h0, r0⟩ := trodAll_cons hA
  obtain ⟨rfl, rfl, rfl⟩ := trodAll_nil r0
  obtain rfl : args = #[v0] := by cases args; simp_all
  obtain ⟨rfl, rfl⟩ := trodVars_none hV
  have k0 := h0
  have lt0 : ∀ x ∈ p0, x.block < W.heap.size := by obtain ⟨m, hm⟩ := k0; exact DataW.trod_lt m _ _ _ hm
  obtain ⟨ax0, lx0, cx0, rfl⟩ := okWide_slice Tryz.underlying82 (hval 0 82 v0 rfl rfl)
  obtain ⟨fu0, hf0⟩ := h0
  obtain ⟨ad0, cap0, l0, he0, s0⟩ := read_steps (v := .slice ax0 lx0 cx0) (hval 0 82 _ rfl rfl) hf0
  obtain ⟨rfl, rfl, rfl⟩ : ax0 = ad0 ∧ lx0 = l0.length ∧ cx0 = cap0 := by simpa only [Value.slice.injEq] using he0
  clear hA0 hval0
  refine (ForksGrow_walk ax0 cx0 l0 s0 (w := W)).mono fun e W' ⟨he, bel⟩ => ?_
  subst he
  exact ⟨_, rfl, _, _, _, [], _, [], hW', trodAll_mk1 (shut_bool Tryz.underlying4 _), (trodAll_cons_mk (Below.trod laidOut (by kernel_rfl) (of_decide_eq_true (by kernel_rfl)) k0 bel lt0) trodAll_mk0), rfl, bel.frame _, fun h => by cases h⟩

theorem over : Rows.forksGrowRow.holds Tryz.pinned (OpenSpec.ofChange Rows.forksGrowSpec) :=
  OpenClaim.holds_of_wide 8 Tryz.f8 rfl rfl rfl rfl rfl rfl rfl ⟨rfl, rfl, rfl, rfl, rfl⟩ rfl rfl rfl rfl rfl (by kernel_rfl) Tryz.func8 (by kernel_rfl)
    (of_decide_eq_true (by kernel_rfl)) (by unfold Func.isWrapper; first | (rw [if_pos (by decide +kernel)]; kernel_rfl) | (rw [if_neg (by decide +kernel)]; exact ⟨rfl, rfl⟩))
    (fun os started H enc _ => lifted os started H enc)

/-- The statement. -/
theorem proved : Rows.ForksGrowSaid := over
#print axioms proved
end Go.Proofs.YtgjmeeiejcbjfaaGreat.forksGrow
