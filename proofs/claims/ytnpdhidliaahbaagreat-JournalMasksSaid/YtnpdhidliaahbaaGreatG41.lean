/- many: more steps than are gone through. A commit of one block. What the laws of the steps share. What the laws of the steps share, of worlds whose device turns. -/
import Derived.Test.YtnpdhidliaahbaaGreatG38
import Derived.Test.YtnpdhidliaahbaaGreatG37
import Derived.Test.YtnpdhidliaahbaaGreatG39
import Derived.BigQuiet
import Derived.Test.YtnpdhidliaahbaaGreatG40
import Derived.Test.YtnpdhidliaahbaaGreatG27
import Derived.Deep.CutBlock
set_option linter.unusedSimpArgs false
set_option linter.unusedVariables false
namespace Go.Proofs.YtnpdhidliaahbaaGreat
set_option linter.unusedVariables false
open Go Go.RowKit
/-- Is it more than is gone through? -/
def manyB (l : List Sys.Step) : Bool := (l.any fun x => decide (100 < x.change.length) || decide (100 < x.revoke.length)) || decide (30 < l.length)
theorem manyB_at {l : List Sys.Step} {j : Nat} (hj : j < l.length) (h : 100 < (l.getD j step0).change.length ∨ 100 < (l.getD j step0).revoke.length) : manyB l = true := by
  unfold manyB
  rw [Bool.or_eq_true]
  left
  rw [List.any_eq_true]
  refine ⟨l[j], List.getElem_mem hj, ?_⟩
  have e : l.getD j step0 = l[j] := by simp [List.getD, hj]
  rw [e] at h
  rcases h with h | h
  · simp [h]
  · simp [h]
theorem manyB_all {l : List Sys.Step} (h : ∀ i, i < l.length → ¬ 100 < (l.getD i step0).change.length ∧ ¬ 100 < (l.getD i step0).revoke.length) : manyB l = decide (30 < l.length) := by
  unfold manyB
  have : (l.any fun x => decide (100 < x.change.length) || decide (100 < x.revoke.length)) = false := by
    rw [List.any_eq_false]
    intro x hx
    obtain ⟨i, hi, rfl⟩ := List.mem_iff_getElem.1 hx
    have e : l.getD i step0 = l[i] := by simp [List.getD, hi]
    have := h i hi
    rw [e] at this
    simp [this.1, this.2]
  rw [this, Bool.false_or]
theorem manyB_len {l : List Sys.Step} (h : manyB l = false) : l.length ≤ 30 := by
  unfold manyB at h
  rw [Bool.or_eq_false_iff] at h
  have := h.2
  rw [decide_eq_false_iff_not] at this
  omega
set_option maxRecDepth 100000 in
set_option maxHeartbeats 4000000 in
theorem manysteps_any {ad : Option Addr} {cap : Nat} {l : List Sys.Step} (w : World) (h : StepsIn w (.slice ad l.length cap) l) : Calls Tryz.prog 38 #[.slice ad l.length cap] w fun e w' => e = .returned (.bool (manyB l)) ∧ Below w.heap.size w w' := by
  have hlen := h.len
  have H := Lib.hid h
  clear h
  go_enter Tryz.func38, Tryz.ntmps38
  go_wp2_with fail
  go_loopw [3] (fun q wr => ∃ j : Nat, j ≤ l.length ∧ q = .int .i64 (j : Int) ∧ Hid (Below w.heap.size w wr) ∧ Hid (∀ i, i < j → ¬ 100 < (l.getD i step0).change.length ∧ ¬ 100 < (l.getD i step0).revoke.length)) (fun q _ => l.length - (intOf q).toNat)
  case atStart => exact ⟨0, by omega, rfl, Lib.hid (Below.refl _ _), Lib.hid (fun i hi => absurd hi (Nat.not_lt_zero _))⟩
  case round =>
    obtain ⟨j, hj, rfl, hb, ha⟩ := hrel
    by_cases hlt : j < l.length
    · have i1 : (j : Int) < (l.length : Int) := by omega
      obtain ⟨g, off, vc, vr, rfl, c0, c1, c2, c3, c4, hs⟩ := (H.out.below hb.out).at j hlt
      obtain ⟨⟨vc', vr', he, hc, hr⟩, hl1, hl2⟩ := hs
      obtain ⟨rfl, rfl⟩ : vc = vc' ∧ vr = vr' := by simpa using he
      obtain ⟨ac, cc, rfl⟩ := hc.form
      obtain ⟨ar, cr, rfl⟩ := hr.form
      have MT := Lib.hid (fun h => manyB_at (l := l) (j := j) hlt h)
      have AL := Lib.hid (show (¬ 100 < (l.getD j step0).change.length ∧ ¬ 100 < (l.getD j step0).revoke.length) → ∀ i, i < j + 1 → ¬ 100 < (l.getD i step0).change.length ∧ ¬ 100 < (l.getD i step0).revoke.length from fun hn i hi => by
        by_cases e : i = j
        · subst e; exact hn
        · exact ha.out i (by omega))
      clear he hc hr c0 c3 c4
      generalize (l.getD j step0).change.length = n1 at *
      generalize (l.getD j step0).revoke.length = n2 at *
      by_cases h1 : 100 < n1
      · have i2 : (100 : Int) < (n1 : Int) := by omega
        have HM := Lib.hid (MT.out (.inl h1))
        go_wp2_with fail
        go_ret
        exact ⟨by rw [HM.out]; rfl, hb.out⟩
      · have i2 : ¬ (100 : Int) < (n1 : Int) := by omega
        by_cases h2 : 100 < n2
        · have i3 : (100 : Int) < (n2 : Int) := by omega
          have HM := Lib.hid (MT.out (.inr h2))
          go_wp2_with fail
          go_ret
          exact ⟨by rw [HM.out]; rfl, hb.out⟩
        · have i3 : ¬ (100 : Int) < (n2 : Int) := by omega
          have HA := Lib.hid (AL.out ⟨h1, h2⟩)
          go_wp2_with fail
          go_roundw
          case rel => exact ⟨j + 1, by omega, by go_num, hb, HA⟩
          case measure => simp [intOf]; omega
    · have i1 : ¬ (j : Int) < (l.length : Int) := by omega
      have HA := Lib.hid (manyB_all (l := l) (fun i hi => ha.out i (by omega)))
      by_cases h30 : 30 < l.length
      · have i2 : (30 : Int) < (l.length : Int) := by omega
        have HM := Lib.hid (HA.out.trans (decide_eq_true h30))
        go_wp2_with fail
        go_ret
        exact ⟨by rw [HM.out]; rfl, hb.out⟩
      · have i2 : ¬ (30 : Int) < (l.length : Int) := by omega
        have HM := Lib.hid (HA.out.trans (decide_eq_false h30))
        go_wp2_with fail
        go_ret
        exact ⟨by rw [HM.out]; rfl, hb.out⟩
section
variable {Bd db lb : Nat} {y : Lay} {g : Geo.G} {D : Dev} {V : LogV} {home want : List UInt8} {at_ q K : Nat} {l : List Jr.Txn} {w : World}
/-- One block is committed. -/
theorem commit_one {ad : Option Addr} {cap : Nat} (s : ByteArray) (hs : s.size = 128) (hD : DevAt Bd w db y D) (hL : LogAt lb db g V w) (hlb : lb ∉ devB db y) (ho : Sys.Ok g D V home want at_ q [] K) (ha : D.armed = false) (hK : K ≤ 100000000000) (hC : ChgsAt w (.slice ad 1 cap) [(g.dataAt, s)]) (hcap : 1 ≤ cap) :
    Calls Tryz.prog 19 #[.pointer (some ⟨lb, 0, none⟩), .agg #[.slice ad 1 cap, .slice none 0 0], .slice none 0 0] w fun e w' => e = .returned (.int .i64 0) ∧ Only (lb :: devB db y) w w' := by
  have hac := ho.dok.acts
  have hg := ho.may
  have hVf := ho.V
  have hpl := Jr.plc_of hg
  have hnum := ho.num
  have h0 := hg.ok.1
  unfold Geo.asked at h0
  obtain ⟨f1, f2, f3, f4⟩ := Sys.hb_facts hg (k := 0) (by omega)
  have f3' : ((Sys.hb g 0 : Nat) : Int) = g.dataAt := by simpa using f3
  rw [f3'] at f4
  have hV : V = ⟨at_ % Jr.plc g, 0, q, 0⟩ := by
    rw [hVf]
    show LogV.mk ((at_ + 0) % Jr.plc g) 0 (q + 0) 0 = _
    rw [Nat.add_zero, Nat.add_zero]
  have hlt0 : at_ % Jr.plc g < Jr.plc g := Nat.mod_lt _ (by omega)
  have hq : q ≤ K + 1 := hnum
  have ht : Jr.Ok (Geo.home g) ⟨[(g.dataAt, s)], []⟩ := ⟨⟨fun b hb => by rw [List.mem_singleton.1 hb]; exact f4, List.pairwise_singleton _ _⟩, ⟨(fun b hb => by cases hb), List.Pairwise.nil⟩, fun c hc => by rw [List.mem_singleton.1 hc]; exact hs, (fun b hb => by cases hb)⟩
  have hsz : Jr.size ⟨[(g.dataAt, s)], []⟩ = 3 := by unfold Jr.size Jr.cdiv; simp
  have hall : Jr.All D (fun m => True ∧ Jr.Stand g m at_ q []) := ho.all.imp fun m hm => ⟨trivial, hm.2⟩
  have hsafe := Jr.commit_safe (P := fun _ => True) (place := at_ % Jr.plc g) (data := []) hg ho.dok.len ho.blocks hall (fun _ _ _ _ _ _ => trivial) ht (by rw [hsz]; show 0 + 3 ≤ _; omega) (by show q + 0 + 1 < _; omega) (by show at_ % Jr.plc g % Jr.plc g = (at_ + 0) % Jr.plc g; rw [Nat.mod_mod, Nat.add_zero]) (fun c hc => by cases hc)
  have hE : (Jr.doA (Jr.commitA g ⟨[(g.dataAt, s)], []⟩ q (at_ % Jr.plc g) []) D).2 = 0 := by
    rcases hsafe.1 with k | k
    · exact k
    · exact absurd k (Sys.unarmed _ ha).1
  have h := commit_any (V := V) w (.slice ad 1 cap) (.slice none 0 0) (.slice none 0 0) ⟨[(g.dataAt, s)], []⟩ [] hD hL hlb hg (by rw [hV]) (by rw [hV]; show at_ % Jr.plc g ≤ _; omega) (by rw [hV]; show q < _; omega) (by show D.acts + 0 + 1000 < _; omega) hC (.inl ⟨rfl, rfl⟩) (fun a n c e => by cases e; exact hcap) (fun a n c e => by cases e) (.inl ⟨rfl, rfl⟩) (by show 1 ≤ _; omega) (by show 0 ≤ _; omega) (by show 0 ≤ _; omega) (fun c hc => by rw [List.mem_singleton.1 hc]; exact ⟨⟨by show -9223372036854775808 ≤ g.dataAt; omega, by show g.dataAt ≤ _; omega⟩, by show s.size ≤ _; omega⟩) (fun b hb => by cases hb) (fun b hb => by cases hb) ht rfl (by rw [hV, hsz]; show 0 + 3 ≤ _; omega)
  rw [hV] at h
  dsimp only at h
  rw [hE] at h
  exact h.mono fun e w' hh => ⟨hh.1, hh.2.2.2⟩
end
end Go.Proofs.YtnpdhidliaahbaaGreat

namespace Go.Proofs.YtnpdhidliaahbaaGreat
set_option linter.unusedVariables false
open Go Go.RowKit
theorem step_E {Bd wb db lb : Nat} {y : Lay} {g : Geo.G} {D : Dev} {want : List UInt8} {K : Nat} {w : World} {e : Ending} {w' : World} (h : StepTold Bd wb db lb y g D want K w e w') :
    ∃ (next : List UInt8) (E : Int), next.length = 12 ∧ e = .returned (.tuple #[.agg (bcells next).toArray, .int .i64 E]) ∧ Only (wb :: lb :: devB db y) w w' ∧ ∃ D' V' home' want', SysAt Bd wb db lb y g D' V' home' want' w' ∧ ((E = 0 ∧ D'.armed = D.armed ∧ ∃ at_ q l, Sys.Ok g D' V' home' want' at_ q l K) ∨ (E = 61 ∧ D.armed = true ∧ want' = want ∧ Sys.Dead g D' want next K)) := by
  obtain ⟨h | h, ho⟩ := h
  · obtain ⟨next, h1, h2, D', V', home', want', a, q, l, h3, h4, h5⟩ := h
    exact ⟨next, 0, h1, h2, ho, D', V', home', want', h4, .inl ⟨rfl, h3, a, q, l, h5⟩⟩
  · obtain ⟨next, h1, h2, h3, D', V', home', h4, h5⟩ := h
    exact ⟨next, 61, h1, h2, ho, D', V', home', want, h4, .inr ⟨rfl, h3, rfl, h5⟩⟩
theorem wpList_load_segw {P : Program} {ops : Array Oper} {rest : List Oper} {o : Oper} {a : Act} {w : World} {Q : Exit → Act → World → Prop} (hw : Region.wanted o (yielded ops a.tmps) = true) (ty : TypeId) (x : Operand) (ho : o.op = .load ty x)
    (g off : Nat) (hx : a.eval x = .pointer (some ⟨g, off, none⟩)) (cs : List Value) (d : TypeDesc) (hg : ∀ j v, cs[j]? = some v → w.cell? ⟨g, off + j, none⟩ = some v)
    (hu : P.underlying ty = some d) (hd : (match d with | .struct _ | .array _ _ => true | _ => false) = true) (hi : (P.info? ty).map (·.size) = some cs.length)
    (h : wpList P ops Q rest (a.put o.dst (.agg cs.toArray)) w) : wpList P ops Q (o :: rest) a w :=
  wpList_step fun K hK => by
    rw [if_pos hw]
    exact wp_load_seg ty x ho g off hx cs d hg hu hd hi (hK _ _ h)
/-- A new row of zeros can be written whole. -/
theorem zeros_seg (w : World) (cs : List UInt8) (hc : cs.length = 12) : (∀ j, j < (bcells cs).length → ((w.alloc (.cells #[.int .u8 0, .int .u8 0, .int .u8 0, .int .u8 0, .int .u8 0, .int .u8 0, .int .u8 0, .int .u8 0, .int .u8 0, .int .u8 0, .int .u8 0, .int .u8 0] 64)).cell? ⟨w.heap.size, 0 + j, none⟩).isSome = true) ∧ (∀ j, j < (bcells cs).length → (w.alloc (.cells #[.int .u8 0, .int .u8 0, .int .u8 0, .int .u8 0, .int .u8 0, .int .u8 0, .int .u8 0, .int .u8 0, .int .u8 0, .int .u8 0, .int .u8 0, .int .u8 0] 64)).frozen? ⟨w.heap.size, 0 + j, none⟩ = false) ∧ Row ((w.alloc (.cells #[.int .u8 0, .int .u8 0, .int .u8 0, .int .u8 0, .int .u8 0, .int .u8 0, .int .u8 0, .int .u8 0, .int .u8 0, .int .u8 0, .int .u8 0, .int .u8 0] 64)).setCells w.heap.size 0 (bcells cs)) w.heap.size 64 (bcells cs) := by
  have hR : Row (w.alloc (.cells #[.int .u8 0, .int .u8 0, .int .u8 0, .int .u8 0, .int .u8 0, .int .u8 0, .int .u8 0, .int .u8 0, .int .u8 0, .int .u8 0, .int .u8 0, .int .u8 0] 64)) w.heap.size 64 (bcells (List.replicate 12 0)) := Row.new _ _ [.int .u8 0, .int .u8 0, .int .u8 0, .int .u8 0, .int .u8 0, .int .u8 0, .int .u8 0, .int .u8 0, .int .u8 0, .int .u8 0, .int .u8 0, .int .u8 0] rfl
  refine ⟨hR.segSome (by rw [bcells_length, bcells_length, hc]; decide), hR.segFree (by rw [bcells_length, bcells_length, hc]; decide), ?_⟩
  have h := hR.setCells (bcells cs) 0
  have e : setMany (bcells (List.replicate 12 0)) 0 (bcells cs) = bcells cs := by
    have := setMany_mid (bcells cs) (bcells (List.replicate 12 0)) [] [] (by rw [bcells_length, bcells_length, hc]; rfl)
    simpa using this
  rwa [e] at h
theorem whole_set {w : World} {b : Nat} {old cs : List UInt8} (h : Row w b 64 (bcells old)) (ho : old.length = 12) (hc : cs.length = 12) : (∀ j, j < (bcells cs).length → (w.cell? ⟨b, 0 + j, none⟩).isSome = true) ∧ (∀ j, j < (bcells cs).length → w.frozen? ⟨b, 0 + j, none⟩ = false) ∧ Row (w.setCells b 0 (bcells cs)) b 64 (bcells cs) := by
  refine ⟨h.segSome (by rw [bcells_length, bcells_length, hc, ho]; decide), h.segFree (by rw [bcells_length, bcells_length, hc, ho]; decide), ?_⟩
  have h1 := h.setCells (bcells cs) 0
  have e : setMany (bcells old) 0 (bcells cs) = bcells cs := by
    have := setMany_mid (bcells cs) (bcells old) [] [] (by rw [bcells_length, bcells_length, hc, ho])
    simpa using this
  rwa [e] at h1
theorem whole_seg {w : World} {b : Nat} {cs : List UInt8} (h : Row w b 64 (bcells cs)) : ∀ j v, (bcells cs)[j]? = some v → w.cell? ⟨b, 0 + j, none⟩ = some v := fun j v hv => by rw [Nat.zero_add]; exact h.cellAt j hv
theorem sys_lt {Bd wb db lb : Nat} {y : Lay} {g : Geo.G} {D : Dev} {V : LogV} {home want : List UInt8} {w : World} (h : SysAt Bd wb db lb y g D V home want w) : ∀ k ∈ wb :: lb :: devB db y, k < w.heap.size := fun k hk => by
  rcases List.mem_cons.1 hk with rfl | hk
  · exact h.row.lt
  rcases List.mem_cons.1 hk with rfl | hk
  · exact Row.lt h.log
  · have := h.dev.bounds
    simp [devB] at hk
    omega
end Go.Proofs.YtnpdhidliaahbaaGreat

namespace Go.Proofs.YtnpdhidliaahbaaGreat
set_option linter.unusedVariables false
open Go Go.RowKit
theorem sysC_set9 (g : Geo.G) (db lb db2 : Nat) (home want : List UInt8) : (sysC g db lb home want).set 9 (.pointer (some ⟨db2, 0, none⟩)) = sysC g db2 lb home want := rfl
theorem sysC_set10 (g : Geo.G) (db lb lb2 : Nat) (home want : List UInt8) : (sysC g db lb home want).set 10 (.pointer (some ⟨lb2, 0, none⟩)) = sysC g db lb2 home want := rfl
/-- What a call keeps of the arguments' memory. -/
theorem below_keep {w wr : World} {B : Nat} (hb : Below B w wr) (hB : w.heap.size ≤ B) {p : Addr} {u : Value} (hc : w.cell? p = some u) : wr.cell? p = some u := (hb.cell (Nat.lt_of_lt_of_le (World.block_lt_of_cell? w _ hc) hB)).trans hc
theorem below_cellsG {w wr : World} {B g : Nat} (hb : Below B w wr) (hg : w.heap.size ≤ g) (hB : B ≤ g) (vs : List Value) (o : Nat) (h0 : B ≤ w.heap.size) : Below B w (wr.setCells g o vs) :=
  hb.trans ((Only.setCells (S := [g]) (g := g) (by simp) vs o wr).below (Nat.le_trans h0 hb.size) (by intro k hk; rw [List.mem_singleton.1 hk]; exact hB))
end Go.Proofs.YtnpdhidliaahbaaGreat
