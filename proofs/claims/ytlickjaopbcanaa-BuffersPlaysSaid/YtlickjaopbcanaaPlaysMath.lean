/- BuffersPlays: what its walk needs. -/
import Derived.Test.YtlickjaopbcanaaDid
import Derived.Test.YtlickjaopbcanaaInList
namespace Go.Proofs.Ytlickjaopbcanaa
open Go Go.RowKit Bufs
variable {B : Nat} {w w' : World}

/-! ### All -/
def allTo (n j : Nat) : List Value := List.replicate j (.bool true) ++ List.replicate (n - j) (.bool false)
theorem allTo_length (n j : Nat) (h : j ≤ n) : (allTo n j).length = n := by simp [allTo]; omega
theorem allTo_set (n j : Nat) (h : j < n) : (allTo n j).set j (.bool true) = allTo n (j + 1) := by
  unfold allTo
  rw [List.set_append_right _ _ (by simp), List.length_replicate, Nat.sub_self, show n - j = (n - (j + 1)) + 1 by omega, List.replicate_succ, List.set_cons_zero, List.replicate_succ']
  simp
set_option maxRecDepth 100000 in
theorem all_any (n : Nat) (hn : 1 ≤ n ∧ n ≤ 4096) (w : World) : Calls Try.prog 42 #[.int .i64 n] w fun e w' => ∃ ad cap, e = .returned (.slice ad n cap) ∧ BoolsAt w' ad (List.replicate n true) ∧ Below w.heap.size w w' := by
  obtain ⟨ib, hib, hzb, hsb, hbb⟩ := info_parts info_bool
  have hmk : ∀ wx : World, (Instr.makeSlice 43 (.int .i64 (n : Int)) (.int .i64 (n : Int))).run Try.prog wx = .ok (.slice (some ⟨wx.heap.size, 0, none⟩) n n) (wx.alloc (.cells (allTo n 0).toArray 4)) := fun wx => by
    have hr := run_make (P := Try.prog) wx 43 4 ib (.bool false) Try.underlying43 hib hzb .i64 .i64 n n (by omega) (by omega) (by rw [hbb]; omega) (by omega)
    simpa [hsb, Value.cells, madeCells_one, allTo] using hr
  have hR0 : Hid (Row (w.alloc (.cells (allTo n 0).toArray 4)) w.heap.size 4 (allTo n 0)) := Lib.hid (Row.new w _ _ rfl)
  have hB0 : Hid (Below w.heap.size w (w.alloc (.cells (allTo n 0).toArray 4))) := Lib.hid ((Below.refl _ _).alloc (Nat.le_refl _) _)
  go_enter Try.func42, Try.ntmps42
  go_wp2_with fail
  clear hmk
  go_loopw [4] (fun q wr => ∃ j : Nat, j ≤ n ∧ q = .int .i64 j ∧ Hid (Row wr w.heap.size 4 (allTo n j)) ∧ Hid (Below w.heap.size w wr)) (fun q _ => n - (intOf q).toNat)
  case atStart => exact ⟨0, by omega, rfl, hR0, hB0⟩
  case round =>
    obtain ⟨j, hj, rfl, hr, hb⟩ := hrel
    by_cases hlt : j < n
    · have i1 : (j : Int) < (n : Int) := by omega
      have i0 : (0 : Int) ≤ (j : Int) := by omega
      have hl := allTo_length n j hj
      have hc := hr.out.cellAt j (List.getElem?_eq_getElem (by rw [hl]; exact hlt))
      have hf := hr.out.free j (by rw [hl]; exact hlt)
      generalize (allTo n j)[j]'(by rw [hl]; exact hlt) = old at hc
      clear hl
      go_wp2_with fail
      go_roundw
      case rel =>
        refine ⟨j + 1, by omega, by go_num, Lib.hid ?_, Lib.hid (hb.out.setCell (by dsimp only; omega) _)⟩
        have := hr.out.set j (.bool true)
        rw [allTo_set n j hlt] at this
        exact this
      case measure => simp [intOf]; omega
    · obtain rfl : j = n := by omega
      have hb2 : Hid (BoolsAt wr (some ⟨w.heap.size, 0, none⟩) (List.replicate j true)) := Lib.hid (fun i hi => ⟨w.heap.size, 0, rfl, by
        rw [List.length_replicate] at hi
        rw [Nat.zero_add, hr.out.cell i]
        simp [allTo, List.getD, hi]⟩)
      go_wp2_with fail
      go_ret
      exact ⟨_, _, rfl, hb2.out, hb.out⟩

/-! ### A list that is spoilt -/
/-- So many cells, whatever they hold. -/
def Slots (w : World) (B : Nat) (ad : Option Addr) (n : Nat) : Prop := ∀ k, k < n → ∃ g u, ad = some ⟨g, 0, none⟩ ∧ B ≤ g ∧ w.cell? ⟨g, k, none⟩ = some u ∧ w.frozen? ⟨g, k, none⟩ = false
theorem Slots.below {ad : Option Addr} {n : Nat} (h : Slots w B ad n) (hb : Below w.heap.size w w') : Slots w' B ad n := fun k hk => by
  obtain ⟨g, u, e, hg, h1, h2⟩ := h k hk
  have hlt := World.block_lt_of_cell? w _ h1
  exact ⟨g, u, e, hg, (hb.cell (p := ⟨g, k, none⟩) hlt).trans h1, (hb.frozen (p := ⟨g, k, none⟩) hlt).trans h2⟩
theorem Slots.mono {B' : Nat} {ad : Option Addr} {n : Nat} (h : Slots w B ad n) (hb : B' ≤ B) : Slots w B' ad n := fun k hk => by
  obtain ⟨g, u, e, hg, r⟩ := h k hk
  exact ⟨g, u, e, Nat.le_trans hb hg, r⟩
theorem Slots.set {ad : Option Addr} {p : Addr} {n : Nat} (h : Slots w B ad n) (u : Value) : Slots (w.setCell p u) B ad n := fun k hk => by
  obtain ⟨g, x, e, hg, h1, h2⟩ := h k hk
  have hf : (w.setCell p u).frozen? ⟨g, k, none⟩ = false := by rw [World.frozen?_setCell]; exact h2
  by_cases hjk : p = ⟨g, k, none⟩
  · subst hjk
    exact ⟨g, u, e, hg, World.cell?_setCell_same _ _ _ (by rw [h1]), hf⟩
  · exact ⟨g, x, e, hg, (World.cell?_setCell_other _ _ _ _ (fun e2 => hjk e2)).trans h1, hf⟩
theorem HeadAt.slots {ad : Option Addr} {c : Nat} {l : List Nat} (h : HeadAt w B (.slice ad l.length c) l) : Slots w B ad l.length := fun k hk => by
  rcases h with ⟨_, e⟩ | ⟨g, c', cur, e, hg, hh, hl, ht⟩
  · rw [e] at hk; exact absurd hk (Nat.not_lt_zero k)
  · injection e with e1 e2 e3
    have hkc : k < cur.size := by omega
    refine ⟨g, cur[k], e1, hg, ?_, by simp [World.frozen?, hh]⟩
    rw [cell_of_row w g k cur _ _ hh]; simp [hkc]
/-! ### Lists that are the same -/
theorem same_heads {B1 B2 : Nat} {v1 v2 : Value} {l : List Nat} (h1 : HeadAt w B1 v1 l) (h2 : w.ownsRow B2 3 1 v2 l.length (natVs l)) (hl : l.length ≤ 5000) : Calls Try.prog 31 #[v1, v2] w fun e w' => e = .returned (.bool true) ∧ Below w.heap.size w w' := by
  obtain ⟨a1, c1, rfl, i1⟩ := h1.form
  obtain ⟨a2, c2, rfl, _⟩ := own_opens h2
  have := sameInts_any a1 a2 c1 c2 _ _ i1 (intsIn_own h2) (by rw [List.length_map]; omega) (by rw [List.length_map]; omega)
  rwa [List.length_map, decide_eq_true rfl] at this
theorem same_owns {B1 B2 : Nat} {v1 v2 : Value} {l : List Nat} (h1 : w.ownsRow B1 3 1 v1 l.length (natVs l)) (h2 : w.ownsRow B2 3 1 v2 l.length (natVs l)) (hl : l.length ≤ 5000) : Calls Try.prog 31 #[v1, v2] w fun e w' => e = .returned (.bool true) ∧ Below w.heap.size w w' := by
  obtain ⟨a1, c1, rfl, _⟩ := own_opens h1
  obtain ⟨a2, c2, rfl, _⟩ := own_opens h2
  have := sameInts_any a1 a2 c1 c2 _ _ (intsIn_own h1) (intsIn_own h2) (by rw [List.length_map]; omega) (by rw [List.length_map]; omega)
  rwa [List.length_map, decide_eq_true rfl] at this
theorem in_owns {B1 : Nat} {v : Value} {l : List Nat} (h : w.ownsRow B1 3 1 v l.length (natVs l)) (hl : l.length ≤ 5000) (n : Int) : Calls Try.prog 29 #[v, .int .i64 n] w fun e w' => e = .returned (.bool (decide (n ∈ l.map fun (n : Nat) => (n : Int)))) ∧ w = w' := by
  obtain ⟨ad, c, rfl, _⟩ := own_opens h
  have := in_any ad c _ n (intsIn_own h) (by rw [List.length_map]; omega)
  rwa [List.length_map] at this
theorem so_dirty : soOf true false = PB.dirty := by funext x; simp [soOf]
theorem so_pinned : soOf false true = PB.pinned := by funext x; simp [soOf]
theorem has_in (l : PL) (n : Nat) (b : Int) : hasOf l n b = decide (b ∈ (blocksOf l (soOf false false) n).map fun (n : Nat) => (n : Int)) := by
  unfold hasOf blocksOf
  rw [Bool.eq_iff_iff]
  simp only [Bool.and_eq_true, decide_eq_true_eq, List.mem_map, List.mem_filter, List.mem_range]
  constructor
  · rintro ⟨⟨h1, h2⟩, h3⟩
    refine ⟨b.toNat, ⟨by omega, ?_⟩, by omega⟩
    obtain ⟨x, hx⟩ := Option.isSome_iff_exists.1 h3
    rw [hx]
    simp [soOf]
  · rintro ⟨m, ⟨h1, h2⟩, rfl⟩
    refine ⟨⟨by omega, by omega⟩, ?_⟩
    rw [Int.toNat_natCast]
    cases hg : Bufs.get l m with
    | none => rw [hg] at h2; simp at h2
    | some x => rfl

theorem getS_len (D : Dev) (l : PL) (most : Nat) (b : Int) : (getS D l most b).2.1.kept.length = D.kept.length := by
  unfold getS
  split
  · split
    · rfl
    · split <;> exact room_len _ _ _
  · rfl
theorem putS_len (D : Dev) (l : PL) (most : Nat) (b : Int) (data : ByteArray) (pin : Bool) : (Go.Proofs.Ytlickjaopbcanaa.putS D l most b data pin).2.1.kept.length = D.kept.length := by
  unfold Go.Proofs.Ytlickjaopbcanaa.putS
  split
  · split
    · rfl
    · split
      · rfl
      · split <;> exact room_len _ _ _
  · rfl
theorem does_len (D : Dev) (l : PL) (most : Nat) (x : ActC) (h : D.now.length = D.kept.length) : (doesS D l most x).2.1.kept.length = D.kept.length := by
  unfold doesS doesR
  split
  · exact getS_len _ _ _ _
  · split
    · exact putS_len _ _ _ _ _ _
    · split
      · rfl
      · split
        · rfl
        · split
          · exact outB_len _ _ _
          · split
            · exact sync_len _ _ _ _
            · split
              · rfl
              · split
                · exact D.flush_len h
                · exact Dev.write_len _ _ _
/-! ### The cache and the document's, side by side -/
variable {cb db most rc rd k B2 : Nat} {y : Lay} {z : RLay} {D D' : Dev} {l l' : PL} {v : Value}
theorem pair_did (hc : CS B w cb db y D' most l' (rown rc rd z v) k) (_h : RCD B2 w rc rd z D most l v) (hg : RGo B2 w w' rc rd z v D' most l') : ∃ v', CS B w' cb db y D' most l' (rown rc rd z v') k ∧ RCD B2 w' rc rd z D' most l' v' := by
  obtain ⟨v', h1, h2, h3⟩ := hg
  refine ⟨v', hc.more h2 (fun _ h => h) _ (fun j hj => ⟨(h1.lt j hj).2, ?_⟩), h1⟩
  exact (rown_mem hj).elim .inl (h3 j)
theorem rgo_below (h : RCD B2 w rc rd z D most l v) (hg : RGo B2 w w' rc rd z v D' most l') (hB : B ≤ B2) : Below B w w' := by
  obtain ⟨v', h1, h2, h3⟩ := hg
  exact ⟨h2.os, h2.tape, h2.output, h2.size, fun j hj => by
    by_cases hm : j ∈ rown rc rd z v
    · have := (h.lt j hm).1; omega
    · by_cases hw : j < w.heap.size
      · exact h2.block j hw hm
      · have := h.own; have := h.cells.lt; omega⟩

end Go.Proofs.Ytlickjaopbcanaa
