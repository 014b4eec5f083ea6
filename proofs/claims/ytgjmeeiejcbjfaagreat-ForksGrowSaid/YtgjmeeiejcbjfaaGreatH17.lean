/- Forks: the entries that lead to nodes. -/
import Derived.Test.YtgjmeeiejcbjfaaGreatH16
import Derived.Deep.RegionLaw
import Derived.Laws.AppendOwnNone
set_option linter.unusedSimpArgs false
set_option linter.unusedVariables false
namespace Go.Proofs.YtgjmeeiejcbjfaaGreat
open Go.Lib (hid)
open Go Go.RowKit
theorem below_boxN {B : Nat} {w w' : World} (h : Below B w w') (o : Obj) (hB : B ≤ w'.heap.size := by simp) : Below B w (w'.alloc o) := h.alloc hB o
theorem leads_take (L : List Node) (j : Nat) (h : j < L.length) : ecells (Forks.leads (L.take (j + 1))) = ecells (Forks.leads (L.take j)) ++ [.int .i64 (((L.getD j (0, [])).2.getD 0 (0, 0, 0)).1), .int .i64 (L.getD j (0, [])).1, .int .i64 0] := by
 rw [List.take_succ_eq_append_getElem h, Forks.leads, List.map_append, ecells_append]
 congr 1
 have e : L.getD j (0, []) = L[j] := by simp [List.getD, h]
 rw [e]
 rfl
set_option maxRecDepth 100000 in
set_option maxHeartbeats 4000000 in
theorem leads_any (v : Value) (L : List Node) (w : World) (h : NodesT w v L) (hn : ∀ x ∈ L, 1 ≤ x.2.length) (hm : ∀ x ∈ L, x.2.length ≤ 1000000) (hl : L.length ≤ 1000000) :
  Calls Tryz.prog 113 #[v] w fun e w' => ∃ v', e = .returned v' ∧ OwnEnts w.heap.size w' v' (Forks.leads L) ∧ Below w.heap.size w w' := by
 obtain ⟨i0', hi0, hz0, hz1, hz2⟩ := info_parts info_entry
 obtain ⟨ad, cap, rfl⟩ := h.form
 have H := hid h
 have HN := hid hn
 have HM := hid hm
 clear h hn hm
 go_enter Tryz.func113, Tryz.ntmps113
 go_wp2_with fail
 go_loopw [3, 8] (fun o q wr => ∃ (u : Value) (j : Nat), u = o ∧ q = .int .i64 j ∧ j ≤ L.length ∧ Hid (OwnEnts w.heap.size wr u (Forks.leads (L.take j))) ∧ Hid (Below w.heap.size w wr)) (fun _ q _ => L.length - (intOf q).toNat)
 case atStart => exact ⟨_, 0, rfl, rfl, by omega, hid (World.ownsRow_nil _ _ _ _), hid (Below.refl _ _)⟩
 case round =>
  obtain ⟨u, j, rfl, rfl, hj, ho, hb⟩ := hrel
  by_cases hlt : j < L.length
  ·have i0 : (0 : Int) ≤ (j : Int) := by omega
   have i1 : (j : Int) < (L.length : Int) := by omega
   obtain ⟨g, off, au, cu, rfl, c0w, c1w, hE⟩ := H.out.cellsAt j hlt
   have hgw : g < w.heap.size := World.block_lt_of_cell? _ _ c0w
   have c0 := (hb.out.cell (p := ⟨g, off + j * 2, none⟩) hgw).trans c0w
   have c1 := (hb.out.cell (p := ⟨g, off + j * 2 + 1, none⟩) hgw).trans c1w
   clear c0w c1w
   have hmem : L.getD j (0, []) ∈ L := by
    rw [List.getD, List.getElem?_eq_getElem hlt]; exact List.getElem_mem _
   have hx1 := HN.out _ hmem
   have hnx := hid (leads_take L j hlt)
   have hll : (Forks.leads (L.take j)).length = j := by simp [Forks.leads]; omega
   have hbz := hb.out.size
   generalize L.getD j (0, []) = x at *
   obtain ⟨xb, xl⟩ := x
   dsimp only at *
   clear hmem
   have k1 : (0 : Int) < (xl.length : Int) := by omega
   obtain ⟨hll2, g2, off2, e2, d0, d1, d2⟩ := hE.ext.cells 0 hx1
   subst e2
   clear hll2 d1 d2
   rw [Nat.zero_mul, Nat.add_zero] at d0
   have hg2w : g2 < w.heap.size := World.block_lt_of_cell? _ _ d0
   have hg2 : g2 < wr.heap.size := by omega
   generalize (xl.getD 0 (0, 0, 0)).1 = y at *
   have x0 : (wr.alloc (.cells #[.int .i64 xb, .slice (some ⟨g2, off2, none⟩) xl.length cu] 131)).cell? ⟨wr.heap.size, 0, none⟩ = some (.int .i64 xb) := box_cell _ _ _ _
   have x1 : (wr.alloc (.cells #[.int .i64 xb, .slice (some ⟨g2, off2, none⟩) xl.length cu] 131)).cell? ⟨wr.heap.size, 1, none⟩ = some (.slice (some ⟨g2, off2, none⟩) xl.length cu) := box_cell _ _ _ _
   have d0' : (wr.alloc (.cells #[.int .i64 xb, .slice (some ⟨g2, off2, none⟩) xl.length cu] 131)).cell? ⟨g2, off2, none⟩ = some (.int .i64 y) := (((Below.refl wr.heap.size wr).alloc (Nat.le_refl _) _).cell (p := ⟨g2, off2, none⟩) hg2).trans ((hb.out.cell (p := ⟨g2, off2, none⟩) hg2w).trans d0)
   have hb1 := hid (hb.out.alloc hbz (.cells #[.int .i64 xb, .slice (some ⟨g2, off2, none⟩) xl.length cu] 131))
   have ho1 := hid (ho.out.below ((Below.refl _ _).alloc (Nat.le_refl _) (.cells #[.int .i64 xb, .slice (some ⟨g2, off2, none⟩) xl.length cu] 131)))
   have hY : wr.heap.size < (wr.alloc (.cells #[.int .i64 xb, .slice (some ⟨g2, off2, none⟩) xl.length cu] 131)).heap.size := by simp
   have hgY : g2 < (wr.alloc (.cells #[.int .i64 xb, .slice (some ⟨g2, off2, none⟩) xl.length cu] 131)).heap.size := by simp; omega
   have hwY : w.heap.size ≤ (wr.alloc (.cells #[.int .i64 xb, .slice (some ⟨g2, off2, none⟩) xl.length cu] 131)).heap.size := by simp; omega
   have D0 := hid d0
   clear hE ho hb d0
   have hYb := heap_alloc_new wr (.cells #[.int .i64 xb, .slice (some ⟨g2, off2, none⟩) xl.length cu] 131)
   generalize xl.length = xn at *
   have k2 : 0 < xn := by omega
   go_wp2_with fail
   generalize wr.alloc _ = wx at *
   generalize wr.heap.size = Y at *
   have hone := ecells_one [(y, xb, (0 : Int))]
   have bA : Below wx.heap.size wx ((wx.alloc (.cells #[.int .i64 y, .int .i64 xb, .int .i64 0] 31)).drew) := (below_boxN (Below.refl _ _) _ (Nat.le_refl _)).drew
   have b0 : Below wx.heap.size wx wx.drew := (Below.refl _ _).drew
   have G := hid (show (((wx.alloc (.cells #[.int .i64 y, .int .i64 xb, .int .i64 0] 31)).drew)).ownsRow w.heap.size 31 3 u j (ecells (Forks.leads (L.take j))) from by
    have := ho1.out.below bA
    unfold OwnEnts at this
    rwa [hll] at this)
   have NN := hid (show ∀ jj uu, [Value.int .i64 y, .int .i64 xb, .int .i64 0][jj]? = some uu → (((wx.alloc (.cells #[.int .i64 y, .int .i64 xb, .int .i64 0] 31)).drew)).cell? ((⟨wx.heap.size, 0, none⟩ : Addr).add jj) = some uu from fun jj uu hjj => by
    have hadd : (⟨wx.heap.size, 0, none⟩ : Addr).add jj = ⟨wx.heap.size, jj, none⟩ := by unfold Addr.add; split <;> simp_all
    rw [hadd]
    exact (World.cell?_alloc_at (w := wx) _ _ _ jj rfl).trans (by simpa using hjj))
   have HYB := hid (show ((wx.alloc (.cells #[.int .i64 y, .int .i64 xb, .int .i64 0] 31)).drew).heap[Y]? = _ from (bA.block _ hY).trans hYb)
   have hown0 : Hid (∀ k, u.ownBlock = some k → w.heap.size ≤ k) := hid (fun k hk => (World.ownsRow.lt G.out k hk).1)
   have HBA : Hid (Below w.heap.size w ((wx.alloc (.cells #[.int .i64 y, .int .i64 xb, .int .i64 0] 31)).drew)) := hid (hb1.out.trans (bA.mono hwY))
   have KEEP : Hid (∀ wz, Below wx.heap.size wx wz → wz.cell? ⟨Y, 0, none⟩ = some (.int .i64 xb) ∧ wz.cell? ⟨Y, 1, none⟩ = some (.slice (some ⟨g2, off2, none⟩) xn cu) ∧ wz.cell? ⟨g2, off2, none⟩ = some (.int .i64 y)) := hid (fun wz hz => ⟨(hz.cell (p := ⟨Y, 0, none⟩) hY).trans x0, (hz.cell (p := ⟨Y, 1, none⟩) hY).trans x1, (hz.cell (p := ⟨g2, off2, none⟩) hgY).trans d0'⟩)
   have HY5 : Hid (∀ (w5 : World) (g5 c5 : Nat), World.grownBy ((wx.alloc (.cells #[.int .i64 y, .int .i64 xb, .int .i64 0] 31)).drew) w5 u.ownBlock → Below w.heap.size w w5 → w5.cell? ⟨Y, 0, none⟩ = some (.int .i64 xb) ∧ w5.cell? ⟨Y, 1, none⟩ = some (.slice (some ⟨g2, off2, none⟩) xn cu) ∧ w5.cell? ⟨g2, off2, none⟩ = some (.int .i64 y)) := hid (fun w5 g5 c5 hgrow B5 => by
    have X5 := kept_other G.out hgrow HYB.out (by decide)
    exact ⟨cell_of_row w5 Y 0 _ _ _ X5, cell_of_row w5 Y 1 _ _ _ X5, (B5.cell (p := ⟨g2, off2, none⟩) hg2w).trans D0.out⟩)
   clear ho1
   go_region_held3 (fun w' => w'.cell? ⟨Y, 0, none⟩ = some (.int .i64 xb) ∧ w'.cell? ⟨Y, 1, none⟩ = some (.slice (some ⟨g2, off2, none⟩) xn cu) ∧ w'.cell? ⟨g2, off2, none⟩ = some (.int .i64 y))
    (first | (refine KEEP.out _ ?_; assumption) | exact ⟨y50, y51, y52⟩)
    ((refine step_append_lies _ (by rfl) _ _ _ (by rfl) w.heap.size 31 i0' (.agg #[.int .i64 0, .int .i64 0, .int .i64 0]) 3 24 Tryz.underlying22 hi0 hz0 hz1 hz2 rfl (by omega) u j _ (by rfl) G.out ⟨wx.heap.size, 0, none⟩ 1 1 [.int .i64 y, .int .i64 xb, .int .i64 0] (by rfl) (by rfl) NN.out hone (by omega) (by unfold maxLen; omega) (by omega) (by simp; omega) (wx.heap.size + 1) (by simp) ?_; intro g5 c5 w5 hown hgrow hat hlt5; have B5 : Below w.heap.size w w5 := HBA.out.grown hgrow (by simp; omega) (fun k hk => hown0.out k hk); have Y5 := HY5.out w5 g5 c5 hgrow B5; obtain ⟨y50, y51, y52⟩ := Y5))
   have B5 := hid B5
   have O5 : Hid (OwnEnts w.heap.size w5 (.slice (some ⟨g5, 0, none⟩) (j + 1) c5) (Forks.leads (L.take (j + 1)))) := hid (by
    unfold OwnEnts
    have e : (Forks.leads (L.take (j + 1))).length = j + 1 := by simp [Forks.leads]; omega
    rw [e, hnx.out]; exact hown)
   clear hown hgrow NN G KEEP HBA hat hlt5 y50 y51 y52
   go_wp2_with fail
   go_roundw
   case rel => exact ⟨_, j + 1, rfl, by go_num, by omega, O5, B5⟩
   case measure => simp [intOf]; omega
  ·obtain rfl : j = L.length := by omega
   have ho' := ho.out
   rw [List.take_length] at ho'
   have HO := hid ho'
   clear ho' ho
   go_wp2_with fail
   go_ret
   exact ⟨_, rfl, HO.out, hb.out⟩
end Go.Proofs.YtgjmeeiejcbjfaaGreat
namespace Go.Proofs.YtgjmeeiejcbjfaaGreat.Forks
open Go.Lib (hid)
open Go Go.RowKit
def Fed (L : List Node) : Prop := ∀ n ∈ L, 1 ≤ n.2.length ∧ n.2.length ≤ 10
theorem Fed.len {L : List Node} (h : Fed L) : L.length ≤ lens L := by
 induction L with
 | nil => simp [lens]
 | cons n L ih =>
  have h1 := (h n (by simp)).1
  have h2 := ih (fun x hx => h x (by simp [hx]))
  simp only [List.length_cons, lens]
  omega
theorem Fed.take {L : List Node} (h : Fed L) (k : Nat) : Fed (L.take k) := fun n hn => h n (List.mem_of_mem_take hn)
theorem Fed.drop {L : List Node} (h : Fed L) (k : Nat) : Fed (L.drop k) := fun n hn => h n (List.mem_of_mem_drop hn)
theorem Fed.append {L M : List Node} (h : Fed L) (h' : Fed M) : Fed (L ++ M) := fun n hn => (List.mem_append.1 hn).elim (h n) (h' n)
theorem Fed.nil : Fed [] := fun n hn => by cases hn
theorem cuts0_ok (old : List Node) (want : EL) : CutsOk old want (cuts0 old want) := by
 unfold cuts0
 dsimp only
 obtain ⟨h1, h2⟩ := preN_le old want
 obtain ⟨h3, h4⟩ := sufN_le (old.drop (preN old want)).reverse (want.drop (lens (old.take (preN old want))))
 rw [List.length_reverse, List.length_drop] at h3
 rw [List.length_drop] at h4
 generalize hs : sufN (old.drop (preN old want)).reverse (want.drop (lens (old.take (preN old want)))) = s at *
 have e : ((old.drop (preN old want)).reverse).take s = (old.drop (old.length - s)).reverse := by
  rw [List.take_reverse, List.length_drop, List.drop_drop]
  congr 2
  omega
 have er : ∀ l : List Node, lens l.reverse = lens l := by
  intro l
  induction l with
  | nil => rfl
  | cons a l ih => rw [List.reverse_cons, lens_append, ih]; simp [lens]; omega
 rw [e, er] at h4
 exact ⟨by dsimp only; omega, by dsimp only; omega, by dsimp only; omega, rfl, by dsimp only; omega⟩
theorem parted_len (l : EL) : (parted 10 l).length = (l.length + 10 - 1) / 10 := by
 unfold parted
 exact partN_len _ _
theorem parted_fed (l : EL) : ∀ p ∈ parted 10 l, 1 ≤ p.length ∧ p.length ≤ 10 := by
 intro p hp
 unfold parted at hp
 exact partN_bounds _ l 1 10 (by omega) (by omega) p hp
theorem nameN_fed {bs : List Int} {m : Nat} {P : List EL} (h : ∀ p ∈ P, 1 ≤ p.length ∧ p.length ≤ 10) : Fed (nameN bs m P).1 := by
 intro n hn
 have h1 : n.2 ∈ (nameN bs m P).1.map (fun n => n.2) := List.mem_map.2 ⟨n, hn, rfl⟩
 rw [nameN_parts] at h1
 exact h _ h1
theorem level_cuts (old : List Node) (want : EL) : CutsOk old want (cuts1 old (cuts0 old want)) := cuts1_ok (cuts0_ok old want)
theorem mid_len {old : List Node} {want : EL} {c : Cuts} (h : CutsOk old want c) : ((want.take c.to_).drop c.from_).length = c.to_ - c.from_ := by
 have := h.tl
 rw [List.length_drop, List.length_take]
 omega
theorem level_fed {old : List Node} (ho : Fed old) (want : EL) (m : Nat) : Fed (level old want m).1 :=
 ((ho.take _).append (nameN_fed (parted_fed _))).append (ho.drop _)
theorem level_len {old : List Node} (ho : Fed old) (want : EL) (m : Nat) : (level old want m).1.length ≤ want.length := by
 have hc := level_cuts old want
 have h1 := (ho.take (cuts1 old (cuts0 old want)).first).len
 have h2 := (ho.drop (cuts1 old (cuts0 old want)).last).len
 have h3 := mid_len hc
 unfold level levelC
 rw [List.length_append, List.length_append, nameN_len, parted_len, h3]
 have := hc.tl
 have := hc.gf
 have := hc.gt
 omega
theorem level_m (old : List Node) (want : EL) (m : Nat) : (level old want m).2 ≤ m + want.length := by
 have hc := level_cuts old want
 have h3 := mid_len hc
 have h := nameN_le (((old.take (cuts1 old (cuts0 old want)).last).drop (cuts1 old (cuts0 old want)).first).map fun n => n.1) m (parted 10 ((want.take (cuts1 old (cuts0 old want)).to_).drop (cuts1 old (cuts0 old want)).from_))
 unfold level levelC
 dsimp only
 rw [parted_len, h3] at h
 have := hc.tl
 omega
theorem level_new (want : EL) (m : Nat) : level [] want m = nameN [] m (parted 10 want) := by
 have e : cuts1 [] (cuts0 [] want) = ⟨0, 0, 0, want.length⟩ := by
  unfold cuts1 cuts0
  simp [preN, sufN, lens]
 unfold level levelC
 rw [e]
 simp
theorem level_new_len (want : EL) (m : Nat) : (level [] want m).1.length = (want.length + 10 - 1) / 10 := by rw [level_new, nameN_len, parted_len]
theorem level_new_m (want : EL) (m : Nat) : (level [] want m).2 ≤ m + (want.length + 10 - 1) / 10 := by
 rw [level_new]
 have := nameN_le [] m (parted 10 want)
 rwa [parted_len] at this
theorem leads_len (l : List Node) : (leads l).length = l.length := by simp [leads]
theorem upNew_fuel : ∀ (k k' : Nat) (root : EL) (m : Nat), root.length ≤ k → root.length ≤ k' → upNew k root m = upNew k' root m
 | 0, 0, _, _, _, _ => rfl
 | 0, k' + 1, root, m, h, _ => by
  rw [upNew, upNew, if_pos (by omega)]
 | k + 1, 0, root, m, _, h => by
  rw [upNew, upNew, if_pos (by omega)]
 | k + 1, k' + 1, root, m, h, h' => by
  rw [upNew, upNew]
  by_cases hr : root.length ≤ 4
  ·rw [if_pos hr, if_pos hr]
  ·rw [if_neg hr, if_neg hr]
   have e := level_new_len root m
   have e2 := leads_len (level [] root m).1
   rw [upNew_fuel k k' (leads (level [] root m).1) (level [] root m).2 (by omega) (by omega)]
def lvlAt (old : List (List Node)) (j : Nat) : List Node := old.getD j []
theorem upOld_step (old : List (List Node)) (j : Nat) (root : EL) (m : Nat) (h : j < old.length ∨ 4 < root.length) :
  upOld (old.drop j) root m = ((level (lvlAt old j) root m).1 :: (upOld (old.drop (j + 1)) (leads (level (lvlAt old j) root m).1) (level (lvlAt old j) root m).2).1, (upOld (old.drop (j + 1)) (leads (level (lvlAt old j) root m).1) (level (lvlAt old j) root m).2).2) := by
 rcases Nat.lt_or_ge j old.length with hj | hj
 ·have e : lvlAt old j = old[j] := by simp [lvlAt, List.getD, hj]
  rw [List.drop_eq_getElem_cons hj, upOld, e]
 ·have h4 : 4 < root.length := h.resolve_left (by omega)
  have e : lvlAt old j = [] := by simp [lvlAt, List.getD, hj]
  rw [List.drop_eq_nil_of_le hj, List.drop_eq_nil_of_le (by omega : old.length ≤ j + 1), e]
  obtain ⟨k, hk⟩ : ∃ k, root.length = k + 1 := ⟨root.length - 1, by omega⟩
  have e1 := level_new_len root m
  have e2 := leads_len (level [] root m).1
  rw [upOld, hk, upNew, if_neg (by omega), upOld, upNew_fuel k _ (leads (level [] root m).1) (level [] root m).2 (by omega) (Nat.le_refl _)]
theorem upOld_end (old : List (List Node)) (j : Nat) (root : EL) (m : Nat) (hj : old.length ≤ j) (h : root.length ≤ 4) : upOld (old.drop j) root m = ([], root, m) := by
 rw [List.drop_eq_nil_of_le hj, upOld]
 cases hk : root.length with
 | zero => rfl
 | succ k => rw [upNew, if_pos h]
structure OldOk (old : List (List Node)) : Prop where
 few : old.length ≤ 4
 fed : ∀ l ∈ old, Fed l
 len : ∀ l ∈ old, l.length ≤ 100000
theorem OldOk.at {old : List (List Node)} (h : OldOk old) (j : Nat) : Fed (lvlAt old j) ∧ (lvlAt old j).length ≤ 100000 := by
 rcases Nat.lt_or_ge j old.length with hj | hj
 ·have e : lvlAt old j = old[j] := by simp [lvlAt, List.getD, hj]
  rw [e]
  exact ⟨h.fed _ (List.getElem_mem hj), h.len _ (List.getElem_mem hj)⟩
 ·have e : lvlAt old j = [] := by simp [lvlAt, List.getD, hj]
  rw [e]
  exact ⟨.nil, by simp⟩
theorem OldOk.nil : OldOk [] := ⟨by simp, (fun l h => by cases h), (fun l h => by cases h)⟩
structure UpInv (old : List (List Node)) (row : EL) (m0 j : Nat) (LV : List (List Node)) (root : EL) (m : Nat) : Prop where
 eq : upOld old row m0 = (LV ++ (upOld (old.drop j) root m).1, (upOld (old.drop j) root m).2)
 len : LV.length = j
 fed : ∀ l ∈ LV, Fed l
 lens : ∀ l ∈ LV, l.length ≤ 100000
 rl : root.length ≤ 100000
 cnt : m + 2 * root.length + 100000 * (old.length - j) ≤ 600000 + m0
 jb : j + root.length ≤ 100000 + old.length ∨ j ≤ old.length
theorem UpInv.start {old : List (List Node)} (h : OldOk old) (row : EL) (m0 : Nat) (hr : row.length ≤ 100000) : UpInv old row m0 0 [] row m0 := by
 have := h.few
 exact ⟨by simp, rfl, (fun l h => by cases h), (fun l h => by cases h), hr, by omega, .inr (Nat.zero_le _)⟩
theorem UpInv.step {old : List (List Node)} (h : OldOk old) {row : EL} {m0 j : Nat} {LV : List (List Node)} {root : EL} {m : Nat} (hi : UpInv old row m0 j LV root m) (hj : j < old.length ∨ 4 < root.length) :
  UpInv old row m0 (j + 1) (LV ++ [(level (lvlAt old j) root m).1]) (leads (level (lvlAt old j) root m).1) (level (lvlAt old j) root m).2 := by
 obtain ⟨h1, h2, h3, h4, h5, h6, h6b⟩ := hi
 have hf := (h.at j).1
 have hl := level_len hf root m
 have hm := level_m (lvlAt old j) root m
 refine ⟨?_, by simp [h2], fun l hl' => ?_, fun l hl' => ?_, by rw [leads_len]; omega, ?_, ?_⟩
 ·rw [h1, upOld_step old j root m hj]
  simp
 ·rcases List.mem_append.1 hl' with h | h
  ·exact h3 l h
  ·rw [List.mem_singleton.1 h]; exact level_fed hf root m
 ·rcases List.mem_append.1 hl' with h | h
  ·exact h4 l h
  ·rw [List.mem_singleton.1 h]; omega
 ·rw [leads_len]
  rcases Nat.lt_or_ge j old.length with hj2 | hj2
  ·omega
  ·have e : lvlAt old j = [] := by simp [lvlAt, List.getD, hj2]
   have h7 : 4 < root.length := hj.resolve_left (by omega)
   rw [e] at hm hl ⊢
   have e1 := level_new_len root m
   have e2 := level_new_m root m
   omega
 ·rw [leads_len]
  rcases Nat.lt_or_ge j old.length with hj2 | hj2
  ·exact .inr hj2
  ·have e : lvlAt old j = [] := by simp [lvlAt, List.getD, hj2]
   have h7 : 4 < root.length := hj.resolve_left (by omega)
   rw [e] at hm hl ⊢
   have e1 := level_new_len root m
   omega
theorem UpInv.j_le {old : List (List Node)} {row : EL} {m0 j : Nat} {LV : List (List Node)} {root : EL} {m : Nat} (hi : UpInv old row m0 j LV root m) (h : old.length ≤ 4) : j ≤ 100004 := by
 rcases hi.jb with h | h <;> omega
theorem UpInv.m_le {old : List (List Node)} {row : EL} {m0 j : Nat} {LV : List (List Node)} {root : EL} {m : Nat} (hi : UpInv old row m0 j LV root m) (h0 : m0 = 0) : m ≤ 600000 := by
 have := hi.cnt
 omega
def upLeft (old : List (List Node)) (j n : Nat) : Nat := 100001 * (old.length - j) + n
theorem UpInv.done {old : List (List Node)} {row : EL} {m0 j : Nat} {LV : List (List Node)} {root : EL} {m : Nat} (hi : UpInv old row m0 j LV root m) (hj : old.length ≤ j) (h : root.length ≤ 4) : upOld old row m0 = (LV, root, m) := by
 rw [hi.eq, upOld_end old j root m hj h]
 simp
theorem upLeft_lt {old : List (List Node)} (h : OldOk old) {j : Nat} {root : EL} {m : Nat} (hr : root.length ≤ 100000) (hj : j < old.length ∨ 4 < root.length) :
  upLeft old (j + 1) (leads (level (lvlAt old j) root m).1).length < upLeft old j root.length := by
 have hf := (h.at j).1
 have hl := level_len hf root m
 unfold upLeft
 rw [leads_len]
 rcases Nat.lt_or_ge j old.length with hj2 | hj2
 ·omega
 ·have e : lvlAt old j = [] := by simp [lvlAt, List.getD, hj2]
  have h7 : 4 < root.length := hj.resolve_left (by omega)
  rw [e] at hl ⊢
  have e1 := level_new_len root m
  omega
theorem trim_nil (LV : List (List Node)) (t : Nat) (ht : t < LV.length) (root : EL) (h : LV.getD t [] = []) : trimR (LV.take (t + 1)).reverse root = trimR (LV.take t).reverse root := by
 have e : LV.getD t [] = LV[t] := by simp [List.getD, ht]
 rw [List.take_succ_eq_append_getElem ht, List.reverse_append, ← e, h]
 rfl
theorem trim_one (LV : List (List Node)) (t : Nat) (ht : t < LV.length) (root : EL) (n : Node) (h : LV.getD t [] = [n]) (hn : n.2.length ≤ 4) : trimR (LV.take (t + 1)).reverse root = trimR (LV.take t).reverse n.2 := by
 have e : LV.getD t [] = LV[t] := by simp [List.getD, ht]
 rw [List.take_succ_eq_append_getElem ht, List.reverse_append, ← e, h]
 show trimR ([n] :: (LV.take t).reverse) root = _
 rw [trimR, if_pos hn]
theorem trim_stop (LV : List (List Node)) (t : Nat) (ht : t < LV.length) (root : EL) (h0 : (LV.getD t []).length ≠ 0) (h1 : ¬ ((LV.getD t []).length = 1 ∧ ((LV.getD t []).getD 0 (0, [])).2.length ≤ 4)) : trimR (LV.take (t + 1)).reverse root = ((LV.take (t + 1)).reverse, root) := by
 have e : LV.getD t [] = LV[t] := by simp [List.getD, ht]
 rw [List.take_succ_eq_append_getElem ht, List.reverse_append, ← e]
 generalize LV.getD t [] = l at *
 match l, h0, h1 with
 | [], h0, _ => simp at h0
 | [n], _, h1 =>
  show trimR ([n] :: (LV.take t).reverse) root = _
  rw [trimR, if_neg (show ¬ n.2.length ≤ 4 from fun h => h1 ⟨rfl, h⟩)]
  rfl
 | a :: b :: l, _, _ => rfl
theorem trim_end (LV : List (List Node)) (root : EL) : trimR (LV.take 0).reverse root = ([], root) := rfl
end Go.Proofs.YtgjmeeiejcbjfaaGreat.Forks
namespace Go.Proofs.YtgjmeeiejcbjfaaGreat
open Go.Lib (hid)
open Go Go.RowKit
def sliceLen : Option Value → Nat
 | some (.slice _ n _) => n
 | _ => 0
theorem info_lvls : (Tryz.prog.info? 128).map (fun i => (i.zero, i.size, i.bytes)) = some (some (.slice none 0 0), 1, 24) := by kernel_rfl
def NodesC (w : World) (v : Value) (L : List Node) : Prop := NodesT w v L ∧ ∀ ad n c, v = .slice ad n c → c ≤ 9223372036854775807
theorem OwnNodes.c {B : Nat} {w : World} {v : Value} {L : List Node} (h : OwnNodes B w v L) : NodesC w v L := by
 refine ⟨h.typed, fun ad n c e => ?_⟩
 obtain ⟨cs, ho, -⟩ := h
 subst e
 rcases ho.2 with ⟨h, -⟩ | ⟨g, cap, cur, h, -, -, -, hc, -⟩
 ·cases h; omega
 ·cases h; unfold maxLen at hc; omega
theorem NodesC.keep {w w' : World} {v : Value} {L : List Node} (h : NodesC w v L) (h1 : KeepT 131 w w') (h2 : KeepE w w') : NodesC w' v L := ⟨h.1.keep h1 h2, h.2⟩
theorem NodesC.nil (w : World) : NodesC w (.slice none 0 0) [] := ⟨.inl ⟨rfl, rfl⟩, fun ad n c e => by cases e; omega⟩
def LvlCells (w : World) : List Value → List (List Node) → Prop
 | [], [] => True
 | a :: cs, l :: L => NodesC w a l ∧ LvlCells w cs L
 | _, _ => False
theorem LvlCells.keep {w w' : World} (h1 : KeepT 131 w w') (h2 : KeepE w w') : ∀ {cs : List Value} {L : List (List Node)}, LvlCells w cs L → LvlCells w' cs L
 | [], [], _ => trivial
 | [], _ :: _, h => h.elim
 | _ :: _, [], h => h.elim
 | _ :: _, _ :: _, h => ⟨h.1.keep h1 h2, LvlCells.keep h1 h2 h.2⟩
theorem LvlCells.length {w : World} : ∀ {cs : List Value} {L : List (List Node)}, LvlCells w cs L → cs.length = L.length
 | [], [], _ => rfl
 | [], _ :: _, h => h.elim
 | _ :: _, [], h => h.elim
 | _ :: _, _ :: _, h => by simp [LvlCells.length h.2]
theorem LvlCells.snoc {w : World} {u : Value} {l : List Node} (hu : NodesC w u l) : ∀ {cs : List Value} {L : List (List Node)}, LvlCells w cs L → LvlCells w (cs ++ [u]) (L ++ [l])
 | [], [], _ => ⟨hu, trivial⟩
 | [], _ :: _, h => h.elim
 | _ :: _, [], h => h.elim
 | _ :: _, _ :: _, h => ⟨h.1, LvlCells.snoc hu h.2⟩
theorem LvlCells.take {w : World} : ∀ {cs : List Value} {L : List (List Node)} (k : Nat), LvlCells w cs L → LvlCells w (cs.take k) (L.take k)
 | [], [], k, _ => by simp [LvlCells]
 | [], _ :: _, _, h => h.elim
 | _ :: _, [], _, h => h.elim
 | _ :: _, _ :: _, 0, _ => by simp [LvlCells]
 | _ :: _, _ :: _, k + 1, h => ⟨h.1, LvlCells.take k h.2⟩
theorem LvlCells.at {w : World} : ∀ {cs : List Value} {L : List (List Node)}, LvlCells w cs L → ∀ i, i < L.length → ∃ u, cs[i]? = some u ∧ NodesC w u (L.getD i [])
 | [], [], _, i, hi => by simp at hi
 | [], _ :: _, h, _, _ => h.elim
 | _ :: _, [], h, _, _ => h.elim
 | a :: cs, l :: L, h, 0, _ => ⟨a, rfl, h.1⟩
 | a :: cs, l :: L, h, i + 1, hi => by
  obtain ⟨u, h1, h2⟩ := LvlCells.at h.2 i (by simpa using hi)
  exact ⟨u, by simpa using h1, by simpa using h2⟩
theorem LvlCells.of {w : World} : ∀ {cs : List Value} {L : List (List Node)}, cs.length = L.length → (∀ i u, cs[i]? = some u → NodesC w u (L.getD i [])) → LvlCells w cs L
 | [], [], _, _ => trivial
 | [], _ :: _, h, _ => by simp at h
 | _ :: _, [], h, _ => by simp at h
 | a :: cs, l :: L, h, hc => ⟨hc 0 a rfl, LvlCells.of (by simpa using h) (fun i u hu => by have := hc (i + 1) u (by simpa using hu); simpa using this)⟩
def OwnLvls (B : Nat) (w : World) (v : Value) (LV : List (List Node)) : Prop := ∃ cs, w.ownsRow B 128 1 v LV.length cs ∧ LvlCells w cs LV
def LvlsT (w : World) (v : Value) (LV : List (List Node)) : Prop :=
 (v = .slice none 0 0 ∧ LV = []) ∨ ∃ (b off cap : Nat) (arr : Array Value) (fr : Nat × Nat) (cs : List Value), v = .slice (some ⟨b, off, none⟩) LV.length cap ∧ w.heap[b]? = some (.cells arr 128 fr) ∧ (∀ j u, cs[j]? = some u → arr[off + j]? = some u) ∧ LvlCells w cs LV
theorem LvlsT.keep {w w' : World} {v : Value} {LV : List (List Node)} (h : LvlsT w v LV) (h0 : KeepT 128 w w') (h1 : KeepT 131 w w') (h2 : KeepE w w') : LvlsT w' v LV := by
 rcases h with h | ⟨b, off, cap, arr, fr, cs, rfl, hb, hc, hn⟩
 ·exact .inl h
 ·exact .inr ⟨b, off, cap, arr, fr, cs, rfl, h0 _ _ _ hb, hc, hn.keep h1 h2⟩
theorem LvlsT.below {w w' : World} {v : Value} {LV : List (List Node)} (h : LvlsT w v LV) (hb : Below w.heap.size w w') : LvlsT w' v LV := h.keep (.of_below hb) (.of_below hb) (.of_below hb)
theorem LvlsT.form {w : World} {v : Value} {LV : List (List Node)} (h : LvlsT w v LV) : ∃ ad cap, v = .slice ad LV.length cap := by
 rcases h with ⟨rfl, rfl⟩ | ⟨b, off, cap, arr, fr, cs, rfl, _⟩ <;> exact ⟨_, _, rfl⟩
theorem LvlsT.cellAt {w : World} {ad : Option Addr} {n cap : Nat} {LV : List (List Node)} (h : LvlsT w (.slice ad n cap) LV) (i : Nat) (hi : i < LV.length) : ∃ b off u, ad = some ⟨b, off, none⟩ ∧ w.cell? ⟨b, off + i, none⟩ = some u ∧ NodesC w u (LV.getD i []) := by
 rcases h with ⟨h, rfl⟩ | ⟨b, off, c, arr, fr, cs, h, hb, hc, hn⟩
 ·simp at hi
 ·cases h
  obtain ⟨u, h1, h2⟩ := hn.at i hi
  exact ⟨b, off, u, rfl, by rw [cell_of_row w b _ _ _ _ hb]; exact hc _ _ h1, h2⟩
theorem OwnLvls.typed {B : Nat} {w : World} {v : Value} {LV : List (List Node)} (h : OwnLvls B w v LV) : LvlsT w v LV := by
 obtain ⟨cs, ho, hc⟩ := h
 rcases ho.2 with ⟨rfl, hn⟩ | ⟨g, cap, cur, rfl, hg, hh, h1, h2, h3, h4⟩
 ·exact .inl ⟨rfl, List.eq_nil_of_length_eq_zero hn⟩
 ·refine .inr ⟨g, 0, cap, cur, _, cs, rfl, hh, fun j u hu => ?_, hc⟩
  have hj : j < LV.length * 1 := by
   have := (List.getElem?_eq_some_iff.1 hu).1
   rw [hc.length] at this
   omega
  rw [Nat.zero_add]
  have e : (cur.toList.take (LV.length * 1))[j]? = some u := by rw [h4]; exact hu
  rw [List.getElem?_take, if_pos hj, Array.getElem?_toList] at e
  exact e
theorem OwnLvls.take {B : Nat} {w : World} {ad : Option Addr} {n cap : Nat} {LV : List (List Node)} (h : OwnLvls B w (.slice ad n cap) LV) (k : Nat) (hk : k ≤ LV.length) : OwnLvls B w (.slice ad k cap) (LV.take k) := by
 obtain ⟨cs, ho, hc⟩ := h
 have hl := hc.length
 have e : (LV.take k).length = k := by rw [List.length_take]; omega
 refine ⟨cs.take k, ⟨by rw [e, List.length_take]; omega, ?_⟩, hc.take k⟩
 rw [e]
 rcases ho.2 with ⟨h, hn⟩ | ⟨g, c, cur, h, hg, hh, h1, h2, h3, h4⟩
 ·cases h
  exact .inl ⟨by rw [show k = 0 by omega], by omega⟩
 ·cases h
  refine .inr ⟨g, cap, cur, rfl, hg, hh, by omega, h2, h3, ?_⟩
  rw [← h4, List.take_take]
  congr 1
  omega
theorem OwnLvls.cap {B : Nat} {w : World} {ad : Option Addr} {n cap : Nat} {LV : List (List Node)} (h : OwnLvls B w (.slice ad n cap) LV) : LV.length ≤ cap ∧ cap ≤ 9223372036854775807 := by
 obtain ⟨cs, ho, hc⟩ := h
 rcases ho.2 with ⟨h, hn⟩ | ⟨g, c, cur, h, hg, hh, h1, h2, h3, h4⟩
 ·cases h; omega
 ·cases h; unfold maxLen at h2; omega
theorem EntsAt.capOf {B : Nat} {w : World} {v : Value} {l : EL} (h : OwnEnts B w v l) : ∀ ad n c, v = .slice ad n c → n ≤ c ∧ c ≤ 9223372036854775807 := by
 intro ad n c e
 subst e
 rcases h.2 with ⟨h, -⟩ | ⟨g, cap, cur, h, -, -, h1, hc, -⟩
 ·cases h; omega
 ·cases h; unfold maxLen at hc; omega
theorem OnlyM.keepS {M : Nat} {w w' : World} {T S : TypeId} {cs : Array Value} {fr : Nat × Nat} (h : OnlyM M w w') (hM : w.heap[M]? = some (.cells cs S fr)) (hT : T ≠ S) : KeepT T w w' := fun b cs' fr' hb => by
 rw [h.block b (lt_of_block hb) (fun e => ?_)]
 ·exact hb
 subst e
 rw [hM] at hb
 cases hb
 exact hT rfl
structure ShapeSt (w0 : World) (M X Y : Nat) (w : World) (lv rv : Value) (LV : List (List Node)) (root : EL) (m : Nat) : Prop where
 x : w.heap[X]? = some (.cells #[.slice none 0 0, .slice none 0 0] 146 (0, 0))
 y : w.heap[Y]? = some (.cells #[lv, rv] 146 (0, 0))
 lvs : OwnLvls w0.heap.size w lv LV
 ents : EntsAt w rv root
 maker : MakerAt w M m
 only : OnlyM M w0 w
 loX : w0.heap.size ≤ X
 loY : w0.heap.size ≤ Y
 ne : X ≠ Y
variable {w0 w w' : World} {M X Y m : Nat} {lv rv : Value} {LV : List (List Node)} {root : EL}
theorem OwnLvls.keep {B : Nat} (h : OwnLvls B w lv LV) (h0 : KeepT 128 w w') (h1 : KeepT 131 w w') (h2 : KeepE w w') : OwnLvls B w' lv LV := by
 obtain ⟨cs, ho, hc⟩ := h
 exact ⟨cs, own_keepT ho h0, hc.keep h1 h2⟩
theorem OwnLvls.form {B : Nat} (h : OwnLvls B w lv LV) : ∃ ad cap, lv = .slice ad LV.length cap := h.typed.form
theorem OwnLvls.nil (w : World) (B : Nat) : OwnLvls B w (.slice none 0 0) [] := ⟨[], World.ownsRow_nil _ _ _ _, trivial⟩
theorem ShapeSt.step {m' : Nat} (h : ShapeSt w0 M X Y w lv rv LV root m) (ho : OnlyM M w w') (hm : MakerAt w' M m') : ShapeSt w0 M X Y w' lv rv LV root m' := by
 have k := fun T hT => ho.keep (T := T) h.maker hT
 exact ⟨k _ (by decide) _ _ _ h.x, k _ (by decide) _ _ _ h.y, h.lvs.keep (k _ (by decide)) (k _ (by decide)) (k _ (by decide)), h.ents.keep (k _ (by decide)), hm, h.only.trans ho, h.loX, h.loY, h.ne⟩
theorem ShapeSt.below (h : ShapeSt w0 M X Y w lv rv LV root m) (hb : Below w.heap.size w w') : ShapeSt w0 M X Y w' lv rv LV root m := h.step (.of_below hb) (h.maker.below hb)
theorem block_setCellS {w : World} {b : Nat} {cs : Array Value} {T : TypeId} {fr : Nat × Nat} (h : w.heap[b]? = some (.cells cs T fr)) (k : Nat) (u : Value) : (w.setCell ⟨b, k, none⟩ u).heap[b]? = some (.cells (cs.set! k u) T fr) := by
 have hlt := lt_of_block h
 have h' : w.heap[b] = .cells cs T fr := by simpa [Array.getElem?_eq_getElem hlt] using h
 show (w.heap.modify b _)[b]? = _
 rw [Array.getElem?_eq_getElem (by simpa using hlt), Array.getElem_modify_self, h']
 simp
theorem two_set0 {w : World} {Y : Nat} {a b u : Value} {T : TypeId} {fr : Nat × Nat} (h : w.heap[Y]? = some (.cells #[a, b] T fr)) : (w.setCell ⟨Y, 0, none⟩ u).heap[Y]? = some (.cells #[u, b] T fr) := by
 have := block_setCellS h 0 u
 simpa using this
theorem two_set1 {w : World} {Y : Nat} {a b u : Value} {T : TypeId} {fr : Nat × Nat} (h : w.heap[Y]? = some (.cells #[a, b] T fr)) : (w.setCell ⟨Y, 1, none⟩ u).heap[Y]? = some (.cells #[a, u] T fr) := by
 have := block_setCellS h 1 u
 simpa using this
theorem ShapeSt.setY (h : ShapeSt w0 M X Y w lv rv LV root m) {T : TypeId} (hT : T ≠ 146) (k : Nat) (u : Value) : KeepT T w (w.setCell ⟨Y, k, none⟩ u) := KeepT.set (a := ⟨Y, k, none⟩) h.y hT
theorem ShapeSt.onlyY (h : ShapeSt w0 M X Y w lv rv LV root m) (k : Nat) (u : Value) : OnlyM M w0 (w.setCell ⟨Y, k, none⟩ u) :=
 ⟨h.only.os, h.only.tape, h.only.output, by simpa using h.only.size, fun j hj hM => (Below.heap_setCell _ _ _ _ (by have := h.loY; show j ≠ Y; omega)).trans (h.only.block j hj hM)⟩
theorem ShapeSt.set0 {lv' : Value} {LV' : List (List Node)} (h : ShapeSt w0 M X Y w lv rv LV root m) (hl : OwnLvls w0.heap.size w lv' LV') : ShapeSt w0 M X Y (w.setCell ⟨Y, 0, none⟩ lv') lv' rv LV' root m :=
 ⟨(Below.heap_setCell _ _ _ _ h.ne).trans h.x, two_set0 h.y, hl.keep (h.setY (by decide) _ _) (h.setY (by decide) _ _) (h.setY (by decide) _ _), h.ents.keep (h.setY (by decide) _ _), h.maker.keep (h.setY (by decide) _ _), h.onlyY _ _, h.loX, h.loY, h.ne⟩
theorem ShapeSt.set1 {rv' : Value} {root' : EL} (h : ShapeSt w0 M X Y w lv rv LV root m) (hl : EntsAt w rv' root') : ShapeSt w0 M X Y (w.setCell ⟨Y, 1, none⟩ rv') lv rv' LV root' m :=
 ⟨(Below.heap_setCell _ _ _ _ h.ne).trans h.x, two_set1 h.y, h.lvs.keep (h.setY (by decide) _ _) (h.setY (by decide) _ _) (h.setY (by decide) _ _), hl.keep (h.setY (by decide) _ _), h.maker.keep (h.setY (by decide) _ _), h.onlyY _ _, h.loX, h.loY, h.ne⟩
theorem ShapeSt.grown {w5 : World} {u v' : Value} {L : List Node} {cs : List Value} (h : ShapeSt w0 M X Y w lv rv LV root m) (ho : w.ownsRow w0.heap.size 128 1 lv LV.length cs) (hc : LvlCells w cs LV) (hu : NodesC w u L) (hg : w.grownBy w5 lv.ownBlock) (hown : w5.ownsRow w0.heap.size 128 1 v' (LV.length + 1) (cs ++ [u])) :
  ShapeSt w0 M X Y (w5.setCell ⟨Y, 0, none⟩ v') v' rv (LV ++ [L]) root m ∧ NodesC (w5.setCell ⟨Y, 0, none⟩ v') u L := by
 have k := fun T (hT : T ≠ 128) => KeepT.grown (T := T) ho hg hT
 have hy := k _ (by decide) _ _ _ h.y
 have s := fun T (hT : T ≠ 146) => KeepT.set (T := T) (u := v') (a := ⟨Y, 0, none⟩) hy hT
 have hl : OwnLvls w0.heap.size w5 v' (LV ++ [L]) := ⟨cs ++ [u], by rw [List.length_append]; exact hown, (hc.snoc hu).keep (k _ (by decide)) (k _ (by decide))⟩
 have ho5 := h.only.grown ho (Nat.le_refl _) hg
 refine ⟨⟨(Below.heap_setCell _ _ _ _ h.ne).trans (k _ (by decide) _ _ _ h.x), two_set0 hy, hl.keep (s _ (by decide)) (s _ (by decide)) (s _ (by decide)), (h.ents.keep (k _ (by decide))).keep (s _ (by decide)), (h.maker.keep (k _ (by decide))).keep (s _ (by decide)), ?_, h.loX, h.loY, h.ne⟩, (hu.keep (k _ (by decide)) (k _ (by decide))).keep (s _ (by decide)) (s _ (by decide))⟩
 exact ⟨ho5.os, ho5.tape, ho5.output, by simpa using ho5.size, fun j hj hM => (Below.heap_setCell _ _ _ _ (by have := h.loY; show j ≠ Y; omega)).trans (ho5.block j hj hM)⟩
theorem ShapeSt.cells (h : ShapeSt w0 M X Y w lv rv LV root m) : w.cell? ⟨Y, 0, none⟩ = some lv ∧ w.cell? ⟨Y, 1, none⟩ = some rv ∧ (∀ k, w.frozen? ⟨Y, k, none⟩ = false) ∧ w.cell? ⟨X, 0, none⟩ = some (.slice none 0 0) ∧ w.cell? ⟨X, 1, none⟩ = some (.slice none 0 0) ∧ (∀ k, w.frozen? ⟨X, k, none⟩ = false) ∧ Y < w.heap.size ∧ X < w.heap.size :=
 ⟨cell_of_row w Y 0 _ _ _ h.y, cell_of_row w Y 1 _ _ _ h.y, free_zero h.y, cell_of_row w X 0 _ _ _ h.x, cell_of_row w X 1 _ _ _ h.x, free_zero h.x, lt_of_block h.y, lt_of_block h.x⟩
theorem ShapeSt.grownE {w5 : World} {v' : Value} {root' : EL} (h : ShapeSt w0 M X Y w (.slice none 0 0) rv [] root m) (ho : OwnEnts w0.heap.size w rv root) (hg : w.grownBy w5 rv.ownBlock) (hown : OwnEnts w0.heap.size w5 v' root') :
  ShapeSt w0 M X Y (w5.setCell ⟨Y, 1, none⟩ v') (.slice none 0 0) v' [] root' m ∧ OwnEnts w0.heap.size (w5.setCell ⟨Y, 1, none⟩ v') v' root' := by
 have ho' : w.ownsRow w0.heap.size 31 3 rv root.length (ecells root) := ho
 have k := fun T (hT : T ≠ 31) => KeepT.grown (T := T) ho' hg hT
 have hy := k _ (by decide) _ _ _ h.y
 have s := fun T (hT : T ≠ 146) => KeepT.set (T := T) (u := v') (a := ⟨Y, 1, none⟩) hy hT
 have ho5 := h.only.grown ho' (Nat.le_refl _) hg
 refine ⟨⟨(Below.heap_setCell _ _ _ _ h.ne).trans (k _ (by decide) _ _ _ h.x), two_set1 hy, .nil _ _, hown.ents.keep (s _ (by decide)), (h.maker.keep (k _ (by decide))).keep (s _ (by decide)), ?_, h.loX, h.loY, h.ne⟩, own_keepT hown (s _ (by decide))⟩
 exact ⟨ho5.os, ho5.tape, ho5.output, by simpa using ho5.size, fun j hj hM => (Below.heap_setCell _ _ _ _ (by have := h.loY; show j ≠ Y; omega)).trans (ho5.block j hj hM)⟩
theorem ShapeSt.yGrown {w5 : World} {v : Value} {B sz n : Nat} {T : TypeId} {cs : List Value} (h : ShapeSt w0 M X Y w lv rv LV root m) (ho : w.ownsRow B T sz v n cs) (hT : 146 ≠ T) (hg : w.grownBy w5 v.ownBlock) : w5.cell? ⟨Y, 0, none⟩ = some lv ∧ w5.cell? ⟨Y, 1, none⟩ = some rv ∧ (∀ k, w5.frozen? ⟨Y, k, none⟩ = false) := by
 have hy := kept_other ho hg h.y hT
 exact ⟨cell_of_row w5 Y 0 _ _ _ hy, cell_of_row w5 Y 1 _ _ _ hy, free_zero hy⟩
def ShapeOut (w0 : World) (M : Nat) (r : (List (List Node) × EL) × Nat) (e : Ending) (w' : World) : Prop :=
 ∃ lv rv, e = .returned (.agg #[lv, rv]) ∧ OwnLvls w0.heap.size w' lv r.1.1 ∧ EntsAt w' rv r.1.2 ∧ MakerAt w' M r.2 ∧ OnlyM M w0 w'
theorem ShapeSt.out (h : ShapeSt w0 M X Y w lv rv LV root m) (r : (List (List Node) × EL) × Nat) (hr : r = ((LV, root), m)) :
  ((w.setCell ⟨X, 0, none⟩ lv).setCell ⟨X, 1, none⟩ rv).heap[X]? = some (.cells #[lv, rv] 146 (0, 0)) ∧ ShapeOut w0 M r (.returned (.agg #[lv, rv])) ((w.setCell ⟨X, 0, none⟩ lv).setCell ⟨X, 1, none⟩ rv) := by
 subst hr
 have x1 := two_set0 (u := lv) h.x
 have x2 := two_set1 (u := rv) x1
 have s := fun T (hT : T ≠ 146) => (KeepT.set (T := T) (u := lv) (a := ⟨X, 0, none⟩) h.x hT).trans (KeepT.set (T := T) (u := rv) (a := ⟨X, 1, none⟩) x1 hT)
 refine ⟨x2, lv, rv, rfl, h.lvs.keep (s _ (by decide)) (s _ (by decide)) (s _ (by decide)), h.ents.keep (s _ (by decide)), h.maker.keep (s _ (by decide)), ?_⟩
 exact ⟨h.only.os, h.only.tape, h.only.output, by simpa using h.only.size, fun j hj hM => ((Below.heap_setCell _ _ _ _ (by have := h.loX; show j ≠ X; omega)).trans (Below.heap_setCell _ _ _ _ (by have := h.loX; show j ≠ X; omega))).trans (h.only.block j hj hM)⟩
end Go.Proofs.YtgjmeeiejcbjfaaGreat
namespace Go.Proofs.YtgjmeeiejcbjfaaGreat
open Go.Lib (hid)
open Go Go.RowKit
theorem shape_alloc2 (w : World) (o o' : Obj) : ((w.alloc o).alloc o').heap[w.heap.size]? = some o ∧ ((w.alloc o).alloc o').heap[w.heap.size + 1]? = some o' := by
 refine ⟨?_, heap_alloc_new2 w o o'⟩
 have h1 := heap_alloc_new w o
 have : w.heap.size < (w.alloc o).heap.size := by simp
 rw [((Below.refl (w.alloc o).heap.size (w.alloc o)).alloc (Nat.le_refl _) o').block _ this]
 exact h1
set_option maxRecDepth 100000 in
set_option maxHeartbeats 8000000 in
theorem shape_any (M : Nat) (ov xv : Value) (old : List (List Node)) (row : EL) (w : World) (hM : MakerAt w M 0) (ho : LvlsT w ov old) (hr : ExtsAt w xv row) (hok : Forks.OldOk old) (hl : row.length ≤ 100000) :
  Calls Tryz.prog 76 #[.pointer (some ⟨M, 0, none⟩), ov, xv] w (ShapeOut w M (Forks.shapeT old row 0)) := by
 obtain ⟨ie, hie, hze, hse, hbe⟩ := info_parts info_entry
 obtain ⟨il, hil, hzl, hsl, hbl⟩ := info_parts info_lvls
 obtain ⟨ao, co, rfl⟩ := ho.form
 obtain ⟨ax, cx, rfl⟩ := hr.form
 have HO := hid ho
 have HR := hid hr
 have HK := hid hok
 have HM := hid hM
 have hfew := hok.few
 clear ho hr hok hM
 have hA := shape_alloc2 w (.cells #[.slice none 0 0, .slice none 0 0] 146) (.cells #[.slice none 0 0, .slice none 0 0] 146)
 have bA : Below w.heap.size w ((w.alloc (.cells #[.slice none 0 0, .slice none 0 0] 146)).alloc (.cells #[.slice none 0 0, .slice none 0 0] 146)) := ((Below.refl _ _).alloc (Nat.le_refl _) _).alloc (by simp) _
 have S0 := hid (show ShapeSt w M w.heap.size (w.heap.size + 1) ((w.alloc (.cells #[.slice none 0 0, .slice none 0 0] 146)).alloc (.cells #[.slice none 0 0, .slice none 0 0] 146)) (.slice none 0 0) (.slice none 0 0) [] [] 0 from
  ⟨hA.1, hA.2, .nil _ _, .inl ⟨rfl, rfl⟩, HM.out.below bA, .of_below bA, Nat.le_refl _, Nat.le_succ _, by omega⟩)
 have BA := hid bA
 clear hA bA
 generalize hS : Forks.shapeT old row 0 = SR at *
 have HS := hid hS
 clear hS
 go_enter Tryz.func76, Tryz.ntmps76
 go_wp2_with fail
 generalize (w.alloc _).alloc _ = w0 at *
 go_loopw [16] (fun q wr => ∃ (j : Nat) (u : Value), q = .int .i64 j ∧ j ≤ row.length ∧ Hid (ShapeSt w M w.heap.size (w.heap.size + 1) wr (.slice none 0 0) u [] (row.take j) 0 ∧ OwnEnts w.heap.size wr u (row.take j) ∧ Below w.heap.size w wr)) (fun q _ => row.length - (intOf q).toNat)
 case atStart => exact ⟨0, _, rfl, by omega, hid ⟨S0.out, World.ownsRow_nil _ _ _ _, BA.out⟩⟩
 case round =>
  obtain ⟨j, u, rfl, hj, hs⟩ := hrel
  by_cases hlt : j < row.length
  ·have i0 : (0 : Int) ≤ (j : Int) := by omega
   have i1 : (j : Int) < (row.length : Int) := by omega
   obtain ⟨hs1, hs2, hs3⟩ := hs.out
   obtain ⟨hll, g, off, rfl, c0, c1, c2⟩ := (HR.out.below (B := 0) hs3).cells j hlt
   clear hll
   have hT : Hid (row.take (j + 1) = row.take j ++ [row.getD j (0, 0, 0)]) := hid (by
    rw [List.take_succ_eq_append_getElem hlt]
    simp [List.getD, hlt])
   have hTl : (row.take j).length = j := by rw [List.length_take]; omega
   generalize row.take j = P at *
   generalize row.getD j (0, 0, 0) = x at *
   obtain ⟨xa, xb, xc⟩ := x
   dsimp only at *
   obtain ⟨au, cu, rfl⟩ := hs2.slice
   rw [hTl] at hs1 hs2
   have bA : Below wr.heap.size wr (wr.alloc (.cells #[.int .i64 xa, .int .i64 xb, .int .i64 xc] 53)) := (Below.refl _ _).alloc (Nat.le_refl _) _
   have h1 := hs1.below bA
   have ho1 := hs2.below bA
   have hb1 := hs3.trans (bA.mono hs3.size)
   have x0 : (wr.alloc (.cells #[.int .i64 xa, .int .i64 xb, .int .i64 xc] 53)).cell? ⟨wr.heap.size, 0, none⟩ = some (.int .i64 xa) := box_cell _ _ _ _
   have x1 : (wr.alloc (.cells #[.int .i64 xa, .int .i64 xb, .int .i64 xc] 53)).cell? ⟨wr.heap.size, 1, none⟩ = some (.int .i64 xb) := box_cell _ _ _ _
   have x2 : (wr.alloc (.cells #[.int .i64 xa, .int .i64 xb, .int .i64 xc] 53)).cell? ⟨wr.heap.size, 2, none⟩ = some (.int .i64 xc) := box_cell _ _ _ _
   have HB1 := hid hb1
   clear hs hs1 hs2 hs3 bA hb1
   go_upto_region 5 with fail
   generalize wr.alloc _ = wx at *
   generalize wr.heap.size = Z at *
   obtain ⟨-, cY, fY, -, -, -, zY, -⟩ := h1.cells
   have hwx := HB1.out.size
   have bB : Below wx.heap.size wx (wx.alloc (.cells #[.int .i64 xa, .int .i64 xb, .int .i64 xc] 31)) := (Below.refl _ _).alloc (Nat.le_refl _) _
   have H2 := hid (h1.below bB)
   have HG := hid (show (wx.alloc (.cells #[.int .i64 xa, .int .i64 xb, .int .i64 xc] 31)).ownsRow w.heap.size 31 3 (.slice au j cu) j (ecells P) from by
    have := ho1.below bB
    unfold OwnEnts at this
    rwa [hTl] at this)
   have HBB := hid (HB1.out.trans (bB.mono hwx))
   have hone := ecells_one [(xa, xb, xc)]
   have hB2 : w.heap.size ≤ (wx.alloc (.cells #[.int .i64 xa, .int .i64 xb, .int .i64 xc] 31)).heap.size := by simp; omega
   clear h1 ho1 bB HB1
   go_wp2_with (first | (at_builtin; refine wpList_append_own _ rfl (.tmp 21) (.tmp 23) 22 rfl w.heap.size 31 ie (.agg #[.int .i64 0, .int .i64 0, .int .i64 0]) 3 24 Tryz.underlying22 hie hze hse hbe rfl (by decide) _ j (ecells P) rfl HG.out ⟨wx.heap.size, 0, none⟩ 1 1 [.int .i64 xa, .int .i64 xb, .int .i64 xc] rfl rfl (World.news_of_block (heap_alloc_new _ _)) hone (by unfold maxLen; omega) (by omega) hB2 ?_))
   intro v' w5 hown hgrow _
   obtain ⟨-, k1, kF⟩ := H2.out.yGrown HG.out (by decide) hgrow
   have kf1 := kF 1
   have hown2 : OwnEnts w.heap.size w5 v' (P ++ [(xa, xb, xc)]) := by
    unfold OwnEnts
    rw [List.length_append, ecells_append, hTl]
    exact hown
   have G5 := hid (H2.out.grownE (by unfold OwnEnts; rw [hTl]; exact HG.out) hgrow hown2)
   have B5 := hid ((HBB.out.grown hgrow hB2 (fun k hk => (World.ownsRow.lt HG.out k hk).1)).setCell (show w.heap.size ≤ w.heap.size + 1 by omega) (p := ⟨w.heap.size + 1, 1, none⟩) v')
   obtain ⟨a5, c5, rfl⟩ := hown2.slice
   have e5 : (P ++ [(xa, xb, xc)]).length = j + 1 := by simp [hTl]
   rw [e5] at G5 B5
   clear hown hgrow hown2 kF HG H2 e5
   go_wp2_with fail
   go_roundw
   case rel => exact ⟨j + 1, _, by go_num, by omega, hid (by rw [hT.out]; exact ⟨G5.out.1, G5.out.2, B5.out⟩)⟩
   case measure => simp [intOf]; omega
  ·obtain rfl : j = row.length := by omega
   have hs' := hs.out
   rw [List.take_length] at hs'
   obtain ⟨hs1, hs2, hs3⟩ := hs'
   have S1 := hid (And.intro hs1 (EntsAt.capOf hs2))
   obtain ⟨au, cu, rfl⟩ := hs2.slice
   clear hs hs1 hs2 hs3 S0 BA
   go_wp2_with fail
   go_loopw [10] (fun q wr => ∃ (j m : Nat) (lv rv : Value) (LV : List (List Node)) (root : EL), q = .int .i64 j ∧ Hid ((ShapeSt w M w.heap.size (w.heap.size + 1) wr lv rv LV root m ∧ ∀ ad n c, rv = .slice ad n c → n ≤ c ∧ c ≤ 9223372036854775807) ∧ Forks.UpInv old row 0 j LV root m)) (fun q wr => Forks.upLeft old (intOf q).toNat (sliceLen (wr.cell? ⟨w.heap.size + 1, 1, none⟩)))
   case atStart => exact ⟨0, 0, _, _, [], row, rfl, hid ⟨⟨S1.out.1, S1.out.2⟩, .start HK.out row 0 hl⟩⟩
   case round =>
    obtain ⟨j, m, lv, rv, LV, root, rfl, hst⟩ := hrel
    obtain ⟨⟨hsm, hcap⟩, hui⟩ := hst.out
    have HCap := hid hcap
    obtain ⟨cY0, cY1, fY, cX0, cX1, fX, zY, zX⟩ := hsm.cells
    obtain ⟨alv, clv, rfl⟩ := hsm.lvs.form
    obtain ⟨arv, crv, rfl⟩ := hsm.ents.form
    have hjl := hui.len
    have hrl := hui.rl
    have hmle := hui.m_le rfl
    have HLJ := hid hjl
    have hcr := hcap _ _ _ rfl
    have hjb := hui.j_le hfew
    have j0 : (0 : Int) ≤ (j : Int) := by omega
    have HUI := hid hui
    rw [hjl] at cY0 hsm
    have HSM := hid hsm
    clear hst hsm hui hjl hcap
    by_cases hgo : j < old.length ∨ 4 < root.length
    ·have hLfed := Forks.level_fed (HK.out.at j).1 root m
     have hLlen := Forks.level_len (HK.out.at j).1 root m
     have hNW := HSM.out.only.keep HM.out (T := 128) (by decide)
     have hNW2 := HSM.out.only.keep HM.out (T := 131) (by decide)
     have hNW3 := HSM.out.only.keep HM.out (T := 31) (by decide)
     have HOw := hid (HO.out.keep hNW hNW2 hNW3)
     have cY1r := hid cY1
     have hlv := fun u (hu : NodesC wr u (Forks.lvlAt old j)) => level_any M m u (.slice arv root.length crv) (Forks.lvlAt old j) root wr HSM.out.maker hu.1 HSM.out.ents HCap.out (fun ad n c e => hu.2 ad n c e) (HK.out.at j).1 (HK.out.at j).2 hrl (by omega)
     generalize hLL : Forks.level (Forks.lvlAt old j) root m = LL at *
     have HLL := hid hLL
     have HLF := hid hLfed
     have hLlen' : LL.1.length ≤ 100000 := by omega
     have hLV := hid hlv
     clear hNW hNW2 hNW3 hLL hLfed hlv
     by_cases hj : j < old.length
     ·have j1 : (j : Int) < (old.length : Int) := by omega
      obtain ⟨b, off, u, rfl, cu, hnu⟩ := HOw.out.cellAt j hj
      have hnu2 : NodesC wr u (Forks.lvlAt old j) := hnu
      have q13 := hid (hLV.out u hnu2)
      obtain ⟨au, ku, rfl⟩ := hnu2.1.form
      clear hnu hnu2 hLV HOw
      generalize (Forks.lvlAt old j).length = nl at *
      go_wp2_with fail
      refine q13.out.mono ?_
      rintro e w1 ⟨⟨v1, rfl, hn1⟩, hm1, ho1⟩
      have st1 := HSM.out.step ho1 hm1
      obtain ⟨av1, cv1, rfl⟩ := hn1.typed.form
      have bA : Below w1.heap.size w1 (w1.alloc (.cells #[.slice av1 LL.1.length cv1] 128)) := (Below.refl _ _).alloc (Nat.le_refl _) _
      have H2 := hid (st1.below bA)
      have HN2 := hid (hn1.c.keep (.of_below bA) (.of_below bA))
      obtain ⟨cs, hcs, hcc⟩ := (st1.below bA).lvs
      rw [HLJ.out] at hcs
      have HCS := hid hcs
      have HCC := hid hcc
      obtain ⟨k0, k1, -, -, -, -, zY1, -⟩ := st1.cells
      have hone : ∀ u ∈ [Value.slice av1 LL.1.length cv1], u.oneCell' = true := by
       intro u hu
       obtain rfl := List.mem_singleton.1 hu
       rfl
      have hB2 : w.heap.size ≤ (w1.alloc (.cells #[.slice av1 LL.1.length cv1] 128)).heap.size := by have := st1.only.size; simp; omega
      clear st1 bA hcs hcc hm1 ho1 hn1 cY0 cY1 fY cX0 cX1 fX zY zX q13
      go_wp2_with (first | (at_builtin; refine wpList_append_own _ rfl (.tmp 53) (.tmp 55) 107 rfl w.heap.size 128 il (.slice none 0 0) 1 24 Tryz.underlying107 hil hzl hsl hbl rfl (by decide) _ j cs rfl HCS.out ⟨w1.heap.size, 0, none⟩ 1 1 [.slice av1 LL.1.length cv1] rfl rfl (World.news_of_block (heap_alloc_new _ _)) hone (by unfold maxLen; omega) (by omega) hB2 ?_))
      intro v' w5 hown hgrow _
      obtain ⟨-, k5, kF⟩ := H2.out.yGrown HCS.out (by decide) hgrow
      have kf0 := kF 0
      have k50 := (H2.out.yGrown HCS.out (by decide) hgrow).1
      have G5 := H2.out.grown (by rw [HLJ.out]; exact HCS.out) HCC.out HN2.out hgrow (by rw [HLJ.out]; exact hown)
      obtain ⟨a5, c5, hv5⟩ := G5.1.lvs.form
      have e5 : (LV ++ [LL.1]).length = j + 1 := by rw [List.length_append, HLJ.out]; rfl
      rw [e5] at hv5
      subst hv5
      have hN6 := hid G5.2
      have H6 := hid G5.1
      obtain ⟨-, l1, lF, -, -, -, zY6, -⟩ := G5.1.cells
      have lf1 := lF 1
      have q15 := hid (leads_any (.slice av1 LL.1.length cv1) LL.1 _ G5.2.1 (fun x hx => (HLF.out x hx).1) (fun x hx => by have := (HLF.out x hx).2; omega) (by omega))
      clear hown hgrow kF lF HCS HCC G5 H2 HN2 e5
      go_wp2_with fail
      refine q15.out.mono ?_
      rintro e w7 ⟨v7, rfl, o7, b7⟩
      have st7 := H6.out.below b7
      obtain ⟨-, m1, mF, -, -, -, zY7, -⟩ := st7.cells
      have mf1 := mF 1
      have hl7 := Forks.leads_len LL.1
      obtain ⟨a7, c7, rfl⟩ := o7.slice
      have H8 := hid (st7.set1 o7.ents)
      have HC8 := hid (EntsAt.capOf o7)
      have c8 := H8.out.cells.2.1
      have HU8 := hid (show Forks.UpInv old row 0 (j + 1) (LV ++ [LL.1]) (Forks.leads LL.1) LL.2 from by rw [← HLL.out]; exact HUI.out.step HK.out hgo)
      have HLT := hid (show Forks.upLeft old (j + 1) (Forks.leads LL.1).length < Forks.upLeft old j root.length from by rw [← HLL.out]; exact Forks.upLeft_lt HK.out hrl hgo)
      clear st7 o7 b7 mF q15 H6 hN6
      rw [hl7] at c8 H8 HC8
      go_wp2_with fail
      go_roundw
      case rel => exact ⟨j + 1, LL.2, _, _, LV ++ [LL.1], Forks.leads LL.1, by go_num, hid ⟨⟨H8.out, HC8.out⟩, HU8.out⟩⟩
      case measure =>
       rw [c8, cY1r.out]
       have h8 := HLT.out
       rw [hl7] at h8
       simpa [sliceLen, intOf] using h8
     ·have j1 : ¬ (j : Int) < (old.length : Int) := by omega
      have j2 : (4 : Int) < (root.length : Int) := by omega
      have hnil : Forks.lvlAt old j = [] := by simp [Forks.lvlAt, List.getD, Nat.le_of_not_lt hj]
      have q13 := hid (hLV.out (.slice none 0 0) (by rw [hnil]; exact .nil _))
      clear hLV HOw hnil
      go_wp2_with fail
      refine q13.out.mono ?_
      rintro e w1 ⟨⟨v1, rfl, hn1⟩, hm1, ho1⟩
      have st1 := HSM.out.step ho1 hm1
      obtain ⟨av1, cv1, rfl⟩ := hn1.typed.form
      have bA : Below w1.heap.size w1 (w1.alloc (.cells #[.slice av1 LL.1.length cv1] 128)) := (Below.refl _ _).alloc (Nat.le_refl _) _
      have H2 := hid (st1.below bA)
      have HN2 := hid (hn1.c.keep (.of_below bA) (.of_below bA))
      obtain ⟨cs, hcs, hcc⟩ := (st1.below bA).lvs
      rw [HLJ.out] at hcs
      have HCS := hid hcs
      have HCC := hid hcc
      obtain ⟨k0, k1, -, -, -, -, zY1, -⟩ := st1.cells
      have hone : ∀ u ∈ [Value.slice av1 LL.1.length cv1], u.oneCell' = true := by
       intro u hu
       obtain rfl := List.mem_singleton.1 hu
       rfl
      have hB2 : w.heap.size ≤ (w1.alloc (.cells #[.slice av1 LL.1.length cv1] 128)).heap.size := by have := st1.only.size; simp; omega
      clear st1 bA hcs hcc hm1 ho1 hn1 cY0 cY1 fY cX0 cX1 fX zY zX q13
      go_wp2_with (first | (at_builtin; refine wpList_append_own _ rfl (.tmp 53) (.tmp 55) 107 rfl w.heap.size 128 il (.slice none 0 0) 1 24 Tryz.underlying107 hil hzl hsl hbl rfl (by decide) _ j cs rfl HCS.out ⟨w1.heap.size, 0, none⟩ 1 1 [.slice av1 LL.1.length cv1] rfl rfl (World.news_of_block (heap_alloc_new _ _)) hone (by unfold maxLen; omega) (by omega) hB2 ?_))
      intro v' w5 hown hgrow _
      obtain ⟨-, k5, kF⟩ := H2.out.yGrown HCS.out (by decide) hgrow
      have kf0 := kF 0
      have k50 := (H2.out.yGrown HCS.out (by decide) hgrow).1
      have G5 := H2.out.grown (by rw [HLJ.out]; exact HCS.out) HCC.out HN2.out hgrow (by rw [HLJ.out]; exact hown)
      obtain ⟨a5, c5, hv5⟩ := G5.1.lvs.form
      have e5 : (LV ++ [LL.1]).length = j + 1 := by rw [List.length_append, HLJ.out]; rfl
      rw [e5] at hv5
      subst hv5
      have hN6 := hid G5.2
      have H6 := hid G5.1
      obtain ⟨-, l1, lF, -, -, -, zY6, -⟩ := G5.1.cells
      have lf1 := lF 1
      have q15 := hid (leads_any (.slice av1 LL.1.length cv1) LL.1 _ G5.2.1 (fun x hx => (HLF.out x hx).1) (fun x hx => by have := (HLF.out x hx).2; omega) (by omega))
      clear hown hgrow kF lF HCS HCC G5 H2 HN2 e5
      go_wp2_with fail
      refine q15.out.mono ?_
      rintro e w7 ⟨v7, rfl, o7, b7⟩
      have st7 := H6.out.below b7
      obtain ⟨-, m1, mF, -, -, -, zY7, -⟩ := st7.cells
      have mf1 := mF 1
      have hl7 := Forks.leads_len LL.1
      obtain ⟨a7, c7, rfl⟩ := o7.slice
      have H8 := hid (st7.set1 o7.ents)
      have HC8 := hid (EntsAt.capOf o7)
      have c8 := H8.out.cells.2.1
      have HU8 := hid (show Forks.UpInv old row 0 (j + 1) (LV ++ [LL.1]) (Forks.leads LL.1) LL.2 from by rw [← HLL.out]; exact HUI.out.step HK.out hgo)
      have HLT := hid (show Forks.upLeft old (j + 1) (Forks.leads LL.1).length < Forks.upLeft old j root.length from by rw [← HLL.out]; exact Forks.upLeft_lt HK.out hrl hgo)
      clear st7 o7 b7 mF q15 H6 hN6
      rw [hl7] at c8 H8 HC8
      go_wp2_with fail
      go_roundw
      case rel => exact ⟨j + 1, LL.2, _, _, LV ++ [LL.1], Forks.leads LL.1, by go_num, hid ⟨⟨H8.out, HC8.out⟩, HU8.out⟩⟩
      case measure =>
       rw [c8, cY1r.out]
       have h8 := HLT.out
       rw [hl7] at h8
       simpa [sliceLen, intOf] using h8
    ·have hde : Hid (SR = (((Forks.trimR LV.reverse root).1.reverse, (Forks.trimR LV.reverse root).2), m)) := hid (by
      rw [← HS.out]
      unfold Forks.shapeT
      rw [HUI.out.done (by omega) (by omega)])
     have j1 : ¬ (j : Int) < (old.length : Int) := by omega
     have j2 : ¬ (4 : Int) < (root.length : Int) := by omega
     have HLV : Hid (LV.take j = LV) := hid (by rw [← HLJ.out, List.take_length])
     have k4 : IntKind.i64.wrap ((j : Int) - 1) = (j : Int) - 1 := IntWalk.i64_in _ (by omega)
     generalize hTR : Forks.trimR LV.reverse root = TR at *
     have HTR := hid hTR
     clear hTR hgo HUI HCap hcr cX0 cX1 fX zY zX fY
     go_wp2_with fail
     go_loopw [12] (fun q wr => ∃ (t : Nat) (lv rv : Value) (root' : EL), q = .int .i64 ((t : Int) - 1) ∧ t ≤ j ∧ Hid (ShapeSt w M w.heap.size (w.heap.size + 1) wr lv rv (LV.take t) root' m ∧ Forks.trimR (LV.take t).reverse root' = TR)) (fun q _ => (intOf q + 1).toNat)
     case atStart => exact ⟨j, _, _, root, rfl, by omega, hid (by rw [HLV.out]; exact ⟨HSM.out, HTR.out⟩)⟩
     case round =>
      obtain ⟨t, lv, rv, root', rfl, ht, hst⟩ := hrel
      obtain ⟨hsm, htr⟩ := hst.out
      obtain ⟨c0, c1, fY, cX0, cX1, fX, zY, zX⟩ := hsm.cells
      have f0 := fY 0
      have f1 := fY 1
      have fx0 := fX 0
      have fx1 := fX 1
      obtain ⟨alv, clv, hlv⟩ := hsm.lvs.form
      obtain ⟨arv, crv, rfl⟩ := hsm.ents.form
      have hTl : (LV.take t).length = t := by rw [List.length_take]; have := HLJ.out; omega
      rw [hTl] at hlv
      subst hlv
      have HTr := hid htr
      have HSt := hid hsm
      clear hst hsm htr fY fX
      cases t with
      | zero =>
       have ho := hid (HSt.out.out SR (by rw [hde.out, ← HTr.out, Forks.trim_end, List.take_zero]; rfl))
       have n0 : ((wr.setCell ⟨w.heap.size, 0, none⟩ (.slice alv 0 clv)).setCell ⟨w.heap.size, 1, none⟩ (.slice arv (List.length root') crv)).cell? ⟨w.heap.size, 0, none⟩ = some (.slice alv 0 clv) := cell_of_row _ _ 0 _ _ _ ho.out.1
       have n1 : ((wr.setCell ⟨w.heap.size, 0, none⟩ (.slice alv 0 clv)).setCell ⟨w.heap.size, 1, none⟩ (.slice arv (List.length root') crv)).cell? ⟨w.heap.size, 1, none⟩ = some (.slice arv (List.length root') crv) := cell_of_row _ _ 1 _ _ _ ho.out.1
       go_wp2_with fail
       refine bodyPost_ret (v := .agg #[.slice alv 0 clv, .slice arv (List.length root') crv]) ?_ rfl ho.out.2
       first | (simp [results, Tryz.results76, go_sem, n0, n1]; done) | (simp [results, Tryz.results76, go_sem, n0, n1, loadN]; done)
      | succ k =>
       have hk : ((k + 1 : Nat) : Int) - 1 = (k : Int) := by omega
       rw [hk]
       have hkL : k < LV.length := by have := HLJ.out; omega
       obtain ⟨b, off, u, ha, cu, hnu⟩ := HSt.out.lvs.typed.cellAt k (by rw [hTl]; omega)
       obtain rfl := ha
       have e : (LV.take (k + 1)).getD k [] = LV.getD k [] := by simp [List.getD, List.getElem?_take]
       rw [e] at hnu
       have T0 := hid (fun h => (Forks.trim_nil LV k hkL root' h).symm.trans HTr.out)
       have T1 := hid (fun n h h2 => (Forks.trim_one LV k hkL root' n h h2).symm.trans HTr.out)
       have T2 := hid (fun h h2 => (Forks.trim_stop LV k hkL root' h h2).symm.trans HTr.out)
       have hcap := HSt.out.lvs.cap
       rw [hTl] at hcap
       have hLv := hid (show OwnLvls w.heap.size wr (.slice (some ⟨b, off, none⟩) k clv) (LV.take k) from by
        have h := HSt.out.lvs.take k (by rw [hTl]; omega)
        rwa [List.take_take, Nat.min_eq_left (by omega)] at h)
       generalize LV.getD k [] = LL at *
       obtain ⟨au, ku, rfl⟩ := hnu.1.form
       have HNU := hid hnu
       have k1 : (0 : Int) ≤ (k : Int) := by omega
       have k2 : (k : Int) < ((k + 1 : Nat) : Int) := by omega
       have k3 : (k : Int) ≤ (clv : Int) := by omega
       have k5 : IntKind.i64.wrap ((k : Int) - 1) = (k : Int) - 1 := IntWalk.i64_in _ (by omega)
       clear hnu e hk hcap
       by_cases hn0 : LL.length = 0
       ·have hT : Hid (Forks.trimR (LV.take k).reverse root' = TR) := hid (T0.out (List.eq_nil_of_length_eq_zero hn0))
        have S8 := hid (HSt.out.set0 hLv.out)
        generalize LL.length = n at *
        obtain rfl := hn0
        clear T0 T1 T2 HNU hLv
        go_wp2_with fail
        go_roundw
        case rel => exact ⟨k, _, _, root', by go_num, by omega, hid ⟨S8.out, hT.out⟩⟩
        case measure => simp [intOf]
       ·by_cases hn1 : LL.length = 1
        ·obtain ⟨x, rfl⟩ := List.length_eq_one_iff.1 hn1
         obtain ⟨b2, off2, au2, cu2, e2, d0, d1, he⟩ := HNU.out.1.cellsAt 0 (by simp)
         subst e2
         rw [Nat.zero_mul, Nat.add_zero] at d1
         by_cases hx4 : x.2.length ≤ 4
         ·have hT := hid (T1.out x rfl hx4)
          have S8 := hid (((HSt.out.set0 hLv.out).set1 (he.keep (HSt.out.setY (by decide) _ _))).below (Below.refl _ _).drew)
          have hx4' : (x.2.length : Int) ≤ 4 := by omega
          have hl1 : [x].length = 1 := rfl
          have hg0 : ([x] : List Node).getD 0 (0, []) = x := rfl
          rw [hg0] at d1 S8
          rw [hl1] at cu
          generalize hxl : x.2.length = xl at *
          clear T0 T1 T2 HNU hLv he d0 hn0 hn1 hl1 hg0 hx4
          go_upto_region 24 with fail
          go_region
          go_wp2_with fail
          go_roundw
          case rel => exact ⟨k, _, _, x.2, by go_num, by omega, hid ⟨S8.out, hT.out⟩⟩
          case measure => simp [intOf]
         ·have hT := hid (T2.out (by simp) (fun h => hx4 h.2))
          have hx4' : ¬ (x.2.length : Int) ≤ 4 := by omega
          have hl1 : [x].length = 1 := rfl
          have hg0 : ([x] : List Node).getD 0 (0, []) = x := rfl
          rw [hg0] at d1
          rw [hl1] at cu
          generalize hxl : x.2.length = xl at *
          clear he d0 hn0 hn1 hl1 hg0 hx4
          have ho := hid (HSt.out.out SR (by rw [hde.out, ← hT.out, List.reverse_reverse]))
          have n0 : ((wr.setCell ⟨w.heap.size, 0, none⟩ (.slice (some ⟨b, off, none⟩) (k + 1) clv)).setCell ⟨w.heap.size, 1, none⟩ (.slice arv (List.length root') crv)).cell? ⟨w.heap.size, 0, none⟩ = some (.slice (some ⟨b, off, none⟩) (k + 1) clv) := cell_of_row _ _ 0 _ _ _ ho.out.1
          have n1 : ((wr.setCell ⟨w.heap.size, 0, none⟩ (.slice (some ⟨b, off, none⟩) (k + 1) clv)).setCell ⟨w.heap.size, 1, none⟩ (.slice arv (List.length root') crv)).cell? ⟨w.heap.size, 1, none⟩ = some (.slice arv (List.length root') crv) := cell_of_row _ _ 1 _ _ _ ho.out.1
          clear T0 T1 T2 HNU hLv
          go_wp2_with fail
          refine bodyPost_ret (v := .agg #[.slice (some ⟨b, off, none⟩) (k + 1) clv, .slice arv (List.length root') crv]) ?_ rfl ho.out.2
          first | (simp [results, Tryz.results76, go_sem, n0, n1]; done) | (simp [results, Tryz.results76, go_sem, n0, n1, loadN]; done)
        ·have hT := hid (T2.out hn0 (fun h => hn1 h.1))
         generalize LL.length = n at *
         have ho := hid (HSt.out.out SR (by rw [hde.out, ← hT.out, List.reverse_reverse]))
         have n0 : ((wr.setCell ⟨w.heap.size, 0, none⟩ (.slice (some ⟨b, off, none⟩) (k + 1) clv)).setCell ⟨w.heap.size, 1, none⟩ (.slice arv (List.length root') crv)).cell? ⟨w.heap.size, 0, none⟩ = some (.slice (some ⟨b, off, none⟩) (k + 1) clv) := cell_of_row _ _ 0 _ _ _ ho.out.1
         have n1 : ((wr.setCell ⟨w.heap.size, 0, none⟩ (.slice (some ⟨b, off, none⟩) (k + 1) clv)).setCell ⟨w.heap.size, 1, none⟩ (.slice arv (List.length root') crv)).cell? ⟨w.heap.size, 1, none⟩ = some (.slice arv (List.length root') crv) := cell_of_row _ _ 1 _ _ _ ho.out.1
         clear T0 T1 T2 HNU hLv
         go_wp2_with fail
         refine bodyPost_ret (v := .agg #[.slice (some ⟨b, off, none⟩) (k + 1) clv, .slice arv (List.length root') crv]) ?_ rfl ho.out.2
         first | (simp [results, Tryz.results76, go_sem, n0, n1]; done) | (simp [results, Tryz.results76, go_sem, n0, n1, loadN]; done)
end Go.Proofs.YtgjmeeiejcbjfaaGreat
