/- Exts: (*row).put. -/
import Derived.Test.YtgpjldmndibalaaExtsClone
import Derived.Test.YtgpjldmndibalaaExtsCheck
import Derived.StillTailTactics
namespace Go.Proofs.Ytgpjldmndibalaa
open Go Go.RowKit

/-- A row that is made, in its box X. -/
structure RowBox (X : Nat) (w0 w : World) (l : EL) : Prop where
  lo : w0.heap.size ≤ X
  ex : ∃ v, w.heap[X]? = some (.cells #[v] 73 (0, 0)) ∧ OwnExts (X + 1) w v l
  bel : Below X w0 w
theorem RowBox.lt {X : Nat} {w0 w : World} {l : EL} (h : RowBox X w0 w l) : X < w.heap.size := by obtain ⟨v, h, _⟩ := h.ex; exact lt_of_block h
theorem RowBox.below {X : Nat} {w0 w w' : World} {l : EL} (h : RowBox X w0 w l) (hb : Below w.heap.size w w') : RowBox X w0 w' l := by
  have hl := h.lt
  obtain ⟨v, h1, h2⟩ := h.ex
  exact ⟨h.lo, ⟨v, by rw [hb.block X hl]; exact h1, h2.below hb⟩, h.bel.trans (hb.mono (Nat.le_of_lt hl))⟩
theorem OwnExts.slice {B : Nat} {w : World} {v : Value} {l : EL} (h : OwnExts B w v l) : ∃ ad c, v = .slice ad l.length c := by
  rcases h.2 with ⟨rfl, hn⟩ | ⟨g, cap, cur, rfl, _⟩
  · exact ⟨_, _, by rw [hn]⟩
  · exact ⟨_, _, rfl⟩
theorem fin_part {x : Exts.E} (hm : Exts.may x) (a b : Int) (ha : 0 ≤ a) (k : max a x.1 < min b (Exts.fin x)) :
    0 ≤ max a x.1 ∧ max a x.1 ≤ 2048 ∧ 0 ≤ min b (Exts.fin x) ∧ min b (Exts.fin x) ≤ 2048 := by
  unfold Exts.may at hm
  unfold Exts.fin at *
  omega

theorem own_setB {B z n : Nat} {T : TypeId} {w : World} {v : Value} {xs : List Value} (h : w.ownsRow B T z v n xs) {a : Addr} (ha : a.block < B) (u : Value) : (w.setCell a u).ownsRow B T z v n xs := by
  refine ⟨h.1, ?_⟩
  rcases h.2 with h0 | ⟨g, cap, cur, e0, hb, hg, r⟩
  · exact .inl h0
  · exact .inr ⟨g, cap, cur, e0, hb, by rw [Below.heap_setCell _ _ _ _ (show g ≠ a.block by omega)]; exact hg, r⟩
theorem rowbox_pushed {X g c : Nat} {w0 wa w5 : World} {L : EL} {y : Exts.E} {u : Value} {row : Option Nat} (hlo : w0.heap.size ≤ X) (hbel : Below X w0 wa) (hX : X + 1 ≤ wa.heap.size) (hrow : ∀ j, row = some j → X + 1 ≤ j) (hg : wa.grownBy w5 row)
    (X5 : w5.heap[X]? = some (.cells #[u] 73 (0, 0))) (hown : w5.ownsRow (X + 1) 37 3 (.slice (some ⟨g, 0, none⟩) (L.length + 1) c) (L.length + 1) (ecells L ++ [.int .i64 y.1, .int .i64 y.2.1, .int .i64 y.2.2])) :
    RowBox X w0 (w5.setCell ⟨X, 0, none⟩ (.slice (some ⟨g, 0, none⟩) (L.length + 1) c)) (L ++ [y]) := by
  refine ⟨hlo, ⟨_, one_setCell X5, own_setB ?_ (Nat.lt_succ_self X) _⟩, ((hbel.grown hg (by omega) (fun k hk => by have := hrow k hk; omega)).setCell (Nat.le_refl _) _)⟩
  rw [ecells_append, List.length_append]
  exact hown

set_option maxRecDepth 100000 in
set_option maxHeartbeats 4000000 in
theorem eput_any (X : Nat) (w0 : World) (L : EL) (x : Exts.E) (a b : Int) (w : World) (h : RowBox X w0 w L) (hm : Exts.may x) (ha : 0 ≤ a) (ha2 : a ≤ 9223372036854775807) (hb : -9223372036854775808 ≤ b ∧ b ≤ 9223372036854775807) (hL : L.length ≤ 1000000000) :
    Calls Try.prog 59 #[.pointer (some ⟨X, 0, none⟩), .agg #[.int .i64 x.1, .int .i64 x.2.1, .int .i64 x.2.2], .int .i64 a, .int .i64 b] w fun e w' => e = .returned (.tuple #[]) ∧ RowBox X w0 w' (L ++ Exts.part x a b) := by
  obtain ⟨i0', hi0, hz0, hz1, hz2⟩ := info_parts info_ext
  have he := Lib.hid (fun w => eend_any x (emay_fin hm) w)
  have hp : Hid (Exts.part x a b = if max a x.1 < min b (Exts.fin x) then [(max a x.1, x.2.1 + max a x.1 - x.1, min b (Exts.fin x) - max a x.1)] else []) := Lib.hid rfl
  have hfp := Lib.hid (fin_part hm a b ha)
  have hmx : Exts.may x := hm
  unfold Exts.may at hmx
  have hfx : Exts.fin x = x.1 + x.2.2 := rfl
  have hfb : 1 ≤ Exts.fin x ∧ Exts.fin x ≤ 2048 := by omega
  clear hfx hm
  generalize Exts.part x a b = PT at *
  generalize hF : Exts.fin x = F at *
  clear hF
  obtain ⟨xa, xb, xc⟩ := x
  dsimp only at *
  obtain ⟨m, hm'⟩ : ∃ m, max a xa = m := ⟨_, rfl⟩
  obtain ⟨n, hn'⟩ : ∃ n, min b F = n := ⟨_, rfl⟩
  rw [hm', hn'] at hp hfp
  have hmi : (if a < xa then xa else a) = m := by rw [← hm']; split <;> omega
  have hni : (if F < b then F else b) = n := by rw [← hn']; split <;> omega
  clear hm' hn'
  have h1 := h.below (w' := w.alloc (.cells #[.int .i64 xa, .int .i64 xb, .int .i64 xc] 37)) ((Below.refl _ _).alloc (Nat.le_refl _) _)
  have HB := Lib.hid h1
  have x0 : (w.alloc (.cells #[.int .i64 xa, .int .i64 xb, .int .i64 xc] 37)).cell? ⟨w.heap.size, 0, none⟩ = some (.int .i64 xa) := box_cell _ _ _ _
  have x1 : (w.alloc (.cells #[.int .i64 xa, .int .i64 xb, .int .i64 xc] 37)).cell? ⟨w.heap.size, 1, none⟩ = some (.int .i64 xb) := box_cell _ _ _ _
  have x2 : (w.alloc (.cells #[.int .i64 xa, .int .i64 xb, .int .i64 xc] 37)).cell? ⟨w.heap.size, 2, none⟩ = some (.int .i64 xc) := box_cell _ _ _ _
  have zY : w.heap.size < (w.alloc (.cells #[.int .i64 xa, .int .i64 xb, .int .i64 xc] 37)).heap.size := by simp
  clear h h1
  go_enter Try.func59, Try.ntmps59
  go_upto_region 1 with fail
  generalize w.alloc _ = wx at *
  generalize hY : w.heap.size = Y at *
  go_cut [2, 3] from 8 to 15 (fun p q wy => p = .int .i64 m ∧ q = .int .i64 n ∧ Below wx.heap.size wx wy)
  case first =>
    go_region_held3 (fun w' => w'.cell? ⟨Y, 0, none⟩ = some (.int .i64 xa) ∧ w'.cell? ⟨Y, 1, none⟩ = some (.int .i64 xb) ∧ w'.cell? ⟨Y, 2, none⟩ = some (.int .i64 xc))
      (first | exact ⟨x0, x1, x2⟩ | exact ⟨(s4.cell (p := ⟨Y, 0, none⟩) zY).trans x0, (s4.cell (p := ⟨Y, 1, none⟩) zY).trans x1, (s4.cell (p := ⟨Y, 2, none⟩) zY).trans x2⟩)
      ((go_at_call 38; refine (he.out _).mono ?_; rintro e w4 ⟨rfl, b4⟩; have s4 : Below wx.heap.size wx w4 := ⟨b4.os, b4.tape, b4.output, b4.size, b4.block⟩))
    all_goals (go_step; go_step; go_meet; exact ⟨rfl, rfl, s4⟩)
  obtain ⟨rfl, rfl, bc⟩ := hcut
  have y0 := (bc.cell (p := ⟨Y, 0, none⟩) zY).trans x0
  have y1 := (bc.cell (p := ⟨Y, 1, none⟩) zY).trans x1
  have HC := Lib.hid (HB.out.below bc)
  clear x0 x1 x2 zY bc hmi hni HB
  by_cases k : m < n
  · have hp' : Hid (PT = [(m, xb + m - xa, n - m)]) := Lib.hid (by rw [hp.out, if_pos k])
    obtain ⟨f1, f2, f3, f4⟩ := hfp.out k
    obtain ⟨v, hX, hO⟩ := HC.out.ex
    obtain ⟨ad, co, rfl⟩ := hO.slice
    have cX := cell_of_one hX
    have fX := free_of_one hX
    have HO := Lib.hid hO
    have HX := Lib.hid hX
    have hlt := lt_of_block hX
    have wa : IntKind.i64.wrap (xb + m) = xb + m := IntWalk.i64_in _ (by omega)
    have wb : IntKind.i64.wrap (xb + m - xa) = xb + m - xa := IntWalk.i64_in _ (by omega)
    have wd : IntKind.i64.wrap (n - m) = n - m := IntWalk.i64_in _ (by omega)
    clear hX hO
    have bA : Below wc.heap.size wc (wc.drew.alloc (.cells #[.int .i64 m, .int .i64 (xb + m - xa), .int .i64 (n - m)] 37)) := (Below.refl _ _).drew.alloc (Nat.le_refl _) _
    have G : (wc.drew.alloc (.cells #[.int .i64 m, .int .i64 (xb + m - xa), .int .i64 (n - m)] 37)).ownsRow (X + 1) 37 3 (.slice ad L.length co) L.length (ecells L) := HO.out.below bA
    have NN : ∀ jj uu, [Value.int .i64 m, .int .i64 (xb + m - xa), .int .i64 (n - m)][jj]? = some uu → (wc.drew.alloc (.cells #[.int .i64 m, .int .i64 (xb + m - xa), .int .i64 (n - m)] 37)).cell? ((⟨wc.heap.size, 0, none⟩ : Addr).add jj) = some uu := fun jj uu hjj => by
      have hadd : (⟨wc.heap.size, 0, none⟩ : Addr).add jj = ⟨wc.heap.size, jj, none⟩ := by unfold Addr.add; split <;> simp_all
      rw [hadd]
      exact (World.cell?_alloc_at (w := wc.drew) _ _ _ jj rfl).trans (by simpa using hjj)
    have hone := ecells_one [(m, xb + m - xa, n - m)]
    have HG := Lib.hid G
    have HNN := Lib.hid NN
    have hnB : Hid (∀ j, (Value.slice ad L.length co).ownBlock = some j → X + 1 ≤ j) := Lib.hid (fun j hj => (World.ownsRow.lt HO.out j hj).1)
    have hXw : Hid ((wc.drew.alloc (.cells #[.int .i64 m, .int .i64 (xb + m - xa), .int .i64 (n - m)] 37)).heap[X]? = some (.cells #[.slice ad L.length co] 73 (0, 0))) := Lib.hid (by rw [bA.block X hlt]; exact HX.out)
    have hXs : X + 1 ≤ wc.heap.size := hlt
    have HBL : Hid (Below X w0 (wc.drew.alloc (.cells #[.int .i64 m, .int .i64 (xb + m - xa), .int .i64 (n - m)] 37))) := Lib.hid (HC.out.bel.trans (bA.mono (by omega)))
    have hlo := Lib.hid HC.out.lo
    clear G NN bA HO HX HC
    go_upto_region 3 with fail
    go_region_law (refine step_append_lies _ rfl (.tmp 22) (.tmp 35) 73 rfl (X + 1) 37 i0' (.agg #[.int .i64 0, .int .i64 0, .int .i64 0]) 3 24 Try.underlying73 hi0 hz0 hz1 hz2 rfl (by decide) (.slice ad L.length co) L.length (ecells L) (by simp [Act.eval, Act.put]; done) HG.out ⟨wc.heap.size, 0, none⟩ 1 1 [.int .i64 m, .int .i64 (xb + m - xa), .int .i64 (n - m)] (by simp [Act.eval, Act.put]; done) rfl HNN.out hone (by decide) (by unfold maxLen; omega) (by omega) (by simp; omega) _ rfl ?_; intro g5 c5 w5 hown hgrow hat hlt5; have X5 : w5.heap[X]? = some (.cells #[.slice ad L.length co] 73 (0, 0)) := (hgrow.block X (by simp; omega) (fun e => by have := hnB.out X e.symm; omega)).trans hXw.out; have cX5 := cell_of_one X5; have fX5 := free_of_one X5)
    all_goals
      have R5 := Lib.hid (rowbox_pushed (y := (m, xb + m - xa, n - m)) hlo.out HBL.out (by simp; omega) hnB.out hgrow X5 hown)
      rw [← hp'.out] at R5
      go_end0
      exact ⟨rfl, R5.out⟩
  · have hp' : Hid (PT = []) := Lib.hid (by rw [hp.out, if_neg k])
    go_wp2_with fail
    go_end0
    exact ⟨rfl, by rw [hp'.out, List.append_nil]; exact HC.out⟩

end Go.Proofs.Ytgpjldmndibalaa
