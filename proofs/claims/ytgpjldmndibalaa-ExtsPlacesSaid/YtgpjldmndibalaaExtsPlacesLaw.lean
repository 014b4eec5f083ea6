/- ExtsPlaces: the walk and the plain law, joined. -/
import Derived.Test.YtgpjldmndibalaaExtsPlacesWalk
namespace Go.Proofs.Ytgpjldmndibalaa
open Go Go.RowKit

set_option maxRecDepth 100000 in
theorem ExtsPlaces_walk {w : World} (ad : Option Addr) (cap : Nat) (l : EL) (xa xb xc place : Int) (h : ExtsIn w (.slice ad l.length cap) l) (ha : -9223372036854775808 ≤ xa ∧ xa ≤ 9223372036854775807) (hb : -9223372036854775808 ≤ xb ∧ xb ≤ 9223372036854775807) (hc : -9223372036854775808 ≤ xc ∧ xc ≤ 9223372036854775807) (hp : -9223372036854775808 ≤ place ∧ place ≤ 9223372036854775807) :
    Calls Try.prog 9 #[.slice ad l.length cap, .agg #[.int .i64 xa, .int .i64 xb, .int .i64 xc], .int .i64 place] w fun e w' => e = .returned (.bool true) ∧ Below w.heap.size w w' := by
  have l1 := h.len
  by_cases ea : 200 < (l.length : Int)
  · have b0 := Lib.hid (below_box (Below.refl w.heap.size w) (.cells #[.int .i64 xa, .int .i64 xb, .int .i64 xc] 37))
    go_enter Try.func9, Try.ntmps9
    go_wp2_with fail
    go_ret
    exact ⟨rfl, b0.out⟩
  by_cases hy : Exts.okTo l l.length = true ∧ Exts.may (xa, xb, xc)
  · obtain ⟨hok, hm⟩ := hy
    have hR := Exts.check_row.1 hok
    obtain ⟨p1, p2, p3⟩ := put_yes hok hm
    have hRo := Exts.put_row hR hm
    obtain ⟨n1, f1⟩ := find_blk hRo place
    obtain ⟨n2, f2⟩ := find_blk hR place
    have hbk := Exts.blk_put hR hm place
    have hU := union_put hR hm
    have hM : Runs.meetR (Exts.blocksR (Exts.changeR l xa (Exts.fin (xa, xb, xc)) [(xa, xb, xc)])) (freedR l (Exts.changeR l xa (Exts.fin (xa, xb, xc)) [(xa, xb, xc)])) = [] := meet_minus _ _
    have hE := Exts.end_put hR hm
    have hlo := change_len l xa (Exts.fin (xa, xb, xc)) [(xa, xb, xc)]
    have hlf := freed_len l (Exts.changeR l xa (Exts.fin (xa, xb, xc)) [(xa, xb, xc)])
    have hff : Exts.fin (xa, xb, xc) = xa + xc := rfl
    simp only [List.length_cons, List.length_nil] at hlo
    dsimp only at *
    refine places_yes ad cap l xa xb xc place h.at_ h.small ⟨ha, hb, hc⟩ (by omega) hp _ _ _ n1 _ n2 _ _ hok hm p1 p2 p3 hRo (by omega) (by omega) (freed_small _ _) f1 f2 ?_ _ rfl hU hM hE
    by_cases k : xa ≤ place ∧ place < xa + xc
    · rw [if_pos (by rw [hff]; exact k)] at hbk
      rw [hbk]
      exact .inl ⟨k.1, k.2, rfl, rfl⟩
    · rw [if_neg (by rw [hff]; exact k)] at hbk
      rw [hbk]
      by_cases k1 : place < xa
      · exact .inr (.inl ⟨k1, rfl, rfl⟩)
      · exact .inr (.inr ⟨by omega, rfl, rfl⟩)
  · exact places_no ad cap l xa xb xc place h.at_ h.small ⟨ha, hb, hc⟩ (by omega) hy

end Go.Proofs.Ytgpjldmndibalaa
