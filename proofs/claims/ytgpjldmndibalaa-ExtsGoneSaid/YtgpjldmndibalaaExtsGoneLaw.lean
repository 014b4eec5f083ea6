/- ExtsGone: the walk and the plain law, joined. -/
import Derived.Test.YtgpjldmndibalaaExtsGoneWalk
namespace Go.Proofs.Ytgpjldmndibalaa
open Go Go.RowKit

set_option maxRecDepth 100000 in
theorem ExtsGone_walk {w : World} (ad : Option Addr) (cap : Nat) (l : EL) (fa fn place : Int) (h : ExtsIn w (.slice ad l.length cap) l) (ha : -9223372036854775808 ≤ fa ∧ fa ≤ 9223372036854775807) (hb : -9223372036854775808 ≤ fn ∧ fn ≤ 9223372036854775807) (hp : -9223372036854775808 ≤ place ∧ place ≤ 9223372036854775807) :
    Calls Try.prog 10 #[.slice ad l.length cap, .agg #[.int .i64 fa, .int .i64 fn], .int .i64 place] w fun e w' => e = .returned (.bool true) ∧ Below w.heap.size w w' := by
  have l1 := h.len
  by_cases ea : 200 < (l.length : Int)
  · have b0 := Lib.hid (below_box (Below.refl w.heap.size w) (.cells #[.int .i64 fa, .int .i64 fn] 49))
    go_enter Try.func10, Try.ntmps10
    go_wp2_with fail
    go_ret
    exact ⟨rfl, b0.out⟩
  have hlen : (l.length : Int) ≤ 200 := by omega
  by_cases hy : Exts.okTo l l.length = true ∧ 0 ≤ fa
  · obtain ⟨hok, h0⟩ := hy
    have hR := Exts.check_row.1 hok
    obtain ⟨c1, c2, c3⟩ := cut_yes hok h0
    have hRc := cut_row hR h0
    obtain ⟨nc, f1⟩ := find_blk hRc place
    obtain ⟨nl, f2⟩ := find_blk hR place
    have hbc := blk_cut hR h0 place
    have hUc := union_freed hR hRc (fun i => has_cut)
    have hle := Exts.end_cut hR fa h0
    have hlc := cut_len l fa
    have hlf := freed_len l (Exts.cutR l fa)
    by_cases hq : 0 ≤ fa ∧ 0 ≤ fn ∧ fa ≤ 2048 ∧ fn ≤ 2048 - fa
    · obtain ⟨p1, p2, p3⟩ := punch_yes hok hq
      have hRo := punch_row hR ⟨hq.1, hq.2.1⟩
      obtain ⟨n1, f3⟩ := find_blk hRo place
      have hbo := blk_punch hR (a := fa) hq.2.1 place
      have hUo := union_freed hR hRo (fun i => has_punch)
      have hMo : Runs.meetR (Exts.blocksR (Exts.punchR l fa fn)) (freedR l (Exts.punchR l fa fn)) = [] := meet_minus _ _
      have hlo := punch_len l fa fn
      have hlg := freed_len l (Exts.punchR l fa fn)
      by_cases k1 : place < fa
      · rw [if_neg (by omega)] at hbo hbc
        refine gone_both_lo ad cap l fa fn place h.at_ h.small hlen ha hb hp (by omega) _ _ _ n1 _ p1 p2 p3 hRo (by omega) (by omega) (freed_small _ _) f3 hUo hMo _ _ _ nc _ nl _ _ _ _ c1 c2 c3 hRc (by omega) (by omega) (freed_small _ _) f1 f2 hUc rfl rfl hle k1 (by rw [hbo]) (by rw [hbo]) (by rw [hbc]) (by rw [hbc])
      · by_cases k2 : place < fa + fn
        · rw [if_pos (by omega)] at hbo hbc
          refine gone_both_in ad cap l fa fn place h.at_ h.small hlen ha hb hp (by omega) _ _ _ n1 _ p1 p2 p3 hRo (by omega) (by omega) (freed_small _ _) f3 hUo hMo _ _ _ nc _ nl _ _ _ _ c1 c2 c3 hRc (by omega) (by omega) (freed_small _ _) f1 f2 hUc rfl rfl hle (by omega) k2 (by rw [hbo]; rfl) (by rw [hbo]; rfl) (by rw [hbc]; rfl) (by rw [hbc]; rfl)
        · rw [if_neg (by omega)] at hbo
          rw [if_pos (by omega)] at hbc
          refine gone_both_hi ad cap l fa fn place h.at_ h.small hlen ha hb hp (by omega) _ _ _ n1 _ p1 p2 p3 hRo (by omega) (by omega) (freed_small _ _) f3 hUo hMo _ _ _ nc _ nl _ _ _ _ c1 c2 c3 hRc (by omega) (by omega) (freed_small _ _) f1 f2 hUc rfl rfl hle (by omega) (by omega) (by rw [hbo]) (by rw [hbo]) (by rw [hbc]; rfl) (by rw [hbc]; rfl)
    · obtain ⟨p1, p2, p3⟩ := punch_no (l := l) (a := fa) (n := fn) (fun h => hq h.2)
      refine gone_cut ad cap l fa fn place h.at_ h.small hlen ha hb hp p1 p2 p3 _ _ _ nc _ nl _ _ _ _ c1 c2 c3 hRc (by omega) (by omega) (freed_small _ _) f1 f2 hUc rfl rfl hle ?_
      by_cases k1 : place < fa
      · rw [if_neg (by omega)] at hbc
        rw [hbc]
        exact .inr ⟨k1, rfl, rfl⟩
      · rw [if_pos (by omega)] at hbc
        rw [hbc]
        exact .inl ⟨by omega, rfl, rfl⟩
  · exact gone_no ad cap l fa fn place h.at_ h.small hlen ha hb hp hy

end Go.Proofs.Ytgpjldmndibalaa
