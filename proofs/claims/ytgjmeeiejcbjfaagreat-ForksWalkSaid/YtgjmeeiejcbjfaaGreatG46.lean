/- ForksWalk: the walk. (Printed by wip/gen/fwalklaw.py.) -/
import Derived.Test.YtgjmeeiejcbjfaaGreatG43
import Derived.Test.YtgjmeeiejcbjfaaGreatG39
import Derived.Test.YtgjmeeiejcbjfaaGreatG45
import Derived.Test.YtgjmeeiejcbjfaaGreatG47
import Derived.Test.YtgjmeeiejcbjfaaGreatG41
namespace Go.Proofs.YtgjmeeiejcbjfaaGreat
set_option linter.unusedVariables false
open Go Go.RowKit

theorem esame_bel (w : World) (v1 v2 : Value) (l : EL) (h1 : ExtsAt w v1 l) (h2 : ExtsAt w v2 l) (hn : l.length ≤ 9223372036854775807) :
    Calls Tryz.prog 22 #[v1, v2] w fun e w' => e = .returned (.bool true) ∧ Below w.heap.size w w' := esame_b w v1 v2 l l h1 h2 hn hn true (by simp)
theorem Row.texts {w : World} {D : Nat} {L : List ByteArray} (h : Row w D 9 (L.map .string)) (hL : L.length = 4096) : TextsAt w.heap.size D w L :=
  ⟨fun b s hs => h.cellAt b (by rw [List.getElem?_map, hs]; rfl), hL, h.lt⟩

set_option maxHeartbeats 8000000 in
set_option maxRecDepth 100000 in
theorem ForksWalk_walk (depth : Int) (ar : Option Addr) (cr : Nat) (root : EL) (ad : Option Addr) (cap : Nat) (cl : CL) (bad : Int) {w : World} (hTI : TreeIn w depth (.slice ar root.length cr) root) (hDI : DiskIn w (.slice ad cl.length cap) cl bad) :
    Calls Tryz.prog 4 #[.agg #[.int .i64 depth, .slice ar root.length cr], .agg #[.slice ad cl.length cap, .int .i64 bad]] w fun e w' => e = .returned (.bool true) ∧ Below w.heap.size w w' := by
  have HR := Lib.hid hTI.root.at_
  have HRs := Lib.hid hTI.root.small
  have HC := Lib.hid hDI.chgs.at_
  have HCs := Lib.hid hDI.chgs.small
  have hd := Lib.hid hTI.depth
  have hbad := Lib.hid hDI.bad
  have hcl := hDI.chgs.len
  have hrl := hTI.root.len
  clear hTI hDI
  generalize hw3 : (w.alloc (.cells #[.int .i64 depth, .slice ar root.length cr] 35)).alloc (.cells #[.slice ad cl.length cap, .int .i64 bad] 38) = w3
  have b3 : Below w.heap.size w w3 := by subst hw3; exact ((Below.refl _ _).alloc (Nat.le_refl _) _).alloc (by simp) _
  have qg := Lib.hid (great_any (.slice ad cl.length cap) cl bad (.slice ar root.length cr) root w3 (HC.out.below b3) ⟨ar, cr, rfl⟩ hcl hrl (fun x hx => (HCs.out x hx).2))
  subst hw3
  go_enter Tryz.func4, Tryz.ntmps4
  go_wp2_with fail
  refine qg.out.mono ?_
  rintro e w4 ⟨rfl, b4⟩
  have B4 := Lib.hid (b3.trans (b4.mono b3.size))
  have t0 : w4.heap[w.heap.size]? = some (.cells #[.int .i64 depth, .slice ar root.length cr] 35 (0, 0)) := by rw [b4.block _ (by simp; omega)]; exact heap_alloc_at (heap_alloc_new _ _) _
  have t1 : w4.heap[w.heap.size + 1]? = some (.cells #[.slice ad cl.length cap, .int .i64 bad] 38 (0, 0)) := by
    rw [b4.block _ (by simp)]
    have h1 := heap_alloc_new (w.alloc (.cells #[.int .i64 depth, .slice ar root.length cr] 35)) (.cells #[.slice ad cl.length cap, .int .i64 bad] 38)
    rw [asz] at h1
    exact h1
  clear b3 b4 qg
  have c10 := cell_of_row _ _ 0 _ _ _ t1
  have c11 := cell_of_row _ _ 1 _ _ _ t1
  generalize hG : (decide (300 < cl.length) || decide (100 < root.length) || greatTo cl) = g at *
  cases g with
  | true =>
    clear HR HC HCs HRs
    go_wp2_with fail
    all_goals (go_ret; exact ⟨rfl, B4.out⟩)
  | false =>
  have qb := Lib.hid (blocks_any (.slice ad cl.length cap) cl bad w4 (HC.out.below B4.out) (by simp [Bool.or_eq_false_iff] at hG; omega) (fun x hx => (HCs.out x hx).1))
  have hgt : greatTo cl = false := by simp only [Bool.or_eq_false_iff] at hG; exact hG.2
  have hrl' : root.length ≤ 100 := by simp [Bool.or_eq_false_iff] at hG; omega
  clear hG hcl hrl
  go_wp2_with fail
  refine qb.out.mono ?_
  rintro e w5 ⟨D, rfl, hD, hrow, b5⟩
  have B5 := Lib.hid (B4.out.trans (b5.mono B4.out.size))
  have HRow := Lib.hid hrow
  have u0 := (b5.block _ (lt_of_block t0)).trans t0
  have u1 := (b5.block _ (lt_of_block t1)).trans t1
  clear qb hrow b5 c10 c11 B4 t0 t1
  have hDl := HRow.out.lt
  have hLn := Lib.hid (diskOf_len cl)
  have hsm : Hid (∀ x y, (⟨diskOf cl, bad⟩ : Forks.Disk).rd x = some y → y.size ≤ 140737488351232) := Lib.hid (fun x y h => by
    rcases diskOf_small hgt y (Forks.rd_mem h) with h | h
    · omega
    · rw [h, zblk_size]; omega)
  generalize diskOf cl = LD at *
  have KEEP : Hid (∀ w', Below w5.heap.size w5 w' → w'.cell? ⟨w.heap.size, 0, none⟩ = some (.int .i64 depth) ∧ w'.cell? ⟨w.heap.size, 1, none⟩ = some (.slice ar root.length cr) ∧ w'.cell? ⟨w.heap.size + 1, 1, none⟩ = some (.int .i64 bad)) := Lib.hid (fun wz hz => by
    have v0 := (hz.block _ (lt_of_block u0)).trans u0
    have v1 := (hz.block _ (lt_of_block u1)).trans u1
    exact ⟨cell_of_row _ _ 0 _ _ _ v0, cell_of_row _ _ 1 _ _ _ v0, cell_of_row _ _ 1 _ _ _ v1⟩)
  have qt := Lib.hid (fun wz (hz : Below w5.heap.size w5 wz) => ntwin_any (.slice ar root.length cr) root wz (HR.out.below (B := 0) (B5.out.trans (hz.mono B5.out.size))) (by omega))
  have ROWK := Lib.hid (fun wz (hz : Below w5.heap.size w5 wz) => HRow.out.below hz hDl)
  clear HRow u0 u1
  go_upto_region 4 with fail
  go_cut [6] from 24 to 29 (fun y wc => ∃ (Y g c : Nat), y = .pointer (some ⟨Y, 0, none⟩) ∧ Hid (WK w w5 D Y g c depth root LD wc))
  case first =>
    -- [[
    have bA : Below w5.heap.size w5 (w5.alloc (.cells #[.int .i64 0, .slice none 0 0] 35)).drew := ((Below.refl _ _).alloc (Nat.le_refl _) _).drew
    have b0 : Below w5.heap.size w5 w5.drew := (Below.refl _ _).drew
    have NA : Hid ((w5.alloc (.cells #[.int .i64 0, .slice none 0 0] 35)).drew.heap[w5.heap.size]? = some (.cells #[.int .i64 0, .slice none 0 0] 35)) := Lib.hid (heap_alloc_new w5 (.cells #[.int .i64 0, .slice none 0 0] 35))
    go_region_held3 (fun w' => w'.cell? ⟨w.heap.size, 0, none⟩ = some (.int .i64 depth) ∧ w'.cell? ⟨w.heap.size, 1, none⟩ = some (.slice ar root.length cr) ∧ w'.cell? ⟨w.heap.size + 1, 1, none⟩ = some (.int .i64 bad))
      (first | (refine KEEP.out _ ?_; assumption) | exact Z7)
      (first
        | (go_at_call 9; (with_reducible refine (qt.out _ bA).mono ?_); rintro e w6 ⟨v6, rfl, t6, b6⟩; have s6 : Below w5.heap.size w5 w6 := bA.trans (b6.mono bA.size); have N6 := (b6.block _ (lt_of_block NA.out)).trans NA.out; obtain ⟨k0, k1, f0, f1⟩ := tree_cells N6; obtain ⟨g, c, rfl, -⟩ := id t6; have X7 := wk_put (depth := depth) (ROWK.out _ s6) (TwinN.mono bA.size t6) N6 (Nat.le_refl _) s6 B5.out hDl _ rfl; have Z7 := KEEP.out _ X7.bel)
        | (go_at_call 9; (with_reducible refine (qt.out _ b0).mono ?_); rintro e w6 ⟨v6, rfl, t6, b6⟩; have s6 : Below w5.heap.size w5 w6 := b0.trans (b6.mono b0.size); have s6A : Below w5.heap.size w5 (w6.alloc (.cells #[.int .i64 0, .slice none 0 0] 35)) := s6.alloc s6.size _; have N6 := heap_alloc_new w6 (.cells #[.int .i64 0, .slice none 0 0] 35); obtain ⟨k0, k1, f0, f1⟩ := tree_cells N6; obtain ⟨g, c, rfl, -⟩ := id t6; have X7 := wk_new (depth := depth) (ROWK.out _ s6) (TwinN.mono b0.size t6) s6 B5.out hDl _ rfl; have Z7 := KEEP.out _ X7.bel)
        | fail "none")
    all_goals first
      | (go_meet; exact ⟨_, _, _, rfl, Lib.hid X7⟩)
      | (go_step; go_meet; exact ⟨_, _, _, rfl, Lib.hid X7⟩)
      | (go_step; go_step; go_meet; exact ⟨_, _, _, rfl, Lib.hid X7⟩)
      | fail "no end"
    -- ]]
  obtain ⟨Y, g, c, rfl, hcut4⟩ := hcut
  have WK0 := Lib.hid hcut4.out
  clear hcut4 qt ROWK
  obtain ⟨res, hres⟩ : ∃ res, Forks.walkT ⟨LD, bad⟩ depth root = res := ⟨_, rfl⟩
  have hwl := Lib.hid (wk_len (d := ⟨LD, bad⟩) (depth := depth) (root := root))
  rw [hres] at hwl
  have HRES := Lib.hid hres
  clear hres
  have hwl1 : (wkR res).length ≤ 2048 := hwl.out.1
  have hwl2 : (wkN res).length ≤ 4096 := hwl.out.2
  have QW := Lib.hid (fun (wz : World) (P : Nat) (h : WK w w5 D Y g c depth root LD wz) (hdk : DiskAt wz.heap.size wz (RDV P (P + 1)) ⟨LD, bad⟩) => show Calls _ _ #[.agg #[.int .i64 depth, .slice (some ⟨g, 0, none⟩) root.length c], _] wz (fun e w' => WalkTold wz res e w') from by
    have := Walk_any P (P + 1) ⟨LD, bad⟩ depth (.slice (some ⟨g, 0, none⟩) root.length c) root HRs.out h.twin.at (by omega) hd.out hdk hsm.out
    rw [HRES.out] at this
    exact this)
  have QR := Lib.hid (fun (wz : World) (h : WK w w5 D Y g c depth root LD wz) => show Calls _ _ _ wz (fun e w' => WalkTold wz res e w') from by
    have := rWalk_any D 4096 LD bad depth hd.out (.slice ar root.length cr) root wz HRs.out (HR.out.below (B := 0) h.all) (by omega) (Row.texts h.row hLn.out) hsm.out
    rw [HRES.out] at this
    exact this)
  go_upto_region 5 with fail
  go_cut [7, 8, 9] from 30 to 39 (fun x y z we => ∃ (p1 p2 : Option Addr) (s1 s2 : Nat), x = .slice p1 (wkR res).length s1 ∧ y = .slice p2 (wkN res).length s2 ∧ z = .int .i64 (wkE res) ∧ Hid (WK w w5 D Y g c depth root LD we ∧ OwnExts wc.heap.size we (.slice p1 (wkR res).length s1) (wkR res) ∧ OwnInts wc.heap.size we (.slice p2 (wkN res).length s2) (wkN res)))
  case first =>
    -- [[
    have zY : w5.heap.size ≤ wc.heap.size := WK0.out.bel.size
    have b0 : Below wc.heap.size wc wc.drew := (Below.refl _ _).drew
    have SB0 := Lib.hid (WK0.out.below b0)
    have hP0 : wc.drew.heap.size = wc.heap.size := rfl
    have K2 : Hid (∀ wz, Below wc.heap.size wc wz → wz.cell? ⟨Y, 0, none⟩ = some (.int .i64 depth) ∧ wz.cell? ⟨Y, 1, none⟩ = some (.slice (some ⟨g, 0, none⟩) root.length c) ∧ wz.cell? ⟨w.heap.size + 1, 1, none⟩ = some (.int .i64 bad)) := Lib.hid (fun wz hz => by
      have h1 := WK0.out.below hz
      have h2 := tree_cells h1.tree
      exact ⟨h2.1, h2.2.1, (KEEP.out _ h1.bel).2.2⟩)
    go_region_held3 (fun w' => w'.cell? ⟨Y, 0, none⟩ = some (.int .i64 depth) ∧ w'.cell? ⟨Y, 1, none⟩ = some (.slice (some ⟨g, 0, none⟩) root.length c) ∧ w'.cell? ⟨w.heap.size + 1, 1, none⟩ = some (.int .i64 bad))
      (first | (refine K2.out _ ?_; assumption) | fail "no S")
      (first
        | (go_at_call 20; (with_reducible refine (reading2_any D bad _).mono ?_); rintro e w6 ⟨rfl, hw6⟩; have Q6 := SB0.out.readP hLn.out bad _ hP0 w6 hw6; have s6 := b0.trans ((read_below hw6).mono b0.size); clear hw6)
        | (go_at_call 19; (with_reducible refine (QW.out _ _ Q6.1 Q6.2).mono ?_); rintro e w7 h7; obtain ⟨b7, p1, s1, p2, s2, rfl, o7, p7⟩ := WalkTold.flat h7; have s7 : Below wc.heap.size wc w7 := s6.trans (b7.mono s6.size); have X7 := WK0.out.below s7)
        | fail "none")
    all_goals first
      | (go_meet; exact ⟨_, _, _, _, rfl, rfl, rfl, Lib.hid ⟨X7, World.ownsRow.mono o7 s6.size, World.ownsRow.mono p7 s6.size⟩⟩)
      | (go_step; go_meet; exact ⟨_, _, _, _, rfl, rfl, rfl, Lib.hid ⟨X7, World.ownsRow.mono o7 s6.size, World.ownsRow.mono p7 s6.size⟩⟩)
      | (go_step; go_step; go_meet; exact ⟨_, _, _, _, rfl, rfl, rfl, Lib.hid ⟨X7, World.ownsRow.mono o7 s6.size, World.ownsRow.mono p7 s6.size⟩⟩)
      | fail "no end"
    -- ]]
  obtain ⟨a1, a2, c1, c2, rfl, rfl, rfl, hcut5⟩ := hcut
  have WK1 := Lib.hid hcut5.out.1
  have zW0 := WK0.out.bel.size
  have HLR := Lib.hid (hcut5.out.2.1.mono zW0)
  have HLN := Lib.hid (hcut5.out.2.2.mono zW0)
  clear hcut5 WK0 zW0
  rename World => wd
  -- the document's answer
  obtain ⟨k0, k1, k2⟩ := KEEP.out _ WK1.out.bel
  have qr := Lib.hid (QR.out _ WK1.out)
  go_wp2_with fail
  refine qr.out.mono ?_
  rintro e w9 h9
  obtain ⟨b9, a3, c3, a4, c4, rfl, o9, p9⟩ := WalkTold.flat h9
  have WL0 := Lib.hid (show WL w w5 D Y g c depth root LD wd.heap.size a1 a2 (wkR res).length (wkN res).length c1 c2 (.slice a3 (wkR res).length c3) (.slice a4 (wkN res).length c4) (wkR res) (wkN res) w9 from ⟨WK1.out.below b9, ⟨_, HLR.out.below b9⟩, ⟨_, HLN.out.below b9⟩, own_lt HLR.out, own_lt HLN.out, o9, p9⟩)
  have q1 := Lib.hid (esame_bel w9 _ _ (wkR res) (OwnExts.at (HLR.out.below b9)) (OwnExts.at o9) (by omega))
  have q2 := Lib.hid (fun wz (hz : Below w9.heap.size w9 wz) => isame_bel wz _ _ (wkN res) (OwnInts.at ((HLN.out.below b9).below hz)) (OwnInts.at (p9.below hz)) (by omega))
  have q3 := Lib.hid (fun wz (hz : Below w9.heap.size w9 wz) => nleft_any w5.heap.size (.slice (some ⟨g, 0, none⟩) root.length c) (.slice ar root.length cr) root wz (WL0.out.below hz).wk.twin (HR.out.below (B := 0) (WL0.out.below hz).wk.all) (by omega))
  clear b9 o9 p9 h9 qr k0 k1 k2 HLR HLN WK1
  go_wp2_with fail
  refine q1.out.mono ?_
  rintro e wa ⟨rfl, ba⟩
  have sa := Lib.hid ba
  clear ba q1
  go_wp2_with fail
  refine (q2.out _ sa.out).mono ?_
  rintro e wb ⟨rfl, bb⟩
  have sb := Lib.hid (sa.out.trans (bb.mono sa.out.size))
  obtain ⟨y0, y1, -, -⟩ := tree_cells (WL0.out.below sb.out).wk.tree
  obtain ⟨k0, k1, k2⟩ := KEEP.out _ (WL0.out.below sb.out).wk.bel
  clear bb q2
  go_wp2_with fail
  refine (q3.out _ sb.out).mono ?_
  rintro e wx ⟨rfl, bx⟩
  have WL1 := Lib.hid (WL0.out.below (sb.out.trans (bx.mono sb.out.size)))
  clear bx q3 sa sb WL0 y0 y1 k0 k1 k2
  go_wp2_with fail
  go_loopw [13] (fun q wr => ∃ k : Nat, k ≤ (wkR res).length ∧ q = .int .i64 k ∧ Hid (WL w w5 D Y g c depth root LD wd.heap.size a1 a2 (wkR res).length (wkN res).length c1 c2 (.slice a3 (wkR res).length c3) (.slice a4 (wkN res).length c4) (wkR res) (wkN res) wr)) (fun q _ => (wkR res).length - (intOf q).toNat)
  case atStart => exact ⟨0, by omega, rfl, WL1⟩
  case round =>
    clear WL1
    obtain ⟨k, hk, rfl, hst⟩ := hrel
    by_cases hlt : k < (wkR res).length
    · obtain ⟨xs, hx⟩ := hst.out.x1
      obtain ⟨gb, rfl, hg, cs, hc⟩ := own_form hx (by omega)
      have i0 : (0 : Int) ≤ (k : Int) := by omega
      have i1 : (k : Int) < ((wkR res).length : Int) := by omega
      have i2 : (k : Int) ≤ 1000000 := by omega
      obtain ⟨⟨u0, d0⟩, f0⟩ := own_there hx (k * 3) (by omega)
      obtain ⟨⟨u1, d1⟩, f1⟩ := own_there hx (k * 3 + 1) (by omega)
      obtain ⟨⟨u2, d2⟩, f2⟩ := own_there hx (k * 3 + 2) (by omega)
      have HN := Lib.hid (((hst.out.put1 rfl (k := k * 3) (by omega) (.int .i64 0)).put1 rfl (k := k * 3 + 1) (by omega) (.int .i64 0)).put1 rfl (k := k * 3 + 2) (by omega) (.int .i64 (-9)))
      clear hx hc hst
      go_wp2_with fail
      go_roundw
      case rel => exact ⟨k + 1, by omega, by go_num, HN⟩
      case measure => simp [intOf]; omega
    · obtain rfl : k = (wkR res).length := by omega
      have SL13 := Lib.hid hst.out
      clear hst hlt hk
      go_wp2_with fail
      go_loopw [14] (fun q wr => ∃ k : Nat, k ≤ (wkN res).length ∧ q = .int .i64 k ∧ Hid (WL w w5 D Y g c depth root LD wd.heap.size a1 a2 (wkR res).length (wkN res).length c1 c2 (.slice a3 (wkR res).length c3) (.slice a4 (wkN res).length c4) (wkR res) (wkN res) wr)) (fun q _ => (wkN res).length - (intOf q).toNat)
      case atStart => exact ⟨0, by omega, rfl, SL13⟩
      case round =>
        clear SL13
        obtain ⟨k, hk, rfl, hst⟩ := hrel
        by_cases hlt : k < (wkN res).length
        · obtain ⟨xs, hx⟩ := hst.out.x2
          obtain ⟨gb, rfl, hg, cs, hc⟩ := own_form hx (by omega)
          have i0 : (0 : Int) ≤ (k : Int) := by omega
          have i1 : (k : Int) < ((wkN res).length : Int) := by omega
          have i2 : (k : Int) ≤ 1000000 := by omega
          obtain ⟨⟨u0, d0⟩, f0⟩ := own_there hx (k) (by omega)
          have HN := Lib.hid (hst.out.put2 rfl (k := k) (by omega) (.int .i64 (-9)))
          clear hx hc hst
          go_wp2_with fail
          go_roundw
          case rel => exact ⟨k + 1, by omega, by go_num, HN⟩
          case measure => simp [intOf]; omega
        · obtain rfl : k = (wkN res).length := by omega
          have SL14 := Lib.hid hst.out
          clear hst hlt hk
          rename World => wf
          go_upto_region 17 with fail
          go_cut [15, 16, 17] from 95 to 104 (fun x y z we => ∃ (p1 p2 : Option Addr) (s1 s2 : Nat), x = .slice p1 (wkR res).length s1 ∧ y = .slice p2 (wkN res).length s2 ∧ z = .int .i64 (wkE res) ∧ Hid (WL w w5 D Y g c depth root LD wd.heap.size a1 a2 (wkR res).length (wkN res).length c1 c2 (.slice a3 (wkR res).length c3) (.slice a4 (wkN res).length c4) (wkR res) (wkN res) we ∧ OwnExts wf.heap.size we (.slice p1 (wkR res).length s1) (wkR res) ∧ OwnInts wf.heap.size we (.slice p2 (wkN res).length s2) (wkN res)))
          case first =>
            -- [[
            have zY : w5.heap.size ≤ wf.heap.size := SL14.out.wk.bel.size
            have b0 : Below wf.heap.size wf wf.drew := (Below.refl _ _).drew
            have SB0 := Lib.hid (SL14.out.wk.below b0)
            have hP0 : wf.drew.heap.size = wf.heap.size := rfl
            have K2 : Hid (∀ wz, Below wf.heap.size wf wz → wz.cell? ⟨Y, 0, none⟩ = some (.int .i64 depth) ∧ wz.cell? ⟨Y, 1, none⟩ = some (.slice (some ⟨g, 0, none⟩) root.length c) ∧ wz.cell? ⟨w.heap.size + 1, 1, none⟩ = some (.int .i64 bad)) := Lib.hid (fun wz hz => by
              have h1 := SL14.out.wk.below hz
              have h2 := tree_cells h1.tree
              exact ⟨h2.1, h2.2.1, (KEEP.out _ h1.bel).2.2⟩)
            go_region_held3 (fun w' => w'.cell? ⟨Y, 0, none⟩ = some (.int .i64 depth) ∧ w'.cell? ⟨Y, 1, none⟩ = some (.slice (some ⟨g, 0, none⟩) root.length c) ∧ w'.cell? ⟨w.heap.size + 1, 1, none⟩ = some (.int .i64 bad))
              (first | (refine K2.out _ ?_; assumption) | fail "no S")
              (first
                | (go_at_call 20; (with_reducible refine (reading2_any D bad _).mono ?_); rintro e w6 ⟨rfl, hw6⟩; have Q6 := SB0.out.readP hLn.out bad _ hP0 w6 hw6; have s6 := b0.trans ((read_below hw6).mono b0.size); clear hw6)
                | (go_at_call 19; (with_reducible refine (QW.out _ _ Q6.1 Q6.2).mono ?_); rintro e w7 h7; obtain ⟨b7, p1, s1, p2, s2, rfl, o7, p7⟩ := WalkTold.flat h7; have s7 : Below wf.heap.size wf w7 := s6.trans (b7.mono s6.size); have X7 := SL14.out.below s7)
                | fail "none")
            all_goals first
              | (go_meet; exact ⟨_, _, _, _, rfl, rfl, rfl, Lib.hid ⟨X7, World.ownsRow.mono o7 s6.size, World.ownsRow.mono p7 s6.size⟩⟩)
              | (go_step; go_meet; exact ⟨_, _, _, _, rfl, rfl, rfl, Lib.hid ⟨X7, World.ownsRow.mono o7 s6.size, World.ownsRow.mono p7 s6.size⟩⟩)
              | (go_step; go_step; go_meet; exact ⟨_, _, _, _, rfl, rfl, rfl, Lib.hid ⟨X7, World.ownsRow.mono o7 s6.size, World.ownsRow.mono p7 s6.size⟩⟩)
              | fail "no end"
            -- ]]
          obtain ⟨e1, e2, f1, f2, rfl, rfl, rfl, hcut6⟩ := hcut
          have q1 := Lib.hid (esame_bel _ _ _ (wkR res) (OwnExts.at hcut6.out.2.1) (OwnExts.at hcut6.out.1.r) (by omega))
          rename World => wh
          have q2 := Lib.hid (fun wz (hz : Below wh.heap.size wh wz) => isame_bel wz _ _ (wkN res) (OwnInts.at (hcut6.out.2.2.below hz)) (OwnInts.at (hcut6.out.1.n.below hz)) (by omega))
          have q3 := Lib.hid (fun wz (hz : Below wh.heap.size wh wz) => nleft_any w5.heap.size (.slice (some ⟨g, 0, none⟩) root.length c) (.slice ar root.length cr) root wz (hcut6.out.1.below hz).wk.twin (HR.out.below (B := 0) (hcut6.out.1.below hz).wk.all) (by omega))
          have hal := Lib.hid (fun w => alive_any w)
          have HW := Lib.hid hcut6.out.1
          clear hcut6 SL14
          go_wp2_with fail
          refine q1.out.mono ?_
          rintro e wa ⟨rfl, ba⟩
          have sa := Lib.hid ba
          clear ba q1
          go_wp2_with fail
          refine (q2.out _ sa.out).mono ?_
          rintro e wb ⟨rfl, bb⟩
          have sb := Lib.hid (sa.out.trans (bb.mono sa.out.size))
          obtain ⟨y0, y1, -, -⟩ := tree_cells (HW.out.below sb.out).wk.tree
          obtain ⟨k0, k1, k2⟩ := KEEP.out _ (HW.out.below sb.out).wk.bel
          clear bb q2
          go_wp2_with fail
          refine (q3.out _ sb.out).mono ?_
          rintro e wx ⟨rfl, bx⟩
          have W9 := Lib.hid (HW.out.below (sb.out.trans (bx.mono sb.out.size))).wk.all
          clear bx q3 sa sb HW y0 y1 k0 k1 k2
          go_wp2_with fail
          refine (hal.out _).mono ?_
          rintro e wy ⟨rfl, by_⟩
          have W10 := Lib.hid (W9.out.trans (by_.mono W9.out.size))
          clear by_
          go_wp2_with fail
          go_ret
          exact ⟨rfl, W10.out⟩
end Go.Proofs.YtgjmeeiejcbjfaaGreat
