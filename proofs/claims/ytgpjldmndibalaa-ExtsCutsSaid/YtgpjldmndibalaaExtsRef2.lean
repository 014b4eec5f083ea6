/- The document's answers for rows of exts: part, Change. -/
import Derived.Test.YtgpjldmndibalaaExtsRef
import Derived.Test.YtgpjldmndibalaaRunsRefMinus
import Derived.Laws.AppendOwnNone
namespace Go.Proofs.Ytgpjldmndibalaa
open Go Go.RowKit

theorem Exts.part_of (x : Exts.E) (a b : Int) : Exts.part x a b = if max a x.1 < min b (x.1 + x.2.2) then [(max a x.1, x.2.1 + max a x.1 - x.1, min b (x.1 + x.2.2) - max a x.1)] else [] := rfl

set_option maxHeartbeats 2000000 in
theorem part2_yes (xa xb xc a b : Int) (hm : Exts.may (xa, xb, xc)) (ha : 0 ≤ a ∧ a ≤ 9223372036854775807) (hb : -9223372036854775808 ≤ b ∧ b ≤ 9223372036854775807) (k : max a xa < min b (xa + xc)) (w : World) :
    Calls Try.prog 61 #[.agg #[.int .i64 xa, .int .i64 xb, .int .i64 xc], .int .i64 a, .int .i64 b] w fun e w' => e = .returned (.tuple #[.agg #[.int .i64 (max a xa), .int .i64 (xb + max a xa - xa), .int .i64 (min b (xa + xc) - max a xa)], .bool true]) ∧ Below w.heap.size w w' := by
  unfold Exts.may at hm
  dsimp only at hm
  have b1 : Below w.heap.size w ((w.alloc (.cells #[.int .i64 xa, .int .i64 xb, .int .i64 xc] 37)).alloc (.cells #[.int .i64 (max a xa), .int .i64 (xb + max a xa - xa), .int .i64 (min b (xa + xc) - max a xa)] 37)) := below_box (below_box (Below.refl _ _) _) _
  have wx : IntKind.i64.wrap (xa + xc) = xa + xc := IntWalk.i64_in _ (by omega)
  have w1 : IntKind.i64.wrap (xb + max a xa) = xb + max a xa := IntWalk.i64_in _ (by omega)
  have w2 : IntKind.i64.wrap (xb + max a xa - xa) = xb + max a xa - xa := IntWalk.i64_in _ (by omega)
  have w3 : IntKind.i64.wrap (min b (xa + xc) - max a xa) = min b (xa + xc) - max a xa := IntWalk.i64_in _ (by omega)
  have k2 : ¬ min b (xa + xc) ≤ max a xa := by omega
  have B1 := Lib.hid b1
  clear b1
  go_enter Try.func61, Try.ntmps61
  go_wp2_with fail
  exact bodyPost_ret (v := .tuple #[.agg #[.int .i64 (max a xa), .int .i64 (xb + max a xa - xa), .int .i64 (min b (xa + xc) - max a xa)], .bool true]) (by simp [results, Try.results61, go_sem]) rfl ⟨rfl, B1.out⟩
set_option maxHeartbeats 2000000 in
theorem part2_no (xa xb xc a b : Int) (hm : Exts.may (xa, xb, xc)) (k : ¬ max a xa < min b (xa + xc)) (w : World) :
    Calls Try.prog 61 #[.agg #[.int .i64 xa, .int .i64 xb, .int .i64 xc], .int .i64 a, .int .i64 b] w fun e w' => e = .returned (.tuple #[.agg #[.int .i64 0, .int .i64 0, .int .i64 0], .bool false]) ∧ Below w.heap.size w w' := by
  unfold Exts.may at hm
  dsimp only at hm
  have b1 : Below w.heap.size w ((w.alloc (.cells #[.int .i64 xa, .int .i64 xb, .int .i64 xc] 37)).alloc (.cells #[.int .i64 0, .int .i64 0, .int .i64 0] 37)) := below_box (below_box (Below.refl _ _) _) _
  have wx : IntKind.i64.wrap (xa + xc) = xa + xc := IntWalk.i64_in _ (by omega)
  have k2 : min b (xa + xc) ≤ max a xa := by omega
  have B1 := Lib.hid b1
  clear b1
  go_enter Try.func61, Try.ntmps61
  go_wp2_with fail
  exact bodyPost_ret (v := .tuple #[.agg #[.int .i64 0, .int .i64 0, .int .i64 0], .bool false]) (by simp [results, Try.results61, go_sem]) rfl ⟨rfl, B1.out⟩

/-- What Change answers. -/
def Ans2 (w w' : World) (out : EL) (fr : RL) (e : Ending) : Prop := ∃ (v f : Value) (c : Nat), e = .returned (.tuple #[v, f]) ∧ OwnExts w.heap.size w' v out ∧ w.heap.size ≤ c ∧ (∀ k, v.ownBlock = some k → k < c) ∧ OwnRuns c w' f fr ∧ Below w.heap.size w w'

set_option maxRecDepth 100000 in
set_option maxHeartbeats 8000000 in
theorem echange2_any (v um : Value) (l m : EL) (a b : Int) (w : World) (hr : Exts.Row l) (h : ExtsAt w v l) (h2 : ExtsAt w um m) (hl : l.length ≤ 10000) (hml : m.length ≤ 10000) (ha : 0 ≤ a) (ha2 : a ≤ 9223372036854775807) (hb : 0 ≤ b) (hb2 : b ≤ 9223372036854775807)
    (hout : Exts.Row (Exts.changeR l a b m)) :
    Calls Try.prog 44 #[v, .int .i64 a, .int .i64 b, um] w fun e w' => Ans2 w w' (Exts.changeR l a b m) (freedR l (Exts.changeR l a b m)) e := by
  obtain ⟨i0', hi0, hz0, hz1, hz2⟩ := info_parts info_ext
  have H := Lib.hid h
  have H2 := Lib.hid h2
  have HR := Lib.hid hr
  have HO := Lib.hid hout
  obtain ⟨adl, capl, rfl⟩ : ∃ ad cap, v = .slice ad l.length cap := by
    rcases h with ⟨rfl, rfl⟩ | ⟨b, off, cap, rfl, _⟩
    · exact ⟨_, _, rfl⟩
    · exact ⟨_, _, rfl⟩
  have hLL := Lib.hid (change_len l a b m)
  have R0 : Hid (OwnExts w.heap.size w (.slice none 0 0) (Exts.parts (l.take 0) 0 a)) := Lib.hid (World.ownsRow_nil _ _ _ _)
  clear h h2 hr hout
  go_enter Try.func44, Try.ntmps44
  go_wp2_with fail
  go_loopw [10, 11] (fun p q wr => ∃ (u : Value) (j : Nat), u = p ∧ q = .int .i64 j ∧ j ≤ l.length ∧ Hid (OwnExts w.heap.size wr u (Exts.parts (l.take j) 0 a)) ∧ Hid (Below w.heap.size w wr)) (fun _ q _ => l.length - (intOf q).toNat)
  case atStart => exact ⟨_, 0, rfl, rfl, by omega, R0, Lib.hid (Below.refl _ _)⟩
  case round =>
    obtain ⟨u, j, rfl, rfl, hj, ho, hbw⟩ := hrel
    by_cases hlt : j < l.length
    · have i0 : (0 : Int) ≤ (j : Int) := by omega
      have i1 : (j : Int) < (l.length : Int) := by omega
      obtain ⟨hll, g, off, rfl, c0, c1, c2⟩ := (H.out.below (B := 0) hbw.out).cells j hlt
      clear hll
      have hmy := Exts.row_at HR.out hlt
      have hnx := Lib.hid (parts_take l 0 a j hlt)
      have hln : (Exts.parts (l.take j) 0 a).length ≤ 30000 := by have := parts_take_len l 0 a j; omega
      have hbz := hbw.out.size
      generalize l.getD j (0, 0, 0) = x at *
      obtain ⟨xa, xb, xc⟩ := x
      have hpo := Exts.part_of (xa, xb, xc) 0 a
      dsimp only at *
      by_cases kp : max 0 xa < min a (xa + xc)
      · have q := Lib.hid (part2_yes xa xb xc 0 a hmy ⟨by omega, by omega⟩ ⟨by omega, by omega⟩ kp wr)
        rw [if_pos kp] at hpo
        rw [hpo] at hnx
        clear hpo hmy
        generalize max 0 xa = ya at *
        generalize min a (xa + xc) = yn at *
        generalize xb + ya - xa = yb at *
        generalize yn - ya = yc at *
        obtain ⟨R, hR⟩ : ∃ R, Exts.parts (l.take j) 0 a = R := ⟨_, rfl⟩
        rw [hR] at ho hln
        have HRR := Lib.hid hR
        clear hR
        go_wp2_with fail
        refine q.out.mono ?_
        rintro e w4 ⟨rfl, b4⟩
        have bA : Below wr.heap.size wr ((w4.alloc (.cells #[.int .i64 ya, .int .i64 yb, .int .i64 yc] 37)).alloc (.cells #[.int .i64 ya, .int .i64 yb, .int .i64 yc] 37)) := below_box (below_box b4 _) _
        have G := Lib.hid (show ((w4.alloc (.cells #[.int .i64 ya, .int .i64 yb, .int .i64 yc] 37)).alloc (.cells #[.int .i64 ya, .int .i64 yb, .int .i64 yc] 37)).ownsRow w.heap.size 37 3 u R.length (ecells R) from OwnExts.below ho.out bA)
        have NN := Lib.hid (show ∀ jj uu, [Value.int .i64 ya, .int .i64 yb, .int .i64 yc][jj]? = some uu → ((w4.alloc (.cells #[.int .i64 ya, .int .i64 yb, .int .i64 yc] 37)).alloc (.cells #[.int .i64 ya, .int .i64 yb, .int .i64 yc] 37)).cell? ((⟨w4.heap.size + 1, 0, none⟩ : Addr).add jj) = some uu from fun jj uu hjj => by
          have hadd : (⟨w4.heap.size + 1, 0, none⟩ : Addr).add jj = ⟨w4.heap.size + 1, jj, none⟩ := by unfold Addr.add; split <;> simp_all
          rw [hadd, World.cell?_alloc_at _ _ _ _ (by simp)]
          simpa using hjj)
        have hown0 : Hid (∀ k, u.ownBlock = some k → w.heap.size ≤ k) := Lib.hid (fun k hk => (World.ownsRow.lt ho.out k hk).1)
        have HBA := Lib.hid (hbw.out.trans (bA.mono hbz))
        have hz4 : w.heap.size ≤ w4.heap.size := Nat.le_trans hbz b4.size
        have hone := ecells_one [(ya, yb, yc)]
        clear bA b4 q ho hbw
        go_wp2_with (first
          | (at_builtin; refine wpList_append_own _ rfl _ _ 22 rfl w.heap.size 37 i0' (.agg #[.int .i64 0, .int .i64 0, .int .i64 0]) 3 24 Try.underlying22 hi0 hz0 hz1 hz2 rfl (by decide) _ R.length _ rfl G.out ⟨w4.heap.size + 1, 0, none⟩ 1 1 [.int .i64 ya, .int .i64 yb, .int .i64 yc] rfl rfl NN.out hone (by unfold maxLen; omega) (by omega) (by simp; omega) ?_))
        intro v' w5 hown hgrow _
        have B5 : Hid (Below w.heap.size w w5) := Lib.hid (HBA.out.grown hgrow (by simp; omega) (fun k hk => hown0.out k hk))
        have O5 : Hid (OwnExts w.heap.size w5 v' (Exts.parts (l.take (j + 1)) 0 a)) := Lib.hid (by
          rw [hnx.out, HRR.out]
          unfold OwnExts
          rw [ecells_append, List.length_append]
          exact hown)
        clear hown hgrow NN G HBA
        go_wp2_with fail
        go_roundw
        case rel => exact ⟨v', j + 1, rfl, by go_num, by omega, O5, B5⟩
        case measure => simp [intOf]; omega
      · have q := Lib.hid (part2_no xa xb xc 0 a hmy kp wr)
        rw [if_neg kp] at hpo
        rw [hpo, List.append_nil] at hnx
        clear hpo hmy kp
        have O5 : Hid (∀ w4, Below wr.heap.size wr w4 → OwnExts w.heap.size (w4.alloc (.cells #[.int .i64 0, .int .i64 0, .int .i64 0] 37)) u (Exts.parts (l.take (j + 1)) 0 a)) := Lib.hid (fun w4 b4 => by
          rw [hnx.out]
          exact OwnExts.below ho.out (below_box b4 _))
        have B5 : Hid (∀ w4, Below wr.heap.size wr w4 → Below w.heap.size w (w4.alloc (.cells #[.int .i64 0, .int .i64 0, .int .i64 0] 37))) := Lib.hid (fun w4 b4 => hbw.out.trans ((below_box b4 _).mono hbz))
        go_wp2_with fail
        refine q.out.mono ?_
        rintro e w4 ⟨rfl, b4⟩
        have O6 := Lib.hid (O5.out w4 b4)
        have B6 := Lib.hid (B5.out w4 b4)
        clear b4 q O5 B5
        go_wp2_with fail
        go_roundw
        case rel => exact ⟨u, j + 1, rfl, by go_num, by omega, O6, B6⟩
        case measure => simp [intOf]; omega
    · obtain rfl : j = l.length := by omega
      have R1 := Lib.hid ho.out
      have BR1 := hbw
      rw [List.take_length] at R1
      clear ho hbw
      rename_i wr1
      clear R0
      obtain ⟨wp, rfl⟩ : ∃ wp : World, wp = wr := ⟨_, rfl⟩
      have M2 := Lib.hid (H2.out.below (B := 0) BR1.out)
      have hl1 := parts_len l 0 a
      have hok0 : Hid (∀ k, u.ownBlock = some k → w.heap.size ≤ k) := Lib.hid (fun k hk => (World.ownsRow.lt R1.out k hk).1)
      go_upto_region 8 with fail
      go_cut [10] from 37 to 39 (fun p wx => ∃ (u' : Value), u' = p ∧ Hid (OwnExts w.heap.size wx u' (Exts.parts l 0 a ++ m)) ∧ Hid (Below w.heap.size w wx))
      case first =>
        rcases M2.out with ⟨rfl, rfl⟩ | ⟨gm, om, cm, rfl, hcm⟩
        · have R1' : Hid (OwnExts w.heap.size wp u (Exts.parts l 0 a ++ [])) := Lib.hid (by rw [List.append_nil]; exact R1.out)
          go_wp2_with (first
            | (at_builtin; refine wpList_append_own_none rfl _ _ 22 rfl w.heap.size 37 i0' 3 Try.underlying22 hi0 u _ _ rfl R1.out rfl ?_))
          go_meet
          case rel => exact ⟨_, rfl, R1', BR1⟩
        · have hne := Lib.hid (show ∀ j v, (ecells m)[j]? = some v → wp.cell? ((⟨gm, om, none⟩ : Addr).add j) = some v from fun j v hv => by
            have e1 : (⟨gm, om, none⟩ : Addr).add j = ⟨gm, om + j, none⟩ := by unfold Addr.add; split <;> simp_all
            rw [e1]
            exact hcm j v hv)
          have hone := ecells_one m
          have hrl := ecells_length m
          have hbz := BR1.out.size
          obtain ⟨P0, hP0⟩ : ∃ P0, Exts.parts l 0 a = P0 := ⟨_, rfl⟩
          have R1' := Lib.hid R1.out
          rw [hP0] at R1' hl1
          have HP0 := Lib.hid hP0
          clear hP0 hcm R1
          go_wp2_with (first
            | (at_builtin; refine wpList_append_own _ rfl _ _ 22 rfl w.heap.size 37 i0' (.agg #[.int .i64 0, .int .i64 0, .int .i64 0]) 3 24 Try.underlying22 hi0 hz0 hz1 hz2 rfl (by decide) _ P0.length _ rfl R1'.out ⟨gm, om, none⟩ m.length _ (ecells m) rfl hrl hne.out hone (by unfold maxLen; omega) (by omega) hbz ?_))
          intro v' w5 hown hgrow _
          have B5 : Hid (Below w.heap.size w w5) := Lib.hid (BR1.out.grown hgrow hbz (fun k hk => hok0.out k hk))
          have O5 : Hid (OwnExts w.heap.size w5 v' (Exts.parts l 0 a ++ m)) := Lib.hid (by
            rw [HP0.out]
            unfold OwnExts
            rw [ecells_append, List.length_append]
            exact hown)
          clear hown hgrow hne
          go_wp2_with fail
          go_meet
          case rel => exact ⟨_, rfl, O5, B5⟩
      obtain ⟨u2, rfl, R2, BR2⟩ := hcut
      have R2' : Hid (OwnExts w.heap.size wc u2 (Exts.parts l 0 a ++ m ++ Exts.parts (l.take 0) b 2048)) := Lib.hid (by simpa [Exts.parts] using R2.out)
      clear R1 BR1 M2 R2 hok0
      go_wp2_with fail
      go_loopw [10, 14] (fun p q wr => ∃ (u : Value) (j : Nat), u = p ∧ q = .int .i64 j ∧ j ≤ l.length ∧ Hid (OwnExts w.heap.size wr u ((Exts.parts l 0 a ++ m) ++ Exts.parts (l.take j) b 2048)) ∧ Hid (Below w.heap.size w wr)) (fun _ q _ => l.length - (intOf q).toNat)
      case atStart => exact ⟨_, 0, rfl, rfl, by omega, R2', BR2⟩
      case round =>
        obtain ⟨u, j, rfl, rfl, hj, ho, hbw⟩ := hrel
        by_cases hlt : j < l.length
        · have i0 : (0 : Int) ≤ (j : Int) := by omega
          have i1 : (j : Int) < (l.length : Int) := by omega
          obtain ⟨hll, g, off, rfl, c0, c1, c2⟩ := (H.out.below (B := 0) hbw.out).cells j hlt
          clear hll
          have hmy := Exts.row_at HR.out hlt
          have hnx := Lib.hid (parts_take l b 2048 j hlt)
          have hln : ((Exts.parts l 0 a ++ m) ++ Exts.parts (l.take j) b 2048).length ≤ 30000 := by have := parts_take_len l b 2048 j; have := parts_len l 0 a; rw [List.length_append, List.length_append]; omega
          have hbz := hbw.out.size
          generalize l.getD j (0, 0, 0) = x at *
          obtain ⟨xa, xb, xc⟩ := x
          have hpo := Exts.part_of (xa, xb, xc) b 2048
          dsimp only at *
          by_cases kp : max b xa < min 2048 (xa + xc)
          · have q := Lib.hid (part2_yes xa xb xc b 2048 hmy ⟨by omega, by omega⟩ ⟨by omega, by omega⟩ kp wr)
            rw [if_pos kp] at hpo
            rw [hpo] at hnx
            clear hpo hmy
            generalize max b xa = ya at *
            generalize min 2048 (xa + xc) = yn at *
            generalize xb + ya - xa = yb at *
            generalize yn - ya = yc at *
            obtain ⟨R, hR⟩ : ∃ R, (Exts.parts l 0 a ++ m) ++ Exts.parts (l.take j) b 2048 = R := ⟨_, rfl⟩
            rw [hR] at ho hln
            have HRR := Lib.hid hR
            clear hR
            go_wp2_with fail
            refine q.out.mono ?_
            rintro e w4 ⟨rfl, b4⟩
            have bA : Below wr.heap.size wr ((w4.alloc (.cells #[.int .i64 ya, .int .i64 yb, .int .i64 yc] 37)).alloc (.cells #[.int .i64 ya, .int .i64 yb, .int .i64 yc] 37)) := below_box (below_box b4 _) _
            have G := Lib.hid (show ((w4.alloc (.cells #[.int .i64 ya, .int .i64 yb, .int .i64 yc] 37)).alloc (.cells #[.int .i64 ya, .int .i64 yb, .int .i64 yc] 37)).ownsRow w.heap.size 37 3 u R.length (ecells R) from OwnExts.below ho.out bA)
            have NN := Lib.hid (show ∀ jj uu, [Value.int .i64 ya, .int .i64 yb, .int .i64 yc][jj]? = some uu → ((w4.alloc (.cells #[.int .i64 ya, .int .i64 yb, .int .i64 yc] 37)).alloc (.cells #[.int .i64 ya, .int .i64 yb, .int .i64 yc] 37)).cell? ((⟨w4.heap.size + 1, 0, none⟩ : Addr).add jj) = some uu from fun jj uu hjj => by
              have hadd : (⟨w4.heap.size + 1, 0, none⟩ : Addr).add jj = ⟨w4.heap.size + 1, jj, none⟩ := by unfold Addr.add; split <;> simp_all
              rw [hadd, World.cell?_alloc_at _ _ _ _ (by simp)]
              simpa using hjj)
            have hown0 : Hid (∀ k, u.ownBlock = some k → w.heap.size ≤ k) := Lib.hid (fun k hk => (World.ownsRow.lt ho.out k hk).1)
            have HBA := Lib.hid (hbw.out.trans (bA.mono hbz))
            have hz4 : w.heap.size ≤ w4.heap.size := Nat.le_trans hbz b4.size
            have hone := ecells_one [(ya, yb, yc)]
            clear bA b4 q ho hbw
            go_wp2_with (first
              | (at_builtin; refine wpList_append_own _ rfl _ _ 22 rfl w.heap.size 37 i0' (.agg #[.int .i64 0, .int .i64 0, .int .i64 0]) 3 24 Try.underlying22 hi0 hz0 hz1 hz2 rfl (by decide) _ R.length _ rfl G.out ⟨w4.heap.size + 1, 0, none⟩ 1 1 [.int .i64 ya, .int .i64 yb, .int .i64 yc] rfl rfl NN.out hone (by unfold maxLen; omega) (by omega) (by simp; omega) ?_))
            intro v' w5 hown hgrow _
            have B5 : Hid (Below w.heap.size w w5) := Lib.hid (HBA.out.grown hgrow (by simp; omega) (fun k hk => hown0.out k hk))
            have O5 : Hid (OwnExts w.heap.size w5 v' ((Exts.parts l 0 a ++ m) ++ Exts.parts (l.take (j + 1)) b 2048)) := Lib.hid (by
              rw [hnx.out, ← List.append_assoc, HRR.out]
              unfold OwnExts
              rw [ecells_append, List.length_append]
              exact hown)
            clear hown hgrow NN G HBA
            go_wp2_with fail
            go_roundw
            case rel => exact ⟨v', j + 1, rfl, by go_num, by omega, O5, B5⟩
            case measure => simp [intOf]; omega
          · have q := Lib.hid (part2_no xa xb xc b 2048 hmy kp wr)
            rw [if_neg kp] at hpo
            rw [hpo, List.append_nil] at hnx
            clear hpo hmy kp
            have O5 : Hid (∀ w4, Below wr.heap.size wr w4 → OwnExts w.heap.size (w4.alloc (.cells #[.int .i64 0, .int .i64 0, .int .i64 0] 37)) u ((Exts.parts l 0 a ++ m) ++ Exts.parts (l.take (j + 1)) b 2048)) := Lib.hid (fun w4 b4 => by
              rw [hnx.out]
              exact OwnExts.below ho.out (below_box b4 _))
            have B5 : Hid (∀ w4, Below wr.heap.size wr w4 → Below w.heap.size w (w4.alloc (.cells #[.int .i64 0, .int .i64 0, .int .i64 0] 37))) := Lib.hid (fun w4 b4 => hbw.out.trans ((below_box b4 _).mono hbz))
            go_wp2_with fail
            refine q.out.mono ?_
            rintro e w4 ⟨rfl, b4⟩
            have O6 := Lib.hid (O5.out w4 b4)
            have B6 := Lib.hid (B5.out w4 b4)
            clear b4 q O5 B5
            go_wp2_with fail
            go_roundw
            case rel => exact ⟨u, j + 1, rfl, by go_num, by omega, O6, B6⟩
            case measure => simp [intOf]; omega
        · obtain rfl : j = l.length := by omega
          have R3 := Lib.hid ho.out
          have BR3 := hbw
          rw [List.take_length] at R3
          clear ho hbw
          have R4 : Hid (OwnExts w.heap.size wr u (Exts.changeR l a b m)) := R3
          clear R3 R2'
          have hLen : (Exts.changeR l a b m).length ≤ 100000 := by have := hLL.out; omega
          generalize hEq0 : Exts.changeR l a b m = out at *
          have hEq := Lib.hid hEq0
          clear hEq0
          have L_0 := Lib.hid (H.out.below (B := 0) BR3.out)
          have hkk : Hid (∀ k, u.ownBlock = some k → k < wr.heap.size) := Lib.hid (fun k hk => (World.ownsRow.lt R4.out k hk).2)
          obtain ⟨ao, co, rfl⟩ := OwnExts.slice R4.out
          have q1 := Lib.hid (eblocks2_any _ l wr (SmallsE.row HR.out) L_0.out (by omega))
          go_wp2_with fail
          refine q1.out.mono ?_
          rintro e w4 ⟨v4, rfl, o4, b4⟩
          have O_4 := Lib.hid (OwnExts.below R4.out b4)
          have Y4 := Lib.hid (BR3.out.trans (b4.mono BR3.out.size))
          have BL4 := Lib.hid (OwnRuns.at o4)
          have q2 := Lib.hid (eblocks2_any _ out w4 (SmallsE.row HO.out) (OwnExts.at O_4.out) (by omega))
          have z4 := b4.size
          clear o4 b4 q1
          go_wp2_with fail
          refine q2.out.mono ?_
          rintro e w5 ⟨v5, rfl, o5, b5⟩
          have O_5 := Lib.hid (OwnExts.below O_4.out b5)
          have Y5 := Lib.hid (Y4.out.trans (b5.mono Y4.out.size))
          have q3 := Lib.hid (minus2_any _ _ (Exts.blocksR l) (Exts.blocksR out) w5 (Smalls.row (Exts.blocks_row l)) (Smalls.row (Exts.blocks_row out)) (BL4.out.below (B := 0) b5) (OwnRuns.at o5) (by have := eblocks_len l; omega) (by have := eblocks_len out; omega))
          have z5 := b5.size
          clear o5 b5 q2 O_4 BL4
          go_wp2_with fail
          refine q3.out.mono ?_
          rintro e w6 ⟨v6, rfl, o6, b6⟩
          have O_6 := Lib.hid (OwnExts.below O_5.out b6)
          have Y6 := Lib.hid (Y5.out.trans (b6.mono Y5.out.size))
          have FIN : Hid (Ans2 w w6 (Exts.changeR l a b m) (freedR l (Exts.changeR l a b m)) (.returned (.tuple #[.slice ao out.length co, v6]))) := Lib.hid (by
            rw [hEq.out]
            exact ⟨_, _, w5.heap.size, rfl, O_6.out, Y5.out.size, fun k hk => by have := hkk.out k hk; omega, o6, Y6.out⟩)
          clear o6 b6 q3
          go_wp2_with fail
          exact bodyPost_ret (v := .tuple #[.slice ao out.length co, v6]) (by simp [results, Try.results44, go_sem]) rfl FIN.out

end Go.Proofs.Ytgpjldmndibalaa
