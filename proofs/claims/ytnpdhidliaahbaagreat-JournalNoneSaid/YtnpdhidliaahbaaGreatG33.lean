/- JournalNone: the walk. -/
import Derived.Test.YtnpdhidliaahbaaGreatG27
import Derived.Test.YtnpdhidliaahbaaGreatG32
import Derived.Test.YtnpdhidliaahbaaGreatG31
namespace Go.Proofs.YtnpdhidliaahbaaGreat
set_option linter.unusedVariables false
open Go Go.RowKit

theorem nolog_below {v : Value} {w w' : World} (h : NoLog v w) (hb : Below w.heap.size w w') : NoLog v w' := by
  rcases h with h | ⟨b, h, c⟩
  · exact .inl h
  · exact .inr ⟨b, h, (hb.cell (p := ⟨b, 0, none⟩) (World.block_lt_of_cell? w _ c)).trans c⟩
set_option maxRecDepth 100000 in
set_option maxHeartbeats 8000000 in
theorem JournalNone_core (a1 a2 : Option Addr) (nc nr c1 c2 : Nat) (_h : nc ≤ c1 ∧ nr ≤ c2) (a3 : Option Addr) (c3 nd : Nat) (g : Geo.G) {w : World} :
    Calls Tryz.prog 4 #[.agg #[.slice a1 nc c1, .slice a2 nr c2], .slice a3 nd c3, .agg (Geo.cells g)] w fun e w' => e = .returned (.bool true) ∧ Below w.heap.size w w' := by
  have qF := Lib.hid (fun v (w : World) h => noformat (v := v) g (w := w) h)
  have qO := Lib.hid (fun v (w : World) h => noopen (v := v) g (w := w) h)
  have qR := Lib.hid (fun v (w : World) h => noreplay (v := v) g (w := w) h)
  have qC := Lib.hid (fun v (w : World) h => commit_none (v := v) (vt := .agg #[.slice a1 nc c1, .slice a2 nr c2]) (vd := .slice a3 nd c3) (vc := .slice a1 nc c1) (vr := .slice a2 nr c2) (w := w) h rfl ⟨_, _, _, rfl⟩ ⟨_, _, _, rfl⟩)
  have QA := Lib.hid alive_any
  unfold Geo.cells at *
  obtain ⟨g1, g2, g3, g4, g5, g6, g7, g8, g9⟩ := g
  dsimp only at *
  have B2 : Below w.heap.size w ((w.alloc (.cells #[.slice a1 nc c1, .slice a2 nr c2] 25)).alloc (.cells #[.int .i64 g1, .int .i64 g2, .int .i64 g3, .int .i64 g4, .int .i64 g5, .int .i64 g6, .int .i64 g7, .int .i64 g8, .int .i64 g9] 30)) := ((Below.refl w.heap.size w).alloc (Nat.le_refl _) _).alloc (by simp) _
  have RT := (Row.new w 25 [.slice a1 nc c1, .slice a2 nr c2] rfl).alloc (.cells #[.int .i64 g1, .int .i64 g2, .int .i64 g3, .int .i64 g4, .int .i64 g5, .int .i64 g6, .int .i64 g7, .int .i64 g8, .int .i64 g9] 30)
  have RG := Row.new (w.alloc (.cells #[.slice a1 nc c1, .slice a2 nr c2] 25)) 30 [.int .i64 g1, .int .i64 g2, .int .i64 g3, .int .i64 g4, .int .i64 g5, .int .i64 g6, .int .i64 g7, .int .i64 g8, .int .i64 g9] rfl
  rw [World.size_alloc] at RG
  have HB2 := Lib.hid B2
  have HRT := Lib.hid RT
  have HRG := Lib.hid RG
  have t0 := RT.cellAt 0 rfl
  have t1 := RT.cellAt 1 rfl
  clear B2 RT RG
  by_cases hc : nc ≤ 1000
  · by_cases hr : nr ≤ 1000
    · by_cases hd : nd ≤ 1000
      · have d1 : ¬ (1000 : Int) < (nc : Int) := by omega
        have d2 : ¬ (1000 : Int) < (nr : Int) := by omega
        have d3 : ¬ (1000 : Int) < (nd : Int) := by omega
        go_enter Tryz.func4, Tryz.ntmps4
        go_upto_region 3 with fail
        generalize World.alloc _ _ = w2 at *
        go_wp2_with fail
        have HRT2 := Lib.hid HRT.out
        go_loopw [7, 8, 9, 10, 11, 12, 13] (fun t7 t8 t9 t10 t11 t12 t13 wr => ∃ (i : Nat), i ≤ 2 ∧ t7 = .int .i64 (i : Int) ∧ Hid (Row wr w.heap.size 25 [.slice a1 nc c1, .slice a2 nr c2]) ∧ Hid (Row wr (w.heap.size + 1) 30 [.int .i64 g1, .int .i64 g2, .int .i64 g3, .int .i64 g4, .int .i64 g5, .int .i64 g6, .int .i64 g7, .int .i64 g8, .int .i64 g9]) ∧ Hid (Below w.heap.size w wr)) (fun t7 _ _ _ _ _ _ _ => 2 - (intOf t7).toNat)
        case atStart => exact ⟨0, by omega, rfl, HRT, HRG, HB2⟩
        case round =>
          obtain ⟨i, hi, rfl, HT0, HG0, HB0⟩ := hrel
          by_cases h0 : i = 0
          · obtain rfl := h0
            have HL0 : Hid (NoLog (.pointer none) wr) := Lib.hid (.inl rfl)
            have HD0 : Hid (NoDev (.pointer none) wr) := Lib.hid (.inl rfl)
            have k0 := HG0.out.cellAt 0 rfl; have k1 := HG0.out.cellAt 1 rfl; have k2 := HG0.out.cellAt 2 rfl; have k3 := HG0.out.cellAt 3 rfl; have k4 := HG0.out.cellAt 4 rfl; have k5 := HG0.out.cellAt 5 rfl; have k6 := HG0.out.cellAt 6 rfl; have k7 := HG0.out.cellAt 7 rfl; have k8 := HG0.out.cellAt 8 rfl
            go_wp2_with fail
            refine (qR.out _ _ HD0.out).mono ?_
            rintro e wa1 ⟨rfl, hb⟩
            have HL1 := Lib.hid (nolog_below HL0.out hb)
            have HD1 := Lib.hid (HD0.out.below hb)
            have HB1 := Lib.hid (below_next HB0.out hb)
            have HT1 := Lib.hid (HT0.out.below hb HT0.out.lt)
            have HG1 := Lib.hid (HG0.out.below hb HG0.out.lt)
            clear hb HL0 HD0 HB0 HT0 HG0 k0 k1 k2 k3 k4 k5 k6 k7 k8
            have k0 := HG1.out.cellAt 0 rfl; have k1 := HG1.out.cellAt 1 rfl; have k2 := HG1.out.cellAt 2 rfl; have k3 := HG1.out.cellAt 3 rfl; have k4 := HG1.out.cellAt 4 rfl; have k5 := HG1.out.cellAt 5 rfl; have k6 := HG1.out.cellAt 6 rfl; have k7 := HG1.out.cellAt 7 rfl; have k8 := HG1.out.cellAt 8 rfl
            go_wp2_with fail
            refine (qO.out _ _ HD1.out).mono ?_
            rintro e wa2 ⟨rfl, hb⟩
            have HL2 := Lib.hid (nolog_below HL1.out hb)
            have HD2 := Lib.hid (HD1.out.below hb)
            have HB2 := Lib.hid (below_next HB1.out hb)
            have HT2 := Lib.hid (HT1.out.below hb HT1.out.lt)
            have HG2 := Lib.hid (HG1.out.below hb HG1.out.lt)
            clear hb HL1 HD1 HB1 HT1 HG1 k0 k1 k2 k3 k4 k5 k6 k7 k8
            go_wp2_with fail
            refine (noroom HL2.out).mono ?_
            rintro e wa3 ⟨rfl, rfl⟩
            go_wp2_with fail
            refine (nonext HL2.out).mono ?_
            rintro e wa3 ⟨rfl, rfl⟩
            have t0 := HT2.out.cellAt 0 rfl
            have t1 := HT2.out.cellAt 1 rfl
            go_wp2_with fail
            refine (qC.out _ _ HL2.out).mono ?_
            rintro e wa3 ⟨rfl, hb⟩
            have HL3 := Lib.hid (nolog_below HL2.out hb)
            have HD3 := Lib.hid (HD2.out.below hb)
            have HB3 := Lib.hid (below_next HB2.out hb)
            have HT3 := Lib.hid (HT2.out.below hb HT2.out.lt)
            have HG3 := Lib.hid (HG2.out.below hb HG2.out.lt)
            clear hb HL2 HD2 HB2 HT2 HG2 t0 t1
            go_wp2_with fail
            refine (checkpoint_none HL3.out).mono ?_
            rintro e wa4 ⟨rfl, rfl⟩
            have k0 := HG3.out.cellAt 0 rfl; have k1 := HG3.out.cellAt 1 rfl; have k2 := HG3.out.cellAt 2 rfl; have k3 := HG3.out.cellAt 3 rfl; have k4 := HG3.out.cellAt 4 rfl; have k5 := HG3.out.cellAt 5 rfl; have k6 := HG3.out.cellAt 6 rfl; have k7 := HG3.out.cellAt 7 rfl; have k8 := HG3.out.cellAt 8 rfl
            go_wp2_with fail
            refine (qF.out _ _ HD3.out).mono ?_
            rintro e wa5 ⟨rfl, hb⟩
            have HL4 := Lib.hid (nolog_below HL3.out hb)
            have HD4 := Lib.hid (HD3.out.below hb)
            have HB4 := Lib.hid (below_next HB3.out hb)
            have HT4 := Lib.hid (HT3.out.below hb HT3.out.lt)
            have HG4 := Lib.hid (HG3.out.below hb HG3.out.lt)
            clear hb HL3 HD3 HB3 HT3 HG3 k0 k1 k2 k3 k4 k5 k6 k7 k8
            go_wp2_with fail
            go_roundw
            case rel => exact ⟨1, by omega, by go_num, HT4, HG4, HB4⟩
            case measure => simp [intOf]
          · by_cases h1 : i = 1
            · obtain rfl := h1
              have bA : Below wr.heap.size wr ((wr.alloc (.cells #[.bool false, .pointer none, .int .i64 0, .int .i64 0, .int .i64 0, .int .i64 0, .int .i64 0, .int .i64 0, .int .i64 0, .int .i64 0, .int .i64 0, .int .i64 0, .int .i64 0, .int .u64 0, .int .i64 0] 38)).alloc (.cells #[.slice none 0 0, .slice none 0 0, .slice none 0 0, .bool false, .int .i64 0, .int .i64 0] 42)) := ((Below.refl _ _).alloc (Nat.le_refl _) _).alloc (by simp) _
              have rL := (Row.new wr 38 [.bool false, .pointer none, .int .i64 0, .int .i64 0, .int .i64 0, .int .i64 0, .int .i64 0, .int .i64 0, .int .i64 0, .int .i64 0, .int .i64 0, .int .i64 0, .int .i64 0, .int .u64 0, .int .i64 0] rfl).alloc (.cells #[.slice none 0 0, .slice none 0 0, .slice none 0 0, .bool false, .int .i64 0, .int .i64 0] 42)
              have rD := Row.new (wr.alloc (.cells #[.bool false, .pointer none, .int .i64 0, .int .i64 0, .int .i64 0, .int .i64 0, .int .i64 0, .int .i64 0, .int .i64 0, .int .i64 0, .int .i64 0, .int .i64 0, .int .i64 0, .int .u64 0, .int .i64 0] 38)) 42 [.slice none 0 0, .slice none 0 0, .slice none 0 0, .bool false, .int .i64 0, .int .i64 0] rfl
              rw [World.size_alloc] at rD
              have HT0 := Lib.hid (HT0.out.below bA HT0.out.lt)
              have HG0 := Lib.hid (HG0.out.below bA HG0.out.lt)
              have HB0 := Lib.hid (below_next HB0.out bA)
              have HL0 : Hid (NoLog (.pointer (some ⟨wr.heap.size, 0, none⟩)) ((wr.alloc (.cells #[.bool false, .pointer none, .int .i64 0, .int .i64 0, .int .i64 0, .int .i64 0, .int .i64 0, .int .i64 0, .int .i64 0, .int .i64 0, .int .i64 0, .int .i64 0, .int .i64 0, .int .u64 0, .int .i64 0] 38)).alloc (.cells #[.slice none 0 0, .slice none 0 0, .slice none 0 0, .bool false, .int .i64 0, .int .i64 0] 42))) := Lib.hid (.inr ⟨_, rfl, rL.cellAt 0 rfl⟩)
              have HD0 : Hid (NoDev (.pointer (some ⟨wr.heap.size + 1, 0, none⟩)) ((wr.alloc (.cells #[.bool false, .pointer none, .int .i64 0, .int .i64 0, .int .i64 0, .int .i64 0, .int .i64 0, .int .i64 0, .int .i64 0, .int .i64 0, .int .i64 0, .int .i64 0, .int .i64 0, .int .u64 0, .int .i64 0] 38)).alloc (.cells #[.slice none 0 0, .slice none 0 0, .slice none 0 0, .bool false, .int .i64 0, .int .i64 0] 42))) := Lib.hid (.inr ⟨_, rfl, rD.cellAt 0 rfl⟩)
              clear bA rL rD
              go_upto_region 11 with fail
              generalize World.alloc _ (.cells #[.slice none 0 0, .slice none 0 0, .slice none 0 0, .bool false, .int .i64 0, .int .i64 0] 42) = wa0 at *
              have k0 := HG0.out.cellAt 0 rfl; have k1 := HG0.out.cellAt 1 rfl; have k2 := HG0.out.cellAt 2 rfl; have k3 := HG0.out.cellAt 3 rfl; have k4 := HG0.out.cellAt 4 rfl; have k5 := HG0.out.cellAt 5 rfl; have k6 := HG0.out.cellAt 6 rfl; have k7 := HG0.out.cellAt 7 rfl; have k8 := HG0.out.cellAt 8 rfl
              go_wp2_with fail
              refine (qR.out _ _ HD0.out).mono ?_
              rintro e wa1 ⟨rfl, hb⟩
              have HL1 := Lib.hid (nolog_below HL0.out hb)
              have HD1 := Lib.hid (HD0.out.below hb)
              have HB1 := Lib.hid (below_next HB0.out hb)
              have HT1 := Lib.hid (HT0.out.below hb HT0.out.lt)
              have HG1 := Lib.hid (HG0.out.below hb HG0.out.lt)
              clear hb HL0 HD0 HB0 HT0 HG0 k0 k1 k2 k3 k4 k5 k6 k7 k8
              have k0 := HG1.out.cellAt 0 rfl; have k1 := HG1.out.cellAt 1 rfl; have k2 := HG1.out.cellAt 2 rfl; have k3 := HG1.out.cellAt 3 rfl; have k4 := HG1.out.cellAt 4 rfl; have k5 := HG1.out.cellAt 5 rfl; have k6 := HG1.out.cellAt 6 rfl; have k7 := HG1.out.cellAt 7 rfl; have k8 := HG1.out.cellAt 8 rfl
              go_wp2_with fail
              refine (qO.out _ _ HD1.out).mono ?_
              rintro e wa2 ⟨rfl, hb⟩
              have HL2 := Lib.hid (nolog_below HL1.out hb)
              have HD2 := Lib.hid (HD1.out.below hb)
              have HB2 := Lib.hid (below_next HB1.out hb)
              have HT2 := Lib.hid (HT1.out.below hb HT1.out.lt)
              have HG2 := Lib.hid (HG1.out.below hb HG1.out.lt)
              clear hb HL1 HD1 HB1 HT1 HG1 k0 k1 k2 k3 k4 k5 k6 k7 k8
              go_wp2_with fail
              refine (noroom HL2.out).mono ?_
              rintro e wa3 ⟨rfl, rfl⟩
              go_wp2_with fail
              refine (nonext HL2.out).mono ?_
              rintro e wa3 ⟨rfl, rfl⟩
              have t0 := HT2.out.cellAt 0 rfl
              have t1 := HT2.out.cellAt 1 rfl
              go_wp2_with fail
              refine (qC.out _ _ HL2.out).mono ?_
              rintro e wa3 ⟨rfl, hb⟩
              have HL3 := Lib.hid (nolog_below HL2.out hb)
              have HD3 := Lib.hid (HD2.out.below hb)
              have HB3 := Lib.hid (below_next HB2.out hb)
              have HT3 := Lib.hid (HT2.out.below hb HT2.out.lt)
              have HG3 := Lib.hid (HG2.out.below hb HG2.out.lt)
              clear hb HL2 HD2 HB2 HT2 HG2 t0 t1
              go_wp2_with fail
              refine (checkpoint_none HL3.out).mono ?_
              rintro e wa4 ⟨rfl, rfl⟩
              have k0 := HG3.out.cellAt 0 rfl; have k1 := HG3.out.cellAt 1 rfl; have k2 := HG3.out.cellAt 2 rfl; have k3 := HG3.out.cellAt 3 rfl; have k4 := HG3.out.cellAt 4 rfl; have k5 := HG3.out.cellAt 5 rfl; have k6 := HG3.out.cellAt 6 rfl; have k7 := HG3.out.cellAt 7 rfl; have k8 := HG3.out.cellAt 8 rfl
              go_wp2_with fail
              refine (qF.out _ _ HD3.out).mono ?_
              rintro e wa5 ⟨rfl, hb⟩
              have HL4 := Lib.hid (nolog_below HL3.out hb)
              have HD4 := Lib.hid (HD3.out.below hb)
              have HB4 := Lib.hid (below_next HB3.out hb)
              have HT4 := Lib.hid (HT3.out.below hb HT3.out.lt)
              have HG4 := Lib.hid (HG3.out.below hb HG3.out.lt)
              clear hb HL3 HD3 HB3 HT3 HG3 k0 k1 k2 k3 k4 k5 k6 k7 k8
              go_wp2_with fail
              go_roundw
              case rel => exact ⟨2, by omega, by go_num, HT4, HG4, HB4⟩
              case measure => simp [intOf]
            · obtain rfl : i = 2 := by omega
              go_wp2_with fail
              refine (QA.out _).mono ?_
              rintro e wz ⟨rfl, hb⟩
              go_wp2_with fail
              go_ret
              exact ⟨rfl, below_next HB0.out hb⟩
      · have d1 : ¬ (1000 : Int) < (nc : Int) := by omega
        have d2 : ¬ (1000 : Int) < (nr : Int) := by omega
        have d3 : (1000 : Int) < (nd : Int) := by omega
        go_enter Tryz.func4, Tryz.ntmps4
        go_wp2_with fail
        go_ret
        exact ⟨rfl, HB2.out⟩
    · have d1 : ¬ (1000 : Int) < (nc : Int) := by omega
      have d2 : (1000 : Int) < (nr : Int) := by omega
      go_enter Tryz.func4, Tryz.ntmps4
      go_wp2_with fail
      go_ret
      exact ⟨rfl, HB2.out⟩
  · have d1 : (1000 : Int) < (nc : Int) := by omega
    go_enter Tryz.func4, Tryz.ntmps4
    go_wp2_with fail
    go_ret
    exact ⟨rfl, HB2.out⟩
/-- The law's walk, as the shell wants it. -/
theorem JournalNone_walk (a1 a2 : Option Addr) (nc nr c1 c2 : Nat) (a3 : Option Addr) (c3 : Nat) (l : List Jr.Chg) (g : Geo.G) (h : nc ≤ c1 ∧ nr ≤ c2) {w : World} (_h1 : ChgsIn w (.slice a3 (List.length l) c3) l) (_h2 : GeoIn g) :
    Calls Tryz.prog 4 #[.agg #[.slice a1 nc c1, .slice a2 nr c2], .slice a3 (List.length l) c3, .agg (Geo.cells g)] w fun e w' => e = .returned (.bool true) ∧ Below w.heap.size w w' :=
  JournalNone_core a1 a2 nc nr c1 c2 h a3 c3 l.length g
end Go.Proofs.YtnpdhidliaahbaaGreat
