/- Laws of devices: alive, the walk. -/
import Derived.Test.YtjoopkdednmllaaDevAlive
namespace Go.Proofs.Ytjoopkdednmllaa
open Go Go.RowKit
variable {B b : Nat} {w : World} {y : Lay} {D : Dev}

/-- The contracts that alive uses, at the device's states. -/
structure Lives (B b : Nat) (y : Lay) : Prop where
  s1 : ∀ w, DevAt B w b y A0 → Calls Try.prog 14 #[.pointer (some ⟨b, 0, none⟩), .int .i64 1, .string (blk 97)] w fun e w' => e = .returned (.int .i64 0) ∧ DevAt B w' b y A1 ∧ Only [b, y.gn, y.gp] w w'
  s2 : ∀ w, DevAt B w b y A1 → Calls Try.prog 17 #[.pointer (some ⟨b, 0, none⟩)] w fun e w' => e = .returned (.int .i64 0) ∧ DevAt B w' b y A2 ∧ Only [b, y.gk, y.gp] w w'
  s3 : ∀ w, DevAt B w b y A2 → Calls Try.prog 14 #[.pointer (some ⟨b, 0, none⟩), .int .i64 1, .string (blk 98)] w fun e w' => e = .returned (.int .i64 0) ∧ DevAt B w' b y A3 ∧ Only [b, y.gn, y.gp] w w'
  s4 : ∀ w, DevAt B w b y A3 → Calls Try.prog 14 #[.pointer (some ⟨b, 0, none⟩), .int .i64 0, .string (blk 99)] w fun e w' => e = .returned (.int .i64 0) ∧ DevAt B w' b y A4 ∧ Only [b, y.gn, y.gp] w w'
  s5 : ∀ w, DevAt B w b y A4 → Calls Try.prog 21 #[.pointer (some ⟨b, 0, none⟩), .int .i64 1] w fun e w' => e = .returned (.tuple #[.string (blk 98), .int .i64 0]) ∧ w = w'
  s6 : ∀ w, DevAt B w b y A4 → Calls Try.prog 23 #[.pointer (some ⟨b, 0, none⟩)] w fun e w' => ∃ g c, e = .returned (.slice (some ⟨g, 0, none⟩) 2 c) ∧ IntsIn w' (some ⟨g, 0, none⟩) [0, 1] ∧ Below w.heap.size w w'
  s7 : ∀ w, DevAt B w b y A4 → Calls Try.prog 33 #[.pointer (some ⟨b, 0, none⟩)] w fun e w' => e = .returned (.string (blk 0 ++ blk 97 ++ blk 0)) ∧ Below w.heap.size w w'
  s8 : ∀ w g c, DevAt B w b y A4 → w.cell? ⟨g, 0, none⟩ = some (.bool false) → w.cell? ⟨g, 1, none⟩ = some (.bool true) → Calls Try.prog 31 #[.pointer (some ⟨b, 0, none⟩), .slice (some ⟨g, 0, none⟩) 2 c] w fun e w' => e = .returned (.string (blk 0 ++ blk 98 ++ blk 0)) ∧ Below w.heap.size w w'
  s9 : ∀ w, DevAt B w b y A4 → Calls Try.prog 28 #[.pointer (some ⟨b, 0, none⟩)] w fun e w' => e = .returned (.int .i64 4) ∧ w = w'
  s10 : ∀ w, DevAt B w b y A4 → Calls Try.prog 26 #[.pointer (some ⟨b, 0, none⟩)] w fun e w' => e = .returned (.bool false) ∧ w = w'

theorem lives (B b : Nat) (y : Lay) : Lives B b y where
  s1 := fun w h => by
    have := write_any h 1 (blk 97) (by rw [blk_size]; decide) (by decide)
    rwa [A1_eq.1, A1_eq.2] at this
  s2 := fun w h => by
    have := flush_any h (by decide)
    rwa [A2_eq.1, A2_eq.2] at this
  s3 := fun w h => by
    have := write_any h 1 (blk 98) (by rw [blk_size]; decide) (by decide)
    rwa [A3_eq.1, A3_eq.2] at this
  s4 := fun w h => by
    have := write_any h 0 (blk 99) (by rw [blk_size]; decide) (by decide)
    rwa [A4_eq.1, A4_eq.2] at this
  s5 := fun w h => by
    have := read_any h 1
    rwa [A4_read.1, A4_read.2] at this
  s6 := fun w h => by
    have := pending_any h
    rw [A4_pend] at this
    refine this.mono ?_
    rintro e w' ⟨v, rfl, ho, hb⟩
    obtain ⟨g, c, rfl⟩ := own_some ho (by decide)
    exact ⟨g, c, rfl, intsIn_own ho, hb⟩
  s7 := fun w h => by
    have := kept_any h A4_sized.1
    rwa [A4_kept] at this
  s8 := fun w g c h c0 c1 => by
    have := crash_any h A4_sized.1 A4_sized.2 (some ⟨g, 0, none⟩) c [false, true] (fun i hi => by
      simp at hi
      rcases (show i = 0 ∨ i = 1 by omega) with rfl | rfl
      · exact ⟨g, 0, rfl, c0⟩
      · exact ⟨g, 0, rfl, c1⟩) (by decide)
    rwa [A4_crash] at this
  s9 := fun w h => acts_any h
  s10 := fun w h => by
    have := dead_any h
    rwa [A4_dead] at this

set_option maxHeartbeats 2000000 in
theorem alive_any (w : World) : Calls Try.prog 13 #[] w fun e w' => e = .returned (.bool true) ∧ Below w.heap.size w w' := by
  have hnew := Lib.hid (newdev_any (w := w) 3 (by decide))
  have hB : Hid (∀ (x : UInt8) w, Calls Try.prog 35 #[bval x] w fun e w' => e = .returned (.string (blk x)) ∧ Below w.heap.size w w') := Lib.hid (fun x w => block_any x w)
  have hB0 := Lib.hid (hB.out 0)
  have hB97 := Lib.hid (hB.out 97)
  have hB98 := Lib.hid (hB.out 98)
  have hB99 := Lib.hid (hB.out 99)
  have HL := Lib.hid (lives w.heap.size)
  have z0 := blk_size 0
  have z97 := blk_size 97
  have z98 := blk_size 98
  have z99 := blk_size 99
  have k0 : bval 0 = .int .u8 0 := rfl
  have k97 : bval 97 = .int .u8 97 := rfl
  have k98 : bval 98 = .int .u8 98 := rfl
  have k99 : bval 99 = .int .u8 99 := rfl
  rw [k0] at hB0
  rw [k97] at hB97
  rw [k98] at hB98
  rw [k99] at hB99
  clear hB k0 k97 k98 k99
  have hsame : Hid (∀ (w : World) (a1 : Option Addr) (c1 : Nat) (a2 : Option Addr) (c2 : Nat), IntsIn w a1 [0, 1] → IntsIn w a2 [0, 1] → Calls Try.prog 24 #[.slice a1 2 c1, .slice a2 2 c2] w fun e w' => e = .returned (.bool true) ∧ Below w.heap.size w w') :=
    Lib.hid (fun w a1 c1 a2 c2 h1 h2 => by have := sameInts_any (w := w) a1 a2 c1 c2 [0, 1] [0, 1] h1 h2 (by decide) (by decide); rwa [decide_eq_true rfl] at this)
  go_enter Try.func13, Try.ntmps13
  go_wp2_with fail
  refine hnew.out.mono ?_
  rintro e w1 ⟨b, rfl, ⟨y, d1⟩, b1⟩
  have L := Lib.hid (HL.out b y)
  have bs : w.heap.size ≤ b ∧ w.heap.size ≤ y.gk ∧ w.heap.size ≤ y.gn ∧ w.heap.size ≤ y.gp := by have := d1.bounds; omega
  have D1 : Hid (DevAt w.heap.size w1 b y A0) := Lib.hid d1
  have B1 := Lib.hid b1
  clear d1 b1 hnew HL
  go_wp2_with fail
  refine (hB97.out _).mono ?_
  rintro e w2 ⟨rfl, b2⟩
  have B2 := Lib.hid (B1.out.trans (b2.mono B1.out.size))
  have D2 := Lib.hid (D1.out.below b2)
  clear b2
  go_wp2_with fail
  refine (L.out.s1 _ D2.out).mono ?_
  rintro e w3 ⟨rfl, d3, o3⟩
  have B3 := Lib.hid (below_only B2.out (Nat.le_refl _) o3 (by simp; omega))
  have D3 := Lib.hid d3
  clear d3 o3 D1 D2 B1 B2
  go_wp2_with fail
  refine (L.out.s2 _ D3.out).mono ?_
  rintro e w4 ⟨rfl, d4, o4⟩
  have B4 := Lib.hid (below_only B3.out (Nat.le_refl _) o4 (by simp; omega))
  have D4 := Lib.hid d4
  clear d4 o4 D3 B3
  go_wp2_with fail
  refine (hB98.out _).mono ?_
  rintro e w5 ⟨rfl, b5⟩
  have B5 := Lib.hid (B4.out.trans (b5.mono B4.out.size))
  have D5 := Lib.hid (D4.out.below b5)
  clear b5
  go_wp2_with fail
  refine (L.out.s3 _ D5.out).mono ?_
  rintro e w6 ⟨rfl, d6, o6⟩
  have B6 := Lib.hid (below_only B5.out (Nat.le_refl _) o6 (by simp; omega))
  have D6 := Lib.hid d6
  clear d6 o6 D5 B5 D4 B4
  go_wp2_with fail
  refine (hB99.out _).mono ?_
  rintro e w7 ⟨rfl, b7⟩
  have B7 := Lib.hid (B6.out.trans (b7.mono B6.out.size))
  have D7 := Lib.hid (D6.out.below b7)
  clear b7
  go_wp2_with fail
  refine (L.out.s4 _ D7.out).mono ?_
  rintro e w8 ⟨rfl, d8, o8⟩
  have B8 := Lib.hid (below_only B7.out (Nat.le_refl _) o8 (by simp; omega))
  have D8 := Lib.hid d8
  clear d8 o8 D7 B7 D6 B6
  go_wp2_with fail
  refine (L.out.s5 _ D8.out).mono ?_
  rintro e w8 ⟨rfl, rfl⟩
  go_wp2_with fail
  refine (hB98.out _).mono ?_
  rintro e w9 ⟨rfl, b9⟩
  have B9 := Lib.hid (B8.out.trans (b9.mono B8.out.size))
  have D9 := Lib.hid (D8.out.below b9)
  clear b9
  go_wp2_with fail
  refine (L.out.s6 _ D9.out).mono ?_
  rintro e w10 ⟨g, c, rfl, i10, b10⟩
  have B10 := Lib.hid (B9.out.trans (b10.mono B9.out.size))
  have D10 := Lib.hid (D9.out.below b10)
  have I10 := Lib.hid i10
  clear b10 i10 D8 B8 D9 B9
  go_wp2_with fail
  have i2 : IntsIn (w10.alloc (.cells #[.int .i64 0, .int .i64 1] 3)) (some ⟨w10.heap.size, 0, none⟩) [0, 1] := fun i hi => by
    refine ⟨_, _, rfl, ?_⟩
    rw [cell_of_row _ _ _ _ _ _ (heap_alloc_new w10 _)]
    rcases (show i = 0 ∨ i = 1 by simp at hi; omega) with rfl | rfl <;> rfl
  have b11 : Below w10.heap.size w10 (w10.alloc (.cells #[.int .i64 0, .int .i64 1] 3)) := (Below.refl _ _).alloc (Nat.le_refl _) _
  refine (hsame.out _ _ _ _ _ (I10.out.below b11) i2).mono ?_
  rintro e w12 ⟨rfl, b12⟩
  have B12 := Lib.hid (B10.out.trans ((b11.trans (b12.mono b11.size)).mono B10.out.size))
  have D12 := Lib.hid ((D10.out.below b11).below b12)
  clear b11 b12 B10 D10 I10 i2
  go_wp2_with fail
  refine (L.out.s7 _ D12.out).mono ?_
  rintro e w13 ⟨rfl, b13⟩
  have B13 := Lib.hid (B12.out.trans (b13.mono B12.out.size))
  have D13 := Lib.hid (D12.out.below b13)
  clear b13 B12 D12
  go_wp2_with fail
  refine (hB0.out _).mono ?_
  rintro e w14 ⟨rfl, b14⟩
  have B14 := Lib.hid (B13.out.trans (b14.mono B13.out.size))
  have D14 := Lib.hid (D13.out.below b14)
  clear b14 B13 D13
  go_wp2_with fail
  refine (hB97.out _).mono ?_
  rintro e w15 ⟨rfl, b15⟩
  have B15 := Lib.hid (B14.out.trans (b15.mono B14.out.size))
  have D15 := Lib.hid (D14.out.below b15)
  clear b15 B14 D14
  go_wp2_with fail
  refine (hB0.out _).mono ?_
  rintro e w16 ⟨rfl, b16⟩
  have B16 := Lib.hid (B15.out.trans (b16.mono B15.out.size))
  have D16 := Lib.hid (D15.out.below b16)
  clear b16 B15 D15
  go_wp2_with fail
  have c0 : (w16.alloc (.cells #[.bool false, .bool true] 4)).cell? ⟨w16.heap.size, 0, none⟩ = some (.bool false) := by rw [cell_of_row _ _ _ _ _ _ (heap_alloc_new w16 _)]; rfl
  have c1 : (w16.alloc (.cells #[.bool false, .bool true] 4)).cell? ⟨w16.heap.size, 1, none⟩ = some (.bool true) := by rw [cell_of_row _ _ _ _ _ _ (heap_alloc_new w16 _)]; rfl
  have b17 : Below w16.heap.size w16 (w16.alloc (.cells #[.bool false, .bool true] 4)) := (Below.refl _ _).alloc (Nat.le_refl _) _
  have D17 := D16.out.below b17
  refine (L.out.s8 _ _ _ D17 c0 c1).mono ?_
  rintro e w18 ⟨rfl, b18⟩
  have B18 := Lib.hid (B16.out.trans ((b17.trans (b18.mono b17.size)).mono B16.out.size))
  have D18 := Lib.hid (D17.below b18)
  clear b17 b18 B16 D16 D17 c0 c1
  go_wp2_with fail
  refine (hB0.out _).mono ?_
  rintro e w19 ⟨rfl, b19⟩
  have B19 := Lib.hid (B18.out.trans (b19.mono B18.out.size))
  have D19 := Lib.hid (D18.out.below b19)
  clear b19 B18 D18
  go_wp2_with fail
  refine (hB98.out _).mono ?_
  rintro e w20 ⟨rfl, b20⟩
  have B20 := Lib.hid (B19.out.trans (b20.mono B19.out.size))
  have D20 := Lib.hid (D19.out.below b20)
  clear b20 B19 D19
  go_wp2_with fail
  refine (hB0.out _).mono ?_
  rintro e w21 ⟨rfl, b21⟩
  have B21 := Lib.hid (B20.out.trans (b21.mono B20.out.size))
  have D21 := Lib.hid (D20.out.below b21)
  clear b21 B20 D20
  go_wp2_with fail
  refine (L.out.s9 _ D21.out).mono ?_
  rintro e w22 ⟨rfl, rfl⟩
  go_wp2_with fail
  refine (L.out.s10 _ D21.out).mono ?_
  rintro e w22 ⟨rfl, rfl⟩
  go_wp2_with fail
  go_ret
  exact ⟨rfl, B21.out⟩

end Go.Proofs.Ytjoopkdednmllaa
