/- The document's records: Decode, Mask, Unmask. -/
import Derived.Test.YtnpdhidliaahbaaGreatR51
import Derived.Test.YtnpdhidliaahbaaGreatR19
import Derived.Test.YtnpdhidliaahbaaGreatR25
set_option linter.unusedSimpArgs false
set_option linter.unusedVariables false
namespace Go.Proofs.YtnpdhidliaahbaaGreat
open Go.Lib (hid)
open Go Go.RowKit
theorem head4 (s : ByteArray) : ((s.extract 0 4).toList == [71, 76, 74, 119]) = decide (s.data.toList.take 4 = Rec.magic) := by
 have e0 : s.extract 0 4 = txt (s.data.toList.take 4) := by
  conv => lhs; rw [← txt_of s]
  rw [txt_cut, List.drop_zero]
 have e1 : (s.extract 0 4).toList = s.data.toList.take 4 := by rw [e0, ByteArray.toList_eq, txt_list]
 rw [e1]
 show (_ == Rec.magic) = _
 rw [Bool.eq_iff_iff]
 simp
theorem getW1 (s : ByteArray) (i : Nat) (h : i < s.size) : getW s.data.toList i 1 = s[i].toNat := by
 rw [getW_succ _ _ _ (by rw [list_length]; omega), getW_zero]
 simp [← byte_at s i h]
def mbit (l : Bytes) (n i : Nat) : Bool := decide (14 + 2 * n + i < 128) && (getW l (14 + 2 * n + i) 1 == 1)
def mbits (l : Bytes) (n j : Nat) : List Bool := (List.range j).map (mbit l n)
theorem mbits_succ (l : Bytes) (n j : Nat) : mbits l n (j + 1) = mbits l n j ++ [mbit l n j] := by simp [mbits, List.range_succ]
theorem mbits_length (l : Bytes) (n j : Nat) : (mbits l n j).length = j := by simp [mbits]
theorem mbits_getM (l : Bytes) (n : Nat) (h : n ≤ 24) : mbits l n n = Rec.getM l (14 + 2 * n) n := by
 unfold mbits Rec.getM
 refine List.map_congr_left fun i hi => ?_
 have := List.mem_range.1 hi
 unfold mbit
 rw [decide_eq_true (by omega), Bool.true_and]
theorem dpush2 {A X k n n5 : Nat} {w w9 w5 : World} {E : TypeId} {v v5 : Value} {ys ys5 zs xs : List Value} {o : Obj} (hAX : A < X) (rA : Row w9 A 61 zs) (rX : Row w9 X 61 xs) (ho : (w9.alloc o).ownsRow A E 1 v n ys) (B : Below A w w9) (hA : A ≤ w.heap.size) (hgrow : (w9.alloc o).grownBy w5 v.ownBlock) (hown : w5.ownsRow A E 1 v5 n5 ys5) (h1 : E ≠ 61) :
  Row (w5.setCell ⟨X, k, none⟩ v5) A 61 zs ∧ Row (w5.setCell ⟨X, k, none⟩ v5) X 61 (xs.set k v5) ∧ (w5.setCell ⟨X, k, none⟩ v5).ownsRow A E 1 v5 n5 ys5 ∧ Below A w (w5.setCell ⟨X, k, none⟩ v5) := by
 have rA5 := row_grownR (rA.alloc o) ho hgrow (Ne.symm h1)
 have rX5 := row_grownR (rX.alloc o) ho hgrow (Ne.symm h1)
 have hs := B.size
 have B5 : Below A w w5 := (B.alloc (Nat.le_trans hA hs) o).grown hgrow (by simp; omega) (fun j hj => (World.ownsRow.lt ho j hj).1)
 exact ⟨rA5.other (by dsimp only; omega) _, rX5.set k _, own_setR (a := ⟨X, k, none⟩) rX5 hown h1, B5.setCell (by dsimp only; omega) _⟩
set_option maxRecDepth 100000 in
set_option maxHeartbeats 8000000 in
theorem ddecode_any (s : ByteArray) (w : World) (hs : s.size ≤ 140737488351232) :
  Calls Tryz.prog 127 #[.string s] w fun e w' => ∃ v, e = .returned (.tuple #[v, .int .i64 (Rec.decE s.data.toList)]) ∧ RecAt w' v (Rec.decV s.data.toList) ∧ RecOwn w.heap.size w' v (Rec.decV s.data.toList) ∧ Below w.heap.size w w' := by
 have BA := hid ((Below.refl w.heap.size w).alloc (Nat.le_refl _) (.cells #[.int .i64 0, .int .u64 0, .int .i64 0, .slice none 0 0, .slice none 0 0, .int .u32 0] 61))
 have RA0 := hid (Row.new w 61 [.int .i64 0, .int .u64 0, .int .i64 0, .slice none 0 0, .slice none 0 0, .int .u32 0] rfl)
 by_cases h1 : s.size = 128
 case neg =>
  obtain ⟨e1, e2⟩ := Rec.dec_no (Rec.dec_short (s := s.data.toList) (.inl (by rw [list_length]; exact h1)))
  rw [e1, e2]
  have h1' : ((s.size : Int) != 128) = true := by rw [bne_iff_ne]; omega
  have a0 := RA0.out.cellAt 0 rfl; have fa0 := RA0.out.free 0 (by simp); have a1 := RA0.out.cellAt 1 rfl; have fa1 := RA0.out.free 1 (by simp); have a2 := RA0.out.cellAt 2 rfl; have fa2 := RA0.out.free 2 (by simp); have a3 := RA0.out.cellAt 3 rfl; have fa3 := RA0.out.free 3 (by simp); have a4 := RA0.out.cellAt 4 rfl; have fa4 := RA0.out.free 4 (by simp); have a5 := RA0.out.cellAt 5 rfl; have fa5 := RA0.out.free 5 (by simp)
  have rF := ((((((RA0.out.set 0 (.int .i64 0)).set 1 (.int .u64 0)).set 2 (.int .i64 0)).set 3 (.slice none 0 0)).set 4 (.slice none 0 0)).set 5 (.int .u32 0))
  obtain ⟨c0, c1, c2, c3, c4, c5⟩ := rF.c6
  have BF := ((((((BA.out.sC 0 (.int .i64 0)).sC 1 (.int .u64 0)).sC 2 (.int .i64 0)).sC 3 (.slice none 0 0)).sC 4 (.slice none 0 0)).sC 5 (.int .u32 0))
  have HBF := hid BF
  clear e1 e2 h1 rF BF
  go_enter Tryz.func127, Tryz.ntmps127
  go_wp2_with fail
  exact bodyPost_ret (v := .tuple #[.agg #[.int .i64 0, .int .u64 0, .int .i64 0, .slice none 0 0, .slice none 0 0, .int .u32 0], .int .i64 80]) (by simp [results, Tryz.results127, go_sem]) rfl ⟨_, rfl, recat_none _, recown_none _ _, BA.out⟩
 by_cases h2 : s.data.toList.take 4 = Rec.magic
 case neg =>
  obtain ⟨e1, e2⟩ := Rec.dec_no (Rec.dec_short (s := s.data.toList) (.inr h2))
  rw [e1, e2]
  have h1' : ((s.size : Int) != 128) = false := by rw [bne_eq_false_iff_eq]; omega
  have hm := head4 s
  rw [decide_eq_false h2] at hm
  have hle : 4 ≤ s.size := by omega
  have a0 := RA0.out.cellAt 0 rfl; have fa0 := RA0.out.free 0 (by simp); have a1 := RA0.out.cellAt 1 rfl; have fa1 := RA0.out.free 1 (by simp); have a2 := RA0.out.cellAt 2 rfl; have fa2 := RA0.out.free 2 (by simp); have a3 := RA0.out.cellAt 3 rfl; have fa3 := RA0.out.free 3 (by simp); have a4 := RA0.out.cellAt 4 rfl; have fa4 := RA0.out.free 4 (by simp); have a5 := RA0.out.cellAt 5 rfl; have fa5 := RA0.out.free 5 (by simp)
  have hm2 : (!(s.extract 0 4).toList == [71, 76, 74, 119]) = true := by rw [hm]; rfl
  clear e1 e2 h1 h2
  go_enter Tryz.func127, Tryz.ntmps127
  go_wp2_with fail
  exact bodyPost_ret (v := .tuple #[.agg #[.int .i64 0, .int .u64 0, .int .i64 0, .slice none 0 0, .slice none 0 0, .int .u32 0], .int .i64 80]) (by simp [results, Tryz.results127, go_sem]) rfl ⟨_, rfl, recat_none _, recown_none _ _, BA.out⟩
 have hl : s.data.toList.length = 128 := by rw [list_length]; exact h1
 have hm := head4 s
 rw [decide_eq_true h2] at hm
 have hm2 : (!(s.extract 0 4).toList == [71, 76, 74, 119]) = false := by rw [hm]; rfl
 have h1' : ((s.size : Int) != 128) = false := by rw [bne_eq_false_iff_eq]; omega
 have hw64 := getW_lt s.data.toList 5 8
 have HL := hid hl
 have HS := hid h1
 have i4 : 4 < s.size := by omega
 have i13 : 13 < s.size := by omega
 have hle : 4 ≤ s.size := by omega
 have e4 := getW1 s 4 i4
 have e13 := getW1 s 13 i13
 have hw8 := s[4].toNat_lt
 have hw9 := s[13].toNat_lt
 have raw1 : Hid (getW s.data.toList 4 1 = 1 → Rec.raw s.data.toList = ⟨1, getW s.data.toList 5 8, (getW s.data.toList 13 2 : Nat), [], [], 0⟩) := hid (fun h => by unfold Rec.raw; rw [if_pos h])
 have raw4 : Hid (getW s.data.toList 4 1 = 4 → Rec.raw s.data.toList = ⟨4, getW s.data.toList 5 8, 0, [], [], getW s.data.toList 13 4⟩) := hid (fun h => by unfold Rec.raw; rw [if_neg (by omega), if_pos h])
 have raw2 : Hid (getW s.data.toList 4 1 = 2 → Rec.raw s.data.toList = ⟨2, getW s.data.toList 5 8, 0, Rec.getH s.data.toList (getW s.data.toList 13 1), Rec.getM s.data.toList (14 + 2 * getW s.data.toList 13 1) (getW s.data.toList 13 1), 0⟩) := hid (fun h => by unfold Rec.raw; rw [if_neg (by omega), if_neg (by omega), if_pos h])
 have raw3 : Hid (getW s.data.toList 4 1 = 3 → Rec.raw s.data.toList = ⟨3, getW s.data.toList 5 8, 0, Rec.getH s.data.toList (getW s.data.toList 13 1), [], 0⟩) := hid (fun h => by unfold Rec.raw; rw [if_neg (by omega), if_neg (by omega), if_neg (by omega), if_pos h])
 have raw0 : Hid (getW s.data.toList 4 1 ≠ 1 → getW s.data.toList 4 1 ≠ 2 → getW s.data.toList 4 1 ≠ 3 → getW s.data.toList 4 1 ≠ 4 → Rec.raw s.data.toList = ⟨(getW s.data.toList 4 1 : Nat), getW s.data.toList 5 8, 0, [], [], 0⟩) := hid (fun h1 h2 h3 h4 => by unfold Rec.raw; rw [if_neg h1, if_neg h4, if_neg h2, if_neg h3])
 rw [e4] at raw1 raw2 raw3 raw4 raw0
 rw [e13] at raw2 raw3
 obtain ⟨K, hK⟩ : ∃ K, s[4].toNat = K := ⟨_, rfl⟩
 obtain ⟨n, hn⟩ : ∃ n, s[13].toNat = n := ⟨_, rfl⟩
 rw [hK] at raw1 raw2 raw3 raw4 raw0 hw8
 rw [hn] at raw2 raw3 hw9
 have HG : Hid (∀ (at_ k : Nat) (w : World), SizeOk k → at_ + k ≤ 128 → Calls Tryz.prog 156 #[.string s, .int .i64 (at_ : Int), .int .i64 (k : Int)] w fun e w' => e = .returned (.tuple #[.int .u64 (getW s.data.toList at_ k : Nat), .bool true]) ∧ w = w') := hid (fun at_ k w hk ha => dget_any s at_ k hk hs (by omega) w)
 have qg : Hid (∀ w, Calls Tryz.prog 156 #[.string s, .int .i64 5, .int .i64 8] w fun e w' => e = .returned (.tuple #[.int .u64 (getW s.data.toList 5 8 : Nat), .bool true]) ∧ w = w') := hid (fun w => HG.out 5 8 w (.inr (.inr (.inr rfl))) (by decide))
 generalize getW s.data.toList 5 8 = Q at *
 have RX0 := hid (Row.new (w.alloc (.cells #[.int .i64 0, .int .u64 0, .int .i64 0, .slice none 0 0, .slice none 0 0, .int .u32 0] 61)) 61 [.int .i64 (K : Int), .int .u64 (Q : Int), .int .i64 0, .slice none 0 0, .slice none 0 0, .int .u32 0] rfl)
 have RA1 := hid (RA0.out.alloc (.cells #[.int .i64 (K : Int), .int .u64 (Q : Int), .int .i64 0, .slice none 0 0, .slice none 0 0, .int .u32 0] 61))
 have B2 := hid (BA.out.alloc (by simp) (.cells #[.int .i64 (K : Int), .int .u64 (Q : Int), .int .i64 0, .slice none 0 0, .slice none 0 0, .int .u32 0] 61))
 have hsz1 : (w.alloc (.cells #[.int .i64 0, .int .u64 0, .int .i64 0, .slice none 0 0, .slice none 0 0, .int .u32 0] 61)).heap.size = w.heap.size + 1 := World.size_alloc _ _
 rw [hsz1] at RX0
 clear h1 h2 hl e4 e13 RA0 BA hsz1
 go_enter Tryz.func127, Tryz.ntmps127
 go_wp2_with fail
 refine (qg.out _).mono ?_
 rintro e w1 ⟨rfl, rfl⟩
 go_upto_region 7 with fail
 generalize (w.alloc _).alloc _ = w2 at *
 have n1 : w.heap.size < w.heap.size + 1 := by omega
 generalize w.heap.size + 1 = X at *
 have xk := RX0.out.cellAt 0 rfl
 have HQ : Hid (Q < 2 ^ 64) := hid (by omega)
 clear hK hn hm hm2 hw64 h1' hle i4 i13 qg
 by_cases ek : K = 1
 ·subst ek
  have hr := hid (raw1.out rfl)
  have hv2 := getW_lt s.data.toList 13 2
  have G2 : Hid (Calls Tryz.prog 156 #[.string s, .int .i64 13, .int .i64 2] w2 fun e w' => e = .returned (.tuple #[.int .u64 (getW s.data.toList 13 2 : Nat), .bool true]) ∧ w2 = w') := hid (HG.out 13 2 w2 (.inr (.inl rfl)) (by decide))
  clear raw1 raw2 raw3 raw4 raw0 HG
  generalize getW s.data.toList 13 2 = V at *
  have HV : Hid (V < 2 ^ 32) := hid (by (have : (256 : Nat) ^ 2 ≤ 2 ^ 32 := by decide); omega)
  have HV' : V < 4294967296 := HV.out
  clear hv2
  have xf := RX0.out.cellAt 2 rfl
  have ff := RX0.out.free 2 (by simp)
  have hwv : IntKind.u32.wrap (V : Int) = (V : Int) := by
   simp only [IntKind.wrap, IntKind.bits, IntKind.signed]
   exact Int.emod_eq_of_lt (by omega) (by omega)
  have RX9 := hid (RX0.out.set 2 (.int .i64 (V : Int)))
  have RA9 := hid (RA1.out.other (a := ⟨X, 2, none⟩) (by simp; omega) (.int .i64 (V : Int)))
  have B9 := hid (B2.out.setCell (p := ⟨X, 2, none⟩) (by dsimp only; omega) (.int .i64 (V : Int)))
  clear RX0 RA1 B2 xk
  go_wp2_with fail
  refine G2.out.mono ?_
  rintro e w1' ⟨rfl, rfl⟩
  clear G2
  go_upto_region 24 with fail
  generalize w2.setCell _ _ = w9 at *
  clear xf ff hwv
  have HE := hid (dencode_any (.agg #[.int .i64 1, .int .u64 (Q : Int), .int .i64 (V : Int), .slice none 0 0, .slice none 0 0, .int .u32 0]) (⟨1, Q, (V : Int), [], [], 0⟩ : Rec.V) w9 ⟨⟨_, _, rfl, .inl ⟨rfl, rfl⟩, .inl ⟨rfl, rfl⟩⟩, HQ.out, (by decide : (0 : Nat) < 2 ^ 32), by dsimp only; omega, by dsimp only; omega, by dsimp only; simp⟩)
  have hend := hid (Rec.dec_end HL.out (x := (⟨1, Q, (V : Int), [], [], 0⟩ : Rec.V)) (bad := false) (.inl ⟨rfl, hr.out.symm⟩))
  have hE2 : (Rec.encR (⟨1, Q, (V : Int), [], [], 0⟩ : Rec.V)).2 = 0 ∨ (Rec.encR (⟨1, Q, (V : Int), [], [], 0⟩ : Rec.V)).2 = 2 := by unfold Rec.encR; split <;> simp
  obtain ⟨xr, hxr⟩ : ∃ xr, (⟨1, Q, (V : Int), [], [], 0⟩ : Rec.V) = xr := ⟨_, rfl⟩
  rw [hxr] at hend hE2
  have HXR := hid hxr
  rw [hxr] at HE
  clear hxr
  generalize Rec.encR xr = ER at *
  obtain ⟨e1, e2⟩ := ER
  obtain ⟨x0, x1, x2, x3, x4, x5⟩ := RX9.out.c6
  dsimp only at hE2 HE hend
  rcases hE2 with rfl | rfl
  ·by_cases hY : txt e1 = s
   ·obtain ⟨d1, d2⟩ := Rec.dec_yes (show Rec.dec s.data.toList = some xr from by rw [hend.out, if_pos ⟨rfl, rfl, by rw [← hY, txt_list]⟩])
    have D1 := hid d1
    have D2 := hid d2
    rw [hY] at HE
    clear d1 d2 hY
    go_wp2_with (go_at_call 132; (with_reducible refine HE.out.mono ?_); rintro e wE ⟨rfl, hbE⟩; have rAE := RA9.out.below hbE RA9.out.lt; have rXE := RX9.out.below hbE RX9.out.lt; have a0 := rAE.cellAt 0 rfl; have fa0 := rAE.free 0 (by simp); have a1 := rAE.cellAt 1 rfl; have fa1 := rAE.free 1 (by simp); have a2 := rAE.cellAt 2 rfl; have fa2 := rAE.free 2 (by simp); have a3 := rAE.cellAt 3 rfl; have fa3 := rAE.free 3 (by simp); have a4 := rAE.cellAt 4 rfl; have fa4 := rAE.free 4 (by simp); have a5 := rAE.cellAt 5 rfl; have fa5 := rAE.free 5 (by simp); obtain ⟨y0, y1, y2, y3, y4, y5⟩ := rXE.c6)
    have rF := ((((((rAE.set 0 (.int .i64 1)).set 1 (.int .u64 (Q : Int))).set 2 (.int .i64 (V : Int))).set 3 (.slice none 0 0)).set 4 (.slice none 0 0)).set 5 (.int .u32 0))
    obtain ⟨c0, c1, c2, c3, c4, c5⟩ := rF.c6
    exact bodyPost_ret (v := .tuple #[.agg #[.int .i64 1, .int .u64 (Q : Int), .int .i64 (V : Int), .slice none 0 0, .slice none 0 0, .int .u32 0], .int .i64 0]) (by simp [results, Tryz.results127, go_sem, c0, c1, c2, c3, c4, c5]) rfl ⟨_, by rw [D2.out], by rw [D1.out, ← HXR.out]; exact ⟨⟨_, _, rfl, .inl ⟨rfl, rfl⟩, .inl ⟨rfl, rfl⟩⟩, HQ.out, (by decide : (0 : Nat) < 2 ^ 32), by dsimp only; omega, by dsimp only; omega, by dsimp only; simp⟩, by rw [D1.out, ← HXR.out]; exact ⟨_, _, rfl, World.ownsRow_nil _ _ _ _, World.ownsRow_nil _ _ _ _⟩, (((((((B9.out.trans (hbE.mono B9.out.size)).sC 0 (.int .i64 1)).sC 1 (.int .u64 (Q : Int))).sC 2 (.int .i64 (V : Int))).sC 3 (.slice none 0 0)).sC 4 (.slice none 0 0)).sC 5 (.int .u32 0))⟩
   ·obtain ⟨d1, d2⟩ := Rec.dec_no (show Rec.dec s.data.toList = none from by rw [hend.out, if_neg (fun h => hY (by rw [h.2.2, txt_of]))])
    have D1 := hid d1
    have D2 := hid d2
    have hYs : ((txt e1).toList == s.toList) = false := by rw [beq_eq_false_iff_ne]; intro h; rw [ByteArray.toList_eq, ByteArray.toList_eq] at h; exact hY (by rw [← txt_of (txt e1), h, txt_of])
    generalize txt e1 = Y at *
    clear hY
    clear d1 d2
    go_wp2_with (go_at_call 132; (with_reducible refine HE.out.mono ?_); rintro e wE ⟨rfl, hbE⟩; have rAE := RA9.out.below hbE RA9.out.lt; have rXE := RX9.out.below hbE RX9.out.lt; have a0 := rAE.cellAt 0 rfl; have fa0 := rAE.free 0 (by simp); have a1 := rAE.cellAt 1 rfl; have fa1 := rAE.free 1 (by simp); have a2 := rAE.cellAt 2 rfl; have fa2 := rAE.free 2 (by simp); have a3 := rAE.cellAt 3 rfl; have fa3 := rAE.free 3 (by simp); have a4 := rAE.cellAt 4 rfl; have fa4 := rAE.free 4 (by simp); have a5 := rAE.cellAt 5 rfl; have fa5 := rAE.free 5 (by simp); obtain ⟨y0, y1, y2, y3, y4, y5⟩ := rXE.c6)
    have rF := ((((((rAE.set 0 (.int .i64 0)).set 1 (.int .u64 0)).set 2 (.int .i64 0)).set 3 (.slice none 0 0)).set 4 (.slice none 0 0)).set 5 (.int .u32 0))
    obtain ⟨c0, c1, c2, c3, c4, c5⟩ := rF.c6
    exact bodyPost_ret (v := .tuple #[.agg #[.int .i64 0, .int .u64 0, .int .i64 0, .slice none 0 0, .slice none 0 0, .int .u32 0], .int .i64 80]) (by simp [results, Tryz.results127, go_sem, c0, c1, c2, c3, c4, c5]) rfl ⟨_, by rw [D2.out], by rw [D1.out]; exact recat_none _, by rw [D1.out]; exact recown_none _ _, (((((((B9.out.trans (hbE.mono B9.out.size)).sC 0 (.int .i64 0)).sC 1 (.int .u64 0)).sC 2 (.int .i64 0)).sC 3 (.slice none 0 0)).sC 4 (.slice none 0 0)).sC 5 (.int .u32 0))⟩
  ·obtain ⟨d1, d2⟩ := Rec.dec_no (show Rec.dec s.data.toList = none from by rw [hend.out, if_neg (fun h => absurd h.2.1 (by decide))])
   have D1 := hid d1
   have D2 := hid d2
   clear d1 d2
   go_wp2_with (go_at_call 132; (with_reducible refine HE.out.mono ?_); rintro e wE ⟨rfl, hbE⟩; have rAE := RA9.out.below hbE RA9.out.lt; have rXE := RX9.out.below hbE RX9.out.lt; have a0 := rAE.cellAt 0 rfl; have fa0 := rAE.free 0 (by simp); have a1 := rAE.cellAt 1 rfl; have fa1 := rAE.free 1 (by simp); have a2 := rAE.cellAt 2 rfl; have fa2 := rAE.free 2 (by simp); have a3 := rAE.cellAt 3 rfl; have fa3 := rAE.free 3 (by simp); have a4 := rAE.cellAt 4 rfl; have fa4 := rAE.free 4 (by simp); have a5 := rAE.cellAt 5 rfl; have fa5 := rAE.free 5 (by simp); obtain ⟨y0, y1, y2, y3, y4, y5⟩ := rXE.c6)
   have rF := ((((((rAE.set 0 (.int .i64 0)).set 1 (.int .u64 0)).set 2 (.int .i64 0)).set 3 (.slice none 0 0)).set 4 (.slice none 0 0)).set 5 (.int .u32 0))
   obtain ⟨c0, c1, c2, c3, c4, c5⟩ := rF.c6
   exact bodyPost_ret (v := .tuple #[.agg #[.int .i64 0, .int .u64 0, .int .i64 0, .slice none 0 0, .slice none 0 0, .int .u32 0], .int .i64 80]) (by simp [results, Tryz.results127, go_sem, c0, c1, c2, c3, c4, c5]) rfl ⟨_, by rw [D2.out], by rw [D1.out]; exact recat_none _, by rw [D1.out]; exact recown_none _ _, (((((((B9.out.trans (hbE.mono B9.out.size)).sC 0 (.int .i64 0)).sC 1 (.int .u64 0)).sC 2 (.int .i64 0)).sC 3 (.slice none 0 0)).sC 4 (.slice none 0 0)).sC 5 (.int .u32 0))⟩
 have e1' : ¬ (K : Int) = 1 := by omega
 have b1 : ((K : Int) == 1) = false := by rw [beq_eq_false_iff_ne]; exact e1'
 by_cases e4 : K = 4
 ·clear b1 e1'
  rename K = 4 => ek
  subst ek
  have hr := hid (raw4.out rfl)
  have hv2 := getW_lt s.data.toList 13 4
  have G2 : Hid (Calls Tryz.prog 156 #[.string s, .int .i64 13, .int .i64 4] w2 fun e w' => e = .returned (.tuple #[.int .u64 (getW s.data.toList 13 4 : Nat), .bool true]) ∧ w2 = w') := hid (HG.out 13 4 w2 (.inr (.inr (.inl rfl))) (by decide))
  clear raw1 raw2 raw3 raw4 raw0 HG
  generalize getW s.data.toList 13 4 = V at *
  have HV : Hid (V < 2 ^ 32) := hid (by (have : (256 : Nat) ^ 4 ≤ 2 ^ 32 := by decide); omega)
  have HV' : V < 4294967296 := HV.out
  clear hv2
  have xf := RX0.out.cellAt 5 rfl
  have ff := RX0.out.free 5 (by simp)
  have hwv : IntKind.u32.wrap (V : Int) = (V : Int) := by
   simp only [IntKind.wrap, IntKind.bits, IntKind.signed]
   exact Int.emod_eq_of_lt (by omega) (by omega)
  have RX9 := hid (RX0.out.set 5 (.int .u32 (V : Int)))
  have RA9 := hid (RA1.out.other (a := ⟨X, 5, none⟩) (by simp; omega) (.int .u32 (V : Int)))
  have B9 := hid (B2.out.setCell (p := ⟨X, 5, none⟩) (by dsimp only; omega) (.int .u32 (V : Int)))
  clear RX0 RA1 B2 xk
  go_wp2_with fail
  refine G2.out.mono ?_
  rintro e w1' ⟨rfl, rfl⟩
  clear G2
  go_upto_region 24 with fail
  generalize w2.setCell _ _ = w9 at *
  clear xf ff hwv
  have HE := hid (dencode_any (.agg #[.int .i64 4, .int .u64 (Q : Int), .int .i64 0, .slice none 0 0, .slice none 0 0, .int .u32 (V : Int)]) (⟨4, Q, 0, [], [], V⟩ : Rec.V) w9 ⟨⟨_, _, rfl, .inl ⟨rfl, rfl⟩, .inl ⟨rfl, rfl⟩⟩, HQ.out, HV.out, by dsimp only; omega, by dsimp only; omega, by dsimp only; simp⟩)
  have hend := hid (Rec.dec_end HL.out (x := (⟨4, Q, 0, [], [], V⟩ : Rec.V)) (bad := false) (.inl ⟨rfl, hr.out.symm⟩))
  have hE2 : (Rec.encR (⟨4, Q, 0, [], [], V⟩ : Rec.V)).2 = 0 ∨ (Rec.encR (⟨4, Q, 0, [], [], V⟩ : Rec.V)).2 = 2 := by unfold Rec.encR; split <;> simp
  obtain ⟨xr, hxr⟩ : ∃ xr, (⟨4, Q, 0, [], [], V⟩ : Rec.V) = xr := ⟨_, rfl⟩
  rw [hxr] at hend hE2
  have HXR := hid hxr
  rw [hxr] at HE
  clear hxr
  generalize Rec.encR xr = ER at *
  obtain ⟨e1, e2⟩ := ER
  obtain ⟨x0, x1, x2, x3, x4, x5⟩ := RX9.out.c6
  dsimp only at hE2 HE hend
  rcases hE2 with rfl | rfl
  ·by_cases hY : txt e1 = s
   ·obtain ⟨d1, d2⟩ := Rec.dec_yes (show Rec.dec s.data.toList = some xr from by rw [hend.out, if_pos ⟨rfl, rfl, by rw [← hY, txt_list]⟩])
    have D1 := hid d1
    have D2 := hid d2
    rw [hY] at HE
    clear d1 d2 hY
    go_wp2_with (go_at_call 132; (with_reducible refine HE.out.mono ?_); rintro e wE ⟨rfl, hbE⟩; have rAE := RA9.out.below hbE RA9.out.lt; have rXE := RX9.out.below hbE RX9.out.lt; have a0 := rAE.cellAt 0 rfl; have fa0 := rAE.free 0 (by simp); have a1 := rAE.cellAt 1 rfl; have fa1 := rAE.free 1 (by simp); have a2 := rAE.cellAt 2 rfl; have fa2 := rAE.free 2 (by simp); have a3 := rAE.cellAt 3 rfl; have fa3 := rAE.free 3 (by simp); have a4 := rAE.cellAt 4 rfl; have fa4 := rAE.free 4 (by simp); have a5 := rAE.cellAt 5 rfl; have fa5 := rAE.free 5 (by simp); obtain ⟨y0, y1, y2, y3, y4, y5⟩ := rXE.c6)
    have rF := ((((((rAE.set 0 (.int .i64 4)).set 1 (.int .u64 (Q : Int))).set 2 (.int .i64 0)).set 3 (.slice none 0 0)).set 4 (.slice none 0 0)).set 5 (.int .u32 (V : Int)))
    obtain ⟨c0, c1, c2, c3, c4, c5⟩ := rF.c6
    exact bodyPost_ret (v := .tuple #[.agg #[.int .i64 4, .int .u64 (Q : Int), .int .i64 0, .slice none 0 0, .slice none 0 0, .int .u32 (V : Int)], .int .i64 0]) (by simp [results, Tryz.results127, go_sem, c0, c1, c2, c3, c4, c5]) rfl ⟨_, by rw [D2.out], by rw [D1.out, ← HXR.out]; exact ⟨⟨_, _, rfl, .inl ⟨rfl, rfl⟩, .inl ⟨rfl, rfl⟩⟩, HQ.out, HV.out, by dsimp only; omega, by dsimp only; omega, by dsimp only; simp⟩, by rw [D1.out, ← HXR.out]; exact ⟨_, _, rfl, World.ownsRow_nil _ _ _ _, World.ownsRow_nil _ _ _ _⟩, (((((((B9.out.trans (hbE.mono B9.out.size)).sC 0 (.int .i64 4)).sC 1 (.int .u64 (Q : Int))).sC 2 (.int .i64 0)).sC 3 (.slice none 0 0)).sC 4 (.slice none 0 0)).sC 5 (.int .u32 (V : Int)))⟩
   ·obtain ⟨d1, d2⟩ := Rec.dec_no (show Rec.dec s.data.toList = none from by rw [hend.out, if_neg (fun h => hY (by rw [h.2.2, txt_of]))])
    have D1 := hid d1
    have D2 := hid d2
    have hYs : ((txt e1).toList == s.toList) = false := by rw [beq_eq_false_iff_ne]; intro h; rw [ByteArray.toList_eq, ByteArray.toList_eq] at h; exact hY (by rw [← txt_of (txt e1), h, txt_of])
    generalize txt e1 = Y at *
    clear hY
    clear d1 d2
    go_wp2_with (go_at_call 132; (with_reducible refine HE.out.mono ?_); rintro e wE ⟨rfl, hbE⟩; have rAE := RA9.out.below hbE RA9.out.lt; have rXE := RX9.out.below hbE RX9.out.lt; have a0 := rAE.cellAt 0 rfl; have fa0 := rAE.free 0 (by simp); have a1 := rAE.cellAt 1 rfl; have fa1 := rAE.free 1 (by simp); have a2 := rAE.cellAt 2 rfl; have fa2 := rAE.free 2 (by simp); have a3 := rAE.cellAt 3 rfl; have fa3 := rAE.free 3 (by simp); have a4 := rAE.cellAt 4 rfl; have fa4 := rAE.free 4 (by simp); have a5 := rAE.cellAt 5 rfl; have fa5 := rAE.free 5 (by simp); obtain ⟨y0, y1, y2, y3, y4, y5⟩ := rXE.c6)
    have rF := ((((((rAE.set 0 (.int .i64 0)).set 1 (.int .u64 0)).set 2 (.int .i64 0)).set 3 (.slice none 0 0)).set 4 (.slice none 0 0)).set 5 (.int .u32 0))
    obtain ⟨c0, c1, c2, c3, c4, c5⟩ := rF.c6
    exact bodyPost_ret (v := .tuple #[.agg #[.int .i64 0, .int .u64 0, .int .i64 0, .slice none 0 0, .slice none 0 0, .int .u32 0], .int .i64 80]) (by simp [results, Tryz.results127, go_sem, c0, c1, c2, c3, c4, c5]) rfl ⟨_, by rw [D2.out], by rw [D1.out]; exact recat_none _, by rw [D1.out]; exact recown_none _ _, (((((((B9.out.trans (hbE.mono B9.out.size)).sC 0 (.int .i64 0)).sC 1 (.int .u64 0)).sC 2 (.int .i64 0)).sC 3 (.slice none 0 0)).sC 4 (.slice none 0 0)).sC 5 (.int .u32 0))⟩
  ·obtain ⟨d1, d2⟩ := Rec.dec_no (show Rec.dec s.data.toList = none from by rw [hend.out, if_neg (fun h => absurd h.2.1 (by decide))])
   have D1 := hid d1
   have D2 := hid d2
   clear d1 d2
   go_wp2_with (go_at_call 132; (with_reducible refine HE.out.mono ?_); rintro e wE ⟨rfl, hbE⟩; have rAE := RA9.out.below hbE RA9.out.lt; have rXE := RX9.out.below hbE RX9.out.lt; have a0 := rAE.cellAt 0 rfl; have fa0 := rAE.free 0 (by simp); have a1 := rAE.cellAt 1 rfl; have fa1 := rAE.free 1 (by simp); have a2 := rAE.cellAt 2 rfl; have fa2 := rAE.free 2 (by simp); have a3 := rAE.cellAt 3 rfl; have fa3 := rAE.free 3 (by simp); have a4 := rAE.cellAt 4 rfl; have fa4 := rAE.free 4 (by simp); have a5 := rAE.cellAt 5 rfl; have fa5 := rAE.free 5 (by simp); obtain ⟨y0, y1, y2, y3, y4, y5⟩ := rXE.c6)
   have rF := ((((((rAE.set 0 (.int .i64 0)).set 1 (.int .u64 0)).set 2 (.int .i64 0)).set 3 (.slice none 0 0)).set 4 (.slice none 0 0)).set 5 (.int .u32 0))
   obtain ⟨c0, c1, c2, c3, c4, c5⟩ := rF.c6
   exact bodyPost_ret (v := .tuple #[.agg #[.int .i64 0, .int .u64 0, .int .i64 0, .slice none 0 0, .slice none 0 0, .int .u32 0], .int .i64 80]) (by simp [results, Tryz.results127, go_sem, c0, c1, c2, c3, c4, c5]) rfl ⟨_, by rw [D2.out], by rw [D1.out]; exact recat_none _, by rw [D1.out]; exact recown_none _ _, (((((((B9.out.trans (hbE.mono B9.out.size)).sC 0 (.int .i64 0)).sC 1 (.int .u64 0)).sC 2 (.int .i64 0)).sC 3 (.slice none 0 0)).sC 4 (.slice none 0 0)).sC 5 (.int .u32 0))⟩
 have b4 : ((K : Int) == 4) = false := by rw [beq_eq_false_iff_ne]; omega
 by_cases e2 : K = 2
 ·have hK2 := hid (show (K : Int) = 2 by omega)
  have b2 : ((K : Int) == 2) = true := by rw [beq_iff_eq]; omega
  have hr : Hid (Rec.raw s.data.toList = ⟨(K : Int), Q, 0, Rec.getH s.data.toList n, Rec.getM s.data.toList (14 + 2 * n) n, 0⟩) := hid (by have := raw2.out e2; rwa [← hK2.out] at this)
  clear e2 raw1 raw2 raw3 raw4 raw0 ek e1' e4
  by_cases hn24 : n ≤ 24
  ·have HN24 := hid hn24
   go_upto_region 16 with fail
   obtain ⟨i0, hi0, hz0, hz1, hz2⟩ := info_parts infoInt
   go_loopw [12] (fun q wr => ∃ (i : Nat) (H : List Int) (hv : Value), q = .int .i64 i ∧ i ≤ n ∧ Hid (H = Rec.getH s.data.toList i) ∧ Hid (Row wr w.heap.size 61 [.int .i64 0, .int .u64 0, .int .i64 0, .slice none 0 0, .slice none 0 0, .int .u32 0]) ∧ Hid (Row wr X 61 [.int .i64 (K : Int), .int .u64 (Q : Int), .int .i64 0, hv, .slice none 0 0, .int .u32 0]) ∧ Hid (OwnInts w.heap.size wr hv H) ∧ Hid (Below w.heap.size w wr)) (fun q _ => n - (intOf q).toNat)
   case atStart => exact ⟨0, [], .slice none 0 0, rfl, by omega, hid rfl, RA1, RX0, hid (World.ownsRow_nil _ _ _ _), B2⟩
   case round =>
    clear RA1 RX0 B2 xk
    obtain ⟨i, H, hv, rfl, hin, hH, hA, hX, hO, hB⟩ := hrel
    have xk := hX.out.cellAt 0 rfl
    by_cases hlt : i < n
    ·have i1 : (i : Int) < (n : Int) := by omega
     have i2 : (i : Int) < 40 := by omega
     have hi40 : i < 40 := by omega
     have gi : Hid (∀ w, Calls Tryz.prog 156 #[.string s, .int .i64 (14 + 2 * (i : Int)), .int .i64 2] w fun e w' => e = .returned (.tuple #[.int .u64 (getW s.data.toList (14 + 2 * i) 2 : Nat), .bool true]) ∧ w = w') := hid (fun w => by
      have := HG.out (14 + 2 * i) 2 w (.inr (.inl rfl)) (by omega)
      rwa [show ((14 + 2 * i : Nat) : Int) = 14 + 2 * (i : Int) by omega] at this)
     have hV := getW_lt s.data.toList (14 + 2 * i) 2
     have hnext : Hid (H ++ [((getW s.data.toList (14 + 2 * i) 2 : Nat) : Int)] = Rec.getH s.data.toList (i + 1)) := hid (by rw [hH.out]; exact (Rec.getH_succ _ _).symm)
     generalize getW s.data.toList (14 + 2 * i) 2 = V at *
     have hV' : V < 65536 := hV
     clear hV
     have HOL := hid (show H.length = i by rw [hH.out, Rec.getH_length])
     obtain ⟨ah, ch, rfl⟩ := OwnInts.slice hO.out
     have hO' : Hid (wr.ownsRow w.heap.size 3 1 (.slice ah H.length ch) H.length (icells H)) := hid hO.out
     rw [HOL.out] at hO' hX
     have x3 := hX.out.cellAt 3 rfl
     have hV1 : ∀ u ∈ [Value.int .i64 (V : Int)], u.oneCell' = true := by intro u hu; rw [List.mem_singleton.1 hu]; rfl
     clear hO
     go_wp2_with (first | (go_at_call 156; (with_reducible refine (gi.out _).mono ?_); rintro e w5' ⟨rfl, rfl⟩) | (at_builtin; refine wpList_append_lies _ rfl _ _ 23 rfl w.heap.size 3 i0 (.int .i64 0) 1 8 Tryz.underlying23 hi0 hz0 hz1 hz2 rfl (by decide) (.slice ah i ch) i (icells H) rfl (own_new1 hO'.out _) ⟨wr.heap.size, 0, none⟩ 1 1 [.int .i64 (V : Int)] rfl rfl (World.news_of_block (heap_alloc_new _ _)) hV1 (by decide) (by unfold maxLen; omega) (by omega) (by have := hB.out.size; simp; omega) _ rfl ?_))
     intro g5 c5 w5 hown hgrow hat hlt5
     have P5 := hid (dpush2 (k := 3) n1 hA.out hX.out (own_new1 hO'.out (.cells #[.int .i64 (V : Int)] 3)) hB.out (Nat.le_refl _) hgrow hown (by decide))
     have rX5 := row_grownR (hX.out.alloc (.cells #[.int .i64 (V : Int)] 3)) (own_new1 hO'.out (.cells #[.int .i64 (V : Int)] 3)) hgrow (by decide)
     have cX5 := rX5.cellAt 3 rfl
     have fX5 := rX5.free 3 (by simp)
     clear rX5 hgrow hown hat hlt5 x3 xk hA hX hO' hB hV1 gi
     go_wp2_with fail
     go_roundw
     case rel => exact ⟨i + 1, H ++ [(V : Int)], _, by go_num, by omega, hnext, hid P5.out.1, hid P5.out.2.1, hid (by unfold OwnInts; rw [List.length_append, HOL.out, icells_append]; exact P5.out.2.2.1), hid P5.out.2.2.2⟩
     case measure => simp [intOf]; omega
    ·obtain rfl : i = n := by omega
     obtain ⟨NN, hNN⟩ : ∃ NN, NN = i := ⟨_, rfl⟩
     obtain ⟨ah, ch, rfl⟩ := OwnInts.slice hO.out
     rename World => wA
     go_upto_region 21 with fail
     obtain ⟨j0, hj0, jz0, jz1, jz2⟩ := info_parts infoFlag
     have HLE : Hid (H.length ≤ 1000000000) := hid (by rw [hH.out, Rec.getH_length]; omega)
     go_loopw [15] (fun q wr => ∃ (j : Nat) (M : List Bool) (mv : Value), q = .int .i64 j ∧ j ≤ i ∧ Hid (M = mbits s.data.toList i j) ∧ Hid (Row wr w.heap.size 61 [.int .i64 0, .int .u64 0, .int .i64 0, .slice none 0 0, .slice none 0 0, .int .u32 0]) ∧ Hid (Row wr X 61 [.int .i64 (K : Int), .int .u64 (Q : Int), .int .i64 0, .slice ah H.length ch, mv, .int .u32 0]) ∧ Hid (OwnInts w.heap.size wr (.slice ah H.length ch) H) ∧ Hid (OwnFlags w.heap.size wr mv M) ∧ Hid (Below w.heap.size w wr)) (fun q _ => i - (intOf q).toNat)
     case atStart => exact ⟨0, [], .slice none 0 0, rfl, by omega, hid rfl, hA, hX, hO, hid (World.ownsRow_nil _ _ _ _), hB⟩
     case round =>
      clear hA hX hO hB xk
      obtain ⟨j, M, mv, rfl, hjn, hM, hA, hX, hO, hF, hB⟩ := hrel
      have xk := hX.out.cellAt 0 rfl
      by_cases hlt2 : j < i
      ·have j1 : (j : Int) < (i : Int) := by omega
       have j2 : (j : Int) < 24 := by omega
       have hn256 : i < 256 := hw9
       have hj24 : j < 24 := by omega
       have hg : 14 + 2 * i + j < 128 := by omega
       have ix : 14 + 2 * i + j < s.size := by rw [HS.out]; exact hg
       have gd : (14 : Int) + 2 * (i : Int) + (j : Int) < (s.size : Int) := by omega
       have gd2 : decide ((14 : Int) + 2 * (i : Int) + (j : Int) < (s.size : Int)) = true := decide_eq_true gd
       have hbit : Hid (mbit s.data.toList i j = ((s[14 + 2 * i + j].toNat : Int) == 1)) := hid (by unfold mbit; rw [decide_eq_true hg, Bool.true_and, getW1 s _ ix]; rw [Bool.eq_iff_iff]; simp; omega)
       have hix : ((14 : Int) + 2 * (i : Int) + (j : Int)).toNat = 14 + 2 * i + j := by omega
       have hix0 : (0 : Int) ≤ (14 : Int) + 2 * (i : Int) + (j : Int) := by omega
       obtain ⟨V, hVV⟩ : ∃ V, s[14 + 2 * i + j].toNat = V := ⟨_, rfl⟩
       rw [hVV] at hbit
       have u1 : IntKind.i64.wrap (2 * (i : Int)) = 2 * (i : Int) := IntWalk.i64_in _ (by omega)
       have u2 : IntKind.i64.wrap (14 + 2 * (i : Int)) = 14 + 2 * (i : Int) := IntWalk.i64_in _ (by omega)
       have u3 : IntKind.i64.wrap (14 + 2 * (i : Int) + (j : Int)) = 14 + 2 * (i : Int) + (j : Int) := IntWalk.i64_in _ (by omega)
       have HML := hid (show M.length = j by rw [hM.out, mbits_length])
       have hnext : Hid (M ++ [((V : Int) == 1)] = mbits s.data.toList i (j + 1)) := hid (by rw [hM.out, mbits_succ, hbit.out])
       obtain ⟨am, cm, rfl⟩ := OwnFlags.slice hF.out
       have hF' : Hid (wr.ownsRow w.heap.size 4 1 (.slice am M.length cm) M.length (fcells M)) := hid hF.out
       rw [HML.out] at hF' hX
       have x4 := hX.out.cellAt 4 rfl
       have hV1 : ∀ u ∈ [Value.bool ((V : Int) == 1)], u.oneCell' = true := by intro u hu; rw [List.mem_singleton.1 hu]; rfl
       have x4b := (hX.out.drew.alloc (.cells #[.bool ((V : Int) == 1)] 4)).cellAt 4 rfl
       have HG9 := hid (own_new1 (w := wr.drew) hF'.out (.cells #[.bool ((V : Int) == 1)] 4))
       have NN9 := hid (box1 wr.drew (.bool ((V : Int) == 1)) 4)
       have hs9 : w.heap.size ≤ (wr.drew.alloc (.cells #[.bool ((V : Int) == 1)] 4)).heap.size := by have := hB.out.size; simp; omega
       clear hF hbit
       go_upto_region 23 with fail
       refine wp_region_E (S := fun w' => w'.cell? ⟨X, 4, none⟩ = some (.slice am j cm)) (E := [23]) (by kernel_rfl) x4 (fun hHeld hCl => ?_)
       refine wpAnyE_take (i := 0) (v := .pointer (some ⟨X, 4, none⟩)) rfl (by kernel_rfl) (by kernel_rfl) (by kernel_rfl) (by kernel_rfl) hCl (fun _ _ _ h => h) (Or.inl ⟨rfl, fun w hSw => (by (try dsimp only at hSw); go_simp)⟩) hHeld (fun hCl => ?_); (try simp only [lL0, lL2, Act.put, lL3, lL4, lL5])
       refine wpAnyE_take (i := 1) (v := .slice am j cm) rfl (by kernel_rfl) (by kernel_rfl) (by kernel_rfl) (by kernel_rfl) hCl (fun _ _ _ h => h) (Or.inl ⟨rfl, fun w hSw => (by (try dsimp only at hSw); go_simp)⟩) hHeld (fun hCl => ?_); (try simp only [lL0, lL1, lL2, Act.put, lL3, lL4, lL5])
       refine wpAnyE_take (i := 2) (v := .int .i64 (i : Int)) rfl (by kernel_rfl) (by kernel_rfl) (by kernel_rfl) (by kernel_rfl) hCl (fun _ _ _ h => h) (Or.inl ⟨rfl, fun w hSw => (by (try dsimp only at hSw); go_simp)⟩) hHeld (fun hCl => ?_); (try simp only [lL0, lL1, lL2, Act.put, lL3, lL4, lL5])
       refine wpAnyE_take (i := 3) (v := .int .i64 (2 * (i : Int))) rfl (by kernel_rfl) (by kernel_rfl) (by kernel_rfl) (by kernel_rfl) hCl (fun _ _ _ h => h) (Or.inl ⟨rfl, fun w hSw => (by (try dsimp only at hSw); go_simp)⟩) hHeld (fun hCl => ?_); (try simp only [lL0, lL1, lL2, Act.put, lL3, lL4, lL5])
       refine wpAnyE_take (i := 4) (v := .int .i64 (14 + 2 * (i : Int))) rfl (by kernel_rfl) (by kernel_rfl) (by kernel_rfl) (by kernel_rfl) hCl (fun _ _ _ h => h) (Or.inl ⟨rfl, fun w hSw => (by (try dsimp only at hSw); go_simp)⟩) hHeld (fun hCl => ?_); (try simp only [lL0, lL1, lL2, Act.put, lL3, lL4, lL5])
       refine wpAnyE_take (i := 5) (v := .int .i64 (j : Int)) rfl (by kernel_rfl) (by kernel_rfl) (by kernel_rfl) (by kernel_rfl) hCl (fun _ _ _ h => h) (Or.inl ⟨rfl, fun w hSw => (by (try dsimp only at hSw); go_simp)⟩) hHeld (fun hCl => ?_); (try simp only [lL0, lL1, lL2, Act.put, lL3, lL4, lL5])
       refine wpAnyE_take (i := 6) (v := .int .i64 (14 + 2 * (i : Int) + (j : Int))) rfl (by kernel_rfl) (by kernel_rfl) (by kernel_rfl) (by kernel_rfl) hCl (fun _ _ _ h => h) (Or.inl ⟨rfl, fun w hSw => (by (try dsimp only at hSw); go_simp)⟩) hHeld (fun hCl => ?_); (try simp only [lL0, lL1, lL2, Act.put, lL3, lL4, lL5])
       refine wpAnyE_take (i := 7) (v := .string s) rfl (by kernel_rfl) (by kernel_rfl) (by kernel_rfl) (by kernel_rfl) hCl (fun _ _ _ h => h) (Or.inl ⟨rfl, fun w hSw => (by (try dsimp only at hSw); go_simp)⟩) hHeld (fun hCl => ?_); (try simp only [lL0, lL1, lL2, Act.put, lL3, lL4, lL5])
       refine wpAnyE_take (i := 8) (v := .int .i64 (s.size : Int)) rfl (by kernel_rfl) (by kernel_rfl) (by kernel_rfl) (by kernel_rfl) hCl (fun _ _ _ h => h) (Or.inl ⟨rfl, fun w hSw => (by (try dsimp only at hSw); go_simp)⟩) hHeld (fun hCl => ?_); (try simp only [lL0, lL1, lL2, Act.put, lL3, lL4, lL5])
       refine wpAnyE_take (i := 9) (v := .bool true) rfl (by kernel_rfl) (by kernel_rfl) (by kernel_rfl) (by kernel_rfl) hCl (fun _ _ _ h => h) (Or.inl ⟨rfl, fun w hSw => (by (try dsimp only at hSw); go_simp)⟩) hHeld (fun hCl => ?_); (try simp only [lL0, lL1, lL2, Act.put, lL3, lL4, lL5])
       refine wpAnyE_take (i := 10) (v := .bool true) rfl (by kernel_rfl) (by kernel_rfl) (by kernel_rfl) (by kernel_rfl) hCl (fun _ _ _ h => h) (Or.inl ⟨rfl, fun w hSw => (by (try dsimp only at hSw); go_simp)⟩) hHeld (fun hCl => ?_); (try simp only [lL0, lL1, lL2, Act.put, lL3, lL4, lL5])
       refine wpAnyE_take (i := 11) (v := .string s) rfl (by kernel_rfl) (by kernel_rfl) (by kernel_rfl) (by kernel_rfl) hCl (fun _ _ _ h => h) (Or.inl ⟨rfl, fun w hSw => (by (try dsimp only at hSw); go_simp)⟩) hHeld (fun hCl => ?_); (try simp only [lL0, lL1, lL2, Act.put, lL3, lL4, lL5])
       refine wpAnyE_take (i := 12) (v := .int .i64 (i : Int)) rfl (by kernel_rfl) (by kernel_rfl) (by kernel_rfl) (by kernel_rfl) hCl (fun _ _ _ h => h) (Or.inl ⟨rfl, fun w hSw => (by (try dsimp only at hSw); go_simp)⟩) hHeld (fun hCl => ?_); (try simp only [lL0, lL1, lL2, Act.put, lL3, lL4, lL5])
       refine wpAnyE_take (i := 13) (v := .int .i64 (2 * (i : Int))) rfl (by kernel_rfl) (by kernel_rfl) (by kernel_rfl) (by kernel_rfl) hCl (fun _ _ _ h => h) (Or.inl ⟨rfl, fun w hSw => (by (try dsimp only at hSw); go_simp)⟩) hHeld (fun hCl => ?_); (try simp only [lL0, lL1, lL2, Act.put, lL3, lL4, lL5])
       refine wpAnyE_take (i := 14) (v := .int .i64 (14 + 2 * (i : Int))) rfl (by kernel_rfl) (by kernel_rfl) (by kernel_rfl) (by kernel_rfl) hCl (fun _ _ _ h => h) (Or.inl ⟨rfl, fun w hSw => (by (try dsimp only at hSw); go_simp)⟩) hHeld (fun hCl => ?_); (try simp only [lL0, lL1, lL2, Act.put, lL3, lL4, lL5])
       refine wpAnyE_take (i := 15) (v := .int .i64 (j : Int)) rfl (by kernel_rfl) (by kernel_rfl) (by kernel_rfl) (by kernel_rfl) hCl (fun _ _ _ h => h) (Or.inl ⟨rfl, fun w hSw => (by (try dsimp only at hSw); go_simp)⟩) hHeld (fun hCl => ?_); (try simp only [lL0, lL1, lL2, Act.put, lL3, lL4, lL5])
       refine wpAnyE_take (i := 16) (v := .int .i64 (14 + 2 * (i : Int) + (j : Int))) rfl (by kernel_rfl) (by kernel_rfl) (by kernel_rfl) (by kernel_rfl) hCl (fun _ _ _ h => h) (Or.inl ⟨rfl, fun w hSw => (by (try dsimp only at hSw); go_simp)⟩) hHeld (fun hCl => ?_); (try simp only [lL0, lL1, lL2, Act.put, lL3, lL4, lL5])
       refine wpAnyE_take (i := 17) (v := .int .u8 (V : Int)) rfl (by kernel_rfl) (by kernel_rfl) (by kernel_rfl) (by kernel_rfl) hCl (fun _ _ _ h => h) (Or.inl ⟨rfl, fun w hSw => (by (try dsimp only at hSw); go_simp)⟩) hHeld (fun hCl => ?_); (try simp only [lL0, lL1, lL2, Act.put, lL3, lL4, lL5])
       refine wpAnyE_take (i := 18) (v := .bool ((V : Int) == 1)) rfl (by kernel_rfl) (by kernel_rfl) (by kernel_rfl) (by kernel_rfl) hCl (fun _ _ _ h => h) (Or.inl ⟨rfl, fun w hSw => (by (try dsimp only at hSw); go_simp)⟩) hHeld (fun hCl => ?_); (try simp only [lL0, lL1, lL2, Act.put, lL3, lL4, lL5])
       refine wpAnyE_take (i := 19) (v := .bool ((V : Int) == 1)) rfl (by kernel_rfl) (by kernel_rfl) (by kernel_rfl) (by kernel_rfl) hCl (fun _ _ _ h => h) (Or.inl ⟨rfl, fun w hSw => (by (try dsimp only at hSw); go_simp)⟩) hHeld (fun hCl => ?_); (try simp only [lL0, lL1, lL2, Act.put, lL3, lL4, lL5])
       refine wpAnyE_ready (rs := [20]) (by kernel_rfl) (by simp) ?_; refine NextE.cons rfl (fun K hK => ?_) NextE.nil
       go_simp
       refine hK.out _ _ (fun _ => x4b) (fun hHeld => ?_); replace hHeld := hHeld rfl; have hCl := hCl.step (j := 20) (by decide +kernel); clear hK K; (try simp only [lL0, lL1, lL2, Act.put, lL3, lL4, lL5])
       refine wpAnyE_ready (rs := [21]) (by kernel_rfl) (by simp) ?_; refine NextE.cons rfl (fun K hK => ?_) NextE.nil
       refine step_append_lies _ rfl (.tmp 104) (.tmp 123) 40 rfl w.heap.size 4 j0 (.bool false) 1 1 Tryz.underlying40 hj0 jz0 jz1 jz2 rfl (by decide) (.slice am j cm) j (fcells M) (by simp [Act.eval, Act.put]; done) HG9.out ⟨wr.heap.size, 0, none⟩ 1 1 [.bool ((V : Int) == 1)] (by simp [Act.eval, Act.put]; done) rfl NN9.out hV1 (by decide) (by unfold maxLen; omega) (by omega) hs9 _ rfl ?_
       intro g5 c5 w5 hown hgrow hat hlt5
       have rX5 := row_grownR (hX.out.drew.alloc (.cells #[.bool ((V : Int) == 1)] 4)) HG9.out hgrow (by decide)
       have cX5 := rX5.cellAt 4 rfl
       have fX5 := rX5.free 4 (by simp)
       have P5 := hid (dpush2 (k := 4) n1 hA.out.drew hX.out.drew HG9.out hB.out.drew (Nat.le_refl _) hgrow hown (by decide))
       have Q5 := hid (dec_keep (k := 4) (v5 := .slice (some ⟨g5, 0, none⟩) (j + 1) c5) hX.out.drew HG9.out hgrow (show wr.drew.ownsRow w.heap.size 3 1 (.slice ah H.length ch) H.length (icells H) from hO.out) (by decide) (by decide) (by decide))
       refine hK.out _ _ (fun _ => cX5) (fun hHeld => ?_); replace hHeld := hHeld rfl; have hCl := hCl.step (j := 21) (by decide +kernel); clear hK K; (try simp only [lL0, lL1, lL2, Act.put, lL3, lL4, lL5])
       refine wpAnyE_ready (rs := [22]) (by kernel_rfl) (by simp) ?_; refine NextE.cons rfl (fun K hK => ?_) NextE.nil
       go_simp
       refine hK.out _ _ (fun _ => cX5) (fun hHeld => ?_); replace hHeld := hHeld rfl; have hCl := hCl.step (j := 22) (by decide +kernel); clear hK K; (try simp only [lL0, lL1, lL2, Act.put, lL3, lL4, lL5])
       refine wpAnyE_ready (rs := [23]) (by kernel_rfl) (by simp) ?_; refine NextE.cons rfl (fun K hK => ?_) NextE.nil
       go_simp
       refine hK.out _ _ (fun h => by cases h) (fun _ => ?_); clear hK K; (try simp only [lL0, lL1, lL2, Act.put, lL3, lL4, lL5])
       refine wpAnyE_done (by kernel_rfl) ?_ _
       all_goals
        clear hgrow hat hlt5 rX5 hown x4 x4b NN9 hs9 HG9 hA hX hO hB hHeld hCl
        go_wp2_with fail
        go_roundw
       all_goals first | exact ⟨j + 1, M ++ [((V : Int) == 1)], _, by go_num, by omega, hnext, hid P5.out.1, hid P5.out.2.1, hid Q5.out, hid (by unfold OwnFlags; rw [List.length_append, HML.out, fcells_append]; exact P5.out.2.2.1), hid P5.out.2.2.2⟩ | (simp [intOf]; omega)
      ·obtain rfl : j = i := by omega
       have HLM : Hid (M.length ≤ 1000000000) := hid (by rw [hM.out, mbits_length]; omega)
       obtain ⟨am, cm, rfl⟩ := OwnFlags.slice hF.out
       go_upto_region 24 with fail
       clear xk
       have HE := hid (dencode_any (.agg #[.int .i64 (K : Int), .int .u64 (Q : Int), .int .i64 0, .slice ah H.length ch, .slice am M.length cm, .int .u32 0]) (⟨(K : Int), Q, 0, H, M, 0⟩ : Rec.V) wr ⟨⟨_, _, rfl, hO.out.at, hF.out.at⟩, HQ.out, (by decide : (0 : Nat) < 2 ^ 32), by dsimp only; omega, by dsimp only; omega, HLE.out, HLM.out⟩)
       have hend := hid (Rec.dec_end HL.out (x := (⟨(K : Int), Q, 0, H, M, 0⟩ : Rec.V)) (bad := false) (.inl ⟨rfl, by rw [hr.out, hH.out, hM.out, mbits_getM _ _ HN24.out]⟩))
       have hE2 : (Rec.encR (⟨(K : Int), Q, 0, H, M, 0⟩ : Rec.V)).2 = 0 ∨ (Rec.encR (⟨(K : Int), Q, 0, H, M, 0⟩ : Rec.V)).2 = 2 := by unfold Rec.encR; split <;> simp
       obtain ⟨xr, hxr⟩ : ∃ xr, (⟨(K : Int), Q, 0, H, M, 0⟩ : Rec.V) = xr := ⟨_, rfl⟩
       rw [hxr] at hend hE2
       have HXR := hid hxr
       rw [hxr] at HE
       clear hxr
       generalize Rec.encR xr = ER at *
       obtain ⟨e1, e2⟩ := ER
       obtain ⟨x0, x1, x2, x3, x4, x5⟩ := hX.out.c6
       dsimp only at hE2 HE hend
       rcases hE2 with rfl | rfl
       ·by_cases hY : txt e1 = s
        ·obtain ⟨d1, d2⟩ := Rec.dec_yes (show Rec.dec s.data.toList = some xr from by rw [hend.out, if_pos ⟨rfl, rfl, by rw [← hY, txt_list]⟩])
         have D1 := hid d1
         have D2 := hid d2
         rw [hY] at HE
         clear d1 d2 hY
         go_wp2_with (go_at_call 132; (with_reducible refine HE.out.mono ?_); rintro e wE ⟨rfl, hbE⟩; have rAE := hA.out.below hbE hA.out.lt; have rXE := hX.out.below hbE hX.out.lt; have a0 := rAE.cellAt 0 rfl; have fa0 := rAE.free 0 (by simp); have a1 := rAE.cellAt 1 rfl; have fa1 := rAE.free 1 (by simp); have a2 := rAE.cellAt 2 rfl; have fa2 := rAE.free 2 (by simp); have a3 := rAE.cellAt 3 rfl; have fa3 := rAE.free 3 (by simp); have a4 := rAE.cellAt 4 rfl; have fa4 := rAE.free 4 (by simp); have a5 := rAE.cellAt 5 rfl; have fa5 := rAE.free 5 (by simp); obtain ⟨y0, y1, y2, y3, y4, y5⟩ := rXE.c6)
         have rF := ((((((rAE.set 0 (.int .i64 (K : Int))).set 1 (.int .u64 (Q : Int))).set 2 (.int .i64 0)).set 3 (.slice ah H.length ch)).set 4 (.slice am M.length cm)).set 5 (.int .u32 0))
         obtain ⟨c0, c1, c2, c3, c4, c5⟩ := rF.c6
         have hOE := hid (own_below hO.out hbE)
         have hFE := hid (own_below hF.out hbE)
         exact bodyPost_ret (v := .tuple #[.agg #[.int .i64 (K : Int), .int .u64 (Q : Int), .int .i64 0, .slice ah H.length ch, .slice am M.length cm, .int .u32 0], .int .i64 0]) (by simp [results, Tryz.results127, go_sem, c0, c1, c2, c3, c4, c5]) rfl ⟨_, by rw [D2.out], by rw [D1.out, ← HXR.out]; exact ⟨⟨_, _, rfl, (show OwnInts _ _ _ _ from (own_setR (a := ⟨w.heap.size, 5, none⟩) (u := .int .u32 0) (((((rAE.set 0 (.int .i64 (K : Int))).set 1 (.int .u64 (Q : Int))).set 2 (.int .i64 0)).set 3 (.slice ah H.length ch)).set 4 (.slice am M.length cm)) (own_setR (a := ⟨w.heap.size, 4, none⟩) (u := .slice am M.length cm) ((((rAE.set 0 (.int .i64 (K : Int))).set 1 (.int .u64 (Q : Int))).set 2 (.int .i64 0)).set 3 (.slice ah H.length ch)) (own_setR (a := ⟨w.heap.size, 3, none⟩) (u := .slice ah H.length ch) (((rAE.set 0 (.int .i64 (K : Int))).set 1 (.int .u64 (Q : Int))).set 2 (.int .i64 0)) (own_setR (a := ⟨w.heap.size, 2, none⟩) (u := .int .i64 0) ((rAE.set 0 (.int .i64 (K : Int))).set 1 (.int .u64 (Q : Int))) (own_setR (a := ⟨w.heap.size, 1, none⟩) (u := .int .u64 (Q : Int)) (rAE.set 0 (.int .i64 (K : Int))) (own_setR (a := ⟨w.heap.size, 0, none⟩) (u := .int .i64 (K : Int)) rAE hOE.out (by decide)) (by decide)) (by decide)) (by decide)) (by decide)) (by decide))).at, (show OwnFlags _ _ _ _ from (own_setR (a := ⟨w.heap.size, 5, none⟩) (u := .int .u32 0) (((((rAE.set 0 (.int .i64 (K : Int))).set 1 (.int .u64 (Q : Int))).set 2 (.int .i64 0)).set 3 (.slice ah H.length ch)).set 4 (.slice am M.length cm)) (own_setR (a := ⟨w.heap.size, 4, none⟩) (u := .slice am M.length cm) ((((rAE.set 0 (.int .i64 (K : Int))).set 1 (.int .u64 (Q : Int))).set 2 (.int .i64 0)).set 3 (.slice ah H.length ch)) (own_setR (a := ⟨w.heap.size, 3, none⟩) (u := .slice ah H.length ch) (((rAE.set 0 (.int .i64 (K : Int))).set 1 (.int .u64 (Q : Int))).set 2 (.int .i64 0)) (own_setR (a := ⟨w.heap.size, 2, none⟩) (u := .int .i64 0) ((rAE.set 0 (.int .i64 (K : Int))).set 1 (.int .u64 (Q : Int))) (own_setR (a := ⟨w.heap.size, 1, none⟩) (u := .int .u64 (Q : Int)) (rAE.set 0 (.int .i64 (K : Int))) (own_setR (a := ⟨w.heap.size, 0, none⟩) (u := .int .i64 (K : Int)) rAE hFE.out (by decide)) (by decide)) (by decide)) (by decide)) (by decide)) (by decide))).at⟩, HQ.out, (by decide : (0 : Nat) < 2 ^ 32), by dsimp only; omega, by dsimp only; omega, HLE.out, HLM.out⟩, by rw [D1.out, ← HXR.out]; exact ⟨_, _, rfl, (show OwnInts _ _ _ _ from (own_setR (a := ⟨w.heap.size, 5, none⟩) (u := .int .u32 0) (((((rAE.set 0 (.int .i64 (K : Int))).set 1 (.int .u64 (Q : Int))).set 2 (.int .i64 0)).set 3 (.slice ah H.length ch)).set 4 (.slice am M.length cm)) (own_setR (a := ⟨w.heap.size, 4, none⟩) (u := .slice am M.length cm) ((((rAE.set 0 (.int .i64 (K : Int))).set 1 (.int .u64 (Q : Int))).set 2 (.int .i64 0)).set 3 (.slice ah H.length ch)) (own_setR (a := ⟨w.heap.size, 3, none⟩) (u := .slice ah H.length ch) (((rAE.set 0 (.int .i64 (K : Int))).set 1 (.int .u64 (Q : Int))).set 2 (.int .i64 0)) (own_setR (a := ⟨w.heap.size, 2, none⟩) (u := .int .i64 0) ((rAE.set 0 (.int .i64 (K : Int))).set 1 (.int .u64 (Q : Int))) (own_setR (a := ⟨w.heap.size, 1, none⟩) (u := .int .u64 (Q : Int)) (rAE.set 0 (.int .i64 (K : Int))) (own_setR (a := ⟨w.heap.size, 0, none⟩) (u := .int .i64 (K : Int)) rAE hOE.out (by decide)) (by decide)) (by decide)) (by decide)) (by decide)) (by decide))), (show OwnFlags _ _ _ _ from (own_setR (a := ⟨w.heap.size, 5, none⟩) (u := .int .u32 0) (((((rAE.set 0 (.int .i64 (K : Int))).set 1 (.int .u64 (Q : Int))).set 2 (.int .i64 0)).set 3 (.slice ah H.length ch)).set 4 (.slice am M.length cm)) (own_setR (a := ⟨w.heap.size, 4, none⟩) (u := .slice am M.length cm) ((((rAE.set 0 (.int .i64 (K : Int))).set 1 (.int .u64 (Q : Int))).set 2 (.int .i64 0)).set 3 (.slice ah H.length ch)) (own_setR (a := ⟨w.heap.size, 3, none⟩) (u := .slice ah H.length ch) (((rAE.set 0 (.int .i64 (K : Int))).set 1 (.int .u64 (Q : Int))).set 2 (.int .i64 0)) (own_setR (a := ⟨w.heap.size, 2, none⟩) (u := .int .i64 0) ((rAE.set 0 (.int .i64 (K : Int))).set 1 (.int .u64 (Q : Int))) (own_setR (a := ⟨w.heap.size, 1, none⟩) (u := .int .u64 (Q : Int)) (rAE.set 0 (.int .i64 (K : Int))) (own_setR (a := ⟨w.heap.size, 0, none⟩) (u := .int .i64 (K : Int)) rAE hFE.out (by decide)) (by decide)) (by decide)) (by decide)) (by decide)) (by decide)))⟩, (((((((hB.out.trans (hbE.mono hB.out.size)).sC 0 (.int .i64 (K : Int))).sC 1 (.int .u64 (Q : Int))).sC 2 (.int .i64 0)).sC 3 (.slice ah H.length ch)).sC 4 (.slice am M.length cm)).sC 5 (.int .u32 0))⟩
        ·obtain ⟨d1, d2⟩ := Rec.dec_no (show Rec.dec s.data.toList = none from by rw [hend.out, if_neg (fun h => hY (by rw [h.2.2, txt_of]))])
         have D1 := hid d1
         have D2 := hid d2
         have hYs : ((txt e1).toList == s.toList) = false := by rw [beq_eq_false_iff_ne]; intro h; rw [ByteArray.toList_eq, ByteArray.toList_eq] at h; exact hY (by rw [← txt_of (txt e1), h, txt_of])
         generalize txt e1 = Y at *
         clear hY
         clear d1 d2
         go_wp2_with (go_at_call 132; (with_reducible refine HE.out.mono ?_); rintro e wE ⟨rfl, hbE⟩; have rAE := hA.out.below hbE hA.out.lt; have rXE := hX.out.below hbE hX.out.lt; have a0 := rAE.cellAt 0 rfl; have fa0 := rAE.free 0 (by simp); have a1 := rAE.cellAt 1 rfl; have fa1 := rAE.free 1 (by simp); have a2 := rAE.cellAt 2 rfl; have fa2 := rAE.free 2 (by simp); have a3 := rAE.cellAt 3 rfl; have fa3 := rAE.free 3 (by simp); have a4 := rAE.cellAt 4 rfl; have fa4 := rAE.free 4 (by simp); have a5 := rAE.cellAt 5 rfl; have fa5 := rAE.free 5 (by simp); obtain ⟨y0, y1, y2, y3, y4, y5⟩ := rXE.c6)
         have rF := ((((((rAE.set 0 (.int .i64 0)).set 1 (.int .u64 0)).set 2 (.int .i64 0)).set 3 (.slice none 0 0)).set 4 (.slice none 0 0)).set 5 (.int .u32 0))
         obtain ⟨c0, c1, c2, c3, c4, c5⟩ := rF.c6
         exact bodyPost_ret (v := .tuple #[.agg #[.int .i64 0, .int .u64 0, .int .i64 0, .slice none 0 0, .slice none 0 0, .int .u32 0], .int .i64 80]) (by simp [results, Tryz.results127, go_sem, c0, c1, c2, c3, c4, c5]) rfl ⟨_, by rw [D2.out], by rw [D1.out]; exact recat_none _, by rw [D1.out]; exact recown_none _ _, (((((((hB.out.trans (hbE.mono hB.out.size)).sC 0 (.int .i64 0)).sC 1 (.int .u64 0)).sC 2 (.int .i64 0)).sC 3 (.slice none 0 0)).sC 4 (.slice none 0 0)).sC 5 (.int .u32 0))⟩
       ·obtain ⟨d1, d2⟩ := Rec.dec_no (show Rec.dec s.data.toList = none from by rw [hend.out, if_neg (fun h => absurd h.2.1 (by decide))])
        have D1 := hid d1
        have D2 := hid d2
        clear d1 d2
        go_wp2_with (go_at_call 132; (with_reducible refine HE.out.mono ?_); rintro e wE ⟨rfl, hbE⟩; have rAE := hA.out.below hbE hA.out.lt; have rXE := hX.out.below hbE hX.out.lt; have a0 := rAE.cellAt 0 rfl; have fa0 := rAE.free 0 (by simp); have a1 := rAE.cellAt 1 rfl; have fa1 := rAE.free 1 (by simp); have a2 := rAE.cellAt 2 rfl; have fa2 := rAE.free 2 (by simp); have a3 := rAE.cellAt 3 rfl; have fa3 := rAE.free 3 (by simp); have a4 := rAE.cellAt 4 rfl; have fa4 := rAE.free 4 (by simp); have a5 := rAE.cellAt 5 rfl; have fa5 := rAE.free 5 (by simp); obtain ⟨y0, y1, y2, y3, y4, y5⟩ := rXE.c6)
        have rF := ((((((rAE.set 0 (.int .i64 0)).set 1 (.int .u64 0)).set 2 (.int .i64 0)).set 3 (.slice none 0 0)).set 4 (.slice none 0 0)).set 5 (.int .u32 0))
        obtain ⟨c0, c1, c2, c3, c4, c5⟩ := rF.c6
        exact bodyPost_ret (v := .tuple #[.agg #[.int .i64 0, .int .u64 0, .int .i64 0, .slice none 0 0, .slice none 0 0, .int .u32 0], .int .i64 80]) (by simp [results, Tryz.results127, go_sem, c0, c1, c2, c3, c4, c5]) rfl ⟨_, by rw [D2.out], by rw [D1.out]; exact recat_none _, by rw [D1.out]; exact recown_none _ _, (((((((hB.out.trans (hbE.mono hB.out.size)).sC 0 (.int .i64 0)).sC 1 (.int .u64 0)).sC 2 (.int .i64 0)).sC 3 (.slice none 0 0)).sC 4 (.slice none 0 0)).sC 5 (.int .u32 0))⟩
  have KL := hid (show Rec.may (Rec.raw s.data.toList) = false by rw [hr.out]; exact raw_long (.inl hK2.out) (.inr ⟨hK2.out, by dsimp only; rw [Rec.getH_length]; omega⟩))
  by_cases hn40 : n ≤ 40
  ·go_upto_region 16 with fail
   obtain ⟨i0, hi0, hz0, hz1, hz2⟩ := info_parts infoInt
   go_loopw [12] (fun q wr => ∃ (i : Nat) (H : List Int) (hv : Value), q = .int .i64 i ∧ i ≤ n ∧ Hid (H = Rec.getH s.data.toList i) ∧ Hid (Row wr w.heap.size 61 [.int .i64 0, .int .u64 0, .int .i64 0, .slice none 0 0, .slice none 0 0, .int .u32 0]) ∧ Hid (Row wr X 61 [.int .i64 (K : Int), .int .u64 (Q : Int), .int .i64 0, hv, .slice none 0 0, .int .u32 0]) ∧ Hid (OwnInts w.heap.size wr hv H) ∧ Hid (Below w.heap.size w wr)) (fun q _ => n - (intOf q).toNat)
   case atStart => exact ⟨0, [], .slice none 0 0, rfl, by omega, hid rfl, RA1, RX0, hid (World.ownsRow_nil _ _ _ _), B2⟩
   case round =>
    clear RA1 RX0 B2 xk
    obtain ⟨i, H, hv, rfl, hin, hH, hA, hX, hO, hB⟩ := hrel
    have xk := hX.out.cellAt 0 rfl
    by_cases hlt : i < n
    ·have i1 : (i : Int) < (n : Int) := by omega
     have i2 : (i : Int) < 40 := by omega
     have hi40 : i < 40 := by omega
     have gi : Hid (∀ w, Calls Tryz.prog 156 #[.string s, .int .i64 (14 + 2 * (i : Int)), .int .i64 2] w fun e w' => e = .returned (.tuple #[.int .u64 (getW s.data.toList (14 + 2 * i) 2 : Nat), .bool true]) ∧ w = w') := hid (fun w => by
      have := HG.out (14 + 2 * i) 2 w (.inr (.inl rfl)) (by omega)
      rwa [show ((14 + 2 * i : Nat) : Int) = 14 + 2 * (i : Int) by omega] at this)
     have hV := getW_lt s.data.toList (14 + 2 * i) 2
     have hnext : Hid (H ++ [((getW s.data.toList (14 + 2 * i) 2 : Nat) : Int)] = Rec.getH s.data.toList (i + 1)) := hid (by rw [hH.out]; exact (Rec.getH_succ _ _).symm)
     generalize getW s.data.toList (14 + 2 * i) 2 = V at *
     have hV' : V < 65536 := hV
     clear hV
     have HOL := hid (show H.length = i by rw [hH.out, Rec.getH_length])
     obtain ⟨ah, ch, rfl⟩ := OwnInts.slice hO.out
     have hO' : Hid (wr.ownsRow w.heap.size 3 1 (.slice ah H.length ch) H.length (icells H)) := hid hO.out
     rw [HOL.out] at hO' hX
     have x3 := hX.out.cellAt 3 rfl
     have hV1 : ∀ u ∈ [Value.int .i64 (V : Int)], u.oneCell' = true := by intro u hu; rw [List.mem_singleton.1 hu]; rfl
     clear hO
     go_wp2_with (first | (go_at_call 156; (with_reducible refine (gi.out _).mono ?_); rintro e w5' ⟨rfl, rfl⟩) | (at_builtin; refine wpList_append_lies _ rfl _ _ 23 rfl w.heap.size 3 i0 (.int .i64 0) 1 8 Tryz.underlying23 hi0 hz0 hz1 hz2 rfl (by decide) (.slice ah i ch) i (icells H) rfl (own_new1 hO'.out _) ⟨wr.heap.size, 0, none⟩ 1 1 [.int .i64 (V : Int)] rfl rfl (World.news_of_block (heap_alloc_new _ _)) hV1 (by decide) (by unfold maxLen; omega) (by omega) (by have := hB.out.size; simp; omega) _ rfl ?_))
     intro g5 c5 w5 hown hgrow hat hlt5
     have P5 := hid (dpush2 (k := 3) n1 hA.out hX.out (own_new1 hO'.out (.cells #[.int .i64 (V : Int)] 3)) hB.out (Nat.le_refl _) hgrow hown (by decide))
     have rX5 := row_grownR (hX.out.alloc (.cells #[.int .i64 (V : Int)] 3)) (own_new1 hO'.out (.cells #[.int .i64 (V : Int)] 3)) hgrow (by decide)
     have cX5 := rX5.cellAt 3 rfl
     have fX5 := rX5.free 3 (by simp)
     clear rX5 hgrow hown hat hlt5 x3 xk hA hX hO' hB hV1 gi
     go_wp2_with fail
     go_roundw
     case rel => exact ⟨i + 1, H ++ [(V : Int)], _, by go_num, by omega, hnext, hid P5.out.1, hid P5.out.2.1, hid (by unfold OwnInts; rw [List.length_append, HOL.out, icells_append]; exact P5.out.2.2.1), hid P5.out.2.2.2⟩
     case measure => simp [intOf]; omega
    ·obtain rfl : i = n := by omega
     have hno : Hid (∀ M, Rec.may (⟨(K : Int), Q, 0, H, M, 0⟩ : Rec.V) = false) := hid (fun M => raw_long (.inl hK2.out) (.inr ⟨hK2.out, by dsimp only; rw [hH.out, Rec.getH_length]; omega⟩))
     obtain ⟨ah, ch, rfl⟩ := OwnInts.slice hO.out
     rename World => wA
     go_upto_region 21 with fail
     obtain ⟨j0, hj0, jz0, jz1, jz2⟩ := info_parts infoFlag
     have HLE : Hid (H.length ≤ 1000000000) := hid (by rw [hH.out, Rec.getH_length]; omega)
     go_loopw [15] (fun q wr => ∃ (j : Nat) (M : List Bool) (mv : Value), q = .int .i64 j ∧ j ≤ 24 ∧ Hid (M = mbits s.data.toList i j) ∧ Hid (Row wr w.heap.size 61 [.int .i64 0, .int .u64 0, .int .i64 0, .slice none 0 0, .slice none 0 0, .int .u32 0]) ∧ Hid (Row wr X 61 [.int .i64 (K : Int), .int .u64 (Q : Int), .int .i64 0, .slice ah H.length ch, mv, .int .u32 0]) ∧ Hid (OwnInts w.heap.size wr (.slice ah H.length ch) H) ∧ Hid (OwnFlags w.heap.size wr mv M) ∧ Hid (Below w.heap.size w wr)) (fun q _ => 24 - (intOf q).toNat)
     case atStart => exact ⟨0, [], .slice none 0 0, rfl, by omega, hid rfl, hA, hX, hO, hid (World.ownsRow_nil _ _ _ _), hB⟩
     case round =>
      clear hA hX hO hB xk
      obtain ⟨j, M, mv, rfl, hjn, hM, hA, hX, hO, hF, hB⟩ := hrel
      have xk := hX.out.cellAt 0 rfl
      by_cases hlt2 : j < 24
      ·have j1 : (j : Int) < (i : Int) := by omega
       have j2 : (j : Int) < 24 := by omega
       have hn256 : i < 256 := hw9
       have hj24 : j < 24 := by omega
       have hg : 14 + 2 * i + j < 128 := by omega
       have ix : 14 + 2 * i + j < s.size := by rw [HS.out]; exact hg
       have gd : (14 : Int) + 2 * (i : Int) + (j : Int) < (s.size : Int) := by omega
       have gd2 : decide ((14 : Int) + 2 * (i : Int) + (j : Int) < (s.size : Int)) = true := decide_eq_true gd
       have hbit : Hid (mbit s.data.toList i j = ((s[14 + 2 * i + j].toNat : Int) == 1)) := hid (by unfold mbit; rw [decide_eq_true hg, Bool.true_and, getW1 s _ ix]; rw [Bool.eq_iff_iff]; simp; omega)
       have hix : ((14 : Int) + 2 * (i : Int) + (j : Int)).toNat = 14 + 2 * i + j := by omega
       have hix0 : (0 : Int) ≤ (14 : Int) + 2 * (i : Int) + (j : Int) := by omega
       obtain ⟨V, hVV⟩ : ∃ V, s[14 + 2 * i + j].toNat = V := ⟨_, rfl⟩
       rw [hVV] at hbit
       have u1 : IntKind.i64.wrap (2 * (i : Int)) = 2 * (i : Int) := IntWalk.i64_in _ (by omega)
       have u2 : IntKind.i64.wrap (14 + 2 * (i : Int)) = 14 + 2 * (i : Int) := IntWalk.i64_in _ (by omega)
       have u3 : IntKind.i64.wrap (14 + 2 * (i : Int) + (j : Int)) = 14 + 2 * (i : Int) + (j : Int) := IntWalk.i64_in _ (by omega)
       have HML := hid (show M.length = j by rw [hM.out, mbits_length])
       have hnext : Hid (M ++ [((V : Int) == 1)] = mbits s.data.toList i (j + 1)) := hid (by rw [hM.out, mbits_succ, hbit.out])
       obtain ⟨am, cm, rfl⟩ := OwnFlags.slice hF.out
       have hF' : Hid (wr.ownsRow w.heap.size 4 1 (.slice am M.length cm) M.length (fcells M)) := hid hF.out
       rw [HML.out] at hF' hX
       have x4 := hX.out.cellAt 4 rfl
       have hV1 : ∀ u ∈ [Value.bool ((V : Int) == 1)], u.oneCell' = true := by intro u hu; rw [List.mem_singleton.1 hu]; rfl
       have x4b := (hX.out.drew.alloc (.cells #[.bool ((V : Int) == 1)] 4)).cellAt 4 rfl
       have HG9 := hid (own_new1 (w := wr.drew) hF'.out (.cells #[.bool ((V : Int) == 1)] 4))
       have NN9 := hid (box1 wr.drew (.bool ((V : Int) == 1)) 4)
       have hs9 : w.heap.size ≤ (wr.drew.alloc (.cells #[.bool ((V : Int) == 1)] 4)).heap.size := by have := hB.out.size; simp; omega
       clear hF hbit
       go_upto_region 23 with fail
       refine wp_region_E (S := fun w' => w'.cell? ⟨X, 4, none⟩ = some (.slice am j cm)) (E := [23]) (by kernel_rfl) x4 (fun hHeld hCl => ?_)
       refine wpAnyE_take (i := 0) (v := .pointer (some ⟨X, 4, none⟩)) rfl (by kernel_rfl) (by kernel_rfl) (by kernel_rfl) (by kernel_rfl) hCl (fun _ _ _ h => h) (Or.inl ⟨rfl, fun w hSw => (by (try dsimp only at hSw); go_simp)⟩) hHeld (fun hCl => ?_); (try simp only [lL0, lL2, Act.put, lL3, lL4, lL5])
       refine wpAnyE_take (i := 1) (v := .slice am j cm) rfl (by kernel_rfl) (by kernel_rfl) (by kernel_rfl) (by kernel_rfl) hCl (fun _ _ _ h => h) (Or.inl ⟨rfl, fun w hSw => (by (try dsimp only at hSw); go_simp)⟩) hHeld (fun hCl => ?_); (try simp only [lL0, lL1, lL2, Act.put, lL3, lL4, lL5])
       refine wpAnyE_take (i := 2) (v := .int .i64 (i : Int)) rfl (by kernel_rfl) (by kernel_rfl) (by kernel_rfl) (by kernel_rfl) hCl (fun _ _ _ h => h) (Or.inl ⟨rfl, fun w hSw => (by (try dsimp only at hSw); go_simp)⟩) hHeld (fun hCl => ?_); (try simp only [lL0, lL1, lL2, Act.put, lL3, lL4, lL5])
       refine wpAnyE_take (i := 3) (v := .int .i64 (2 * (i : Int))) rfl (by kernel_rfl) (by kernel_rfl) (by kernel_rfl) (by kernel_rfl) hCl (fun _ _ _ h => h) (Or.inl ⟨rfl, fun w hSw => (by (try dsimp only at hSw); go_simp)⟩) hHeld (fun hCl => ?_); (try simp only [lL0, lL1, lL2, Act.put, lL3, lL4, lL5])
       refine wpAnyE_take (i := 4) (v := .int .i64 (14 + 2 * (i : Int))) rfl (by kernel_rfl) (by kernel_rfl) (by kernel_rfl) (by kernel_rfl) hCl (fun _ _ _ h => h) (Or.inl ⟨rfl, fun w hSw => (by (try dsimp only at hSw); go_simp)⟩) hHeld (fun hCl => ?_); (try simp only [lL0, lL1, lL2, Act.put, lL3, lL4, lL5])
       refine wpAnyE_take (i := 5) (v := .int .i64 (j : Int)) rfl (by kernel_rfl) (by kernel_rfl) (by kernel_rfl) (by kernel_rfl) hCl (fun _ _ _ h => h) (Or.inl ⟨rfl, fun w hSw => (by (try dsimp only at hSw); go_simp)⟩) hHeld (fun hCl => ?_); (try simp only [lL0, lL1, lL2, Act.put, lL3, lL4, lL5])
       refine wpAnyE_take (i := 6) (v := .int .i64 (14 + 2 * (i : Int) + (j : Int))) rfl (by kernel_rfl) (by kernel_rfl) (by kernel_rfl) (by kernel_rfl) hCl (fun _ _ _ h => h) (Or.inl ⟨rfl, fun w hSw => (by (try dsimp only at hSw); go_simp)⟩) hHeld (fun hCl => ?_); (try simp only [lL0, lL1, lL2, Act.put, lL3, lL4, lL5])
       refine wpAnyE_take (i := 7) (v := .string s) rfl (by kernel_rfl) (by kernel_rfl) (by kernel_rfl) (by kernel_rfl) hCl (fun _ _ _ h => h) (Or.inl ⟨rfl, fun w hSw => (by (try dsimp only at hSw); go_simp)⟩) hHeld (fun hCl => ?_); (try simp only [lL0, lL1, lL2, Act.put, lL3, lL4, lL5])
       refine wpAnyE_take (i := 8) (v := .int .i64 (s.size : Int)) rfl (by kernel_rfl) (by kernel_rfl) (by kernel_rfl) (by kernel_rfl) hCl (fun _ _ _ h => h) (Or.inl ⟨rfl, fun w hSw => (by (try dsimp only at hSw); go_simp)⟩) hHeld (fun hCl => ?_); (try simp only [lL0, lL1, lL2, Act.put, lL3, lL4, lL5])
       refine wpAnyE_take (i := 9) (v := .bool true) rfl (by kernel_rfl) (by kernel_rfl) (by kernel_rfl) (by kernel_rfl) hCl (fun _ _ _ h => h) (Or.inl ⟨rfl, fun w hSw => (by (try dsimp only at hSw); go_simp)⟩) hHeld (fun hCl => ?_); (try simp only [lL0, lL1, lL2, Act.put, lL3, lL4, lL5])
       refine wpAnyE_take (i := 10) (v := .bool true) rfl (by kernel_rfl) (by kernel_rfl) (by kernel_rfl) (by kernel_rfl) hCl (fun _ _ _ h => h) (Or.inl ⟨rfl, fun w hSw => (by (try dsimp only at hSw); go_simp)⟩) hHeld (fun hCl => ?_); (try simp only [lL0, lL1, lL2, Act.put, lL3, lL4, lL5])
       refine wpAnyE_take (i := 11) (v := .string s) rfl (by kernel_rfl) (by kernel_rfl) (by kernel_rfl) (by kernel_rfl) hCl (fun _ _ _ h => h) (Or.inl ⟨rfl, fun w hSw => (by (try dsimp only at hSw); go_simp)⟩) hHeld (fun hCl => ?_); (try simp only [lL0, lL1, lL2, Act.put, lL3, lL4, lL5])
       refine wpAnyE_take (i := 12) (v := .int .i64 (i : Int)) rfl (by kernel_rfl) (by kernel_rfl) (by kernel_rfl) (by kernel_rfl) hCl (fun _ _ _ h => h) (Or.inl ⟨rfl, fun w hSw => (by (try dsimp only at hSw); go_simp)⟩) hHeld (fun hCl => ?_); (try simp only [lL0, lL1, lL2, Act.put, lL3, lL4, lL5])
       refine wpAnyE_take (i := 13) (v := .int .i64 (2 * (i : Int))) rfl (by kernel_rfl) (by kernel_rfl) (by kernel_rfl) (by kernel_rfl) hCl (fun _ _ _ h => h) (Or.inl ⟨rfl, fun w hSw => (by (try dsimp only at hSw); go_simp)⟩) hHeld (fun hCl => ?_); (try simp only [lL0, lL1, lL2, Act.put, lL3, lL4, lL5])
       refine wpAnyE_take (i := 14) (v := .int .i64 (14 + 2 * (i : Int))) rfl (by kernel_rfl) (by kernel_rfl) (by kernel_rfl) (by kernel_rfl) hCl (fun _ _ _ h => h) (Or.inl ⟨rfl, fun w hSw => (by (try dsimp only at hSw); go_simp)⟩) hHeld (fun hCl => ?_); (try simp only [lL0, lL1, lL2, Act.put, lL3, lL4, lL5])
       refine wpAnyE_take (i := 15) (v := .int .i64 (j : Int)) rfl (by kernel_rfl) (by kernel_rfl) (by kernel_rfl) (by kernel_rfl) hCl (fun _ _ _ h => h) (Or.inl ⟨rfl, fun w hSw => (by (try dsimp only at hSw); go_simp)⟩) hHeld (fun hCl => ?_); (try simp only [lL0, lL1, lL2, Act.put, lL3, lL4, lL5])
       refine wpAnyE_take (i := 16) (v := .int .i64 (14 + 2 * (i : Int) + (j : Int))) rfl (by kernel_rfl) (by kernel_rfl) (by kernel_rfl) (by kernel_rfl) hCl (fun _ _ _ h => h) (Or.inl ⟨rfl, fun w hSw => (by (try dsimp only at hSw); go_simp)⟩) hHeld (fun hCl => ?_); (try simp only [lL0, lL1, lL2, Act.put, lL3, lL4, lL5])
       refine wpAnyE_take (i := 17) (v := .int .u8 (V : Int)) rfl (by kernel_rfl) (by kernel_rfl) (by kernel_rfl) (by kernel_rfl) hCl (fun _ _ _ h => h) (Or.inl ⟨rfl, fun w hSw => (by (try dsimp only at hSw); go_simp)⟩) hHeld (fun hCl => ?_); (try simp only [lL0, lL1, lL2, Act.put, lL3, lL4, lL5])
       refine wpAnyE_take (i := 18) (v := .bool ((V : Int) == 1)) rfl (by kernel_rfl) (by kernel_rfl) (by kernel_rfl) (by kernel_rfl) hCl (fun _ _ _ h => h) (Or.inl ⟨rfl, fun w hSw => (by (try dsimp only at hSw); go_simp)⟩) hHeld (fun hCl => ?_); (try simp only [lL0, lL1, lL2, Act.put, lL3, lL4, lL5])
       refine wpAnyE_take (i := 19) (v := .bool ((V : Int) == 1)) rfl (by kernel_rfl) (by kernel_rfl) (by kernel_rfl) (by kernel_rfl) hCl (fun _ _ _ h => h) (Or.inl ⟨rfl, fun w hSw => (by (try dsimp only at hSw); go_simp)⟩) hHeld (fun hCl => ?_); (try simp only [lL0, lL1, lL2, Act.put, lL3, lL4, lL5])
       refine wpAnyE_ready (rs := [20]) (by kernel_rfl) (by simp) ?_; refine NextE.cons rfl (fun K hK => ?_) NextE.nil
       go_simp
       refine hK.out _ _ (fun _ => x4b) (fun hHeld => ?_); replace hHeld := hHeld rfl; have hCl := hCl.step (j := 20) (by decide +kernel); clear hK K; (try simp only [lL0, lL1, lL2, Act.put, lL3, lL4, lL5])
       refine wpAnyE_ready (rs := [21]) (by kernel_rfl) (by simp) ?_; refine NextE.cons rfl (fun K hK => ?_) NextE.nil
       refine step_append_lies _ rfl (.tmp 104) (.tmp 123) 40 rfl w.heap.size 4 j0 (.bool false) 1 1 Tryz.underlying40 hj0 jz0 jz1 jz2 rfl (by decide) (.slice am j cm) j (fcells M) (by simp [Act.eval, Act.put]; done) HG9.out ⟨wr.heap.size, 0, none⟩ 1 1 [.bool ((V : Int) == 1)] (by simp [Act.eval, Act.put]; done) rfl NN9.out hV1 (by decide) (by unfold maxLen; omega) (by omega) hs9 _ rfl ?_
       intro g5 c5 w5 hown hgrow hat hlt5
       have rX5 := row_grownR (hX.out.drew.alloc (.cells #[.bool ((V : Int) == 1)] 4)) HG9.out hgrow (by decide)
       have cX5 := rX5.cellAt 4 rfl
       have fX5 := rX5.free 4 (by simp)
       have P5 := hid (dpush2 (k := 4) n1 hA.out.drew hX.out.drew HG9.out hB.out.drew (Nat.le_refl _) hgrow hown (by decide))
       have Q5 := hid (dec_keep (k := 4) (v5 := .slice (some ⟨g5, 0, none⟩) (j + 1) c5) hX.out.drew HG9.out hgrow (show wr.drew.ownsRow w.heap.size 3 1 (.slice ah H.length ch) H.length (icells H) from hO.out) (by decide) (by decide) (by decide))
       refine hK.out _ _ (fun _ => cX5) (fun hHeld => ?_); replace hHeld := hHeld rfl; have hCl := hCl.step (j := 21) (by decide +kernel); clear hK K; (try simp only [lL0, lL1, lL2, Act.put, lL3, lL4, lL5])
       refine wpAnyE_ready (rs := [22]) (by kernel_rfl) (by simp) ?_; refine NextE.cons rfl (fun K hK => ?_) NextE.nil
       go_simp
       refine hK.out _ _ (fun _ => cX5) (fun hHeld => ?_); replace hHeld := hHeld rfl; have hCl := hCl.step (j := 22) (by decide +kernel); clear hK K; (try simp only [lL0, lL1, lL2, Act.put, lL3, lL4, lL5])
       refine wpAnyE_ready (rs := [23]) (by kernel_rfl) (by simp) ?_; refine NextE.cons rfl (fun K hK => ?_) NextE.nil
       go_simp
       refine hK.out _ _ (fun h => by cases h) (fun _ => ?_); clear hK K; (try simp only [lL0, lL1, lL2, Act.put, lL3, lL4, lL5])
       refine wpAnyE_done (by kernel_rfl) ?_ _
       all_goals
        clear hgrow hat hlt5 rX5 hown x4 x4b NN9 hs9 HG9 hA hX hO hB hHeld hCl
        go_wp2_with fail
        go_roundw
       all_goals first | exact ⟨j + 1, M ++ [((V : Int) == 1)], _, by go_num, by omega, hnext, hid P5.out.1, hid P5.out.2.1, hid Q5.out, hid (by unfold OwnFlags; rw [List.length_append, HML.out, fcells_append]; exact P5.out.2.2.1), hid P5.out.2.2.2⟩ | (simp [intOf]; omega)
      ·have hj4 := hid (show j = 24 by omega)
       have j1 : (j : Int) < (i : Int) := by omega
       have j2 : ¬ (j : Int) < 24 := by omega
       have j3 : ¬ j < 24 := by omega
       have j4 : j < i := by omega
       have HLM : Hid (M.length ≤ 1000000000) := hid (by rw [hM.out, mbits_length]; omega)
       obtain ⟨am, cm, rfl⟩ := OwnFlags.slice hF.out
       go_upto_region 24 with fail
       clear xk
       have HE := hid (dencode_any (.agg #[.int .i64 (K : Int), .int .u64 (Q : Int), .int .i64 0, .slice ah H.length ch, .slice am M.length cm, .int .u32 0]) (⟨(K : Int), Q, 0, H, M, 0⟩ : Rec.V) wr ⟨⟨_, _, rfl, hO.out.at, hF.out.at⟩, HQ.out, (by decide : (0 : Nat) < 2 ^ 32), by dsimp only; omega, by dsimp only; omega, HLE.out, HLM.out⟩)
       have hend := hid (Rec.dec_end HL.out (x := (⟨(K : Int), Q, 0, H, M, 0⟩ : Rec.V)) (bad := false) (.inr ⟨KL.out, .inr (hno.out M)⟩))
       have hE2 : (Rec.encR (⟨(K : Int), Q, 0, H, M, 0⟩ : Rec.V)).2 = 2 := by unfold Rec.encR; rw [hno.out M]; rfl
       obtain ⟨xr, hxr⟩ : ∃ xr, (⟨(K : Int), Q, 0, H, M, 0⟩ : Rec.V) = xr := ⟨_, rfl⟩
       rw [hxr] at hend hE2
       have HXR := hid hxr
       rw [hxr] at HE
       clear hxr
       generalize Rec.encR xr = ER at *
       obtain ⟨e1, e2⟩ := ER
       obtain ⟨x0, x1, x2, x3, x4, x5⟩ := hX.out.c6
       dsimp only at hE2 HE hend
       subst hE2
       obtain ⟨d1, d2⟩ := Rec.dec_no (show Rec.dec s.data.toList = none from by rw [hend.out, if_neg (fun h => absurd h.2.1 (by decide))])
       have D1 := hid d1
       have D2 := hid d2
       clear d1 d2
       go_wp2_with (go_at_call 132; (with_reducible refine HE.out.mono ?_); rintro e wE ⟨rfl, hbE⟩; have rAE := hA.out.below hbE hA.out.lt; have rXE := hX.out.below hbE hX.out.lt; have a0 := rAE.cellAt 0 rfl; have fa0 := rAE.free 0 (by simp); have a1 := rAE.cellAt 1 rfl; have fa1 := rAE.free 1 (by simp); have a2 := rAE.cellAt 2 rfl; have fa2 := rAE.free 2 (by simp); have a3 := rAE.cellAt 3 rfl; have fa3 := rAE.free 3 (by simp); have a4 := rAE.cellAt 4 rfl; have fa4 := rAE.free 4 (by simp); have a5 := rAE.cellAt 5 rfl; have fa5 := rAE.free 5 (by simp); obtain ⟨y0, y1, y2, y3, y4, y5⟩ := rXE.c6)
       have rF := ((((((rAE.set 0 (.int .i64 0)).set 1 (.int .u64 0)).set 2 (.int .i64 0)).set 3 (.slice none 0 0)).set 4 (.slice none 0 0)).set 5 (.int .u32 0))
       obtain ⟨c0, c1, c2, c3, c4, c5⟩ := rF.c6
       exact bodyPost_ret (v := .tuple #[.agg #[.int .i64 0, .int .u64 0, .int .i64 0, .slice none 0 0, .slice none 0 0, .int .u32 0], .int .i64 80]) (by simp [results, Tryz.results127, go_sem, c0, c1, c2, c3, c4, c5]) rfl ⟨_, by rw [D2.out], by rw [D1.out]; exact recat_none _, by rw [D1.out]; exact recown_none _ _, (((((((hB.out.trans (hbE.mono hB.out.size)).sC 0 (.int .i64 0)).sC 1 (.int .u64 0)).sC 2 (.int .i64 0)).sC 3 (.slice none 0 0)).sC 4 (.slice none 0 0)).sC 5 (.int .u32 0))⟩
  ·go_upto_region 16 with fail
   obtain ⟨i0, hi0, hz0, hz1, hz2⟩ := info_parts infoInt
   go_loopw [12] (fun q wr => ∃ (i : Nat) (H : List Int) (hv : Value), q = .int .i64 i ∧ i ≤ 40 ∧ Hid (H = Rec.getH s.data.toList i) ∧ Hid (Row wr w.heap.size 61 [.int .i64 0, .int .u64 0, .int .i64 0, .slice none 0 0, .slice none 0 0, .int .u32 0]) ∧ Hid (Row wr X 61 [.int .i64 (K : Int), .int .u64 (Q : Int), .int .i64 0, hv, .slice none 0 0, .int .u32 0]) ∧ Hid (OwnInts w.heap.size wr hv H) ∧ Hid (Below w.heap.size w wr)) (fun q _ => 40 - (intOf q).toNat)
   case atStart => exact ⟨0, [], .slice none 0 0, rfl, by omega, hid rfl, RA1, RX0, hid (World.ownsRow_nil _ _ _ _), B2⟩
   case round =>
    clear RA1 RX0 B2 xk
    obtain ⟨i, H, hv, rfl, hin, hH, hA, hX, hO, hB⟩ := hrel
    have xk := hX.out.cellAt 0 rfl
    by_cases hlt : i < 40
    ·have i1 : (i : Int) < (n : Int) := by omega
     have i2 : (i : Int) < 40 := by omega
     have hi40 : i < 40 := by omega
     have gi : Hid (∀ w, Calls Tryz.prog 156 #[.string s, .int .i64 (14 + 2 * (i : Int)), .int .i64 2] w fun e w' => e = .returned (.tuple #[.int .u64 (getW s.data.toList (14 + 2 * i) 2 : Nat), .bool true]) ∧ w = w') := hid (fun w => by
      have := HG.out (14 + 2 * i) 2 w (.inr (.inl rfl)) (by omega)
      rwa [show ((14 + 2 * i : Nat) : Int) = 14 + 2 * (i : Int) by omega] at this)
     have hV := getW_lt s.data.toList (14 + 2 * i) 2
     have hnext : Hid (H ++ [((getW s.data.toList (14 + 2 * i) 2 : Nat) : Int)] = Rec.getH s.data.toList (i + 1)) := hid (by rw [hH.out]; exact (Rec.getH_succ _ _).symm)
     generalize getW s.data.toList (14 + 2 * i) 2 = V at *
     have hV' : V < 65536 := hV
     clear hV
     have HOL := hid (show H.length = i by rw [hH.out, Rec.getH_length])
     obtain ⟨ah, ch, rfl⟩ := OwnInts.slice hO.out
     have hO' : Hid (wr.ownsRow w.heap.size 3 1 (.slice ah H.length ch) H.length (icells H)) := hid hO.out
     rw [HOL.out] at hO' hX
     have x3 := hX.out.cellAt 3 rfl
     have hV1 : ∀ u ∈ [Value.int .i64 (V : Int)], u.oneCell' = true := by intro u hu; rw [List.mem_singleton.1 hu]; rfl
     clear hO
     go_wp2_with (first | (go_at_call 156; (with_reducible refine (gi.out _).mono ?_); rintro e w5' ⟨rfl, rfl⟩) | (at_builtin; refine wpList_append_lies _ rfl _ _ 23 rfl w.heap.size 3 i0 (.int .i64 0) 1 8 Tryz.underlying23 hi0 hz0 hz1 hz2 rfl (by decide) (.slice ah i ch) i (icells H) rfl (own_new1 hO'.out _) ⟨wr.heap.size, 0, none⟩ 1 1 [.int .i64 (V : Int)] rfl rfl (World.news_of_block (heap_alloc_new _ _)) hV1 (by decide) (by unfold maxLen; omega) (by omega) (by have := hB.out.size; simp; omega) _ rfl ?_))
     intro g5 c5 w5 hown hgrow hat hlt5
     have P5 := hid (dpush2 (k := 3) n1 hA.out hX.out (own_new1 hO'.out (.cells #[.int .i64 (V : Int)] 3)) hB.out (Nat.le_refl _) hgrow hown (by decide))
     have rX5 := row_grownR (hX.out.alloc (.cells #[.int .i64 (V : Int)] 3)) (own_new1 hO'.out (.cells #[.int .i64 (V : Int)] 3)) hgrow (by decide)
     have cX5 := rX5.cellAt 3 rfl
     have fX5 := rX5.free 3 (by simp)
     clear rX5 hgrow hown hat hlt5 x3 xk hA hX hO' hB hV1 gi
     go_wp2_with fail
     go_roundw
     case rel => exact ⟨i + 1, H ++ [(V : Int)], _, by go_num, by omega, hnext, hid P5.out.1, hid P5.out.2.1, hid (by unfold OwnInts; rw [List.length_append, HOL.out, icells_append]; exact P5.out.2.2.1), hid P5.out.2.2.2⟩
     case measure => simp [intOf]; omega
    ·have hi4 : i = 40 := by omega
     have i1 : (i : Int) < (n : Int) := by omega
     have i2 : ¬ (i : Int) < 40 := by omega
     have i3 : ¬ i < 40 := by omega
     have i4 : i < n := by omega
     replace hi4 := hid hi4
     have hno : Hid (∀ M, Rec.may (⟨(K : Int), Q, 0, H, M, 0⟩ : Rec.V) = false) := hid (fun M => raw_long (.inl hK2.out) (.inr ⟨hK2.out, by dsimp only; rw [hH.out, Rec.getH_length, hi4.out]; omega⟩))
     obtain ⟨ah, ch, rfl⟩ := OwnInts.slice hO.out
     rename World => wA
     go_upto_region 21 with fail
     obtain ⟨j0, hj0, jz0, jz1, jz2⟩ := info_parts infoFlag
     have HLE : Hid (H.length ≤ 1000000000) := hid (by rw [hH.out, Rec.getH_length, hi4.out]; omega)
     go_loopw [15] (fun q wr => ∃ (j : Nat) (M : List Bool) (mv : Value), q = .int .i64 j ∧ j ≤ 24 ∧ Hid (M = mbits s.data.toList n j) ∧ Hid (Row wr w.heap.size 61 [.int .i64 0, .int .u64 0, .int .i64 0, .slice none 0 0, .slice none 0 0, .int .u32 0]) ∧ Hid (Row wr X 61 [.int .i64 (K : Int), .int .u64 (Q : Int), .int .i64 0, .slice ah H.length ch, mv, .int .u32 0]) ∧ Hid (OwnInts w.heap.size wr (.slice ah H.length ch) H) ∧ Hid (OwnFlags w.heap.size wr mv M) ∧ Hid (Below w.heap.size w wr)) (fun q _ => 24 - (intOf q).toNat)
     case atStart => exact ⟨0, [], .slice none 0 0, rfl, by omega, hid rfl, hA, hX, hO, hid (World.ownsRow_nil _ _ _ _), hB⟩
     case round =>
      clear hA hX hO hB xk
      obtain ⟨j, M, mv, rfl, hjn, hM, hA, hX, hO, hF, hB⟩ := hrel
      have xk := hX.out.cellAt 0 rfl
      by_cases hlt2 : j < 24
      ·have j1 : (j : Int) < (n : Int) := by omega
       have j2 : (j : Int) < 24 := by omega
       have hn256 : n < 256 := hw9
       have hj24 : j < 24 := by omega
       by_cases hg : 14 + 2 * n + j < 128
       ·have ix : 14 + 2 * n + j < s.size := by rw [HS.out]; exact hg
        have gd : (14 : Int) + 2 * (n : Int) + (j : Int) < (s.size : Int) := by omega
        have gd2 : decide ((14 : Int) + 2 * (n : Int) + (j : Int) < (s.size : Int)) = true := decide_eq_true gd
        have hbit : Hid (mbit s.data.toList n j = ((s[14 + 2 * n + j].toNat : Int) == 1)) := hid (by unfold mbit; rw [decide_eq_true hg, Bool.true_and, getW1 s _ ix]; rw [Bool.eq_iff_iff]; simp; omega)
        have hix : ((14 : Int) + 2 * (n : Int) + (j : Int)).toNat = 14 + 2 * n + j := by omega
        have hix0 : (0 : Int) ≤ (14 : Int) + 2 * (n : Int) + (j : Int) := by omega
        obtain ⟨V, hVV⟩ : ∃ V, s[14 + 2 * n + j].toNat = V := ⟨_, rfl⟩
        rw [hVV] at hbit
        have u1 : IntKind.i64.wrap (2 * (n : Int)) = 2 * (n : Int) := IntWalk.i64_in _ (by omega)
        have u2 : IntKind.i64.wrap (14 + 2 * (n : Int)) = 14 + 2 * (n : Int) := IntWalk.i64_in _ (by omega)
        have u3 : IntKind.i64.wrap (14 + 2 * (n : Int) + (j : Int)) = 14 + 2 * (n : Int) + (j : Int) := IntWalk.i64_in _ (by omega)
        have HML := hid (show M.length = j by rw [hM.out, mbits_length])
        have hnext : Hid (M ++ [((V : Int) == 1)] = mbits s.data.toList n (j + 1)) := hid (by rw [hM.out, mbits_succ, hbit.out])
        obtain ⟨am, cm, rfl⟩ := OwnFlags.slice hF.out
        have hF' : Hid (wr.ownsRow w.heap.size 4 1 (.slice am M.length cm) M.length (fcells M)) := hid hF.out
        rw [HML.out] at hF' hX
        have x4 := hX.out.cellAt 4 rfl
        have hV1 : ∀ u ∈ [Value.bool ((V : Int) == 1)], u.oneCell' = true := by intro u hu; rw [List.mem_singleton.1 hu]; rfl
        have x4b := (hX.out.drew.alloc (.cells #[.bool ((V : Int) == 1)] 4)).cellAt 4 rfl
        have HG9 := hid (own_new1 (w := wr.drew) hF'.out (.cells #[.bool ((V : Int) == 1)] 4))
        have NN9 := hid (box1 wr.drew (.bool ((V : Int) == 1)) 4)
        have hs9 : w.heap.size ≤ (wr.drew.alloc (.cells #[.bool ((V : Int) == 1)] 4)).heap.size := by have := hB.out.size; simp; omega
        clear hF hbit
        go_upto_region 23 with fail
        refine wp_region_E (S := fun w' => w'.cell? ⟨X, 4, none⟩ = some (.slice am j cm)) (E := [23]) (by kernel_rfl) x4 (fun hHeld hCl => ?_)
        refine wpAnyE_take (i := 0) (v := .pointer (some ⟨X, 4, none⟩)) rfl (by kernel_rfl) (by kernel_rfl) (by kernel_rfl) (by kernel_rfl) hCl (fun _ _ _ h => h) (Or.inl ⟨rfl, fun w hSw => (by (try dsimp only at hSw); go_simp)⟩) hHeld (fun hCl => ?_); (try simp only [lL0, lL2, Act.put, lL3, lL4, lL5])
        refine wpAnyE_take (i := 1) (v := .slice am j cm) rfl (by kernel_rfl) (by kernel_rfl) (by kernel_rfl) (by kernel_rfl) hCl (fun _ _ _ h => h) (Or.inl ⟨rfl, fun w hSw => (by (try dsimp only at hSw); go_simp)⟩) hHeld (fun hCl => ?_); (try simp only [lL0, lL1, lL2, Act.put, lL3, lL4, lL5])
        refine wpAnyE_take (i := 2) (v := .int .i64 (n : Int)) rfl (by kernel_rfl) (by kernel_rfl) (by kernel_rfl) (by kernel_rfl) hCl (fun _ _ _ h => h) (Or.inl ⟨rfl, fun w hSw => (by (try dsimp only at hSw); go_simp)⟩) hHeld (fun hCl => ?_); (try simp only [lL0, lL1, lL2, Act.put, lL3, lL4, lL5])
        refine wpAnyE_take (i := 3) (v := .int .i64 (2 * (n : Int))) rfl (by kernel_rfl) (by kernel_rfl) (by kernel_rfl) (by kernel_rfl) hCl (fun _ _ _ h => h) (Or.inl ⟨rfl, fun w hSw => (by (try dsimp only at hSw); go_simp)⟩) hHeld (fun hCl => ?_); (try simp only [lL0, lL1, lL2, Act.put, lL3, lL4, lL5])
        refine wpAnyE_take (i := 4) (v := .int .i64 (14 + 2 * (n : Int))) rfl (by kernel_rfl) (by kernel_rfl) (by kernel_rfl) (by kernel_rfl) hCl (fun _ _ _ h => h) (Or.inl ⟨rfl, fun w hSw => (by (try dsimp only at hSw); go_simp)⟩) hHeld (fun hCl => ?_); (try simp only [lL0, lL1, lL2, Act.put, lL3, lL4, lL5])
        refine wpAnyE_take (i := 5) (v := .int .i64 (j : Int)) rfl (by kernel_rfl) (by kernel_rfl) (by kernel_rfl) (by kernel_rfl) hCl (fun _ _ _ h => h) (Or.inl ⟨rfl, fun w hSw => (by (try dsimp only at hSw); go_simp)⟩) hHeld (fun hCl => ?_); (try simp only [lL0, lL1, lL2, Act.put, lL3, lL4, lL5])
        refine wpAnyE_take (i := 6) (v := .int .i64 (14 + 2 * (n : Int) + (j : Int))) rfl (by kernel_rfl) (by kernel_rfl) (by kernel_rfl) (by kernel_rfl) hCl (fun _ _ _ h => h) (Or.inl ⟨rfl, fun w hSw => (by (try dsimp only at hSw); go_simp)⟩) hHeld (fun hCl => ?_); (try simp only [lL0, lL1, lL2, Act.put, lL3, lL4, lL5])
        refine wpAnyE_take (i := 7) (v := .string s) rfl (by kernel_rfl) (by kernel_rfl) (by kernel_rfl) (by kernel_rfl) hCl (fun _ _ _ h => h) (Or.inl ⟨rfl, fun w hSw => (by (try dsimp only at hSw); go_simp)⟩) hHeld (fun hCl => ?_); (try simp only [lL0, lL1, lL2, Act.put, lL3, lL4, lL5])
        refine wpAnyE_take (i := 8) (v := .int .i64 (s.size : Int)) rfl (by kernel_rfl) (by kernel_rfl) (by kernel_rfl) (by kernel_rfl) hCl (fun _ _ _ h => h) (Or.inl ⟨rfl, fun w hSw => (by (try dsimp only at hSw); go_simp)⟩) hHeld (fun hCl => ?_); (try simp only [lL0, lL1, lL2, Act.put, lL3, lL4, lL5])
        refine wpAnyE_take (i := 9) (v := .bool true) rfl (by kernel_rfl) (by kernel_rfl) (by kernel_rfl) (by kernel_rfl) hCl (fun _ _ _ h => h) (Or.inl ⟨rfl, fun w hSw => (by (try dsimp only at hSw); go_simp)⟩) hHeld (fun hCl => ?_); (try simp only [lL0, lL1, lL2, Act.put, lL3, lL4, lL5])
        refine wpAnyE_take (i := 10) (v := .bool true) rfl (by kernel_rfl) (by kernel_rfl) (by kernel_rfl) (by kernel_rfl) hCl (fun _ _ _ h => h) (Or.inl ⟨rfl, fun w hSw => (by (try dsimp only at hSw); go_simp)⟩) hHeld (fun hCl => ?_); (try simp only [lL0, lL1, lL2, Act.put, lL3, lL4, lL5])
        refine wpAnyE_take (i := 11) (v := .string s) rfl (by kernel_rfl) (by kernel_rfl) (by kernel_rfl) (by kernel_rfl) hCl (fun _ _ _ h => h) (Or.inl ⟨rfl, fun w hSw => (by (try dsimp only at hSw); go_simp)⟩) hHeld (fun hCl => ?_); (try simp only [lL0, lL1, lL2, Act.put, lL3, lL4, lL5])
        refine wpAnyE_take (i := 12) (v := .int .i64 (n : Int)) rfl (by kernel_rfl) (by kernel_rfl) (by kernel_rfl) (by kernel_rfl) hCl (fun _ _ _ h => h) (Or.inl ⟨rfl, fun w hSw => (by (try dsimp only at hSw); go_simp)⟩) hHeld (fun hCl => ?_); (try simp only [lL0, lL1, lL2, Act.put, lL3, lL4, lL5])
        refine wpAnyE_take (i := 13) (v := .int .i64 (2 * (n : Int))) rfl (by kernel_rfl) (by kernel_rfl) (by kernel_rfl) (by kernel_rfl) hCl (fun _ _ _ h => h) (Or.inl ⟨rfl, fun w hSw => (by (try dsimp only at hSw); go_simp)⟩) hHeld (fun hCl => ?_); (try simp only [lL0, lL1, lL2, Act.put, lL3, lL4, lL5])
        refine wpAnyE_take (i := 14) (v := .int .i64 (14 + 2 * (n : Int))) rfl (by kernel_rfl) (by kernel_rfl) (by kernel_rfl) (by kernel_rfl) hCl (fun _ _ _ h => h) (Or.inl ⟨rfl, fun w hSw => (by (try dsimp only at hSw); go_simp)⟩) hHeld (fun hCl => ?_); (try simp only [lL0, lL1, lL2, Act.put, lL3, lL4, lL5])
        refine wpAnyE_take (i := 15) (v := .int .i64 (j : Int)) rfl (by kernel_rfl) (by kernel_rfl) (by kernel_rfl) (by kernel_rfl) hCl (fun _ _ _ h => h) (Or.inl ⟨rfl, fun w hSw => (by (try dsimp only at hSw); go_simp)⟩) hHeld (fun hCl => ?_); (try simp only [lL0, lL1, lL2, Act.put, lL3, lL4, lL5])
        refine wpAnyE_take (i := 16) (v := .int .i64 (14 + 2 * (n : Int) + (j : Int))) rfl (by kernel_rfl) (by kernel_rfl) (by kernel_rfl) (by kernel_rfl) hCl (fun _ _ _ h => h) (Or.inl ⟨rfl, fun w hSw => (by (try dsimp only at hSw); go_simp)⟩) hHeld (fun hCl => ?_); (try simp only [lL0, lL1, lL2, Act.put, lL3, lL4, lL5])
        refine wpAnyE_take (i := 17) (v := .int .u8 (V : Int)) rfl (by kernel_rfl) (by kernel_rfl) (by kernel_rfl) (by kernel_rfl) hCl (fun _ _ _ h => h) (Or.inl ⟨rfl, fun w hSw => (by (try dsimp only at hSw); go_simp)⟩) hHeld (fun hCl => ?_); (try simp only [lL0, lL1, lL2, Act.put, lL3, lL4, lL5])
        refine wpAnyE_take (i := 18) (v := .bool ((V : Int) == 1)) rfl (by kernel_rfl) (by kernel_rfl) (by kernel_rfl) (by kernel_rfl) hCl (fun _ _ _ h => h) (Or.inl ⟨rfl, fun w hSw => (by (try dsimp only at hSw); go_simp)⟩) hHeld (fun hCl => ?_); (try simp only [lL0, lL1, lL2, Act.put, lL3, lL4, lL5])
        refine wpAnyE_take (i := 19) (v := .bool ((V : Int) == 1)) rfl (by kernel_rfl) (by kernel_rfl) (by kernel_rfl) (by kernel_rfl) hCl (fun _ _ _ h => h) (Or.inl ⟨rfl, fun w hSw => (by (try dsimp only at hSw); go_simp)⟩) hHeld (fun hCl => ?_); (try simp only [lL0, lL1, lL2, Act.put, lL3, lL4, lL5])
        refine wpAnyE_ready (rs := [20]) (by kernel_rfl) (by simp) ?_; refine NextE.cons rfl (fun K hK => ?_) NextE.nil
        go_simp
        refine hK.out _ _ (fun _ => x4b) (fun hHeld => ?_); replace hHeld := hHeld rfl; have hCl := hCl.step (j := 20) (by decide +kernel); clear hK K; (try simp only [lL0, lL1, lL2, Act.put, lL3, lL4, lL5])
        refine wpAnyE_ready (rs := [21]) (by kernel_rfl) (by simp) ?_; refine NextE.cons rfl (fun K hK => ?_) NextE.nil
        refine step_append_lies _ rfl (.tmp 104) (.tmp 123) 40 rfl w.heap.size 4 j0 (.bool false) 1 1 Tryz.underlying40 hj0 jz0 jz1 jz2 rfl (by decide) (.slice am j cm) j (fcells M) (by simp [Act.eval, Act.put]; done) HG9.out ⟨wr.heap.size, 0, none⟩ 1 1 [.bool ((V : Int) == 1)] (by simp [Act.eval, Act.put]; done) rfl NN9.out hV1 (by decide) (by unfold maxLen; omega) (by omega) hs9 _ rfl ?_
        intro g5 c5 w5 hown hgrow hat hlt5
        have rX5 := row_grownR (hX.out.drew.alloc (.cells #[.bool ((V : Int) == 1)] 4)) HG9.out hgrow (by decide)
        have cX5 := rX5.cellAt 4 rfl
        have fX5 := rX5.free 4 (by simp)
        have P5 := hid (dpush2 (k := 4) n1 hA.out.drew hX.out.drew HG9.out hB.out.drew (Nat.le_refl _) hgrow hown (by decide))
        have Q5 := hid (dec_keep (k := 4) (v5 := .slice (some ⟨g5, 0, none⟩) (j + 1) c5) hX.out.drew HG9.out hgrow (show wr.drew.ownsRow w.heap.size 3 1 (.slice ah H.length ch) H.length (icells H) from hO.out) (by decide) (by decide) (by decide))
        refine hK.out _ _ (fun _ => cX5) (fun hHeld => ?_); replace hHeld := hHeld rfl; have hCl := hCl.step (j := 21) (by decide +kernel); clear hK K; (try simp only [lL0, lL1, lL2, Act.put, lL3, lL4, lL5])
        refine wpAnyE_ready (rs := [22]) (by kernel_rfl) (by simp) ?_; refine NextE.cons rfl (fun K hK => ?_) NextE.nil
        go_simp
        refine hK.out _ _ (fun _ => cX5) (fun hHeld => ?_); replace hHeld := hHeld rfl; have hCl := hCl.step (j := 22) (by decide +kernel); clear hK K; (try simp only [lL0, lL1, lL2, Act.put, lL3, lL4, lL5])
        refine wpAnyE_ready (rs := [23]) (by kernel_rfl) (by simp) ?_; refine NextE.cons rfl (fun K hK => ?_) NextE.nil
        go_simp
        refine hK.out _ _ (fun h => by cases h) (fun _ => ?_); clear hK K; (try simp only [lL0, lL1, lL2, Act.put, lL3, lL4, lL5])
        refine wpAnyE_done (by kernel_rfl) ?_ _
        all_goals
         clear hgrow hat hlt5 rX5 hown x4 x4b NN9 hs9 HG9 hA hX hO hB hHeld hCl
         go_wp2_with fail
         go_roundw
        all_goals first | exact ⟨j + 1, M ++ [((V : Int) == 1)], _, by go_num, by omega, hnext, hid P5.out.1, hid P5.out.2.1, hid Q5.out, hid (by unfold OwnFlags; rw [List.length_append, HML.out, fcells_append]; exact P5.out.2.2.1), hid P5.out.2.2.2⟩ | (simp [intOf]; omega)
       ·have gd : ¬ (14 : Int) + 2 * (n : Int) + (j : Int) < (s.size : Int) := by have := HS.out; omega
        have gd2 : decide ((14 : Int) + 2 * (n : Int) + (j : Int) < (s.size : Int)) = false := decide_eq_false gd
        have hbit : Hid (mbit s.data.toList n j = false) := hid (by unfold mbit; rw [decide_eq_false hg, Bool.false_and])
        have u1 : IntKind.i64.wrap (2 * (n : Int)) = 2 * (n : Int) := IntWalk.i64_in _ (by omega)
        have u2 : IntKind.i64.wrap (14 + 2 * (n : Int)) = 14 + 2 * (n : Int) := IntWalk.i64_in _ (by omega)
        have u3 : IntKind.i64.wrap (14 + 2 * (n : Int) + (j : Int)) = 14 + 2 * (n : Int) + (j : Int) := IntWalk.i64_in _ (by omega)
        have HML := hid (show M.length = j by rw [hM.out, mbits_length])
        have hnext : Hid (M ++ [false] = mbits s.data.toList n (j + 1)) := hid (by rw [hM.out, mbits_succ, hbit.out])
        obtain ⟨am, cm, rfl⟩ := OwnFlags.slice hF.out
        have hF' : Hid (wr.ownsRow w.heap.size 4 1 (.slice am M.length cm) M.length (fcells M)) := hid hF.out
        rw [HML.out] at hF' hX
        have x4 := hX.out.cellAt 4 rfl
        have hV1 : ∀ u ∈ [Value.bool false], u.oneCell' = true := by intro u hu; rw [List.mem_singleton.1 hu]; rfl
        have x4b := (hX.out.drew.alloc (.cells #[.bool false] 4)).cellAt 4 rfl
        have HG9 := hid (own_new1 (w := wr.drew) hF'.out (.cells #[.bool false] 4))
        have NN9 := hid (box1 wr.drew (.bool false) 4)
        have hs9 : w.heap.size ≤ (wr.drew.alloc (.cells #[.bool false] 4)).heap.size := by have := hB.out.size; simp; omega
        clear hF hbit
        go_upto_region 23 with fail
        refine wp_region_E (S := fun w' => w'.cell? ⟨X, 4, none⟩ = some (.slice am j cm)) (E := [23]) (by kernel_rfl) x4 (fun hHeld hCl => ?_)
        refine wpAnyE_take (i := 0) (v := .pointer (some ⟨X, 4, none⟩)) rfl (by kernel_rfl) (by kernel_rfl) (by kernel_rfl) (by kernel_rfl) hCl (fun _ _ _ h => h) (Or.inl ⟨rfl, fun w hSw => (by (try dsimp only at hSw); go_simp)⟩) hHeld (fun hCl => ?_); (try simp only [lL0, lL2, Act.put, lL3, lL4, lL5])
        refine wpAnyE_take (i := 1) (v := .slice am j cm) rfl (by kernel_rfl) (by kernel_rfl) (by kernel_rfl) (by kernel_rfl) hCl (fun _ _ _ h => h) (Or.inl ⟨rfl, fun w hSw => (by (try dsimp only at hSw); go_simp)⟩) hHeld (fun hCl => ?_); (try simp only [lL0, lL1, lL2, Act.put, lL3, lL4, lL5])
        refine wpAnyE_take (i := 2) (v := .int .i64 (n : Int)) rfl (by kernel_rfl) (by kernel_rfl) (by kernel_rfl) (by kernel_rfl) hCl (fun _ _ _ h => h) (Or.inl ⟨rfl, fun w hSw => (by (try dsimp only at hSw); go_simp)⟩) hHeld (fun hCl => ?_); (try simp only [lL0, lL1, lL2, Act.put, lL3, lL4, lL5])
        refine wpAnyE_take (i := 3) (v := .int .i64 (2 * (n : Int))) rfl (by kernel_rfl) (by kernel_rfl) (by kernel_rfl) (by kernel_rfl) hCl (fun _ _ _ h => h) (Or.inl ⟨rfl, fun w hSw => (by (try dsimp only at hSw); go_simp)⟩) hHeld (fun hCl => ?_); (try simp only [lL0, lL1, lL2, Act.put, lL3, lL4, lL5])
        refine wpAnyE_take (i := 4) (v := .int .i64 (14 + 2 * (n : Int))) rfl (by kernel_rfl) (by kernel_rfl) (by kernel_rfl) (by kernel_rfl) hCl (fun _ _ _ h => h) (Or.inl ⟨rfl, fun w hSw => (by (try dsimp only at hSw); go_simp)⟩) hHeld (fun hCl => ?_); (try simp only [lL0, lL1, lL2, Act.put, lL3, lL4, lL5])
        refine wpAnyE_take (i := 5) (v := .int .i64 (j : Int)) rfl (by kernel_rfl) (by kernel_rfl) (by kernel_rfl) (by kernel_rfl) hCl (fun _ _ _ h => h) (Or.inl ⟨rfl, fun w hSw => (by (try dsimp only at hSw); go_simp)⟩) hHeld (fun hCl => ?_); (try simp only [lL0, lL1, lL2, Act.put, lL3, lL4, lL5])
        refine wpAnyE_take (i := 6) (v := .int .i64 (14 + 2 * (n : Int) + (j : Int))) rfl (by kernel_rfl) (by kernel_rfl) (by kernel_rfl) (by kernel_rfl) hCl (fun _ _ _ h => h) (Or.inl ⟨rfl, fun w hSw => (by (try dsimp only at hSw); go_simp)⟩) hHeld (fun hCl => ?_); (try simp only [lL0, lL1, lL2, Act.put, lL3, lL4, lL5])
        refine wpAnyE_take (i := 7) (v := .string s) rfl (by kernel_rfl) (by kernel_rfl) (by kernel_rfl) (by kernel_rfl) hCl (fun _ _ _ h => h) (Or.inl ⟨rfl, fun w hSw => (by (try dsimp only at hSw); go_simp)⟩) hHeld (fun hCl => ?_); (try simp only [lL0, lL1, lL2, Act.put, lL3, lL4, lL5])
        refine wpAnyE_take (i := 8) (v := .int .i64 (s.size : Int)) rfl (by kernel_rfl) (by kernel_rfl) (by kernel_rfl) (by kernel_rfl) hCl (fun _ _ _ h => h) (Or.inl ⟨rfl, fun w hSw => (by (try dsimp only at hSw); go_simp)⟩) hHeld (fun hCl => ?_); (try simp only [lL0, lL1, lL2, Act.put, lL3, lL4, lL5])
        refine wpAnyE_take (i := 9) (v := .bool false) rfl (by kernel_rfl) (by kernel_rfl) (by kernel_rfl) (by kernel_rfl) hCl (fun _ _ _ h => h) (Or.inl ⟨rfl, fun w hSw => (by (try dsimp only at hSw); go_simp)⟩) hHeld (fun hCl => ?_); (try simp only [lL0, lL1, lL2, Act.put, lL3, lL4, lL5])
        refine wpAnyE_take (i := 10) (v := .bool false) rfl (by kernel_rfl) (by kernel_rfl) (by kernel_rfl) (by kernel_rfl) hCl (fun _ _ _ h => h) (Or.inl ⟨rfl, fun w hSw => (by (try dsimp only at hSw); go_simp)⟩) hHeld (fun hCl => ?_); (try simp only [lL0, lL1, lL2, Act.put, lL3, lL4, lL5])
        refine wpAnyE_take (i := 11) (v := undef) rfl (by kernel_rfl) (by kernel_rfl) (by kernel_rfl) (by kernel_rfl) hCl (fun _ _ _ h => h) (Or.inr ⟨by rfl, rfl⟩) hHeld (fun hCl => ?_); (try simp only [lL0, lL1, lL2, Act.put, lL3, lL4, lL5])
        refine wpAnyE_take (i := 12) (v := undef) rfl (by kernel_rfl) (by kernel_rfl) (by kernel_rfl) (by kernel_rfl) hCl (fun _ _ _ h => h) (Or.inr ⟨by rfl, rfl⟩) hHeld (fun hCl => ?_); (try simp only [lL0, lL1, lL2, Act.put, lL3, lL4, lL5])
        refine wpAnyE_take (i := 13) (v := undef) rfl (by kernel_rfl) (by kernel_rfl) (by kernel_rfl) (by kernel_rfl) hCl (fun _ _ _ h => h) (Or.inr ⟨by rfl, rfl⟩) hHeld (fun hCl => ?_); (try simp only [lL0, lL1, lL2, Act.put, lL3, lL4, lL5])
        refine wpAnyE_take (i := 14) (v := undef) rfl (by kernel_rfl) (by kernel_rfl) (by kernel_rfl) (by kernel_rfl) hCl (fun _ _ _ h => h) (Or.inr ⟨by rfl, rfl⟩) hHeld (fun hCl => ?_); (try simp only [lL0, lL1, lL2, Act.put, lL3, lL4, lL5])
        refine wpAnyE_take (i := 15) (v := undef) rfl (by kernel_rfl) (by kernel_rfl) (by kernel_rfl) (by kernel_rfl) hCl (fun _ _ _ h => h) (Or.inr ⟨by rfl, rfl⟩) hHeld (fun hCl => ?_); (try simp only [lL0, lL1, lL2, Act.put, lL3, lL4, lL5])
        refine wpAnyE_take (i := 16) (v := undef) rfl (by kernel_rfl) (by kernel_rfl) (by kernel_rfl) (by kernel_rfl) hCl (fun _ _ _ h => h) (Or.inr ⟨by rfl, rfl⟩) hHeld (fun hCl => ?_); (try simp only [lL0, lL1, lL2, Act.put, lL3, lL4, lL5])
        refine wpAnyE_take (i := 17) (v := undef) rfl (by kernel_rfl) (by kernel_rfl) (by kernel_rfl) (by kernel_rfl) hCl (fun _ _ _ h => h) (Or.inr ⟨by rfl, rfl⟩) hHeld (fun hCl => ?_); (try simp only [lL0, lL1, lL2, Act.put, lL3, lL4, lL5])
        refine wpAnyE_take (i := 18) (v := undef) rfl (by kernel_rfl) (by kernel_rfl) (by kernel_rfl) (by kernel_rfl) hCl (fun _ _ _ h => h) (Or.inr ⟨by rfl, rfl⟩) hHeld (fun hCl => ?_); (try simp only [lL0, lL1, lL2, Act.put, lL3, lL4, lL5])
        refine wpAnyE_take (i := 19) (v := .bool false) rfl (by kernel_rfl) (by kernel_rfl) (by kernel_rfl) (by kernel_rfl) hCl (fun _ _ _ h => h) (Or.inl ⟨rfl, fun w hSw => (by (try dsimp only at hSw); go_simp)⟩) hHeld (fun hCl => ?_); (try simp only [lL0, lL1, lL2, Act.put, lL3, lL4, lL5])
        refine wpAnyE_ready (rs := [20]) (by kernel_rfl) (by simp) ?_; refine NextE.cons rfl (fun K hK => ?_) NextE.nil
        go_simp
        refine hK.out _ _ (fun _ => x4b) (fun hHeld => ?_); replace hHeld := hHeld rfl; have hCl := hCl.step (j := 20) (by decide +kernel); clear hK K; (try simp only [lL0, lL1, lL2, Act.put, lL3, lL4, lL5])
        refine wpAnyE_ready (rs := [21]) (by kernel_rfl) (by simp) ?_; refine NextE.cons rfl (fun K hK => ?_) NextE.nil
        refine step_append_lies _ rfl (.tmp 104) (.tmp 123) 40 rfl w.heap.size 4 j0 (.bool false) 1 1 Tryz.underlying40 hj0 jz0 jz1 jz2 rfl (by decide) (.slice am j cm) j (fcells M) (by simp [Act.eval, Act.put]; done) HG9.out ⟨wr.heap.size, 0, none⟩ 1 1 [.bool false] (by simp [Act.eval, Act.put]; done) rfl NN9.out hV1 (by decide) (by unfold maxLen; omega) (by omega) hs9 _ rfl ?_
        intro g5 c5 w5 hown hgrow hat hlt5
        have rX5 := row_grownR (hX.out.drew.alloc (.cells #[.bool false] 4)) HG9.out hgrow (by decide)
        have cX5 := rX5.cellAt 4 rfl
        have fX5 := rX5.free 4 (by simp)
        have P5 := hid (dpush2 (k := 4) n1 hA.out.drew hX.out.drew HG9.out hB.out.drew (Nat.le_refl _) hgrow hown (by decide))
        have Q5 := hid (dec_keep (k := 4) (v5 := .slice (some ⟨g5, 0, none⟩) (j + 1) c5) hX.out.drew HG9.out hgrow (show wr.drew.ownsRow w.heap.size 3 1 (.slice ah H.length ch) H.length (icells H) from hO.out) (by decide) (by decide) (by decide))
        refine hK.out _ _ (fun _ => cX5) (fun hHeld => ?_); replace hHeld := hHeld rfl; have hCl := hCl.step (j := 21) (by decide +kernel); clear hK K; (try simp only [lL0, lL1, lL2, Act.put, lL3, lL4, lL5])
        refine wpAnyE_ready (rs := [22]) (by kernel_rfl) (by simp) ?_; refine NextE.cons rfl (fun K hK => ?_) NextE.nil
        go_simp
        refine hK.out _ _ (fun _ => cX5) (fun hHeld => ?_); replace hHeld := hHeld rfl; have hCl := hCl.step (j := 22) (by decide +kernel); clear hK K; (try simp only [lL0, lL1, lL2, Act.put, lL3, lL4, lL5])
        refine wpAnyE_ready (rs := [23]) (by kernel_rfl) (by simp) ?_; refine NextE.cons rfl (fun K hK => ?_) NextE.nil
        go_simp
        refine hK.out _ _ (fun h => by cases h) (fun _ => ?_); clear hK K; (try simp only [lL0, lL1, lL2, Act.put, lL3, lL4, lL5])
        refine wpAnyE_done (by kernel_rfl) ?_ _
        all_goals
         clear hgrow hat hlt5 rX5 hown x4 x4b NN9 hs9 HG9 hA hX hO hB hHeld hCl
         go_wp2_with fail
         go_roundw
        all_goals first | exact ⟨j + 1, M ++ [false], _, by go_num, by omega, hnext, hid P5.out.1, hid P5.out.2.1, hid Q5.out, hid (by unfold OwnFlags; rw [List.length_append, HML.out, fcells_append]; exact P5.out.2.2.1), hid P5.out.2.2.2⟩ | (simp [intOf]; omega)
      ·have hj4 := hid (show j = 24 by omega)
       have j1 : (j : Int) < (n : Int) := by omega
       have j2 : ¬ (j : Int) < 24 := by omega
       have j3 : ¬ j < 24 := by omega
       have j4 : j < n := by omega
       have HLM : Hid (M.length ≤ 1000000000) := hid (by rw [hM.out, mbits_length]; omega)
       obtain ⟨am, cm, rfl⟩ := OwnFlags.slice hF.out
       go_upto_region 24 with fail
       clear xk
       have HE := hid (dencode_any (.agg #[.int .i64 (K : Int), .int .u64 (Q : Int), .int .i64 0, .slice ah H.length ch, .slice am M.length cm, .int .u32 0]) (⟨(K : Int), Q, 0, H, M, 0⟩ : Rec.V) wr ⟨⟨_, _, rfl, hO.out.at, hF.out.at⟩, HQ.out, (by decide : (0 : Nat) < 2 ^ 32), by dsimp only; omega, by dsimp only; omega, HLE.out, HLM.out⟩)
       have hend := hid (Rec.dec_end HL.out (x := (⟨(K : Int), Q, 0, H, M, 0⟩ : Rec.V)) (bad := false) (.inr ⟨KL.out, .inr (hno.out M)⟩))
       have hE2 : (Rec.encR (⟨(K : Int), Q, 0, H, M, 0⟩ : Rec.V)).2 = 2 := by unfold Rec.encR; rw [hno.out M]; rfl
       obtain ⟨xr, hxr⟩ : ∃ xr, (⟨(K : Int), Q, 0, H, M, 0⟩ : Rec.V) = xr := ⟨_, rfl⟩
       rw [hxr] at hend hE2
       have HXR := hid hxr
       rw [hxr] at HE
       clear hxr
       generalize Rec.encR xr = ER at *
       obtain ⟨e1, e2⟩ := ER
       obtain ⟨x0, x1, x2, x3, x4, x5⟩ := hX.out.c6
       dsimp only at hE2 HE hend
       subst hE2
       obtain ⟨d1, d2⟩ := Rec.dec_no (show Rec.dec s.data.toList = none from by rw [hend.out, if_neg (fun h => absurd h.2.1 (by decide))])
       have D1 := hid d1
       have D2 := hid d2
       clear d1 d2
       go_wp2_with (go_at_call 132; (with_reducible refine HE.out.mono ?_); rintro e wE ⟨rfl, hbE⟩; have rAE := hA.out.below hbE hA.out.lt; have rXE := hX.out.below hbE hX.out.lt; have a0 := rAE.cellAt 0 rfl; have fa0 := rAE.free 0 (by simp); have a1 := rAE.cellAt 1 rfl; have fa1 := rAE.free 1 (by simp); have a2 := rAE.cellAt 2 rfl; have fa2 := rAE.free 2 (by simp); have a3 := rAE.cellAt 3 rfl; have fa3 := rAE.free 3 (by simp); have a4 := rAE.cellAt 4 rfl; have fa4 := rAE.free 4 (by simp); have a5 := rAE.cellAt 5 rfl; have fa5 := rAE.free 5 (by simp); obtain ⟨y0, y1, y2, y3, y4, y5⟩ := rXE.c6)
       have rF := ((((((rAE.set 0 (.int .i64 0)).set 1 (.int .u64 0)).set 2 (.int .i64 0)).set 3 (.slice none 0 0)).set 4 (.slice none 0 0)).set 5 (.int .u32 0))
       obtain ⟨c0, c1, c2, c3, c4, c5⟩ := rF.c6
       exact bodyPost_ret (v := .tuple #[.agg #[.int .i64 0, .int .u64 0, .int .i64 0, .slice none 0 0, .slice none 0 0, .int .u32 0], .int .i64 80]) (by simp [results, Tryz.results127, go_sem, c0, c1, c2, c3, c4, c5]) rfl ⟨_, by rw [D2.out], by rw [D1.out]; exact recat_none _, by rw [D1.out]; exact recown_none _ _, (((((((hB.out.trans (hbE.mono hB.out.size)).sC 0 (.int .i64 0)).sC 1 (.int .u64 0)).sC 2 (.int .i64 0)).sC 3 (.slice none 0 0)).sC 4 (.slice none 0 0)).sC 5 (.int .u32 0))⟩
 by_cases e3 : K = 3
 ·have hK3 := hid (show (K : Int) = 3 by omega)
  have b3 : ((K : Int) == 3) = true := by rw [beq_iff_eq]; omega
  have hr : Hid (Rec.raw s.data.toList = ⟨(K : Int), Q, 0, Rec.getH s.data.toList n, [], 0⟩) := hid (by have := raw3.out e3; rwa [← hK3.out] at this)
  clear e3 raw1 raw2 raw3 raw4 raw0 ek e1' e2 e4
  have b2 : ((K : Int) == 2) = false := by rw [beq_eq_false_iff_ne]; have := hK3.out; omega
  by_cases hn28 : n ≤ 28
  ·go_upto_region 16 with fail
   obtain ⟨i0, hi0, hz0, hz1, hz2⟩ := info_parts infoInt
   go_loopw [12] (fun q wr => ∃ (i : Nat) (H : List Int) (hv : Value), q = .int .i64 i ∧ i ≤ n ∧ Hid (H = Rec.getH s.data.toList i) ∧ Hid (Row wr w.heap.size 61 [.int .i64 0, .int .u64 0, .int .i64 0, .slice none 0 0, .slice none 0 0, .int .u32 0]) ∧ Hid (Row wr X 61 [.int .i64 (K : Int), .int .u64 (Q : Int), .int .i64 0, hv, .slice none 0 0, .int .u32 0]) ∧ Hid (OwnInts w.heap.size wr hv H) ∧ Hid (Below w.heap.size w wr)) (fun q _ => n - (intOf q).toNat)
   case atStart => exact ⟨0, [], .slice none 0 0, rfl, by omega, hid rfl, RA1, RX0, hid (World.ownsRow_nil _ _ _ _), B2⟩
   case round =>
    clear RA1 RX0 B2 xk
    obtain ⟨i, H, hv, rfl, hin, hH, hA, hX, hO, hB⟩ := hrel
    have xk := hX.out.cellAt 0 rfl
    by_cases hlt : i < n
    ·have i1 : (i : Int) < (n : Int) := by omega
     have i2 : (i : Int) < 40 := by omega
     have hi40 : i < 40 := by omega
     have gi : Hid (∀ w, Calls Tryz.prog 156 #[.string s, .int .i64 (14 + 2 * (i : Int)), .int .i64 2] w fun e w' => e = .returned (.tuple #[.int .u64 (getW s.data.toList (14 + 2 * i) 2 : Nat), .bool true]) ∧ w = w') := hid (fun w => by
      have := HG.out (14 + 2 * i) 2 w (.inr (.inl rfl)) (by omega)
      rwa [show ((14 + 2 * i : Nat) : Int) = 14 + 2 * (i : Int) by omega] at this)
     have hV := getW_lt s.data.toList (14 + 2 * i) 2
     have hnext : Hid (H ++ [((getW s.data.toList (14 + 2 * i) 2 : Nat) : Int)] = Rec.getH s.data.toList (i + 1)) := hid (by rw [hH.out]; exact (Rec.getH_succ _ _).symm)
     generalize getW s.data.toList (14 + 2 * i) 2 = V at *
     have hV' : V < 65536 := hV
     clear hV
     have HOL := hid (show H.length = i by rw [hH.out, Rec.getH_length])
     obtain ⟨ah, ch, rfl⟩ := OwnInts.slice hO.out
     have hO' : Hid (wr.ownsRow w.heap.size 3 1 (.slice ah H.length ch) H.length (icells H)) := hid hO.out
     rw [HOL.out] at hO' hX
     have x3 := hX.out.cellAt 3 rfl
     have hV1 : ∀ u ∈ [Value.int .i64 (V : Int)], u.oneCell' = true := by intro u hu; rw [List.mem_singleton.1 hu]; rfl
     clear hO
     go_wp2_with (first | (go_at_call 156; (with_reducible refine (gi.out _).mono ?_); rintro e w5' ⟨rfl, rfl⟩) | (at_builtin; refine wpList_append_lies _ rfl _ _ 23 rfl w.heap.size 3 i0 (.int .i64 0) 1 8 Tryz.underlying23 hi0 hz0 hz1 hz2 rfl (by decide) (.slice ah i ch) i (icells H) rfl (own_new1 hO'.out _) ⟨wr.heap.size, 0, none⟩ 1 1 [.int .i64 (V : Int)] rfl rfl (World.news_of_block (heap_alloc_new _ _)) hV1 (by decide) (by unfold maxLen; omega) (by omega) (by have := hB.out.size; simp; omega) _ rfl ?_))
     intro g5 c5 w5 hown hgrow hat hlt5
     have P5 := hid (dpush2 (k := 3) n1 hA.out hX.out (own_new1 hO'.out (.cells #[.int .i64 (V : Int)] 3)) hB.out (Nat.le_refl _) hgrow hown (by decide))
     have rX5 := row_grownR (hX.out.alloc (.cells #[.int .i64 (V : Int)] 3)) (own_new1 hO'.out (.cells #[.int .i64 (V : Int)] 3)) hgrow (by decide)
     have cX5 := rX5.cellAt 3 rfl
     have fX5 := rX5.free 3 (by simp)
     clear rX5 hgrow hown hat hlt5 x3 xk hA hX hO' hB hV1 gi
     go_wp2_with fail
     go_roundw
     case rel => exact ⟨i + 1, H ++ [(V : Int)], _, by go_num, by omega, hnext, hid P5.out.1, hid P5.out.2.1, hid (by unfold OwnInts; rw [List.length_append, HOL.out, icells_append]; exact P5.out.2.2.1), hid P5.out.2.2.2⟩
     case measure => simp [intOf]; omega
    ·obtain rfl : i = n := by omega
     have HLE : Hid (H.length ≤ 1000000000) := hid (by rw [hH.out, Rec.getH_length]; omega)
     obtain ⟨ah, ch, rfl⟩ := OwnInts.slice hO.out
     go_wp2_with fail
     refine wp_loop_rounds 1 ?_
     rw [rounds_succ]
     by_cases hn0 : i = 0
     ·have i0' : ¬ (0 : Int) < (i : Int) := by omega
      have i0'' : ¬ 0 < i := by omega
      clear hn0
      go_upto_region 24 with fail
      clear xk
      have HE := hid (dencode_any (.agg #[.int .i64 (K : Int), .int .u64 (Q : Int), .int .i64 0, .slice ah H.length ch, .slice none 0 0, .int .u32 0]) (⟨(K : Int), Q, 0, H, [], 0⟩ : Rec.V) wr ⟨⟨_, _, rfl, hO.out.at, .inl ⟨rfl, rfl⟩⟩, HQ.out, (by decide : (0 : Nat) < 2 ^ 32), by dsimp only; omega, by dsimp only; omega, HLE.out, by dsimp only; simp⟩)
      have hend := hid (Rec.dec_end HL.out (x := (⟨(K : Int), Q, 0, H, [], 0⟩ : Rec.V)) (bad := false) (.inl ⟨rfl, by rw [hr.out, hH.out]⟩))
      have hE2 : (Rec.encR (⟨(K : Int), Q, 0, H, [], 0⟩ : Rec.V)).2 = 0 ∨ (Rec.encR (⟨(K : Int), Q, 0, H, [], 0⟩ : Rec.V)).2 = 2 := by unfold Rec.encR; split <;> simp
      obtain ⟨xr, hxr⟩ : ∃ xr, (⟨(K : Int), Q, 0, H, [], 0⟩ : Rec.V) = xr := ⟨_, rfl⟩
      rw [hxr] at hend hE2
      have HXR := hid hxr
      rw [hxr] at HE
      clear hxr
      generalize Rec.encR xr = ER at *
      obtain ⟨e1, e2⟩ := ER
      obtain ⟨x0, x1, x2, x3, x4, x5⟩ := hX.out.c6
      dsimp only at hE2 HE hend
      rcases hE2 with rfl | rfl
      ·by_cases hY : txt e1 = s
       ·obtain ⟨d1, d2⟩ := Rec.dec_yes (show Rec.dec s.data.toList = some xr from by rw [hend.out, if_pos ⟨rfl, rfl, by rw [← hY, txt_list]⟩])
        have D1 := hid d1
        have D2 := hid d2
        rw [hY] at HE
        clear d1 d2 hY
        go_wp2_with (go_at_call 132; (with_reducible refine HE.out.mono ?_); rintro e wE ⟨rfl, hbE⟩; have rAE := hA.out.below hbE hA.out.lt; have rXE := hX.out.below hbE hX.out.lt; have a0 := rAE.cellAt 0 rfl; have fa0 := rAE.free 0 (by simp); have a1 := rAE.cellAt 1 rfl; have fa1 := rAE.free 1 (by simp); have a2 := rAE.cellAt 2 rfl; have fa2 := rAE.free 2 (by simp); have a3 := rAE.cellAt 3 rfl; have fa3 := rAE.free 3 (by simp); have a4 := rAE.cellAt 4 rfl; have fa4 := rAE.free 4 (by simp); have a5 := rAE.cellAt 5 rfl; have fa5 := rAE.free 5 (by simp); obtain ⟨y0, y1, y2, y3, y4, y5⟩ := rXE.c6)
        have rF := ((((((rAE.set 0 (.int .i64 (K : Int))).set 1 (.int .u64 (Q : Int))).set 2 (.int .i64 0)).set 3 (.slice ah H.length ch)).set 4 (.slice none 0 0)).set 5 (.int .u32 0))
        obtain ⟨c0, c1, c2, c3, c4, c5⟩ := rF.c6
        have hOE := hid (own_below hO.out hbE)
        exact bodyPost_ret (v := .tuple #[.agg #[.int .i64 (K : Int), .int .u64 (Q : Int), .int .i64 0, .slice ah H.length ch, .slice none 0 0, .int .u32 0], .int .i64 0]) (by simp [results, Tryz.results127, go_sem, c0, c1, c2, c3, c4, c5]) rfl ⟨_, by rw [D2.out], by rw [D1.out, ← HXR.out]; exact ⟨⟨_, _, rfl, (show OwnInts _ _ _ _ from (own_setR (a := ⟨w.heap.size, 5, none⟩) (u := .int .u32 0) (((((rAE.set 0 (.int .i64 (K : Int))).set 1 (.int .u64 (Q : Int))).set 2 (.int .i64 0)).set 3 (.slice ah H.length ch)).set 4 (.slice none 0 0)) (own_setR (a := ⟨w.heap.size, 4, none⟩) (u := .slice none 0 0) ((((rAE.set 0 (.int .i64 (K : Int))).set 1 (.int .u64 (Q : Int))).set 2 (.int .i64 0)).set 3 (.slice ah H.length ch)) (own_setR (a := ⟨w.heap.size, 3, none⟩) (u := .slice ah H.length ch) (((rAE.set 0 (.int .i64 (K : Int))).set 1 (.int .u64 (Q : Int))).set 2 (.int .i64 0)) (own_setR (a := ⟨w.heap.size, 2, none⟩) (u := .int .i64 0) ((rAE.set 0 (.int .i64 (K : Int))).set 1 (.int .u64 (Q : Int))) (own_setR (a := ⟨w.heap.size, 1, none⟩) (u := .int .u64 (Q : Int)) (rAE.set 0 (.int .i64 (K : Int))) (own_setR (a := ⟨w.heap.size, 0, none⟩) (u := .int .i64 (K : Int)) rAE hOE.out (by decide)) (by decide)) (by decide)) (by decide)) (by decide)) (by decide))).at, .inl ⟨rfl, rfl⟩⟩, HQ.out, (by decide : (0 : Nat) < 2 ^ 32), by dsimp only; omega, by dsimp only; omega, HLE.out, by dsimp only; simp⟩, by rw [D1.out, ← HXR.out]; exact ⟨_, _, rfl, (show OwnInts _ _ _ _ from (own_setR (a := ⟨w.heap.size, 5, none⟩) (u := .int .u32 0) (((((rAE.set 0 (.int .i64 (K : Int))).set 1 (.int .u64 (Q : Int))).set 2 (.int .i64 0)).set 3 (.slice ah H.length ch)).set 4 (.slice none 0 0)) (own_setR (a := ⟨w.heap.size, 4, none⟩) (u := .slice none 0 0) ((((rAE.set 0 (.int .i64 (K : Int))).set 1 (.int .u64 (Q : Int))).set 2 (.int .i64 0)).set 3 (.slice ah H.length ch)) (own_setR (a := ⟨w.heap.size, 3, none⟩) (u := .slice ah H.length ch) (((rAE.set 0 (.int .i64 (K : Int))).set 1 (.int .u64 (Q : Int))).set 2 (.int .i64 0)) (own_setR (a := ⟨w.heap.size, 2, none⟩) (u := .int .i64 0) ((rAE.set 0 (.int .i64 (K : Int))).set 1 (.int .u64 (Q : Int))) (own_setR (a := ⟨w.heap.size, 1, none⟩) (u := .int .u64 (Q : Int)) (rAE.set 0 (.int .i64 (K : Int))) (own_setR (a := ⟨w.heap.size, 0, none⟩) (u := .int .i64 (K : Int)) rAE hOE.out (by decide)) (by decide)) (by decide)) (by decide)) (by decide)) (by decide))), World.ownsRow_nil _ _ _ _⟩, (((((((hB.out.trans (hbE.mono hB.out.size)).sC 0 (.int .i64 (K : Int))).sC 1 (.int .u64 (Q : Int))).sC 2 (.int .i64 0)).sC 3 (.slice ah H.length ch)).sC 4 (.slice none 0 0)).sC 5 (.int .u32 0))⟩
       ·obtain ⟨d1, d2⟩ := Rec.dec_no (show Rec.dec s.data.toList = none from by rw [hend.out, if_neg (fun h => hY (by rw [h.2.2, txt_of]))])
        have D1 := hid d1
        have D2 := hid d2
        have hYs : ((txt e1).toList == s.toList) = false := by rw [beq_eq_false_iff_ne]; intro h; rw [ByteArray.toList_eq, ByteArray.toList_eq] at h; exact hY (by rw [← txt_of (txt e1), h, txt_of])
        generalize txt e1 = Y at *
        clear hY
        clear d1 d2
        go_wp2_with (go_at_call 132; (with_reducible refine HE.out.mono ?_); rintro e wE ⟨rfl, hbE⟩; have rAE := hA.out.below hbE hA.out.lt; have rXE := hX.out.below hbE hX.out.lt; have a0 := rAE.cellAt 0 rfl; have fa0 := rAE.free 0 (by simp); have a1 := rAE.cellAt 1 rfl; have fa1 := rAE.free 1 (by simp); have a2 := rAE.cellAt 2 rfl; have fa2 := rAE.free 2 (by simp); have a3 := rAE.cellAt 3 rfl; have fa3 := rAE.free 3 (by simp); have a4 := rAE.cellAt 4 rfl; have fa4 := rAE.free 4 (by simp); have a5 := rAE.cellAt 5 rfl; have fa5 := rAE.free 5 (by simp); obtain ⟨y0, y1, y2, y3, y4, y5⟩ := rXE.c6)
        have rF := ((((((rAE.set 0 (.int .i64 0)).set 1 (.int .u64 0)).set 2 (.int .i64 0)).set 3 (.slice none 0 0)).set 4 (.slice none 0 0)).set 5 (.int .u32 0))
        obtain ⟨c0, c1, c2, c3, c4, c5⟩ := rF.c6
        exact bodyPost_ret (v := .tuple #[.agg #[.int .i64 0, .int .u64 0, .int .i64 0, .slice none 0 0, .slice none 0 0, .int .u32 0], .int .i64 80]) (by simp [results, Tryz.results127, go_sem, c0, c1, c2, c3, c4, c5]) rfl ⟨_, by rw [D2.out], by rw [D1.out]; exact recat_none _, by rw [D1.out]; exact recown_none _ _, (((((((hB.out.trans (hbE.mono hB.out.size)).sC 0 (.int .i64 0)).sC 1 (.int .u64 0)).sC 2 (.int .i64 0)).sC 3 (.slice none 0 0)).sC 4 (.slice none 0 0)).sC 5 (.int .u32 0))⟩
      ·obtain ⟨d1, d2⟩ := Rec.dec_no (show Rec.dec s.data.toList = none from by rw [hend.out, if_neg (fun h => absurd h.2.1 (by decide))])
       have D1 := hid d1
       have D2 := hid d2
       clear d1 d2
       go_wp2_with (go_at_call 132; (with_reducible refine HE.out.mono ?_); rintro e wE ⟨rfl, hbE⟩; have rAE := hA.out.below hbE hA.out.lt; have rXE := hX.out.below hbE hX.out.lt; have a0 := rAE.cellAt 0 rfl; have fa0 := rAE.free 0 (by simp); have a1 := rAE.cellAt 1 rfl; have fa1 := rAE.free 1 (by simp); have a2 := rAE.cellAt 2 rfl; have fa2 := rAE.free 2 (by simp); have a3 := rAE.cellAt 3 rfl; have fa3 := rAE.free 3 (by simp); have a4 := rAE.cellAt 4 rfl; have fa4 := rAE.free 4 (by simp); have a5 := rAE.cellAt 5 rfl; have fa5 := rAE.free 5 (by simp); obtain ⟨y0, y1, y2, y3, y4, y5⟩ := rXE.c6)
       have rF := ((((((rAE.set 0 (.int .i64 0)).set 1 (.int .u64 0)).set 2 (.int .i64 0)).set 3 (.slice none 0 0)).set 4 (.slice none 0 0)).set 5 (.int .u32 0))
       obtain ⟨c0, c1, c2, c3, c4, c5⟩ := rF.c6
       exact bodyPost_ret (v := .tuple #[.agg #[.int .i64 0, .int .u64 0, .int .i64 0, .slice none 0 0, .slice none 0 0, .int .u32 0], .int .i64 80]) (by simp [results, Tryz.results127, go_sem, c0, c1, c2, c3, c4, c5]) rfl ⟨_, by rw [D2.out], by rw [D1.out]; exact recat_none _, by rw [D1.out]; exact recown_none _ _, (((((((hB.out.trans (hbE.mono hB.out.size)).sC 0 (.int .i64 0)).sC 1 (.int .u64 0)).sC 2 (.int .i64 0)).sC 3 (.slice none 0 0)).sC 4 (.slice none 0 0)).sC 5 (.int .u32 0))⟩
     ·have i0' : (0 : Int) < (i : Int) := by omega
      have i0'' : 0 < i := by omega
      clear hn0
      go_upto_region 24 with fail
      clear xk
      have HE := hid (dencode_any (.agg #[.int .i64 (K : Int), .int .u64 (Q : Int), .int .i64 0, .slice ah H.length ch, .slice none 0 0, .int .u32 0]) (⟨(K : Int), Q, 0, H, [], 0⟩ : Rec.V) wr ⟨⟨_, _, rfl, hO.out.at, .inl ⟨rfl, rfl⟩⟩, HQ.out, (by decide : (0 : Nat) < 2 ^ 32), by dsimp only; omega, by dsimp only; omega, HLE.out, by dsimp only; simp⟩)
      have hend := hid (Rec.dec_end HL.out (x := (⟨(K : Int), Q, 0, H, [], 0⟩ : Rec.V)) (bad := false) (.inl ⟨rfl, by rw [hr.out, hH.out]⟩))
      have hE2 : (Rec.encR (⟨(K : Int), Q, 0, H, [], 0⟩ : Rec.V)).2 = 0 ∨ (Rec.encR (⟨(K : Int), Q, 0, H, [], 0⟩ : Rec.V)).2 = 2 := by unfold Rec.encR; split <;> simp
      obtain ⟨xr, hxr⟩ : ∃ xr, (⟨(K : Int), Q, 0, H, [], 0⟩ : Rec.V) = xr := ⟨_, rfl⟩
      rw [hxr] at hend hE2
      have HXR := hid hxr
      rw [hxr] at HE
      clear hxr
      generalize Rec.encR xr = ER at *
      obtain ⟨e1, e2⟩ := ER
      obtain ⟨x0, x1, x2, x3, x4, x5⟩ := hX.out.c6
      dsimp only at hE2 HE hend
      rcases hE2 with rfl | rfl
      ·by_cases hY : txt e1 = s
       ·obtain ⟨d1, d2⟩ := Rec.dec_yes (show Rec.dec s.data.toList = some xr from by rw [hend.out, if_pos ⟨rfl, rfl, by rw [← hY, txt_list]⟩])
        have D1 := hid d1
        have D2 := hid d2
        rw [hY] at HE
        clear d1 d2 hY
        go_wp2_with (go_at_call 132; (with_reducible refine HE.out.mono ?_); rintro e wE ⟨rfl, hbE⟩; have rAE := hA.out.below hbE hA.out.lt; have rXE := hX.out.below hbE hX.out.lt; have a0 := rAE.cellAt 0 rfl; have fa0 := rAE.free 0 (by simp); have a1 := rAE.cellAt 1 rfl; have fa1 := rAE.free 1 (by simp); have a2 := rAE.cellAt 2 rfl; have fa2 := rAE.free 2 (by simp); have a3 := rAE.cellAt 3 rfl; have fa3 := rAE.free 3 (by simp); have a4 := rAE.cellAt 4 rfl; have fa4 := rAE.free 4 (by simp); have a5 := rAE.cellAt 5 rfl; have fa5 := rAE.free 5 (by simp); obtain ⟨y0, y1, y2, y3, y4, y5⟩ := rXE.c6)
        have rF := ((((((rAE.set 0 (.int .i64 (K : Int))).set 1 (.int .u64 (Q : Int))).set 2 (.int .i64 0)).set 3 (.slice ah H.length ch)).set 4 (.slice none 0 0)).set 5 (.int .u32 0))
        obtain ⟨c0, c1, c2, c3, c4, c5⟩ := rF.c6
        have hOE := hid (own_below hO.out hbE)
        exact bodyPost_ret (v := .tuple #[.agg #[.int .i64 (K : Int), .int .u64 (Q : Int), .int .i64 0, .slice ah H.length ch, .slice none 0 0, .int .u32 0], .int .i64 0]) (by simp [results, Tryz.results127, go_sem, c0, c1, c2, c3, c4, c5]) rfl ⟨_, by rw [D2.out], by rw [D1.out, ← HXR.out]; exact ⟨⟨_, _, rfl, (show OwnInts _ _ _ _ from (own_setR (a := ⟨w.heap.size, 5, none⟩) (u := .int .u32 0) (((((rAE.set 0 (.int .i64 (K : Int))).set 1 (.int .u64 (Q : Int))).set 2 (.int .i64 0)).set 3 (.slice ah H.length ch)).set 4 (.slice none 0 0)) (own_setR (a := ⟨w.heap.size, 4, none⟩) (u := .slice none 0 0) ((((rAE.set 0 (.int .i64 (K : Int))).set 1 (.int .u64 (Q : Int))).set 2 (.int .i64 0)).set 3 (.slice ah H.length ch)) (own_setR (a := ⟨w.heap.size, 3, none⟩) (u := .slice ah H.length ch) (((rAE.set 0 (.int .i64 (K : Int))).set 1 (.int .u64 (Q : Int))).set 2 (.int .i64 0)) (own_setR (a := ⟨w.heap.size, 2, none⟩) (u := .int .i64 0) ((rAE.set 0 (.int .i64 (K : Int))).set 1 (.int .u64 (Q : Int))) (own_setR (a := ⟨w.heap.size, 1, none⟩) (u := .int .u64 (Q : Int)) (rAE.set 0 (.int .i64 (K : Int))) (own_setR (a := ⟨w.heap.size, 0, none⟩) (u := .int .i64 (K : Int)) rAE hOE.out (by decide)) (by decide)) (by decide)) (by decide)) (by decide)) (by decide))).at, .inl ⟨rfl, rfl⟩⟩, HQ.out, (by decide : (0 : Nat) < 2 ^ 32), by dsimp only; omega, by dsimp only; omega, HLE.out, by dsimp only; simp⟩, by rw [D1.out, ← HXR.out]; exact ⟨_, _, rfl, (show OwnInts _ _ _ _ from (own_setR (a := ⟨w.heap.size, 5, none⟩) (u := .int .u32 0) (((((rAE.set 0 (.int .i64 (K : Int))).set 1 (.int .u64 (Q : Int))).set 2 (.int .i64 0)).set 3 (.slice ah H.length ch)).set 4 (.slice none 0 0)) (own_setR (a := ⟨w.heap.size, 4, none⟩) (u := .slice none 0 0) ((((rAE.set 0 (.int .i64 (K : Int))).set 1 (.int .u64 (Q : Int))).set 2 (.int .i64 0)).set 3 (.slice ah H.length ch)) (own_setR (a := ⟨w.heap.size, 3, none⟩) (u := .slice ah H.length ch) (((rAE.set 0 (.int .i64 (K : Int))).set 1 (.int .u64 (Q : Int))).set 2 (.int .i64 0)) (own_setR (a := ⟨w.heap.size, 2, none⟩) (u := .int .i64 0) ((rAE.set 0 (.int .i64 (K : Int))).set 1 (.int .u64 (Q : Int))) (own_setR (a := ⟨w.heap.size, 1, none⟩) (u := .int .u64 (Q : Int)) (rAE.set 0 (.int .i64 (K : Int))) (own_setR (a := ⟨w.heap.size, 0, none⟩) (u := .int .i64 (K : Int)) rAE hOE.out (by decide)) (by decide)) (by decide)) (by decide)) (by decide)) (by decide))), World.ownsRow_nil _ _ _ _⟩, (((((((hB.out.trans (hbE.mono hB.out.size)).sC 0 (.int .i64 (K : Int))).sC 1 (.int .u64 (Q : Int))).sC 2 (.int .i64 0)).sC 3 (.slice ah H.length ch)).sC 4 (.slice none 0 0)).sC 5 (.int .u32 0))⟩
       ·obtain ⟨d1, d2⟩ := Rec.dec_no (show Rec.dec s.data.toList = none from by rw [hend.out, if_neg (fun h => hY (by rw [h.2.2, txt_of]))])
        have D1 := hid d1
        have D2 := hid d2
        have hYs : ((txt e1).toList == s.toList) = false := by rw [beq_eq_false_iff_ne]; intro h; rw [ByteArray.toList_eq, ByteArray.toList_eq] at h; exact hY (by rw [← txt_of (txt e1), h, txt_of])
        generalize txt e1 = Y at *
        clear hY
        clear d1 d2
        go_wp2_with (go_at_call 132; (with_reducible refine HE.out.mono ?_); rintro e wE ⟨rfl, hbE⟩; have rAE := hA.out.below hbE hA.out.lt; have rXE := hX.out.below hbE hX.out.lt; have a0 := rAE.cellAt 0 rfl; have fa0 := rAE.free 0 (by simp); have a1 := rAE.cellAt 1 rfl; have fa1 := rAE.free 1 (by simp); have a2 := rAE.cellAt 2 rfl; have fa2 := rAE.free 2 (by simp); have a3 := rAE.cellAt 3 rfl; have fa3 := rAE.free 3 (by simp); have a4 := rAE.cellAt 4 rfl; have fa4 := rAE.free 4 (by simp); have a5 := rAE.cellAt 5 rfl; have fa5 := rAE.free 5 (by simp); obtain ⟨y0, y1, y2, y3, y4, y5⟩ := rXE.c6)
        have rF := ((((((rAE.set 0 (.int .i64 0)).set 1 (.int .u64 0)).set 2 (.int .i64 0)).set 3 (.slice none 0 0)).set 4 (.slice none 0 0)).set 5 (.int .u32 0))
        obtain ⟨c0, c1, c2, c3, c4, c5⟩ := rF.c6
        exact bodyPost_ret (v := .tuple #[.agg #[.int .i64 0, .int .u64 0, .int .i64 0, .slice none 0 0, .slice none 0 0, .int .u32 0], .int .i64 80]) (by simp [results, Tryz.results127, go_sem, c0, c1, c2, c3, c4, c5]) rfl ⟨_, by rw [D2.out], by rw [D1.out]; exact recat_none _, by rw [D1.out]; exact recown_none _ _, (((((((hB.out.trans (hbE.mono hB.out.size)).sC 0 (.int .i64 0)).sC 1 (.int .u64 0)).sC 2 (.int .i64 0)).sC 3 (.slice none 0 0)).sC 4 (.slice none 0 0)).sC 5 (.int .u32 0))⟩
      ·obtain ⟨d1, d2⟩ := Rec.dec_no (show Rec.dec s.data.toList = none from by rw [hend.out, if_neg (fun h => absurd h.2.1 (by decide))])
       have D1 := hid d1
       have D2 := hid d2
       clear d1 d2
       go_wp2_with (go_at_call 132; (with_reducible refine HE.out.mono ?_); rintro e wE ⟨rfl, hbE⟩; have rAE := hA.out.below hbE hA.out.lt; have rXE := hX.out.below hbE hX.out.lt; have a0 := rAE.cellAt 0 rfl; have fa0 := rAE.free 0 (by simp); have a1 := rAE.cellAt 1 rfl; have fa1 := rAE.free 1 (by simp); have a2 := rAE.cellAt 2 rfl; have fa2 := rAE.free 2 (by simp); have a3 := rAE.cellAt 3 rfl; have fa3 := rAE.free 3 (by simp); have a4 := rAE.cellAt 4 rfl; have fa4 := rAE.free 4 (by simp); have a5 := rAE.cellAt 5 rfl; have fa5 := rAE.free 5 (by simp); obtain ⟨y0, y1, y2, y3, y4, y5⟩ := rXE.c6)
       have rF := ((((((rAE.set 0 (.int .i64 0)).set 1 (.int .u64 0)).set 2 (.int .i64 0)).set 3 (.slice none 0 0)).set 4 (.slice none 0 0)).set 5 (.int .u32 0))
       obtain ⟨c0, c1, c2, c3, c4, c5⟩ := rF.c6
       exact bodyPost_ret (v := .tuple #[.agg #[.int .i64 0, .int .u64 0, .int .i64 0, .slice none 0 0, .slice none 0 0, .int .u32 0], .int .i64 80]) (by simp [results, Tryz.results127, go_sem, c0, c1, c2, c3, c4, c5]) rfl ⟨_, by rw [D2.out], by rw [D1.out]; exact recat_none _, by rw [D1.out]; exact recown_none _ _, (((((((hB.out.trans (hbE.mono hB.out.size)).sC 0 (.int .i64 0)).sC 1 (.int .u64 0)).sC 2 (.int .i64 0)).sC 3 (.slice none 0 0)).sC 4 (.slice none 0 0)).sC 5 (.int .u32 0))⟩
  have KL := hid (show Rec.may (Rec.raw s.data.toList) = false by rw [hr.out]; exact raw_long (.inr hK3.out) (.inl (by dsimp only; rw [Rec.getH_length]; omega)))
  by_cases hn40 : n ≤ 40
  ·go_upto_region 16 with fail
   obtain ⟨i0, hi0, hz0, hz1, hz2⟩ := info_parts infoInt
   go_loopw [12] (fun q wr => ∃ (i : Nat) (H : List Int) (hv : Value), q = .int .i64 i ∧ i ≤ n ∧ Hid (H = Rec.getH s.data.toList i) ∧ Hid (Row wr w.heap.size 61 [.int .i64 0, .int .u64 0, .int .i64 0, .slice none 0 0, .slice none 0 0, .int .u32 0]) ∧ Hid (Row wr X 61 [.int .i64 (K : Int), .int .u64 (Q : Int), .int .i64 0, hv, .slice none 0 0, .int .u32 0]) ∧ Hid (OwnInts w.heap.size wr hv H) ∧ Hid (Below w.heap.size w wr)) (fun q _ => n - (intOf q).toNat)
   case atStart => exact ⟨0, [], .slice none 0 0, rfl, by omega, hid rfl, RA1, RX0, hid (World.ownsRow_nil _ _ _ _), B2⟩
   case round =>
    clear RA1 RX0 B2 xk
    obtain ⟨i, H, hv, rfl, hin, hH, hA, hX, hO, hB⟩ := hrel
    have xk := hX.out.cellAt 0 rfl
    by_cases hlt : i < n
    ·have i1 : (i : Int) < (n : Int) := by omega
     have i2 : (i : Int) < 40 := by omega
     have hi40 : i < 40 := by omega
     have gi : Hid (∀ w, Calls Tryz.prog 156 #[.string s, .int .i64 (14 + 2 * (i : Int)), .int .i64 2] w fun e w' => e = .returned (.tuple #[.int .u64 (getW s.data.toList (14 + 2 * i) 2 : Nat), .bool true]) ∧ w = w') := hid (fun w => by
      have := HG.out (14 + 2 * i) 2 w (.inr (.inl rfl)) (by omega)
      rwa [show ((14 + 2 * i : Nat) : Int) = 14 + 2 * (i : Int) by omega] at this)
     have hV := getW_lt s.data.toList (14 + 2 * i) 2
     have hnext : Hid (H ++ [((getW s.data.toList (14 + 2 * i) 2 : Nat) : Int)] = Rec.getH s.data.toList (i + 1)) := hid (by rw [hH.out]; exact (Rec.getH_succ _ _).symm)
     generalize getW s.data.toList (14 + 2 * i) 2 = V at *
     have hV' : V < 65536 := hV
     clear hV
     have HOL := hid (show H.length = i by rw [hH.out, Rec.getH_length])
     obtain ⟨ah, ch, rfl⟩ := OwnInts.slice hO.out
     have hO' : Hid (wr.ownsRow w.heap.size 3 1 (.slice ah H.length ch) H.length (icells H)) := hid hO.out
     rw [HOL.out] at hO' hX
     have x3 := hX.out.cellAt 3 rfl
     have hV1 : ∀ u ∈ [Value.int .i64 (V : Int)], u.oneCell' = true := by intro u hu; rw [List.mem_singleton.1 hu]; rfl
     clear hO
     go_wp2_with (first | (go_at_call 156; (with_reducible refine (gi.out _).mono ?_); rintro e w5' ⟨rfl, rfl⟩) | (at_builtin; refine wpList_append_lies _ rfl _ _ 23 rfl w.heap.size 3 i0 (.int .i64 0) 1 8 Tryz.underlying23 hi0 hz0 hz1 hz2 rfl (by decide) (.slice ah i ch) i (icells H) rfl (own_new1 hO'.out _) ⟨wr.heap.size, 0, none⟩ 1 1 [.int .i64 (V : Int)] rfl rfl (World.news_of_block (heap_alloc_new _ _)) hV1 (by decide) (by unfold maxLen; omega) (by omega) (by have := hB.out.size; simp; omega) _ rfl ?_))
     intro g5 c5 w5 hown hgrow hat hlt5
     have P5 := hid (dpush2 (k := 3) n1 hA.out hX.out (own_new1 hO'.out (.cells #[.int .i64 (V : Int)] 3)) hB.out (Nat.le_refl _) hgrow hown (by decide))
     have rX5 := row_grownR (hX.out.alloc (.cells #[.int .i64 (V : Int)] 3)) (own_new1 hO'.out (.cells #[.int .i64 (V : Int)] 3)) hgrow (by decide)
     have cX5 := rX5.cellAt 3 rfl
     have fX5 := rX5.free 3 (by simp)
     clear rX5 hgrow hown hat hlt5 x3 xk hA hX hO' hB hV1 gi
     go_wp2_with fail
     go_roundw
     case rel => exact ⟨i + 1, H ++ [(V : Int)], _, by go_num, by omega, hnext, hid P5.out.1, hid P5.out.2.1, hid (by unfold OwnInts; rw [List.length_append, HOL.out, icells_append]; exact P5.out.2.2.1), hid P5.out.2.2.2⟩
     case measure => simp [intOf]; omega
    ·obtain rfl : i = n := by omega
     have HLE : Hid (H.length ≤ 1000000000) := hid (by rw [hH.out, Rec.getH_length]; omega)
     have hno : Hid (Rec.may (⟨(K : Int), Q, 0, H, [], 0⟩ : Rec.V) = false) := hid (raw_long (.inr hK3.out) (.inl (by dsimp only; rw [hH.out, Rec.getH_length]; omega)))
     obtain ⟨ah, ch, rfl⟩ := OwnInts.slice hO.out
     go_wp2_with fail
     refine wp_loop_rounds 1 ?_
     rw [rounds_succ]
     have i0' : (0 : Int) < (i : Int) := by omega
     have i0'' : 0 < i := by omega
     go_upto_region 24 with fail
     clear xk
     have HE := hid (dencode_any (.agg #[.int .i64 (K : Int), .int .u64 (Q : Int), .int .i64 0, .slice ah H.length ch, .slice none 0 0, .int .u32 0]) (⟨(K : Int), Q, 0, H, [], 0⟩ : Rec.V) wr ⟨⟨_, _, rfl, hO.out.at, .inl ⟨rfl, rfl⟩⟩, HQ.out, (by decide : (0 : Nat) < 2 ^ 32), by dsimp only; omega, by dsimp only; omega, HLE.out, by dsimp only; simp⟩)
     have hend := hid (Rec.dec_end HL.out (x := (⟨(K : Int), Q, 0, H, [], 0⟩ : Rec.V)) (bad := false) (.inr ⟨KL.out, .inr hno.out⟩))
     have hE2 : (Rec.encR (⟨(K : Int), Q, 0, H, [], 0⟩ : Rec.V)).2 = 2 := by unfold Rec.encR; rw [hno.out]; rfl
     obtain ⟨xr, hxr⟩ : ∃ xr, (⟨(K : Int), Q, 0, H, [], 0⟩ : Rec.V) = xr := ⟨_, rfl⟩
     rw [hxr] at hend hE2
     have HXR := hid hxr
     rw [hxr] at HE
     clear hxr
     generalize Rec.encR xr = ER at *
     obtain ⟨e1, e2⟩ := ER
     obtain ⟨x0, x1, x2, x3, x4, x5⟩ := hX.out.c6
     dsimp only at hE2 HE hend
     subst hE2
     obtain ⟨d1, d2⟩ := Rec.dec_no (show Rec.dec s.data.toList = none from by rw [hend.out, if_neg (fun h => absurd h.2.1 (by decide))])
     have D1 := hid d1
     have D2 := hid d2
     clear d1 d2
     go_wp2_with (go_at_call 132; (with_reducible refine HE.out.mono ?_); rintro e wE ⟨rfl, hbE⟩; have rAE := hA.out.below hbE hA.out.lt; have rXE := hX.out.below hbE hX.out.lt; have a0 := rAE.cellAt 0 rfl; have fa0 := rAE.free 0 (by simp); have a1 := rAE.cellAt 1 rfl; have fa1 := rAE.free 1 (by simp); have a2 := rAE.cellAt 2 rfl; have fa2 := rAE.free 2 (by simp); have a3 := rAE.cellAt 3 rfl; have fa3 := rAE.free 3 (by simp); have a4 := rAE.cellAt 4 rfl; have fa4 := rAE.free 4 (by simp); have a5 := rAE.cellAt 5 rfl; have fa5 := rAE.free 5 (by simp); obtain ⟨y0, y1, y2, y3, y4, y5⟩ := rXE.c6)
     have rF := ((((((rAE.set 0 (.int .i64 0)).set 1 (.int .u64 0)).set 2 (.int .i64 0)).set 3 (.slice none 0 0)).set 4 (.slice none 0 0)).set 5 (.int .u32 0))
     obtain ⟨c0, c1, c2, c3, c4, c5⟩ := rF.c6
     exact bodyPost_ret (v := .tuple #[.agg #[.int .i64 0, .int .u64 0, .int .i64 0, .slice none 0 0, .slice none 0 0, .int .u32 0], .int .i64 80]) (by simp [results, Tryz.results127, go_sem, c0, c1, c2, c3, c4, c5]) rfl ⟨_, by rw [D2.out], by rw [D1.out]; exact recat_none _, by rw [D1.out]; exact recown_none _ _, (((((((hB.out.trans (hbE.mono hB.out.size)).sC 0 (.int .i64 0)).sC 1 (.int .u64 0)).sC 2 (.int .i64 0)).sC 3 (.slice none 0 0)).sC 4 (.slice none 0 0)).sC 5 (.int .u32 0))⟩
  ·go_upto_region 16 with fail
   obtain ⟨i0, hi0, hz0, hz1, hz2⟩ := info_parts infoInt
   go_loopw [12] (fun q wr => ∃ (i : Nat) (H : List Int) (hv : Value), q = .int .i64 i ∧ i ≤ 40 ∧ Hid (H = Rec.getH s.data.toList i) ∧ Hid (Row wr w.heap.size 61 [.int .i64 0, .int .u64 0, .int .i64 0, .slice none 0 0, .slice none 0 0, .int .u32 0]) ∧ Hid (Row wr X 61 [.int .i64 (K : Int), .int .u64 (Q : Int), .int .i64 0, hv, .slice none 0 0, .int .u32 0]) ∧ Hid (OwnInts w.heap.size wr hv H) ∧ Hid (Below w.heap.size w wr)) (fun q _ => 40 - (intOf q).toNat)
   case atStart => exact ⟨0, [], .slice none 0 0, rfl, by omega, hid rfl, RA1, RX0, hid (World.ownsRow_nil _ _ _ _), B2⟩
   case round =>
    clear RA1 RX0 B2 xk
    obtain ⟨i, H, hv, rfl, hin, hH, hA, hX, hO, hB⟩ := hrel
    have xk := hX.out.cellAt 0 rfl
    by_cases hlt : i < 40
    ·have i1 : (i : Int) < (n : Int) := by omega
     have i2 : (i : Int) < 40 := by omega
     have hi40 : i < 40 := by omega
     have gi : Hid (∀ w, Calls Tryz.prog 156 #[.string s, .int .i64 (14 + 2 * (i : Int)), .int .i64 2] w fun e w' => e = .returned (.tuple #[.int .u64 (getW s.data.toList (14 + 2 * i) 2 : Nat), .bool true]) ∧ w = w') := hid (fun w => by
      have := HG.out (14 + 2 * i) 2 w (.inr (.inl rfl)) (by omega)
      rwa [show ((14 + 2 * i : Nat) : Int) = 14 + 2 * (i : Int) by omega] at this)
     have hV := getW_lt s.data.toList (14 + 2 * i) 2
     have hnext : Hid (H ++ [((getW s.data.toList (14 + 2 * i) 2 : Nat) : Int)] = Rec.getH s.data.toList (i + 1)) := hid (by rw [hH.out]; exact (Rec.getH_succ _ _).symm)
     generalize getW s.data.toList (14 + 2 * i) 2 = V at *
     have hV' : V < 65536 := hV
     clear hV
     have HOL := hid (show H.length = i by rw [hH.out, Rec.getH_length])
     obtain ⟨ah, ch, rfl⟩ := OwnInts.slice hO.out
     have hO' : Hid (wr.ownsRow w.heap.size 3 1 (.slice ah H.length ch) H.length (icells H)) := hid hO.out
     rw [HOL.out] at hO' hX
     have x3 := hX.out.cellAt 3 rfl
     have hV1 : ∀ u ∈ [Value.int .i64 (V : Int)], u.oneCell' = true := by intro u hu; rw [List.mem_singleton.1 hu]; rfl
     clear hO
     go_wp2_with (first | (go_at_call 156; (with_reducible refine (gi.out _).mono ?_); rintro e w5' ⟨rfl, rfl⟩) | (at_builtin; refine wpList_append_lies _ rfl _ _ 23 rfl w.heap.size 3 i0 (.int .i64 0) 1 8 Tryz.underlying23 hi0 hz0 hz1 hz2 rfl (by decide) (.slice ah i ch) i (icells H) rfl (own_new1 hO'.out _) ⟨wr.heap.size, 0, none⟩ 1 1 [.int .i64 (V : Int)] rfl rfl (World.news_of_block (heap_alloc_new _ _)) hV1 (by decide) (by unfold maxLen; omega) (by omega) (by have := hB.out.size; simp; omega) _ rfl ?_))
     intro g5 c5 w5 hown hgrow hat hlt5
     have P5 := hid (dpush2 (k := 3) n1 hA.out hX.out (own_new1 hO'.out (.cells #[.int .i64 (V : Int)] 3)) hB.out (Nat.le_refl _) hgrow hown (by decide))
     have rX5 := row_grownR (hX.out.alloc (.cells #[.int .i64 (V : Int)] 3)) (own_new1 hO'.out (.cells #[.int .i64 (V : Int)] 3)) hgrow (by decide)
     have cX5 := rX5.cellAt 3 rfl
     have fX5 := rX5.free 3 (by simp)
     clear rX5 hgrow hown hat hlt5 x3 xk hA hX hO' hB hV1 gi
     go_wp2_with fail
     go_roundw
     case rel => exact ⟨i + 1, H ++ [(V : Int)], _, by go_num, by omega, hnext, hid P5.out.1, hid P5.out.2.1, hid (by unfold OwnInts; rw [List.length_append, HOL.out, icells_append]; exact P5.out.2.2.1), hid P5.out.2.2.2⟩
     case measure => simp [intOf]; omega
    ·have hi4 : i = 40 := by omega
     have i1 : (i : Int) < (n : Int) := by omega
     have i2 : ¬ (i : Int) < 40 := by omega
     have i3 : ¬ i < 40 := by omega
     have i4 : i < n := by omega
     replace hi4 := hid hi4
     have HLE : Hid (H.length ≤ 1000000000) := hid (by rw [hH.out, Rec.getH_length, hi4.out]; omega)
     have hno : Hid (Rec.may (⟨(K : Int), Q, 0, H, [], 0⟩ : Rec.V) = false) := hid (raw_long (.inr hK3.out) (.inl (by dsimp only; rw [hH.out, Rec.getH_length, hi4.out]; omega)))
     obtain ⟨ah, ch, rfl⟩ := OwnInts.slice hO.out
     go_wp2_with fail
     refine wp_loop_rounds 1 ?_
     rw [rounds_succ]
     have i0' : (0 : Int) < (n : Int) := by omega
     have i0'' : 0 < n := by omega
     go_upto_region 24 with fail
     clear xk
     have HE := hid (dencode_any (.agg #[.int .i64 (K : Int), .int .u64 (Q : Int), .int .i64 0, .slice ah H.length ch, .slice none 0 0, .int .u32 0]) (⟨(K : Int), Q, 0, H, [], 0⟩ : Rec.V) wr ⟨⟨_, _, rfl, hO.out.at, .inl ⟨rfl, rfl⟩⟩, HQ.out, (by decide : (0 : Nat) < 2 ^ 32), by dsimp only; omega, by dsimp only; omega, HLE.out, by dsimp only; simp⟩)
     have hend := hid (Rec.dec_end HL.out (x := (⟨(K : Int), Q, 0, H, [], 0⟩ : Rec.V)) (bad := false) (.inr ⟨KL.out, .inr hno.out⟩))
     have hE2 : (Rec.encR (⟨(K : Int), Q, 0, H, [], 0⟩ : Rec.V)).2 = 2 := by unfold Rec.encR; rw [hno.out]; rfl
     obtain ⟨xr, hxr⟩ : ∃ xr, (⟨(K : Int), Q, 0, H, [], 0⟩ : Rec.V) = xr := ⟨_, rfl⟩
     rw [hxr] at hend hE2
     have HXR := hid hxr
     rw [hxr] at HE
     clear hxr
     generalize Rec.encR xr = ER at *
     obtain ⟨e1, e2⟩ := ER
     obtain ⟨x0, x1, x2, x3, x4, x5⟩ := hX.out.c6
     dsimp only at hE2 HE hend
     subst hE2
     obtain ⟨d1, d2⟩ := Rec.dec_no (show Rec.dec s.data.toList = none from by rw [hend.out, if_neg (fun h => absurd h.2.1 (by decide))])
     have D1 := hid d1
     have D2 := hid d2
     clear d1 d2
     go_wp2_with (go_at_call 132; (with_reducible refine HE.out.mono ?_); rintro e wE ⟨rfl, hbE⟩; have rAE := hA.out.below hbE hA.out.lt; have rXE := hX.out.below hbE hX.out.lt; have a0 := rAE.cellAt 0 rfl; have fa0 := rAE.free 0 (by simp); have a1 := rAE.cellAt 1 rfl; have fa1 := rAE.free 1 (by simp); have a2 := rAE.cellAt 2 rfl; have fa2 := rAE.free 2 (by simp); have a3 := rAE.cellAt 3 rfl; have fa3 := rAE.free 3 (by simp); have a4 := rAE.cellAt 4 rfl; have fa4 := rAE.free 4 (by simp); have a5 := rAE.cellAt 5 rfl; have fa5 := rAE.free 5 (by simp); obtain ⟨y0, y1, y2, y3, y4, y5⟩ := rXE.c6)
     have rF := ((((((rAE.set 0 (.int .i64 0)).set 1 (.int .u64 0)).set 2 (.int .i64 0)).set 3 (.slice none 0 0)).set 4 (.slice none 0 0)).set 5 (.int .u32 0))
     obtain ⟨c0, c1, c2, c3, c4, c5⟩ := rF.c6
     exact bodyPost_ret (v := .tuple #[.agg #[.int .i64 0, .int .u64 0, .int .i64 0, .slice none 0 0, .slice none 0 0, .int .u32 0], .int .i64 80]) (by simp [results, Tryz.results127, go_sem, c0, c1, c2, c3, c4, c5]) rfl ⟨_, by rw [D2.out], by rw [D1.out]; exact recat_none _, by rw [D1.out]; exact recown_none _ _, (((((((hB.out.trans (hbE.mono hB.out.size)).sC 0 (.int .i64 0)).sC 1 (.int .u64 0)).sC 2 (.int .i64 0)).sC 3 (.slice none 0 0)).sC 4 (.slice none 0 0)).sC 5 (.int .u32 0))⟩
 have b2 : ((K : Int) == 2) = false := by rw [beq_eq_false_iff_ne]; omega
 have b3 : ((K : Int) == 3) = false := by rw [beq_eq_false_iff_ne]; omega
 have hr := hid (raw0.out ek e2 e3 e4)
 have hno : Hid (Rec.may (⟨(K : Int), Q, 0, [], [], 0⟩ : Rec.V) = false) := hid (recmay_other (by dsimp only; omega) (by dsimp only; omega) (by dsimp only; omega) (by dsimp only; omega))
 clear raw1 raw2 raw3 raw4 raw0 HG e1' ek e2 e3 e4
 go_upto_region 24 with fail
 clear xk
 have HE := hid (dencode_any (.agg #[.int .i64 (K : Int), .int .u64 (Q : Int), .int .i64 0, .slice none 0 0, .slice none 0 0, .int .u32 0]) (⟨(K : Int), Q, 0, [], [], 0⟩ : Rec.V) w2 ⟨⟨_, _, rfl, .inl ⟨rfl, rfl⟩, .inl ⟨rfl, rfl⟩⟩, HQ.out, (by decide : (0 : Nat) < 2 ^ 32), by dsimp only; omega, by dsimp only; omega, by dsimp only; simp⟩)
 have hend := hid (Rec.dec_end HL.out (x := (⟨(K : Int), Q, 0, [], [], 0⟩ : Rec.V)) (bad := false) (.inl ⟨rfl, hr.out.symm⟩))
 have hE2 : (Rec.encR (⟨(K : Int), Q, 0, [], [], 0⟩ : Rec.V)).2 = 2 := by unfold Rec.encR; rw [hno.out]; rfl
 obtain ⟨xr, hxr⟩ : ∃ xr, (⟨(K : Int), Q, 0, [], [], 0⟩ : Rec.V) = xr := ⟨_, rfl⟩
 rw [hxr] at hend hE2
 have HXR := hid hxr
 rw [hxr] at HE
 clear hxr
 generalize Rec.encR xr = ER at *
 obtain ⟨e1, e2⟩ := ER
 obtain ⟨x0, x1, x2, x3, x4, x5⟩ := RX0.out.c6
 dsimp only at hE2 HE hend
 subst hE2
 obtain ⟨d1, d2⟩ := Rec.dec_no (show Rec.dec s.data.toList = none from by rw [hend.out, if_neg (fun h => absurd h.2.1 (by decide))])
 have D1 := hid d1
 have D2 := hid d2
 clear d1 d2
 go_wp2_with (go_at_call 132; (with_reducible refine HE.out.mono ?_); rintro e wE ⟨rfl, hbE⟩; have rAE := RA1.out.below hbE RA1.out.lt; have rXE := RX0.out.below hbE RX0.out.lt; have a0 := rAE.cellAt 0 rfl; have fa0 := rAE.free 0 (by simp); have a1 := rAE.cellAt 1 rfl; have fa1 := rAE.free 1 (by simp); have a2 := rAE.cellAt 2 rfl; have fa2 := rAE.free 2 (by simp); have a3 := rAE.cellAt 3 rfl; have fa3 := rAE.free 3 (by simp); have a4 := rAE.cellAt 4 rfl; have fa4 := rAE.free 4 (by simp); have a5 := rAE.cellAt 5 rfl; have fa5 := rAE.free 5 (by simp); obtain ⟨y0, y1, y2, y3, y4, y5⟩ := rXE.c6)
 have rF := ((((((rAE.set 0 (.int .i64 0)).set 1 (.int .u64 0)).set 2 (.int .i64 0)).set 3 (.slice none 0 0)).set 4 (.slice none 0 0)).set 5 (.int .u32 0))
 obtain ⟨c0, c1, c2, c3, c4, c5⟩ := rF.c6
 exact bodyPost_ret (v := .tuple #[.agg #[.int .i64 0, .int .u64 0, .int .i64 0, .slice none 0 0, .slice none 0 0, .int .u32 0], .int .i64 80]) (by simp [results, Tryz.results127, go_sem, c0, c1, c2, c3, c4, c5]) rfl ⟨_, by rw [D2.out], by rw [D1.out]; exact recat_none _, by rw [D1.out]; exact recown_none _ _, (((((((B2.out.trans (hbE.mono B2.out.size)).sC 0 (.int .i64 0)).sC 1 (.int .u64 0)).sC 2 (.int .i64 0)).sC 3 (.slice none 0 0)).sC 4 (.slice none 0 0)).sC 5 (.int .u32 0))⟩
end Go.Proofs.YtnpdhidliaahbaaGreat
