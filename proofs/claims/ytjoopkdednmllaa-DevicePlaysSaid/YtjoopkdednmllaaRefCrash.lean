/- The document's device: Flush, Crash, Kept. -/
import Derived.Test.YtjoopkdednmllaaRefNew
import Derived.Test.YtjoopkdednmllaaDevAll
namespace Go.Proofs.Ytjoopkdednmllaa
open Go Go.RowKit
variable {B b : Nat} {w : World} {z : RLay} {D : Dev}

/-- A flush, block by block. -/
def Dev.flushTo (D : Dev) : Nat → Dev
  | 0 => D
  | j + 1 => { D.flushTo j with kept := (D.flushTo j).kept.set j (D.now.getD j ⟨#[]⟩), pend := (D.flushTo j).pend.set j false }
theorem flushTo_fix (D : Dev) (j : Nat) : (D.flushTo j).now = D.now ∧ (D.flushTo j).armed = D.armed ∧ (D.flushTo j).left = D.left ∧ (D.flushTo j).acts = D.acts ∧ (D.flushTo j).kept.length = D.kept.length ∧ (D.flushTo j).pend.length = D.pend.length := by
  induction j with
  | zero => exact ⟨rfl, rfl, rfl, rfl, rfl, rfl⟩
  | succ j ih =>
    obtain ⟨h1, h2, h3, h4, h5, h6⟩ := ih
    refine ⟨h1, h2, h3, h4, ?_, ?_⟩
    · show ((D.flushTo j).kept.set j _).length = _; rw [List.length_set]; exact h5
    · show ((D.flushTo j).pend.set j _).length = _; rw [List.length_set]; exact h6
theorem flushTo_at (D : Dev) (hp : D.pend.length = D.kept.length) (j : Nat) (hj : j ≤ D.kept.length) : ∀ i, (D.flushTo j).kept.getD i ⟨#[]⟩ = (if i < j then D.now.getD i ⟨#[]⟩ else D.kept.getD i ⟨#[]⟩) ∧ (D.flushTo j).pend.getD i false = (if i < j then false else D.pend.getD i false) := by
  induction j with
  | zero => intro i; simp [Dev.flushTo]
  | succ j ih =>
    intro i
    have ih := ih (by omega) i
    obtain ⟨_, _, _, _, h5, h6⟩ := flushTo_fix D j
    constructor
    · show ((D.flushTo j).kept.set j (D.now.getD j ⟨#[]⟩)).getD i _ = _
      rw [getD_set _ _ _ _ _ (by rw [h5]; omega), ih.1]
      by_cases h : j = i
      · subst h; rw [if_pos rfl, if_pos (by omega)]
      · rw [if_neg h]
        by_cases h2 : i < j
        · rw [if_pos h2, if_pos (by omega)]
        · rw [if_neg h2, if_neg (by omega)]
    · show ((D.flushTo j).pend.set j false).getD i _ = _
      rw [getD_setB _ _ _ _ (by rw [h6, hp]; omega), ih.2]
      by_cases h : j = i
      · subst h; rw [if_pos rfl, if_pos (by omega)]
      · rw [if_neg h]
        by_cases h2 : i < j
        · rw [if_pos h2, if_pos (by omega)]
        · rw [if_neg h2, if_neg (by omega)]
theorem ext_bools (a b : List Bool) (hl : a.length = b.length) (h : ∀ i, i < a.length → a.getD i false = b.getD i false) : a = b := by
  apply List.ext_getElem hl
  intro i h1 h2
  have := h i h1
  simpa [List.getD, h1, h2] using this
theorem flushTo_all (D : Dev) (hl : D.now.length = D.kept.length) (hp : D.pend.length = D.kept.length) : D.flushTo D.kept.length = D.flushed := by
  obtain ⟨h1, h2, h3, h4, h5, h6⟩ := flushTo_fix D D.kept.length
  have h7 : (D.flushTo D.kept.length).kept = D.now := ext_blocks _ _ (h5.trans hl.symm) fun i hi => by
    rw [(flushTo_at D hp _ (Nat.le_refl _) i).1, if_pos (by rw [← h5]; exact hi)]
  have h8 : (D.flushTo D.kept.length).pend = List.replicate D.kept.length false := ext_bools _ _ (by rw [h6, List.length_replicate, hp]) fun i hi => by
    have hi' : i < D.kept.length := by rw [h6, hp] at hi; exact hi
    rw [(flushTo_at D hp _ (Nat.le_refl _) i).2, if_pos hi']
    simp [List.getD, hi']
  unfold Dev.flushed
  generalize D.flushTo D.kept.length = E at *
  obtain ⟨k, n, p, a, l, c⟩ := E
  dsimp only at *
  rw [h1, h2, h3, h4, h7, h8]

theorem RefAt.step (h : RefAt B w b z D) (j : Nat) (t : ByteArray) : RefAt B ((w.setCell ⟨z.gw, j, none⟩ (.string t)).setCell ⟨z.gp, j, none⟩ (.bool false)) b z { D with kept := D.kept.set j t, pend := D.pend.set j false } := by
  obtain ⟨n1, n2, n3, n4, n5, n6⟩ := h.ne
  have hl : (D.kept.set j t).length = D.kept.length := List.length_set
  refine ⟨h.own, ?_, ?_, ?_, ?_, h.ne, by dsimp only; rw [hl]; exact h.pos, h.left, h.acts⟩
  · dsimp only; rw [hl]; exact (h.cells.other (fun e => n2 e.symm) _).other (fun e => n3 e.symm) _
  · dsimp only; rw [hl]
    exact ownsRow_setCell_other (ownsRow_setCell_other h.now (by simp [Value.ownBlock]; exact n4) _) (by simp [Value.ownBlock]; exact n5) _
  · dsimp only; rw [hl]
    have := ownsRow_setCell_other (ownsRow_set h.was j (.string t)) (a := ⟨z.gp, j, none⟩) (by simp [Value.ownBlock]; exact n6) (.bool false)
    simpa [strs, List.map_set] using this
  · dsimp only; rw [hl]
    have := ownsRow_set (ownsRow_setCell_other h.pend (a := ⟨z.gw, j, none⟩) (by simp [Value.ownBlock]; exact fun e => n6 e.symm) (.string t)) j (.bool false)
    simpa [bools, List.map_set] using this

set_option maxHeartbeats 2000000 in
theorem rflush_any (h : RefAt B w b z D) (ha : D.acts < 1000000000000) :
    Calls Try.prog 18 #[.pointer (some ⟨b, 0, none⟩)] w fun e w' => e = .returned (.int .i64 D.flushE) ∧ RefAt B w' b z D.flush ∧ Only [b, z.gw, z.gp] w w' := by
  have hact := ract_any h ha
  cases hd : D.dead
  · have e1 : D.flushE = 0 := by unfold Dev.flushE; rw [hd]; rfl
    have e2 : D.flush = D.acted.flushed := by unfold Dev.flush; rw [hd]; rfl
    rw [e1, e2]
    rw [hd] at hact
    simp only [Bool.false_eq_true, if_false] at hact
    have HC := Lib.hid hact
    have hlen : D.acted.now.length = D.acted.kept.length := by have := h.now.1; show D.now.length = D.kept.length; simpa [strs] using this
    have hpl : D.acted.pend.length = D.acted.kept.length := by have := h.pend.1; show D.pend.length = D.kept.length; simpa [bools] using this
    have hfin := Lib.hid (flushTo_all D.acted hlen hpl)
    have hpos : 0 < D.acted.kept.length ∧ D.acted.kept.length ≤ 4096 := h.pos
    clear h hact e1 e2 hd ha
    generalize D.acted = E at *
    have hlen' := Lib.hid hlen
    obtain ⟨n, hn⟩ : ∃ n, E.kept.length = n := ⟨_, rfl⟩
    rw [hn] at hfin hpos hlen'
    go_enter Try.func18, Try.ntmps18
    go_wp2_with fail
    refine HC.out.mono ?_
    rintro e w2 ⟨rfl, hE, hO⟩
    have hE0 := Lib.hid hE
    have hO0 := Lib.hid (hO.sub (T := [b, z.gw, z.gp]) (by simp))
    clear hE hO HC
    go_wp2_with fail
    go_loopw [3] (fun q wr => ∃ j : Nat, j ≤ n ∧ q = .int .i64 j ∧ Hid (RefAt B wr b z (E.flushTo j)) ∧ Hid (Only [b, z.gw, z.gp] w wr)) (fun q _ => n - (intOf q).toNat)
    case atStart => exact ⟨0, by omega, rfl, hE0, hO0⟩
    case round =>
      obtain ⟨j, hj, rfl, hr, ho⟩ := hrel
      obtain ⟨f1, _, _, _, f5, f6⟩ := flushTo_fix E j
      have c0 := hr.out.c0
      have c1 := hr.out.c1
      have c2 := hr.out.c2
      rw [f5, hn] at c0 c1 c2
      by_cases hlt : j < n
      · have i0 : (0 : Int) ≤ (j : Int) := by omega
        have i1 : (j : Int) < (n : Int) := by omega
        have d0 : wr.cell? ⟨z.gn, j, none⟩ = some (.string (E.now.getD j ⟨#[]⟩)) := own_cellAt hr.out.now (by rw [f1]; simp [strs, List.getD, show j < E.now.length from (by rw [hlen'.out]; exact hlt)])
        have d1 : ∃ u, wr.cell? ⟨z.gw, j, none⟩ = some u := ⟨_, own_cellAt hr.out.was (List.getElem?_eq_getElem (by rw [hr.out.was.1, f5, hn]; omega))⟩
        have d2 : ∃ u, wr.cell? ⟨z.gp, j, none⟩ = some u := ⟨_, own_cellAt hr.out.pend (List.getElem?_eq_getElem (by rw [hr.out.pend.1, f5, hn]; omega))⟩
        obtain ⟨u1, d1⟩ := d1
        obtain ⟨u2, d2⟩ := d2
        have g1 := ownsRow_free1 hr.out.was j
        have g2 := ownsRow_free1 hr.out.pend j
        obtain ⟨n1, n2, n3, n4, n5, n6⟩ := hr.out.ne
        have hst := Lib.hid (hr.out.step j (E.now.getD j ⟨#[]⟩))
        have hso : Hid (Only [b, z.gw, z.gp] w ((wr.setCell ⟨z.gw, j, none⟩ (.string (E.now.getD j ⟨#[]⟩))).setCell ⟨z.gp, j, none⟩ (.bool false))) := Lib.hid ((ho.out.trans (Only.setCell wr ⟨z.gw, j, none⟩ _ (by simp))).trans (Only.setCell _ ⟨z.gp, j, none⟩ _ (by simp)))
        have hstep : Hid (E.flushTo (j + 1) = { E.flushTo j with kept := (E.flushTo j).kept.set j (E.now.getD j ⟨#[]⟩), pend := (E.flushTo j).pend.set j false }) := Lib.hid rfl
        have hnb : ¬ b = z.gw := n2
        have hnp : ¬ z.gp = z.gw := fun e => n6 e.symm
        generalize E.now.getD j ⟨#[]⟩ = t at *
        have hc2 : (wr.setCell ⟨z.gw, j, none⟩ (.string t)).cell? ⟨b, 2, none⟩ = some (.slice (some ⟨z.gp, 0, none⟩) n z.cp) := (World.cell?_setCell_other _ _ _ _ (by simp)).trans c2
        have hd2 : (wr.setCell ⟨z.gw, j, none⟩ (.string t)).cell? ⟨z.gp, j, none⟩ = some u2 := (World.cell?_setCell_other _ _ _ _ (by simp [hnp])).trans d2
        have hg2 : (wr.setCell ⟨z.gw, j, none⟩ (.string t)).frozen? ⟨z.gp, j, none⟩ = false := by rw [World.frozen?_setCell]; exact g2
        clear n1 n2 n3 n4 n5 n6
        go_wp2_with fail
        go_still_tail 13, (by kernel_rfl)
        go_wp2_with fail
        go_roundw
        case rel => exact ⟨j + 1, by omega, by go_num, by rw [hstep.out]; exact Lib.hid (hst.out.below ⟨rfl, rfl, rfl, Nat.le_refl _, fun _ _ => rfl⟩), Lib.hid hso.out.drew⟩
        case measure => simp [intOf]; omega
      · obtain rfl : j = n := by omega
        rw [hfin.out] at hr
        go_wp2_with fail
        go_ret
        exact ⟨rfl, hr.out, ho.out⟩
  · have e1 : D.flushE = 61 := by unfold Dev.flushE; rw [hd]; rfl
    have e2 : D.flush = D := by unfold Dev.flush; rw [hd]; rfl
    rw [e1, e2]
    rw [hd] at hact
    simp only [if_true] at hact
    have HC := Lib.hid hact
    have HH := Lib.hid h
    clear h hact hd e1 e2 ha
    go_enter Try.func18, Try.ntmps18
    go_wp2_with fail
    refine HC.out.mono ?_
    rintro e w' ⟨rfl, rfl⟩
    go_wp2_with fail
    go_ret
    exact ⟨rfl, HH.out, Only.refl _ _⟩

theorem cat_take_sizes (l : List ByteArray) (hs : sized l) (j : Nat) (h : j < l.length) (T : ByteArray) (hT : T = l.getD j ⟨#[]⟩) : (txt (cat (l.take j))).size = j * 128 ∧ T.size = 128 ∧ txt (cat (l.take j)) ++ T = txt (cat (l.take (j + 1))) := by
  subst hT
  exact ⟨(cat_take_size l hs j h).1, (cat_take_size l hs j h).2, cat_take l j h⟩

set_option maxHeartbeats 2000000 in
theorem rcrash_any (h : RefAt B w b z D) (k : Nat) (hok : D.Ok k) (ad : Option Addr) (cap : Nat) (keep : List Bool) (hk : BoolsAt w ad keep) (hkl : keep.length ≤ 9223372036854775807) :
    Calls Try.prog 32 #[.pointer (some ⟨b, 0, none⟩), .slice ad keep.length cap] w fun e w' => e = .returned (.string (txt (cat (D.crash keep)))) ∧ w = w' := by
  have c0 := h.c0
  have c1 := h.c1
  have c2 := h.c2
  have hp := h.pos
  have HK := Lib.hid hk
  have hcl := crash_length D keep
  have hcs := crash_sized D k hok keep
  have d0 : Hid (∀ i, i < D.kept.length → w.cell? ⟨z.gn, i, none⟩ = some (.string (D.now.getD i ⟨#[]⟩))) := Lib.hid fun i hi => own_cellAt h.now (by simp [strs, List.getD, show i < D.now.length from (by rw [hok.len]; exact hi)])
  have d1 : Hid (∀ i, i < D.kept.length → w.cell? ⟨z.gw, i, none⟩ = some (.string (D.kept.getD i ⟨#[]⟩))) := Lib.hid fun i hi => own_cellAt h.was (by simp [strs, List.getD, hi])
  have d2 : Hid (∀ i, i < D.kept.length → w.cell? ⟨z.gp, i, none⟩ = some (.bool (D.pend.getD i false))) := Lib.hid fun i hi => own_cellAt h.pend (by simp [bools, List.getD, show i < D.pend.length from (by rw [hok.plen]; exact hi)])
  have hat := Lib.hid (fun i hi => crash_at D k hok keep i hi)
  have hst := Lib.hid (fun i (hi : i < D.kept.length) T hT => cat_take_sizes (D.crash keep) hcs i (by rw [hcl]; exact hi) T hT)
  have hfin : Hid (txt (cat ((D.crash keep).take D.kept.length)) = txt (cat (D.crash keep))) := Lib.hid (by rw [← hcl, List.take_length])
  have h00 : Hid (txt (cat ((D.crash keep).take 0)) = ⟨#[]⟩) := Lib.hid rfl
  have rs := fun i => Lib.hid (rank_succ D.pend i)
  have hrl : Hid (∀ i, i ≤ D.kept.length → rank D.pend i ≤ D.kept.length) := Lib.hid fun i hi => by
    have := pendTo_length D.pend i; show (pendTo D.pend i).length ≤ _; omega
  clear h hk hcl hcs hok
  generalize txt (cat (D.crash keep)) = RES at *
  generalize D.kept.length = n at *
  obtain ⟨S, hS⟩ : ∃ S : Nat → ByteArray, ∀ i, txt (cat ((D.crash keep).take i)) = S i := ⟨_, fun _ => rfl⟩
  obtain ⟨Z0, hZ0⟩ : ∃ Z : Nat → ByteArray, ∀ i, (D.crash keep).getD i ⟨#[]⟩ = Z i := ⟨_, fun _ => rfl⟩
  obtain ⟨R, hR⟩ : ∃ R : Nat → Nat, ∀ i, rank D.pend i = R i := ⟨_, fun _ => rfl⟩
  obtain ⟨E, hE⟩ : ∃ E : Nat → Bool, ∀ i, D.pend.getD i false = E i := ⟨_, fun _ => rfl⟩
  obtain ⟨Z1, hZ1⟩ : ∃ Z : Nat → ByteArray, ∀ i, D.now.getD i ⟨#[]⟩ = Z i := ⟨_, fun _ => rfl⟩
  obtain ⟨Z2, hZ2⟩ : ∃ Z : Nat → ByteArray, ∀ i, D.kept.getD i ⟨#[]⟩ = Z i := ⟨_, fun _ => rfl⟩
  have r0 : Hid (R 0 = 0) := Lib.hid (by rw [← hR]; rfl)
  simp only [hS, hZ0, hR, hE, hZ1, hZ2] at d0 d1 d2 hat hst hfin h00 rs hrl
  clear hS hZ0 hR hE hZ1 hZ2
  go_enter Try.func32, Try.ntmps32
  go_wp2_with fail
  go_loopw [5, 6, 7] (fun s r q wr => ∃ i : Nat, i ≤ n ∧ s = .string (S i) ∧ r = .int .i64 (R i) ∧ q = .int .i64 i ∧ w = wr) (fun _ _ q _ => n - (intOf q).toNat)
  case atStart => exact ⟨0, by omega, by rw [h00.out], by rw [r0.out]; rfl, rfl, rfl⟩
  case round =>
    obtain ⟨i, hi, rfl, rfl, rfl, rfl⟩ := hrel
    by_cases hlt : i < n
    · have i0 : (0 : Int) ≤ (i : Int) := by omega
      have i1 : (i : Int) < (n : Int) := by omega
      have e0 := d0.out i hlt
      have e1 := d1.out i hlt
      have e2 := d2.out i hlt
      have eat := hat.out i hlt
      have rsi := rs i
      have hri := hrl.out i hi
      have r00 : (0 : Int) ≤ (R i : Int) := by omega
      cases hE : E i
      · rw [hE] at e2 eat rsi
        simp only [Bool.false_eq_true, false_and, if_false] at eat rsi
        obtain ⟨q1, q2, q3⟩ := hst.out i hlt (Z2 i) eat.symm
        have hbd : (S i).size + (Z2 i).size ≤ 9223372036854775807 := by omega
        have Q3 := Lib.hid q3
        clear q3 eat
        generalize Z2 i = t at *
        generalize Z1 i = t1 at *
        go_wp2_with fail
        go_roundw
        case rel => exact ⟨i + 1, by omega, by rw [← Q3.out], by rw [rsi.out], by go_num, trivial⟩
        case measure => simp [intOf]; omega
      · rw [hE] at e2 eat rsi
        simp only [true_and, if_true] at eat rsi
        by_cases hkk : R i < keep.length
        · obtain ⟨gk, offk, rfl, ck⟩ := HK.out (R i) hkk
          have rk : (R i : Int) < (keep.length : Int) := by omega
          cases hkb : keep.getD (R i) false
          · rw [hkb] at ck eat
            simp only [Bool.false_eq_true, if_false] at eat
            obtain ⟨q1, q2, q3⟩ := hst.out i hlt (Z2 i) eat.symm
            have hbd : (S i).size + (Z2 i).size ≤ 9223372036854775807 := by omega
            have Q3 := Lib.hid q3
            clear q3 eat
            generalize Z2 i = t at *
            generalize Z1 i = t1 at *
            go_wp2_with fail
            go_roundw
            case rel => exact ⟨i + 1, by omega, by rw [← Q3.out], by rw [rsi.out]; go_num, by go_num, trivial⟩
            case measure => simp [intOf]; omega
          · rw [hkb] at ck eat
            simp only [if_true] at eat
            obtain ⟨q1, q2, q3⟩ := hst.out i hlt (Z1 i) eat.symm
            have hbd : (S i).size + (Z1 i).size ≤ 9223372036854775807 := by omega
            have Q3 := Lib.hid q3
            clear q3 eat
            generalize Z2 i = t at *
            generalize Z1 i = t1 at *
            go_wp2_with fail
            go_roundw
            case rel => exact ⟨i + 1, by omega, by rw [← Q3.out], by rw [rsi.out]; go_num, by go_num, trivial⟩
            case measure => simp [intOf]; omega
        · have hkb : keep.getD (R i) false = false := by simp [List.getD, List.getElem?_eq_none (Nat.not_lt.1 hkk)]
          have rk : ¬ (R i : Int) < (keep.length : Int) := by omega
          rw [hkb] at eat
          simp only [Bool.false_eq_true, if_false] at eat
          obtain ⟨q1, q2, q3⟩ := hst.out i hlt (Z2 i) eat.symm
          have hbd : (S i).size + (Z2 i).size ≤ 9223372036854775807 := by omega
          have Q3 := Lib.hid q3
          clear q3 eat
          generalize Z2 i = t at *
          generalize Z1 i = t1 at *
          go_wp2_with fail
          go_roundw
          case rel => exact ⟨i + 1, by omega, by rw [← Q3.out], by rw [rsi.out]; go_num, by go_num, trivial⟩
          case measure => simp [intOf]; omega
    · obtain rfl : i = n := by omega
      go_wp2_with fail
      go_ret
      exact ⟨by rw [← hfin.out]; rfl, rfl⟩

theorem rkept_any (h : RefAt B w b z D) (k : Nat) (hok : D.Ok k) : Calls Try.prog 34 #[.pointer (some ⟨b, 0, none⟩)] w fun e w' => e = .returned (.string (txt (cat D.kept))) ∧ w = w' := by
  have hc := rcrash_any h k hok none 0 [] (fun i hi => absurd hi (Nat.not_lt_zero _)) (by simp)
  rw [crash_none D k hok] at hc
  have HC : Hid (Calls Try.prog 32 #[.pointer (some ⟨b, 0, none⟩), .slice none 0 0] w fun e w' => e = .returned (.string (txt (cat D.kept))) ∧ w = w') := Lib.hid hc
  clear h hc hok
  generalize txt (cat D.kept) = T at *
  go_enter Try.func34, Try.ntmps34
  go_wp2_with fail
  refine HC.out.mono ?_
  rintro e w' ⟨rfl, rfl⟩
  go_wp2_with fail
  go_ret
  exact ⟨rfl, rfl⟩

end Go.Proofs.Ytjoopkdednmllaa
