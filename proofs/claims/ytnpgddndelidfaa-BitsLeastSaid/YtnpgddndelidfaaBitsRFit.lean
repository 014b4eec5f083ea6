/- Bitmaps: the reference's Fit, First. -/
import Derived.Test.YtnpgddndelidfaaBitsRFree
namespace Go.Proofs.Ytnpgddndelidfaa
open Go Go.RowKit

theorem RunsAt.open {w : World} {v : Value} {L : List (Nat × Nat)} (h : RunsAt w v (ri L)) : ∃ ad cap, v = .slice ad L.length cap ∧
    ∀ i, (hi : i < L.length) → ∃ b off, ad = some ⟨b, off, none⟩ ∧ w.cell? ⟨b, off + i * 2, none⟩ = some (.int .i64 (L[i].1 : Int)) ∧ w.cell? ⟨b, off + i * 2 + 1, none⟩ = some (.int .i64 (L[i].2 : Int)) := by
  rcases h with ⟨rfl, h0⟩ | ⟨b, off, cap, rfl, hc⟩
  · have : L = [] := by simpa [ri] using h0
    subst this
    exact ⟨none, 0, rfl, fun i hi => by simp at hi⟩
  · refine ⟨_, cap, by rw [ri_length], fun i hi => ⟨b, off, rfl, ?_⟩⟩
    have hat := rcells_at (ri L) i (by rw [ri_length]; exact hi)
    have hgd : (ri L).getD i (0, 0) = ((L[i].1 : Int), (L[i].2 : Int)) := by simp [ri, List.getD, hi]
    rw [hgd] at hat
    exact ⟨hc _ _ hat.1, by have := hc _ _ hat.2; rwa [← Nat.add_assoc] at this⟩

theorem runsTo_bound (l : List UInt8) (k : Nat) : ∀ x ∈ runsTo l k, x.1 + x.2 ≤ k := by
  induction k with
  | zero => intro x hx; simp [runsTo] at hx
  | succ k ih =>
    intro x hx
    simp only [runsTo] at hx
    split at hx
    · have := ih x hx; omega
    · rcases list_snoc (runsTo l k) with h | ⟨p, ⟨s, n⟩, h⟩
      · rw [h] at hx
        simp [grow] at hx
        subst hx; simp
      · rw [h, grow_snoc] at hx
        rw [h] at ih
        split at hx
        · rename_i he
          rcases List.mem_append.1 hx with h1 | h1
          · have := ih x (List.mem_append_left _ h1); omega
          · simp at h1; subst h1; dsimp only; omega
        · simp only [List.mem_append, List.mem_cons, List.not_mem_nil, or_false] at hx
          rcases hx with h1 | h1 | h1
          · have := ih x (List.mem_append_left _ h1); omega
          · subst h1; have := ih (s, n) (by simp); dsimp only at this ⊢; omega
          · subst h1; dsimp only; omega

theorem find_here {α : Type} {p : α → Bool} {l : List α} {i : Nat} (hi : i < l.length) (h : (l.take i).find? p = none) (hp : p l[i] = true) : l.find? p = some l[i] := by
  have e : l = l.take i ++ l[i] :: l.drop (i + 1) := by rw [List.getElem_cons_drop]; exact (List.take_append_drop i l).symm
  have e2 : l.find? p = (l.take i ++ l[i] :: l.drop (i + 1)).find? p := congrArg _ e
  rw [e2, List.find?_append, h, List.find?_cons_of_pos (by simpa using hp)]
  simp
theorem find_on {α : Type} {p : α → Bool} {l : List α} {i : Nat} (hi : i < l.length) (h : (l.take i).find? p = none) (hp : p l[i] = false) : (l.take (i + 1)).find? p = none := by
  rw [List.take_succ_eq_append_getElem hi, List.find?_append, h, List.find?_cons_of_neg (by simp [hp])]
  simp

/-- The answer's row, once it is written. -/
theorem row2_set {w : World} {b : Nat} {T : TypeId} {u0 u1 : Value} (h : Row w b T [u0, u1]) (v0 v1 : Value) : Row ((w.setCell ⟨b, 0, none⟩ v0).setCell ⟨b, 1, none⟩ v1) b T [v0, v1] := (h.set 0 v0).set 1 v1
theorem fit_one {size frm : Int} {L : List (Nat × Nat)} (h1 : ¬ size < 1) (x : Nat × Nat) (h : L.find? (fun x => decide (atOf frm x < (x.1 : Int) + x.2 ∧ size ≤ (x.1 : Int) + x.2 - atOf frm x)) = some x) : fitOf size frm L = ((atOf frm x, size), true) := by
  unfold fitOf; rw [if_neg h1, h]
theorem fit_two {size frm : Int} {L : List (Nat × Nat)} (h1 : ¬ size < 1) (h : L.find? (fun x => decide (atOf frm x < (x.1 : Int) + x.2 ∧ size ≤ (x.1 : Int) + x.2 - atOf frm x)) = none) (x : Nat × Nat) (h2 : L.find? (fun x => decide (size ≤ (x.2 : Int))) = some x) : fitOf size frm L = (((x.1 : Int), size), true) := by
  unfold fitOf; rw [if_neg h1, h]; dsimp only; rw [h2]
theorem fit_none {size frm : Int} {L : List (Nat × Nat)} (h1 : ¬ size < 1) (h : L.find? (fun x => decide (atOf frm x < (x.1 : Int) + x.2 ∧ size ≤ (x.1 : Int) + x.2 - atOf frm x)) = none) (h2 : L.find? (fun x => decide (size ≤ (x.2 : Int))) = none) : fitOf size frm L = ((0, 0), false) := by
  unfold fitOf; rw [if_neg h1, h]; dsimp only; rw [h2]

abbrev good (size frm : Int) (x : Nat × Nat) : Bool := decide (atOf frm x < (x.1 : Int) + x.2 ∧ size ≤ (x.1 : Int) + x.2 - atOf frm x)

set_option maxHeartbeats 2000000 in
theorem rfit_any (s : ByteArray) (n size frm : Int) (hs : s.size ≤ 100000000) (hn : -9223372036854775808 ≤ n ∧ n ≤ 9223372036854775807)
    (hsz : -9223372036854775808 ≤ size ∧ size ≤ 9223372036854775807) (hfr : -9223372036854775808 ≤ frm ∧ frm ≤ 9223372036854775807) (w : World) :
    Calls Try.prog 23 #[.string s, .int .i64 n, .int .i64 size, .int .i64 frm] w fun e w' =>
      e = .returned (.tuple #[runV (fitOf size frm (runsTo s.data.toList (firstN s.data.toList n))).1, .bool (fitOf size frm (runsTo s.data.toList (firstN s.data.toList n))).2]) ∧ Below w.heap.size w w' := by
  by_cases h1 : size < 1
  · have hf : ∀ l, fitOf size frm l = ((0, 0), false) := fun l => by unfold fitOf; rw [if_pos h1]
    have HF := Lib.hid hf
    clear hf
    go_enter Try.func23, Try.ntmps23
    go_wp2_with fail
    refine bodyPost_ret (v := .tuple #[runV (0, 0), .bool false]) ?_ rfl ⟨by rw [HF.out], ?_⟩
    · simp [results, Try.results23, go_sem, runV]
    · exact (Below.refl _ _).alloc (Nat.le_refl _) _
  · have hfree := Lib.hid fun w => rfree_any s n hs hn w
    have hl : (runsTo s.data.toList (firstN s.data.toList n)).length ≤ 1000000000 := by
      have := runsTo_length s.data.toList (firstN s.data.toList n)
      have h2 := firstN_le s.data.toList n; rw [len_bytes] at h2; omega
    have hbd : Hid (∀ x ∈ runsTo s.data.toList (firstN s.data.toList n), x.1 + x.2 ≤ 1000000000) := Lib.hid fun x hx => by
      have := runsTo_bound _ _ x hx
      have h2 := firstN_le s.data.toList n; rw [len_bytes] at h2; omega
    generalize runsTo s.data.toList (firstN s.data.toList n) = L at *
    have hF1 := Lib.hid fun x h => fit_one (frm := frm) (L := L) h1 x h
    have hF2 := Lib.hid fun h x h2 => fit_two (frm := frm) (L := L) h1 h x h2
    have hF3 := Lib.hid fun h h2 => fit_none (frm := frm) (L := L) h1 h h2
    go_enter Try.func23, Try.ntmps23
    go_wp2_with fail
    refine (hfree.out _).mono ?_
    rintro e w1 ⟨v, rfl, hown, hbw⟩
    obtain ⟨ad, cap, rfl, hat⟩ := RunsAt.open hown.at
    have HAT := Lib.hid hat
    have hrow : Row w1 w.heap.size 31 [.int .i64 0, .int .i64 0] := (Row.new w _ [_, _] rfl).below hbw (by simp)
    have HROW := Lib.hid fun k => hrow.drewN k
    have HBW := Lib.hid fun k => ((((Below.refl w.heap.size w).alloc (Nat.le_refl _) _).trans (hbw.mono (by simp))).trans ⟨rfl, rfl, rfl, Nat.le_refl _, fun _ _ => rfl⟩ : Below w.heap.size w (w1.drewN k))
    clear hat hrow hbw hown
    go_wp2_with fail
    go_loopw [11] (fun q wr => ∃ i : Nat, i ≤ L.length ∧ q = .int .i64 i ∧ Hid ((L.take i).find? (good size frm) = none) ∧ Hid (∃ k, wr = w1.drewN k)) (fun q _ => L.length - (intOf q).toNat)
    case atStart => exact ⟨0, by omega, rfl, Lib.hid (by simp), Lib.hid ⟨0, rfl⟩⟩
    case round =>
      obtain ⟨i, hi, rfl, hno, hw⟩ := hrel
      by_cases hlt : i < L.length
      · obtain ⟨b, off, rfl, c1, c2⟩ := HAT.out i hlt
        have hb1 := hbd.out _ (List.getElem_mem hlt)
        have hhere := Lib.hid (fun h => find_here (p := good size frm) hlt hno.out h)
        have hon := Lib.hid (fun h => find_on (p := good size frm) hlt hno.out h)
        have hgd : good size frm L[i] = decide (atOf frm L[i] < (L[i].1 : Int) + L[i].2 ∧ size ≤ (L[i].1 : Int) + L[i].2 - atOf frm L[i]) := rfl
        generalize L[i] = x at *
        obtain ⟨x1, x2⟩ := x
        dsimp only at c1 c2 hgd hb1
        obtain ⟨a, hm⟩ : ∃ a, (if frm > (x1 : Int) then frm else (x1 : Int)) = a := ⟨_, rfl⟩
        have hata : Hid (atOf frm (x1, x2) = a) := Lib.hid hm
        rw [hata.out] at hgd
        have ha1 : (x1 : Int) ≤ a := by rw [← hm]; split <;> omega
        have ha2 : a ≤ 9223372036854775807 := by rw [← hm]; split <;> omega
        have g1 : IntKind.i64.wrap ((x1 : Int) + x2) = (x1 : Int) + x2 := IntWalk.i64_in _ (by omega)
        have i0 : (0 : Int) ≤ (i : Int) := by omega
        have i1 : (i : Int) < (L.length : Int) := by omega
        obtain ⟨k, hk⟩ := hw.out
        have e1 : wr.cell? = w1.cell? := by rw [hk]; rfl
        rw [← e1] at c1 c2
        by_cases hA : a < (x1 : Int) + x2
        · have g2 : IntKind.i64.wrap ((x1 : Int) + x2 - a) = (x1 : Int) + x2 - a := IntWalk.i64_in _ (by omega)
          by_cases hB : size ≤ (x1 : Int) + x2 - a
          · have hF : Hid (fitOf size frm L = ((a, size), true)) := Lib.hid (by
              rw [hF1.out _ (hhere.out (by rw [hgd]; simpa using ⟨hA, hB⟩)), hata.out])
            have hr : Row wr w.heap.size 31 [.int .i64 0, .int .i64 0] := by rw [hk]; exact HROW.out k
            have hbb : Below w.heap.size w wr := by rw [hk]; exact HBW.out k
            have z1 := hr.cellAt 0 rfl
            have z2 := hr.cellAt 1 rfl
            have z3 := hr.free 0 (by simp)
            have z4 := hr.free 1 (by simp)
            have HR := Lib.hid hr
            have HB := Lib.hid hbb
            clear hk e1 hgd hr hbb
            go_wp2_with fail
            go_quiet (fail)
            go_wp2_with fail
            have p3 := row2_set (HR.out.drewN nq) (.int .i64 a) (.int .i64 size)
            have d3a := p3.cellAt 0 rfl
            have d3b := p3.cellAt 1 rfl
            refine bodyPost_ret (v := .tuple #[runV (a, size), .bool true]) ?_ rfl ⟨by rw [hF.out], ?_⟩
            · simp [results, Try.results23, go_sem, runV, d3a, d3b]
            · exact ((HB.out.trans ⟨rfl, rfl, rfl, Nat.le_refl _, fun _ _ => rfl⟩ : Below w.heap.size w (wr.drewN nq)).setCell (Nat.le_refl _) _).setCell (Nat.le_refl _) _
          · have hno2 := Lib.hid (hon.out (by rw [hgd]; simp only [decide_eq_false_iff_not]; omega))
            have HK : Hid (∃ k, wr = w1.drewN k) := hw
            clear hk e1 hgd hata hhere hon
            go_wp2_with fail
            go_quiet (fail)
            go_wp2_with fail
            go_roundw
            case rel => exact ⟨i + 1, by omega, by go_num, hno2, Lib.hid (by obtain ⟨k, rfl⟩ := HK.out; exact ⟨k + nq, World.drewN_drewN _ _ _⟩)⟩
            case measure => simp [intOf]; omega
        · have hno2 := Lib.hid (hon.out (by rw [hgd]; simp only [decide_eq_false_iff_not]; omega))
          have HK : Hid (∃ k, wr = w1.drewN k) := hw
          have hA2 : decide (a < (x1 : Int) + x2) = false := by rw [decide_eq_false_iff_not]; exact hA
          clear hk e1 hgd hata hhere hon
          go_wp2_with fail
          go_quiet (fail)
          go_wp2_with fail
          go_roundw
          case rel => exact ⟨i + 1, by omega, by go_num, hno2, Lib.hid (by obtain ⟨k, rfl⟩ := HK.out; exact ⟨k + nq, World.drewN_drewN _ _ _⟩)⟩
          case measure => simp [intOf]; omega
      · have hnone : Hid (L.find? (good size frm) = none) := Lib.hid (by have := hno.out; rwa [List.take_of_length_le (by omega)] at this)
        have HK : Hid (∃ k, wr = w1.drewN k) := hw
        clear hno hF1
        go_wp2_with fail
        go_loop [13] (fun q => ∃ i : Nat, i ≤ L.length ∧ q = .int .i64 i ∧ Hid ((L.take i).find? (fun x => decide (size ≤ (x.2 : Int))) = none)) (fun q => L.length - (intOf q).toNat)
        case atStart => exact ⟨0, by omega, rfl, Lib.hid (by simp)⟩
        case round =>
          obtain ⟨k2, hk⟩ := HK.out
          obtain ⟨i, hi, rfl, hno⟩ := hrel
          have hr : Row wr w.heap.size 31 [.int .i64 0, .int .i64 0] := by rw [hk]; exact HROW.out k2
          have hbb : Below w.heap.size w wr := by rw [hk]; exact HBW.out k2
          have z1 := hr.cellAt 0 rfl
          have z2 := hr.cellAt 1 rfl
          have z3 := hr.free 0 (by simp)
          have z4 := hr.free 1 (by simp)
          have HR := Lib.hid hr
          have HB := Lib.hid hbb
          have e1 : wr.cell? = w1.cell? := by rw [hk]; rfl
          by_cases hlt : i < L.length
          · obtain ⟨b, off, rfl, c1, c2⟩ := HAT.out i hlt
            have hb1 := hbd.out _ (List.getElem_mem hlt)
            have hhere := Lib.hid (fun h => find_here (p := fun x => decide (size ≤ (x.2 : Int))) hlt hno.out h)
            have hon := Lib.hid (fun h => find_on (p := fun x => decide (size ≤ (x.2 : Int))) hlt hno.out h)
            generalize L[i] = x at *
            obtain ⟨x1, x2⟩ := x
            dsimp only at c1 c2 hb1
            have i0 : (0 : Int) ≤ (i : Int) := by omega
            have i1 : (i : Int) < (L.length : Int) := by omega
            rw [← e1] at c1 c2
            by_cases hB : size ≤ (x2 : Int)
            · have hF : Hid (fitOf size frm L = (((x1 : Int), size), true)) := Lib.hid (hF2.out hnone.out _ (hhere.out (by simpa using hB)))
              clear hk e1 hr hbb
              go_wp2_with fail
              have p3 := row2_set HR.out (.int .i64 x1) (.int .i64 size)
              have d3a := p3.cellAt 0 rfl
              have d3b := p3.cellAt 1 rfl
              refine bodyPost_ret (v := .tuple #[runV ((x1 : Int), size), .bool true]) ?_ rfl ⟨by rw [hF.out], ?_⟩
              · simp [results, Try.results23, go_sem, runV, d3a, d3b]
              · exact (HB.out.setCell (Nat.le_refl _) _).setCell (Nat.le_refl _) _
            · have hno2 := Lib.hid (hon.out (by simp only [decide_eq_false_iff_not]; omega))
              clear hk e1 hr hbb
              go_wp2_with fail
              go_round
              case rel => exact ⟨i + 1, by omega, by go_num, hno2⟩
              case measure => simp [intOf]; omega
          · have hF : Hid (fitOf size frm L = ((0, 0), false)) := Lib.hid (hF3.out hnone.out (by have := hno.out; rwa [List.take_of_length_le (by omega)] at this))
            clear hk e1 hr hbb
            go_wp2_with fail
            have p3 := row2_set HR.out (.int .i64 0) (.int .i64 0)
            have d3a := p3.cellAt 0 rfl
            have d3b := p3.cellAt 1 rfl
            refine bodyPost_ret (v := .tuple #[runV (0, 0), .bool false]) ?_ rfl ⟨by rw [hF.out], ?_⟩
            · simp [results, Try.results23, go_sem, runV, d3a, d3b]
            · exact (HB.out.setCell (Nat.le_refl _) _).setCell (Nat.le_refl _) _

set_option maxHeartbeats 1000000 in
theorem rfind_any (s : ByteArray) (n frm : Int) (hs : s.size ≤ 100000000) (hn : -9223372036854775808 ≤ n ∧ n ≤ 9223372036854775807)
    (hfr : -9223372036854775808 ≤ frm ∧ frm ≤ 9223372036854775807) (w : World) :
    Calls Try.prog 21 #[.string s, .int .i64 n, .int .i64 frm] w fun e w' =>
      e = .returned (.tuple #[.int .i64 (fitOf 1 frm (runsTo s.data.toList (firstN s.data.toList n))).1.1, .bool (fitOf 1 frm (runsTo s.data.toList (firstN s.data.toList n))).2]) ∧ Below w.heap.size w w' := by
  have hf := Lib.hid (rfit_any s n 1 frm hs hn (by omega) hfr w)
  clear hn hfr
  generalize fitOf 1 frm (runsTo s.data.toList (firstN s.data.toList n)) = F at *
  obtain ⟨⟨o1, o2⟩, ok⟩ := F
  go_enter Try.func21, Try.ntmps21
  go_wp2_with fail
  refine hf.out.mono ?_
  rintro e w2 ⟨rfl, hb⟩
  have HB := Lib.hid hb
  clear hb
  simp only [runV]
  go_wp2_with fail
  refine bodyPost_ret (v := .tuple #[.int .i64 o1, .bool ok]) (by simp [results, Try.results21, go_sem]) rfl ⟨rfl, HB.out.alloc HB.out.size _⟩

end Go.Proofs.Ytnpgddndelidfaa
