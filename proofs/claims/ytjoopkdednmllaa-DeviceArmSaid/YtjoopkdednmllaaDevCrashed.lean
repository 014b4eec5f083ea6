/- Devices: Crash, the walk. -/
import Derived.Test.YtjoopkdednmllaaDevCrash
namespace Go.Proofs.Ytjoopkdednmllaa
open Go Go.RowKit
variable {B b : Nat} {w : World} {y : Lay} {D : Dev}

/-- What a crash leaves. -/
def Dev.crash (D : Dev) (keep : List Bool) : List ByteArray := crashTo D (pendTo D.pend D.pend.length) keep (pendTo D.pend D.pend.length).length

theorem natVs_at (l : List Nat) (i : Nat) (h : i < l.length) : (natVs l)[i]? = some (.int .i64 (l.getD i 0 : Nat)) := by simp [natVs, List.getD, h]

theorem own_some {B n : Nat} {T : TypeId} {v : Value} {xs : List Value} {size : Nat} (h : w.ownsRow B T size v n xs) (hn : 0 < n) : ∃ g cap, v = .slice (some ⟨g, 0, none⟩) n cap := by
  rcases h.2 with ⟨_, h0⟩ | ⟨g, cap, cur, rfl, _⟩
  · omega
  · exact ⟨_, _, rfl⟩
theorem own_opens {B n : Nat} {T : TypeId} {v : Value} {xs : List Value} {size : Nat} (h : w.ownsRow B T size v n xs) : ∃ ad cap, v = .slice ad n cap ∧ (0 < n → ∃ g, ad = some ⟨g, 0, none⟩ ∧ B ≤ g) := by
  rcases h.2 with ⟨rfl, hn⟩ | ⟨g, cap, cur, rfl, hg, _⟩
  · subst hn; exact ⟨_, _, rfl, fun h => absurd h (Nat.lt_irrefl _)⟩
  · exact ⟨_, _, rfl, fun _ => ⟨g, rfl, hg⟩⟩

set_option maxHeartbeats 2000000 in
theorem crash_any (h : DevAt B w b y D) (h1 : sized D.kept) (h2 : sized D.now) (ad : Option Addr) (cap : Nat) (keep : List Bool) (hk : BoolsAt w ad keep) (hkl : keep.length ≤ 9223372036854775807) :
    Calls Try.prog 31 #[.pointer (some ⟨b, 0, none⟩), .slice ad keep.length cap] w fun e w' => e = .returned (.string (txt (cat (D.crash keep)))) ∧ Below w.heap.size w w' := by
  have hlen : D.now.length = D.kept.length := by have := h.now.1; simpa [strs] using this
  have hpl : D.pend.length = D.kept.length := by have := h.pend.1; simpa [bools] using this
  have hcl := Try.slices_Clone_string y.gk 0 D.kept.length y.ck D.kept w (Nat.le_refl _) (by have := h.pos; omega) (fun j hj => by
    rw [Nat.zero_add]; exact own_cellAt h.kept (by simp [strs, List.getD, hj, ByteArray.empty, ByteArray.emptyWithCapacity]))
  rw [List.take_length] at hcl
  have HCL := Lib.hid hcl
  have H := Lib.hid h
  have hp := h.pos
  have c0 := h.c0
  have hcr := Lib.hid (crashTo_sized D (pendTo D.pend D.pend.length) keep h1 h2 hlen (fun n hn => by have := pendTo_lt _ _ n hn; omega))
  have hPlt : ∀ n ∈ pendTo D.pend D.pend.length, n < D.kept.length := fun n hn => by have := pendTo_lt _ _ n hn; omega
  have hPl : (pendTo D.pend D.pend.length).length ≤ D.kept.length := by have := pendTo_length D.pend D.pend.length; omega
  unfold Dev.crash
  have hcl0 := fun i => crashTo_length D (pendTo D.pend D.pend.length) keep i
  have hpend := fun w (h : DevAt B w b y D) => pending_any h
  have HK := Lib.hid hk
  clear h hcl hk
  generalize pendTo D.pend D.pend.length = P at *
  go_enter Try.func31, Try.ntmps31
  go_wp2_with fail
  refine HCL.out.mono ?_
  rintro e w1 ⟨v1, rfl, o1, _, hb1⟩
  have H1 := H.out.below hb1
  go_wp2_with fail
  refine (hpend w1 H1).mono ?_
  rintro e w2 ⟨v2, rfl, o2, hb2⟩
  have H2 := Lib.hid (H1.below hb2)
  have K2 := Lib.hid ((HK.out.below hb1).below hb2)
  have B2 := hb1.trans (hb2.mono hb1.size)
  have O1 := Lib.hid (own_below o1 hb2)
  have O2 := Lib.hid o2
  obtain ⟨g1, cap1, rfl⟩ := own_some o1 hp.1
  obtain ⟨ad2, cap2, rfl, had2⟩ := own_opens o2
  have lg1 := (o1.lt g1 rfl)
  have HAD := Lib.hid had2
  have HP := Lib.hid hPlt
  have HL := Lib.hid hlen
  have HB2 := Lib.hid B2
  have hl0 : crashTo D P keep 0 = D.kept := rfl
  have HL0 := Lib.hid hl0
  have HCL0 := Lib.hid hcl0
  clear H1 o1 o2 had2 hPlt hlen B2 hb1 hb2 hl0 hcl0 h1 h2 hpend HCL H2 K2 c0 hpl
  go_wp2_with fail
  go_loopw [18] (fun q wr => ∃ i : Nat, i ≤ P.length ∧ q = .int .i64 i ∧ Hid (wr.ownsRow w.heap.size 9 1 (.slice (some ⟨g1, 0, none⟩) D.kept.length cap1) D.kept.length (strs (crashTo D P keep i))) ∧
    Hid (wr.ownsRow w1.heap.size 3 1 (.slice ad2 P.length cap2) P.length (natVs P)) ∧ Hid (Below w.heap.size w wr)) (fun q _ => P.length - (intOf q).toNat)
  case atStart => exact ⟨0, by omega, rfl, by rw [HL0.out]; exact O1, O2, HB2⟩
  case round =>
    obtain ⟨i, hi, rfl, hr, hq, hbw⟩ := hrel
    by_cases hlt : i < P.length
    · obtain ⟨g2, rfl, hg2⟩ := HAD.out (by omega)
      have z1 := own_cellAt hq.out (natVs_at P i hlt)
      have hqn : P.getD i 0 < D.kept.length := HP.out _ (by simp [List.getD, hlt])
      have hstep : Hid (crashTo D P keep (i + 1) = if keep.getD i false = true then (crashTo D P keep i).set (P.getD i 0) (D.now.getD (P.getD i 0) ⟨#[]⟩) else crashTo D P keep i) := Lib.hid rfl
      have HD := H.out.below hbw.out
      have HKK := HK.out.below hbw.out
      have c1 := HD.c1
      generalize P.getD i 0 = q at *
      have z2 : wr.cell? ⟨y.gn, q, none⟩ = some (.string (D.now.getD q ⟨#[]⟩)) := own_cellAt HD.now (by rw [← HL.out] at hqn; simp [strs, List.getD, hqn])
      have z3 : ∃ u, wr.cell? ⟨g1, q, none⟩ = some u := ⟨_, own_cellAt hr.out (List.getElem?_eq_getElem (by rw [hr.out.1]; omega))⟩
      have z4 := ownsRow_free1 hr.out q
      generalize D.now.getD q ⟨#[]⟩ = t at *
      obtain ⟨u, z3⟩ := z3
      have i0 : (0 : Int) ≤ (i : Int) := by omega
      have i1 : (i : Int) < (P.length : Int) := by omega
      have j0 : (0 : Int) ≤ (q : Int) := by omega
      have j1 : (q : Int) < (D.kept.length : Int) := by omega
      by_cases hik : i < keep.length
      · obtain ⟨g3, off3, rfl, z5⟩ := HKK i hik
        clear HD HKK
        cases hb : keep.getD i false
        · rw [hb] at z5 hstep
          simp only [Bool.false_eq_true, if_false] at hstep
          clear hb
          go_wp2_with fail
          go_roundw
          case rel => exact ⟨i + 1, by omega, by go_num, by rw [hstep.out]; exact hr, hq, hbw⟩
          case measure => simp [intOf]; omega
        · rw [hb] at z5 hstep
          simp only [if_true] at hstep
          clear hb
          go_wp2_with fail
          go_roundw
          case rel =>
            refine ⟨i + 1, by omega, by go_num, ?_, ?_, ?_⟩
            · rw [hstep.out]
              refine Lib.hid ?_
              have := ownsRow_set hr.out q (.string t)
              simpa [strs, List.map_set] using this
            · exact Lib.hid (ownsRow_setCell_other hq.out (by simp [Value.ownBlock]; omega) _)
            · exact Lib.hid (hbw.out.setCell (by dsimp only; omega) _)
          case measure => simp [intOf]; omega
      · have hb : keep.getD i false = false := by simp [List.getD, List.getElem?_eq_none (Nat.not_lt.1 hik)]
        rw [hb] at hstep
        simp only [Bool.false_eq_true, if_false] at hstep
        clear HD HKK hb
        go_wp2_with fail
        go_roundw
        case rel => exact ⟨i + 1, by omega, by go_num, by rw [hstep.out]; exact hr, hq, hbw⟩
        case measure => simp [intOf]; omega
    · obtain rfl : i = P.length := by omega
      have hj := join_any (w := wr) (.slice (some ⟨g1, 0, none⟩) D.kept.length cap1) (crashTo D P keep P.length) g1 cap1 w.heap.size (by rw [HCL0.out]) (by rw [HCL0.out]; exact hr.out) (hcr.out _ (Nat.le_refl _)) (by rw [HCL0.out]; omega)
      have HJ := Lib.hid hj
      clear hj
      obtain ⟨C, hC⟩ : ∃ C, crashTo D P keep P.length = C := ⟨_, rfl⟩
      rw [hC] at HJ
      have HC := Lib.hid hC
      clear hC
      go_wp2_with fail
      refine HJ.out.mono ?_
      rintro e w5 ⟨rfl, hb5⟩
      have B5 := hbw.out.trans (hb5.mono hbw.out.size)
      go_wp2_with fail
      go_ret
      exact ⟨by rw [HC.out]; rfl, B5⟩

end Go.Proofs.Ytjoopkdednmllaa
