/- Laws of caches: in. -/
import Derived.Test.YtlickjaopbcanaaCacheD
namespace Go.Proofs.Ytlickjaopbcanaa
open Go Go.RowKit Bufs
variable {w : World}
def notIn (l : List Int) (n : Int) (j : Nat) : Prop := ∀ i, i < j → l.getD i 0 ≠ n
set_option maxRecDepth 100000 in
set_option maxHeartbeats 1000000 in
theorem in_any (ad : Option Addr) (cap : Nat) (l : List Int) (n : Int) (h : IntsIn w ad l) (hl : l.length ≤ 9223372036854775807) : Calls Try.prog 29 #[.slice ad l.length cap, .int .i64 n] w fun e w' => e = .returned (.bool (decide (n ∈ l))) ∧ w = w' := by
  obtain ⟨r, hr⟩ : ∃ r, decide (n ∈ l) = r := ⟨_, rfl⟩
  rw [hr]
  have HR := Lib.hid hr
  have H := Lib.hid h
  clear hr h
  go_enter Try.func29, Try.ntmps29
  go_wp2_with fail
  go_loop [5] (fun q => ∃ (j : Nat), j ≤ l.length ∧ q = .int .i64 j ∧ Hid (notIn l n j)) (fun q => l.length - (intOf q).toNat)
  case atStart => exact ⟨0, by omega, rfl, Lib.hid (fun i hi => absurd hi (Nat.not_lt_zero _))⟩
  case round =>
    obtain ⟨j, hj, rfl, hs⟩ := hrel
    by_cases hlt : j < l.length
    · have i1 : (j : Int) < (l.length : Int) := by omega
      have i0 : (0 : Int) ≤ (j : Int) := by omega
      obtain ⟨g, off, rfl, k1⟩ := H.out j hlt
      by_cases he : l.getD j 0 = n
      · obtain rfl : r = true := HR.out.symm.trans (decide_eq_true (by
          have : l.getD j 0 = l[j] := by simp [List.getD, hlt]
          rw [← he, this]
          exact List.getElem_mem hlt))
        rw [he] at k1
        clear he
        go_wp2_with fail
        go_ret
        exact ⟨rfl, rfl⟩
      · have hs' : Hid (notIn l n (j + 1)) := Lib.hid (fun i hi => by
          rcases Nat.lt_or_ge i j with h | h
          · exact hs.out i h
          · obtain rfl : i = j := by omega
            exact he)
        have he2 : (l.getD j 0 == n) = false := by rw [beq_eq_false_iff_ne]; exact he
        generalize l.getD j 0 = v at *
        go_wp2_with fail
        go_round
        case rel => exact ⟨j + 1, by omega, by go_num, hs'⟩
        case measure => simp [intOf]; omega
    · obtain rfl : j = l.length := by omega
      obtain rfl : r = false := HR.out.symm.trans (decide_eq_false (fun hm => by
        obtain ⟨i, hi, e⟩ := List.getElem_of_mem hm
        refine hs.out i hi ?_
        simp [List.getD, hi, e]))
      go_wp2_with fail
      go_ret
      exact ⟨rfl, rfl⟩
/-- Is a block among those of a list of one's own? -/
theorem in_head {B : Nat} {v : Value} {l : List Nat} (h : HeadAt w B v l) (hl : l.length ≤ 5000) (n : Int) : Calls Try.prog 29 #[v, .int .i64 n] w fun e w' => e = .returned (.bool (decide (n ∈ l.map fun (n : Nat) => (n : Int)))) ∧ w = w' := by
  obtain ⟨ad, c, rfl, hi⟩ := h.form
  have := in_any ad c _ n hi (by rw [List.length_map]; omega)
  rw [List.length_map] at this
  exact this

end Go.Proofs.Ytlickjaopbcanaa
