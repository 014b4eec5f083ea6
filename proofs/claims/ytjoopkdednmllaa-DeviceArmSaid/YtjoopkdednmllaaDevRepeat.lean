/- slices.Repeat of one string. -/
import Derived.Test.YtjoopkdednmllaaDevMade
import Derived.Deep.RegionLaw
namespace Go.Proofs.Ytjoopkdednmllaa
open Go Go.RowKit
variable {B b : Nat} {w : World} {y : Lay} {D : Dev}

def repTo (s : ByteArray) (n k : Nat) : List Value := List.replicate k (.string s) ++ List.replicate (n - k) (.string ⟨#[]⟩)
theorem repTo_length (s : ByteArray) (n k : Nat) (h : k ≤ n) : (repTo s n k).length = n := by simp [repTo]; omega
theorem repTo_zero (s : ByteArray) (n : Nat) : repTo s n 0 = List.replicate n (.string ⟨#[]⟩) := by simp [repTo]
theorem repTo_splice (s : ByteArray) (n k m : Nat) (h : k + m ≤ n) : splice (repTo s n k) k (List.replicate m (.string s)) = repTo s n (k + m) := by
  unfold splice repTo
  rw [List.take_left' (by simp), List.length_replicate, List.drop_append, List.drop_replicate, List.length_replicate, List.drop_replicate, ← List.append_assoc, ← List.append_assoc, List.replicate_append_replicate]
  rw [show k - (k + m) = 0 by omega, show k + m - k = m by omega, show n - k - m = n - (k + m) by omega]
  simp
theorem repTo_at (s : ByteArray) (n k j : Nat) (h : j < k) : (repTo s n k)[j]? = some (.string s) := by
  unfold repTo
  rw [List.getElem?_append_left (by simpa using h)]
  simp [h]

theorem info_string : (Try.prog.info? 9).map (fun i => (i.zero, i.size, i.bytes)) = some (some (.string ⟨#[]⟩), 1, 16) := by kernel_rfl

set_option maxHeartbeats 1000000 in
theorem repeat_any (s : ByteArray) (n g c : Nat) (hg : w.cell? ⟨g, 0, none⟩ = some (.string s)) (hn : 1 ≤ n ∧ n ≤ 4096) :
    Calls Try.prog 41 #[.slice (some ⟨g, 0, none⟩) 1 c, .int .i64 n] w fun e w' => ∃ g2, e = .returned (.slice (some ⟨g2, 0, none⟩) n n) ∧ w'.ownsRow w.heap.size 9 1 (.slice (some ⟨g2, 0, none⟩) n n) n (strs (List.replicate n s)) ∧ Below w.heap.size w w' := by
  have hmul : Hid (∀ w, Calls Try.prog 49 #[.int .u64 1, .int .u64 (n : Int)] w fun e w' => e = .returned (.tuple #[.int .u64 0, .int .u64 (n : Int)]) ∧ w' = w) := Lib.hid (fun w => by
    have := Try.bits_Mul 1 n (by decide) (by omega) w
    rwa [show 1 * n / 18446744073709551616 = 0 by omega, show 1 * n % 18446744073709551616 = n by omega] at this)
  obtain ⟨ib, hib, hzb, hsb, hbb⟩ := info_parts info_string
  have hmk : ∀ wx : World, (Instr.makeSlice 45 (.int .i64 (n : Int)) (.int .i64 (n : Int))).run Try.prog wx = .ok (.slice (some ⟨wx.heap.size, 0, none⟩) n n) (wx.alloc (.cells (repTo s n 0).toArray 9)) := fun wx => by
    have hr := run_make (P := Try.prog) wx 45 9 ib (.string ⟨#[]⟩) Try.underlying45 hib hzb .i64 .i64 n n (by omega) (by omega) (by rw [hbb]; omega) (by omega)
    rw [repTo_zero]
    simpa [hsb, Value.cells, madeCells_one] using hr
  go_enter Try.func41, Try.ntmps41
  go_wp2_with fail
  refine (hmul.out _).mono ?_
  rintro e w' ⟨rfl, rfl⟩
  have q1 : ([.string s] : List Value).length = Nat.min 1 n := by simp only [List.length_singleton, Nat.min_def]; split <;> omega
  have q2 : 0 + ([.string s] : List Value).length ≤ (repTo s n 0).length := by rw [repTo_length _ _ _ (Nat.zero_le n), List.length_singleton]; omega
  have q3 : ∀ v ∈ ([.string s] : List Value), v.oneCell' = true := by simp [Value.oneCell']
  have q4 : Below w'.heap.size w' (w'.alloc (.cells (repTo s n 0).toArray 9)) := (Below.refl _ _).alloc (Nat.le_refl _) _
  have q5 : ∀ j v, ([.string s] : List Value)[j]? = some v → (w'.alloc (.cells (repTo s n 0).toArray 9)).cell? ((⟨g, 0, none⟩ : Addr).add j) = some v := fun j v hj => by
    cases j with
    | zero => simp at hj; subst hj; exact (q4.cell (p := ⟨g, 0, none⟩) (World.block_lt_of_cell? _ _ hg)).trans hg
    | succ j => simp at hj
  go_wp2_with (first
    | (refine wpList_copy_splice rfl (.tmp 31) (.tmp 32) 45 45 rfl 9 Try.underlying45 (by kernel_rfl) (some ⟨w'.heap.size, 0, none⟩) (some ⟨g, 0, none⟩) n n 1 c rfl rfl w'.heap.size 0 (repTo s n 0) 9 (heap_alloc_new w' _) [.string s] q1 (fun _ => ⟨rfl, ⟨g, 0, none⟩, rfl, q5⟩) q2 q3 w'.heap.size w' q4 (Nat.le_refl _) ?_))
  intro w1 hg1 hb1
  have hg2 : Hid (w1.heap[w'.heap.size]? = some (.cells (repTo s n 1).toArray 9 (0, 0))) := Lib.hid (by
    have := repTo_splice s n 0 1 (by omega)
    rw [List.replicate_one] at this
    rw [← this]; exact hg1.out)
  clear hg1 hg hmul hmk
  have HB1 := Lib.hid hb1
  clear hb1
  go_wp2_with fail
  go_loopw [8] (fun q wr => ∃ k : Nat, 1 ≤ k ∧ k ≤ n ∧ q = .int .i64 k ∧ Hid (wr.heap[w'.heap.size]? = some (.cells (repTo s n k).toArray 9 (0, 0))) ∧ Hid (Below w'.heap.size w' wr)) (fun q _ => n - (intOf q).toNat)
  case atStart => exact ⟨1, by omega, by omega, rfl, hg2, HB1⟩
  case round =>
    obtain ⟨k, h1, h2, rfl, hr, hbw⟩ := hrel
    by_cases hlt : k < n
    · have i1 : (k : Int) < (n : Int) := by omega
      have hlen := repTo_length s n k h2
      obtain ⟨m, hm, hm1, hm2, hm3⟩ : ∃ m, m = Nat.min k (n - k) ∧ 1 ≤ m ∧ m ≤ k ∧ m ≤ n - k := ⟨_, rfl, by simp only [Nat.min_def]; split <;> omega, by simp only [Nat.min_def]; split <;> omega, by simp only [Nat.min_def]; split <;> omega⟩
      have r1 : (List.replicate m (Value.string s)).length = m := List.length_replicate
      have r3 : ∀ v ∈ List.replicate m (Value.string s), v.oneCell' = true := by intro v hv; rw [(List.mem_replicate.1 hv).2]; rfl
      have r5 : ∀ j v, (List.replicate m (Value.string s))[j]? = some v → wr.drew.cell? ((⟨w'.heap.size, 0, none⟩ : Addr).add j) = some v := fun j v hj => by
        have hj2 : j < m := by have := List.getElem?_eq_some_iff.1 hj; obtain ⟨h, _⟩ := this; rwa [r1] at h
        have e1 : (⟨w'.heap.size, 0, none⟩ : Addr).add j = ⟨w'.heap.size, j, none⟩ := by unfold Addr.add; split <;> simp_all
        rw [e1, cell_of_row wr.drew w'.heap.size j _ _ _ hr.out]
        have := repTo_at s n k j (by omega)
        have e2 : v = .string s := by
          obtain ⟨h, e⟩ := List.getElem?_eq_some_iff.1 hj; rw [← e]; simp
        rw [e2]; simpa using this
      have hnk : ¬ n = k := by omega
      have hwm : IntKind.i64.wrap ((k : Int) + (m : Int)) = ((k + m : Nat) : Int) := by rw [IntKind.wrap_i64]; omega
      have HM := Lib.hid hm
      have R5 := Lib.hid r5
      have R3 := Lib.hid r3
      have R1 := Lib.hid r1
      have hsp := Lib.hid (repTo_splice s n k m (by omega))
      have HN := Lib.hid hn
      clear hm r1 r3 r5 q1 q2 q3 q4 q5
      generalize List.replicate m (Value.string s) = CS at *
      go_wp2_with fail
      go_region_law (refine step_copy_splice rfl (.tmp 41) (.tmp 44) 45 45 rfl 9 Try.underlying45 (by kernel_rfl) (some ⟨w'.heap.size, k, none⟩) (some ⟨w'.heap.size, 0, none⟩) (n - k) (n - k) k n (by simp [Act.eval, Act.put, hnk]; done) (by simp [Act.eval, Act.put, hnk]; done) w'.heap.size k (repTo s n k) 9 hr.out CS (by rw [R1.out]; exact HM.out) (fun _ => ⟨rfl, ⟨w'.heap.size, 0, none⟩, rfl, R5.out⟩) (by rw [R1.out, hlen]; omega) R3.out w'.heap.size w' hbw.out.drew (Nat.le_refl _) ?_; intro w4 hg4 hb4; rw [R1.out])
      go_simp
      go_roundw
      case rel => exact ⟨_, _, _, _, _, _, _, _, _, _, _, _, _, _, ⟨k + m, by omega, by omega, rfl, by rw [← hsp.out]; exact hg4, Lib.hid hb4⟩, rfl⟩
      case measure => simp [intOf]; omega
    · obtain rfl : k = n := by omega
      go_wp2_with fail
      go_ret
      have hrow : (strs (List.replicate k s)) = repTo s k k := by simp [strs, repTo]
      exact ⟨w'.heap.size, rfl, ⟨by simp [strs], .inr ⟨_, _, _, rfl, Nat.le_refl _, hr.out, Nat.le_refl _, by unfold maxLen; omega, by simp [repTo], by rw [hrow]; simp [repTo]⟩⟩, hbw.out⟩

end Go.Proofs.Ytjoopkdednmllaa
