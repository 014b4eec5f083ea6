/- Devices: Pending. -/
import Derived.Test.YtjoopkdednmllaaDevWrite
namespace Go.Proofs.Ytjoopkdednmllaa
open Go Go.RowKit
variable {B b : Nat} {w : World} {y : Lay} {D : Dev}

def pendTo (l : List Bool) : Nat → List Nat
  | 0 => []
  | k + 1 => if l.getD k false then pendTo l k ++ [k] else pendTo l k
theorem pendTo_length (l : List Bool) (k : Nat) : (pendTo l k).length ≤ k := by
  induction k with
  | zero => exact Nat.le_refl _
  | succ k ih =>
    show (if l.getD k false = true then pendTo l k ++ [k] else pendTo l k).length ≤ k + 1
    split
    · rw [List.length_append]; simp; exact ih
    · omega
def natVs (l : List Nat) : List Value := l.map fun (n : Nat) => Value.int .i64 (n : Int)

theorem info_int : (Try.prog.info? 3).map (fun i => (i.zero, i.size, i.bytes)) = some (some (.int .i64 0), 1, 8) := by kernel_rfl

set_option maxHeartbeats 1000000 in
theorem pending_any (h : DevAt B w b y D) : Calls Try.prog 23 #[.pointer (some ⟨b, 0, none⟩)] w fun e w' =>
    ∃ v, e = .returned v ∧ w'.ownsRow w.heap.size 3 1 v (pendTo D.pend D.pend.length).length (natVs (pendTo D.pend D.pend.length)) ∧ Below w.heap.size w w' := by
  obtain ⟨i0, hi0, hz0, hz1, hz2⟩ := info_parts info_int
  have c2 := h.c2
  have hlen : D.pend.length = D.kept.length := by have := h.pend.1; simpa [bools] using this
  have hcell : ∀ k, k < D.kept.length → w.cell? ⟨y.gp, k, none⟩ = some (.bool (D.pend.getD k false)) := fun k hk => own_cellAt h.pend (by simp [bools, List.getD, hlen, hk])
  have hgp := (h.pend.lt _ rfl).2
  have hp := h.pos
  have HC := Lib.hid hcell
  rw [hlen]
  clear h hcell hlen
  generalize D.kept.length = n at *
  generalize D.pend = L at *
  go_enter Try.func23, Try.ntmps23
  go_wp2_with fail
  go_loopw [3, 13] (fun v q wr => ∃ (j : Nat) (u : Value), j ≤ n ∧ u = v ∧ q = .int .i64 j ∧ Hid (wr.ownsRow w.heap.size 3 1 u (pendTo L j).length (natVs (pendTo L j))) ∧ Below w.heap.size w wr) (fun _ q _ => n - (intOf q).toNat)
  case atStart => exact ⟨0, _, by omega, rfl, rfl, Lib.hid (World.ownsRow_nil _ _ _ _), Below.refl _ _⟩
  case round =>
    obtain ⟨j, v, hj, rfl, rfl, hg, hbw⟩ := hrel
    by_cases hlt : j < n
    · have hc := (hbw.cell (p := ⟨y.gp, j, none⟩) hgp).trans (HC.out j hlt)
      have i0' : (0 : Int) ≤ (j : Int) := by omega
      have i1 : (j : Int) < (n : Int) := by omega
      have hl := pendTo_length L j
      cases hb : L.getD j false
      · have hr : Hid (pendTo L (j + 1) = pendTo L j) := Lib.hid (by show (if L.getD j false = true then pendTo L j ++ [j] else pendTo L j) = _; rw [hb]; rfl)
        rw [hb] at hc
        clear hb
        go_wp2_with fail
        go_roundw
        case rel => exact ⟨j + 1, _, by omega, rfl, by go_num, by rw [hr.out]; exact hg, hbw⟩
        case measure => simp [intOf]; omega
      · have hr : Hid (pendTo L (j + 1) = pendTo L j ++ [j]) := Lib.hid (by show (if L.getD j false = true then pendTo L j ++ [j] else pendTo L j) = _; rw [hb]; rfl)
        rw [hb] at hc
        clear hb
        generalize pendTo L j = P at *
        have hone : ∀ u ∈ ([.int .i64 (j : Int)] : List Value), u.oneCell' = true := by simp [Value.oneCell']
        go_wp2_with (first
          | (at_builtin; refine wpList_append_own _ rfl _ _ 41 rfl w.heap.size 3 i0 (.int .i64 0) 1 8 Try.underlying41 hi0 hz0 hz1 hz2 rfl (by decide) _ P.length _ rfl (hg.out.alloc _) ⟨wr.heap.size, 0, none⟩ 1 1 [.int .i64 j] rfl rfl
              (World.news_of_block (heap_alloc_new _ _)) hone (by unfold maxLen; omega) (by omega) (by have := hbw.size; simp; omega) ?_))
        intro v' w1 hown hgrow _
        have hW : Below w.heap.size w w1 := (hbw.alloc hbw.size (.cells #[.int .i64 j] 3)).grown hgrow (by have := hbw.size; simp; omega) (fun k hk => (hg.out.lt k hk).1)
        have hG : Hid (w1.ownsRow w.heap.size 3 1 v' (P ++ [j]).length (natVs (P ++ [j]))) := Lib.hid (by
          have e : natVs (P ++ [j]) = natVs P ++ [.int .i64 (j : Int)] := by simp [natVs]
          rw [e, List.length_append]; exact hown)
        clear hown hgrow
        go_wp2_with fail
        go_roundw
        case rel => exact ⟨j + 1, v', by omega, rfl, by go_num, by rw [hr.out]; exact hG, hW⟩
        case measure => simp [intOf]; omega
    · obtain rfl : j = n := by omega
      go_wp2_with fail
      go_ret
      exact ⟨_, rfl, hg.out, hbw⟩

end Go.Proofs.Ytjoopkdednmllaa
