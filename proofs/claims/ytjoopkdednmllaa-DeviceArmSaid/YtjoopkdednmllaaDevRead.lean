/- Devices: Read, Arm. -/
import Derived.Test.YtjoopkdednmllaaDevAct
namespace Go.Proofs.Ytjoopkdednmllaa
open Go Go.RowKit
variable {B b : Nat} {w : World} {y : Lay} {D : Dev}

theorem own_cellAt {B n g cap : Nat} {T : TypeId} {xs : List Value} (h : w.ownsRow B T 1 (.slice (some ⟨g, 0, none⟩) n cap) n xs) {j : Nat} {u : Value} (hu : xs[j]? = some u) : w.cell? ⟨g, j, none⟩ = some u := by
  have := h.cells rfl j u hu
  have hadd : (⟨g, 0, none⟩ : Addr).add j = ⟨g, j, none⟩ := by unfold Addr.add; split <;> simp_all
  rwa [hadd] at this

def Dev.readS (D : Dev) (i : Int) : ByteArray := if i < 0 ∨ (D.kept.length : Int) ≤ i then ⟨#[]⟩ else D.now.getD i.toNat ⟨#[]⟩

theorem read_any (h : DevAt B w b y D) (i : Int) : Calls Try.prog 21 #[.pointer (some ⟨b, 0, none⟩), .int .i64 i] w fun e w' => e = .returned (.tuple #[.string (D.readS i), .int .i64 (D.ask i)]) ∧ w = w' := by
  have ha := ask_any h i
  unfold Dev.readS
  by_cases hi : i < 0 ∨ (D.kept.length : Int) ≤ i
  · have hk : D.ask i = 60 := by unfold Dev.ask; rw [if_pos hi]
    rw [hk] at ha ⊢
    rw [if_pos hi]
    have HA := Lib.hid ha
    clear h ha hi hk
    go_enter Try.func21, Try.ntmps21
    go_wp2_with fail
    refine HA.out.mono ?_
    rintro e w' ⟨rfl, rfl⟩
    go_wp2_with fail
    exact bodyPost_ret (v := .tuple #[.string ⟨#[]⟩, .int .i64 60]) (by simp [results, Try.results21, go_sem]) rfl ⟨rfl, rfl⟩
  · have hk : D.ask i = 0 := by unfold Dev.ask; rw [if_neg hi]
    rw [hk] at ha ⊢
    rw [if_neg hi]
    obtain ⟨k, rfl⟩ := Int.eq_ofNat_of_zero_le (show 0 ≤ i by omega)
    have HA := Lib.hid ha
    have c1 := h.c1
    have hlen : D.now.length = D.kept.length := by have := h.now.1; simpa [strs] using this
    have hkl : k < D.kept.length := by omega
    have hc : w.cell? ⟨y.gn, k, none⟩ = some (.string (D.now.getD k ⟨#[]⟩)) := own_cellAt h.now (by simp [strs, List.getD, hlen, hkl])
    have hp := h.pos
    rw [show ((k : Int)).toNat = k from rfl]
    generalize D.now.getD k ⟨#[]⟩ = t at *
    have i0 : (0 : Int) ≤ (k : Int) := by omega
    have i1 : (k : Int) < (D.kept.length : Int) := by omega
    clear h ha hi hk hlen
    generalize D.kept.length = n at *
    go_enter Try.func21, Try.ntmps21
    go_wp2_with fail
    refine HA.out.mono ?_
    rintro e w' ⟨rfl, rfl⟩
    go_wp2_with fail
    exact bodyPost_ret (v := .tuple #[.string t, .int .i64 0]) (by simp [results, Try.results21, go_sem]) rfl ⟨rfl, rfl⟩

def Dev.arm (D : Dev) (n : Int) : Dev := { D with armed := decide (0 ≤ n), left := n }
theorem DevAt.arm (h : DevAt B w b y D) (n : Int) (hn : -9223372036854775808 ≤ n ∧ n ≤ 9223372036854775807) : DevAt B ((w.setCell ⟨b, 3, none⟩ (.bool (decide (0 ≤ n)))).setCell ⟨b, 4, none⟩ (.int .i64 n)) b y (D.arm n) := by
  have h1 : DevAt B (w.setCell ⟨b, 3, none⟩ (.bool (decide (0 ≤ n)))) b y { D with armed := decide (0 ≤ n) } := h.field 3 _ _ rfl rfl rfl (h.cells.set 3 _) h.left h.acts
  exact h1.field 4 _ _ rfl rfl rfl (h1.cells.set 4 _) hn h.acts

theorem arm_any (h : DevAt B w b y D) (n : Int) (hn : -9223372036854775808 ≤ n ∧ n ≤ 9223372036854775807) : Calls Try.prog 19 #[.pointer (some ⟨b, 0, none⟩), .int .i64 n] w fun e w' => e = .returned (.tuple #[]) ∧ DevAt B w' b y (D.arm n) ∧ Only [b] w w' := by
  have hb := Lib.hid (blocks_any h)
  have HA := Lib.hid (h.arm n hn)
  have hp := h.pos
  have f3 := h.cells.free 3 (by simp)
  have f4 := h.cells.free 4 (by simp)
  have c3 := h.c3
  have c4 := h.c4
  clear h
  generalize D.arm n = D2 at *
  generalize D.kept.length = m at *
  go_enter Try.func19, Try.ntmps19
  go_wp2_with fail
  refine hb.out.mono ?_
  rintro e w' ⟨rfl, rfl⟩
  go_wp2_with fail
  go_end0
  exact ⟨rfl, HA.out, (Only.setCell _ _ _ (by simp)).trans (Only.setCell _ _ _ (by simp))⟩

end Go.Proofs.Ytjoopkdednmllaa
