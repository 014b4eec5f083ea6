/- The document's device in memory; its small methods. It is told by the same data as the program's. -/
import Derived.Test.YtjoopkdednmllaaDevCrashMath
namespace Go.Proofs.Ytjoopkdednmllaa
open Go Go.RowKit

structure RLay where
  gn : Nat
  cn : Nat
  gw : Nat
  cw : Nat
  gp : Nat
  cp : Nat

/-- How many acts are done yet, as the document counts. -/
def Dev.rleft (D : Dev) : Int := if D.armed = true then (if D.left ≤ 0 then 0 else D.left) else -1

structure RefAt (B : Nat) (w : World) (b : Nat) (z : RLay) (D : Dev) : Prop where
  own : B ≤ b
  cells : Row w b 47 [.slice (some ⟨z.gn, 0, none⟩) D.kept.length z.cn, .slice (some ⟨z.gw, 0, none⟩) D.kept.length z.cw, .slice (some ⟨z.gp, 0, none⟩) D.kept.length z.cp, .int .i64 D.rleft, .int .i64 D.acts]
  now : w.ownsRow B 9 1 (.slice (some ⟨z.gn, 0, none⟩) D.kept.length z.cn) D.kept.length (strs D.now)
  was : w.ownsRow B 9 1 (.slice (some ⟨z.gw, 0, none⟩) D.kept.length z.cw) D.kept.length (strs D.kept)
  pend : w.ownsRow B 4 1 (.slice (some ⟨z.gp, 0, none⟩) D.kept.length z.cp) D.kept.length (bools D.pend)
  ne : b ≠ z.gn ∧ b ≠ z.gw ∧ b ≠ z.gp ∧ z.gn ≠ z.gw ∧ z.gn ≠ z.gp ∧ z.gw ≠ z.gp
  pos : 0 < D.kept.length ∧ D.kept.length ≤ 4096
  left : -9223372036854775808 ≤ D.left ∧ D.left ≤ 9223372036854775807
  acts : 0 ≤ D.acts ∧ D.acts ≤ 1000000000000

variable {B b : Nat} {w : World} {z : RLay} {D : Dev}
theorem RefAt.c0 (h : RefAt B w b z D) : w.cell? ⟨b, 0, none⟩ = some (.slice (some ⟨z.gn, 0, none⟩) D.kept.length z.cn) := h.cells.cellAt 0 rfl
theorem RefAt.c1 (h : RefAt B w b z D) : w.cell? ⟨b, 1, none⟩ = some (.slice (some ⟨z.gw, 0, none⟩) D.kept.length z.cw) := h.cells.cellAt 1 rfl
theorem RefAt.c2 (h : RefAt B w b z D) : w.cell? ⟨b, 2, none⟩ = some (.slice (some ⟨z.gp, 0, none⟩) D.kept.length z.cp) := h.cells.cellAt 2 rfl
theorem RefAt.c3 (h : RefAt B w b z D) : w.cell? ⟨b, 3, none⟩ = some (.int .i64 D.rleft) := h.cells.cellAt 3 rfl
theorem RefAt.c4 (h : RefAt B w b z D) : w.cell? ⟨b, 4, none⟩ = some (.int .i64 D.acts) := h.cells.cellAt 4 rfl
theorem RefAt.below {w' : World} (h : RefAt B w b z D) (hb : Below w.heap.size w w') : RefAt B w' b z D :=
  ⟨h.own, h.cells.below hb h.cells.lt, own_below h.now hb, own_below h.was hb, own_below h.pend hb, h.ne, h.pos, h.left, h.acts⟩
theorem RefAt.bounds (h : RefAt B w b z D) : (B ≤ b ∧ b < w.heap.size) ∧ (B ≤ z.gn ∧ z.gn < w.heap.size) ∧ (B ≤ z.gw ∧ z.gw < w.heap.size) ∧ (B ≤ z.gp ∧ z.gp < w.heap.size) :=
  ⟨⟨h.own, h.cells.lt⟩, h.now.lt _ rfl, h.was.lt _ rfl, h.pend.lt _ rfl⟩
theorem rleft_in (D : Dev) (h : -9223372036854775808 ≤ D.left ∧ D.left ≤ 9223372036854775807) : -1 ≤ D.rleft ∧ D.rleft ≤ 9223372036854775807 := by
  unfold Dev.rleft
  split
  · split <;> omega
  · omega
theorem rleft_dead (D : Dev) : (D.rleft = 0 ↔ D.dead = true) := by
  unfold Dev.rleft Dev.dead
  cases D.armed
  · simp
  · simp only [if_true, Bool.true_and, decide_eq_true_eq]
    split <;> omega

theorem rblocks_any (h : RefAt B w b z D) : Calls Try.prog 30 #[.pointer (some ⟨b, 0, none⟩)] w fun e w' => e = .returned (.int .i64 D.kept.length) ∧ w = w' := by
  have c0 := h.c0
  have hp := h.pos
  clear h
  go_enter Try.func30, Try.ntmps30
  go_wp2_with fail
  go_ret
  exact ⟨rfl, rfl⟩

theorem rdead_any (h : RefAt B w b z D) : Calls Try.prog 27 #[.pointer (some ⟨b, 0, none⟩)] w fun e w' => e = .returned (.bool D.dead) ∧ w = w' := by
  have c3 := h.c3
  have hl := rleft_in D h.left
  have hd := rleft_dead D
  clear h
  generalize D.rleft = r at *
  cases hdd : D.dead
  · have h0 : ¬ r = 0 := by rw [hd, hdd]; decide
    clear hd hdd
    go_enter Try.func27, Try.ntmps27
    go_wp2_with fail
    go_ret
    exact ⟨by simp [h0], rfl⟩
  · obtain rfl : r = 0 := hd.2 hdd
    clear hd hdd
    go_enter Try.func27, Try.ntmps27
    go_wp2_with fail
    go_ret
    exact ⟨rfl, rfl⟩

theorem rread_any (h : RefAt B w b z D) (i : Int) : Calls Try.prog 22 #[.pointer (some ⟨b, 0, none⟩), .int .i64 i] w fun e w' => e = .returned (.tuple #[.string (D.readS i), .int .i64 (D.ask i)]) ∧ w = w' := by
  have c0 := h.c0
  have hp := h.pos
  unfold Dev.readS Dev.ask
  by_cases h1 : i < 0
  · rw [if_pos (.inl h1), if_pos (.inl h1)]
    clear h
    generalize D.kept.length = n at *
    go_enter Try.func22, Try.ntmps22
    go_wp2_with fail
    exact bodyPost_ret (v := .tuple #[.string ⟨#[]⟩, .int .i64 60]) (by simp [results, Try.results22, go_sem]) rfl ⟨rfl, rfl⟩
  by_cases h2 : (D.kept.length : Int) ≤ i
  · rw [if_pos (.inr h2), if_pos (.inr h2)]
    clear h
    generalize D.kept.length = n at *
    go_enter Try.func22, Try.ntmps22
    go_wp2_with fail
    exact bodyPost_ret (v := .tuple #[.string ⟨#[]⟩, .int .i64 60]) (by simp [results, Try.results22, go_sem]) rfl ⟨rfl, rfl⟩
  · rw [if_neg (by omega), if_neg (by omega)]
    obtain ⟨k, rfl⟩ := Int.eq_ofNat_of_zero_le (show 0 ≤ i by omega)
    have hlen : D.now.length = D.kept.length := by have := h.now.1; simpa [strs] using this
    have hc : w.cell? ⟨z.gn, k, none⟩ = some (.string (D.now.getD k ⟨#[]⟩)) := own_cellAt h.now (by simp [strs, List.getD, hlen, show k < D.kept.length by omega])
    rw [show ((k : Int)).toNat = k from rfl]
    generalize D.now.getD k ⟨#[]⟩ = t at *
    have i0 : (0 : Int) ≤ (k : Int) := by omega
    have i1 : (k : Int) < (D.kept.length : Int) := by omega
    clear h hlen
    generalize D.kept.length = n at *
    go_enter Try.func22, Try.ntmps22
    go_wp2_with fail
    exact bodyPost_ret (v := .tuple #[.string t, .int .i64 0]) (by simp [results, Try.results22, go_sem]) rfl ⟨rfl, rfl⟩

/-- Fields alone turn. -/
theorem RefAt.fields (h : RefAt B w b z D) {w' : World} (D' : Dev) (h1 : D'.kept = D.kept) (h2 : D'.now = D.now) (h3 : D'.pend = D.pend) (ho : Only [b] w w')
    (hc : Row w' b 47 [.slice (some ⟨z.gn, 0, none⟩) D'.kept.length z.cn, .slice (some ⟨z.gw, 0, none⟩) D'.kept.length z.cw, .slice (some ⟨z.gp, 0, none⟩) D'.kept.length z.cp, .int .i64 D'.rleft, .int .i64 D'.acts])
    (hl : -9223372036854775808 ≤ D'.left ∧ D'.left ≤ 9223372036854775807) (ha : 0 ≤ D'.acts ∧ D'.acts ≤ 1000000000000) : RefAt B w' b z D' := by
  obtain ⟨n1, n2, n3, _⟩ := h.ne
  obtain ⟨_, k1, k2, k3⟩ := h.bounds
  refine ⟨h.own, hc, ?_, ?_, ?_, h.ne, by rw [h1]; exact h.pos, hl, ha⟩
  · rw [h1, h2]; exact own_same h.now (ho.block _ k1.2 (by simp; exact fun e => n1 e.symm))
  · rw [h1]; exact own_same h.was (ho.block _ k2.2 (by simp; exact fun e => n2 e.symm))
  · rw [h1, h3]; exact own_same h.pend (ho.block _ k3.2 (by simp; exact fun e => n3 e.symm))

theorem acted_rleft (D : Dev) (hd : D.dead = false) (hl : -9223372036854775808 ≤ D.left ∧ D.left ≤ 9223372036854775807) : D.acted.rleft = if 0 < D.rleft then D.rleft - 1 else D.rleft := by
  unfold Dev.rleft Dev.acted
  unfold Dev.dead at hd
  dsimp only
  cases ha : D.armed
  · simp
  · rw [ha] at hd
    simp only [Bool.true_and, decide_eq_false_iff_not, Int.not_le] at hd
    have e : wrap64 (D.left - 1) = D.left - 1 := by unfold wrap64; omega
    rw [e]
    simp only [if_true]
    rw [if_neg (show ¬ D.left ≤ 0 by omega), if_pos hd]
    split <;> omega

theorem ract_any (h : RefAt B w b z D) (ha : D.acts < 1000000000000) : Calls Try.prog 46 #[.pointer (some ⟨b, 0, none⟩)] w fun e w' =>
    if D.dead then e = .returned (.bool false) ∧ w = w' else e = .returned (.bool true) ∧ RefAt B w' b z D.acted ∧ Only [b] w w' := by
  have c3 := h.c3
  have c4 := h.c4
  have f3 := h.cells.free 3 (by simp)
  have f4 := h.cells.free 4 (by simp)
  have hl := rleft_in D h.left
  have hac := h.acts
  have hd := rleft_dead D
  cases hdd : D.dead
  · have h0 : ¬ D.rleft = 0 := by rw [hd, hdd]; decide
    have hr := acted_rleft D hdd h.left
    have hL : -9223372036854775808 ≤ D.acted.left ∧ D.acted.left ≤ 9223372036854775807 := by show _ ≤ wrap64 _ ∧ wrap64 _ ≤ _; unfold wrap64; omega
    have hA : 0 ≤ D.acted.acts ∧ D.acted.acts ≤ 1000000000000 := by show 0 ≤ D.acts + 1 ∧ D.acts + 1 ≤ _; omega
    have h64 : D.acted.acts = D.acts + 1 := rfl
    simp only [Bool.false_eq_true, if_false]
    by_cases hp : 0 < D.rleft
    · rw [if_pos hp] at hr
      have o1 : Only [b] w (w.setCell ⟨b, 3, none⟩ (.int .i64 (D.rleft - 1))) := Only.setCell _ _ _ (by simp)
      have o2 : Only [b] w ((w.setCell ⟨b, 3, none⟩ (.int .i64 (D.rleft - 1))).setCell ⟨b, 4, none⟩ (.int .i64 (D.acts + 1))) := o1.trans (Only.setCell _ _ _ (by simp))
      have HR := Lib.hid (h.fields D.acted rfl rfl rfl o2 (by rw [hr]; exact (h.cells.set 3 _).set 4 _) hL hA)
      have HO := Lib.hid o2
      clear o1 o2 hr hd hdd h hL hA h64
      generalize D.acted = E at *
      generalize D.rleft = r at *
      generalize D.acts = a at *
      go_enter Try.func46, Try.ntmps46
      go_wp2_with fail
      go_ret
      exact ⟨rfl, HR.out, HO.out⟩
    · rw [if_neg hp] at hr
      have o2 : Only [b] w (w.setCell ⟨b, 4, none⟩ (.int .i64 (D.acts + 1))) := Only.setCell _ _ _ (by simp)
      have HR := Lib.hid (h.fields D.acted rfl rfl rfl o2 (by rw [hr]; exact h.cells.set 4 _) hL hA)
      have HO := Lib.hid o2
      clear o2 hr hd hdd h hL hA h64
      generalize D.acted = E at *
      generalize D.rleft = r at *
      generalize D.acts = a at *
      go_enter Try.func46, Try.ntmps46
      go_wp2_with fail
      go_ret
      exact ⟨rfl, HR.out, HO.out⟩
  · have h0 : D.rleft = 0 := hd.2 hdd
    simp only [if_true]
    rw [h0] at c3
    clear h hd hdd h0 hl
    go_enter Try.func46, Try.ntmps46
    go_wp2_with fail
    go_ret
    exact ⟨rfl, rfl⟩

theorem rarm_any (h : RefAt B w b z D) (n : Int) (hn : -9223372036854775808 ≤ n ∧ n ≤ 9223372036854775807) : Calls Try.prog 20 #[.pointer (some ⟨b, 0, none⟩), .int .i64 n] w fun e w' => e = .returned (.tuple #[]) ∧ RefAt B w' b z (D.arm n) ∧ Only [b] w w' := by
  have c3 := h.c3
  have f3 := h.cells.free 3 (by simp)
  have hr : (D.arm n).rleft = max n (-1) := by
    unfold Dev.arm Dev.rleft
    dsimp only
    simp only [decide_eq_true_eq]
    split
    · split <;> omega
    · omega
  have o1 : Only [b] w (w.setCell ⟨b, 3, none⟩ (.int .i64 (max n (-1)))) := Only.setCell _ _ _ (by simp)
  have HR := Lib.hid (h.fields (D.arm n) rfl rfl rfl o1 (by rw [hr]; exact h.cells.set 3 _) hn h.acts)
  have HO := Lib.hid o1
  clear h o1 hr
  generalize D.rleft = r at *
  generalize D.arm n = E at *
  go_enter Try.func20, Try.ntmps20
  go_wp2_with fail
  go_end0
  exact ⟨rfl, HR.out, HO.out⟩

end Go.Proofs.Ytjoopkdednmllaa
