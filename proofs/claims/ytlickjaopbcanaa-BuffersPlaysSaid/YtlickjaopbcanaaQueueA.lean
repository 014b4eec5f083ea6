/- The queue in memory: Len, Less, Swap, and how they are called through the interface. container/heap: up, down, through the interface. container/heap: down, through the interface. container/heap: Fix, Remove, Push. The queue's Pop and Push. container/heap: Remove. The queue's Push, container/heap's Push. container/heap: Push. -/
import Derived.Test.YtlickjaopbcanaaDevA
import Derived.Test.YtlickjaopbcanaaBufs
import Derived.BigRegion
import Derived.Deep.RegionHeld
import Derived.BigQuiet
import Derived.Deep.QuietTactic
import Derived.Deep.RegionWith
namespace Go.Proofs.Ytlickjaopbcanaa
open Go Go.RowKit

def ptr (i : Nat) : Value := .pointer (some ⟨i, 0, none⟩)
def ptrs (K : Heap.KL) : List Value := K.map fun x => ptr x.1
theorem ptrs_len (K : Heap.KL) : (ptrs K).length = K.length := by simp [ptrs]
theorem ptrs_at (K : Heap.KL) (i : Nat) (h : i < K.length) : (ptrs K)[i]? = some (ptr (K.getD i (0, 0)).1) := by simp [ptrs, List.getD, h]
/-- The queue of a cache whose struct lies in block cb. -/
structure QAt (B : Nat) (w : World) (cb : Nat) (five : List Value) (v : Value) (K : Heap.KL) (fr : Nat → List Value) : Prop where
  own : B ≤ cb
  fl : five.length = 5
  cells : Row w cb 41 (five ++ [v])
  row : w.ownsRow B 83 1 v K.length (ptrs K)
  buf : ∀ i, i < K.length → Row w (K.getD i (0, 0)).1 88 (fr (K.getD i (0, 0)).1 ++ [.int .i64 (K.getD i (0, 0)).2, .int .i64 i])
  frl : ∀ x ∈ K, (fr x.1).length = 4
  nd : K.Pairwise fun x y => x.1 ≠ y.1
  ne : v.ownBlock ≠ some cb
  ids : ∀ x ∈ K, x.1 ≠ cb ∧ v.ownBlock ≠ some x.1 ∧ B ≤ x.1
  keys : ∀ x ∈ K, 0 ≤ x.2 ∧ x.2 ≤ 1000000000000
  len : K.length ≤ 256

section
variable {B cb : Nat} {w : World} {five : List Value} {v : Value} {K : Heap.KL} {fr : Nat → List Value}
theorem QAt.c5 (h : QAt B w cb five v K fr) : w.cell? ⟨cb, 5, none⟩ = some v := by
  refine h.cells.cellAt 5 ?_
  rw [List.getElem?_append_right (by rw [h.fl]; exact Nat.le_refl _), h.fl]
  rfl
theorem QAt.f5 (h : QAt B w cb five v K fr) : w.frozen? ⟨cb, 5, none⟩ = false := h.cells.free 5 (by simp [h.fl])
theorem QAt.at (_h : QAt B w cb five v K fr) {i : Nat} (hi : i < K.length) : K.getD i (0, 0) ∈ K := by simp [List.getD, hi]
theorem QAt.used (h : QAt B w cb five v K fr) {i : Nat} (hi : i < K.length) : w.cell? ⟨(K.getD i (0, 0)).1, 4, none⟩ = some (.int .i64 (Heap.key K i)) := by
  refine (h.buf i hi).cellAt 4 ?_
  rw [List.getElem?_append_right (by rw [h.frl _ (h.at hi)]; exact Nat.le_refl _), h.frl _ (h.at hi)]
  rfl
theorem QAt.place (h : QAt B w cb five v K fr) {i : Nat} (hi : i < K.length) : w.cell? ⟨(K.getD i (0, 0)).1, 5, none⟩ = some (.int .i64 i) := by
  refine (h.buf i hi).cellAt 5 ?_
  rw [List.getElem?_append_right (by rw [h.frl _ (h.at hi)]; omega), h.frl _ (h.at hi)]
  rfl
theorem QAt.placeF (h : QAt B w cb five v K fr) {i : Nat} (hi : i < K.length) : w.frozen? ⟨(K.getD i (0, 0)).1, 5, none⟩ = false := (h.buf i hi).free 5 (by rw [List.length_append, h.frl _ (h.at hi)]; simp)
theorem QAt.form (h : QAt B w cb five v K fr) : ∃ ad cap, v = .slice ad K.length cap := by
  rcases h.row.2 with ⟨rfl, h0⟩ | ⟨g, cap, cur, rfl, _⟩
  · exact ⟨_, _, by rw [h0]⟩
  · exact ⟨_, _, rfl⟩
theorem QAt.slice (h : QAt B w cb five v K fr) (h0 : 0 < K.length) : ∃ g cap, v = .slice (some ⟨g, 0, none⟩) K.length cap ∧ B ≤ g := by
  rcases h.row.2 with ⟨_, h1⟩ | ⟨g, cap, cur, rfl, hb, _⟩
  · omega
  · exact ⟨g, cap, rfl, hb⟩
end

theorem own_cell1 {B n g cap z : Nat} {T : TypeId} {w : World} {xs : List Value} (h : w.ownsRow B T z (.slice (some ⟨g, 0, none⟩) n cap) n xs) {j : Nat} {u : Value} (hu : xs[j]? = some u) : w.cell? ⟨g, j, none⟩ = some u := by
  have := h.cells rfl j u hu
  have hadd : (⟨g, 0, none⟩ : Addr).add j = ⟨g, j, none⟩ := by unfold Addr.add; split <;> simp_all
  rwa [hadd] at this
theorem own_free1 {B n g cap z : Nat} {T : TypeId} {w : World} {xs : List Value} (h : w.ownsRow B T z (.slice (some ⟨g, 0, none⟩) n cap) n xs) (k : Nat) : w.frozen? ⟨g, k, none⟩ = false := by
  rcases h.2 with ⟨hv, _⟩ | ⟨g', cap', cur, hv, hb, hg, _⟩
  · cases hv
  · cases hv
    simp [World.frozen?, hg]

theorem ownsRow_setQ {w : World} {base size n g cap : Nat} {e : TypeId} {xs : List Value} (h : w.ownsRow base e size (.slice (some ⟨g, 0, none⟩) n cap) n xs) (k : Nat) (u : Value) :
    (w.setCell ⟨g, k, none⟩ u).ownsRow base e size (.slice (some ⟨g, 0, none⟩) n cap) n (xs.set k u) := by
  obtain ⟨h1, h2⟩ := h
  refine ⟨by simpa using h1, ?_⟩
  rcases h2 with ⟨hv, _⟩ | ⟨g', cap', cur, hv, hb, hg, hc1, hc2, hsz, htk⟩
  · cases hv
  · cases hv
    refine .inr ⟨g, cap, cur.set! k u, rfl, hb, ?_, hc1, hc2, by simpa using hsz, ?_⟩
    · have hlt := lt_of_block hg
      have h' : w.heap[g] = .cells cur e (0, 0) := by simpa [Array.getElem?_eq_getElem hlt] using hg
      show (w.heap.modify g _)[g]? = _
      rw [Array.getElem?_eq_getElem (by simpa using hlt), Array.getElem_modify_self, h']
      simp
    · rw [← htk]
      simp [List.take_set]
theorem qlen_any (ad : Option Addr) (n cap : Nat) (w : World) : Calls Try.prog 120 #[.slice ad n cap] w fun e w' => e = .returned (.int .i64 n) ∧ w = w' := by
  go_enter Try.func120, Try.ntmps120
  go_wp2_with fail
  go_ret
  exact ⟨rfl, rfl⟩
set_option maxHeartbeats 1000000 in
theorem qless_any {B cb : Nat} {w : World} {five : List Value} {v : Value} {K : Heap.KL} {fr : Nat → List Value} (h : QAt B w cb five v K fr) (i k : Nat) (hi : i < K.length) (hk : k < K.length) :
    Calls Try.prog 121 #[v, .int .i64 i, .int .i64 k] w fun e w' => e = .returned (.bool (decide (Heap.key K i < Heap.key K k))) ∧ ∃ n, w' = w.drewN n := by
  obtain ⟨g, cap, rfl, _⟩ := h.slice (by omega)
  have a1 := own_cell1 h.row (ptrs_at K i hi)
  have a2 := own_cell1 h.row (ptrs_at K k hk)
  have u1 := h.used hi
  have u2 := h.used hk
  have i0 : (0 : Int) ≤ (i : Int) := by omega
  have i1 : (i : Int) < (K.length : Int) := by omega
  have k0 : (0 : Int) ≤ (k : Int) := by omega
  have k1 : (k : Int) < (K.length : Int) := by omega
  unfold ptr at a1 a2
  clear h
  generalize (K.getD i (0, 0)).1 = x at *
  generalize (K.getD k (0, 0)).1 = y at *
  generalize Heap.key K i = ki at *
  generalize Heap.key K k = kk at *
  go_enter Try.func121, Try.ntmps121
  go_wp2_with fail
  go_quiet (fail)
  go_wp2_with fail
  go_ret
  exact ⟨rfl, _, rfl⟩

/-- The world behind a swap. -/
def swapW (w : World) (g i k x y : Nat) : World := ((((w.setCell ⟨g, i, none⟩ (ptr y)).setCell ⟨g, k, none⟩ (ptr x)).drew.setCell ⟨y, 5, none⟩ (.int .i64 i)).setCell ⟨x, 5, none⟩ (.int .i64 k)).drew

set_option maxHeartbeats 4000000 in
theorem qswap_raw (g cap n i k x y : Nat) (w : World) (hi : i < n) (hk : k < n) (hik : i ≠ k) (hxy : x ≠ y) (hgx : g ≠ x) (hgy : g ≠ y)
    (a1 : w.cell? ⟨g, i, none⟩ = some (ptr x)) (a2 : w.cell? ⟨g, k, none⟩ = some (ptr y)) (b1 : w.frozen? ⟨g, i, none⟩ = false) (b2 : w.frozen? ⟨g, k, none⟩ = false)
    (p1 : ∃ u, w.cell? ⟨x, 5, none⟩ = some u) (p2 : ∃ u, w.cell? ⟨y, 5, none⟩ = some u) (f1 : w.frozen? ⟨x, 5, none⟩ = false) (f2 : w.frozen? ⟨y, 5, none⟩ = false) :
    Calls Try.prog 122 #[.slice (some ⟨g, 0, none⟩) n cap, .int .i64 i, .int .i64 k] w fun e w' => e = .returned (.tuple #[]) ∧ w' = swapW w g i k x y := by
  obtain ⟨u1, p1⟩ := p1
  obtain ⟨u2, p2⟩ := p2
  have i0 : (0 : Int) ≤ (i : Int) := by omega
  have i1 : (i : Int) < (n : Int) := by omega
  have k0 : (0 : Int) ≤ (k : Int) := by omega
  have k1 : (k : Int) < (n : Int) := by omega
  have e1 : ((w.setCell ⟨g, i, none⟩ (ptr y)).setCell ⟨g, k, none⟩ (ptr x)).drew.cell? ⟨g, i, none⟩ = some (ptr y) := by
    show ((w.setCell ⟨g, i, none⟩ (ptr y)).setCell ⟨g, k, none⟩ (ptr x)).cell? _ = _
    rw [World.cell?_setCell_other _ _ _ _ (by simp <;> omega)]
    exact World.cell?_setCell_same _ _ _ a1
  have e2 : ((w.setCell ⟨g, i, none⟩ (ptr y)).setCell ⟨g, k, none⟩ (ptr x)).drew.cell? ⟨g, k, none⟩ = some (ptr x) := by
    show ((w.setCell ⟨g, i, none⟩ (ptr y)).setCell ⟨g, k, none⟩ (ptr x)).cell? _ = _
    exact World.cell?_setCell_same _ _ _ (by rw [World.cell?_setCell_other _ _ _ _ (by simp <;> omega)]; exact a2)
  have e3 : ((w.setCell ⟨g, i, none⟩ (ptr y)).setCell ⟨g, k, none⟩ (ptr x)).drew.cell? ⟨x, 5, none⟩ = some u1 := by
    show ((w.setCell ⟨g, i, none⟩ (ptr y)).setCell ⟨g, k, none⟩ (ptr x)).cell? _ = _
    rw [World.cell?_setCell_far _ _ _ _ hgx, World.cell?_setCell_far _ _ _ _ hgx]; exact p1
  have e4 : ((w.setCell ⟨g, i, none⟩ (ptr y)).setCell ⟨g, k, none⟩ (ptr x)).drew.cell? ⟨y, 5, none⟩ = some u2 := by
    show ((w.setCell ⟨g, i, none⟩ (ptr y)).setCell ⟨g, k, none⟩ (ptr x)).cell? _ = _
    rw [World.cell?_setCell_far _ _ _ _ hgy, World.cell?_setCell_far _ _ _ _ hgy]; exact p2
  have e5 : ((w.setCell ⟨g, i, none⟩ (ptr y)).setCell ⟨g, k, none⟩ (ptr x)).drew.frozen? ⟨x, 5, none⟩ = false := by
    show ((w.setCell ⟨g, i, none⟩ (ptr y)).setCell ⟨g, k, none⟩ (ptr x)).frozen? _ = _
    rw [World.frozen?_setCell, World.frozen?_setCell]; exact f1
  have e6 : ((w.setCell ⟨g, i, none⟩ (ptr y)).setCell ⟨g, k, none⟩ (ptr x)).drew.frozen? ⟨y, 5, none⟩ = false := by
    show ((w.setCell ⟨g, i, none⟩ (ptr y)).setCell ⟨g, k, none⟩ (ptr x)).frozen? _ = _
    rw [World.frozen?_setCell, World.frozen?_setCell]; exact f2
  unfold swapW
  unfold ptr at *
  have nyx : ¬ y = x := fun e => hxy e.symm
  go_enter Try.func122, Try.ntmps122
  go_wp2_with fail
  go_region
  generalize hw1 : ((w.setCell ⟨g, i, none⟩ (.pointer (some ⟨y, 0, none⟩))).setCell ⟨g, k, none⟩ (.pointer (some ⟨x, 0, none⟩))).drew = w1 at *
  have HW1 := Lib.hid hw1
  clear hw1
  clear a1 a2 b1 b2 p1 p2 f1 f2
  go_wp2_with fail
  go_region
  go_wp2_with fail
  go_end0
  exact ⟨rfl, by rw [HW1.out]⟩

theorem ptrs_swap (K : Heap.KL) (i k : Nat) (_hi : i < K.length) (_hk : k < K.length) : ptrs (Heap.swapL K i k) = ((ptrs K).set i (ptr (K.getD k (0, 0)).1)).set k (ptr (K.getD i (0, 0)).1) := by
  unfold ptrs Heap.swapL
  rw [List.map_set, List.map_set]
theorem pair_ne {α : Type} {R : α → α → Prop} (hs : ∀ a b, R a b → R b a) : ∀ {L : List α}, L.Pairwise R → ∀ i k (hi : i < L.length) (hk : k < L.length), i ≠ k → R L[i] L[k] := by
  intro L h i k hi hk hne
  rcases Nat.lt_or_ge i k with h1 | h1
  · exact List.pairwise_iff_getElem.1 h i k hi hk h1
  · exact hs _ _ (List.pairwise_iff_getElem.1 h k i hk hi (by omega))
theorem QAt.ne_ids {B cb : Nat} {w : World} {five : List Value} {v : Value} {K : Heap.KL} {fr : Nat → List Value} (h : QAt B w cb five v K fr) {i k : Nat} (hi : i < K.length) (hk : k < K.length) (hik : i ≠ k) : (K.getD i (0, 0)).1 ≠ (K.getD k (0, 0)).1 := by
  have := pair_ne (R := fun x y : Nat × Int => x.1 ≠ y.1) (fun a b h => h.symm) h.nd i k hi hk hik
  simpa [List.getD, hi, hk] using this
theorem set5 (l : List Value) (a b c : Value) (h : l.length = 4) : (l ++ [a, b]).set 5 c = l ++ [a, c] := by
  rw [List.set_append, if_neg (by omega), h]
  rfl
theorem QAt.swap {B cb : Nat} {w : World} {five : List Value} {K : Heap.KL} {fr : Nat → List Value} {g cap i k : Nat} (h : QAt B w cb five (.slice (some ⟨g, 0, none⟩) K.length cap) K fr) (hi : i < K.length) (hk : k < K.length) (hik : i ≠ k) :
    QAt B (swapW w g i k (K.getD i (0, 0)).1 (K.getD k (0, 0)).1) cb five (.slice (some ⟨g, 0, none⟩) (Heap.swapL K i k).length cap) (Heap.swapL K i k) fr := by
  have hl := Heap.swap_len K i k
  have hxy := h.ne_ids hi hk hik
  have x1 := h.ids _ (h.at hi)
  have y1 := h.ids _ (h.at hk)
  have hgc : g ≠ cb := fun e => h.ne (by rw [e]; rfl)
  have hgx : g ≠ (K.getD i (0, 0)).1 := fun e => x1.2.1 (by rw [← e]; rfl)
  have hgy : g ≠ (K.getD k (0, 0)).1 := fun e => y1.2.1 (by rw [← e]; rfl)
  have hmem : ∀ x, x ∈ Heap.swapL K i k → x ∈ K := fun x hx => (Heap.swap_perm K i k hi hk).mem_iff.1 hx
  refine ⟨h.own, h.fl, ?_, ?_, ?_, fun x hx => h.frl x (hmem x hx), ?_, h.ne, fun x hx => h.ids x (hmem x hx), fun x hx => h.keys x (hmem x hx), by rw [hl]; exact h.len⟩
  · unfold swapW
    rw [hl]
    exact ((((h.cells.other (a := ⟨g, i, none⟩) hgc _).other (a := ⟨g, k, none⟩) hgc _).drew.other (a := ⟨(K.getD k (0, 0)).1, 5, none⟩) y1.1 _).other (a := ⟨(K.getD i (0, 0)).1, 5, none⟩) x1.1 _).drew
  · rw [hl, ptrs_swap K i k hi hk]
    unfold swapW
    have r1 := ownsRow_setQ (ownsRow_setQ h.row i (ptr (K.getD k (0, 0)).1)) k (ptr (K.getD i (0, 0)).1)
    exact ownsRow_setCell_other (ownsRow_setCell_other r1 (a := ⟨(K.getD k (0, 0)).1, 5, none⟩) (by simp [Value.ownBlock]; exact hgy) _) (a := ⟨(K.getD i (0, 0)).1, 5, none⟩) (by simp [Value.ownBlock]; exact hgx) _
  · intro j hj
    rw [hl] at hj
    have hsj := Heap.swap_at K i k j hi hk
    unfold swapW
    by_cases e1 : j = k
    · rw [if_pos e1] at hsj
      rw [hsj, e1]
      have r := (((h.buf i hi).other (a := ⟨g, i, none⟩) hgx (ptr (K.getD k (0, 0)).1)).other (a := ⟨g, k, none⟩) hgx (ptr (K.getD i (0, 0)).1)).drew.other (a := ⟨(K.getD k (0, 0)).1, 5, none⟩) hxy.symm (.int .i64 i)
      have r2 := (r.set 5 (.int .i64 k)).drew
      rw [set5 _ _ _ _ (h.frl _ (h.at hi))] at r2
      exact r2
    · rw [if_neg e1] at hsj
      by_cases e2 : j = i
      · rw [if_pos e2] at hsj
        rw [hsj, e2]
        have r := (((h.buf k hk).other (a := ⟨g, i, none⟩) hgy (ptr (K.getD k (0, 0)).1)).other (a := ⟨g, k, none⟩) hgy (ptr (K.getD i (0, 0)).1)).drew.set 5 (.int .i64 i)
        rw [set5 _ _ _ _ (h.frl _ (h.at hk))] at r
        exact (r.other (a := ⟨(K.getD i (0, 0)).1, 5, none⟩) hxy _).drew
      · rw [if_neg e2] at hsj
        rw [hsj]
        have n1 := h.ne_ids hi hj (Ne.symm e2)
        have n2 := h.ne_ids hk hj (Ne.symm e1)
        have hgj : g ≠ (K.getD j (0, 0)).1 := fun e => (h.ids _ (h.at hj)).2.1 (by rw [← e]; rfl)
        exact (((((h.buf j hj).other (a := ⟨g, i, none⟩) hgj _).other (a := ⟨g, k, none⟩) hgj _).drew.other (a := ⟨(K.getD k (0, 0)).1, 5, none⟩) n2 _).other (a := ⟨(K.getD i (0, 0)).1, 5, none⟩) n1 _).drew
  · have hp := Heap.swap_perm K i k hi hk
    exact (hp.pairwise_iff (R := fun x y : Nat × Int => x.1 ≠ y.1) (fun h => h.symm)).2 h.nd
theorem swapW_only (w : World) (g i k x y : Nat) (S : List Nat) (hg : g ∈ S) (hx : x ∈ S) (hy : y ∈ S) : Only S w (swapW w g i k x y) := by
  unfold swapW
  exact ((((((Only.setCell w ⟨g, i, none⟩ _ hg).trans (Only.setCell _ ⟨g, k, none⟩ _ hg)).drew).trans (Only.setCell _ ⟨y, 5, none⟩ _ hy)).trans (Only.setCell _ ⟨x, 5, none⟩ _ hx)).drew)

end Go.Proofs.Ytlickjaopbcanaa

namespace Go.Proofs.Ytlickjaopbcanaa
open Go Go.RowKit

def ifq (cb : Nat) : Value := .iface 108 (.pointer (some ⟨cb, 5, none⟩))
theorem loadq (a : Addr) (v : Value) (w : World) (h : w.cell? a = some v) : (loadVar 39 a).run Try.prog w = .ok v w := by
  have := Try.underlying39
  simp [loadVar, go_sem, h]
theorem m_len (f : Nat) (a : Addr) (v : Value) (w : World) (h : w.cell? a = some v) : (method (f + 1) 108 (.pointer (some a)) "Len").run Try.prog w = .ok (120, v) w := by
  have e : (method (f + 1) 108 (.pointer (some a)) "Len").run Try.prog w = ((loadVar 39 a) >>= fun v => pure (120, v) : Sem (FuncId × Value)).run Try.prog w := by kernel_rfl
  rw [e, Sem.run_bind, loadq a v w h]
  rfl
theorem m_less (f : Nat) (a : Addr) (v : Value) (w : World) (h : w.cell? a = some v) : (method (f + 1) 108 (.pointer (some a)) "Less").run Try.prog w = .ok (121, v) w := by
  have e : (method (f + 1) 108 (.pointer (some a)) "Less").run Try.prog w = ((loadVar 39 a) >>= fun v => pure (121, v) : Sem (FuncId × Value)).run Try.prog w := by kernel_rfl
  rw [e, Sem.run_bind, loadq a v w h]
  rfl
theorem m_swap (f : Nat) (a : Addr) (v : Value) (w : World) (h : w.cell? a = some v) : (method (f + 1) 108 (.pointer (some a)) "Swap").run Try.prog w = .ok (122, v) w := by
  have e : (method (f + 1) 108 (.pointer (some a)) "Swap").run Try.prog w = ((loadVar 39 a) >>= fun v => pure (122, v) : Sem (FuncId × Value)).run Try.prog w := by kernel_rfl
  rw [e, Sem.run_bind, loadq a v w h]
  rfl
theorem n_any (f : Nat) (a : Addr) (w : World) : (nilAhead (f + 1) 108 (.pointer (some a)) "Less").run Try.prog w = .ok (some false) w := by kernel_rfl

/-- The queue as a walk goes on: the same elements in another order, those from n on where they were. -/
structure QGo (B : Nat) (w0 w : World) (cb : Nat) (five : List Value) (v : Value) (K0 K : Heap.KL) (fr : Nat → List Value) (n : Nat) (S : List Nat) : Prop where
  q : QAt B w cb five v K fr
  perm : K.Perm K0
  rest : ∀ i, n ≤ i → K.getD i (0, 0) = K0.getD i (0, 0)
  only : Only S w0 w
theorem QGo.len {B cb n : Nat} {w0 w : World} {five : List Value} {v : Value} {K0 K : Heap.KL} {fr : Nat → List Value} {S : List Nat} (h : QGo B w0 w cb five v K0 K fr n S) : K.length = K0.length := h.perm.length_eq
theorem QAt.only {B cb : Nat} {w w' : World} {five : List Value} {v : Value} {K : Heap.KL} {fr : Nat → List Value} (h : QAt B w cb five v K fr) (hb : ∀ k, k < w.heap.size → w'.heap[k]? = w.heap[k]?) (_hz : w.heap.size ≤ w'.heap.size) : QAt B w' cb five v K fr := by
  have hk : ∀ {k : Nat} {T : TypeId} {cs : List Value}, Row w k T cs → Row w' k T cs := fun {k T cs} r => by
    have hl := r.lt
    obtain ⟨f, r1, r2⟩ := r
    exact ⟨f, by rw [hb k hl]; exact r1, r2⟩
  refine ⟨h.own, h.fl, hk h.cells, ⟨h.row.1, ?_⟩, fun i hi => hk (h.buf i hi), h.frl, h.nd, h.ne, h.ids, h.keys, h.len⟩
  rcases h.row.2 with h1 | ⟨g, cap, cur, e, hB, hg, r⟩
  · exact .inl h1
  · exact .inr ⟨g, cap, cur, e, hB, by rw [hb g (lt_of_block hg)]; exact hg, r⟩
theorem QGo.drewN {B cb n : Nat} {w0 w : World} {five : List Value} {v : Value} {K0 K : Heap.KL} {fr : Nat → List Value} {S : List Nat} (h : QGo B w0 w cb five v K0 K fr n S) (m : Nat) : QGo B w0 (w.drewN m) cb five v K0 K fr n S :=
  ⟨h.q.only (fun _ _ => rfl) (Nat.le_refl _), h.perm, h.rest, ⟨h.only.os, h.only.tape, h.only.output, h.only.size, h.only.block⟩⟩
/-- One swap more. -/
theorem QGo.swap {B cb n : Nat} {w0 w : World} {five : List Value} {g cap N : Nat} {K0 K : Heap.KL} {fr : Nat → List Value} {S : List Nat} (hN : N = K0.length) (h : QGo B w0 w cb five (.slice (some ⟨g, 0, none⟩) N cap) K0 K fr n S) {i k : Nat} (hi : i < n) (hk : k < n) (hn : n ≤ N) (hik : i ≠ k) (hg : g ∈ S) (hI : ∀ x ∈ K0, x.1 ∈ S) :
    Calls Try.prog 122 #[.slice (some ⟨g, 0, none⟩) N cap, .int .i64 i, .int .i64 k] w fun e w' => e = .returned (.tuple #[]) ∧ QGo B w0 w' cb five (.slice (some ⟨g, 0, none⟩) N cap) K0 (Heap.swapL K i k) fr n S := by
  have hl : K.length = N := by rw [hN]; exact h.len
  have q := h.q
  rw [← hl] at q ⊢
  have hi' : i < K.length := by omega
  have hk' : k < K.length := by omega
  have hgx : g ≠ (K.getD i (0, 0)).1 := fun e => (q.ids _ (q.at hi')).2.1 (by rw [← e]; rfl)
  have hgy : g ≠ (K.getD k (0, 0)).1 := fun e => (q.ids _ (q.at hk')).2.1 (by rw [← e]; rfl)
  refine (qswap_raw g cap K.length i k _ _ w hi' hk' hik (q.ne_ids hi' hk' hik) hgx hgy (own_cell1 q.row (ptrs_at K i hi')) (own_cell1 q.row (ptrs_at K k hk')) (own_free1 q.row i) (own_free1 q.row k) ⟨_, q.place hi'⟩ ⟨_, q.place hk'⟩ (q.placeF hi') (q.placeF hk')).mono ?_
  rintro e w' ⟨rfl, rfl⟩
  have hsw := q.swap hi' hk' hik
  rw [Heap.swap_len] at hsw
  refine ⟨rfl, hsw, (Heap.swap_perm K i k hi' hk').trans h.perm, fun j hj => ?_, h.only.trans (swapW_only _ _ _ _ _ _ _ hg ?_ ?_)⟩
  · rw [Heap.swap_at K i k j hi' hk', if_neg (by omega), if_neg (by omega)]
    exact h.rest j hj
  · exact hI _ (h.perm.mem_iff.1 (q.at hi'))
  · exact hI _ (h.perm.mem_iff.1 (q.at hk'))
theorem QGo.less {B cb n : Nat} {w0 w : World} {five : List Value} {v : Value} {K0 K : Heap.KL} {fr : Nat → List Value} {S : List Nat} (h : QGo B w0 w cb five v K0 K fr n S) {i k : Nat} (hi : i < K0.length) (hk : k < K0.length) (r : Bool) (hr : decide (Heap.key K i < Heap.key K k) = r) :
    Calls Try.prog 121 #[v, .int .i64 i, .int .i64 k] w fun e w' => e = .returned (.bool r) ∧ QGo B w0 w' cb five v K0 K fr n S := by
  have hl := h.len
  subst hr
  refine (qless_any h.q i k (by omega) (by omega)).mono ?_
  rintro e w' ⟨rfl, m, rfl⟩
  exact ⟨rfl, h.drewN m⟩

set_option maxRecDepth 100000 in
set_option maxHeartbeats 8000000 in
theorem up_any {B cb n : Nat} {w0 w : World} {five : List Value} {g cap N : Nat} {K0 K : Heap.KL} {fr : Nat → List Value} {S : List Nat} (hN : N = K0.length) (h : QGo B w0 w cb five (.slice (some ⟨g, 0, none⟩) N cap) K0 K fr n S) (j : Nat) (hj : j < n) (hn : n ≤ N) (hu : Heap.UpInv K n j) (hg : g ∈ S) (hI : ∀ x ∈ K0, x.1 ∈ S) (hb : N ≤ 256) :
    Calls Try.prog 94 #[ifq cb, .int .i64 j] w fun e w' => e = .returned (.tuple #[]) ∧ ∃ K', QGo B w0 w' cb five (.slice (some ⟨g, 0, none⟩) N cap) K0 K' fr n S ∧ Heap.Heap K' n := by
  have G0 := Lib.hid (And.intro h hu)
  have HI := Lib.hid hI
  have HN := Lib.hid hN
  clear h hu hI hN
  unfold ifq
  go_enter Try.func94, Try.ntmps94
  go_wp2_with fail
  go_loopw [1, 4] (fun q u wr => ∃ (j : Nat) (K : Heap.KL), q = .int .i64 j ∧ j < n ∧ Hid (QGo B w0 wr cb five (.slice (some ⟨g, 0, none⟩) N cap) K0 K fr n S ∧ Heap.UpInv K n j)) (fun q _ _ => (intOf q).toNat)
  case atStart => exact ⟨j, K, rfl, hj, G0⟩
  case round =>
    obtain ⟨j, K, rfl, hj, hG⟩ := hrel
    clear G0
    by_cases h0 : j = 0
    · subst h0
      have HF := Lib.hid (Heap.up_done hG.out.2 (.inl rfl))
      have HQ := Lib.hid hG.out.1
      clear hG
      go_wp2_with fail
      go_end0
      exact ⟨rfl, _, HQ.out, HF.out⟩
    · obtain ⟨i, hi⟩ : ∃ i, Heap.par j = i := ⟨_, rfl⟩
      have hij : i < j := by have := Heap.par_lt (show 0 < j by omega); omega
      have w1 : IntKind.i64.wrap ((j : Int) - 1) = (j : Int) - 1 := IntWalk.i64_in _ (by omega)
      have d1 : ((j : Int) - 1).tdiv 2 = (i : Int) := by rw [Int.tdiv_eq_ediv_of_nonneg (by omega)]; unfold Heap.par at hi; omega
      have d2 : ((j : Int) - 1) / 2 = (i : Int) := by unfold Heap.par at hi; omega
      have e0 : ((i : Int) == (j : Int)) = false := by rw [beq_eq_false_iff_ne]; omega
      have j1 : (1 : Int) ≤ (j : Int) := by omega
      have hm : (method 254 108 (.pointer (some ⟨cb, 5, none⟩)) "Less").run Try.prog wr = .ok (121, .slice (some ⟨g, 0, none⟩) N cap) wr := m_less 253 ⟨cb, 5, none⟩ _ wr hG.out.1.q.c5
      by_cases hlt : Heap.key K j < Heap.key K i
      · have q := Lib.hid (hG.out.1.less (i := j) (k := i) (by rw [← HN.out]; omega) (by rw [← HN.out]; omega) true (decide_eq_true hlt))
        have HU := Lib.hid (Heap.up_step hG.out.2 hj (by rw [hG.out.1.len, ← HN.out]; exact hn) (by omega) (by rw [hi]; exact hlt))
        rw [hi] at HU
        clear hG hlt hi
        go_wp2_with fail
        refine q.out.mono ?_
        rintro e w4 ⟨rfl, h4⟩
        have hm2 : (method 254 108 (.pointer (some ⟨cb, 5, none⟩)) "Swap").run Try.prog w4 = .ok (122, .slice (some ⟨g, 0, none⟩) N cap) w4 := m_swap 253 ⟨cb, 5, none⟩ _ w4 h4.q.c5
        have q2 := Lib.hid (h4.swap HN.out (i := i) (k := j) (by omega) hj hn (by omega) hg HI.out)
        clear h4 q hm
        go_wp2_with fail
        refine q2.out.mono ?_
        rintro e w5 ⟨rfl, h5⟩
        have H5 := Lib.hid (And.intro h5 HU.out)
        clear h5 q2 hm2 HU d1 d2 e0
        go_wp2_with fail
        go_roundw
        case rel => exact ⟨i, _, rfl, by omega, H5⟩
        case measure => simp [intOf]; omega
      · have q := Lib.hid (hG.out.1.less (i := j) (k := i) (by rw [← HN.out]; omega) (by rw [← HN.out]; omega) false (decide_eq_false hlt))
        have HF := Lib.hid (Heap.up_done hG.out.2 (.inr (by rw [hi]; omega)))
        clear hG hlt hi
        go_wp2_with fail
        refine q.out.mono ?_
        rintro e w4 ⟨rfl, h4⟩
        have H4 := Lib.hid h4
        clear h4 q hm
        go_wp2_with fail
        go_end0
        exact ⟨rfl, _, H4.out, HF.out⟩

end Go.Proofs.Ytlickjaopbcanaa

namespace Go.Proofs.Ytlickjaopbcanaa
open Go Go.RowKit

/-- What down's answer says. -/
def DownR (K : Heap.KL) (n i0 : Nat) (r : Bool) : Prop := (r = true → Heap.Heap K n) ∧ (r = false → Heap.UpInv K n i0)
theorem down_end {K : Heap.KL} {n i0 i : Nat} (h : Heap.DownInv K n i0 i) (hd : ∀ c, 0 < c → c < n → Heap.par c = i → Heap.key K i ≤ Heap.key K c) (hi : i0 ≤ i) :
    DownR K n i0 (decide (i0 < i)) := by
  constructor
  · intro h1
    have := of_decide_eq_true h1
    exact Heap.down_done h hd (by omega)
  · intro h1
    have := of_decide_eq_false h1
    obtain rfl : i = i0 := by omega
    exact Heap.down_none h hd
/-- What down answers. -/
def DownPost (B cb n i0 : Nat) (w0 : World) (five : List Value) (v : Value) (K0 : Heap.KL) (fr : Nat → List Value) (S : List Nat) (e : Ending) (w' : World) : Prop := ∃ (r : Bool) (K' : Heap.KL), e = .returned (.bool r) ∧ QGo B w0 w' cb five v K0 K' fr n S ∧ (r = true → Heap.Heap K' n) ∧ (r = false → Heap.UpInv K' n i0)
theorem DownPost.mk {B cb n i0 : Nat} {w0 w' : World} {five : List Value} {v : Value} {K0 K' : Heap.KL} {fr : Nat → List Value} {S : List Nat} {r : Bool} (h : QGo B w0 w' cb five v K0 K' fr n S) (hr : DownR K' n i0 r) : DownPost B cb n i0 w0 five v K0 fr S (.returned (.bool r)) w' := ⟨r, K', rfl, h, hr.1, hr.2⟩

set_option maxRecDepth 100000 in
set_option maxHeartbeats 16000000 in
theorem down_any {B cb n : Nat} {w0 w : World} {five : List Value} {g cap N : Nat} {K0 K : Heap.KL} {fr : Nat → List Value} {S : List Nat} (hN : N = K0.length) (h : QGo B w0 w cb five (.slice (some ⟨g, 0, none⟩) N cap) K0 K fr n S) (i0 : Nat) (hi0 : i0 < n) (hn : n ≤ N) (hu : Heap.GapInv K n i0) (hg : g ∈ S) (hI : ∀ x ∈ K0, x.1 ∈ S) (hb : N ≤ 256) :
    Calls Try.prog 93 #[ifq cb, .int .i64 i0, .int .i64 n] w (DownPost B cb n i0 w0 five (.slice (some ⟨g, 0, none⟩) N cap) K0 fr S) := by
  have G0 := Lib.hid (And.intro h (Heap.down_start hu))
  have HI := Lib.hid hI
  have HN := Lib.hid hN
  clear h hu hI hN
  unfold ifq
  go_enter Try.func93, Try.ntmps93
  go_wp2_with fail
  go_loopw [7] (fun q wr => ∃ (i : Nat) (K : Heap.KL), q = .int .i64 i ∧ i0 ≤ i ∧ i < n ∧ Hid (QGo B w0 wr cb five (.slice (some ⟨g, 0, none⟩) N cap) K0 K fr n S ∧ Heap.DownInv K n i0 i)) (fun q _ => n - (intOf q).toNat)
  case atStart => exact ⟨i0, K, rfl, Nat.le_refl _, hi0, G0⟩
  case round =>
    have hi0' := hi0
    clear hi0
    obtain ⟨i, K, rfl, hi0, hi, hG⟩ := hrel
    clear G0
    have HQ := Lib.hid hG.out.1
    have HD := Lib.hid hG.out.2
    clear hG
    obtain ⟨j1, hj1⟩ : ∃ j, 2 * i + 1 = j := ⟨_, rfl⟩
    obtain ⟨j2, hj2⟩ : ∃ j, 2 * i + 2 = j := ⟨_, rfl⟩
    have w1 : IntKind.i64.wrap (2 * (i : Int)) = 2 * (i : Int) := IntWalk.i64_in _ (by omega)
    have w2 : IntKind.i64.wrap (2 * (i : Int) + 1) = (j1 : Int) := by rw [IntWalk.i64_in _ (by omega)]; omega
    have w2' : 2 * (i : Int) + 1 = (j1 : Int) := by omega
    have w3 : IntKind.i64.wrap ((j1 : Int) + 1) = (j2 : Int) := by rw [IntWalk.i64_in _ (by omega)]; omega
    have w3' : (j1 : Int) + 1 = (j2 : Int) := by omega
    have p0 : ¬ (j1 : Int) < 0 := by omega
    have hkid := Lib.hid (fun c (c0 : 0 < c) (hp : Heap.par c = i) => (by have := (Heap.par_kids c i c0).1 hp; omega : c = j1 ∨ c = j2))
    by_cases c1 : n ≤ j1
    · have c1' : (n : Int) ≤ (j1 : Int) := by omega
      have hdone := Lib.hid (fun c c0 hc hp => by rcases hkid.out c c0 hp with h | h <;> omega : ∀ c, 0 < c → c < n → Heap.par c = i → Heap.key K i ≤ Heap.key K c)
      clear hj1 hj2 hkid c1
      have HB := Lib.hid (down_end HD.out hdone.out hi0)
      clear HD hdone
      go_wp2_with fail
      go_ret
      exact DownPost.mk HQ.out HB.out
    · have c1' : ¬ (n : Int) ≤ (j1 : Int) := by omega
      have c1d : decide ((n : Int) ≤ (j1 : Int)) = false := decide_eq_false c1'
      by_cases c2 : j2 < n
      · have c2' : (j2 : Int) < (n : Int) := by omega
        by_cases c3 : Heap.key K j2 < Heap.key K j1
        · have hmin := Lib.hid (fun c c0 hc hp => by rcases hkid.out c c0 hp with h | h <;> rw [h] <;> omega : ∀ c, 0 < c → c < n → Heap.par c = i → Heap.key K j2 ≤ Heap.key K c)
          clear hkid
          have hm : (method 254 108 (.pointer (some ⟨cb, 5, none⟩)) "Less").run Try.prog wr = .ok (121, .slice (some ⟨g, 0, none⟩) N cap) wr := m_less 253 ⟨cb, 5, none⟩ _ wr HQ.out.q.c5
          have q := Lib.hid (HQ.out.less (i := j2) (k := j1) (by rw [← HN.out]; omega) (by rw [← HN.out]; omega) true (decide_eq_true c3))
          go_wp2_with fail
          refine q.out.mono ?_
          rintro e w5 ⟨rfl, h4⟩
          have HQ := Lib.hid h4
          clear h4 q hm
          clear c3
          by_cases hlt : Heap.key K j2 < Heap.key K i
          · skip
            have hm : (method 254 108 (.pointer (some ⟨cb, 5, none⟩)) "Less").run Try.prog w5 = .ok (121, .slice (some ⟨g, 0, none⟩) N cap) w5 := m_less 253 ⟨cb, 5, none⟩ _ w5 HQ.out.q.c5
            have q := Lib.hid (HQ.out.less (i := j2) (k := i) (by rw [← HN.out]; omega) (by rw [← HN.out]; omega) true (decide_eq_true hlt))
            go_wp2_with fail
            refine q.out.mono ?_
            rintro e w6 ⟨rfl, h4⟩
            have HQ := Lib.hid h4
            clear h4 q hm
            have HS := Lib.hid (Heap.down_step HD.out hi0 (by rw [HQ.out.len, ← HN.out]; exact hn) (by omega) (by omega) (by unfold Heap.par; omega) hmin.out hlt)
            have hm2 : (method 254 108 (.pointer (some ⟨cb, 5, none⟩)) "Swap").run Try.prog w6 = .ok (122, .slice (some ⟨g, 0, none⟩) N cap) w6 := m_swap 253 ⟨cb, 5, none⟩ _ w6 HQ.out.q.c5
            have q2 := Lib.hid (HQ.out.swap HN.out (i := i) (k := j2) hi (by omega) hn (by omega) hg HI.out)
            clear HQ hlt HD hmin
            go_wp2_with fail
            refine q2.out.mono ?_
            rintro e w7 ⟨rfl, h7⟩
            have H7 := Lib.hid (And.intro h7 HS.out)
            clear h7 q2 hm2 HS
            go_wp2_with fail
            go_roundw
            case rel => exact ⟨j2, _, rfl, by omega, by omega, H7⟩
            case measure => simp [intOf]; omega
          · skip
            have hm : (method 254 108 (.pointer (some ⟨cb, 5, none⟩)) "Less").run Try.prog w5 = .ok (121, .slice (some ⟨g, 0, none⟩) N cap) w5 := m_less 253 ⟨cb, 5, none⟩ _ w5 HQ.out.q.c5
            have q := Lib.hid (HQ.out.less (i := j2) (k := i) (by rw [← HN.out]; omega) (by rw [← HN.out]; omega) false (decide_eq_false hlt))
            go_wp2_with fail
            refine q.out.mono ?_
            rintro e w6 ⟨rfl, h4⟩
            have HQ := Lib.hid h4
            clear h4 q hm
            have hdone := Lib.hid (fun c c0 hc hp => by have := hmin.out c c0 hc hp; omega : ∀ c, 0 < c → c < n → Heap.par c = i → Heap.key K i ≤ Heap.key K c)
            clear hlt hmin
            have HB := Lib.hid (down_end HD.out hdone.out hi0)
            clear HD hdone
            go_wp2_with fail
            go_ret
            exact DownPost.mk HQ.out HB.out
        · have hmin := Lib.hid (fun c c0 hc hp => by rcases hkid.out c c0 hp with h | h <;> rw [h] <;> omega : ∀ c, 0 < c → c < n → Heap.par c = i → Heap.key K j1 ≤ Heap.key K c)
          clear hkid
          have hm : (method 254 108 (.pointer (some ⟨cb, 5, none⟩)) "Less").run Try.prog wr = .ok (121, .slice (some ⟨g, 0, none⟩) N cap) wr := m_less 253 ⟨cb, 5, none⟩ _ wr HQ.out.q.c5
          have q := Lib.hid (HQ.out.less (i := j2) (k := j1) (by rw [← HN.out]; omega) (by rw [← HN.out]; omega) false (decide_eq_false c3))
          go_wp2_with fail
          refine q.out.mono ?_
          rintro e w5 ⟨rfl, h4⟩
          have HQ := Lib.hid h4
          clear h4 q hm
          clear c3
          by_cases hlt : Heap.key K j1 < Heap.key K i
          · skip
            have hm : (method 254 108 (.pointer (some ⟨cb, 5, none⟩)) "Less").run Try.prog w5 = .ok (121, .slice (some ⟨g, 0, none⟩) N cap) w5 := m_less 253 ⟨cb, 5, none⟩ _ w5 HQ.out.q.c5
            have q := Lib.hid (HQ.out.less (i := j1) (k := i) (by rw [← HN.out]; omega) (by rw [← HN.out]; omega) true (decide_eq_true hlt))
            go_wp2_with fail
            refine q.out.mono ?_
            rintro e w6 ⟨rfl, h4⟩
            have HQ := Lib.hid h4
            clear h4 q hm
            have HS := Lib.hid (Heap.down_step HD.out hi0 (by rw [HQ.out.len, ← HN.out]; exact hn) (by omega) (by omega) (by unfold Heap.par; omega) hmin.out hlt)
            have hm2 : (method 254 108 (.pointer (some ⟨cb, 5, none⟩)) "Swap").run Try.prog w6 = .ok (122, .slice (some ⟨g, 0, none⟩) N cap) w6 := m_swap 253 ⟨cb, 5, none⟩ _ w6 HQ.out.q.c5
            have q2 := Lib.hid (HQ.out.swap HN.out (i := i) (k := j1) hi (by omega) hn (by omega) hg HI.out)
            clear HQ hlt HD hmin
            go_wp2_with fail
            refine q2.out.mono ?_
            rintro e w7 ⟨rfl, h7⟩
            have H7 := Lib.hid (And.intro h7 HS.out)
            clear h7 q2 hm2 HS
            go_wp2_with fail
            go_roundw
            case rel => exact ⟨j1, _, rfl, by omega, by omega, H7⟩
            case measure => simp [intOf]; omega
          · skip
            have hm : (method 254 108 (.pointer (some ⟨cb, 5, none⟩)) "Less").run Try.prog w5 = .ok (121, .slice (some ⟨g, 0, none⟩) N cap) w5 := m_less 253 ⟨cb, 5, none⟩ _ w5 HQ.out.q.c5
            have q := Lib.hid (HQ.out.less (i := j1) (k := i) (by rw [← HN.out]; omega) (by rw [← HN.out]; omega) false (decide_eq_false hlt))
            go_wp2_with fail
            refine q.out.mono ?_
            rintro e w6 ⟨rfl, h4⟩
            have HQ := Lib.hid h4
            clear h4 q hm
            have hdone := Lib.hid (fun c c0 hc hp => by have := hmin.out c c0 hc hp; omega : ∀ c, 0 < c → c < n → Heap.par c = i → Heap.key K i ≤ Heap.key K c)
            clear hlt hmin
            have HB := Lib.hid (down_end HD.out hdone.out hi0)
            clear HD hdone
            go_wp2_with fail
            go_ret
            exact DownPost.mk HQ.out HB.out
      · have c2' : ¬ (j2 : Int) < (n : Int) := by omega
        have c2d : decide ((j2 : Int) < (n : Int)) = false := decide_eq_false c2'
        have hmin := Lib.hid (fun c c0 hc hp => by rcases hkid.out c c0 hp with h | h <;> first | (rw [h]; exact Int.le_refl _) | omega : ∀ c, 0 < c → c < n → Heap.par c = i → Heap.key K j1 ≤ Heap.key K c)
        clear hkid
        by_cases hlt : Heap.key K j1 < Heap.key K i
        · skip
          have hm : (method 254 108 (.pointer (some ⟨cb, 5, none⟩)) "Less").run Try.prog wr = .ok (121, .slice (some ⟨g, 0, none⟩) N cap) wr := m_less 253 ⟨cb, 5, none⟩ _ wr HQ.out.q.c5
          have q := Lib.hid (HQ.out.less (i := j1) (k := i) (by rw [← HN.out]; omega) (by rw [← HN.out]; omega) true (decide_eq_true hlt))
          go_wp2_with fail
          refine q.out.mono ?_
          rintro e w6 ⟨rfl, h4⟩
          have HQ := Lib.hid h4
          clear h4 q hm
          have HS := Lib.hid (Heap.down_step HD.out hi0 (by rw [HQ.out.len, ← HN.out]; exact hn) (by omega) (by omega) (by unfold Heap.par; omega) hmin.out hlt)
          have hm2 : (method 254 108 (.pointer (some ⟨cb, 5, none⟩)) "Swap").run Try.prog w6 = .ok (122, .slice (some ⟨g, 0, none⟩) N cap) w6 := m_swap 253 ⟨cb, 5, none⟩ _ w6 HQ.out.q.c5
          have q2 := Lib.hid (HQ.out.swap HN.out (i := i) (k := j1) hi (by omega) hn (by omega) hg HI.out)
          clear HQ hlt HD hmin
          go_wp2_with fail
          refine q2.out.mono ?_
          rintro e w7 ⟨rfl, h7⟩
          have H7 := Lib.hid (And.intro h7 HS.out)
          clear h7 q2 hm2 HS
          go_wp2_with fail
          go_roundw
          case rel => exact ⟨j1, _, rfl, by omega, by omega, H7⟩
          case measure => simp [intOf]; omega
        · skip
          have hm : (method 254 108 (.pointer (some ⟨cb, 5, none⟩)) "Less").run Try.prog wr = .ok (121, .slice (some ⟨g, 0, none⟩) N cap) wr := m_less 253 ⟨cb, 5, none⟩ _ wr HQ.out.q.c5
          have q := Lib.hid (HQ.out.less (i := j1) (k := i) (by rw [← HN.out]; omega) (by rw [← HN.out]; omega) false (decide_eq_false hlt))
          go_wp2_with fail
          refine q.out.mono ?_
          rintro e w6 ⟨rfl, h4⟩
          have HQ := Lib.hid h4
          clear h4 q hm
          have hdone := Lib.hid (fun c c0 hc hp => by have := hmin.out c c0 hc hp; omega : ∀ c, 0 < c → c < n → Heap.par c = i → Heap.key K i ≤ Heap.key K c)
          clear hlt hmin
          have HB := Lib.hid (down_end HD.out hdone.out hi0)
          clear HD hdone
          go_wp2_with fail
          go_ret
          exact DownPost.mk HQ.out HB.out

end Go.Proofs.Ytlickjaopbcanaa

namespace Go.Proofs.Ytlickjaopbcanaa
open Go Go.RowKit

theorem QAt.go {B cb n : Nat} {w : World} {five : List Value} {v : Value} {K : Heap.KL} {fr : Nat → List Value} {S : List Nat} (h : QAt B w cb five v K fr) : QGo B w w cb five v K K fr n S := ⟨h, .refl _, fun _ _ => rfl, ⟨rfl, rfl, rfl, Nat.le_refl _, fun _ _ _ => rfl⟩⟩

set_option maxRecDepth 100000 in
set_option maxHeartbeats 8000000 in
theorem fix_any {B cb : Nat} {w : World} {five : List Value} {g cap N : Nat} {K : Heap.KL} {fr : Nat → List Value} {S : List Nat} (hN : N = K.length) (h : QAt B w cb five (.slice (some ⟨g, 0, none⟩) N cap) K fr) (i : Nat) (hi : i < N) (hu : Heap.GapInv K N i) (hg : g ∈ S) (hI : ∀ x ∈ K, x.1 ∈ S) :
    Calls Try.prog 77 #[ifq cb, .int .i64 i] w fun e w' => e = .returned (.tuple #[]) ∧ ∃ K', QGo B w w' cb five (.slice (some ⟨g, 0, none⟩) N cap) K K' fr N S ∧ Heap.Heap K' N := by
  have hb : N ≤ 256 := by rw [hN]; exact h.len
  have hm : (method 254 108 (.pointer (some ⟨cb, 5, none⟩)) "Len").run Try.prog w = .ok (120, .slice (some ⟨g, 0, none⟩) N cap) w := m_len 253 ⟨cb, 5, none⟩ _ w h.c5
  have q := Lib.hid (down_any (n := N) hN h.go i hi (Nat.le_refl _) hu hg hI hb)
  have HI := Lib.hid hI
  have HN := Lib.hid hN
  clear h hu hI hN
  unfold ifq at *
  go_enter Try.func77, Try.ntmps77
  go_wp2_with fail
  refine (qlen_any _ _ _ _).mono ?_
  rintro e w1 ⟨rfl, rfl⟩
  go_wp2_with fail
  refine q.out.mono ?_
  rintro e w2 ⟨r, K', rfl, hq, h1, h2⟩
  clear q hm
  cases r with
  | true =>
    have H := Lib.hid (And.intro hq (h1 rfl))
    clear hq h1 h2
    go_wp2_with fail
    go_end0
    exact ⟨rfl, _, H.out.1, H.out.2⟩
  | false =>
    have q := Lib.hid (up_any HN.out hq i hi (Nat.le_refl _) (h2 rfl) hg HI.out hb)
    unfold ifq at q
    clear hq h1 h2
    go_wp2_with fail
    refine q.out.mono ?_
    rintro e w3 ⟨rfl, K3, h3, h4⟩
    have H := Lib.hid (And.intro h3 h4)
    clear h3 h4 q
    go_wp2_with fail
    go_end0
    exact ⟨rfl, _, H.out.1, H.out.2⟩

end Go.Proofs.Ytlickjaopbcanaa

namespace Go.Proofs.Ytlickjaopbcanaa
open Go Go.RowKit

theorem m_pop (f : Nat) (a : Addr) (w : World) : (method (f + 1) 108 (.pointer (some a)) "Pop").run Try.prog w = .ok (123, .pointer (some a)) w := by kernel_rfl
theorem m_push (f : Nat) (a : Addr) (w : World) : (method (f + 1) 108 (.pointer (some a)) "Push").run Try.prog w = .ok (124, .pointer (some a)) w := by kernel_rfl

def popW (w : World) (cb g n cap x : Nat) : World := (w.setCell ⟨x, 5, none⟩ (.int .i64 (-1))).setCell ⟨cb, 5, none⟩ (.slice (some ⟨g, 0, none⟩) n cap)
set_option maxHeartbeats 2000000 in
theorem qpop_raw (cb g n N cap x : Nat) (w : World) (u : Value) (hN : N = n + 1) (hb : N ≤ 256) (hc : w.cell? ⟨cb, 5, none⟩ = some (.slice (some ⟨g, 0, none⟩) N cap)) (hf : w.frozen? ⟨cb, 5, none⟩ = false) (ha : w.cell? ⟨g, n, none⟩ = some (ptr x)) (hx : w.cell? ⟨x, 5, none⟩ = some u) (hxf : w.frozen? ⟨x, 5, none⟩ = false) (hxc : x ≠ cb) (hcap : N ≤ cap) :
    Calls Try.prog 123 #[.pointer (some ⟨cb, 5, none⟩)] w fun e w' => e = .returned (.iface 83 (ptr x)) ∧ w' = popW w cb g n cap x := by
  have n1 : IntKind.i64.wrap ((N : Int) - 1) = (n : Int) := by rw [IntWalk.i64_in _ (by omega)]; omega
  have n1' : (N : Int) - 1 = (n : Int) := by omega
  have c1 : n ≤ cap := by omega
  have c2 : n < N := by omega
  have c3 : (n : Int) < (N : Int) := by omega
  have c4 : ¬ (n : Int) < 0 := by omega
  clear hN
  unfold ptr popW at *
  go_enter Try.func123, Try.ntmps123
  go_wp2_with fail
  go_ret
  exact ⟨rfl, rfl⟩

theorem ownsRow_short {w : World} {base g cap n m : Nat} {e : TypeId} {xs : List Value} (h : w.ownsRow base e 1 (.slice (some ⟨g, 0, none⟩) n cap) n xs) (hm : m ≤ n) : w.ownsRow base e 1 (.slice (some ⟨g, 0, none⟩) m cap) m (xs.take m) := by
  obtain ⟨h1, h2⟩ := h
  refine ⟨by rw [List.length_take, h1]; omega, ?_⟩
  rcases h2 with ⟨hv, _⟩ | ⟨g', cap', cur, hv, hb, hg, hc1, hc2, hsz, htk⟩
  · cases hv
  · cases hv
    refine .inr ⟨g, cap, cur, rfl, hb, hg, by omega, hc2, hsz, ?_⟩
    rw [← htk, List.take_take]
    congr 1
    omega
theorem ownsRow_cap {w : World} {base g cap n : Nat} {e : TypeId} {xs : List Value} (h : w.ownsRow base e 1 (.slice (some ⟨g, 0, none⟩) n cap) n xs) : n ≤ cap := by
  rcases h.2 with ⟨hv, _⟩ | ⟨g', cap', cur, hv, hb, hg, hc1, _⟩
  · cases hv
  · cases hv
    exact hc1
theorem set_five (l : List Value) (a b : Value) (h : l.length = 5) : (l ++ [a]).set 5 b = l ++ [b] := by
  rw [List.set_append, if_neg (by omega), h]
  rfl
theorem getD_take (K : Heap.KL) (n i : Nat) (h : i < n) : (K.take n).getD i (0, 0) = K.getD i (0, 0) := by
  simp [List.getD, h]
/-- A buffer that is out of the queue. -/
def Alone (w : World) (fr : Nat → List Value) (x : Nat × Int) : Prop := Row w x.1 88 (fr x.1 ++ [.int .i64 x.2, .int .i64 (-1)])
theorem QAt.pop {B cb : Nat} {w : World} {five : List Value} {K : Heap.KL} {fr : Nat → List Value} {g cap N n : Nat} (h : QAt B w cb five (.slice (some ⟨g, 0, none⟩) N cap) K fr) (hN : N = K.length) (hn : N = n + 1) :
    QAt B (popW w cb g n cap (K.getD n (0, 0)).1) cb five (.slice (some ⟨g, 0, none⟩) n cap) (K.take n) fr ∧ Alone (popW w cb g n cap (K.getD n (0, 0)).1) fr (K.getD n (0, 0)) := by
  have hl : (K.take n).length = n := by rw [List.length_take]; omega
  have hi : n < K.length := by omega
  have hmem : ∀ x, x ∈ K.take n → x ∈ K := fun x hx => List.mem_of_mem_take hx
  have x1 := h.ids _ (h.at hi)
  have hgc : g ≠ cb := fun e => h.ne (by rw [e]; rfl)
  have hgx : g ≠ (K.getD n (0, 0)).1 := fun e => x1.2.1 (by rw [← e]; rfl)
  unfold popW
  refine ⟨⟨h.own, h.fl, ?_, ?_, ?_, fun x hx => h.frl x (hmem x hx), h.nd.sublist (List.take_sublist _ _), h.ne, fun x hx => h.ids x (hmem x hx), fun x hx => h.keys x (hmem x hx), by rw [hl]; have := h.len; omega⟩, ?_⟩
  · have r := (h.cells.other (a := ⟨(K.getD n (0, 0)).1, 5, none⟩) x1.1 (.int .i64 (-1))).set 5 (.slice (some ⟨g, 0, none⟩) n cap)
    rw [set_five _ _ _ h.fl] at r
    exact r
  · rw [hl]
    have r := h.row
    rw [← hN] at r
    have r2 := ownsRow_short r (m := n) (by omega)
    have e : (ptrs K).take n = ptrs (K.take n) := by unfold ptrs; rw [List.map_take]
    rw [e] at r2
    exact ownsRow_setCell_other (ownsRow_setCell_other r2 (a := ⟨(K.getD n (0, 0)).1, 5, none⟩) (by simp [Value.ownBlock]; exact hgx) _) (a := ⟨cb, 5, none⟩) (by simp [Value.ownBlock]; exact hgc) _
  · intro j hj
    rw [hl] at hj
    rw [getD_take K n j hj]
    have hj' : j < K.length := by omega
    exact ((h.buf j hj').other (a := ⟨(K.getD n (0, 0)).1, 5, none⟩) (h.ne_ids hi hj' (by omega)) _).other (a := ⟨cb, 5, none⟩) (h.ids _ (h.at hj')).1.symm _
  · have r := ((h.buf n hi).set 5 (.int .i64 (-1))).other (a := ⟨cb, 5, none⟩) x1.1.symm (.slice (some ⟨g, 0, none⟩) n cap)
    rw [set5 _ _ _ _ (h.frl _ (h.at hi))] at r
    exact r
/-- Pop. -/
theorem pop_any {B cb : Nat} {w : World} {five : List Value} {K : Heap.KL} {fr : Nat → List Value} {g cap N n : Nat} {S : List Nat} (h : QAt B w cb five (.slice (some ⟨g, 0, none⟩) N cap) K fr) (hN : N = K.length) (hn : N = n + 1) (hc : cb ∈ S) (hx : (K.getD n (0, 0)).1 ∈ S) :
    Calls Try.prog 123 #[.pointer (some ⟨cb, 5, none⟩)] w fun e w' => e = .returned (.iface 83 (ptr (K.getD n (0, 0)).1)) ∧ QAt B w' cb five (.slice (some ⟨g, 0, none⟩) n cap) (K.take n) fr ∧ Alone w' fr (K.getD n (0, 0)) ∧ Only S w w' := by
  have hi : n < K.length := by omega
  have r := h.row
  rw [← hN] at r
  refine (qpop_raw cb g n N cap _ w _ hn (by rw [hN]; exact h.len) h.c5 h.f5 (own_cell1 r (ptrs_at K n hi)) (h.place hi) (h.placeF hi) (h.ids _ (h.at hi)).1 (ownsRow_cap r)).mono ?_
  rintro e w' ⟨rfl, rfl⟩
  obtain ⟨h1, h2⟩ := h.pop hN hn
  exact ⟨rfl, h1, h2, (Only.setCell _ ⟨_, 5, none⟩ _ hx).trans (Only.setCell _ ⟨_, 5, none⟩ _ hc)⟩

end Go.Proofs.Ytlickjaopbcanaa

namespace Go.Proofs.Ytlickjaopbcanaa
open Go Go.RowKit

/-- What Remove leaves. -/
structure Rem (B cb g cap n : Nat) (w w' : World) (five : List Value) (K : Heap.KL) (x : Nat × Int) (fr : Nat → List Value) (S : List Nat) (K' : Heap.KL) : Prop where
  perm : K.Perm (x :: K')
  heap : Heap.Heap K' K'.length
  q : QAt B w' cb five (.slice (some ⟨g, 0, none⟩) n cap) K' fr
  alone : Alone w' fr x
  only : Only S w w'
theorem Rem.mk' {B cb g cap n N : Nat} {w w1 w' : World} {five : List Value} {K K1 : Heap.KL} {x : Nat × Int} {fr : Nat → List Value} {S : List Nat} (hN : N = K.length) (hn : N = n + 1) (hp : K1.Perm K) (hh : Heap.Heap K1 n) (hx : K1.getD n (0, 0) = x) (h1 : Only S w w1)
    (h : QAt B w' cb five (.slice (some ⟨g, 0, none⟩) n cap) (K1.take n) fr ∧ Alone w' fr x ∧ Only S w1 w') : Rem B cb g cap n w w' five K x fr S (K1.take n) := by
  have hl : K1.length = N := by rw [hp.length_eq, hN]
  refine ⟨?_, ?_, h.1, h.2.1, h1.trans h.2.2⟩
  · refine hp.symm.trans ?_
    have e := Heap.take_snoc K1 n (by omega)
    rw [hx] at e
    calc K1.Perm (K1.take n ++ [x]) := by rw [← e]
      _ |>.Perm (x :: K1.take n) := List.perm_append_singleton _ _
  · have : (K1.take n).length = n := by rw [List.length_take]; omega
    rw [this]
    exact Heap.heap_take hh

set_option maxRecDepth 100000 in
set_option maxHeartbeats 8000000 in
theorem remove_any {B cb : Nat} {w : World} {five : List Value} {g cap N n : Nat} {K : Heap.KL} {fr : Nat → List Value} {S : List Nat} (hN : N = K.length) (hn : N = n + 1) (h : QAt B w cb five (.slice (some ⟨g, 0, none⟩) N cap) K fr) (i : Nat) (hi : i < N) (hu : Heap.GapInv K N i) (hg : g ∈ S) (hc : cb ∈ S) (hI : ∀ x ∈ K, x.1 ∈ S) :
    Calls Try.prog 79 #[ifq cb, .int .i64 i] w fun e w' => e = .returned (.iface 83 (ptr (K.getD i (0, 0)).1)) ∧ ∃ K', Rem B cb g cap n w w' five K (K.getD i (0, 0)) fr S K' := by
  have hb : N ≤ 256 := by rw [hN]; exact h.len
  have n1 : IntKind.i64.wrap ((N : Int) - 1) = (n : Int) := by rw [IntWalk.i64_in _ (by omega)]; omega
  have n1' : (N : Int) - 1 = (n : Int) := by omega
  have hm : (method 254 108 (.pointer (some ⟨cb, 5, none⟩)) "Len").run Try.prog w = .ok (120, .slice (some ⟨g, 0, none⟩) N cap) w := m_len 253 ⟨cb, 5, none⟩ _ w h.c5
  have hnl : n < K.length := by omega
  have hil : i < K.length := by omega
  obtain ⟨x, hx0⟩ : ∃ x, K.getD i (0, 0) = x := ⟨_, rfl⟩
  have HX := Lib.hid (hI _ (h.at hil))
  rw [hx0] at HX ⊢
  by_cases hin : i = n
  · subst hin
    have q0 := pop_any h hN hn hc (hI _ (h.at hnl))
    rw [hx0] at q0
    have q := Lib.hid q0
    have HX0 := Lib.hid hx0
    clear q0 hx0
    have hF := Lib.hid (Heap.gap_last (n := i) (by rw [← hn]; exact hu))
    have HN := Lib.hid hN
    have Hn := Lib.hid hn
    clear h hu hI hN hn
    have hm2 : (method 254 108 (.pointer (some ⟨cb, 5, none⟩)) "Pop").run Try.prog w = .ok (123, .pointer (some ⟨cb, 5, none⟩)) w := m_pop 253 ⟨cb, 5, none⟩ w
    unfold ifq at *
    go_enter Try.func79, Try.ntmps79
    go_wp2_with fail
    refine (qlen_any _ _ _ _).mono ?_
    rintro e w1 ⟨rfl, rfl⟩
    go_wp2_with fail
    refine q.out.mono ?_
    rintro e w2 ⟨rfl, h2⟩
    have H := Lib.hid h2
    clear h2 q hm hm2
    go_wp2_with fail
    go_ret
    exact ⟨rfl, _, Rem.mk' HN.out Hn.out (.refl _) hF.out HX0.out (Only.refl _ _) H.out⟩
  · have hi' : i < n := by omega
    have hne : ((n : Int) == (i : Int)) = false := by rw [beq_eq_false_iff_ne]; omega
    have hms : (method 254 108 (.pointer (some ⟨cb, 5, none⟩)) "Swap").run Try.prog w = .ok (122, .slice (some ⟨g, 0, none⟩) N cap) w := m_swap 253 ⟨cb, 5, none⟩ _ w h.c5
    have q := Lib.hid ((h.go (n := N) (S := S)).swap hN (i := i) (k := n) hi (by omega) (Nat.le_refl _) hin hg hI)
    have hG := Lib.hid (Heap.gap_swapG (n := n) (by rw [← hn]; exact hu) (by omega) hi')
    have hsl := Lib.hid ((Heap.swap_last K i n (by omega) hi').trans hx0)
    clear hx0
    have hpp := Lib.hid (Heap.swap_perm K i n hil hnl)
    have HN := Lib.hid hN
    have Hn := Lib.hid hn
    have HI := Lib.hid (fun x hx => hI x (hpp.out.mem_iff.1 hx) : ∀ x ∈ Heap.swapL K i n, x.1 ∈ S)
    have HL := Lib.hid (by rw [Heap.swap_len, hN] : N = (Heap.swapL K i n).length)
    have hnN : n ≤ N := by omega
    clear h hu hI hN hn
    unfold ifq at *
    go_enter Try.func79, Try.ntmps79
    go_wp2_with fail
    refine (qlen_any _ _ _ _).mono ?_
    rintro e w1 ⟨rfl, rfl⟩
    go_wp2_with fail
    refine q.out.mono ?_
    rintro e w2 ⟨rfl, h2⟩
    have H2 := Lib.hid h2.only
    have q := Lib.hid (down_any (n := n) HL.out h2.q.go i hi' hnN hG.out hg HI.out hb)
    unfold ifq at q
    clear h2 hm hms
    go_wp2_with fail
    refine q.out.mono ?_
    rintro e w3 ⟨r, K', rfl, hq, h1, h2⟩
    clear q
    cases r with
    | true =>
      have hh := Lib.hid (h1 rfl)
      clear h1 h2
      have hx := Lib.hid ((hq.rest n (Nat.le_refl _)).trans hsl.out)
      have hp := Lib.hid (hq.perm.trans hpp.out)
      have HO := Lib.hid (H2.out.trans hq.only)
      have HLK : N = K'.length := by rw [hq.len]; exact HL.out
      have q0 := pop_any hq.q HLK Hn.out hc (by rw [hx.out]; exact HX.out)
      rw [hx.out] at q0
      have q := Lib.hid q0
      clear q0
      have hm2 : (method 254 108 (.pointer (some ⟨cb, 5, none⟩)) "Pop").run Try.prog w3 = .ok (123, .pointer (some ⟨cb, 5, none⟩)) w3 := m_pop 253 ⟨cb, 5, none⟩ w3
      clear hq HLK
      go_wp2_with fail
      refine q.out.mono ?_
      rintro e w4 ⟨rfl, h4⟩
      have H := Lib.hid h4
      clear h4 q hm2
      go_wp2_with fail
      go_ret
      exact ⟨rfl, _, Rem.mk' HN.out Hn.out hp.out hh.out hx.out HO.out H.out⟩
    | false =>
      have q := Lib.hid (up_any HL.out hq i hi' hnN (h2 rfl) hg HI.out hb)
      unfold ifq at q
      clear hq h1 h2
      go_wp2_with fail
      refine q.out.mono ?_
      rintro e w3 ⟨rfl, K', hq, h1⟩
      have hh := Lib.hid h1
      clear q h1
      have hx := Lib.hid ((hq.rest n (Nat.le_refl _)).trans hsl.out)
      have hp := Lib.hid (hq.perm.trans hpp.out)
      have HO := Lib.hid (H2.out.trans hq.only)
      have HLK : N = K'.length := by rw [hq.len]; exact HL.out
      have q0 := pop_any hq.q HLK Hn.out hc (by rw [hx.out]; exact HX.out)
      rw [hx.out] at q0
      have q := Lib.hid q0
      clear q0
      have hm2 : (method 254 108 (.pointer (some ⟨cb, 5, none⟩)) "Pop").run Try.prog w3 = .ok (123, .pointer (some ⟨cb, 5, none⟩)) w3 := m_pop 253 ⟨cb, 5, none⟩ w3
      clear hq HLK
      go_wp2_with fail
      refine q.out.mono ?_
      rintro e w4 ⟨rfl, h4⟩
      have H := Lib.hid h4
      clear h4 q hm2
      go_wp2_with fail
      go_ret
      exact ⟨rfl, _, Rem.mk' HN.out Hn.out hp.out hh.out hx.out HO.out H.out⟩

end Go.Proofs.Ytlickjaopbcanaa

namespace Go.Proofs.Ytlickjaopbcanaa
open Go Go.RowKit

theorem info_ptr : (Try.prog.info? 83).map (fun i => (i.zero, i.size, i.bytes)) = some (some (.pointer none), 1, 8) := by kernel_rfl

theorem as_buf (v : Value) (w : World) : (Instr.typeAssert (.iface 83 v) 20 83 true).run Try.prog w = .ok (.tuple #[v, .bool true]) w := by
  have := Try.underlying83
  simp [Instr.typeAssert, go_sem]
set_option maxRecDepth 100000 in
set_option maxHeartbeats 2000000 in
theorem qpush_raw (B cb n x : Nat) (w : World) (u v : Value) (xs : List Value) (hb : n ≤ 256) (hB : B ≤ w.heap.size) (hc : w.cell? ⟨cb, 5, none⟩ = some v) (hf : w.frozen? ⟨cb, 5, none⟩ = false) (hcs : cb < w.heap.size) (hr : w.ownsRow B 83 1 v n xs) (hx : w.cell? ⟨x, 5, none⟩ = some u) (hxf : w.frozen? ⟨x, 5, none⟩ = false) (hxc : x ≠ cb) (hvx : v.ownBlock ≠ some x) (hvc : v.ownBlock ≠ some cb) :
    Calls Try.prog 124 #[.pointer (some ⟨cb, 5, none⟩), .iface 83 (ptr x)] w fun e w' => e = .returned (.tuple #[]) ∧ ∃ g' c' w1, ((w.setCell ⟨x, 5, none⟩ (.int .i64 n)).alloc (.cells #[ptr x] 83)).grownBy w1 v.ownBlock ∧ w1.ownsRow B 83 1 (.slice (some ⟨g', 0, none⟩) (n + 1) c') (n + 1) (xs ++ [ptr x]) ∧ (v.ownBlock = some g' ∨ g' = w.heap.size + 1) ∧ w' = w1.setCell ⟨cb, 5, none⟩ (.slice (some ⟨g', 0, none⟩) (n + 1) c') := by
  obtain ⟨i0, hi0, hz0, hz1, hz2⟩ := info_parts info_ptr
  obtain ⟨ad, cap, hv⟩ : ∃ ad cap, v = .slice ad n cap := by
    rcases hr.2 with ⟨rfl, rfl⟩ | ⟨g, cap, cur, rfl, _⟩
    · exact ⟨_, _, rfl⟩
    · exact ⟨_, _, rfl⟩
  subst hv
  have hone : ∀ u ∈ ([ptr x] : List Value), u.oneCell' = true := by simp [Value.oneCell', ptr]
  unfold ptr at *
  have hta := as_buf (.pointer (some ⟨x, 0, none⟩)) w
  go_enter Try.func124, Try.ntmps124
  have hrow := ownsRow_setCell_other hr (a := ⟨x, 5, none⟩) hvx (.int .i64 n)
  have HR := Lib.hid hrow
  have HB := Lib.hid hB
  clear hr hrow hB
  go_wp2_with (first
    | (at_builtin; refine wpList_append_lies _ rfl _ _ 39 rfl B 83 i0 (.pointer none) 1 8 Try.underlying39 hi0 hz0 hz1 hz2 rfl (by decide) _ n _ rfl (HR.out.alloc _) ⟨w.heap.size, 0, none⟩ 1 1 [.pointer (some ⟨x, 0, none⟩)] rfl rfl
        (World.news_of_block (by have := heap_alloc_new (w.setCell ⟨x, 5, none⟩ (.int .i64 n)) (.cells #[.pointer (some ⟨x, 0, none⟩)] 83); rwa [World.size_setCell] at this)) hone (by decide) (by unfold maxLen; omega) (by omega) (by have := HB.out; simp; omega) _ rfl ?_))
  intro g' c' w1 hown hgrow hat _
  have hat' : (Value.slice ad n cap).ownBlock = some g' ∨ g' = w.heap.size + 1 := by simpa using hat
  have HAT := Lib.hid hat'
  clear hat hat'
  have hcx : (some cb : Option Nat) ≠ (Value.slice ad n cap).ownBlock := fun e => hvc e.symm
  have hsz : cb < ((w.setCell ⟨x, 5, none⟩ (.int .i64 n)).alloc (.cells #[.pointer (some ⟨x, 0, none⟩)] 83)).heap.size := by simp; omega
  have k1 := hgrow.block cb hsz hcx
  rw [Below.heap_alloc _ _ _ (by simp; omega), Below.heap_setCell _ _ _ _ (fun e => hxc (by exact e.symm))] at k1
  have hc1 : w1.cell? ⟨cb, 5, none⟩ = some (.slice ad n cap) := by
    rw [← hc]; simp only [World.cell?, k1]
  have hf1 : w1.frozen? ⟨cb, 5, none⟩ = false := by
    rw [← hf]; simp only [World.frozen?, k1]
  have HG := Lib.hid hgrow
  have HO := Lib.hid hown
  clear hgrow hown k1 hsz
  go_wp2_with fail
  go_end0
  exact ⟨rfl, _, _, w1, HG.out, HO.out, HAT.out, rfl⟩

/-- What a buffer must be that comes into the queue. -/
structure Comes (B cb : Nat) (w : World) (v : Value) (K : Heap.KL) (x : Nat × Int) (fr : Nat → List Value) : Prop where
  alone : Alone w fr x
  frl : (fr x.1).length = 4
  new : ∀ y ∈ K, y.1 ≠ x.1
  ne : x.1 ≠ cb
  row : v.ownBlock ≠ some x.1
  own : B ≤ x.1
  key : 0 ≤ x.2 ∧ x.2 ≤ 1000000000000
theorem getD_app (K : Heap.KL) (x : Nat × Int) (i : Nat) (h : i < K.length) : (K ++ [x]).getD i (0, 0) = K.getD i (0, 0) := by
  simp [List.getD, List.getElem?_append_left h]
theorem getD_end (K : Heap.KL) (x : Nat × Int) : (K ++ [x]).getD K.length (0, 0) = x := by simp [List.getD]
theorem QAt.push {B cb : Nat} {w w1 : World} {five : List Value} {v : Value} {K : Heap.KL} {x : Nat × Int} {fr : Nat → List Value} {g' c' : Nat} (h : QAt B w cb five v K fr) (hx : Comes B cb w v K x fr) (hl : K.length < 256)
    (hg : ((w.setCell ⟨x.1, 5, none⟩ (.int .i64 K.length)).alloc (.cells #[ptr x.1] 83)).grownBy w1 v.ownBlock) (ho : w1.ownsRow B 83 1 (.slice (some ⟨g', 0, none⟩) (K.length + 1) c') (K.length + 1) (ptrs K ++ [ptr x.1])) (hat : v.ownBlock = some g' ∨ g' = w.heap.size + 1) :
    QAt B (w1.setCell ⟨cb, 5, none⟩ (.slice (some ⟨g', 0, none⟩) (K.length + 1) c')) cb five (.slice (some ⟨g', 0, none⟩) (K ++ [x]).length c') (K ++ [x]) fr := by
  have hlen : (K ++ [x]).length = K.length + 1 := by simp
  have hgn : ∀ {k : Nat}, k < w.heap.size → v.ownBlock ≠ some k → g' ≠ k := fun {k} hk hv e => by
    rcases hat with h1 | h1
    · exact hv (by rw [h1, e])
    · omega
  have hrow : ∀ {k : Nat} {T : TypeId} {cs : List Value}, Row (w.setCell ⟨x.1, 5, none⟩ (.int .i64 K.length)) k T cs → v.ownBlock ≠ some k → k ≠ cb → Row (w1.setCell ⟨cb, 5, none⟩ (.slice (some ⟨g', 0, none⟩) (K.length + 1) c')) k T cs := fun {k T cs} r hv hc =>
    ((r.alloc _).grown hg (fun e => hv e.symm)).other (a := ⟨cb, 5, none⟩) (Ne.symm hc) _
  have hgc : g' ≠ cb := hgn h.cells.lt h.ne
  refine ⟨h.own, h.fl, ?_, ?_, ?_, ?_, ?_, ?_, ?_, ?_, by omega⟩
  · have r := (((h.cells.other (a := ⟨x.1, 5, none⟩) hx.ne (.int .i64 K.length)).alloc (.cells #[ptr x.1] 83)).grown hg (fun e => h.ne e.symm)).set 5 (.slice (some ⟨g', 0, none⟩) (K.length + 1) c')
    rw [set_five _ _ _ h.fl] at r
    rw [hlen]
    exact r
  · rw [hlen]
    have e : ptrs (K ++ [x]) = ptrs K ++ [ptr x.1] := by simp [ptrs]
    rw [e]
    exact ownsRow_setCell_other ho (a := ⟨cb, 5, none⟩) (by simp [Value.ownBlock]; exact hgc) _
  · intro j hj
    by_cases hjl : j < K.length
    · rw [getD_app K x j hjl]
      exact hrow ((h.buf j hjl).other (a := ⟨x.1, 5, none⟩) (hx.new _ (h.at hjl)).symm _) (h.ids _ (h.at hjl)).2.1 (h.ids _ (h.at hjl)).1
    · obtain rfl : j = K.length := by omega
      rw [getD_end]
      have r := Row.set hx.alone 5 (.int .i64 K.length)
      rw [set5 _ _ _ _ hx.frl] at r
      exact hrow r hx.row hx.ne
  · intro y hy
    rcases List.mem_append.1 hy with h1 | h1
    · exact h.frl y h1
    · rw [List.mem_singleton.1 h1]; exact hx.frl
  · rw [List.pairwise_append]
    refine ⟨h.nd, by simp, fun a ha b hb => ?_⟩
    rw [List.mem_singleton.1 hb]
    exact hx.new a ha
  · intro e
    injection e with e
    exact hgc e
  · intro y hy
    have hk : ∀ {y : Nat × Int}, y.1 < w.heap.size → v.ownBlock ≠ some y.1 → (Value.slice (some ⟨g', 0, none⟩) (K ++ [x]).length c').ownBlock ≠ some y.1 := fun {y} h1 h2 e => by
      injection e with e
      exact hgn h1 h2 e
    rcases List.mem_append.1 hy with h1 | h1
    · have h3 := h.ids y h1
      obtain ⟨i, hi, rfl⟩ : ∃ i, i < K.length ∧ K.getD i (0, 0) = y := by
        obtain ⟨i, hi, rfl⟩ := List.mem_iff_getElem.1 h1
        exact ⟨i, hi, by simp [List.getD, hi]⟩
      exact ⟨h3.1, hk (h.buf i hi).lt h3.2.1, h3.2.2⟩
    · rw [List.mem_singleton.1 h1]
      exact ⟨hx.ne, hk (Row.lt hx.alone) hx.row, hx.own⟩
  · intro y hy
    rcases List.mem_append.1 hy with h1 | h1
    · exact h.keys y h1
    · rw [List.mem_singleton.1 h1]; exact hx.key

end Go.Proofs.Ytlickjaopbcanaa

namespace Go.Proofs.Ytlickjaopbcanaa
open Go Go.RowKit

theorem Only.fresh {S : List Nat} {a b c : World} {g : Nat} (h : Only S a b) (k : Only (g :: S) b c) (hg : g ∈ S ∨ a.heap.size ≤ g) : Only S a c := by
  refine ⟨k.os.trans h.os, k.tape.trans h.tape, k.output.trans h.output, Nat.le_trans h.size k.size, fun i hi hn => ?_⟩
  refine (k.block i (Nat.lt_of_lt_of_le hi h.size) (fun hc => ?_)).trans (h.block i hi hn)
  rcases List.mem_cons.1 hc with e | e
  · rcases hg with h1 | h1
    · exact hn (e ▸ h1)
    · omega
  · exact hn e
theorem Only.grown {S : List Nat} {a b c : World} {row : Option Nat} (h : Only S a b) (hg : b.grownBy c row) (hr : ∀ k, row = some k → k ∈ S) : Only S a c :=
  h.trans ⟨hg.os, hg.tape, hg.output, hg.size, fun i hi hn => hg.block i hi (fun e => hn (hr i e.symm))⟩
theorem Only.alloc {S : List Nat} {a b : World} (h : Only S a b) (o : Obj) : Only S a (b.alloc o) :=
  h.trans ⟨rfl, rfl, rfl, by simp, fun i hi _ => Below.heap_alloc _ _ _ hi⟩
/-- What Push leaves. -/
structure Put (B cb : Nat) (w w' : World) (five : List Value) (v : Value) (K : Heap.KL) (x : Nat × Int) (fr : Nat → List Value) (S : List Nat) (g' c' : Nat) (K' : Heap.KL) : Prop where
  perm : K'.Perm (K ++ [x])
  heap : Heap.Heap K' K'.length
  q : QAt B w' cb five (.slice (some ⟨g', 0, none⟩) K'.length c') K' fr
  only : Only S w w'
  fresh : v.ownBlock = some g' ∨ w.heap.size ≤ g'

set_option maxRecDepth 100000 in
set_option maxHeartbeats 4000000 in
theorem hpush_any {B cb : Nat} {w : World} {five : List Value} {v : Value} {K : Heap.KL} {x : Nat × Int} {fr : Nat → List Value} {S : List Nat} (h : QAt B w cb five v K fr) (hx : Comes B cb w v K x fr) (hl : K.length < 256) (hB : B ≤ w.heap.size) (hh : Heap.Heap K K.length) (hc : cb ∈ S) (hxs : x.1 ∈ S) (hI : ∀ y ∈ K, y.1 ∈ S) (hv : ∀ k, v.ownBlock = some k → k ∈ S) :
    Calls Try.prog 80 #[ifq cb, .iface 83 (ptr x.1)] w fun e w' => e = .returned (.tuple #[]) ∧ ∃ g' c' K', Put B cb w w' five v K x fr S g' c' K' := by
  have hm : (method 254 108 (.pointer (some ⟨cb, 5, none⟩)) "Push").run Try.prog w = .ok (124, .pointer (some ⟨cb, 5, none⟩)) w := m_push 253 ⟨cb, 5, none⟩ w
  have q := Lib.hid (qpush_raw B cb K.length x.1 w _ v (ptrs K) (by omega) hB h.c5 h.f5 h.cells.lt h.row (Row.cellAt hx.alone 5 (by rw [List.getElem?_append_right (by rw [hx.frl]; omega), hx.frl]; rfl)) (Row.free hx.alone 5 (by simp [hx.frl])) hx.ne hx.row h.ne)
  have HH := Lib.hid h
  have HX := Lib.hid hx
  have HP := Lib.hid hh
  have HI := Lib.hid hI
  have HV := Lib.hid hv
  have HC := Lib.hid (And.intro hc hxs)
  clear h hx hh hI hv hc hxs
  unfold ifq at *
  go_enter Try.func80, Try.ntmps80
  go_wp2_with fail
  refine q.out.mono ?_
  rintro e w2 ⟨rfl, g', c', w1, hg, ho, hat, hw2⟩
  have hq0 := HH.out.push HX.out hl hg ho hat
  have ho0 : Only S w w2 := by
    rw [hw2]
    exact (((Only.setCell w ⟨x.1, 5, none⟩ (.int .i64 K.length) HC.out.2).alloc _).grown hg HV.out).trans (Only.setCell _ ⟨cb, 5, none⟩ _ HC.out.1)
  rw [← hw2] at hq0
  have hat' : g' ∈ S ∨ w.heap.size ≤ g' := hat.elim (fun h1 => .inl (HV.out _ h1)) (fun h1 => .inr (by omega))
  have hfr : v.ownBlock = some g' ∨ w.heap.size ≤ g' := hat.elim .inl (fun h1 => .inr (by omega))
  clear hg ho hat hw2 q hm w1
  obtain ⟨N, hN⟩ : ∃ N, N = (K ++ [x]).length := ⟨_, rfl⟩
  have hN1 : N = K.length + 1 := by rw [hN]; simp
  rw [← hN] at hq0
  have hm : (method 254 108 (.pointer (some ⟨cb, 5, none⟩)) "Len").run Try.prog w2 = .ok (120, .slice (some ⟨g', 0, none⟩) N c') w2 := m_len 253 ⟨cb, 5, none⟩ _ w2 hq0.c5
  have n1 : IntKind.i64.wrap ((N : Int) - 1) = (K.length : Int) := by rw [IntWalk.i64_in _ (by omega)]; omega
  have n1' : (N : Int) - 1 = (K.length : Int) := by omega
  have hup : Heap.UpInv (K ++ [x]) N K.length := by rw [hN1]; exact Heap.up_push HP.out x
  have q := Lib.hid (up_any (S := g' :: S) hN (hq0.go (n := N)) K.length (by omega) (Nat.le_refl _) hup List.mem_cons_self (fun y hy => List.mem_cons_of_mem _ ((List.mem_append.1 hy).elim (HI.out y) (fun h1 => by rw [List.mem_singleton.1 h1]; exact HC.out.2))) (by omega))
  unfold ifq at q
  have HO := Lib.hid ho0
  have HN := Lib.hid hN
  clear hq0 ho0 hup hN hN1 HH HX HP
  go_wp2_with fail
  refine (qlen_any _ _ _ _).mono ?_
  rintro e w3 ⟨rfl, rfl⟩
  go_wp2_with fail
  refine q.out.mono ?_
  rintro e w4 ⟨rfl, K', h4, h5⟩
  have HE : ∃ g' c' K', Put B cb w w4 five v K x fr S g' c' K' := by
    have hl' : K'.length = N := by rw [h4.len, HN.out]
    refine ⟨g', c', K', h4.perm, by rw [hl']; exact h5, by rw [hl']; exact h4.q, HO.out.fresh h4.only hat', hfr⟩
  have HE := Lib.hid HE
  clear h4 h5 q hm n1 n1'
  go_wp2_with fail
  go_end0
  exact ⟨rfl, HE.out⟩

end Go.Proofs.Ytlickjaopbcanaa
