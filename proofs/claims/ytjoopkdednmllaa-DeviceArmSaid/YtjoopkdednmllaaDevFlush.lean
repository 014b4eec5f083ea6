/- Devices: Flush. -/
import Derived.Test.YtjoopkdednmllaaDevPend
import Derived.Lib.SliceRun
import Derived.StillTailTactics
namespace Go.Proofs.Ytjoopkdednmllaa
open Go Go.RowKit
variable {B b : Nat} {w : World} {y : Lay} {D : Dev}

theorem ownsRow_setCells {T : TypeId} {n g cap : Nat} : ∀ (vs : List Value) (o : Nat) (w : World) (xs : List Value), w.ownsRow B T 1 (.slice (some ⟨g, 0, none⟩) n cap) n xs →
    (w.setCells g o vs).ownsRow B T 1 (.slice (some ⟨g, 0, none⟩) n cap) n (List.foldl (fun (p : List Value × Nat) v => (p.1.set p.2 v, p.2 + 1)) (xs, o) vs).1 := by
  intro vs
  induction vs with
  | nil => intro o w xs h; exact h
  | cons v vs ih => intro o w xs h; exact ih (o + 1) _ _ (ownsRow_set h o v)
theorem ownsRow_setCells_other {T : TypeId} {n g gg cap : Nat} {xs : List Value} (hne : g ≠ gg) : ∀ (vs : List Value) (o : Nat) (w : World), w.ownsRow B T 1 (.slice (some ⟨g, 0, none⟩) n cap) n xs →
    (w.setCells gg o vs).ownsRow B T 1 (.slice (some ⟨g, 0, none⟩) n cap) n xs := by
  intro vs
  induction vs with
  | nil => intro o w h; exact h
  | cons v vs ih => intro o w h; exact ih (o + 1) _ (ownsRow_setCell_other h (by simp [Value.ownBlock]; exact hne) v)
theorem row_setCells_other {T : TypeId} {g gg : Nat} {xs : List Value} (hne : g ≠ gg) : ∀ (vs : List Value) (o : Nat) (w : World), Row w g T xs → Row (w.setCells gg o vs) g T xs := by
  intro vs
  induction vs with
  | nil => intro o w h; exact h
  | cons v vs ih => intro o w h; exact ih (o + 1) _ (h.other (fun e => hne e.symm) v)
theorem only_setCells {S : List Nat} {g : Nat} (hS : g ∈ S) : ∀ (vs : List Value) (o : Nat) (w : World), Only S w (w.setCells g o vs) := by
  intro vs
  induction vs with
  | nil => intro o w; exact Only.refl _ _
  | cons v vs ih => intro o w; exact (Only.setCell w _ v hS).trans (ih (o + 1) _)
theorem fold_set (vs : List Value) : ∀ (o : Nat) (xs : List Value), o + vs.length = xs.length → (List.foldl (fun (p : List Value × Nat) v => (p.1.set p.2 v, p.2 + 1)) (xs, o) vs).1 = xs.take o ++ vs := by
  induction vs with
  | nil => intro o xs h; simp at h ⊢; rw [List.take_of_length_le (by omega)]
  | cons v vs ih =>
    intro o xs h
    simp only [List.length_cons] at h
    rw [List.foldl_cons, ih (o + 1) (xs.set o v) (by simp; omega), List.take_succ_eq_append_getElem (by simp; omega), List.take_set_of_le (Nat.le_refl _)]
    simp

theorem own_same {T : TypeId} {n g cap : Nat} {xs : List Value} {w' : World} (h : w.ownsRow B T 1 (.slice (some ⟨g, 0, none⟩) n cap) n xs) (he : w'.heap[g]? = w.heap[g]?) : w'.ownsRow B T 1 (.slice (some ⟨g, 0, none⟩) n cap) n xs := by
  refine ⟨h.1, ?_⟩
  rcases h.2 with ⟨hv, _⟩ | ⟨g', cap', cur, hv, hb, hg, r⟩
  · cases hv
  · cases hv
    exact .inr ⟨g, cap, cur, rfl, hb, by rw [he]; exact hg, r⟩
theorem row_same {T : TypeId} {g : Nat} {xs : List Value} {w' : World} (h : Row w g T xs) (he : w'.heap[g]? = w.heap[g]?) : Row w' g T xs := by
  obtain ⟨fr, h, hf⟩ := h
  exact ⟨fr, by rw [he]; exact h, hf⟩

def Dev.flushed (D : Dev) : Dev := { D with kept := D.now, pend := List.replicate D.kept.length false }

/-- The kept row is laid over by what stands there. -/
theorem DevAt.copied (h : DevAt B w b y D) (cur : Array Value) (hg : w.heap[y.gk]? = some (.cells cur 9 (0, 0))) (hsz : D.kept.length ≤ cur.size) :
    DevAt B (w.setRow y.gk (cur.toList.take 0 ++ (strs D.now ++ cur.toList.drop (0 + (strs D.now).length))).toArray) b y { D with kept := D.now } := by
  obtain ⟨n1, n2, n3, n4, n5, n6⟩ := h.ne
  have hl : D.now.length = D.kept.length := by have := h.now.1; simpa [strs] using this
  have hl2 : (strs D.now).length = D.kept.length := by simp [strs, hl]
  have ho : ∀ k, k ≠ y.gk → (w.setRow y.gk (cur.toList.take 0 ++ (strs D.now ++ cur.toList.drop (0 + (strs D.now).length))).toArray).heap[k]? = w.heap[k]? := fun k hk => setRow_other w _ k _ hk
  refine ⟨h.own, ?_, ?_, ?_, ?_, h.ne, by dsimp only; rw [hl]; exact h.pos, h.left, h.acts⟩
  · dsimp only; rw [hl]; exact row_same h.cells (ho _ n1)
  · dsimp only
    rw [hl]
    refine ⟨by simp [hl2], ?_⟩
    rcases h.kept.2 with ⟨hv, _⟩ | ⟨g', cap', cur', hv, hb, hg', r1, r2, r3, r4⟩
    · cases hv
    · cases hv
      rw [hg] at hg'
      cases hg'
      refine .inr ⟨y.gk, y.ck, _, rfl, hb, setRow_heap w _ _ _ _ _ hg, r1, r2, ?_, ?_⟩
      · simp [hl2]; omega
      · simp [hl2]
  · dsimp only; rw [hl]; exact own_same h.now (ho _ (fun e => n4 e.symm))
  · dsimp only; rw [hl]; exact own_same h.pend (ho _ (fun e => n5 e.symm))

theorem DevAt.cleared (h : DevAt B w b y D) : DevAt B (w.setCells y.gp 0 (List.replicate D.kept.length (.bool false))) b y { D with pend := List.replicate D.kept.length false } := by
  obtain ⟨n1, n2, n3, n4, n5, n6⟩ := h.ne
  refine ⟨h.own, row_setCells_other n3 _ _ _ h.cells, ownsRow_setCells_other n5 _ _ _ h.kept, ownsRow_setCells_other n6 _ _ _ h.now, ?_, h.ne, h.pos, h.left, h.acts⟩
  have := ownsRow_setCells (List.replicate D.kept.length (.bool false)) 0 w _ h.pend
  rw [fold_set _ _ _ (by have := h.pend.1; simpa using this.symm)] at this
  simpa [bools] using this

end Go.Proofs.Ytjoopkdednmllaa
