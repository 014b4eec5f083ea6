/- A cache whose device is used by others. No walk. -/
import Derived.Test.YtlickjaopbcanaaCacheC
namespace Go.Proofs.Ytlickjaopbcanaa
open Go Go.RowKit Bufs
variable {B cb : Nat} {w w' : World} {db most : Nat} {y : Lay} {Dv : Dev} {l : PL} {E : List Nat} {k : Nat}

theorem CS.apart (h : CS B w cb db y Dv most l E k) : ∀ j ∈ E, j ∉ dblocks db y := by
  obtain ⟨c, L, ⟨go, v, K, A, fr, cap, h⟩, _⟩ := h
  exact h.apart
theorem CS.elt (h : CS B w cb db y Dv most l E k) : ∀ j ∈ E, j < w.heap.size := by
  obtain ⟨c, L, ⟨go, v, K, A, fr, cap, h⟩, _⟩ := h
  exact fun j hj => (h.raw.off j (List.mem_append.2 (.inr hj))).1
theorem CS.dev_frame {S : List Nat} (h : CS B w cb db y Dv most l E k) (ho : Only S w w') (hS : ∀ j ∈ S, j ∈ dblocks db y) : Fr B E w w' :=
  ho.frame (fun j hj => (h.dev.bounds2 j (hS j hj)).1) (fun j hj hm => h.apart j hj (hS j hm))
theorem cs_arm (h : CS B w cb db y Dv most l E k) (n : Int) (hn : -9223372036854775808 ≤ n ∧ n ≤ 9223372036854775807) :
    Calls Try.prog 30 #[.pointer (some ⟨db, 0, none⟩), .int .i64 n] w fun e w' => e = .returned (.tuple #[]) ∧ CS B w' cb db y (Dv.arm n) most l E k ∧ Fr B E w w' := by
  refine (arm_any h.dev n hn).mono ?_
  rintro e w' ⟨rfl, h1, h2⟩
  have hS : ∀ j ∈ [db], j ∈ dblocks db y := fun j hj => by rw [List.mem_singleton.1 hj]; simp [dblocks]
  exact ⟨rfl, h.dev_turn h2 (fun j hj => List.mem_append.2 (.inl (hS j hj))) h1 rfl (h.ok.arm n) (Nat.le_refl _), h.dev_frame h2 hS⟩
theorem cs_flush (h : CS B w cb db y Dv most l E k) (hk : k ≤ 900000000000) :
    Calls Try.prog 57 #[.pointer (some ⟨db, 0, none⟩)] w fun e w' => e = .returned (.int .i64 Dv.flushE) ∧ CS B w' cb db y Dv.flush most l E (k + 1) ∧ Fr B E w w' := by
  refine (flush_any h.dev (by have := h.ok.acts; omega)).mono ?_
  rintro e w' ⟨rfl, h1, h2⟩
  have hS : ∀ j ∈ [db, y.gk, y.gp], j ∈ dblocks db y := fun j hj => by
    simp only [List.mem_cons, List.not_mem_nil, or_false] at hj
    rcases hj with rfl | rfl | rfl <;> simp [dblocks]
  exact ⟨rfl, h.dev_turn h2 (fun j hj => List.mem_append.2 (.inl (hS j hj))) h1 (Dev.flush_len Dv h.ok.len) h.ok.flush (by omega), h.dev_frame h2 hS⟩
theorem cs_write (h : CS B w cb db y Dv most l E k) (hk : k ≤ 900000000000) (i : Int) (t : ByteArray) (ht : t.size ≤ 9223372036854775807) :
    Calls Try.prog 58 #[.pointer (some ⟨db, 0, none⟩), .int .i64 i, .string t] w fun e w' => e = .returned (.int .i64 (Dv.writeE i t)) ∧ CS B w' cb db y (Dv.write i t) most l E (k + 1) ∧ Fr B E w w' := by
  refine (write_any h.dev i t ht (by have := h.ok.acts; omega)).mono ?_
  rintro e w' ⟨rfl, h1, h2⟩
  have hS : ∀ j ∈ [db, y.gn, y.gp], j ∈ dblocks db y := fun j hj => by
    simp only [List.mem_cons, List.not_mem_nil, or_false] at hj
    rcases hj with rfl | rfl | rfl <;> simp [dblocks]
  exact ⟨rfl, h.dev_turn h2 (fun j hj => List.mem_append.2 (.inl (hS j hj))) h1 (Dev.write_len _ _ _) (h.ok.write i t) (by omega), h.dev_frame h2 hS⟩
theorem CS.less {E' : List Nat} (h : CS B w cb db y Dv most l E k) (hE : ∀ j ∈ E', j ∈ E) : CS B w cb db y Dv most l E' k := h.more (S := []) (Only.refl _ _) (fun _ h => nomatch h) E' (fun j hj => ⟨h.elt j (hE j hj), .inl (hE j hj)⟩)
theorem CS.plus (h : CS B w cb db y Dv most l E k) (o : Obj) : CS B (w.alloc o) cb db y Dv most l (w.heap.size :: E) k :=
  h.more (S := []) (Only.ofBelow ((Below.refl _ _).alloc (Nat.le_refl _) _)) (fun _ h => nomatch h) _ (fun j hj => by
    rcases List.mem_cons.1 hj with rfl | hj
    · exact ⟨by simp, .inr (Nat.le_refl _)⟩
    · exact ⟨by have := h.elt j hj; simp; omega, .inl hj⟩)
theorem Fr.less {E' : List Nat} (h : Fr B E w w') (hE : ∀ j ∈ E', j ∈ E) : Fr B E' w w' := ⟨h.os, h.tape, h.output, h.size, fun k hk hs => h.block k hk (hs.elim .inl (fun h1 => .inr (hE k h1)))⟩
theorem Fr.ofBelow (h : Below w.heap.size w w') : Fr B E w w' := ⟨h.os, h.tape, h.output, h.size, fun k hk _ => h.block k hk⟩

end Go.Proofs.Ytlickjaopbcanaa
