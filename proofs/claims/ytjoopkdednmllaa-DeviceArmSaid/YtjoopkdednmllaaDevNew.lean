/- Devices: New. -/
import Derived.Test.YtjoopkdednmllaaDevRepeat
namespace Go.Proofs.Ytjoopkdednmllaa
open Go Go.RowKit
variable {B b : Nat} {w : World} {y : Lay} {D : Dev}

/-- A block of zeros. -/
def zblock : ByteArray := txt (List.replicate 128 0)
theorem zblock_size : zblock.size = 128 := by simp [zblock, txt, ByteArray.size]

theorem repeat_zero : Lib.repeatL (⟨#[0]⟩ : ByteArray).data.toList 128 = List.replicate 128 0 := by decide +kernel

theorem newdev_none (i : Int) (hi : -9223372036854775808 ≤ i ∧ i ≤ 9223372036854775807) (h : i < 1 ∨ 4096 < i) :
    Calls Try.prog 11 #[.int .i64 i] w fun e w' => e = .returned (.tuple #[.pointer none, .int .i64 2]) ∧ w = w' := by
  by_cases h1 : i < 1
  · go_enter Try.func11, Try.ntmps11
    go_wp2_with fail
    exact bodyPost_ret (v := .tuple #[.pointer none, .int .i64 2]) (by simp [results, Try.results11, go_sem]) rfl ⟨rfl, rfl⟩
  · have h2 : 4096 < i := by omega
    go_enter Try.func11, Try.ntmps11
    go_wp2_with fail
    exact bodyPost_ret (v := .tuple #[.pointer none, .int .i64 2]) (by simp [results, Try.results11, go_sem]) rfl ⟨rfl, rfl⟩

theorem newdev_any (n : Nat) (hn : 1 ≤ n ∧ n ≤ 4096) :
    Calls Try.prog 11 #[.int .i64 n] w fun e w' => ∃ b, e = .returned (.tuple #[.pointer (some ⟨b, 0, none⟩), .int .i64 0]) ∧ (∃ y, DevAt w.heap.size w' b y (Dev.fresh (List.replicate n zblock))) ∧ Below w.heap.size w w' := by
  have hz : Hid (∀ w, Calls Try.prog 42 #[.string ⟨#[0]⟩, .int .i64 128] w fun e w' => e = .returned (.string zblock) ∧ Below w.heap.size w w') := Lib.hid fun w => by
    have := Try.strings_Repeat ⟨#[0]⟩ 128 w (by decide) (by decide)
    have e : (⟨(Lib.repeatL (⟨#[0]⟩ : ByteArray).data.toList 128).toArray⟩ : ByteArray) = zblock := by
      exact congrArg (fun l : List UInt8 => (⟨l.toArray⟩ : ByteArray)) repeat_zero
    rw [e] at this
    exact this
  have hr := fun (w : World) (g : Nat) (c : Nat) hg => repeat_any (w := w) zblock n g c hg hn
  have hm : Hid (∀ (w : World) (B g c : Nat), w.ownsRow B 9 1 (.slice (some ⟨g, 0, none⟩) n c) n (strs (List.replicate n zblock)) → Calls Try.prog 40 #[.slice (some ⟨g, 0, none⟩) n c] w fun e w' => ∃ b, e = .returned (.pointer (some ⟨b, 0, none⟩)) ∧ (∃ y, DevAt B w' b y (Dev.fresh (List.replicate n zblock))) ∧ w.heap.size ≤ b ∧ Below w.heap.size w w') := Lib.hid fun w B g c h => by
    have := made_any (w := w) (B := B) (List.replicate n zblock) g c (by simpa using h) (by simp; omega)
    simpa using this
  have HR := Lib.hid hr
  clear hr
  have q1 : ¬ ((n : Int) < 1) := by omega
  have q2 : ¬ (4096 < (n : Int)) := by omega
  generalize zblock = z at *
  go_enter Try.func11, Try.ntmps11
  go_wp2_with fail
  refine (hz.out _).mono ?_
  rintro e w1 ⟨rfl, hb1⟩
  go_wp2_with fail
  have hc0 : (w1.alloc (.cells #[.string z] 9)).cell? ⟨w1.heap.size, 0, none⟩ = some (.string z) := by
    rw [cell_of_row _ _ _ _ _ _ (heap_alloc_new w1 _)]; rfl
  refine (HR.out _ _ _ hc0).mono ?_
  rintro e w2 ⟨g2, rfl, o2, hb2⟩
  have hB2 : Below w1.heap.size w1 w2 := ((Below.refl _ _).alloc (Nat.le_refl _) _).trans (hb2.mono (by simp))
  have hB3 : Below w.heap.size w w2 := hb1.trans (hB2.mono hb1.size)
  have hO := own_mono o2 (show w.heap.size ≤ _ by simp; have := hb1.size; omega)
  clear o2 hb2 hB2 hc0
  go_wp2_with fail
  refine (hm.out _ _ _ _ hO).mono ?_
  rintro e w3 ⟨b, rfl, hD, hb, hb3⟩
  have hB4 := hB3.trans (hb3.mono hB3.size)
  go_wp2_with fail
  exact bodyPost_ret (v := .tuple #[.pointer (some ⟨b, 0, none⟩), .int .i64 0]) (by simp [results, Try.results11, go_sem]) rfl ⟨_, rfl, hD, hB4⟩

end Go.Proofs.Ytjoopkdednmllaa
