/- Devices: Kept. -/
import Derived.Test.YtjoopkdednmllaaDevFlushed
namespace Go.Proofs.Ytjoopkdednmllaa
open Go Go.RowKit
variable {B b : Nat} {w : World} {y : Lay} {D : Dev}

def cat (l : List ByteArray) : List UInt8 := (l.map (·.data.toList)).flatten
def txt (l : List UInt8) : ByteArray := ⟨l.toArray⟩
theorem join_cat (l : List ByteArray) : Lib.join (l.map (·.data.toList)) [] = cat l := by
  cases l with
  | nil => rfl
  | cons x r =>
    rw [List.map_cons, Lib.join_cons]
    simp [cat, Lib.joinTail]
    rfl
def sized (l : List ByteArray) : Prop := ∀ s ∈ l, s.size = 128
theorem cat_length (l : List ByteArray) (h : sized l) : (cat l).length = l.length * 128 := by
  induction l with
  | nil => rfl
  | cons x r ih =>
    have h1 : x.data.toList.length = 128 := by rw [Array.length_toList]; exact h x (by simp)
    have h2 := ih (fun s hs => h s (by simp [hs]))
    simp only [cat, List.map_cons, List.flatten_cons, List.length_append, List.length_cons] at h2 ⊢
    omega

/-- The blocks of a row, joined. -/
theorem join_any (v : Value) (l : List ByteArray) (g cap B' : Nat) (hv : v = .slice (some ⟨g, 0, none⟩) l.length cap) (h : w.ownsRow B' 9 1 v l.length (strs l)) (hs : sized l) (hn : l.length ≤ 1000000) :
    Calls Try.prog 48 #[v, .string { data := #[] }] w fun e w' => e = .returned (.string (txt (cat l))) ∧ Below w.heap.size w w' := by
  subst hv
  have hc : l.length ≤ cap := by
    rcases h.2 with ⟨hv, _⟩ | ⟨g', cap', cur, hv, hb, hg, h1, _⟩
    · cases hv
    · cases hv; exact h1
  have := Try.strings_Join g 0 cap l { data := #[] } w (fun j x hx => by rw [Nat.zero_add]; exact own_cellAt h (by simp [strs, hx])) (h.lt _ rfl).2 (by omega) hc (by
    show (Lib.join _ []).length ≤ _
    rw [join_cat, cat_length _ hs]; omega)
  refine this.mono ?_
  rintro e w' ⟨rfl, hb⟩
  exact ⟨by rw [show (({ data := #[] } : ByteArray).data.toList) = [] from rfl, join_cat]; rfl, hb⟩

theorem kept_any (h : DevAt B w b y D) (hs : sized D.kept) : Calls Try.prog 33 #[.pointer (some ⟨b, 0, none⟩)] w fun e w' => e = .returned (.string (txt (cat D.kept))) ∧ Below w.heap.size w w' := by
  have c0 := h.c0
  have hj := Lib.hid (join_any _ D.kept y.gk y.ck B rfl h.kept hs (by have := h.pos; omega))
  clear h
  go_enter Try.func33, Try.ntmps33
  go_wp2_with fail
  refine hj.out.mono ?_
  rintro e w' ⟨rfl, hb⟩
  go_wp2_with fail
  go_ret
  exact ⟨rfl, hb⟩

end Go.Proofs.Ytjoopkdednmllaa
