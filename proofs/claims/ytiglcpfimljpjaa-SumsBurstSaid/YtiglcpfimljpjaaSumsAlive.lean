/- The sums: the chapter's examples come out. -/
import Derived.Test.YtiglcpfimljpjaaSumsJoin
namespace Go.Proofs.Ytiglcpfimljpjaa
open Go Go.RowKit

def t1 : List UInt8 := [49, 50, 51, 52]
def t2 : List UInt8 := [53, 54, 55, 56, 57]
theorem ex3 : more 0#32 [49, 50, 51, 52, 53, 54, 55, 56, 57] = 3421780262#32 := by decide +kernel
theorem ex4 : more 0#32 [0] = 3523407757#32 := by decide +kernel
theorem ex5 : more (more 0#32 t1) t2 = 3421780262#32 := by decide +kernel
theorem ex6 : join (more 0#32 t1) (more 0#32 t2) 5 = 3421780262#32 := by decide +kernel
theorem is_a : (u32 3421780262#32 == 3421780262) = true := by decide
theorem is_b : (u32 3523407757#32 == 3523407757) = true := by decide

set_option maxHeartbeats 1000000 in
theorem alive_any (w : World) :
    Calls Try.prog 14 #[] w fun e w' => e = .returned (.bool true) ∧ Below w.heap.size w w' := by
  have a1 := is_a
  have a2 := is_b
  go_enter Try.func14, Try.ntmps14
  go_wp2_with fail
  refine (sum_any ⟨#[49, 50, 51, 52]⟩ (by decide) _).mono ?_
  rintro e w' ⟨rfl, rfl⟩
  rw [show (⟨#[49, 50, 51, 52]⟩ : ByteArray).data.toList = t1 from rfl]
  have h5 := Lib.hid ex5
  have h6 := Lib.hid ex6
  generalize more 0#32 t1 = c1 at *
  go_wp2_with fail
  refine (sum_any ⟨#[53, 54, 55, 56, 57]⟩ (by decide) _).mono ?_
  rintro e w' ⟨rfl, rfl⟩
  rw [show (⟨#[53, 54, 55, 56, 57]⟩ : ByteArray).data.toList = t2 from rfl]
  generalize more 0#32 t2 = c2 at *
  go_wp2_with fail
  refine (join_yes c1 c2 5 (by decide) _).mono ?_
  rintro e w1 ⟨rfl, hb1⟩
  rw [h6.out]
  go_wp2_with fail
  refine (join_no 1#32 2#32 (-1) (by decide) _).mono ?_
  rintro e w' ⟨rfl, rfl⟩
  go_wp2_with fail
  refine (sum_any ⟨#[49, 50, 51, 52, 53, 54, 55, 56, 57]⟩ (by decide) _).mono ?_
  rintro e w' ⟨rfl, rfl⟩
  rw [show more 0#32 (⟨#[49, 50, 51, 52, 53, 54, 55, 56, 57]⟩ : ByteArray).data.toList = 3421780262#32 from ex3]
  go_wp2_with fail
  refine (sum_any ⟨#[0]⟩ (by decide) _).mono ?_
  rintro e w' ⟨rfl, rfl⟩
  rw [show more 0#32 (⟨#[0]⟩ : ByteArray).data.toList = 3523407757#32 from ex4]
  go_wp2_with fail
  refine (more_any c1 ⟨#[53, 54, 55, 56, 57]⟩ (by decide) _).mono ?_
  rintro e w' ⟨rfl, rfl⟩
  rw [show more c1 (⟨#[53, 54, 55, 56, 57]⟩ : ByteArray).data.toList = 3421780262#32 from h5.out]
  go_wp2_with fail
  go_ret
  exact ⟨rfl, hb1⟩

end Go.Proofs.Ytiglcpfimljpjaa
