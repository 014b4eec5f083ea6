/- The law DeviceNone: its walk. -/
import Derived.Test.YtjoopkdednmllaaDevFlushLaw
namespace Go.Proofs.Ytjoopkdednmllaa
open Go Go.RowKit
variable {B b : Nat} {w : World} {y : Lay} {D : Dev}

/-- No device: nil, or a struct of zeros. -/
def NoneAt (w : World) (v : Value) : Prop := v = .pointer none ∨ ∃ b, v = .pointer (some ⟨b, 0, none⟩) ∧ w.heap[b]? = some (.cells #[.slice none 0 0, .slice none 0 0, .slice none 0 0, .bool false, .int .i64 0, .int .i64 0] 52 (0, 0))
theorem NoneAt.below {w w' : World} {v : Value} (h : NoneAt w v) (hb : Below w.heap.size w w') : NoneAt w' v := by
  rcases h with h | ⟨b, e, h⟩
  · exact .inl h
  · exact .inr ⟨b, e, by rw [hb.block b (lt_of_block h)]; exact h⟩

structure Zeroed (w : World) (b : Nat) : Prop where
  c0 : w.cell? ⟨b, 0, none⟩ = some (.slice none 0 0)
  c1 : w.cell? ⟨b, 1, none⟩ = some (.slice none 0 0)
  c2 : w.cell? ⟨b, 2, none⟩ = some (.slice none 0 0)
  c3 : w.cell? ⟨b, 3, none⟩ = some (.bool false)
  c4 : w.cell? ⟨b, 4, none⟩ = some (.int .i64 0)
  c5 : w.cell? ⟨b, 5, none⟩ = some (.int .i64 0)
theorem zeroed (h : w.heap[b]? = some (.cells #[.slice none 0 0, .slice none 0 0, .slice none 0 0, .bool false, .int .i64 0, .int .i64 0] 52 (0, 0))) : Zeroed w b := by
  have e : ∀ k, w.cell? ⟨b, k, none⟩ = _ := fun k => cell_of_row w b k _ _ _ h
  exact ⟨(e 0).trans rfl, (e 1).trans rfl, (e 2).trans rfl, (e 3).trans rfl, (e 4).trans rfl, (e 5).trans rfl⟩

theorem none_blocks (v : Value) (h : NoneAt w v) : Calls Try.prog 29 #[v] w fun e w' => e = .returned (.int .i64 0) ∧ w = w' := by
  rcases h with rfl | ⟨b, rfl, h⟩
  · go_enter Try.func29, Try.ntmps29
    go_wp2_with fail
    go_ret
    exact ⟨rfl, rfl⟩
  · obtain ⟨c0, c1, c2, c3, c4, c5⟩ := zeroed h
    clear h
    go_enter Try.func29, Try.ntmps29
    go_wp2_with fail
    go_ret
    exact ⟨rfl, rfl⟩

theorem none_ask (v : Value) (i : Int) (h : NoneAt w v) : Calls Try.prog 43 #[v, .int .i64 i] w fun e w' => e = .returned (.int .i64 1) ∧ w = w' := by
  have hb := Lib.hid (none_blocks v h)
  clear h
  go_enter Try.func43, Try.ntmps43
  go_wp2_with fail
  refine hb.out.mono ?_
  rintro e w' ⟨rfl, rfl⟩
  go_wp2_with fail
  go_ret
  exact ⟨rfl, rfl⟩

theorem none_arm (v : Value) (i : Int) (h : NoneAt w v) : Calls Try.prog 19 #[v, .int .i64 i] w fun e w' => e = .returned (.tuple #[]) ∧ w = w' := by
  have hb := Lib.hid (none_blocks v h)
  clear h
  go_enter Try.func19, Try.ntmps19
  go_wp2_with fail
  refine hb.out.mono ?_
  rintro e w' ⟨rfl, rfl⟩
  go_wp2_with fail
  go_end0
  exact ⟨rfl, rfl⟩

theorem none_read (v : Value) (i : Int) (h : NoneAt w v) : Calls Try.prog 21 #[v, .int .i64 i] w fun e w' => e = .returned (.tuple #[.string ⟨#[]⟩, .int .i64 1]) ∧ w = w' := by
  have hb := Lib.hid (none_ask v i h)
  clear h
  go_enter Try.func21, Try.ntmps21
  go_wp2_with fail
  refine hb.out.mono ?_
  rintro e w' ⟨rfl, rfl⟩
  go_wp2_with fail
  exact bodyPost_ret (v := .tuple #[.string ⟨#[]⟩, .int .i64 1]) (by simp [results, Try.results21, go_sem]) rfl ⟨rfl, rfl⟩

theorem none_write (v : Value) (i : Int) (t : ByteArray) (h : NoneAt w v) : Calls Try.prog 14 #[v, .int .i64 i, .string t] w fun e w' => e = .returned (.int .i64 1) ∧ w = w' := by
  have hb := Lib.hid (none_ask v i h)
  clear h
  go_enter Try.func14, Try.ntmps14
  go_wp2_with fail
  refine hb.out.mono ?_
  rintro e w' ⟨rfl, rfl⟩
  go_wp2_with fail
  go_ret
  exact ⟨rfl, rfl⟩

theorem none_flush (v : Value) (h : NoneAt w v) : Calls Try.prog 17 #[v] w fun e w' => e = .returned (.int .i64 1) ∧ w = w' := by
  have hb := Lib.hid (none_ask v 0 h)
  clear h
  go_enter Try.func17, Try.ntmps17
  go_wp2_with fail
  refine hb.out.mono ?_
  rintro e w' ⟨rfl, rfl⟩
  go_wp2_with fail
  go_ret
  exact ⟨rfl, rfl⟩

theorem none_dead (v : Value) (h : NoneAt w v) : Calls Try.prog 26 #[v] w fun e w' => e = .returned (.bool false) ∧ w = w' := by
  rcases h with rfl | ⟨b, rfl, h⟩
  · go_enter Try.func26, Try.ntmps26
    go_wp2_with fail
    go_ret
    exact ⟨rfl, rfl⟩
  · obtain ⟨c0, c1, c2, c3, c4, c5⟩ := zeroed h
    clear h
    go_enter Try.func26, Try.ntmps26
    go_wp2_with fail
    go_ret
    exact ⟨rfl, rfl⟩

theorem none_acts (v : Value) (h : NoneAt w v) : Calls Try.prog 28 #[v] w fun e w' => e = .returned (.int .i64 0) ∧ w = w' := by
  rcases h with rfl | ⟨b, rfl, h⟩
  · go_enter Try.func28, Try.ntmps28
    go_wp2_with fail
    go_ret
    exact ⟨rfl, rfl⟩
  · obtain ⟨c0, c1, c2, c3, c4, c5⟩ := zeroed h
    clear h
    go_enter Try.func28, Try.ntmps28
    go_wp2_with fail
    go_ret
    exact ⟨rfl, rfl⟩

theorem none_pending (v : Value) (h : NoneAt w v) : Calls Try.prog 23 #[v] w fun e w' => e = .returned (.slice none 0 0) ∧ w = w' := by
  rcases h with rfl | ⟨b, rfl, h⟩
  · go_enter Try.func23, Try.ntmps23
    go_wp2_with fail
    go_ret
    exact ⟨rfl, rfl⟩
  · obtain ⟨c0, c1, c2, c3, c4, c5⟩ := zeroed h
    clear h
    go_enter Try.func23, Try.ntmps23
    go_wp2_with fail
    go_loopw [3, 13] (fun v q wr => v = .slice none 0 0 ∧ q = .int .i64 0 ∧ w = wr) (fun _ _ _ => 0)
    case atStart => exact ⟨rfl, rfl, rfl⟩
    case round =>
      obtain ⟨rfl, rfl, rfl⟩ := hrel
      go_wp2_with fail
      go_ret
      exact ⟨rfl, rfl⟩

theorem none_kept (v : Value) (h : NoneAt w v) : Calls Try.prog 33 #[v] w fun e w' => e = .returned (.string ⟨#[]⟩) ∧ w = w' := by
  have hj := Lib.hid (fun w => Try.strings_Join_none none 0 ⟨#[]⟩ w)
  rcases h with rfl | ⟨b, rfl, h⟩
  · go_enter Try.func33, Try.ntmps33
    go_wp2_with fail
    go_ret
    exact ⟨rfl, rfl⟩
  · obtain ⟨c0, c1, c2, c3, c4, c5⟩ := zeroed h
    clear h
    go_enter Try.func33, Try.ntmps33
    go_wp2_with fail
    refine (hj.out _).mono ?_
    rintro e w' ⟨rfl, rfl⟩
    go_wp2_with fail
    go_ret
    exact ⟨rfl, rfl⟩

theorem none_crash (v : Value) (ad : Option Addr) (n c : Nat) (h : NoneAt w v) : Calls Try.prog 31 #[v, .slice ad n c] w fun e w' => e = .returned (.string ⟨#[]⟩) ∧ w = w' := by
  have hj := Lib.hid (fun w => Try.strings_Join_none none 0 ⟨#[]⟩ w)
  have hcl := Lib.hid (fun w => Try.slices_Clone_string_nil 0 0 w)
  have hp := Lib.hid (none_pending v h)
  rcases h with rfl | ⟨b, rfl, h⟩
  · go_enter Try.func31, Try.ntmps31
    go_wp2_with fail
    go_ret
    exact ⟨rfl, rfl⟩
  · obtain ⟨c0, c1, c2, c3, c4, c5⟩ := zeroed h
    clear h
    go_enter Try.func31, Try.ntmps31
    go_wp2_with fail
    refine (hcl.out _).mono ?_
    rintro e w' ⟨rfl, rfl⟩
    go_wp2_with fail
    refine hp.out.mono ?_
    rintro e w' ⟨rfl, rfl⟩
    go_wp2_with fail
    go_loopw [18] (fun q wr => q = .int .i64 0 ∧ w' = wr) (fun _ _ => 0)
    case atStart => exact ⟨rfl, rfl⟩
    case round =>
      obtain ⟨rfl, rfl⟩ := hrel
      go_wp2_with fail
      refine (hj.out _).mono ?_
      rintro e w' ⟨rfl, rfl⟩
      go_wp2_with fail
      go_ret
      exact ⟨rfl, rfl⟩

end Go.Proofs.Ytjoopkdednmllaa
