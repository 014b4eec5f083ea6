/- BuffersNone: a cache that is none. -/
import Derived.Test.YtlickjaopbcanaaCacheD
namespace Go.Proofs.Ytlickjaopbcanaa
open Go Go.RowKit
variable {w : World}

/-- No device: nil, or a struct of zeros. -/
def NoneAt (w : World) (v : Value) : Prop := v = .pointer none ∨ ∃ b, v = .pointer (some ⟨b, 0, none⟩) ∧ w.cell? ⟨b, 0, none⟩ = some (.slice none 0 0)
theorem NoneAt.below {w w' : World} {v : Value} (h : NoneAt w v) (hb : Below w.heap.size w w') : NoneAt w' v := by
  rcases h with h | ⟨b, e, h⟩
  · exact .inl h
  · exact .inr ⟨b, e, (hb.cell (p := ⟨b, 0, none⟩) (World.block_lt_of_cell? w _ h)).trans h⟩
/-- No cache: nil, or a struct of zeros. -/
def NoC (w : World) (v : Value) : Prop := v = .pointer none ∨ ∃ b, v = .pointer (some ⟨b, 0, none⟩) ∧ w.cell? ⟨b, 0, none⟩ = some (.pointer none) ∧ w.cell? ⟨b, 3, none⟩ = some (.slice none 0 0)
theorem NoC.below {w w' : World} {v : Value} (h : NoC w v) (hb : Below w.heap.size w w') : NoC w' v := by
  rcases h with h | ⟨b, e, h, k⟩
  · exact .inl h
  · exact .inr ⟨b, e, (hb.cell (p := ⟨b, 0, none⟩) (World.block_lt_of_cell? w _ h)).trans h, (hb.cell (p := ⟨b, 3, none⟩) (World.block_lt_of_cell? w _ k)).trans k⟩
set_option maxRecDepth 100000 in
theorem none_blocks (v : Value) (h : NoneAt w v) : Calls Try.prog 10 #[v] w fun e w' => e = .returned (.int .i64 0) ∧ w = w' := by
  rcases h with rfl | ⟨b0, rfl, c0⟩
  all_goals
    go_enter Try.func10, Try.ntmps10
    go_wp2_with fail
    go_ret
    exact ⟨rfl, rfl⟩
set_option maxRecDepth 100000 in
theorem none_new (v : Value) (cap : Int) (h : NoneAt w v) : Calls Try.prog 17 #[v, .int .i64 cap] w fun e w' => e = .returned (.tuple #[.pointer none, .int .i64 1]) ∧ w = w' := by
  have q := Lib.hid (none_blocks v h)
  rcases h with rfl | ⟨b0, rfl, c0⟩
  all_goals
    go_enter Try.func17, Try.ntmps17
    go_wp2_with fail
    (with_reducible refine (q.out).mono ?_)
    rintro e w2 ⟨rfl, rfl⟩
    go_wp2_with fail
    exact bodyPost_ret (v := .tuple #[.pointer none, .int .i64 1]) (by simp [results, Try.results17, go_sem]) rfl ⟨rfl, rfl⟩
set_option maxRecDepth 100000 in
theorem noc_ask (v : Value) (b : Int) (h : NoC w v) : Calls Try.prog 44 #[v, .int .i64 b] w fun e w' => e = .returned (.int .i64 1) ∧ w = w' := by
  rcases h with rfl | ⟨b0, rfl, c0, c3⟩
  all_goals
    go_enter Try.func44, Try.ntmps44
    go_wp2_with fail
    go_ret
    exact ⟨rfl, rfl⟩
set_option maxRecDepth 100000 in
theorem noc_find (v : Value) (b : Int) (h : NoC w v) : Calls Try.prog 47 #[v, .int .i64 b] w fun e w' => e = .returned (.pointer none) ∧ w = w' := by
  have q := Lib.hid (noc_ask v b h)
  rcases h with rfl | ⟨b0, rfl, c0, c3⟩
  all_goals
    go_enter Try.func47, Try.ntmps47
    go_wp2_with fail
    (with_reducible refine (q.out).mono ?_)
    rintro e w2 ⟨rfl, rfl⟩
    go_wp2_with fail
    go_ret
    exact ⟨rfl, rfl⟩
set_option maxRecDepth 100000 in
theorem noc_unpin (v : Value) (b : Int) (h : NoC w v) : Calls Try.prog 18 #[v, .int .i64 b] w fun e w' => e = .returned (.tuple #[]) ∧ w = w' := by
  have q := Lib.hid (noc_find v b h)
  rcases h with rfl | ⟨b0, rfl, c0, c3⟩
  all_goals
    go_enter Try.func18, Try.ntmps18
    go_wp2_with fail
    (with_reducible refine (q.out).mono ?_)
    rintro e w2 ⟨rfl, rfl⟩
    go_wp2_with fail
    go_end0
    exact ⟨rfl, rfl⟩
set_option maxRecDepth 100000 in
theorem noc_forget (v : Value) (b : Int) (h : NoC w v) : Calls Try.prog 19 #[v, .int .i64 b] w fun e w' => e = .returned (.tuple #[]) ∧ w = w' := by
  have q := Lib.hid (noc_find v b h)
  rcases h with rfl | ⟨b0, rfl, c0, c3⟩
  all_goals
    go_enter Try.func19, Try.ntmps19
    go_wp2_with fail
    (with_reducible refine (q.out).mono ?_)
    rintro e w2 ⟨rfl, rfl⟩
    go_wp2_with fail
    go_end0
    exact ⟨rfl, rfl⟩
set_option maxRecDepth 100000 in
theorem noc_get (v : Value) (b : Int) (h : NoC w v) : Calls Try.prog 11 #[v, .int .i64 b] w fun e w' => e = .returned (.tuple #[.string ⟨#[]⟩, .int .i64 1]) ∧ w = w' := by
  have q := Lib.hid (noc_ask v b h)
  rcases h with rfl | ⟨b0, rfl, c0, c3⟩
  all_goals
    go_enter Try.func11, Try.ntmps11
    go_wp2_with fail
    (with_reducible refine (q.out).mono ?_)
    rintro e w2 ⟨rfl, rfl⟩
    go_wp2_with fail
    exact bodyPost_ret (v := .tuple #[.string ⟨#[]⟩, .int .i64 1]) (by simp [results, Try.results11, go_sem]) rfl ⟨rfl, rfl⟩
set_option maxRecDepth 100000 in
theorem noc_put (v : Value) (b : Int) (s : ByteArray) (p : Bool) (h : NoC w v) : Calls Try.prog 20 #[v, .int .i64 b, .string s, .bool p] w fun e w' => e = .returned (.int .i64 1) ∧ w = w' := by
  have q := Lib.hid (noc_ask v b h)
  rcases h with rfl | ⟨b0, rfl, c0, c3⟩
  all_goals
    go_enter Try.func20, Try.ntmps20
    go_wp2_with fail
    (with_reducible refine (q.out).mono ?_)
    rintro e w2 ⟨rfl, rfl⟩
    go_wp2_with fail
    go_ret
    exact ⟨rfl, rfl⟩
set_option maxRecDepth 100000 in
theorem noc_out (v : Value) (b : Int) (h : NoC w v) : Calls Try.prog 22 #[v, .int .i64 b] w fun e w' => e = .returned (.int .i64 1) ∧ w = w' := by
  have q := Lib.hid (noc_ask v b h)
  rcases h with rfl | ⟨b0, rfl, c0, c3⟩
  all_goals
    go_enter Try.func22, Try.ntmps22
    go_wp2_with fail
    (with_reducible refine (q.out).mono ?_)
    rintro e w2 ⟨rfl, rfl⟩
    go_wp2_with fail
    go_ret
    exact ⟨rfl, rfl⟩
set_option maxRecDepth 100000 in
theorem noc_sync (v : Value) (h : NoC w v) : Calls Try.prog 23 #[v] w fun e w' => e = .returned (.int .i64 1) ∧ w = w' := by
  have q := Lib.hid (noc_ask v 0 h)
  rcases h with rfl | ⟨b0, rfl, c0, c3⟩
  all_goals
    go_enter Try.func23, Try.ntmps23
    go_wp2_with fail
    (with_reducible refine (q.out).mono ?_)
    rintro e w2 ⟨rfl, rfl⟩
    go_wp2_with fail
    go_ret
    exact ⟨rfl, rfl⟩
set_option maxRecDepth 100000 in
theorem noc_has (v : Value) (b : Int) (h : NoC w v) : Calls Try.prog 13 #[v, .int .i64 b] w fun e w' => e = .returned (.bool false) ∧ w = w' := by
  have q := Lib.hid (noc_find v b h)
  rcases h with rfl | ⟨b0, rfl, c0, c3⟩
  all_goals
    go_enter Try.func13, Try.ntmps13
    go_wp2_with fail
    (with_reducible refine (q.out).mono ?_)
    rintro e w2 ⟨rfl, rfl⟩
    go_wp2_with fail
    go_ret
    exact ⟨rfl, rfl⟩
set_option maxRecDepth 100000 in
theorem noc_clip : Calls Try.prog 78 #[.slice none 0 0] w fun e w' => e = .returned (.slice none 0 0) ∧ w = w' := by
  go_enter Try.func78, Try.ntmps78
  go_wp2_with fail
  go_ret
  exact ⟨rfl, rfl⟩
set_option maxRecDepth 100000 in
theorem noc_blocks (v fv : Value) (h : NoC w v) : Calls Try.prog 48 #[v, fv] w fun e w' => e = .returned (.slice none 0 0) ∧ w = w' := by
  have q := Lib.hid (noc_clip (w := w))
  rcases h with rfl | ⟨b0, rfl, c0, c3⟩
  · go_enter Try.func48, Try.ntmps48
    go_wp2_with fail
    go_ret
    exact ⟨rfl, rfl⟩
  · go_enter Try.func48, Try.ntmps48
    go_wp2_with fail
    go_loop [5, 15] (fun u i => u = .slice none 0 0 ∧ i = .int .i64 0) (fun _ _ => 0)
    case atStart => exact ⟨rfl, rfl⟩
    case round =>
      obtain ⟨rfl, rfl⟩ := hrel
      go_wp2_with fail
      (with_reducible refine q.out.mono ?_)
      rintro e w2 ⟨rfl, rfl⟩
      go_wp2_with fail
      go_ret
      exact ⟨rfl, rfl⟩
set_option maxRecDepth 100000 in
theorem noc_dirty (v : Value) (h : NoC w v) : Calls Try.prog 15 #[v] w fun e w' => e = .returned (.slice none 0 0) ∧ w = w' := by
  have q := Lib.hid (noc_blocks v (.func (.func 49) #[] #[]) h)
  rcases h with rfl | ⟨b0, rfl, c0, c3⟩
  all_goals
    go_enter Try.func15, Try.ntmps15
    go_wp2_with fail
    (with_reducible refine (q.out).mono ?_)
    rintro e w2 ⟨rfl, rfl⟩
    go_wp2_with fail
    go_ret
    exact ⟨rfl, rfl⟩
set_option maxRecDepth 100000 in
theorem noc_pinned (v : Value) (h : NoC w v) : Calls Try.prog 24 #[v] w fun e w' => e = .returned (.slice none 0 0) ∧ w = w' := by
  have q := Lib.hid (noc_blocks v (.func (.func 56) #[] #[]) h)
  rcases h with rfl | ⟨b0, rfl, c0, c3⟩
  all_goals
    go_enter Try.func24, Try.ntmps24
    go_wp2_with fail
    (with_reducible refine (q.out).mono ?_)
    rintro e w2 ⟨rfl, rfl⟩
    go_wp2_with fail
    go_ret
    exact ⟨rfl, rfl⟩

end Go.Proofs.Ytlickjaopbcanaa
