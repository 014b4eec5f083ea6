/- Bitmaps: Fit, First. -/
import Derived.Test.YtnpgddndelidfaaBitsFit1
namespace Go.Proofs.Ytnpgddndelidfaa
open Go Go.RowKit

/-- A run as the program has it. -/
def runV (r : Int × Int) : Value := .agg #[.int .i64 r.1, .int .i64 r.2]

set_option maxHeartbeats 1000000 in
theorem fit_any (s : ByteArray) (n size frm : Int) (hs : s.size ≤ 100000000) (hn : -9223372036854775808 ≤ n ∧ n ≤ 9223372036854775807)
    (hsz : -9223372036854775808 ≤ size ∧ size ≤ 9223372036854775807) (hfr : -9223372036854775808 ≤ frm ∧ frm ≤ 9223372036854775807) (w : World) :
    Calls Try.prog 22 #[.string s, .int .i64 n, .int .i64 size, .int .i64 frm] w fun e w' =>
      e = .returned (.tuple #[runV (fitOf size frm (runsTo s.data.toList (firstN s.data.toList n))).1, .bool (fitOf size frm (runsTo s.data.toList (firstN s.data.toList n))).2]) ∧ Below w.heap.size w w' := by
  have hmf : ∀ (fn : Fn) (first cap : Array Value) (w : World), (Instr.makeFunc fn first cap).run Try.prog w = .ok (.func fn first cap) w := fun _ _ _ _ => rfl
  by_cases h1 : size < 1
  · have hf : ∀ l, fitOf size frm l = ((0, 0), false) := fun l => by unfold fitOf; rw [if_pos h1]
    have HF := Lib.hid hf
    clear hf
    go_enter Try.func22, Try.ntmps22
    go_wp2_with fail
    refine bodyPost_ret (v := .tuple #[runV (0, 0), .bool false]) ?_ rfl ⟨by rw [HF.out], ?_⟩
    · simp [results, Try.results22, go_sem, runV]
    · exact ((((Below.refl _ _).alloc (Nat.le_refl _) _).alloc (by simp) _).alloc (by simp; omega) _).alloc (by simp; omega) _
  · have h2 : 1 ≤ size := by omega
    have hf := Lib.hid (fun l => ask_fitOf size frm l h2)
    have HS := Lib.hid (⟨h2, hsz.2⟩ : 1 ≤ size ∧ size ≤ 9223372036854775807)
    have HFR := Lib.hid hfr
    go_enter Try.func22, Try.ntmps22
    go_wp2_with fail
    have hbel : Below w.heap.size w ((((w.alloc (Obj.cells #[Value.int IntKind.i64 size] 3)).alloc (Obj.cells #[Value.int IntKind.i64 frm] 3)).alloc (Obj.cells #[Value.int IntKind.i64 0, Value.int IntKind.i64 0] 31)).alloc (Obj.cells #[Value.bool false] 4)) :=
      ((((Below.refl _ _).alloc (Nat.le_refl _) _).alloc (by simp) _).alloc (by simp; omega) _).alloc (by simp; omega) _
    have hR0 : FitR w.heap.size size frm ((0, 0), false) ((((w.alloc (Obj.cells #[Value.int IntKind.i64 size] 3)).alloc (Obj.cells #[Value.int IntKind.i64 frm] 3)).alloc (Obj.cells #[Value.int IntKind.i64 0, Value.int IntKind.i64 0] 31)).alloc (Obj.cells #[Value.bool false] 4)) :=
      ⟨(((Row.new w _ [_] rfl).alloc _).alloc _).alloc _, ((Row.new _ _ [_] (by simp)).alloc _).alloc _, (Row.new _ _ [_, _] (by simp)).alloc _, Row.new _ _ [_] (by simp)⟩
    refine (each_gen 29 [_, _, _, _] (.inr ⟨rfl, _, _, _, _, rfl⟩) s n (by omega) hn (FitR w.heap.size size frm) (fitStep size frm) ((0, 0), false) w.heap.size _ hR0 (by simp; omega) (fun _ _ _ h hb => h.below hb) ?_).mono ?_
    · rintro st ⟨x1, x2⟩ w1 hR hx _
      exact fit1_any w.heap.size size frm st x1 x2 w1 hR (by dsimp only at hx; omega) HS.out HFR.out
    · rintro e w2 ⟨rfl, hR, hbw⟩
      rw [hf.out] at hR
      have HW := Lib.hid (hbel.trans hbw)
      clear hbw hbel hR0
      generalize hF : fitOf size frm (runsTo s.data.toList (firstN s.data.toList n)) = F at hR
      have HE := Lib.hid hF
      clear hF
      obtain ⟨⟨o1, o2⟩, ok⟩ := F
      obtain ⟨r1, r2, r3, r4⟩ := hR
      dsimp only at r3 r4
      have c3a := r3.cellAt 0 rfl
      have c3b := r3.cellAt 1 rfl
      have c4 := r4.cellAt 0 rfl
      have fr1 := r3.free 0 (by simp)
      have fr2 := r3.free 1 (by simp)
      have fr3 := r4.free 0 (by simp)
      go_wp2_with fail
      clear HFR HS hf
      go_region
      all_goals (try go_wp2_with fail)
      have p3 : Row (((w2.setCell ⟨w.heap.size + 1 + 1, 0, none⟩ (.int .i64 o1)).setCell ⟨w.heap.size + 1 + 1, 1, none⟩ (.int .i64 o2)).setCell ⟨w.heap.size + 1 + 1 + 1, 0, none⟩ (.bool ok)) (w.heap.size + 1 + 1) 31 [.int .i64 o1, .int .i64 o2] := ((r3.set 0 _).set 1 _).other (by dsimp only; omega) _
      have p4 : Row (((w2.setCell ⟨w.heap.size + 1 + 1, 0, none⟩ (.int .i64 o1)).setCell ⟨w.heap.size + 1 + 1, 1, none⟩ (.int .i64 o2)).setCell ⟨w.heap.size + 1 + 1 + 1, 0, none⟩ (.bool ok)) (w.heap.size + 1 + 1 + 1) 4 [.bool ok] := ((r4.other (by dsimp only; omega) _).other (by dsimp only; omega) _).set 0 _
      have d3a := p3.cellAt 0 rfl
      have d3b := p3.cellAt 1 rfl
      have d4 := p4.cellAt 0 rfl
      refine bodyPost_ret (v := .tuple #[runV (o1, o2), .bool ok]) ?_ rfl ⟨by rw [HE.out], ?_⟩
      · simp [results, Try.results22, go_sem, runV, d3a, d3b, d4]
      · exact (((HW.out.setCell (by dsimp only; omega) _).setCell (by dsimp only; omega) _).setCell (by dsimp only; omega) _).drew

set_option maxHeartbeats 1000000 in
theorem find_any (s : ByteArray) (n frm : Int) (hs : s.size ≤ 100000000) (hn : -9223372036854775808 ≤ n ∧ n ≤ 9223372036854775807)
    (hfr : -9223372036854775808 ≤ frm ∧ frm ≤ 9223372036854775807) (w : World) :
    Calls Try.prog 20 #[.string s, .int .i64 n, .int .i64 frm] w fun e w' =>
      e = .returned (.tuple #[.int .i64 (fitOf 1 frm (runsTo s.data.toList (firstN s.data.toList n))).1.1, .bool (fitOf 1 frm (runsTo s.data.toList (firstN s.data.toList n))).2]) ∧ Below w.heap.size w w' := by
  have hf := Lib.hid (fit_any s n 1 frm hs hn (by omega) hfr w)
  clear hn hfr
  generalize fitOf 1 frm (runsTo s.data.toList (firstN s.data.toList n)) = F at *
  obtain ⟨⟨o1, o2⟩, ok⟩ := F
  go_enter Try.func20, Try.ntmps20
  go_wp2_with fail
  refine hf.out.mono ?_
  rintro e w2 ⟨rfl, hb⟩
  have HB := Lib.hid hb
  clear hb
  simp only [runV]
  go_wp2_with fail
  refine bodyPost_ret (v := .tuple #[.int .i64 o1, .bool ok]) (by simp [results, Try.results20, go_sem]) rfl ⟨rfl, HB.out.alloc HB.out.size _⟩

end Go.Proofs.Ytnpgddndelidfaa
