/- ForksNodes: the walk. -/
import Derived.Test.YtgjmeeiejcbjfaaGreatG34
import Derived.Test.YtgjmeeiejcbjfaaGreatG36
import Derived.Test.YtgjmeeiejcbjfaaGreatG31
import Derived.Test.YtgjmeeiejcbjfaaGreatG37
import Derived.Test.YtgjmeeiejcbjfaaGreatG32
namespace Go.Proofs.YtgjmeeiejcbjfaaGreat
set_option linter.unusedVariables false
open Go Go.RowKit

/-- A row that is written over, and another that stays. -/
structure NodesSt (w : World) (B3 B4 : Nat) (a4 : Option Addr) (n4 c4 : Nat) (v5 : Value) (m : EL) (wr : World) : Prop where
  row : ∃ xs, wr.ownsRow B3 31 3 (.slice a4 n4 c4) n4 xs
  hi : ∀ g, a4 = some g → g.block < B4
  own : OwnEnts B4 wr v5 m
  bel : Below w.heap.size w wr
  lo : w.heap.size ≤ B3
theorem NodesSt.set {w wr : World} {B3 B4 n4 c4 : Nat} {a4 : Option Addr} {v5 : Value} {m : EL} (h : NodesSt w B3 B4 a4 n4 c4 v5 m wr) {g k : Nat} (ha : a4 = some ⟨g, 0, none⟩) (hk : k < n4 * 3) (u : Value) : NodesSt w B3 B4 a4 n4 c4 v5 m (wr.setCell ⟨g, k, none⟩ u) := by
  subst ha
  obtain ⟨xs, hx⟩ := h.row
  obtain ⟨g', e, hg, cs, hc⟩ := own_form hx (by omega)
  cases e
  exact ⟨⟨_, ownsRow_set hx k hk u⟩, h.hi, own_setAt u h.own (h.hi _ rfl), h.bel.setCell (by have := h.lo; dsimp only; omega) _, h.lo⟩

set_option maxRecDepth 100000 in
set_option maxHeartbeats 4000000 in
theorem ForksNodes_walk (ar : Option Addr) (cr : Nat) (l : EL) (leaf : Bool) (s : ByteArray) {w : World} (hin : ExtsIn w (.slice ar l.length cr) l) (hs : s.size ≤ 9223372036854775807) :
    Calls Tryz.prog 3 #[.slice ar l.length cr, .bool leaf, .string s] w fun e w' => e = .returned (.bool true) ∧ Below w.heap.size w w' := by
  by_cases hl : 1000 < (l.length : Int)
  · clear hin
    go_enter Tryz.func3, Tryz.ntmps3
    go_wp2_with fail
    go_ret
    exact ⟨rfl, Below.refl _ _⟩
  · have q1 := Lib.hid (ntwin_any _ l w hin.at_ (by omega))
    have HI := Lib.hid hin
    have hl' : l.length ≤ 1000 := by omega
    clear hin
    have Q4 := Lib.hid (fun w => decode_all s w hs)
    have Q5 := Lib.hid (fun w => rdecode_all s w hs)
    have hal := Lib.hid (fun w => alive_any w)
    have hdl := decM_len s
    generalize decM s = m at *
    generalize decE s = de at *
    generalize decL s = dl at *
    go_enter Tryz.func3, Tryz.ntmps3
    go_wp2_with fail
    refine q1.out.mono ?_
    rintro e w1 ⟨v1, rfl, t1, b1⟩
    have T1 := Lib.hid t1
    have B1 := Lib.hid b1
    have q2 := Lib.hid (encode_any leaf v1 l w1 HI.out.small t1.at (by omega))
    obtain ⟨g1, c1, rfl, -⟩ := t1
    have Q3 := Lib.hid (fun w2 (b2 : Below w.heap.size w w2) => rencode_any leaf (.slice ar l.length cr) l w2 HI.out.small (HI.out.at_.below (B := 0) b2) (by omega))
    generalize txt (Ents.encR l leaf).1 = T at *
    generalize (Ents.encR l leaf).2 = ev at *
    clear b1 q1
    go_wp2_with fail
    refine q2.out.mono ?_
    rintro e w2 ⟨rfl, b2⟩
    have T2 := Lib.hid (T1.out.below b2)
    have B2 := Lib.hid (B1.out.trans (b2.mono B1.out.size))
    have q3 := Lib.hid (Q3.out w2 B2.out)
    clear b2 q2 T1
    go_wp2_with fail
    refine q3.out.mono ?_
    rintro e w3 ⟨rfl, b3⟩
    have T3 := Lib.hid (T2.out.below b3)
    have B3 := Lib.hid (B2.out.trans (b3.mono B2.out.size))
    clear b3 q3 T2
    go_wp2_with fail
    refine (Q4.out _).mono ?_
    rintro e w4 ⟨v4, rfl, o4, b4⟩
    have T4 := Lib.hid (T3.out.below b4)
    have B4 := Lib.hid (B3.out.trans (b4.mono B3.out.size))
    have O4 := Lib.hid o4
    obtain ⟨a4, c4, rfl⟩ := o4.slice
    have z3 := B3.out.size
    clear b4 T3
    go_wp2_with fail
    refine (Q5.out _).mono ?_
    rintro e w5 ⟨v5, rfl, o5, b5⟩
    have T5 := Lib.hid (T4.out.below b5)
    have B5 := Lib.hid (B4.out.trans (b5.mono B4.out.size))
    have hi : Hid (∀ g, a4 = some g → g.block < w4.heap.size) := Lib.hid (fun g hg => by
      subst hg
      rcases O4.out.2 with ⟨h1, _⟩ | ⟨g', cap, cur, hv, _, hh, _⟩
      · cases h1
      · cases hv
        exact lt_of_block hh)
    have P4 := Lib.hid (O4.out.below b5)
    have O5 := Lib.hid o5
    have q6 := Lib.hid (nsame_b w5 _ _ m m P4.out.at o5.at (by omega) (by omega) true (by simp))
    obtain ⟨a5, c5, rfl⟩ := o5.slice
    clear b5 T4 O4
    go_wp2_with fail
    refine q6.out.mono ?_
    rintro e w6 ⟨rfl, b6⟩
    have T6 := Lib.hid (T5.out.below b6)
    have B6 := Lib.hid (B5.out.trans (b6.mono B5.out.size))
    have R6 := Lib.hid (P4.out.below b6)
    have S6 := Lib.hid (O5.out.below b6)
    have q7 := Lib.hid (nleft_any w.heap.size _ (.slice ar l.length cr) l w6 T6.out (HI.out.at_.below (B := 0) B6.out) hl')
    clear b6 q6 T5 P4 O5
    go_wp2_with fail
    refine q7.out.mono ?_
    rintro e w7 ⟨rfl, b7⟩
    have ST : Hid (NodesSt w w3.heap.size w4.heap.size a4 m.length c4 (.slice a5 m.length c5) m w7) := Lib.hid ⟨⟨_, R6.out.below b7⟩, hi.out, S6.out.below b7, B6.out.trans (b7.mono B6.out.size), z3⟩
    clear b7 q7 T6 R6 S6 hi
    go_wp2_with fail
    go_loopw [18] (fun q wr => ∃ k : Nat, k ≤ m.length ∧ q = .int .i64 k ∧ Hid (NodesSt w w3.heap.size w4.heap.size a4 m.length c4 (.slice a5 m.length c5) m wr)) (fun q _ => m.length - (intOf q).toNat)
    case atStart => exact ⟨0, by omega, rfl, ST⟩
    case round =>
      clear ST
      obtain ⟨k, hk, rfl, hst⟩ := hrel
      by_cases hlt : k < m.length
      · obtain ⟨xs, hx⟩ := hst.out.row
        obtain ⟨g, rfl, hg, cs, hc⟩ := own_form hx (by omega)
        have i0 : (0 : Int) ≤ (k : Int) := by omega
        have i1 : (k : Int) < (m.length : Int) := by omega
        obtain ⟨⟨u0, d0⟩, f0⟩ := own_there hx (k * 3) (by omega)
        obtain ⟨⟨u1, d1⟩, f1⟩ := own_there hx (k * 3 + 1) (by omega)
        obtain ⟨⟨u2, d2⟩, f2⟩ := own_there hx (k * 3 + 2) (by omega)
        have HN := Lib.hid (((hst.out.set rfl (k := k * 3) (by omega) (.int .i64 0)).set rfl (k := k * 3 + 1) (by omega) (.int .i64 0)).set rfl (k := k * 3 + 2) (by omega) (.int .i64 (-9)))
        clear hx hc hst
        go_wp2_with fail
        go_roundw
        case rel => exact ⟨k + 1, by omega, by go_num, HN⟩
        case measure => simp [intOf]; omega
      · obtain rfl : k = m.length := by omega
        have B7 := Lib.hid hst.out.bel
        have O7 := Lib.hid hst.out.own
        clear hst
        go_wp2_with fail
        refine (Q4.out _).mono ?_
        rintro e w8 ⟨v8, rfl, o8, b8⟩
        have B8 := Lib.hid (B7.out.trans (b8.mono B7.out.size))
        have q8 := Lib.hid (nsame_b w8 _ _ m m o8.at (O7.out.below b8).at (by omega) (by omega) true (by simp))
        obtain ⟨a8, c8, rfl⟩ := o8.slice
        clear b8 o8
        go_wp2_with fail
        refine q8.out.mono ?_
        rintro e w9 ⟨rfl, b9⟩
        have B9 := Lib.hid (B8.out.trans (b9.mono B8.out.size))
        clear b9
        go_wp2_with fail
        refine (hal.out _).mono ?_
        rintro e w10 ⟨rfl, b10⟩
        have B10 := Lib.hid (B9.out.trans (b10.mono B9.out.size))
        clear b10
        go_wp2_with fail
        go_ret
        exact ⟨rfl, B10.out⟩

end Go.Proofs.YtgjmeeiejcbjfaaGreat
