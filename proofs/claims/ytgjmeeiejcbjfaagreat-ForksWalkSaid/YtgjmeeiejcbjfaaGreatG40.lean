/- Lists of changes that are the same. Forks: what is told, and a world's own, as what tells fresh blocks. -/
import Derived.Test.YtgjmeeiejcbjfaaGreatG22
import Derived.Test.YtgjmeeiejcbjfaaGreatG23
namespace Go.Proofs.YtgjmeeiejcbjfaaGreat
set_option linter.unusedVariables false
open Go Go.RowKit

theorem csame_zero (a1 a2 : Option Addr) (c1 c2 : Nat) (w : World) :
    Calls Tryz.prog 30 #[.slice a1 0 c1, .slice a2 0 c2] w fun e w' => e = .returned (.bool true) ∧ ∃ n, w' = w.drewN n := by
  go_enter Tryz.func30, Tryz.ntmps30
  go_wp2_with fail
  refine wp_loop_rounds 1 ?_
  rw [rounds_succ]
  go_wp2_with fail
  go_ret
  exact ⟨rfl, 0, rfl⟩

set_option maxHeartbeats 2000000 in
theorem csame_any (w : World) (v1 v2 : Value) (l : CL) (h1 : ChgsAt w v1 l) (h2 : ChgsAt w v2 l) (hl : l.length ≤ 1000000000) :
    Calls Tryz.prog 30 #[v1, v2] w fun e w' => e = .returned (.bool true) ∧ ∃ n, w' = w.drewN n := by
  have H1 := Lib.hid h1
  have H2 := Lib.hid h2
  obtain ⟨a1, c1, rfl⟩ := h1.form
  obtain ⟨a2, c2, rfl⟩ := h2.form
  clear h1 h2
  by_cases h0 : l.length = 0
  · rw [h0]
    exact csame_zero _ _ _ _ w
  go_enter Tryz.func30, Tryz.ntmps30
  go_wp2_with fail
  go_loopw [5] (fun q wr => ∃ i : Nat, i ≤ l.length ∧ q = .int .i64 i ∧ Hid (∃ n, wr = w.drewN n)) (fun q _ => l.length - (intOf q).toNat)
  case atStart => exact ⟨0, by omega, rfl, Lib.hid ⟨0, rfl⟩⟩
  case round =>
    obtain ⟨i, hi, rfl, hw⟩ := hrel
    by_cases hlt : i < l.length
    · obtain ⟨m, hm⟩ := hw.out
      obtain ⟨g1, o1, rfl, c1a, c1b⟩ := H1.out.cells i hlt
      obtain ⟨g2, o2, rfl, c2a, c2b⟩ := H2.out.cells i hlt
      generalize l.getD i (0, ⟨#[]⟩) = x at *
      obtain ⟨xb, xs⟩ := x
      dsimp only at *
      have e1 : wr.cell? = w.cell? := by rw [hm]; rfl
      rw [← e1] at c1a c1b c2a c2b
      clear hm e1
      have hxx : (xs.toList == xs.toList) = true := by simp
      have i0 : (0 : Int) ≤ (i : Int) := by omega
      have i1 : (i : Int) < l.length := by omega
      go_wp2_with fail
      go_quiet (fail)
      go_wp2_with fail
      go_roundw
      case rel =>
        refine ⟨i + 1, by omega, by go_num, ?_⟩
        obtain ⟨m, rfl⟩ := hw.out
        exact Lib.hid ⟨m + nq, World.drewN_drewN _ _ _⟩
      case measure => simp [intOf]; omega
    · go_wp2_with fail
      go_ret
      exact ⟨rfl, hw.out⟩
theorem csame_b (w : World) (v1 v2 : Value) (l : CL) (h1 : ChgsAt w v1 l) (h2 : ChgsAt w v2 l) (hl : l.length ≤ 1000000000) :
    Calls Tryz.prog 30 #[v1, v2] w fun e w' => e = .returned (.bool true) ∧ Below w.heap.size w w' := by
  refine (csame_any w v1 v2 l h1 h2 hl).mono ?_
  rintro e w' ⟨rfl, k, rfl⟩
  exact ⟨rfl, below_dr (Below.refl _ _)⟩

end Go.Proofs.YtgjmeeiejcbjfaaGreat

namespace Go.Proofs.YtgjmeeiejcbjfaaGreat
set_option linter.unusedVariables false
open Go Go.RowKit

/-- Numbers below K0, apart from O. -/
def IntsBel (K0 O : Nat) (w : World) (v : Value) (l : IL) : Prop :=
  (v = .slice none 0 0 ∧ l = []) ∨ ∃ b off cap, v = .slice (some ⟨b, off, none⟩) l.length cap ∧ ∀ j u, (icells l)[j]? = some u → b < K0 ∧ b ≠ O ∧ w.cell? ⟨b, off + j, none⟩ = some u
theorem IntsBel.at {K0 O : Nat} {w : World} {v : Value} {l : IL} (h : IntsBel K0 O w v l) : IntsAt w v l := by
  rcases h with h | ⟨b, off, cap, h1, h2⟩
  · exact .inl h
  · exact .inr ⟨b, off, cap, h1, fun j u hu => (h2 j u hu).2.2⟩
theorem IntsBel.below {K0 O : Nat} {w w' : World} {v : Value} {l : IL} (h : IntsBel K0 O w v l) (hb : Below K0 w w') : IntsBel K0 O w' v l := by
  rcases h with h | ⟨b, off, cap, h1, h2⟩
  · exact .inl h
  · exact .inr ⟨b, off, cap, h1, fun j u hu => ⟨(h2 j u hu).1, (h2 j u hu).2.1, (hb.cell (p := ⟨b, off + j, none⟩) (h2 j u hu).1).trans (h2 j u hu).2.2⟩⟩
theorem IntsBel.only {K0 O : Nat} {w w' : World} {v : Value} {l : IL} (h : IntsBel K0 O w v l) (hb : OnlyM O w w') : IntsBel K0 O w' v l := by
  rcases h with h | ⟨b, off, cap, h1, h2⟩
  · exact .inl h
  · exact .inr ⟨b, off, cap, h1, fun j u hu => ⟨(h2 j u hu).1, (h2 j u hu).2.1, (World.cell?_of_block (hb.block b (World.block_lt_of_cell? _ _ (h2 j u hu).2.2) (h2 j u hu).2.1)).trans (h2 j u hu).2.2⟩⟩
/-- Numbers of a world ahead lie below, apart from what came behind. -/
theorem IntsAt.bel {K0 O B : Nat} {w w' : World} {v : Value} {l : IL} (h : IntsAt w v l) (hb : Below B w w') (hB : w.heap.size ≤ B) (hO : w.heap.size ≤ O) (hK : w.heap.size ≤ K0) : IntsBel K0 O w' v l := by
  rcases h with h | ⟨b, off, cap, h1, h2⟩
  · exact .inl h
  · refine .inr ⟨b, off, cap, h1, fun j u hu => ?_⟩
    have hc := h2 j u hu
    have hlt : b < w.heap.size := World.block_lt_of_cell? _ _ hc
    exact ⟨by omega, by omega, (hb.cell (p := ⟨b, off + j, none⟩) (by show b < B; omega)).trans hc⟩
def ToldFR (K0 O : Nat) (lv : Value) (l : IL) (k : Nat) (w : World) : Prop := ToldAt w O lv k ∧ IntsBel K0 O w lv l
theorem toldFn (K0 O : Nat) (lv : Value) (l : IL) (hO : O < K0) (hl : l.length ≤ 1000000) : FreshFn Nat K0 O 29 #[.pointer (some ⟨O, 0, none⟩)] (fun k => (toldT l k, k + 1)) (ToldFR K0 O lv l) (fun k => k) := by
  refine ⟨.inl ⟨rfl, O, rfl⟩, fun k wz h hc => ?_, fun k wz wz' h hb => ?_, fun k => Nat.le_refl _, hO⟩
  · refine (told_any O lv l k wz h.1 (fun wy hy => (h.2.only hy).at) (by omega) hl).mono ?_
    rintro e w' ⟨rfl, h1, h2⟩
    exact ⟨rfl, ⟨h1, h.2.only h2⟩, h2, .of_all (fun T hT => h2.keepS (T := T) h.1 hT)⟩
  · refine ⟨?_, h.2.below hb⟩
    unfold ToldFR at h
    unfold ToldAt at *
    rw [hb.block O hO]
    exact h.1
/-- Which blocks a world has given out; the next one. -/
def nextB (us : List Bool) : Option Nat := ((List.range 4096).drop 2048).find? fun b => !(us.getD b true)
def WorldFR (W U : Nat) (us : List Bool) (w : World) : Prop := us.length = 4096 ∧ w.cell? ⟨W, 3, none⟩ = some (.slice (some ⟨U, 0, none⟩) 4096 4096) ∧ Row w U 4 (us.map .bool)

end Go.Proofs.YtgjmeeiejcbjfaaGreat
