/- Forks: is a block one that a place has? (Printed by wip/gen/ftaken.py.) -/
import Derived.Test.YtgjmeeiejcbjfaaGreatH19
import Derived.Test.YtgjmeeiejcbjfaaGreatH22
import Derived.Test.YtgjmeeiejcbjfaaGreatH17
set_option linter.unusedSimpArgs false
set_option linter.unusedVariables false
namespace Go.Proofs.YtgjmeeiejcbjfaaGreat
open Go.Lib (hid)
open Go Go.RowKit
set_option maxHeartbeats 1000000 in
theorem taken1_any (x : Exts.E) (hx : SmallE x ∧ -1000000000000 ≤ x.2.1 ∧ x.2.1 ≤ 1000000000000) (b : Int) (hb : -1000000000000 ≤ b ∧ b ≤ 1000000000000) (P : Nat) (w : World) (hp : w.cell? ⟨P, 0, none⟩ = some (.int .i64 b)) :
  Calls Tryz.prog 101 #[.agg #[.int .i64 x.1, .int .i64 x.2.1, .int .i64 x.2.2], .pointer (some ⟨P, 0, none⟩)] w fun e w' => e = .returned (.bool (Forks.inX b x)) ∧ Below w.heap.size w w' := by
 obtain ⟨xa, xb, xc⟩ := x
 have hP : P < w.heap.size := World.block_lt_of_cell? _ _ hp
 obtain ⟨hsm, h1, h2⟩ := hx
 dsimp only at h1 h2
 have HI : Hid (Forks.inX b (xa, xb, xc) = (decide (xb ≤ b) && decide (b - xb < xc))) := hid rfl
 have x0 : (w.alloc (.cells #[.int .i64 xa, .int .i64 xb, .int .i64 xc] 53)).cell? ⟨w.heap.size, 0, none⟩ = some (.int .i64 xa) := box_cell _ _ _ _
 have x1 : (w.alloc (.cells #[.int .i64 xa, .int .i64 xb, .int .i64 xc] 53)).cell? ⟨w.heap.size, 1, none⟩ = some (.int .i64 xb) := box_cell _ _ _ _
 have x2 : (w.alloc (.cells #[.int .i64 xa, .int .i64 xb, .int .i64 xc] 53)).cell? ⟨w.heap.size, 2, none⟩ = some (.int .i64 xc) := box_cell _ _ _ _
 have bA := hid ((Below.refl w.heap.size w).alloc (Nat.le_refl _) (.cells #[.int .i64 xa, .int .i64 xb, .int .i64 xc] 53))
 have hsub : IntKind.i64.wrap (b - xb) = b - xb := by simp [IntKind.wrap_i64]; omega
 by_cases c1 : xb ≤ b
 ·have hR : Hid (Forks.inX b (xa, xb, xc) = decide (b - xb < xc)) := hid (by rw [HI.out, decide_eq_true c1, Bool.true_and])
  generalize Forks.inX b (xa, xb, xc) = r at *
  go_enter Tryz.func101, Tryz.ntmps101
  go_wp2_with fail
  go_ret
  exact ⟨by rw [hR.out]; rfl, bA.out⟩
 ·have hR : Hid (Forks.inX b (xa, xb, xc) = false) := hid (by rw [HI.out, decide_eq_false c1, Bool.false_and])
  generalize Forks.inX b (xa, xb, xc) = r at *
  go_enter Tryz.func101, Tryz.ntmps101
  go_wp2_with fail
  go_ret
  exact ⟨by rw [hR.out]; rfl, bA.out⟩
set_option maxRecDepth 100000 in
set_option maxHeartbeats 2000000 in
theorem idxTaken_any (P : Nat) (v : Value) (l : List Exts.E) (p : Exts.E → Bool) (w : World) (h : ExtsAt w v l) (hl : l.length ≤ 1000000000)
  (hc : ∀ x ∈ l, ∀ wz, Below w.heap.size w wz → Calls Tryz.prog 101 #[.agg #[.int .i64 x.1, .int .i64 x.2.1, .int .i64 x.2.2], .pointer (some ⟨P, 0, none⟩)] wz fun e w' => e = .returned (.bool (p x)) ∧ Below wz.heap.size wz w') :
  Calls Tryz.prog 97 #[v, .func (.func 101) #[] #[.pointer (some ⟨P, 0, none⟩)]] w fun e w' => e = .returned (.int .i64 (idxOf p l)) ∧ Below w.heap.size w w' := by
 have H := hid h
 have hcl := hid hc
 obtain ⟨ad, cap, rfl⟩ := h.form
 clear h hc
 generalize hI : idxOf p l = I at *
 have HI := hid hI
 clear hI
 go_enter Tryz.func97, Tryz.ntmps97
 go_wp2_with fail
 go_loopw [8] (fun q wr => ∃ j : Nat, j ≤ l.length ∧ q = .int .i64 j ∧ Hid (∀ k, k < j → p (l.getD k (0, 0, 0)) = false) ∧ Hid (Below w.heap.size w wr)) (fun q _ => l.length - (intOf q).toNat)
 case atStart => exact ⟨0, by omega, rfl, hid (fun k hk => absurd hk (Nat.not_lt_zero _)), hid (Below.refl _ _)⟩
 case round =>
  obtain ⟨j, hj, rfl, ha, hb⟩ := hrel
  by_cases hlt : j < l.length
  ·have i0 : (0 : Int) ≤ (j : Int) := by omega
   have i1 : (j : Int) < (l.length : Int) := by omega
   obtain ⟨hll, g, off, rfl, c0, c1, c2⟩ := (H.out.below (B := 0) hb.out).cells j hlt
   clear hll
   have hmx : l.getD j (0, 0, 0) ∈ l := by rw [show l.getD j (0, 0, 0) = l[j] by simp [List.getD, hlt]]; exact List.getElem_mem hlt
   have hc := hid (hcl.out _ hmx wr hb.out)
   clear hmx
   cases hm : p (l.getD j (0, 0, 0))
   ·have ha' : Hid (∀ k, k < j + 1 → p (l.getD k (0, 0, 0)) = false) := hid (fun k hk => by
     rcases Nat.lt_or_ge k j with h | h
     ·exact ha.out k h
     ·obtain rfl : k = j := by omega
      exact hm)
    rw [hm] at hc
    generalize l.getD j (0, 0, 0) = x at *
    obtain ⟨xa, xb, xc⟩ := x
    dsimp only at *
    clear hm
    go_wp2_with fail
    refine hc.out.mono ?_
    rintro e w' ⟨rfl, hb'⟩
    have B2 := hid (hb.out.trans (hb'.mono hb.out.size))
    clear hb'
    go_wp2_with fail
    go_roundw
    case rel => exact ⟨j + 1, by omega, by go_num, ha', B2⟩
    case measure => simp [intOf]; omega
   ·have hfb : Hid (I = (j : Int)) := hid (by rw [← HI.out]; exact idxOf_at p l j hlt (0, 0, 0) ha.out hm)
    rw [hm] at hc
    generalize l.getD j (0, 0, 0) = x at *
    obtain ⟨xa, xb, xc⟩ := x
    dsimp only at *
    clear hm
    go_wp2_with fail
    refine hc.out.mono ?_
    rintro e w' ⟨rfl, hb'⟩
    have B2 := hid (hb.out.trans (hb'.mono hb.out.size))
    clear hb'
    go_wp2_with fail
    go_ret
    exact ⟨by rw [hfb.out]; rfl, B2.out⟩
  ·obtain rfl : j = l.length := by omega
   have hfb : Hid (I = -1) := hid (by rw [← HI.out]; exact idxOf_no p l (0, 0, 0) ha.out)
   go_wp2_with fail
   go_ret
   exact ⟨by rw [hfb.out]; rfl, hb.out⟩
theorem hasTaken_any (P : Nat) (v : Value) (l : List Exts.E) (p : Exts.E → Bool) (w : World) (h : ExtsAt w v l) (hl : l.length ≤ 1000000000)
  (hc : ∀ x ∈ l, ∀ wz, Below w.heap.size w wz → Calls Tryz.prog 101 #[.agg #[.int .i64 x.1, .int .i64 x.2.1, .int .i64 x.2.2], .pointer (some ⟨P, 0, none⟩)] wz fun e w' => e = .returned (.bool (p x)) ∧ Below wz.heap.size wz w') :
  Calls Tryz.prog 57 #[v, .func (.func 101) #[] #[.pointer (some ⟨P, 0, none⟩)]] w fun e w' => e = .returned (.bool (l.any p)) ∧ Below w.heap.size w w' := by
 have q := hid (idxTaken_any P v l p w h hl hc)
 have hA := hid (idxOf_any p l)
 clear h hc
 generalize l.any p = r at *
 rcases idxOf_cases p l with hI | ⟨j, hj, hI⟩
 ·rw [hI] at q hA
  clear hI
  go_enter Tryz.func57, Tryz.ntmps57
  go_wp2_with fail
  refine q.out.mono ?_
  rintro e w' ⟨rfl, hb⟩
  have B2 := hid hb
  clear hb
  go_wp2_with fail
  go_ret
  exact ⟨by rw [← hA.out]; rfl, B2.out⟩
 ·rw [hI] at q hA
  clear hI
  have j0 : (0 : Int) ≤ (j : Int) := by omega
  go_enter Tryz.func57, Tryz.ntmps57
  go_wp2_with fail
  refine q.out.mono ?_
  rintro e w' ⟨rfl, hb⟩
  have B2 := hid hb
  clear hb
  go_wp2_with fail
  go_ret
  exact ⟨by rw [← hA.out, decide_eq_true j0]; rfl, B2.out⟩
set_option maxHeartbeats 1000000 in
theorem taken_any (v : Value) (R : EL) (b : Int) (w : World) (hs : ∀ x ∈ R, SmallE x ∧ -1000000000000 ≤ x.2.1 ∧ x.2.1 ≤ 1000000000000) (h : ExtsAt w v R) (hl : R.length ≤ 1000000) (hb : -1000000000000 ≤ b ∧ b ≤ 1000000000000) (r : Bool) (hr : Forks.taken R b = r) :
  Calls Tryz.prog 62 #[v, .int .i64 b] w fun e w' => e = .returned (.bool r) ∧ Below w.heap.size w w' := by
 have bA : Below w.heap.size w (w.alloc (.cells #[.int .i64 b] 3)) := (Below.refl _ _).alloc (Nat.le_refl _) _
 have q := hid (hasTaken_any w.heap.size v R (Forks.inX b) (w.alloc (.cells #[.int .i64 b] 3)) (h.below (B := 0) bA) (by omega) (fun x hx wz hz => taken1_any x (hs x hx) b hb _ wz ((hz.cell (p := ⟨w.heap.size, 0, none⟩) (by simp)).trans (box_cell _ _ _ _))))
 have hr' : R.any (Forks.inX b) = r := hr
 rw [hr'] at q
 obtain ⟨ad, c, rfl⟩ := h.form
 have HA := hid bA
 clear h hs hr hr' bA
 go_enter Tryz.func62, Tryz.ntmps62
 go_wp2_with fail
 refine q.out.mono ?_
 rintro e w' ⟨rfl, hb'⟩
 have F := hid (HA.out.trans (hb'.mono HA.out.size))
 clear hb'
 go_wp2_with fail
 go_ret
 exact ⟨rfl, F.out⟩
theorem block_setCell {w : World} {b : Nat} {cs : Array Value} {T : TypeId} {fr : Nat × Nat} (h : w.heap[b]? = some (.cells cs T fr)) (k : Nat) (u : Value) : (w.setCell ⟨b, k, none⟩ u).heap[b]? = some (.cells (cs.set! k u) T fr) := by
 have hlt := lt_of_block h
 have h' : w.heap[b] = .cells cs T fr := by simpa [Array.getElem?_eq_getElem hlt] using h
 show (w.heap.modify b _)[b]? = _
 rw [Array.getElem?_eq_getElem (by simpa using hlt), Array.getElem_modify_self, h']
 simp
theorem OnlyM.drewN {M : Nat} {w w' : World} (h : OnlyM M w w') (n : Nat) : OnlyM M w (w'.drewN n) := h.trans ⟨rfl, rfl, rfl, Nat.le_refl _, fun _ _ _ => rfl⟩
def ToldAt (w : World) (O : Nat) (lv : Value) (k : Nat) : Prop := w.heap[O]? = some (.cells #[lv, .int .i64 (k : Int)] 68 (0, 0))
def FreshOut (b : Option Int) : Value := match b with | some b => .tuple #[.int .i64 b, .int .i64 0] | none => .tuple #[.int .i64 0, .int .i64 170]
theorem fifty_any (w : World) : Calls Tryz.prog 45 #[] w fun e w' => e = .returned (FreshOut (some 50)) ∧ w' = w := by
 go_enter Tryz.func45, Tryz.ntmps45
 go_wp2_with fail
 go_ret2
 exact ⟨rfl, rfl⟩
def FreshTold (us : List Bool) (U : Nat) (w : World) (e : Ending) (w' : World) : Prop :=
 (∃ b : Nat, 2048 ≤ b ∧ b < 4096 ∧ us.getD b true = false ∧ (∀ c, 2048 ≤ c → c < b → us.getD c true = true) ∧ e = .returned (FreshOut (some (b : Int))) ∧ w' = w.setCell ⟨U, b, none⟩ (.bool true)) ∨
  ((∀ c, 2048 ≤ c → c < 4096 → us.getD c true = true) ∧ e = .returned (FreshOut none) ∧ w' = w)
set_option maxHeartbeats 2000000 in
theorem fresh_any (W U : Nat) (us : List Bool) (w : World) (h : w.cell? ⟨W, 3, none⟩ = some (.slice (some ⟨U, 0, none⟩) 4096 4096)) (hU : ∀ b, b < 4096 → w.cell? ⟨U, b, none⟩ = some (.bool (us.getD b true))) (hF : ∀ b, w.frozen? ⟨U, b, none⟩ = false) :
  Calls Tryz.prog 32 #[.pointer (some ⟨W, 0, none⟩)] w (FreshTold us U w) := by
 have HU := hid hU
 have HF := hid hF
 have HW := hid h
 clear hU hF h
 go_enter Tryz.func32, Tryz.ntmps32
 go_wp2_with fail
 go_loopw [4] (fun q wr => ∃ j : Nat, 2048 ≤ j ∧ j ≤ 4096 ∧ q = .int .i64 j ∧ w = wr ∧ Hid (∀ c, 2048 ≤ c → c < j → us.getD c true = true)) (fun q _ => 4096 - (intOf q).toNat)
 case atStart => exact ⟨2048, by omega, by omega, rfl, rfl, hid (fun c h1 h2 => absurd h2 (by omega))⟩
 case round =>
  obtain ⟨j, hj0, hj, rfl, rfl, ha⟩ := hrel
  by_cases hlt : j < 4096
  ·have i0 : (0 : Int) ≤ (j : Int) := by omega
   have i1 : (j : Int) < 4096 := by omega
   have c3 := HW.out
   have cj := HU.out j hlt
   have fj := HF.out j
   cases hu : us.getD j true
   ·rw [hu] at cj
    have HY : Hid (FreshTold us U w (.returned (FreshOut (some (j : Int)))) (w.setCell ⟨U, j, none⟩ (.bool true))) := hid (.inl ⟨j, hj0, hlt, hu, ha.out, rfl, rfl⟩)
    clear hu
    go_wp2_with fail
    go_ret2
    exact HY.out
   ·rw [hu] at cj
    have ha' : Hid (∀ c, 2048 ≤ c → c < j + 1 → us.getD c true = true) := hid (fun c h1 h2 => by
     rcases Nat.lt_or_ge c j with h | h
     ·exact ha.out c h1 h
     ·obtain rfl : c = j := by omega
      exact hu)
    clear hu
    go_wp2_with fail
    go_roundw
    case rel => exact ⟨j + 1, by omega, by omega, by go_num, trivial, ha'⟩
    case measure => simp [intOf]; omega
  ·obtain rfl : j = 4096 := by omega
   have HN : Hid (FreshTold us U w (.returned (FreshOut none)) w) := hid (.inr ⟨ha.out, rfl, rfl⟩)
   go_wp2_with fail
   go_ret2
   exact HN.out
end Go.Proofs.YtgjmeeiejcbjfaaGreat
namespace Go.Proofs.YtgjmeeiejcbjfaaGreat.Forks
open Go.Lib (hid)
open Go Go.RowKit
def badB (v : V) (R : EL) (T : IL) (b : Int) : Bool := decide (b < 1) || decide (4096 ≤ b) || has v b.toNat || taken R b || T.contains b
def askT {S : Type} (nx : S → Option Int × S) (v : V) (R : EL) : Nat → IL → S → (Int × IL) × S
 | 0, T, s => ((0, T), s)
 | k + 1, T, s => match (nx s).1 with
  | none => ((170, T), (nx s).2)
  | some b => if badB v R T b then ((2, T), (nx s).2) else askT nx v R k (T ++ [b]) (nx s).2
theorem askT_none {S : Type} (nx : S → Option Int × S) (v : V) (R : EL) (k : Nat) (T : IL) (s : S) (h : (nx s).1 = none) : askT nx v R (k + 1) T s = ((170, T), (nx s).2) := by simp [askT, h]
theorem askT_bad {S : Type} (nx : S → Option Int × S) (v : V) (R : EL) (k : Nat) (T : IL) (s : S) (b : Int) (h : (nx s).1 = some b) (hb : badB v R T b = true) : askT nx v R (k + 1) T s = ((2, T), (nx s).2) := by simp [askT, h, hb]
theorem askT_good {S : Type} (nx : S → Option Int × S) (v : V) (R : EL) (k : Nat) (T : IL) (s : S) (b : Int) (h : (nx s).1 = some b) (hb : badB v R T b = false) : askT nx v R (k + 1) T s = askT nx v R k (T ++ [b]) (nx s).2 := by simp [askT, h, hb]
end Go.Proofs.YtgjmeeiejcbjfaaGreat.Forks
namespace Go.Proofs.YtgjmeeiejcbjfaaGreat
open Go.Lib (hid)
open Go Go.RowKit
def Forks.isM (lg n : Int) (x : Exts.E) : Bool := (x.1 == lg) && (x.2.2 == n)
def Forks.inM (tt n : Int) (b : Int) : Bool := decide (tt ≤ b) && decide (b < tt + n)
set_option maxHeartbeats 1000000 in
theorem move1_any (x : Exts.E) (lg n : Int) (P Q : Nat) (w : World) (hp : w.cell? ⟨P, 0, none⟩ = some (.int .i64 lg)) (hq : w.cell? ⟨Q, 0, none⟩ = some (.int .i64 n)) :
  Calls Tryz.prog 56 #[.agg #[.int .i64 x.1, .int .i64 x.2.1, .int .i64 x.2.2], .pointer (some ⟨P, 0, none⟩), .pointer (some ⟨Q, 0, none⟩)] w fun e w' => e = .returned (.bool (Forks.isM lg n x)) ∧ Below w.heap.size w w' := by
 obtain ⟨xa, xb, xc⟩ := x
 have hP : P < w.heap.size := World.block_lt_of_cell? _ _ hp
 have hQ : Q < w.heap.size := World.block_lt_of_cell? _ _ hq
 have HI : Hid (Forks.isM lg n (xa, xb, xc) = ((xa == lg) && (xc == n))) := hid rfl
 have bA := hid ((Below.refl w.heap.size w).alloc (Nat.le_refl _) (.cells #[.int .i64 xa, .int .i64 xb, .int .i64 xc] 31))
 cases c1 : (xa == lg)
 ·have hR : Hid (Forks.isM lg n (xa, xb, xc) = false) := hid (by rw [HI.out, c1, Bool.false_and])
  generalize Forks.isM lg n (xa, xb, xc) = r at *
  go_enter Tryz.func56, Tryz.ntmps56
  go_wp2_with fail
  go_ret
  exact ⟨by rw [hR.out]; rfl, bA.out⟩
 ·have hR : Hid (Forks.isM lg n (xa, xb, xc) = (xc == n)) := hid (by rw [HI.out, c1, Bool.true_and])
  generalize Forks.isM lg n (xa, xb, xc) = r at *
  go_enter Tryz.func56, Tryz.ntmps56
  go_wp2_with fail
  go_ret
  exact ⟨by rw [hR.out]; rfl, bA.out⟩
set_option maxHeartbeats 1000000 in
theorem move3_any (b tt n : Int) (hto : 0 ≤ tt ∧ tt ≤ 1000000000000) (hn : -1000000000000 ≤ n ∧ n ≤ 1000000000000) (P Q : Nat) (w : World) (hp : w.cell? ⟨P, 0, none⟩ = some (.int .i64 tt)) (hq : w.cell? ⟨Q, 0, none⟩ = some (.int .i64 n)) :
  Calls Tryz.prog 60 #[.int .i64 b, .pointer (some ⟨P, 0, none⟩), .pointer (some ⟨Q, 0, none⟩)] w fun e w' => e = .returned (.bool (Forks.inM tt n b)) ∧ Below w.heap.size w w' := by
 have HI : Hid (Forks.inM tt n b = (decide (tt ≤ b) && decide (b < tt + n))) := hid rfl
 have hadd : IntKind.i64.wrap (tt + n) = tt + n := by simp [IntKind.wrap_i64]; omega
 have bA := hid (Below.refl w.heap.size w)
 by_cases c1 : tt ≤ b
 ·have hR : Hid (Forks.inM tt n b = decide (b < tt + n)) := hid (by rw [HI.out, decide_eq_true c1, Bool.true_and])
  generalize Forks.inM tt n b = r at *
  go_enter Tryz.func60, Tryz.ntmps60
  go_wp2_with fail
  go_ret
  exact ⟨by rw [hR.out]; rfl, bA.out⟩
 ·have hR : Hid (Forks.inM tt n b = false) := hid (by rw [HI.out, decide_eq_false c1, Bool.false_and])
  generalize Forks.inM tt n b = r at *
  go_enter Tryz.func60, Tryz.ntmps60
  go_wp2_with fail
  go_ret
  exact ⟨by rw [hR.out]; rfl, bA.out⟩
set_option maxHeartbeats 1000000 in
theorem lead2_any (x : Exts.E) (f : Int) (P : Nat) (w : World) (hp : w.cell? ⟨P, 0, none⟩ = some (.int .i64 f)) :
  Calls Tryz.prog 68 #[.agg #[.int .i64 x.1, .int .i64 x.2.1, .int .i64 x.2.2], .pointer (some ⟨P, 0, none⟩)] w fun e w' => e = .returned (.bool (x.2.1 == f)) ∧ Below w.heap.size w w' := by
 obtain ⟨xa, xb, xc⟩ := x
 have hP : P < w.heap.size := World.block_lt_of_cell? _ _ hp
 have bA := hid ((Below.refl w.heap.size w).alloc (Nat.le_refl _) (.cells #[.int .i64 xa, .int .i64 xb, .int .i64 xc] 31))
 go_enter Tryz.func68, Tryz.ntmps68
 go_wp2_with fail
 go_ret
 exact ⟨rfl, bA.out⟩
set_option maxHeartbeats 1000000 in
theorem lead11_any (b f : Int) (u : Value) (hu : ∃ ad n c, u = .slice ad n c) (P : Nat) (w : World) (hp : w.cell? ⟨P, 0, none⟩ = some (.int .i64 f)) :
  Calls Tryz.prog 67 #[.agg #[.int .i64 b, u], .pointer (some ⟨P, 0, none⟩)] w fun e w' => e = .returned (.bool (b == f)) ∧ Below w.heap.size w w' := by
 obtain ⟨ad, n, c, rfl⟩ := hu
 have hP : P < w.heap.size := World.block_lt_of_cell? _ _ hp
 have bA := hid ((Below.refl w.heap.size w).alloc (Nat.le_refl _) (.cells #[.int .i64 b, .slice ad n c] 131))
 go_enter Tryz.func67, Tryz.ntmps67
 go_wp2_with fail
 go_ret
 exact ⟨rfl, bA.out⟩
set_option maxRecDepth 100000 in
set_option maxHeartbeats 2000000 in
theorem idxMove_any (P Q : Nat) (v : Value) (l : List Exts.E) (p : Exts.E → Bool) (w : World) (h : ExtsAt w v l) (hl : l.length ≤ 1000000000)
  (hc : ∀ x ∈ l, ∀ wz, Below w.heap.size w wz → Calls Tryz.prog 56 #[.agg #[.int .i64 x.1, .int .i64 x.2.1, .int .i64 x.2.2], .pointer (some ⟨P, 0, none⟩), .pointer (some ⟨Q, 0, none⟩)] wz fun e w' => e = .returned (.bool (p x)) ∧ Below wz.heap.size wz w') :
  Calls Tryz.prog 99 #[v, .func (.func 56) #[] #[.pointer (some ⟨P, 0, none⟩), .pointer (some ⟨Q, 0, none⟩)]] w fun e w' => e = .returned (.int .i64 (idxOf p l)) ∧ Below w.heap.size w w' := by
 have H := hid h
 have hcl := hid hc
 obtain ⟨ad, cap, rfl⟩ := h.form
 clear h hc
 generalize hI : idxOf p l = I at *
 have HI := hid hI
 clear hI
 go_enter Tryz.func99, Tryz.ntmps99
 go_wp2_with fail
 go_loopw [8] (fun q wr => ∃ j : Nat, j ≤ l.length ∧ q = .int .i64 j ∧ Hid (∀ k, k < j → p (l.getD k (0, 0, 0)) = false) ∧ Hid (Below w.heap.size w wr)) (fun q _ => l.length - (intOf q).toNat)
 case atStart => exact ⟨0, by omega, rfl, hid (fun k hk => absurd hk (Nat.not_lt_zero _)), hid (Below.refl _ _)⟩
 case round =>
  obtain ⟨j, hj, rfl, ha, hb⟩ := hrel
  by_cases hlt : j < l.length
  ·have i0 : (0 : Int) ≤ (j : Int) := by omega
   have i1 : (j : Int) < (l.length : Int) := by omega
   obtain ⟨hll, g, off, rfl, c0, c1, c2⟩ := (H.out.below (B := 0) hb.out).cells j hlt
   clear hll
   have hmx : l.getD j (0, 0, 0) ∈ l := by rw [show l.getD j (0, 0, 0) = l[j] by simp [List.getD, hlt]]; exact List.getElem_mem hlt
   have hc := hid (hcl.out _ hmx wr hb.out)
   clear hmx
   cases hm : p (l.getD j (0, 0, 0))
   ·have ha' : Hid (∀ k, k < j + 1 → p (l.getD k (0, 0, 0)) = false) := hid (fun k hk => by
     rcases Nat.lt_or_ge k j with h | h
     ·exact ha.out k h
     ·obtain rfl : k = j := by omega
      exact hm)
    rw [hm] at hc
    generalize l.getD j (0, 0, 0) = x at *
    obtain ⟨xa, xb, xc⟩ := x
    dsimp only at *
    clear hm
    go_wp2_with fail
    refine hc.out.mono ?_
    rintro e w' ⟨rfl, hb'⟩
    have B2 := hid (hb.out.trans (hb'.mono hb.out.size))
    clear hb'
    go_wp2_with fail
    go_roundw
    case rel => exact ⟨j + 1, by omega, by go_num, ha', B2⟩
    case measure => simp [intOf]; omega
   ·have hfb : Hid (I = (j : Int)) := hid (by rw [← HI.out]; exact idxOf_at p l j hlt (0, 0, 0) ha.out hm)
    rw [hm] at hc
    generalize l.getD j (0, 0, 0) = x at *
    obtain ⟨xa, xb, xc⟩ := x
    dsimp only at *
    clear hm
    go_wp2_with fail
    refine hc.out.mono ?_
    rintro e w' ⟨rfl, hb'⟩
    have B2 := hid (hb.out.trans (hb'.mono hb.out.size))
    clear hb'
    go_wp2_with fail
    go_ret
    exact ⟨by rw [hfb.out]; rfl, B2.out⟩
  ·obtain rfl : j = l.length := by omega
   have hfb : Hid (I = -1) := hid (by rw [← HI.out]; exact idxOf_no p l (0, 0, 0) ha.out)
   go_wp2_with fail
   go_ret
   exact ⟨by rw [hfb.out]; rfl, hb.out⟩
set_option maxRecDepth 100000 in
set_option maxHeartbeats 2000000 in
theorem idxLead_any (P : Nat) (v : Value) (l : List Exts.E) (p : Exts.E → Bool) (w : World) (h : ExtsAt w v l) (hl : l.length ≤ 1000000000)
  (hc : ∀ x ∈ l, ∀ wz, Below w.heap.size w wz → Calls Tryz.prog 68 #[.agg #[.int .i64 x.1, .int .i64 x.2.1, .int .i64 x.2.2], .pointer (some ⟨P, 0, none⟩)] wz fun e w' => e = .returned (.bool (p x)) ∧ Below wz.heap.size wz w') :
  Calls Tryz.prog 99 #[v, .func (.func 68) #[] #[.pointer (some ⟨P, 0, none⟩)]] w fun e w' => e = .returned (.int .i64 (idxOf p l)) ∧ Below w.heap.size w w' := by
 have H := hid h
 have hcl := hid hc
 obtain ⟨ad, cap, rfl⟩ := h.form
 clear h hc
 generalize hI : idxOf p l = I at *
 have HI := hid hI
 clear hI
 go_enter Tryz.func99, Tryz.ntmps99
 go_wp2_with fail
 go_loopw [8] (fun q wr => ∃ j : Nat, j ≤ l.length ∧ q = .int .i64 j ∧ Hid (∀ k, k < j → p (l.getD k (0, 0, 0)) = false) ∧ Hid (Below w.heap.size w wr)) (fun q _ => l.length - (intOf q).toNat)
 case atStart => exact ⟨0, by omega, rfl, hid (fun k hk => absurd hk (Nat.not_lt_zero _)), hid (Below.refl _ _)⟩
 case round =>
  obtain ⟨j, hj, rfl, ha, hb⟩ := hrel
  by_cases hlt : j < l.length
  ·have i0 : (0 : Int) ≤ (j : Int) := by omega
   have i1 : (j : Int) < (l.length : Int) := by omega
   obtain ⟨hll, g, off, rfl, c0, c1, c2⟩ := (H.out.below (B := 0) hb.out).cells j hlt
   clear hll
   have hmx : l.getD j (0, 0, 0) ∈ l := by rw [show l.getD j (0, 0, 0) = l[j] by simp [List.getD, hlt]]; exact List.getElem_mem hlt
   have hc := hid (hcl.out _ hmx wr hb.out)
   clear hmx
   cases hm : p (l.getD j (0, 0, 0))
   ·have ha' : Hid (∀ k, k < j + 1 → p (l.getD k (0, 0, 0)) = false) := hid (fun k hk => by
     rcases Nat.lt_or_ge k j with h | h
     ·exact ha.out k h
     ·obtain rfl : k = j := by omega
      exact hm)
    rw [hm] at hc
    generalize l.getD j (0, 0, 0) = x at *
    obtain ⟨xa, xb, xc⟩ := x
    dsimp only at *
    clear hm
    go_wp2_with fail
    refine hc.out.mono ?_
    rintro e w' ⟨rfl, hb'⟩
    have B2 := hid (hb.out.trans (hb'.mono hb.out.size))
    clear hb'
    go_wp2_with fail
    go_roundw
    case rel => exact ⟨j + 1, by omega, by go_num, ha', B2⟩
    case measure => simp [intOf]; omega
   ·have hfb : Hid (I = (j : Int)) := hid (by rw [← HI.out]; exact idxOf_at p l j hlt (0, 0, 0) ha.out hm)
    rw [hm] at hc
    generalize l.getD j (0, 0, 0) = x at *
    obtain ⟨xa, xb, xc⟩ := x
    dsimp only at *
    clear hm
    go_wp2_with fail
    refine hc.out.mono ?_
    rintro e w' ⟨rfl, hb'⟩
    have B2 := hid (hb.out.trans (hb'.mono hb.out.size))
    clear hb'
    go_wp2_with fail
    go_ret
    exact ⟨by rw [hfb.out]; rfl, B2.out⟩
  ·obtain rfl : j = l.length := by omega
   have hfb : Hid (I = -1) := hid (by rw [← HI.out]; exact idxOf_no p l (0, 0, 0) ha.out)
   go_wp2_with fail
   go_ret
   exact ⟨by rw [hfb.out]; rfl, hb.out⟩
set_option maxRecDepth 100000 in
set_option maxHeartbeats 2000000 in
theorem idxMove3_any (P Q : Nat) (v : Value) (l : List Int) (p : Int → Bool) (w : World) (h : IntsAt w v l) (hl : l.length ≤ 1000000000)
  (hc : ∀ x ∈ l, ∀ wz, Below w.heap.size w wz → Calls Tryz.prog 60 #[.int .i64 x, .pointer (some ⟨P, 0, none⟩), .pointer (some ⟨Q, 0, none⟩)] wz fun e w' => e = .returned (.bool (p x)) ∧ Below wz.heap.size wz w') :
  Calls Tryz.prog 98 #[v, .func (.func 60) #[] #[.pointer (some ⟨P, 0, none⟩), .pointer (some ⟨Q, 0, none⟩)]] w fun e w' => e = .returned (.int .i64 (idxOf p l)) ∧ Below w.heap.size w w' := by
 have H := hid h
 have hcl := hid hc
 obtain ⟨ad, cap, rfl⟩ := h.form
 clear h hc
 generalize hI : idxOf p l = I at *
 have HI := hid hI
 clear hI
 go_enter Tryz.func98, Tryz.ntmps98
 go_wp2_with fail
 go_loopw [8] (fun q wr => ∃ j : Nat, j ≤ l.length ∧ q = .int .i64 j ∧ Hid (∀ k, k < j → p (l.getD k 0) = false) ∧ Hid (Below w.heap.size w wr)) (fun q _ => l.length - (intOf q).toNat)
 case atStart => exact ⟨0, by omega, rfl, hid (fun k hk => absurd hk (Nat.not_lt_zero _)), hid (Below.refl _ _)⟩
 case round =>
  obtain ⟨j, hj, rfl, ha, hb⟩ := hrel
  by_cases hlt : j < l.length
  ·have i0 : (0 : Int) ≤ (j : Int) := by omega
   have i1 : (j : Int) < (l.length : Int) := by omega
   obtain ⟨g, off, rfl, c0⟩ := (H.out.below hb.out).cells j hlt
   have hmx : l.getD j 0 ∈ l := by rw [show l.getD j 0 = l[j] by simp [List.getD, hlt]]; exact List.getElem_mem hlt
   have hc := hid (hcl.out _ hmx wr hb.out)
   clear hmx
   cases hm : p (l.getD j 0)
   ·have ha' : Hid (∀ k, k < j + 1 → p (l.getD k 0) = false) := hid (fun k hk => by
     rcases Nat.lt_or_ge k j with h | h
     ·exact ha.out k h
     ·obtain rfl : k = j := by omega
      exact hm)
    rw [hm] at hc
    generalize l.getD j 0 = x at *
    clear hm
    go_wp2_with fail
    refine hc.out.mono ?_
    rintro e w' ⟨rfl, hb'⟩
    have B2 := hid (hb.out.trans (hb'.mono hb.out.size))
    clear hb'
    go_wp2_with fail
    go_roundw
    case rel => exact ⟨j + 1, by omega, by go_num, ha', B2⟩
    case measure => simp [intOf]; omega
   ·have hfb : Hid (I = (j : Int)) := hid (by rw [← HI.out]; exact idxOf_at p l j hlt 0 ha.out hm)
    rw [hm] at hc
    generalize l.getD j 0 = x at *
    clear hm
    go_wp2_with fail
    refine hc.out.mono ?_
    rintro e w' ⟨rfl, hb'⟩
    have B2 := hid (hb.out.trans (hb'.mono hb.out.size))
    clear hb'
    go_wp2_with fail
    go_ret
    exact ⟨by rw [hfb.out]; rfl, B2.out⟩
  ·obtain rfl : j = l.length := by omega
   have hfb : Hid (I = -1) := hid (by rw [← HI.out]; exact idxOf_no p l 0 ha.out)
   go_wp2_with fail
   go_ret
   exact ⟨by rw [hfb.out]; rfl, hb.out⟩
theorem hasMove3_any (P Q : Nat) (v : Value) (l : List Int) (p : Int → Bool) (w : World) (h : IntsAt w v l) (hl : l.length ≤ 1000000000)
  (hc : ∀ x ∈ l, ∀ wz, Below w.heap.size w wz → Calls Tryz.prog 60 #[.int .i64 x, .pointer (some ⟨P, 0, none⟩), .pointer (some ⟨Q, 0, none⟩)] wz fun e w' => e = .returned (.bool (p x)) ∧ Below wz.heap.size wz w') :
  Calls Tryz.prog 59 #[v, .func (.func 60) #[] #[.pointer (some ⟨P, 0, none⟩), .pointer (some ⟨Q, 0, none⟩)]] w fun e w' => e = .returned (.bool (l.any p)) ∧ Below w.heap.size w w' := by
 have q := hid (idxMove3_any P Q v l p w h hl hc)
 have hA := hid (idxOf_any p l)
 clear h hc
 generalize l.any p = r at *
 rcases idxOf_cases p l with hI | ⟨j, hj, hI⟩
 ·rw [hI] at q hA
  clear hI
  go_enter Tryz.func59, Tryz.ntmps59
  go_wp2_with fail
  refine q.out.mono ?_
  rintro e w' ⟨rfl, hb⟩
  have B2 := hid hb
  clear hb
  go_wp2_with fail
  go_ret
  exact ⟨by rw [← hA.out]; rfl, B2.out⟩
 ·rw [hI] at q hA
  clear hI
  have j0 : (0 : Int) ≤ (j : Int) := by omega
  go_enter Tryz.func59, Tryz.ntmps59
  go_wp2_with fail
  refine q.out.mono ?_
  rintro e w' ⟨rfl, hb⟩
  have B2 := hid hb
  clear hb
  go_wp2_with fail
  go_ret
  exact ⟨by rw [← hA.out, decide_eq_true j0]; rfl, B2.out⟩
set_option maxRecDepth 100000 in
set_option maxHeartbeats 2000000 in
theorem idxLead11_any (P : Nat) (v : Value) (l : List Node) (p : Node → Bool) (w : World) (h : NodesT w v l) (hl : l.length ≤ 1000000000)
  (hc : ∀ x ∈ l, ∀ u, (∃ ad n c, u = .slice ad n c) → ∀ wz, Below w.heap.size w wz → Calls Tryz.prog 67 #[.agg #[.int .i64 x.1, u], .pointer (some ⟨P, 0, none⟩)] wz fun e w' => e = .returned (.bool (p x)) ∧ Below wz.heap.size wz w') :
  Calls Tryz.prog 102 #[v, .func (.func 67) #[] #[.pointer (some ⟨P, 0, none⟩)]] w fun e w' => e = .returned (.int .i64 (idxOf p l)) ∧ Below w.heap.size w w' := by
 have H := hid h
 have hcl := hid hc
 obtain ⟨ad, cap, rfl⟩ := h.form
 clear h hc
 generalize hI : idxOf p l = I at *
 have HI := hid hI
 clear hI
 go_enter Tryz.func102, Tryz.ntmps102
 go_wp2_with fail
 go_loopw [8] (fun q wr => ∃ j : Nat, j ≤ l.length ∧ q = .int .i64 j ∧ Hid (∀ k, k < j → p (l.getD k (0, [])) = false) ∧ Hid (Below w.heap.size w wr)) (fun q _ => l.length - (intOf q).toNat)
 case atStart => exact ⟨0, by omega, rfl, hid (fun k hk => absurd hk (Nat.not_lt_zero _)), hid (Below.refl _ _)⟩
 case round =>
  obtain ⟨j, hj, rfl, ha, hb⟩ := hrel
  by_cases hlt : j < l.length
  ·have i0 : (0 : Int) ≤ (j : Int) := by omega
   have i1 : (j : Int) < (l.length : Int) := by omega
   obtain ⟨g, off, au, cu, rfl, c0, c1, -⟩ := (H.out.below hb.out).cellsAt j hlt
   have hmx : l.getD j (0, []) ∈ l := by rw [show l.getD j (0, []) = l[j] by simp [List.getD, hlt]]; exact List.getElem_mem hlt
   have hc := hid (hcl.out _ hmx (.slice au (l.getD j (0, [])).2.length cu) ⟨_, _, _, rfl⟩ wr hb.out)
   clear hmx
   cases hm : p (l.getD j (0, []))
   ·have ha' : Hid (∀ k, k < j + 1 → p (l.getD k (0, [])) = false) := hid (fun k hk => by
     rcases Nat.lt_or_ge k j with h | h
     ·exact ha.out k h
     ·obtain rfl : k = j := by omega
      exact hm)
    rw [hm] at hc
    generalize l.getD j (0, []) = x at *
    obtain ⟨xa, xb⟩ := x
    dsimp only at *
    clear hm
    go_wp2_with fail
    refine hc.out.mono ?_
    rintro e w' ⟨rfl, hb'⟩
    have B2 := hid (hb.out.trans (hb'.mono hb.out.size))
    clear hb'
    go_wp2_with fail
    go_roundw
    case rel => exact ⟨j + 1, by omega, by go_num, ha', B2⟩
    case measure => simp [intOf]; omega
   ·have hfb : Hid (I = (j : Int)) := hid (by rw [← HI.out]; exact idxOf_at p l j hlt (0, []) ha.out hm)
    rw [hm] at hc
    generalize l.getD j (0, []) = x at *
    obtain ⟨xa, xb⟩ := x
    dsimp only at *
    clear hm
    go_wp2_with fail
    refine hc.out.mono ?_
    rintro e w' ⟨rfl, hb'⟩
    have B2 := hid (hb.out.trans (hb'.mono hb.out.size))
    clear hb'
    go_wp2_with fail
    go_ret
    exact ⟨by rw [hfb.out]; rfl, B2.out⟩
  ·obtain rfl : j = l.length := by omega
   have hfb : Hid (I = -1) := hid (by rw [← HI.out]; exact idxOf_no p l (0, []) ha.out)
   go_wp2_with fail
   go_ret
   exact ⟨by rw [hfb.out]; rfl, hb.out⟩
theorem hasLead11_any (P : Nat) (v : Value) (l : List Node) (p : Node → Bool) (w : World) (h : NodesT w v l) (hl : l.length ≤ 1000000000)
  (hc : ∀ x ∈ l, ∀ u, (∃ ad n c, u = .slice ad n c) → ∀ wz, Below w.heap.size w wz → Calls Tryz.prog 67 #[.agg #[.int .i64 x.1, u], .pointer (some ⟨P, 0, none⟩)] wz fun e w' => e = .returned (.bool (p x)) ∧ Below wz.heap.size wz w') :
  Calls Tryz.prog 66 #[v, .func (.func 67) #[] #[.pointer (some ⟨P, 0, none⟩)]] w fun e w' => e = .returned (.bool (l.any p)) ∧ Below w.heap.size w w' := by
 have q := hid (idxLead11_any P v l p w h hl hc)
 have hA := hid (idxOf_any p l)
 clear h hc
 generalize l.any p = r at *
 rcases idxOf_cases p l with hI | ⟨j, hj, hI⟩
 ·rw [hI] at q hA
  clear hI
  go_enter Tryz.func66, Tryz.ntmps66
  go_wp2_with fail
  refine q.out.mono ?_
  rintro e w' ⟨rfl, hb⟩
  have B2 := hid hb
  clear hb
  go_wp2_with fail
  go_ret
  exact ⟨by rw [← hA.out]; rfl, B2.out⟩
 ·rw [hI] at q hA
  clear hI
  have j0 : (0 : Int) ≤ (j : Int) := by omega
  go_enter Tryz.func66, Tryz.ntmps66
  go_wp2_with fail
  refine q.out.mono ?_
  rintro e w' ⟨rfl, hb⟩
  have B2 := hid hb
  clear hb
  go_wp2_with fail
  go_ret
  exact ⟨by rw [← hA.out, decide_eq_true j0]; rfl, B2.out⟩
set_option maxHeartbeats 2000000 in
theorem lead1_any (x : List Node) (f : Int) (u : Value) (P : Nat) (w : World) (hu : NodesT w u x) (hl : x.length ≤ 1000000000) (hp : w.cell? ⟨P, 0, none⟩ = some (.int .i64 f)) :
  Calls Tryz.prog 65 #[u, .pointer (some ⟨P, 0, none⟩)] w fun e w' => e = .returned (.bool (x.any fun n => n.1 == f)) ∧ Below w.heap.size w w' := by
 have hP : P < w.heap.size := World.block_lt_of_cell? _ _ hp
 have q := hid (hasLead11_any P u x (fun n => n.1 == f) w hu hl (fun n hn u' hu' wz hz => lead11_any n.1 f u' hu' P wz ((hz.cell (p := ⟨P, 0, none⟩) hP).trans hp)))
 obtain ⟨au, cu, rfl⟩ := hu.form
 generalize (x.any fun n => n.1 == f) = r at *
 clear hu
 go_enter Tryz.func65, Tryz.ntmps65
 go_wp2_with fail
 refine q.out.mono ?_
 rintro e w' ⟨rfl, hb⟩
 have B2 := hid hb
 clear hb
 go_wp2_with fail
 go_ret
 exact ⟨rfl, B2.out⟩
set_option maxRecDepth 100000 in
set_option maxHeartbeats 2000000 in
theorem idxLead1_any (P : Nat) (v : Value) (l : List (List Node)) (p : (List Node) → Bool) (w : World) (h : LvlsT w v l) (hl : l.length ≤ 1000000000)
  (hc : ∀ x ∈ l, ∀ u wz, Below w.heap.size w wz → NodesT wz u x → Calls Tryz.prog 65 #[u, .pointer (some ⟨P, 0, none⟩)] wz fun e w' => e = .returned (.bool (p x)) ∧ Below wz.heap.size wz w') :
  Calls Tryz.prog 64 #[v, .func (.func 65) #[] #[.pointer (some ⟨P, 0, none⟩)]] w fun e w' => e = .returned (.int .i64 (idxOf p l)) ∧ Below w.heap.size w w' := by
 have H := hid h
 have hcl := hid hc
 obtain ⟨ad, cap, rfl⟩ := h.form
 clear h hc
 generalize hI : idxOf p l = I at *
 have HI := hid hI
 clear hI
 go_enter Tryz.func64, Tryz.ntmps64
 go_wp2_with fail
 go_loopw [8] (fun q wr => ∃ j : Nat, j ≤ l.length ∧ q = .int .i64 j ∧ Hid (∀ k, k < j → p (l.getD k []) = false) ∧ Hid (Below w.heap.size w wr)) (fun q _ => l.length - (intOf q).toNat)
 case atStart => exact ⟨0, by omega, rfl, hid (fun k hk => absurd hk (Nat.not_lt_zero _)), hid (Below.refl _ _)⟩
 case round =>
  obtain ⟨j, hj, rfl, ha, hb⟩ := hrel
  by_cases hlt : j < l.length
  ·have i0 : (0 : Int) ≤ (j : Int) := by omega
   have i1 : (j : Int) < (l.length : Int) := by omega
   obtain ⟨g, off, u, rfl, c0, hu⟩ := (H.out.below hb.out).cellAt j hlt
   have HU := hid hu.1
   clear hu
   obtain ⟨au, cu, rfl⟩ := HU.out.form
   have hmx : l.getD j [] ∈ l := by rw [show l.getD j [] = l[j] by simp [List.getD, hlt]]; exact List.getElem_mem hlt
   have hc := hid (hcl.out _ hmx _ wr hb.out HU.out)
   clear hmx
   cases hm : p (l.getD j [])
   ·have ha' : Hid (∀ k, k < j + 1 → p (l.getD k []) = false) := hid (fun k hk => by
     rcases Nat.lt_or_ge k j with h | h
     ·exact ha.out k h
     ·obtain rfl : k = j := by omega
      exact hm)
    rw [hm] at hc
    generalize l.getD j [] = x at *
    clear hm
    go_wp2_with fail
    refine hc.out.mono ?_
    rintro e w' ⟨rfl, hb'⟩
    have B2 := hid (hb.out.trans (hb'.mono hb.out.size))
    clear hb'
    go_wp2_with fail
    go_roundw
    case rel => exact ⟨j + 1, by omega, by go_num, ha', B2⟩
    case measure => simp [intOf]; omega
   ·have hfb : Hid (I = (j : Int)) := hid (by rw [← HI.out]; exact idxOf_at p l j hlt [] ha.out hm)
    rw [hm] at hc
    generalize l.getD j [] = x at *
    clear hm
    go_wp2_with fail
    refine hc.out.mono ?_
    rintro e w' ⟨rfl, hb'⟩
    have B2 := hid (hb.out.trans (hb'.mono hb.out.size))
    clear hb'
    go_wp2_with fail
    go_ret
    exact ⟨by rw [hfb.out]; rfl, B2.out⟩
  ·obtain rfl : j = l.length := by omega
   have hfb : Hid (I = -1) := hid (by rw [← HI.out]; exact idxOf_no p l [] ha.out)
   go_wp2_with fail
   go_ret
   exact ⟨by rw [hfb.out]; rfl, hb.out⟩
end Go.Proofs.YtgjmeeiejcbjfaaGreat
