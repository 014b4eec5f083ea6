/- Both journals over a device: their answers in one form. -/
import Derived.Test.YtnpdhidliaahbaaGreatR55
import Derived.Test.YtnpdhidliaahbaaGreatR32
import Derived.Test.YtnpdhidliaahbaaGreatR31
import Derived.Test.YtnpdhidliaahbaaGreatR27
import Derived.Test.YtnpdhidliaahbaaGreatR49
set_option linter.unusedSimpArgs false
set_option linter.unusedVariables false
namespace Go.Proofs.YtnpdhidliaahbaaGreat
open Go Go.RowKit
namespace Jr
def fits (g : Geo.G) (D : Dev) : Prop := Geo.May g ∧ (D.kept.length : Int) = g.blocks
instance (g : Geo.G) (D : Dev) : Decidable (fits g D) := by unfold fits; infer_instance
def fmtS (g : Geo.G) (D : Dev) : Dev × Int := if fits g D then doA (fmtA g) D else (D, 2)
def openS (g : Geo.G) (D : Dev) : Option Log × Int := if fits g D then (match readL g D.now with | none => (none, 80) | some L => (some L, 0)) else (none, 2)
def repS (g : Geo.G) (D : Dev) : Dev × Int × List Txn := if fits g D then (match readL g D.now with
 | none => (D, 80, [])
 | some L => if L.txns = [] then (D, 0, []) else ((doA (replayA g L.txns (L.place g) L.next) D).1, (doA (replayA g L.txns (L.place g) L.next) D).2, if (doA (replayA g L.txns (L.place g) L.next) D).2 = 0 then L.txns else [])) else (D, 2, [])
theorem openS_cases (g : Geo.G) (D : Dev) : ((openS g D).1 = none ∧ (openS g D).2 ≠ 0) ∨ ∃ L, openS g D = (some L, 0) ∧ Geo.May g ∧ readL g D.now = some L ∧ (D.kept.length : Int) = g.blocks := by
 unfold openS
 by_cases h : fits g D
 ·rw [if_pos h]
  cases e : readL g D.now with
  | none => exact .inl ⟨rfl, by decide⟩
  | some L => exact .inr ⟨L, rfl, h.1, rfl, h.2⟩
 ·rw [if_neg h]
  exact .inl ⟨rfl, by decide⟩
end Jr
theorem own_onlyN {S : List Nat} {w w' : World} {B : Nat} {E : TypeId} {size n : Nat} {v : Value} {xs : List Value} (h : w.ownsRow B E size v n xs) (ho : Only S w w') (hS : ∀ k, v.ownBlock = some k → k ∉ S) : w'.ownsRow B E size v n xs := by
 refine ⟨h.1, h.2.imp id ?_⟩
 rintro ⟨g, cap, cur, rfl, hg, hh, r⟩
 exact ⟨g, cap, cur, rfl, hg, by rw [ho.block g (lt_of_block hh) (hS g rfl)]; exact hh, r⟩
theorem RefAt.onlyB {S : List Nat} {B b : Nat} {w w' : World} {z : RLay} {D : Dev} (h : RefAt B w b z D) (ho : Only S w w') (hS : ∀ k ∈ S, k < B) : RefAt B w' b z D :=
 ⟨h.own, ho.row h.cells (fun hk => by have := hS _ hk; have := h.own; omega), own_onlyB h.now ho hS, own_onlyB h.was ho hS, own_onlyB h.pend ho hS, h.ne, h.pos, h.left, h.acts⟩
theorem DevAt.onlyN {S : List Nat} {B b : Nat} {w w' : World} {y : Lay} {D : Dev} (h : DevAt B w b y D) (ho : Only S w w') (hS : ∀ k ∈ devB b y, k ∉ S) : DevAt B w' b y D := by
 refine ⟨h.own, ho.row h.cells (hS b (by simp [devB])), own_onlyN h.kept ho ?_, own_onlyN h.now ho ?_, own_onlyN h.pend ho ?_, h.ne, h.pos, h.left, h.acts⟩
 all_goals
  intro k hk
  simp only [Value.ownBlock, Option.some.injEq] at hk
  exact hS k (by simp [devB]; omega)
theorem refB_ge {B b : Nat} {w : World} {z : RLay} {D : Dev} (h : RefAt B w b z D) : ∀ k ∈ refB b z, B ≤ k := by
 have := h.bounds
 unfold refB
 simp
 omega
section
variable {B0 B1 : Nat} {w : World} {db : Nat} {y : Lay} {sb : Nat} {z : RLay} {D : Dev}
theorem pfmt_any (g : Geo.G) (hd : DevAt B0 w db y D) (ha : D.acts + 6000 < 1000000000000) :
  Calls Tryz.prog 21 #[.pointer (some ⟨db, 0, none⟩), .agg (Geo.cells g)] w fun e w' => ActTold B0 db y (Jr.fmtS g D).2 (Jr.fmtS g D).1 w e w' := by
 unfold Jr.fmtS
 by_cases h : Jr.fits g D
 ·rw [if_pos h]; exact format_ok g w hd h.1 h.2 (by omega)
 ·rw [if_neg h]; exact format_bad g w hd h
theorem rref_bad (g : Geo.G) (hi : GeoIn g) (hs : RefAt B1 w sb z D) (h : ¬ Jr.fits g D) : ∀ wz, Below w.heap.size w wz → Calls Tryz.prog 80 #[.pointer (some ⟨sb, 0, none⟩), .agg (Geo.cells g)] wz fun e w' => e = .returned (.int .i64 2) ∧ Below wz.heap.size wz w' := fun wz hz => by
 by_cases hm : Geo.May g
 ·have := rrefuses_may g hm wz (hs.below hz)
  rwa [if_neg (fun hn => h ⟨hm, hn⟩)] at this
 ·exact rrefuses_not g hi.2.2.1 hm wz (hs.below hz)
theorem rfmt_any (g : Geo.G) (hi : GeoIn g) (hs : RefAt B1 w sb z D) (ha : D.acts + 6000 < 1000000000000) :
  Calls Tryz.prog 29 #[.pointer (some ⟨sb, 0, none⟩), .agg (Geo.cells g)] w fun e w' => RTold B1 sb z (Jr.fmtS g D).2 (Jr.fmtS g D).1 w e w' := by
 unfold Jr.fmtS
 by_cases h : Jr.fits g D
 ·rw [if_pos h]; exact rformat_ok g h.1 w hs h.2 ha
 ·rw [if_neg h]
  exact (rformat_bad (some ⟨sb, 0, none⟩) 2 (by decide) g w (rref_bad g hi hs h)).mono fun e w' ⟨h1, h2⟩ => ⟨h1, hs.below h2, Only.ofBelow h2⟩
theorem popen_any (g : Geo.G) {k : Nat} (hok : D.Ok k) (hd : DevAt B0 w db y D) :
  Calls Tryz.prog 16 #[.pointer (some ⟨db, 0, none⟩), .agg (Geo.cells g)] w fun e w' => ∃ v, e = .returned (.tuple #[v, .int .i64 (Jr.openS g D).2]) ∧ Below w.heap.size w w' ∧ ((Jr.openS g D).1 = none ∧ v = .pointer none ∨ ∃ L lb, (Jr.openS g D).1 = some L ∧ v = .pointer (some ⟨lb, 0, none⟩) ∧ LogAt lb db g (L.v g) w') := by
 unfold Jr.openS
 by_cases h : Jr.fits g D
 ·rw [if_pos h]
  refine (openlog_ok g w hd h.1 h.2 hok.now hok.len).mono fun e w' ht => ?_
  rcases ht with ⟨h1, h2, h3⟩ | ⟨L, lb, h1, h2, h3, h4, h5⟩
  ·rw [h1]; exact ⟨_, h2, h3, .inl ⟨rfl, rfl⟩⟩
  ·rw [h1]; exact ⟨_, h2, h5, .inr ⟨L, lb, rfl, rfl, h3⟩⟩
 ·rw [if_neg h]
  exact (openlog_bad g w hd h).mono fun e w' ⟨h1, h2⟩ => ⟨_, h1, h2, .inl ⟨rfl, rfl⟩⟩
theorem ropen_any9 (g : Geo.G) (hi : GeoIn g) {k : Nat} (hok : D.Ok k) (hs : RefAt B1 w sb z D) :
  Calls Tryz.prog 30 #[.pointer (some ⟨sb, 0, none⟩), .agg (Geo.cells g)] w fun e w' => ∃ v, e = .returned (.tuple #[v, .int .i64 (Jr.openS g D).2]) ∧ Below w.heap.size w w' ∧ ((Jr.openS g D).1 = none ∧ v = .pointer none ∨ ∃ L lb, (Jr.openS g D).1 = some L ∧ v = .pointer (some ⟨lb, 0, none⟩) ∧ RLogAt lb sb g (L.v g) w') := by
 unfold Jr.openS
 by_cases h : Jr.fits g D
 ·rw [if_pos h]
  refine (ropen_ok g h.1 w hs h.2 hok.now hok.len).mono fun e w' ht => ?_
  rcases ht with ⟨h1, h2, h3⟩ | ⟨L, lb, h1, h2, h3, h4, h5⟩
  ·rw [h1]; exact ⟨_, h2, h3, .inl ⟨rfl, rfl⟩⟩
  ·rw [h1]; exact ⟨_, h2, h5, .inr ⟨L, lb, rfl, rfl, h3⟩⟩
 ·rw [if_neg h]
  exact (ropen_bad (some ⟨sb, 0, none⟩) 2 (by decide) g w (rref_bad g hi hs h)).mono fun e w' ⟨h1, h2⟩ => ⟨_, h1, h2, .inl ⟨rfl, rfl⟩⟩
theorem ownT_nil (B : Nat) (w : World) : OwnT B w (.slice none 0 0) [] := ⟨[], World.ownsRow_nil _ _ _ _, trivial⟩
theorem prep_any (g : Geo.G) {k : Nat} (hok : D.Ok k) (hd : DevAt B0 w db y D) (ha : D.acts + 6000 < 1000000000000) :
  Calls Tryz.prog 15 #[.pointer (some ⟨db, 0, none⟩), .agg (Geo.cells g)] w fun e w' => ∃ v, e = .returned (.tuple #[v, .int .i64 (Jr.repS g D).2.1]) ∧ DevAt B0 w' db y (Jr.repS g D).1 ∧ Only (devB db y) w w' ∧ OwnT w.heap.size w' v (Jr.repS g D).2.2 := by
 unfold Jr.repS
 by_cases h : Jr.fits g D
 ·rw [if_pos h]
  refine (replay_ok g w hd h.1 h.2 hok.now hok.len (by omega)).mono fun e w' ht => ?_
  rcases ht with ⟨h1, h2, h3, h4⟩ | ⟨L, h1, h2, h3, h4, h5⟩ | ⟨L, h1, h2, h3, h4, h5, h6⟩ | ⟨L, v, h1, h2, h3, h4, h5, h6, h7⟩
  ·rw [h1]; exact ⟨_, h2, h3, h4, ownT_nil _ _⟩
  ·rw [h1]; dsimp only; rw [if_pos h2]; exact ⟨_, h3, h4, h5, ownT_nil _ _⟩
  ·rw [h1]; dsimp only; rw [if_neg h2, if_neg h3]; exact ⟨_, h4, h5, h6, ownT_nil _ _⟩
  ·rw [h1]; dsimp only; rw [if_neg h2, if_pos h3]; exact ⟨v, by rw [h3]; exact h4, h6, h7, h5⟩
 ·rw [if_neg h]
  exact (replay_bad g w hd h).mono fun e w' ⟨h1, h2⟩ => ⟨_, h1, hd.below h2, Only.ofBelow h2, ownT_nil _ _⟩
theorem rrep_any (g : Geo.G) (hi : GeoIn g) {k : Nat} (hok : D.Ok k) (hs : RefAt B1 w sb z D) (ha : D.acts + 6000 < 1000000000000) :
  Calls Tryz.prog 32 #[.pointer (some ⟨sb, 0, none⟩), .agg (Geo.cells g)] w fun e w' => ∃ v, e = .returned (.tuple #[v, .int .i64 (Jr.repS g D).2.1]) ∧ RefAt B1 w' sb z (Jr.repS g D).1 ∧ Only (refB sb z) w w' ∧ OwnT w.heap.size w' v (Jr.repS g D).2.2 := by
 unfold Jr.repS
 by_cases h : Jr.fits g D
 ·rw [if_pos h]
  refine (rreplay_ok g h.1 w hs h.2 hok.now hok.len ha).mono fun e w' ht => ?_
  rcases ht with ⟨h1, h2, h3, h4⟩ | ⟨L, h1, h2, h3, h4, h5⟩ | ⟨L, h1, h2, h3, h4, h5, h6⟩ | ⟨L, v, h1, h2, h3, h4, h5, h6, h7⟩
  ·rw [h1]; exact ⟨_, h2, h3, h4, ownT_nil _ _⟩
  ·rw [h1]; dsimp only; rw [if_pos h2]; exact ⟨_, h3, h4, h5, ownT_nil _ _⟩
  ·rw [h1]; dsimp only; rw [if_neg h2, if_neg h3]; exact ⟨_, h4, h5, h6, ownT_nil _ _⟩
  ·rw [h1]; dsimp only; rw [if_neg h2, if_pos h3]; exact ⟨v, by rw [h3]; exact h4, h6, h7, h5⟩
 ·rw [if_neg h]
  exact (rreplay_bad (some ⟨sb, 0, none⟩) 2 (by decide) g w (rref_bad g hi hs h)).mono fun e w' ⟨h1, h2⟩ => ⟨_, h1, hs.below h2, Only.ofBelow h2, ownT_nil _ _⟩
end
namespace Jr
theorem doA_ok : ∀ (l : List Act) (D : Dev) (k : Nat), D.Ok k → (doA l D).1.Ok (k + l.length)
 | [], D, k, h => h
 | a :: l, D, k, h => by
  have h1 : (a.run D).1.Ok (k + 1) := by
   cases a with
   | write b s => exact h.write b s
   | flush => exact h.flush
  show (if (a.run D).2 = 0 then doA l (a.run D).1 else a.run D).1.Ok _
  split
  ·have := doA_ok l _ _ h1
   rw [List.length_cons]
   exact this.mono (by omega)
  ·exact h1.mono (by rw [List.length_cons]; omega)
theorem fmtA_length (g : Geo.G) : (fmtA g).length = plc g + 3 := by
 unfold fmtA headA
 rw [List.length_append, ringW_length]
 simp
theorem fmtS_ok {g : Geo.G} {D : Dev} {k : Nat} (h : D.Ok k) : (fmtS g D).1.Ok (k + 520) := by
 unfold fmtS
 by_cases hf : fits g D
 ·rw [if_pos hf]
  have := doA_ok (fmtA g) D k h
  have hp := (plc_of hf.1).2.1
  rw [fmtA_length] at this
  exact this.mono (by omega)
 ·rw [if_neg hf]; exact h.mono (by omega)
theorem repS_ok {g : Geo.G} {D : Dev} {k : Nat} (h : D.Ok k) : (repS g D).1.Ok (k + 5000) := by
 unfold repS
 by_cases hf : fits g D
 ·rw [if_pos hf]
  cases e : readL g D.now with
  | none => exact h.mono (by omega)
  | some L =>
   dsimp only
   split
   ·exact h.mono (by omega)
   ·have := doA_ok (replayA g L.txns (L.place g) L.next) D k h
    have hb := hf.1.ok.1
    unfold Geo.asked at hb
    have hl : (replayA g L.txns (L.place g) L.next).length ≤ 4200 := by
     unfold replayA headA
     rw [List.length_append, List.length_map]
     have := comes_length g.blocks.toNat L.txns
     simp
     omega
    exact this.mono (by omega)
 ·rw [if_neg hf]; exact h.mono (by omega)
end Jr
theorem repS_txns {g : Geo.G} {D : Dev} {k : Nat} (h : D.Ok k) : (Jr.repS g D).2.2.length ≤ 600 ∧ ∀ t ∈ (Jr.repS g D).2.2, t.ch.length ≤ 600 ∧ t.rv.length ≤ 20000 := by
 have nil : ([] : List Jr.Txn).length ≤ 600 ∧ ∀ t ∈ ([] : List Jr.Txn), t.ch.length ≤ 600 ∧ t.rv.length ≤ 20000 := ⟨by simp, fun t ht => by cases ht⟩
 unfold Jr.repS
 by_cases hf : Jr.fits g D
 ·rw [if_pos hf]
  cases e : Jr.readL g D.now with
  | none => exact nil
  | some L =>
   obtain ⟨f1, -, f2, -⟩ := readL_fits hf.1 h.now (by have := hf.2; have := h.len; omega) e
   dsimp only
   split
   ·exact nil
   ·dsimp only
    split
    ·exact ⟨f2, fun t ht => (f1 t ht).2⟩
    ·exact nil
 ·rw [if_neg hf]; exact nil
end Go.Proofs.YtnpdhidliaahbaaGreat
namespace Go.Proofs.YtnpdhidliaahbaaGreat
open Go Go.RowKit
theorem below_dn (w : World) (n : Nat) : Below w.heap.size w (w.drewN n) := ⟨rfl, rfl, rfl, Nat.le_refl _, fun _ _ => rfl⟩
theorem chop_sized (s : ByteArray) (n j : Nat) (hs : s.size = n * 128) (hj : j ≤ n) : sized (chop s j) := by
 induction j with
 | zero => intro t ht; simp [chop] at ht
 | succ j ih =>
  intro t ht
  rcases List.mem_append.1 ht with h | h
  ·exact ih (by omega) t h
  ·simp at h; subst h
   show (List.toArray _).size = _
   rw [List.size_toArray, List.length_take, List.length_drop, Array.length_toList]
   have : s.data.size = n * 128 := hs
   omega
theorem own_setO {w : World} {B B2 size size2 n n2 g cap : Nat} {T T2 : TypeId} {v : Value} {xs l : List Value} (h : w.ownsRow B T size v n xs) (hg : w.ownsRow B2 T2 size2 (.slice (some ⟨g, 0, none⟩) n2 cap) n2 l) (hne : T ≠ T2) (c : Nat) (u : Value) : (w.setCell ⟨g, c, none⟩ u).ownsRow B T size v n xs := by
 have hn : v.ownBlock ≠ some g := by
  intro hv
  rcases h.2 with ⟨rfl, _⟩ | ⟨g1, cap1, cur1, rfl, _, hh1, _⟩
  ·cases hv
  ·rcases hg.2 with ⟨hx, _⟩ | ⟨g2, cap2, cur2, hx, _, hh2, _⟩
   ·cases hx
   ·cases hx
    simp only [Value.ownBlock, Option.some.injEq] at hv
    subst hv
    rw [hh1] at hh2
    simp only [Option.some.injEq, Obj.cells.injEq] at hh2
    exact hne hh2.2.1
 exact ownsRow_setCell_other h hn u
theorem own_setE {w : World} {B size n g : Nat} {T : TypeId} {v : Value} (h : ∃ xs, w.ownsRow B T size v n xs) (c : Nat) (u : Value) : ∃ xs, (w.setCell ⟨g, c, none⟩ u).ownsRow B T size v n xs := by
 obtain ⟨xs, h⟩ := h
 by_cases hn : v.ownBlock = some g
 ·rcases h.2 with ⟨rfl, _⟩ | ⟨g1, cap1, cur1, rfl, _, hh1, _⟩
  ·cases hn
  ·simp only [Value.ownBlock, Option.some.injEq] at hn
   subst hn
   exact ⟨_, ownsRow_set h c u⟩
 ·exact ⟨xs, ownsRow_setCell_other h hn u⟩
structure Spoil (B : Nat) (w : World) (v : Value) (xs : List (Value × Value)) : Prop where
 row : w.ownsRow B 25 2 v xs.length (txC xs)
 ins : ∀ (i : Nat) (x : Value × Value), xs[i]? = some x → (∃ n ≤ 600, ∃ l, w.ownsRow B 68 2 x.1 n l) ∧ ∃ n ≤ 20000, ∃ l, w.ownsRow B 3 1 x.2 n l
theorem OwnTs.get {B : Nat} {w : World} : ∀ {xs : List (Value × Value)} {ts : List Jr.Txn} {i : Nat} {x : Value × Value}, OwnTs B w xs ts → xs[i]? = some x → ∃ t ∈ ts, OwnC B w x.1 t.ch ∧ OwnInts B w x.2 t.rv
 | x :: xs, t :: ts, 0, y, h, e => by injection e with e; subst e; exact ⟨t, by simp, h.1⟩
 | x :: xs, t :: ts, i + 1, y, h, e => by
  obtain ⟨t', ht, r⟩ := OwnTs.get h.2 e
  exact ⟨t', by simp [ht], r⟩
 | [], [], i, y, h, e => by cases e
 | [], _ :: _, _, _, h, _ => h.elim
 | _ :: _, [], _, _, h, _ => h.elim
theorem OwnT.spoil {B : Nat} {w : World} {v : Value} {ts : List Jr.Txn} (h : OwnT B w v ts) (hs : ∀ t ∈ ts, t.ch.length ≤ 600 ∧ t.rv.length ≤ 20000) : ∃ xs, xs.length = ts.length ∧ Spoil B w v xs := by
 obtain ⟨xs, h1, h2⟩ := h
 have hl := h2.length
 refine ⟨xs, hl, by rw [hl]; exact h1, fun i x hx => ?_⟩
 obtain ⟨t, ht, hc, hi⟩ := h2.get hx
 exact ⟨⟨_, (hs t ht).1, _, hc⟩, _, (hs t ht).2, _, hi⟩
theorem Spoil.set {B B2 size n g cap : Nat} {w : World} {v : Value} {xs : List (Value × Value)} {T : TypeId} {l : List Value} (h : Spoil B w v xs) (hg : w.ownsRow B2 T size (.slice (some ⟨g, 0, none⟩) n cap) n l) (hT : 25 ≠ T) (c : Nat) (u : Value) : Spoil B (w.setCell ⟨g, c, none⟩ u) v xs :=
 ⟨own_setO h.row hg hT c u, fun i x hx => by
  obtain ⟨⟨n1, a1, b1⟩, n2, a2, b2⟩ := h.ins i x hx
  exact ⟨⟨n1, a1, own_setE b1 c u⟩, n2, a2, own_setE b2 c u⟩⟩
theorem Spoil.drew {B : Nat} {w : World} {v : Value} {xs : List (Value × Value)} (h : Spoil B w v xs) : Spoil B w.drew v xs :=
 ⟨h.row, h.ins⟩
theorem Spoil.below {B : Nat} {w w' : World} {v : Value} {xs : List (Value × Value)} (h : Spoil B w v xs) (hb : Below w.heap.size w w') : Spoil B w' v xs :=
 ⟨own_below h.row hb, fun i x hx => by
  obtain ⟨⟨n1, a1, l1, b1⟩, n2, a2, l2, b2⟩ := h.ins i x hx
  exact ⟨⟨n1, a1, l1, own_below b1 hb⟩, n2, a2, l2, own_below b2 hb⟩⟩
theorem own_formW {B size n : Nat} {w : World} {T : TypeId} {v : Value} {l : List Value} (h : w.ownsRow B T size v n l) : ∃ ad cap, v = .slice ad n cap := by
 rcases h.2 with ⟨rfl, rfl⟩ | ⟨g1, cap1, cur1, rfl, _⟩
 ·exact ⟨_, _, rfl⟩
 ·exact ⟨_, _, rfl⟩
theorem own_someW {B size n : Nat} {w : World} {T : TypeId} {ad : Option Addr} {m cap : Nat} {l : List Value} (h : w.ownsRow B T size (.slice ad m cap) n l) (hm : 0 < m) : ∃ g, ad = some ⟨g, 0, none⟩ ∧ m = n ∧ B ≤ g ∧ g < w.heap.size := by
 rcases h.2 with ⟨hx, rfl⟩ | ⟨g1, cap1, cur1, hx, hB, hh, _⟩
 ·cases hx; omega
 ·cases hx; exact ⟨g1, rfl, rfl, hB, lt_of_block hh⟩
theorem own_len {B size n : Nat} {w : World} {T : TypeId} {v : Value} {l : List Value} (h : w.ownsRow B T size v n l) : l.length = n * size := by
 rcases h.2 with ⟨rfl, rfl⟩ | ⟨g1, cap1, cur1, rfl, _, _, h1, h2, h3, h4⟩
 ·have := h.1; omega
 ·have := h.1; omega
theorem txC_get : ∀ {xs : List (Value × Value)} {k : Nat} {x : Value × Value}, xs[k]? = some x → (txC xs)[k * 2]? = some x.1 ∧ (txC xs)[k * 2 + 1]? = some x.2
 | y :: xs, 0, x, h => by injection h with h; subst h; exact ⟨rfl, rfl⟩
 | y :: xs, k + 1, x, h => by
  have h' : xs[k]? = some x := h
  have e : txC (y :: xs) = y.1 :: y.2 :: txC xs := by simp [txC]
  rw [e, show (k + 1) * 2 = k * 2 + 1 + 1 by omega]
  exact txC_get h'
 | [], _, _, h => by cases h
theorem own_cellW {B size n m g cap : Nat} {w : World} {T : TypeId} {l : List Value} (h : w.ownsRow B T size (.slice (some ⟨g, 0, none⟩) m cap) n l) {j : Nat} {u : Value} (hu : l[j]? = some u) : w.cell? ⟨g, j, none⟩ = some u := by
 have := h.cells rfl j u hu
 have hadd : (⟨g, 0, none⟩ : Addr).add j = ⟨g, j, none⟩ := by unfold Addr.add; split <;> simp_all
 rwa [hadd] at this
theorem Spoil.heads {B hb n cap k : Nat} {w : World} {xs : List (Value × Value)} {x : Value × Value} (h : Spoil B w (.slice (some ⟨hb, 0, none⟩) n cap) xs) (hk : xs[k]? = some x) : w.cell? ⟨hb, k * 2, none⟩ = some x.1 ∧ w.cell? ⟨hb, k * 2 + 1, none⟩ = some x.2 :=
 ⟨own_cellW h.row (txC_get hk).1, own_cellW h.row (txC_get hk).2⟩
structure RowThere (B : Nat) (T : TypeId) (size : Nat) (w : World) (ad : Option Addr) (n cap g : Nat) : Prop where
 ad : ad = some ⟨g, 0, none⟩
 lo : B ≤ g
 hi : g < w.heap.size
 row : ∃ l, w.ownsRow B T size (.slice (some ⟨g, 0, none⟩) n cap) n l
 cell : ∀ j, j < n * size → ∃ u, w.cell? ⟨g, j, none⟩ = some u
 free : ∀ j, w.frozen? ⟨g, j, none⟩ = false
theorem there_of {B n m size : Nat} {T : TypeId} {w : World} {ad : Option Addr} {cap : Nat} (h : ∃ l, w.ownsRow B T size (.slice ad n cap) m l) (hn : 0 < n) : ∃ g, RowThere B T size w ad n cap g := by
 obtain ⟨l, h⟩ := h
 obtain ⟨g, rfl, rfl, hB, hlt⟩ := own_someW h hn
 have hl := own_len h
 refine ⟨g, rfl, hB, hlt, ⟨l, h⟩, fun j hj => ?_, fun j => ownsRow_free1 h j⟩
 exact ⟨_, own_cellW h (List.getElem?_eq_getElem (by omega : j < l.length))⟩
theorem Spoil.chg {B k nc cc : Nat} {w : World} {v rv : Value} {ca : Option Addr} {xs : List (Value × Value)} (h : Spoil B w v xs) (hk : Hid (xs[k]? = some (.slice ca nc cc, rv))) (hn : 0 < nc) : ∃ g, RowThere B 68 2 w ca nc cc g := by
 obtain ⟨⟨n, _, hl⟩, -⟩ := h.ins k _ hk.out
 exact there_of hl hn
theorem Spoil.int {B k nc cc : Nat} {w : World} {v cv : Value} {ca : Option Addr} {xs : List (Value × Value)} (h : Spoil B w v xs) (hk : Hid (xs[k]? = some (cv, .slice ca nc cc))) (hn : 0 < nc) : ∃ g, RowThere B 3 1 w ca nc cc g := by
 obtain ⟨-, n, _, hl⟩ := h.ins k _ hk.out
 exact there_of hl hn
theorem Spoil.setR {B B2 size n g cap : Nat} {ad : Option Addr} {w : World} {v : Value} {xs : List (Value × Value)} {T : TypeId} (h : Spoil B w v xs) (hg : RowThere B2 T size w ad n cap g) (hT : 25 ≠ T) (c : Nat) (u : Value) : Spoil B (w.setCell ⟨g, c, none⟩ u) v xs := by
 obtain ⟨l, hl⟩ := hg.row
 exact h.set hl hT c u
theorem RowThere.set {B size n g cap : Nat} {ad : Option Addr} {w : World} {T : TypeId} (hg : RowThere B T size w ad n cap g) (hn : 0 < n) (c : Nat) (u : Value) : RowThere B T size (w.setCell ⟨g, c, none⟩ u) ad n cap g := by
 obtain ⟨l, hl⟩ := hg.row
 obtain ⟨g2, h2⟩ := there_of ⟨_, ownsRow_set hl c u⟩ hn
 have e := h2.ad
 simp at e
 subst e
 exact ⟨hg.ad, h2.lo, h2.hi, h2.row, h2.cell, h2.free⟩
end Go.Proofs.YtnpdhidliaahbaaGreat
namespace Go.Proofs.YtnpdhidliaahbaaGreat
open Go Go.RowKit
structure RdS (w : World) (GL : List Value) (B0 B1 db : Nat) (y : Lay) (sb : Nat) (z : RLay) (D E : Dev) (wx : World) : Prop where
 lo : w.heap.size < B0
 le : B0 ≤ B1
 geo : Row wx w.heap.size 30 GL
 bel : Below w.heap.size w wx
 d : DevAt B0 wx db y D
 s : RefAt B1 wx sb z E
 lt : ∀ k ∈ devB db y, k < B1
section
variable {w wx w' : World} {GL : List Value} {B0 B1 db : Nat} {y : Lay} {sb : Nat} {z : RLay} {D E D' E' : Dev}
theorem RdS.below (h : RdS w GL B0 B1 db y sb z D E wx) (hb : Below wx.heap.size wx w') : RdS w GL B0 B1 db y sb z D E w' :=
 ⟨h.lo, h.le, h.geo.below hb h.geo.lt, below_next h.bel hb, h.d.below hb, h.s.below hb, h.lt⟩
theorem RdS.dev_ge (h : RdS w GL B0 B1 db y sb z D E wx) : ∀ k ∈ devB db y, B0 ≤ k := by
 have := h.d.bounds
 unfold devB
 simp
 omega
theorem RdS.dev_lt (h : RdS w GL B0 B1 db y sb z D E wx) : ∀ k ∈ devB db y, k < wx.heap.size := by
 have := h.d.bounds
 unfold devB
 simp
 omega
theorem RdS.dev (h : RdS w GL B0 B1 db y sb z D E wx) (hd : DevAt B0 w' db y D') (ho : Only (devB db y) wx w') : RdS w GL B0 B1 db y sb z D' E w' := by
 have hge := h.dev_ge
 have hlo := h.lo
 refine ⟨h.lo, h.le, ho.row h.geo (fun hk => by have := hge _ hk; omega), h.bel.trans ?_, hd, h.s.onlyB ho h.lt, h.lt⟩
 have hz : w.heap.size ≤ wx.heap.size := h.bel.size
 exact ho.below hz (fun k hk => by have := hge k hk; omega)
theorem RdS.ref (h : RdS w GL B0 B1 db y sb z D E wx) (hs : RefAt B1 w' sb z E') (ho : Only (refB sb z) wx w') : RdS w GL B0 B1 db y sb z D E' w' := by
 have hge := refB_ge h.s
 have hlo := h.lo
 have hle := h.le
 refine ⟨h.lo, h.le, ho.row h.geo (fun hk => by have := hge _ hk; omega), h.bel.trans ?_, h.d.onlyN ho (fun k hk hn => by have := hge k hn; have := h.lt k hk; omega), hs, h.lt⟩
 have hz : w.heap.size ≤ wx.heap.size := h.bel.size
 exact ho.below hz (fun k hk => by have := hge k hk; omega)
theorem RdS.belowK {K : Nat} (h : RdS w GL B0 B1 db y sb z D E wx) (hb : Below K wx w') (hK : w.heap.size < K ∧ (∀ k ∈ devB db y, k < K) ∧ ∀ k ∈ refB sb z, k < K) (hz : K ≤ wx.heap.size) : RdS w GL B0 B1 db y sb z D E w' := by
 have ho : Only ((List.range wx.heap.size).filter (K ≤ ·)) wx w' := ⟨hb.os, hb.tape, hb.output, hb.size, fun k hk hn => hb.block k (by
  simp at hn
  exact hn hk)⟩
 have hS : ∀ k, k < K → k ∉ (List.range wx.heap.size).filter (K ≤ ·) := fun k hk hn => by
  simp at hn
  omega
 refine ⟨h.lo, h.le, ho.row h.geo (hS _ hK.1), h.bel.trans (hb.mono (Nat.le_of_lt hK.1)), h.d.onlyN ho (fun k hk => hS k (hK.2.1 k hk)), ?_, h.lt⟩
 have hs := h.s
 refine ⟨hs.own, ho.row hs.cells (hS _ (hK.2.2 _ (by simp [refB]))), own_onlyN hs.now ho ?_, own_onlyN hs.was ho ?_, own_onlyN hs.pend ho ?_, hs.ne, hs.pos, hs.left, hs.acts⟩
 all_goals
  intro k hk
  simp only [Value.ownBlock, Option.some.injEq] at hk
  exact hS k (hK.2.2 k (by simp [refB]; omega))
theorem RdS.first {wa wb : World} (hg : Row wa w.heap.size 30 GL) (hb : Below w.heap.size w wa) (hB : w.heap.size < B0) (hle : B0 ≤ wa.heap.size) (hd : DevAt B0 wa db y D) (hs : RefAt wa.heap.size wb sb z E) (hbb : Below wa.heap.size wa wb) : RdS w GL B0 wa.heap.size db y sb z D E wb :=
 ⟨hB, hle, hg.below hbb hg.lt, below_next hb hbb, hd.below hbb, hs, by
  have := hd.bounds
  unfold devB
  simp
  omega⟩
end
def pendI (D : Dev) : IL := (pendTo D.pend D.pend.length).map fun (n : Nat) => (n : Int)
theorem pend_ints {B : Nat} {w : World} {v : Value} {D : Dev} (h : w.ownsRow B 3 1 v (pendTo D.pend D.pend.length).length (natVs (pendTo D.pend D.pend.length))) : OwnInts B w v (pendI D) := by
 have e : icells (pendI D) = natVs (pendTo D.pend D.pend.length) := by simp [icells, pendI, natVs]
 unfold OwnInts
 rw [e, show (pendI D).length = (pendTo D.pend D.pend.length).length by simp [pendI]]
 exact h
theorem pendI_length {D : Dev} {k : Nat} (h : D.Ok k) (hn : D.kept.length ≤ 4096) : (pendI D).length ≤ 4096 := by
 have := pendTo_length D.pend D.pend.length
 have := h.plen
 simp only [pendI, List.length_map]
 omega
end Go.Proofs.YtnpdhidliaahbaaGreat
