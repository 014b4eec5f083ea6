/- Forks: asking for blocks. -/
import Derived.Test.YtgjmeeiejcbjfaaGreatH23
import Derived.Test.YtgjmeeiejcbjfaaGreatH17
import Derived.Test.YtgjmeeiejcbjfaaGreatH11
import Derived.Laws.AppendOwnNone
set_option linter.unusedSimpArgs false
set_option linter.unusedVariables false
namespace Go.Proofs.YtgjmeeiejcbjfaaGreat
open Go.Lib (hid)
open Go Go.RowKit
structure OnlyAM (A M : Nat) (w w' : World) : Prop where
 os : w'.os = w.os
 tape : w'.tape = w.tape
 output : w'.output = w.output
 size : w.heap.size ≤ w'.heap.size
 block : ∀ k, k < w.heap.size → k ≠ A → k ≠ M → w'.heap[k]? = w.heap[k]?
theorem OnlyAM.refl (A M : Nat) (w : World) : OnlyAM A M w w := ⟨rfl, rfl, rfl, Nat.le_refl _, fun _ _ _ _ => rfl⟩
theorem OnlyAM.trans {A M : Nat} {a b c : World} (h1 : OnlyAM A M a b) (h2 : OnlyAM A M b c) : OnlyAM A M a c :=
 ⟨h2.os.trans h1.os, h2.tape.trans h1.tape, h2.output.trans h1.output, Nat.le_trans h1.size h2.size, fun k hk hA hM => (h2.block k (Nat.lt_of_lt_of_le hk h1.size) hA hM).trans (h1.block k hk hA hM)⟩
theorem OnlyAM.of_below {A M : Nat} {w w' : World} (h : Below w.heap.size w w') : OnlyAM A M w w' := ⟨h.os, h.tape, h.output, h.size, fun k hk _ _ => h.block k hk⟩
theorem OnlyAM.of_only {A M : Nat} {w w' : World} (h : OnlyM M w w') : OnlyAM A M w w' := ⟨h.os, h.tape, h.output, h.size, fun k hk _ hM => h.block k hk hM⟩
theorem OnlyAM.set {A M : Nat} (w : World) (k : Nat) (v : Value) : OnlyAM A M w (w.setCell ⟨A, k, none⟩ v) := ⟨rfl, rfl, rfl, by simp, fun j hj hA _ => Below.heap_setCell _ _ _ _ hA⟩
theorem OnlyAM.grown {A M B sz n : Nat} {e : TypeId} {w0 w w' : World} {v : Value} {xs : List Value} (h : OnlyAM A M w0 w) (hown : w.ownsRow B e sz v n xs) (hB : w0.heap.size ≤ B) (hg : w.grownBy w' v.ownBlock) : OnlyAM A M w0 w' :=
 ⟨hg.os.trans h.os, hg.tape.trans h.tape, hg.output.trans h.output, Nat.le_trans h.size hg.size, fun k hk hA hM => (hg.block k (Nat.lt_of_lt_of_le hk h.size) (fun e => by have := (hown.lt k e.symm).1; omega)).trans (h.block k hk hA hM)⟩
structure KeepW (w w' : World) : Prop where
 x : KeepT 109 w w'
 lvs : KeepT 128 w w'
 txt : KeepT 9 w w'
 nodes : KeepT 131 w w'
 ents : KeepE w w'
 exts : KeepT 53 w w'
theorem KeepW.refl (w : World) : KeepW w w := ⟨.refl _ _, .refl _ _, .refl _ _, .refl _ _, .refl _, .refl _ _⟩
theorem KeepW.trans {a b c : World} (h1 : KeepW a b) (h2 : KeepW b c) : KeepW a c := ⟨h1.x.trans h2.x, h1.lvs.trans h2.lvs, h1.txt.trans h2.txt, h1.nodes.trans h2.nodes, h1.ents.trans h2.ents, h1.exts.trans h2.exts⟩
theorem KeepW.of_below {w w' : World} (h : Below w.heap.size w w') : KeepW w w' := ⟨.of_below h, .of_below h, .of_below h, .of_below h, .of_below h, .of_below h⟩
theorem KeepW.of_all {w w' : World} {S : TypeId} (h : ∀ T, T ≠ S → KeepT T w w') (h1 : 109 ≠ S := by decide) (h2 : 128 ≠ S := by decide) (h3 : 9 ≠ S := by decide) (h4 : 131 ≠ S := by decide) (h5 : 31 ≠ S := by decide) (h6 : 53 ≠ S := by decide) : KeepW w w' :=
 ⟨h _ h1, h _ h2, h _ h3, h _ h4, h _ h5, h _ h6⟩
theorem Row.keepT {w w' : World} {b : Nat} {T : TypeId} {cs : List Value} (h : Row w b T cs) (hk : KeepT T w w') : Row w' b T cs := by
 obtain ⟨fr, hb, hf⟩ := h
 exact ⟨fr, hk _ _ _ hb, hf⟩
theorem WAtR.keepW {B X d : Nat} {w w' : World} {rdv : Value} {v : Forks.V} {R : EL} (h : WAtR B X w rdv d v R) (hk : KeepW w w') : WAtR B X w' rdv d v R := by
 obtain ⟨Lb, Tb, lv, rv, hl, h⟩ := h
 refine ⟨Lb, Tb, lv, rv, hl, hk.x _ _ _ h.x, h.lb.keepT hk.lvs, h.tb.keepT hk.txt, fun i u hu => ?_, own_keepT h.row hk.exts, h.ne, h.loX, h.loL, h.loT⟩
 obtain ⟨cs, ho, hc⟩ := h.lvl i u hu
 exact ⟨cs, own_keepT ho hk.nodes, hc.keep hk.ents⟩
structure FreshFn (S : Type) (K0 M : Nat) (fn : Nat) (bnd : Array Value) (nx : S → Option Int × S) (FR : S → World → Prop) (cnt : S → Nat) : Prop where
 isf : (fn = 29 ∧ ∃ O, bnd = #[.pointer (some ⟨O, 0, none⟩)]) ∨ (fn = 32 ∧ ∃ O, bnd = #[.pointer (some ⟨O, 0, none⟩)]) ∨ (fn = 45 ∧ bnd = #[])
 call : ∀ s wz, FR s wz → cnt s ≤ 2000000 → Calls Tryz.prog fn bnd wz fun e w' => e = .returned (FreshOut (nx s).1) ∧ FR (nx s).2 w' ∧ OnlyM M wz w' ∧ KeepW wz w'
 keep : ∀ s wz wz', FR s wz → Below K0 wz wz' → FR s wz'
 step : ∀ s, cnt (nx s).2 ≤ cnt s + 1
 lt : M < K0
def AskerAt (w : World) (A X : Nat) (fv rv tv : Value) : Prop := w.heap[A]? = some (.cells #[fv, .pointer (some ⟨X, 0, none⟩), rv, tv] 150 (0, 0))
theorem AskerAt.cells {w : World} {A X : Nat} {fv rv tv : Value} (h : AskerAt w A X fv rv tv) : w.cell? ⟨A, 0, none⟩ = some fv ∧ w.cell? ⟨A, 1, none⟩ = some (.pointer (some ⟨X, 0, none⟩)) ∧ w.cell? ⟨A, 2, none⟩ = some rv ∧ w.cell? ⟨A, 3, none⟩ = some tv ∧ ∀ k, w.frozen? ⟨A, k, none⟩ = false :=
 ⟨cell_of_row w A 0 _ _ _ h, cell_of_row w A 1 _ _ _ h, cell_of_row w A 2 _ _ _ h, cell_of_row w A 3 _ _ _ h, free_zero h⟩
theorem AskerAt.only {w w' : World} {A X M : Nat} {fv rv tv : Value} (h : AskerAt w A X fv rv tv) (hb : OnlyM M w w') (hA : A ≠ M) : AskerAt w' A X fv rv tv := by
 unfold AskerAt; rw [hb.block A (lt_of_block h) hA]; exact h
theorem AskerAt.below {w w' : World} {A X : Nat} {fv rv tv : Value} (h : AskerAt w A X fv rv tv) (hb : Below w.heap.size w w') : AskerAt w' A X fv rv tv := by
 unfold AskerAt; rw [hb.block A (lt_of_block h)]; exact h
theorem AskerAt.set {w : World} {A X : Nat} {fv rv tv : Value} (h : AskerAt w A X fv rv tv) (u : Value) : AskerAt (w.setCell ⟨A, 3, none⟩ u) A X fv rv u := by
 have := block_setCellS h 3 u
 unfold AskerAt
 simpa using this
structure AskSt {S : Type} (FR : S → World → Prop) (w0 : World) (A X M K0 : Nat) (fv rv : Value) (w : World) (tv : Value) (T : IL) (s : S) : Prop where
 a : AskerAt w A X fv rv tv
 t : OwnInts w0.heap.size w tv T
 fr : FR s w
 only : OnlyAM A M w0 w
 kw : KeepW w0 w
 lo : K0 ≤ w0.heap.size
 loA : K0 ≤ A
variable {S : Type} {FR : S → World → Prop} {w0 w w' : World} {A X M K0 d : Nat} {rdv fv rv tv : Value} {v : Forks.V} {R0 R : EL} {T : IL} {s : S}
theorem AskSt.told {s' : S} (h : AskSt FR w0 A X M K0 fv rv w tv T s) (hb : OnlyM M w w') (hk : KeepW w w') (hf : FR s' w') (hM : M < K0) : AskSt FR w0 A X M K0 fv rv w' tv T s' :=
 ⟨h.a.only hb (by have := h.loA; omega), ⟨h.t.1, h.t.2.imp id (fun ⟨g, cap, cur, hv, hg, hh, r⟩ => ⟨g, cap, cur, hv, hg, by rw [hb.block g (lt_of_block hh) (by have := h.lo; omega)]; exact hh, r⟩)⟩, hf, h.only.trans (.of_only hb), h.kw.trans hk, h.lo, h.loA⟩
theorem AskSt.below {fn : Nat} {bnd : Array Value} {nx : S → Option Int × S} {cnt : S → Nat} (h : AskSt FR w0 A X M K0 fv rv w tv T s) (hF : FreshFn S K0 M fn bnd nx FR cnt) (hb : Below w.heap.size w w') : AskSt FR w0 A X M K0 fv rv w' tv T s :=
 ⟨h.a.below hb, h.t.below hb, hF.keep _ _ _ h.fr (hb.mono (Nat.le_trans h.lo h.only.size)), h.only.trans (.of_below hb), h.kw.trans (.of_below hb), h.lo, h.loA⟩
theorem AskSt.put {fn : Nat} {bnd : Array Value} {nx : S → Option Int × S} {cnt : S → Nat} {w5 : World} {T' : IL} {tv' u : Value} {n : Nat} {xs : List Value} (hF : FreshFn S K0 M fn bnd nx FR cnt) (ha0 : AskerAt w A X fv rv u) (hs : FR s w) (hon : OnlyAM A M w0 w) (hkw : KeepW w0 w) (hlo : K0 ≤ w0.heap.size) (hloA : K0 ≤ A)
  (ho : w.ownsRow w0.heap.size 3 1 tv n xs) (hg : w.grownBy w5 tv.ownBlock) (hown : OwnInts w0.heap.size w5 tv' T') : AskSt FR w0 A X M K0 fv rv (w5.setCell ⟨A, 3, none⟩ tv') tv' T' s ∧ AskerAt w5 A X fv rv u := by
 have hk : KeepW w w5 := .of_all (fun T hT => KeepT.grown (T := T) ho hg hT)
 have ha : AskerAt w5 A X fv rv u := kept_other ho hg ha0 (by decide)
 have hsk : ∀ T, T ≠ 150 → KeepT T w5 (w5.setCell ⟨A, 3, none⟩ tv') := fun T hT => KeepT.set (a := ⟨A, 3, none⟩) ha hT
 have hb5 : Below K0 w w5 := ⟨hg.os, hg.tape, hg.output, hg.size, fun k hk => hg.block k (by have := hon.size; omega) (fun e => by have := (ho.lt k e.symm).1; omega)⟩
 exact ⟨⟨ha.set tv', own_keepT hown (hsk _ (by decide)), hF.keep _ _ _ hs (hb5.setCell hloA _), ((hon.grown ho (Nat.le_refl _) hg).trans (.set _ _ _)), (hkw.trans hk).trans (.of_all hsk), hlo, hloA⟩, ha⟩
theorem AskSt.push {fn : Nat} {bnd : Array Value} {nx : S → Option Int × S} {cnt : S → Nat} {w5 : World} {T' : IL} {tv' : Value} (h : AskSt FR w0 A X M K0 fv rv w tv T s) (hF : FreshFn S K0 M fn bnd nx FR cnt) (hg : w.grownBy w5 tv.ownBlock) (hown : OwnInts w0.heap.size w5 tv' T') : AskSt FR w0 A X M K0 fv rv (w5.setCell ⟨A, 3, none⟩ tv') tv' T' s ∧ AskerAt w5 A X fv rv tv :=
 AskSt.put hF h.a h.fr h.only h.kw h.lo h.loA h.t hg hown
theorem run_fresh_nil (fn : Nat) (bnd : Array Value) (w : World) : (binOp .eql 138 (.func (.func fn) bnd #[]) .nilFunc).run Tryz.prog w = .ok (.bool false) w := by
 simp [binOp, run_equal_func_nil w _ _ _ _ _ _ _ Tryz.underlying138]
def AskOut {S : Type} (FR : S → World → Prop) (w0 : World) (A X M : Nat) (fv rv : Value) (r : (Int × IL) × S) (e : Ending) (w' : World) : Prop :=
 e = .returned (.int .i64 r.1.1) ∧ FR r.2 w' ∧ OnlyAM A M w0 w' ∧ KeepW w0 w' ∧ ∃ tv, AskerAt w' A X fv rv tv ∧ OwnInts w0.heap.size w' tv r.1.2
theorem AskSt.out {r : (Int × IL) × S} {k : Int} (h : AskSt FR w0 A X M K0 fv rv w tv T s) (hr : r = ((k, T), s)) : AskOut FR w0 A X M fv rv r (.returned (.int .i64 k)) w := by
 subst hr
 exact ⟨rfl, h.fr, h.only, h.kw, tv, h.a, h.t⟩
theorem contains_any (w : World) (ad : Option Addr) (n ct : Nat) (T : IL) (h : IntsAt w (.slice ad n ct) T) (hT : T.length ≤ 1000000000) (b : Int) (r : Bool) (hr : T.contains b = r) :
  Calls Tryz.prog 114 #[.slice ad n ct, .int .i64 b] w fun e w' => e = .returned (.bool r) ∧ w' = w := by
 subst hr
 rcases h with ⟨h, rfl⟩ | ⟨g, off, c, h, hc⟩
 ·cases h
  exact Tryz.slices_Contains_int_empty none 0 b w
 ·cases h
  have := Tryz.slices_Contains_int g off T.length ct T b w (Nat.le_refl _) (by omega) (fun j hj => hc j _ (icells_at T j hj))
  rwa [List.take_length] at this
set_option maxRecDepth 100000 in
set_option maxHeartbeats 8000000 in
theorem ask_any {fn : Nat} {bnd : Array Value} {nx : S → Option Int × S} {cnt : S → Nat} (hF : FreshFn S K0 M fn bnd nx FR cnt) (s0 : S) (many : Nat) (kv : Value) (known : IL) (w : World) (hs : FR s0 w) (hA : AskerAt w A X (.func (.func fn) bnd #[]) rv (.slice none 0 0)) (hlo : K0 ≤ w.heap.size) (hloA : K0 ≤ A)
  (hW : WAtR K0 X w rdv d v R0) (hg : Forks.Good v) (hR : OwnExts K0 w rv R) (hsm : ∀ x ∈ R, SmallE x ∧ -1000000000000 ≤ x.2.1 ∧ x.2.1 ≤ 1000000000000) (hlR : R.length ≤ 1000000) (hk : IntsAt w kv known) (hlk : known.length ≤ 4096) (hm : many ≤ 1000000) (hcnt : cnt s0 ≤ 900000) :
  Calls Tryz.prog 77 #[.pointer (some ⟨A, 0, none⟩), .int .i64 (many : Int), kv] w (AskOut FR w A X M (.func (.func fn) bnd #[]) rv (Forks.askT nx v R (many + 1 - (known.length + 1)) (0 :: known) s0)) := by
 obtain ⟨fv, hfv⟩ : ∃ fv, Value.func (.func fn) bnd #[] = fv := ⟨_, rfl⟩
 rw [hfv] at hA ⊢
 have HFV := hid hfv
 clear hfv
 have HR2 := hid hR
 have hnil := run_fresh_nil fn bnd
 obtain ⟨ii, hii, hzi, hsi, hbi⟩ := info_parts infoInt
 have HA := hid hA
 have HW := hid hW
 have HG := hid hg
 have HF := hid hF
 have HSM := hid hsm
 obtain ⟨ar, cr, rfl⟩ := hR.slice
 obtain ⟨c0, c1, c2, c3, cF⟩ := hA.cells
 have f3 := cF 3
 have zA := lt_of_block hA
 have bL : Below w.heap.size w (w.alloc (.cells #[.int .i64 0] 3)) := (Below.refl _ _).alloc (Nat.le_refl _) _
 have hlit : (w.alloc (.cells #[.int .i64 0] 3)).ownsRow w.heap.size 3 1 (.slice (some ⟨w.heap.size, 0, none⟩) 1 1) 1 [.int .i64 0] := World.ownsRow_lit w #[.int .i64 0] 1 (Nat.le_refl _) (by unfold maxLen; omega) rfl
 have HL := hid hlit
 have hP : Hid (∀ (w5 : World) (tv' : Value) (T' : IL), (w.alloc (.cells #[.int .i64 0] 3)).grownBy w5 (some w.heap.size) → OwnInts w.heap.size w5 tv' T' → AskSt FR w A X M K0 fv (.slice ar R.length cr) (w5.setCell ⟨A, 3, none⟩ tv') tv' T' s0 ∧ AskerAt w5 A X fv (.slice ar R.length cr) (.slice none 0 0)) := hid (fun w5 tv' T' hg5 hown5 =>
  AskSt.put HF.out (HA.out.below bL) (HF.out.keep _ _ _ hs (bL.mono hlo)) (.of_below bL) (.of_below bL) hlo hloA HL.out hg5 hown5)
 generalize hAR : Forks.askT nx v R (many + 1 - (known.length + 1)) (0 :: known) s0 = AR at *
 have HAR := hid hAR
 clear hA hW hg hF hs hR hsm hAR cF hlit bL
 have hlt := HF.out.lt
 rcases HF.out.isf with ⟨rfl, O, rfl⟩ | ⟨rfl, O, rfl⟩ | ⟨rfl, rfl⟩
 all_goals
  go_enter Tryz.func77, Tryz.ntmps77
  go_upto_region 1 with fail
  go_cut [6] from 9 to 14 (fun z wc => z = .int .i64 0 ∧ Hid (∃ tv, AskSt FR w A X M K0 fv (.slice ar R.length cr) wc tv (0 :: known) s0))
  case first =>
   rcases hk with ⟨rfl, rfl⟩ | ⟨b, off, cap, rfl, hkc⟩
   ·have S0 := hid (hP.out (w.alloc (.cells #[.int .i64 0] 3)) (.slice (some ⟨w.heap.size, 0, none⟩) 1 1) [0] ⟨rfl, rfl, rfl, Nat.le_refl _, fun _ _ _ => rfl⟩ HL.out)
    have k3 := S0.out.2.cells.2.2.2.1
    have kf := S0.out.2.cells.2.2.2.2 3
    clear c0 c1 c2 c3 f3
    go_wp2_with (first | (at_builtin; refine wpList_append_own_none rfl (.tmp 10) (.tmp 11) 43 rfl w.heap.size 3 ii 1 Tryz.underlying43 hii _ 1 _ rfl HL.out rfl ?_))
    go_wp2_with fail
    have S1 := hid S0.out.1
    rw [World.setCell_alloc_past (hn := zA)] at S1
    go_meet
    exact ⟨rfl, hid ⟨_, S1.out⟩⟩
   ·have hnews : ∀ j u, (icells known)[j]? = some u → (w.alloc (.cells #[.int .i64 0] 3)).cell? ((⟨b, off, none⟩ : Addr).add j) = some u := fun j u hu => by
     have e1 : (⟨b, off, none⟩ : Addr).add j = ⟨b, off + j, none⟩ := by unfold Addr.add; split <;> simp_all
     rw [e1]
     exact Lib.cell?_alloc_some _ (hkc j u hu)
    have hone : ∀ u ∈ icells known, u.oneCell' = true := by
     intro u hu
     obtain ⟨x, -, rfl⟩ := List.mem_map.1 hu
     rfl
    have hil := icells_length known
    have hil2 : (icells known).length = known.length * 1 := by omega
    clear hil hkc
    go_wp2_with (first | (at_builtin; refine wpList_append_own _ rfl (.tmp 10) (.tmp 11) 43 rfl w.heap.size 3 ii (.int .i64 0) 1 8 Tryz.underlying43 hii hzi hsi hbi rfl (by decide) _ 1 _ rfl HL.out ⟨b, off, none⟩ known.length cap (icells known) rfl hil2 hnews hone (by unfold maxLen; omega) (by omega) (by simp) ?_))
    intro v' w5 hown hgrow _
    have hown2 : OwnInts w.heap.size w5 v' (0 :: known) := by
     unfold OwnInts
     rw [List.length_cons, Nat.add_comm]
     exact hown
    have S0 := hid (hP.out w5 v' (0 :: known) hgrow hown2)
    have k3 := S0.out.2.cells.2.2.2.1
    have kf := S0.out.2.cells.2.2.2.2 3
    obtain ⟨a5, c5, rfl⟩ := hown2.slice
    clear hown hgrow hown2 hnews c0 c1 c2 c3 f3
    go_wp2_with fail
    go_meet
    exact ⟨rfl, hid ⟨_, S0.out.1⟩⟩
  obtain ⟨rfl, hS0⟩ := hcut
  clear hP HL c0 c1 c2 c3 f3 hk
  go_wp2_with fail
  go_loopw [] (fun wr => ∃ (T : IL) (s : S) (tv : Value), 1 ≤ T.length ∧ T.length ≤ 1010000 ∧ cnt s ≤ cnt s0 + T.length ∧ Hid (AskSt FR w A X M K0 fv (.slice ar R.length cr) wr tv T s ∧ Forks.askT nx v R (many + 1 - T.length) T s = AR)) (fun wr => many + 1 - sliceLen (wr.cell? ⟨A, 3, none⟩))
  case atStart =>
   obtain ⟨tv, S0⟩ := hS0.out
   exact ⟨0 :: known, s0, tv, by simp, by simp; omega, by omega, hid ⟨S0, HAR.out⟩⟩
  case round =>
   obtain ⟨T, s, tv, hT1, hT2, hT3c, hst⟩ := hrel
   have hstp := hid (HF.out.step s)
   have HC3 := hid hT3c
   clear hT3c
   obtain ⟨hask, haT⟩ := hst.out
   obtain ⟨c0, c1, c2, c3, cF⟩ := hask.a.cells
   have f3 := cF 3
   obtain ⟨at', ct, rfl⟩ := hask.t.slice
   have zA1 := lt_of_block hask.a
   rw [← HFV.out] at c0
   have HS := hid hask
   have HT := hid haT
   clear hst hask haT cF
   by_cases hgo : T.length ≤ many
   ·obtain ⟨k, hk⟩ : ∃ k, many + 1 - T.length = k + 1 := ⟨many - T.length, by omega⟩
    have g1 : (T.length : Int) ≤ (many : Int) := by omega
    have HT' := HT.out
    rw [hk] at HT'
    have HT2 := hid HT'
    have HK := hid hk
    have qf := hid (HF.out.call s wr HS.out.fr (by have := HC3.out; omega))
    clear HT HT' hk
    cases hn : (nx s).1 with
    | none =>
     rw [hn] at qf
     have hans := Forks.askT_none nx v R k T s hn
     have F := hid (fun w2 (hf2 : FR (nx s).2 w2) (ho2 : OnlyM M wr w2) (hk2 : KeepW wr w2) => (HS.out.told ho2 hk2 hf2 hlt).out (r := AR) (k := 170) (by rw [← HT2.out, hans]))
     clear hn hans
     go_wp2_with fail
     refine qf.out.mono ?_
     rintro e w2 ⟨he, hf2, ho2, hk2⟩
     obtain rfl : e = .returned (.tuple #[.int .i64 0, .int .i64 170]) := he
     have G := hid (F.out w2 hf2 ho2 hk2)
     clear hf2 ho2 hk2 F
     go_wp2_with fail
     go_ret
     exact G.out
    | some b =>
     rw [hn] at qf
     have HB := hid (fun w2 (hf2 : FR (nx s).2 w2) (ho2 : OnlyM M wr w2) (hk2 : KeepW wr w2) => HS.out.told ho2 hk2 hf2 hlt)
     by_cases hb1 : b < 1
     ·have F := hid (fun w9 (st : AskSt FR w A X M K0 fv (.slice ar R.length cr) w9 (.slice at' T.length ct) T (nx s).2) => st.out (r := AR) (k := 2) (by rw [← HT2.out, Forks.askT_bad nx v R k T s b hn (by simp [Forks.badB, hb1])]))
      clear hn
      go_wp2_with fail
      refine qf.out.mono ?_
      rintro e w2 ⟨he, hf2, ho2, hk2⟩
      obtain rfl : e = .returned (.tuple #[.int .i64 b, .int .i64 0]) := he
      have G := hid (F.out w2 (HB.out w2 hf2 ho2 hk2))
      clear hf2 ho2 hk2 F HB
      go_wp2_with fail
      go_ret
      exact G.out
     by_cases hb2 : 4096 ≤ b
     ·have F := hid (fun w9 (st : AskSt FR w A X M K0 fv (.slice ar R.length cr) w9 (.slice at' T.length ct) T (nx s).2) => st.out (r := AR) (k := 2) (by rw [← HT2.out, Forks.askT_bad nx v R k T s b hn (by simp [Forks.badB, hb2])]))
      clear hn
      go_wp2_with fail
      refine qf.out.mono ?_
      rintro e w2 ⟨he, hf2, ho2, hk2⟩
      obtain rfl : e = .returned (.tuple #[.int .i64 b, .int .i64 0]) := he
      have G := hid (F.out w2 (HB.out w2 hf2 ho2 hk2))
      clear hf2 ho2 hk2 F HB
      go_wp2_with fail
      go_ret
      exact G.out
     obtain ⟨m, rfl⟩ : ∃ m : Nat, b = (m : Int) := ⟨b.toNat, by omega⟩
     have hm1 : 1 ≤ m := by omega
     have hm2 : m < 4096 := by omega
     have m0 : (0 : Int) ≤ (m : Int) := by omega
     have m1 : ¬ (m : Int) < 1 := hb1
     have m2 : ¬ (4096 : Int) ≤ (m : Int) := hb2
     have m3 : (m : Int) < 4096 := by omega
     have hTX : (Forks.texts v)[m]? = some (Forks.textOf v m) := Forks.texts_at v m hm2
     have hTe := Forks.textOf_has HG.out m
     have HWX : Hid (∀ w2, KeepW w w2 → ∃ Tb, w2.cell? ⟨X, 3, none⟩ = some (.slice (some ⟨Tb, 0, none⟩) 4096 4096) ∧ w2.cell? ⟨Tb, m, none⟩ = some (.string (Forks.textOf v m))) := hid (fun w2 hk2 => by
      obtain ⟨Lb, Tb, lv, rv, hl, hw⟩ := HW.out.keepW hk2
      exact ⟨Tb, hw.cellX.2.2.2, hw.tb.cellAt m (by rw [List.getElem?_map, hTX]; rfl)⟩)
     clear hb1 hb2 hTX
     generalize hTt : Forks.textOf v m = TT at *
     cases hhas : Forks.has v m
     case true =>
      have F := hid (fun w9 (st : AskSt FR w A X M K0 fv (.slice ar R.length cr) w9 (.slice at' T.length ct) T (nx s).2) => st.out (r := AR) (k := 2) (by rw [← HT2.out, Forks.askT_bad nx v R k T s (m : Int) hn (by simp [Forks.badB, hhas])]))
      have hs : TT.toList.isEmpty = false := by
       rw [hhas] at hTe
       cases h : TT.toList.isEmpty
       ·rfl
       ·rw [List.isEmpty_iff, ByteArray.toList_eq] at h
        have h0 : TT.size = 0 := by rw [← list_length, h]; rfl
        exact absurd (hTe.mp h0) (by decide)
      clear hn hTe hTt hhas
      go_wp2_with fail
      refine qf.out.mono ?_
      rintro e w2 ⟨he, hf2, ho2, hk2⟩
      obtain rfl : e = .returned (.tuple #[.int .i64 (m : Int), .int .i64 0]) := he
      have st2 := HB.out w2 hf2 ho2 hk2
      obtain ⟨-, d1, -, -, -⟩ := st2.a.cells
      obtain ⟨Tb, x3, xt⟩ := HWX.out w2 st2.kw
      have G := hid (F.out w2 st2)
      clear hf2 ho2 hk2 F HB st2
      go_wp2_with fail
      go_ret
      exact G.out
     case false =>
      have hs : TT.toList.isEmpty = true := by
       rw [hhas] at hTe
       have h0 : TT.size = 0 := hTe.mpr rfl
       rw [List.isEmpty_iff, ByteArray.toList_eq]
       exact List.eq_nil_of_length_eq_zero (by rw [list_length, h0])
      cases ht : Forks.taken R (m : Int)
      case true =>
       have F := hid (fun w9 (st : AskSt FR w A X M K0 fv (.slice ar R.length cr) w9 (.slice at' T.length ct) T (nx s).2) => st.out (r := AR) (k := 2) (by rw [← HT2.out, Forks.askT_bad nx v R k T s (m : Int) hn (by simp [Forks.badB, ht])]))
       clear hn hTe hTt hhas
       go_wp2_with fail
       refine qf.out.mono ?_
       rintro e w2 ⟨he, hf2, ho2, hk2⟩
       obtain rfl : e = .returned (.tuple #[.int .i64 (m : Int), .int .i64 0]) := he
       have st2 := HB.out w2 hf2 ho2 hk2
       obtain ⟨-, d1, d2, -, -⟩ := st2.a.cells
       obtain ⟨Tb, x3, xt⟩ := HWX.out w2 st2.kw
       have qt := hid (taken_any (.slice ar R.length cr) R (m : Int) w2 HSM.out (OwnExts.at (own_keepT HR2.out st2.kw.exts)) hlR ⟨by omega, by omega⟩ _ ht)
       have ST2 := hid st2
       clear hf2 ho2 hk2 HB st2
       go_wp2_with fail
       refine qt.out.mono ?_
       rintro e w3 ⟨rfl, b3⟩
       have G := hid (F.out w3 (ST2.out.below HF.out b3))
       clear b3 F ht qt
       go_wp2_with fail
       go_ret
       exact G.out
      case false =>
       cases hcon : T.contains (m : Int)
       case true =>
        have F := hid (fun w9 (st : AskSt FR w A X M K0 fv (.slice ar R.length cr) w9 (.slice at' T.length ct) T (nx s).2) => st.out (r := AR) (k := 2) (by rw [← HT2.out, Forks.askT_bad nx v R k T s (m : Int) hn (by unfold Forks.badB; rw [hcon, Bool.or_true])]))
        clear hn hTe hTt hhas
        go_wp2_with fail
        refine qf.out.mono ?_
        rintro e w2 ⟨he, hf2, ho2, hk2⟩
        obtain rfl : e = .returned (.tuple #[.int .i64 (m : Int), .int .i64 0]) := he
        have st2 := HB.out w2 hf2 ho2 hk2
        obtain ⟨-, d1, d2, -, -⟩ := st2.a.cells
        obtain ⟨Tb, x3, xt⟩ := HWX.out w2 st2.kw
        have qt := hid (taken_any (.slice ar R.length cr) R (m : Int) w2 HSM.out (OwnExts.at (own_keepT HR2.out st2.kw.exts)) hlR ⟨by omega, by omega⟩ _ ht)
        have ST2 := hid st2
        clear hf2 ho2 hk2 HB st2
        go_wp2_with fail
        refine qt.out.mono ?_
        rintro e w3 ⟨rfl, b3⟩
        have st3 := ST2.out.below HF.out b3
        obtain ⟨-, -, -, e3, -⟩ := st3.a.cells
        have qc := hid (contains_any w3 _ _ ct T st3.t.at (by omega) (m : Int) true hcon)
        have G := hid (F.out w3 st3)
        clear b3 F ht qt st3 hcon
        go_wp2_with fail
        refine qc.out.mono ?_
        rintro e w' ⟨rfl, rfl⟩
        go_wp2_with fail
        go_ret
        exact G.out
       case false =>
        have hstep := Forks.askT_good nx v R k T s (m : Int) hn (by
         unfold Forks.badB
         rw [decide_eq_false m1, decide_eq_false m2, Int.toNat_natCast, hhas, ht, hcon]
         rfl)
        have hT3 : Hid (Forks.askT nx v R (many + 1 - (T ++ [(m : Int)]).length) (T ++ [(m : Int)]) (nx s).2 = AR) := hid (by
         rw [List.length_append, List.length_singleton, show many + 1 - (T.length + 1) = k by have := HK.out; omega, ← hstep]
         exact HT2.out)
        clear hn hTe hTt hhas hstep
        go_wp2_with fail
        refine qf.out.mono ?_
        rintro e w2 ⟨he, hf2, ho2, hk2⟩
        obtain rfl : e = .returned (.tuple #[.int .i64 (m : Int), .int .i64 0]) := he
        have st2 := HB.out w2 hf2 ho2 hk2
        obtain ⟨-, d1, d2, -, -⟩ := st2.a.cells
        obtain ⟨Tb, x3, xt⟩ := HWX.out w2 st2.kw
        have qt := hid (taken_any (.slice ar R.length cr) R (m : Int) w2 HSM.out (OwnExts.at (own_keepT HR2.out st2.kw.exts)) hlR ⟨by omega, by omega⟩ _ ht)
        have ST2 := hid st2
        clear hf2 ho2 hk2 HB st2
        go_wp2_with fail
        refine qt.out.mono ?_
        rintro e w3 ⟨rfl, b3⟩
        have st3 := ST2.out.below HF.out b3
        obtain ⟨-, -, -, e3, -⟩ := st3.a.cells
        have qc := hid (contains_any w3 _ _ ct T st3.t.at (by omega) (m : Int) false hcon)
        have ST3 := hid st3
        clear b3 ht qt st3 hcon
        go_wp2_with fail
        refine qc.out.mono ?_
        rintro e w' ⟨rfl, rfl⟩
        have bA : Below w'.heap.size w' (w'.alloc (.cells #[.int .i64 (m : Int)] 3)) := (Below.refl _ _).alloc (Nat.le_refl _) _
        have ST4 := hid (ST3.out.below HF.out bA)
        have HO4 := hid (show (w'.alloc (.cells #[.int .i64 (m : Int)] 3)).ownsRow w.heap.size 3 1 (.slice at' T.length ct) T.length (icells T) from ST4.out.t)
        have hone : ∀ u ∈ [Value.int .i64 (m : Int)], u.oneCell' = true := by
         intro u hu
         obtain rfl := List.mem_singleton.1 hu
         rfl
        have hB4 := ST4.out.only.size
        clear bA
        go_wp2_with (first | (at_builtin; refine wpList_append_own _ rfl (.tmp 79) (.tmp 81) 43 rfl w.heap.size 3 ii (.int .i64 0) 1 8 Tryz.underlying43 hii hzi hsi hbi rfl (by decide) _ T.length (icells T) rfl HO4.out ⟨w'.heap.size, 0, none⟩ 1 1 [.int .i64 (m : Int)] rfl rfl (World.news_of_block (heap_alloc_new _ _)) hone (by unfold maxLen; omega) (by omega) hB4 ?_))
        intro v' w5 hown hgrow _
        have hown2 : OwnInts w.heap.size w5 v' (T ++ [(m : Int)]) := by
         unfold OwnInts
         rw [List.length_append, icells_append]
         exact hown
        have ST5 := hid (ST4.out.push HF.out hgrow hown2)
        obtain ⟨a5, c5, hv5⟩ := hown2.slice
        have e5 : (T ++ [(m : Int)]).length = T.length + 1 := by simp
        rw [e5] at hv5
        subst hv5
        have k3 := ST5.out.2.cells.2.2.2.1
        have kf := ST5.out.2.cells.2.2.2.2 3
        have k9 := hid ST5.out.1.a.cells.2.2.2.1
        clear hown hgrow hown2 HO4 ST4 e5
        go_wp2_with fail
        go_roundw
        case rel => exact ⟨T ++ [(m : Int)], _, _, by simp, by simp; omega, by have := HC3.out; have := hstp.out; rw [List.length_append, List.length_singleton]; omega, hid ⟨ST5.out.1, hT3.out⟩⟩
        case measure =>
         rw [k9.out, c3]
         have := HK.out
         simp [sliceLen]
         omega
   ·have g1 : ¬ (T.length : Int) ≤ (many : Int) := by omega
    have h0 : many + 1 - T.length = 0 := by omega
    have hans : Forks.askT nx v R 0 T s = ((0, T), s) := rfl
    have F := hid (HS.out.out (r := AR) (k := 0) (by rw [← HT.out, h0, hans]))
    clear hans h0
    go_wp2_with fail
    go_ret
    exact F.out
end Go.Proofs.YtgjmeeiejcbjfaaGreat
