/- Forks: asking where there is nobody to ask; what an asking is to a Replace. -/
import Derived.Test.YtgjmeeiejcbjfaaGreatH26
set_option linter.unusedSimpArgs false
set_option linter.unusedVariables false
namespace Go.Proofs.YtgjmeeiejcbjfaaGreat
open Go.Lib (hid)
open Go Go.RowKit
theorem askT_told {S : Type} (nx : S → Option Int × S) (v : Forks.V) (R : EL) : ∀ (k : Nat) (T : IL) (s : S), (Forks.askT nx v R k T s).1.1 = 0 → ∃ D, (Forks.askT nx v R k T s).1.2 = T ++ D ∧ D.length = k ∧ (∀ b ∈ D, 1 ≤ b ∧ b < 4096 ∧ Forks.has v b.toNat = false ∧ Forks.taken R b = false) ∧ D.Nodup ∧ ∀ b ∈ D, ¬ b ∈ T
 | 0, T, s, _ => ⟨[], by simp [Forks.askT], rfl, (fun b h => by cases h), List.nodup_nil, (fun b h => by cases h)⟩
 | k + 1, T, s, h => by
  cases hn : (nx s).1 with
  | none => rw [Forks.askT_none nx v R k T s hn] at h; dsimp only at h; omega
  | some b =>
   cases hb : Forks.badB v R T b
   ·rw [Forks.askT_good nx v R k T s b hn hb] at h ⊢
    obtain ⟨D, h1, h2, h3, h4, h5⟩ := askT_told nx v R k _ _ h
    unfold Forks.badB at hb
    simp only [Bool.or_eq_false_iff, decide_eq_false_iff_not] at hb
    obtain ⟨⟨⟨⟨b1, b2⟩, b3⟩, b4⟩, b5⟩ := hb
    have b5' : ¬ b ∈ T := fun hm => by
     rw [List.contains_iff_mem.2 hm] at b5
     cases b5
    refine ⟨b :: D, by rw [h1, List.append_assoc]; rfl, by simp [h2], fun x hx => ?_, ?_, fun x hx => ?_⟩
    ·rcases List.mem_cons.1 hx with rfl | hx
     ·exact ⟨by omega, by omega, b3, b4⟩
     ·exact h3 x hx
    ·rw [List.nodup_cons]
     exact ⟨fun hm => h5 b hm (by simp), h4⟩
    ·rcases List.mem_cons.1 hx with rfl | hx
     ·exact b5'
     ·exact fun hm => h5 x hx (by simp [hm])
   ·rw [Forks.askT_bad nx v R k T s b hn hb] at h; dsimp only at h; omega
variable {S : Type} {FR : S → World → Prop} {w0 w w' : World} {A X M K0 d : Nat} {rdv fv rv tv : Value} {v : Forks.V} {R0 R : EL} {T : IL} {s : S}
theorem fiftyFn (K0 M : Nat) (h : M < K0) : FreshFn Unit K0 M 45 #[] (fun _ => (some 50, ())) (fun _ _ => True) (fun _ => 0) :=
 ⟨.inr (.inr ⟨rfl, rfl⟩), fun s wz _ _ => (fifty_any wz).mono (by rintro e w' ⟨rfl, rfl⟩; exact ⟨rfl, trivial, .refl _ _, .refl _⟩), fun _ _ _ _ _ => trivial, fun _ => by omega, h⟩
theorem run_equalIn_nil_nil {P : Program} (w : World) (d : Nat) (t : TypeId) (ps rs : Array TypeId) (vd : Bool) (h : P.underlying t = some (.func ps rs vd)) : (Op.equalIn (d + 1) t .nilFunc .nilFunc).run P w = .ok true w := by
 simp [Op.equalIn, run_underlying h]
theorem run_equal_nil_nil {P : Program} (w : World) (t : TypeId) (ps rs : Array TypeId) (vd : Bool) (h : P.underlying t = some (.func ps rs vd)) : (Op.equal t .nilFunc .nilFunc).run P w = .ok true w := run_equalIn_nil_nil w 9999 t ps rs vd h
theorem run_nil_nil (w : World) : (binOp .eql 138 .nilFunc .nilFunc).run Tryz.prog w = .ok (.bool true) w := by
 simp [binOp, run_equal_nil_nil w _ _ _ _ Tryz.underlying138]
set_option maxRecDepth 100000 in
set_option maxHeartbeats 8000000 in
theorem asknil_any (hMK : M < K0) (many : Nat) (kv : Value) (known : IL) (w : World) (hA : AskerAt w A X .nilFunc rv (.slice none 0 0)) (hlo : K0 ≤ w.heap.size) (hloA : K0 ≤ A)
  (hW : WAtR K0 X w rdv d v R0) (hg : Forks.Good v) (hR : OwnExts K0 w rv R) (hsm : ∀ x ∈ R, SmallE x ∧ -1000000000000 ≤ x.2.1 ∧ x.2.1 ≤ 1000000000000) (hlR : R.length ≤ 1000000) (hk : IntsAt w kv known) (hlk : known.length ≤ 4096) (hm : many ≤ 1000000) :
  Calls Tryz.prog 77 #[.pointer (some ⟨A, 0, none⟩), .int .i64 (many : Int), kv] w (AskOut (fun (_ : Unit) _ => True) w A X M .nilFunc rv ((if many + 1 - (known.length + 1) = 0 then 0 else 2, 0 :: known), ())) := by
 have hF := fiftyFn K0 M hMK
 generalize hAR : (((if many + 1 - (known.length + 1) = 0 then (0 : Int) else 2, 0 :: known), ()) : (Int × IL) × Unit) = AR
 have HAR := hid hAR
 clear hAR
 have HR2 := hid hR
 have hnil := run_nil_nil
 obtain ⟨ii, hii, hzi, hsi, hbi⟩ := info_parts infoInt
 have HA := hid hA
 have HW := hid hW
 have HG := hid hg
 have HF := hid hF
 have HSM := hid hsm
 obtain ⟨ar, cr, rfl⟩ := hR.slice
 obtain ⟨c0, c1, c2, c3, cF⟩ := hA.cells
 have f3 := cF 3
 have zA := lt_of_block hA
 have bL : Below w.heap.size w (w.alloc (.cells #[.int .i64 0] 3)) := (Below.refl _ _).alloc (Nat.le_refl _) _
 have hlit : (w.alloc (.cells #[.int .i64 0] 3)).ownsRow w.heap.size 3 1 (.slice (some ⟨w.heap.size, 0, none⟩) 1 1) 1 [.int .i64 0] := World.ownsRow_lit w #[.int .i64 0] 1 (Nat.le_refl _) (by unfold maxLen; omega) rfl
 have HL := hid hlit
 have hP : Hid (∀ (w5 : World) (tv' : Value) (T' : IL), (w.alloc (.cells #[.int .i64 0] 3)).grownBy w5 (some w.heap.size) → OwnInts w.heap.size w5 tv' T' → AskSt (fun (_ : Unit) _ => True) w A X M K0 .nilFunc (.slice ar R.length cr) (w5.setCell ⟨A, 3, none⟩ tv') tv' T' () ∧ AskerAt w5 A X .nilFunc (.slice ar R.length cr) (.slice none 0 0)) := hid (fun w5 tv' T' hg5 hown5 =>
  AskSt.put HF.out (HA.out.below bL) trivial (.of_below bL) (.of_below bL) hlo hloA HL.out hg5 hown5)
 clear hA hW hg hF hR hsm cF hlit bL
 have hlt := HF.out.lt
 go_enter Tryz.func77, Tryz.ntmps77
 go_upto_region 1 with fail
 go_cut [6] from 9 to 14 (fun z wc => z = .int .i64 0 ∧ Hid (∃ tv, AskSt (fun (_ : Unit) _ => True) w A X M K0 .nilFunc (.slice ar R.length cr) wc tv (0 :: known) ()))
 case first =>
  rcases hk with ⟨rfl, rfl⟩ | ⟨b, off, cap, rfl, hkc⟩
  ·have S0 := hid (hP.out (w.alloc (.cells #[.int .i64 0] 3)) (.slice (some ⟨w.heap.size, 0, none⟩) 1 1) [0] ⟨rfl, rfl, rfl, Nat.le_refl _, fun _ _ _ => rfl⟩ HL.out)
   have k3 := S0.out.2.cells.2.2.2.1
   have kf := S0.out.2.cells.2.2.2.2 3
   clear c0 c1 c2 c3 f3
   go_wp2_with (first | (at_builtin; refine wpList_append_own_none rfl (.tmp 10) (.tmp 11) 43 rfl w.heap.size 3 ii 1 Tryz.underlying43 hii _ 1 _ rfl HL.out rfl ?_))
   go_wp2_with fail
   have S1 := hid S0.out.1
   rw [World.setCell_alloc_past (hn := zA)] at S1
   go_meet
   exact ⟨rfl, hid ⟨_, S1.out⟩⟩
  ·have hnews : ∀ j u, (icells known)[j]? = some u → (w.alloc (.cells #[.int .i64 0] 3)).cell? ((⟨b, off, none⟩ : Addr).add j) = some u := fun j u hu => by
    have e1 : (⟨b, off, none⟩ : Addr).add j = ⟨b, off + j, none⟩ := by unfold Addr.add; split <;> simp_all
    rw [e1]
    exact Lib.cell?_alloc_some _ (hkc j u hu)
   have hone : ∀ u ∈ icells known, u.oneCell' = true := by
    intro u hu
    obtain ⟨x, -, rfl⟩ := List.mem_map.1 hu
    rfl
   have hil := icells_length known
   have hil2 : (icells known).length = known.length * 1 := by omega
   clear hil hkc
   go_wp2_with (first | (at_builtin; refine wpList_append_own _ rfl (.tmp 10) (.tmp 11) 43 rfl w.heap.size 3 ii (.int .i64 0) 1 8 Tryz.underlying43 hii hzi hsi hbi rfl (by decide) _ 1 _ rfl HL.out ⟨b, off, none⟩ known.length cap (icells known) rfl hil2 hnews hone (by unfold maxLen; omega) (by omega) (by simp) ?_))
   intro v' w5 hown hgrow _
   have hown2 : OwnInts w.heap.size w5 v' (0 :: known) := by
    unfold OwnInts
    rw [List.length_cons, Nat.add_comm]
    exact hown
   have S0 := hid (hP.out w5 v' (0 :: known) hgrow hown2)
   have k3 := S0.out.2.cells.2.2.2.1
   have kf := S0.out.2.cells.2.2.2.2 3
   obtain ⟨a5, c5, rfl⟩ := hown2.slice
   clear hown hgrow hown2 hnews c0 c1 c2 c3 f3
   go_wp2_with fail
   go_meet
   exact ⟨rfl, hid ⟨_, S0.out.1⟩⟩
 obtain ⟨rfl, hS0⟩ := hcut
 clear hP HL c0 c1 c2 c3 f3 hk
 go_wp2_with fail
 have g1 : (known.length : Int) < many ∨ ¬ (known.length : Int) < many := by omega
 go_loopw [] (fun wr => Hid (∃ tv, AskSt (fun (_ : Unit) _ => True) w A X M K0 .nilFunc (.slice ar R.length cr) wr tv (0 :: known) ())) (fun _ => 0)
 case atStart => exact hS0
 case round =>
  obtain ⟨tv, hask⟩ := hrel.out
  obtain ⟨c0, c1, c2, c3, cF⟩ := hask.a.cells
  obtain ⟨at', ct, rfl⟩ := hask.t.slice
  have HS := hid hask
  have hl : (0 :: known).length = known.length + 1 := rfl
  rw [hl] at c3
  clear cF hask hrel hS0
  by_cases hgo : known.length + 1 ≤ many
  ·have g2 : ((known.length + 1 : Nat) : Int) ≤ (many : Int) := by omega
   have F := hid (HS.out.out (r := AR) (k := 2) (by rw [← HAR.out, if_neg (by omega)]))
   clear g1
   go_wp2_with fail
   go_ret
   exact F.out
  ·have g2 : ¬ ((known.length + 1 : Nat) : Int) ≤ (many : Int) := by omega
   have F := hid (HS.out.out (r := AR) (k := 0) (by rw [← HAR.out, if_pos (by omega)]))
   clear g1
   go_wp2_with fail
   go_ret
   exact F.out
structure AskFn (S : Type) (K0 M : Nat) (fv : Value) (FR : S → World → Prop) (s0 : S) (ak : Forks.V → EL → Nat → IL → (Int × IL) × S) : Prop where
 call : ∀ {A X d : Nat} {rdv rv kv : Value} {v : Forks.V} {R0 R : EL} {known : IL} {w : World} (many : Nat), FR s0 w → AskerAt w A X fv rv (.slice none 0 0) → K0 ≤ w.heap.size → K0 ≤ A → WAtR K0 X w rdv d v R0 → Forks.Good v → OwnExts K0 w rv R → (∀ x ∈ R, SmallE x ∧ -1000000000000 ≤ x.2.1 ∧ x.2.1 ≤ 1000000000000) → R.length ≤ 1000000 → IntsAt w kv known → known.length ≤ 4096 → many ≤ 1000000 →
  Calls Tryz.prog 77 #[.pointer (some ⟨A, 0, none⟩), .int .i64 (many : Int), kv] w (AskOut FR w A X M fv rv (ak v R (many + 1 - (known.length + 1)) (0 :: known)))
 good : ∀ v R k T, (ak v R k T).1.1 = 0 → ∃ D, (ak v R k T).1.2 = T ++ D ∧ D.length = k ∧ (∀ b ∈ D, 1 ≤ b ∧ b < 4096 ∧ Forks.has v b.toNat = false ∧ Forks.taken R b = false) ∧ D.Nodup ∧ ∀ b ∈ D, ¬ b ∈ T
 keep : ∀ s wz wz', FR s wz → Below K0 wz wz' → FR s wz'
 lt : M < K0
theorem FreshFn.ask {fn : Nat} {bnd : Array Value} {nx : S → Option Int × S} {cnt : S → Nat} (hF : FreshFn S K0 M fn bnd nx FR cnt) (s0 : S) (hc : cnt s0 ≤ 900000) : AskFn S K0 M (.func (.func fn) bnd #[]) FR s0 (fun v R k T => Forks.askT nx v R k T s0) :=
 ⟨fun many hs hA hlo hloA hW hg hR hsm hlR hk hlk hm => ask_any hF s0 many _ _ _ hs hA hlo hloA hW hg hR hsm hlR hk hlk hm hc, fun v R k T h => askT_told nx v R k T s0 h, hF.keep, hF.lt⟩
theorem nilAsk (K0 M : Nat) (h : M < K0) : AskFn Unit K0 M .nilFunc (fun _ _ => True) () (fun _ _ k T => ((if k = 0 then 0 else 2, T), ())) :=
 ⟨fun many hs hA hlo hloA hW hg hR hsm hlR hk hlk hm => asknil_any h many _ _ _ hA hlo hloA hW hg hR hsm hlR hk hlk hm, (fun v R k T hk => by
  dsimp only at hk ⊢
  split at hk
  ·rename_i h0
   exact ⟨[], by simp, h0.symm, (fun b h => by cases h), List.nodup_nil, (fun b h => by cases h)⟩
  ·cases hk), fun _ _ _ _ _ => trivial, h⟩
end Go.Proofs.YtgjmeeiejcbjfaaGreat
namespace Go.Proofs.YtgjmeeiejcbjfaaGreat
open Go.Lib (hid)
open Go Go.RowKit
def IntsBel (K0 O : Nat) (w : World) (v : Value) (l : IL) : Prop :=
 (v = .slice none 0 0 ∧ l = []) ∨ ∃ b off cap, v = .slice (some ⟨b, off, none⟩) l.length cap ∧ ∀ j u, (icells l)[j]? = some u → b < K0 ∧ b ≠ O ∧ w.cell? ⟨b, off + j, none⟩ = some u
theorem IntsBel.at {K0 O : Nat} {w : World} {v : Value} {l : IL} (h : IntsBel K0 O w v l) : IntsAt w v l := by
 rcases h with h | ⟨b, off, cap, h1, h2⟩
 ·exact .inl h
 ·exact .inr ⟨b, off, cap, h1, fun j u hu => (h2 j u hu).2.2⟩
theorem IntsBel.below {K0 O : Nat} {w w' : World} {v : Value} {l : IL} (h : IntsBel K0 O w v l) (hb : Below K0 w w') : IntsBel K0 O w' v l := by
 rcases h with h | ⟨b, off, cap, h1, h2⟩
 ·exact .inl h
 ·exact .inr ⟨b, off, cap, h1, fun j u hu => ⟨(h2 j u hu).1, (h2 j u hu).2.1, (hb.cell (p := ⟨b, off + j, none⟩) (h2 j u hu).1).trans (h2 j u hu).2.2⟩⟩
theorem IntsBel.only {K0 O : Nat} {w w' : World} {v : Value} {l : IL} (h : IntsBel K0 O w v l) (hb : OnlyM O w w') : IntsBel K0 O w' v l := by
 rcases h with h | ⟨b, off, cap, h1, h2⟩
 ·exact .inl h
 ·exact .inr ⟨b, off, cap, h1, fun j u hu => ⟨(h2 j u hu).1, (h2 j u hu).2.1, (World.cell?_of_block (hb.block b (World.block_lt_of_cell? _ _ (h2 j u hu).2.2) (h2 j u hu).2.1)).trans (h2 j u hu).2.2⟩⟩
theorem IntsAt.bel {K0 O B : Nat} {w w' : World} {v : Value} {l : IL} (h : IntsAt w v l) (hb : Below B w w') (hB : w.heap.size ≤ B) (hO : w.heap.size ≤ O) (hK : w.heap.size ≤ K0) : IntsBel K0 O w' v l := by
 rcases h with h | ⟨b, off, cap, h1, h2⟩
 ·exact .inl h
 ·refine .inr ⟨b, off, cap, h1, fun j u hu => ?_⟩
  have hc := h2 j u hu
  have hlt : b < w.heap.size := World.block_lt_of_cell? _ _ hc
  exact ⟨by omega, by omega, (hb.cell (p := ⟨b, off + j, none⟩) (by show b < B; omega)).trans hc⟩
def nextB (us : List Bool) : Option Nat := ((List.range 4096).drop 2048).find? fun b => !(us.getD b true)
end Go.Proofs.YtgjmeeiejcbjfaaGreat
