/- JournalRound: what it wants of memory and of the log. JournalRound: the walk. -/
import Derived.Test.YtnpdhidliaahbaaGreatG41
import Derived.Test.YtnpdhidliaahbaaGreatG37
import Derived.Test.YtnpdhidliaahbaaGreatG39
import Derived.Test.YtnpdhidliaahbaaGreatG25
set_option linter.unusedSimpArgs false
set_option linter.unusedVariables false
namespace Go.Proofs.YtnpdhidliaahbaaGreat
set_option linter.unusedVariables false
open Go Go.RowKit
theorem OwnT.setCellsR {B b : Nat} {S : TypeId} {w : World} {v : Value} {ts : List Jr.Txn} {cs : List Value} (h : OwnT B w v ts) (hr : Row w b S cs) (h1 : 25 ≠ S) (h2 : 68 ≠ S) (h3 : 3 ≠ S) (vs : List Value) (o : Nat) : OwnT B (w.setCells b o vs) v ts := by
  obtain ⟨xs, k1, k2⟩ := h
  exact ⟨xs, own_setCellsR h1 vs o hr k1, k2.map (fun _ _ h => own_setCellsR h2 vs o hr h) (fun _ _ h => own_setCellsR h3 vs o hr h)⟩
theorem OwnT.slice {B : Nat} {w : World} {v : Value} {ts : List Jr.Txn} (h : OwnT B w v ts) : ∃ ad c, v = .slice ad ts.length c := by
  obtain ⟨ad, cap, rfl⟩ := h.at.form
  exact ⟨ad, cap, rfl⟩
theorem OwnT.none (B : Nat) (w : World) : OwnT B w (.slice Option.none 0 0) [] := ⟨[], ⟨rfl, .inl ⟨rfl, rfl⟩⟩, trivial⟩
/-- What an append of a transaction leaves. -/
theorem all_push {B n : Nat} {w2 w5 : World} {v c r : Value} {ys : List Value} {o : Obj} {pq : List (Value × Value)} {ts : List Jr.Txn} {t : Jr.Txn} (ho : (w2.alloc o).ownsRow B 25 2 v n ys) (hT : OwnTs B w2 pq ts) (hc : OwnC B w2 c t.ch) (hr : OwnInts B w2 r t.rv) (hgrow : (w2.alloc o).grownBy w5 v.ownBlock) : OwnTs B w5 (pq ++ [(c, r)]) (ts ++ [t]) := by
  have gC : ∀ v l, OwnC B w2 v l → OwnC B w5 v l := fun v l h => own_otherR (own_new1 h o) ho hgrow (by decide)
  have gI : ∀ v l, OwnInts B w2 v l → OwnInts B w5 v l := fun v l h => own_otherR (own_new1 h o) ho hgrow (by decide)
  exact (hT.map gC gI).snoc (gC _ _ hc) (gI _ _ hr)
theorem SysAt.belowB {Bd wb db lb b : Nat} {y : Lay} {g : Geo.G} {D : Dev} {V : LogV} {home want : List UInt8} {w w' : World} (h : SysAt Bd wb db lb y g D V home want w) (hb : Below b w w') (hS : ∀ k ∈ wb :: lb :: devB db y, k < b) : SysAt Bd wb db lb y g D V home want w' :=
  ⟨h.row.below hb (hS wb (by simp)), h.hl, h.wl, h.dev.belowB hb (fun k hk => hS k (List.mem_cons_of_mem _ (List.mem_cons_of_mem _ hk))), Row.below h.log hb (hS lb (by simp)), h.ne⟩
theorem all_grown {B b n : Nat} {w w2 w5 : World} {v : Value} {ys : List Value} {o : Obj} (ho : (w2.alloc o).ownsRow B 25 2 v n ys) (hgrow : (w2.alloc o).grownBy w5 v.ownBlock) (hb : Below b w w2) (h1 : b ≤ B) (h2 : b ≤ w2.heap.size) : Below b w w5 :=
  (hb.alloc h2 o).grown hgrow (by simp; omega) (fun j hj => by have := (World.ownsRow.lt ho j hj).1; omega)
theorem mem_sizes {t : Jr.Txn} : ∀ {l : List Jr.Txn}, t ∈ l → Jr.size t ≤ Jr.sizes l
  | x :: l, h => by
    unfold Jr.sizes
    rcases List.mem_cons.1 h with rfl | h
    · omega
    · have := mem_sizes h; omega
namespace Sys
theorem Ok.read {g : Geo.G} {D : Dev} {V : LogV} {home want : List UInt8} {at_ q K : Nat} {l : List Jr.Txn} (h : Ok g D V home want at_ q l K) : Jr.readL g D.now = some ⟨at_, q, l, Jr.sizes l⟩ :=
  (h.all.atNow h.dok.len).2.read h.may
theorem Ok.fresh {g : Geo.G} {D : Dev} {V : LogV} {home want : List UInt8} {at_ q K : Nat} {l : List Jr.Txn} (h : Ok g D V home want at_ q l K) : Ok g (Dev.fresh D.kept) V home want at_ q l K :=
  ⟨h.may, (Dev.Ok.fresh _ h.dok.kept).mono (Nat.zero_le _), h.blocks, Jr.All.same rfl h.all.atKept, h.says, h.V, h.hl, h.wl, h.num⟩
theorem Ok.rep {g : Geo.G} {D : Dev} {V : LogV} {home want : List UInt8} {at_ q K : Nat} {l : List Jr.Txn} (ho : Ok g D V home want at_ q l K) (hk : D.kept = D.now) : Rep g D want K at_ q l := by
  have hL : Lost g want want K D.now := (ho.dead want).all.atNow ho.dok.len
  obtain ⟨a, q', l', h', hh, R⟩ := replay ho.may ho.dok hk ho.blocks ho.wl ho.wl hL
  have e := R.read.symm.trans ho.read
  simp only [Option.some.injEq, Jr.Log.mk.injEq] at e
  obtain ⟨rfl, rfl, rfl, _⟩ := e
  obtain rfl : h' = want := hh.elim id id
  exact R
theorem Ok.room {g : Geo.G} {D : Dev} {V : LogV} {home want : List UInt8} {at_ q K : Nat} {l : List Jr.Txn} (ho : Ok g D V home want at_ q l K) : V.used = Jr.sizes l ∧ V.used ≤ Jr.plc g ∧ V.seq = q + l.length := by
  have h := (ho.all.atNow ho.dok.len).2.fit
  rw [ho.V]
  exact ⟨rfl, by show Jr.sizes l ≤ _; omega, rfl⟩
theorem Ok.small {g : Geo.G} {D : Dev} {V : LogV} {home want : List UInt8} {at_ q K : Nat} {l : List Jr.Txn} (ho : Ok g D V home want at_ q l K) : ∀ t ∈ l, t.ch.length ≤ 1000000000 ∧ t.rv.length ≤ 1000000000 := by
  have h1 := (ho.all.atNow ho.dok.len).2.fit
  have h2 := Jr.plc_of ho.may
  have h3 := ho.may.ok.1
  unfold Geo.asked at h3
  intro t ht
  have h4 := mem_sizes ht
  have h5 : t.rv.length ≤ 28 * Jr.cdiv t.rv.length 28 := by unfold Jr.cdiv; omega
  unfold Jr.size at h4
  omega
end Sys
end Go.Proofs.YtnpdhidliaahbaaGreat

namespace Go.Proofs.YtnpdhidliaahbaaGreat
set_option linter.unusedVariables false
open Go Go.RowKit
set_option maxRecDepth 100000 in
set_option maxHeartbeats 16000000 in
/-- The law's walk. -/
theorem JournalRound_walk (a b c : UInt8) (ax : Option Addr) (cx : Nat) (l1 : List Sys.Step) {w : World} (s1 : StepsIn w (.slice ax l1.length cx) l1) :
    Calls Tryz.prog 7 #[.agg #[bval a, bval b, bval c], .slice ax l1.length cx] w fun e w' => e = .returned (.bool true) ∧ Below w.heap.size w w' := by
  have HST := Lib.hid s1
  have hslen := s1.len
  have qM : Hid (∀ wz, StepsIn wz (.slice ax l1.length cx) l1 → Calls Tryz.prog 38 #[.slice ax l1.length cx] wz fun e w' => e = .returned (.bool (manyB l1)) ∧ Below wz.heap.size wz w') := Lib.hid (fun wz hz => manysteps_any wz hz)
  have qB := Lib.hid (fun wz => begun_any a b c wz)
  have qA := Lib.hid (fun wz => alive_any wz)
  obtain ⟨i0, hi0, hz0, hz1, hz2⟩ := info_parts infoTxn
  obtain ⟨_, hok0, harm0, hkn0⟩ := devG_ok a.toNat b.toNat c.toNat
  have HOK0 := Lib.hid hok0
  have HAR0 := Lib.hid harm0
  clear hok0 harm0 hkn0 s1
  generalize devG a.toNat b.toNat c.toNat = D0 at *
  generalize layG a.toNat b.toNat c.toNat = G at *
  generalize bval a = va at *
  generalize bval b = vb at *
  generalize bval c = vc at *
  go_enter Tryz.func7, Tryz.ntmps7
  go_upto_region 1 with fail
  have hB1 : Below w.heap.size w (w.alloc (.cells #[va, vb, vc] 54)) := below_box (Below.refl _ _) _
  have q0 : Row (w.alloc (.cells #[va, vb, vc] 54)) w.heap.size 54 [va, vb, vc] := Row.new w _ _ rfl
  have B1 := Lib.hid hB1
  have Q0 := Lib.hid q0
  have qM1 := Lib.hid (qM.out _ (HST.out.below hB1))
  clear hB1 q0
  generalize w.alloc _ = w1 at *
  by_cases hm : manyB l1 = true
  · rw [hm] at qM1
    go_wp2_with (first | (go_at_call 38; (with_reducible refine qM1.out.mono ?_); rintro e w2 ⟨rfl, hb2⟩) | fail "none")
    go_ret
    exact ⟨rfl, below_next B1.out hb2⟩
  · have hmf : manyB l1 = false := by simpa using hm
    rw [hmf] at qM1
    have HL30 := Lib.hid (manyB_len hmf)
    clear hm hmf
    go_upto_region 3 with (first | (go_at_call 38; (with_reducible refine qM1.out.mono ?_); rintro e w2 ⟨rfl, hb2⟩) | fail "none")
    have B2 := Lib.hid (below_next B1.out hb2)
    have Q02 := Lib.hid (Q0.out.below hb2 Q0.out.lt)
    clear hb2 Q0 B1 qM1 qM
    have y0 := Q02.out.cellAt 0 rfl
    have y1 := Q02.out.cellAt 1 rfl
    have y2 := Q02.out.cellAt 2 rfl
    go_upto_region 6 with (first | (go_at_call 22; (with_reducible refine (qB.out _).mono ?_); rintro e w3 ⟨wb, db, lb, y, rfl, hs3, hwb, hlb, hb3⟩) | fail "none")
    have SA3 := Lib.hid hs3
    have B3 := Lib.hid (below_next B2.out hb3)
    have HS3 : Hid (∀ k ∈ wb :: lb :: devB db y, w2.heap.size ≤ k) := Lib.hid (fun k hk => by
      have := hs3.dev.bounds
      rcases List.mem_cons.1 hk with rfl | hk
      · exact hwb
      rcases List.mem_cons.1 hk with rfl | hk
      · exact hlb
      · simp [devB] at hk; omega)
    have HSB : Hid (∀ k ∈ wb :: lb :: devB db y, k < w3.heap.size) := Lib.hid (sys_lt hs3)
    have HW2 : Hid (w.heap.size ≤ w2.heap.size) := Lib.hid B2.out.size
    have hg : Hid (Geo.May G) := Lib.hid HOK0.out.may
    have hga := hg.out.ok.1
    unfold Geo.asked at hga
    have hgl := (Jr.plc_of hg.out).2.2
    have hwL : IntKind.i64.wrap (G.log - 1) = G.log - 1 := IntWalk.i64_in _ (by omega)
    have HGA : Hid (16 ≤ G.log ∧ G.log ≤ 100000) := Lib.hid (by omega)
    clear hs3 hwb hlb hb3 y0 y1 y2 Q02 B2 qB
    go_upto_block 0 with fail
    go_cut [7, 8, 9, 10, 11, 12, 13] from 29 to 145 (fun t7 t8 t9 ta tb tc td wx => ∃ (D : Dev) (V : LogV) (home want : List UInt8) (p q : Nat) (l : List Jr.Txn) (v u8 u9 u10 u11 u12 u13 : Value), v = t7 ∧ u8 = t8 ∧ u9 = t9 ∧ u10 = ta ∧ u11 = tb ∧ u12 = tc ∧ u13 = td ∧ Hid (SysAt w2.heap.size wb db lb y G D V home want wx) ∧ Hid (Sys.Ok G D V home want p q l 13000) ∧ Hid (OwnT w3.heap.size wx v l) ∧ Hid (l.length ≤ 30) ∧ Hid (Below w.heap.size w wx) ∧ Hid (w3.heap.size ≤ wx.heap.size))
    case first =>
      go_wp2_with fail
      go_loopw [7, 8, 9, 10, 11, 12, 13] (fun t7 t8 t9 ta tb tc td wr => ∃ (j U : Nat) (v u10 u11 u12 u13 : Value) (D : Dev) (V : LogV) (home want : List UInt8) (p q : Nat) (l : List Jr.Txn), v = t7 ∧ t8 = .int .i64 (U : Int) ∧ t9 = .int .i64 (j : Int) ∧ j ≤ l1.length ∧ u10 = ta ∧ u11 = tb ∧ u12 = tc ∧ u13 = td ∧ Hid (V.used = U) ∧ Hid (l.length ≤ j) ∧ Hid (D.armed = false) ∧ Hid (SysAt w2.heap.size wb db lb y G D V home want wr) ∧ Hid (Sys.Ok G D V home want p q l (600 + 400 * j)) ∧ Hid (OwnT w3.heap.size wr v l) ∧ Hid (Below w.heap.size w wr) ∧ Hid (w3.heap.size ≤ wr.heap.size)) (fun _ _ t9 _ _ _ _ _ => l1.length - (intOf t9).toNat)
      case atStart => exact ⟨0, 0, _, _, _, _, _, _, _, _, _, _, _, _, rfl, rfl, rfl, by omega, rfl, rfl, rfl, rfl, Lib.hid rfl, Lib.hid (Nat.le_refl _), HAR0, SA3, HOK0, Lib.hid (OwnT.none _ _), B3, Lib.hid (Nat.le_refl _)⟩
      case round =>
        clear SA3 HOK0 B3 HAR0
        obtain ⟨j, U, v, u10, u11, u12, u13, D, V, home, want, p, q, l, rfl, rfl, rfl, hj, rfl, rfl, rfl, rfl, HU, HLJ, HAR, SA, HOK, OT, HB, HZ⟩ := hrel
        by_cases hlt : j < l1.length
        · have i1 : (j : Int) < (l1.length : Int) := by omega
          have k10 := SA.out.row.cellAt 10 rfl
          obtain ⟨N0, hN0⟩ : ∃ N0, V.seq = N0 := ⟨_, rfl⟩
          have HN0 := Lib.hid hN0
          have qN0 : Hid (Calls Tryz.prog 18 #[.pointer (some ⟨lb, 0, none⟩)] wr fun e w' => e = .returned (.int .u64 (N0 : Int)) ∧ w' = wr) := Lib.hid ((next_any wr SA.out.log).mono (by rintro e w' ⟨h1, h2⟩; exact ⟨by rw [← hN0]; exact h1, h2.symm⟩))
          clear hN0
          obtain ⟨gs, off, vc0, vr0, rfl, c0, c1, c2, c3, c4, hs⟩ := HST.out.at j hlt
          have C0 := Lib.hid c0
          have C1 := Lib.hid c1
          have C2 := Lib.hid c2
          have C3 := Lib.hid c3
          have C4 := Lib.hid c4
          replace c0 := below_keep HB.out (Nat.le_refl _) c0
          replace c1 := below_keep HB.out (Nat.le_refl _) c1
          replace c2 := below_keep HB.out (Nat.le_refl _) c2
          replace c3 := below_keep HB.out (Nat.le_refl _) c3
          replace c4 := below_keep HB.out (Nat.le_refl _) c4
          have HS0 := Lib.hid hs
          obtain ⟨⟨vc', vr', he, hc, hr⟩, hlc, hlr⟩ := hs
          obtain ⟨rfl, rfl⟩ : vc0 = vc' ∧ vr0 = vr' := by simpa using he
          obtain ⟨ac, cc, rfl⟩ := hc.form
          obtain ⟨ar, cr, rfl⟩ := hr.form
          clear he hc hr hlc hlr
          generalize l1.getD j step0 = x at *
          have hsz := Sys.size_txn G x
          have hrm := HOK.out.room
          obtain ⟨SZ, hSZ⟩ : ∃ SZ, Jr.size (Sys.txnT G x) = SZ := ⟨_, rfl⟩
          have HSZ := Lib.hid hSZ
          have HSL := Lib.hid (show SZ ≤ 15 by rw [← hSZ]; exact hsz)
          have HUL := Lib.hid (show U ≤ 100000 by have := HGA.out; have := HU.out; omega)
          clear hsz hrm hSZ
          have hnl : Hid ((Sys.nextT home want x).length = 12) := Lib.hid (Sys.nextT_length.trans SA.out.wl)
          have qT : Hid (∀ D V wz, SysAt w2.heap.size wb db lb y G D V home want wz → Below w.heap.size w wz → Calls Tryz.prog 39 #[.pointer (some ⟨wb, 0, none⟩), .agg #[bval x.kind, .slice ac x.change.length cc, .slice ar x.revoke.length cr, bval x.fill, .bool x.data]] wz fun e w' => TxnTold G home want x wz e w') := Lib.hid (fun D V wz hz hb => txn_any wz hz.row hz.hl hz.wl hg.out (HS0.out.below hb))
          have hcl := Sys.chTo_length G x 12
          have qSz : Hid (∀ (a1 a2 : Option Addr) (c1 c2 : Nat) wz, Calls Tryz.prog 12 #[.agg #[.slice a1 (Sys.txnT G x).ch.length c1, .slice a2 (Sys.txnT G x).rv.length c2]] wz fun e w' => e = .returned (.int .i64 (SZ : Int)) ∧ Below wz.heap.size wz w') := Lib.hid (fun a1 a2 c1 c2 wz => by
            have h := size_any a1 a2 (Sys.txnT G x).ch.length (Sys.txnT G x).rv.length c1 c2 (Nat.le_trans hcl.1 (by decide)) (Nat.le_trans hcl.2 (by decide)) wz
            have e : Jr.cdiv (Sys.txnT G x).rv.length 28 + Jr.cdiv (Sys.txnT G x).ch.length 24 + (Sys.txnT G x).ch.length + 1 = SZ := HSZ.out
            rwa [e] at h)
          clear hcl
          have HC0 : Hid (∀ wz, Below w.heap.size w wz → wz.cell? ⟨gs, off + j * 5, none⟩ = some (.int .u8 (x.kind.toNat : Int))) := Lib.hid (fun wz hz => below_keep hz (Nat.le_refl _) C0.out)
          have HC5 : Hid (∀ wz, Below w.heap.size w wz → wz.cell? ⟨gs, off + j * 5, none⟩ = some (bval x.kind) ∧ wz.cell? ⟨gs, off + j * 5 + 1, none⟩ = some (.slice ac x.change.length cc) ∧ wz.cell? ⟨gs, off + j * 5 + 2, none⟩ = some (.slice ar x.revoke.length cr) ∧ wz.cell? ⟨gs, off + j * 5 + 3, none⟩ = some (bval x.fill) ∧ wz.cell? ⟨gs, off + j * 5 + 4, none⟩ = some (.bool x.data)) := Lib.hid (fun wz hz => ⟨below_keep hz (Nat.le_refl _) C0.out, below_keep hz (Nat.le_refl _) C1.out, below_keep hz (Nat.le_refl _) C2.out, below_keep hz (Nat.le_refl _) C3.out, below_keep hz (Nat.le_refl _) C4.out⟩)
          go_upto_region 12 with (first | (go_at_call 18; (with_reducible refine qN0.out.mono ?_); rintro e w4 ⟨rfl, hw4⟩; subst w4) | fail "none")
          have qT1 := Lib.hid (qT.out _ _ _ SA.out HB.out)
          have qZ : Hid (∀ (w2 : World) (vc vr : Value), (∀ j, j < (bcells (Sys.nextT home want x)).length → (((w2.alloc (.cells #[vc, vr] 25)).alloc (.cells #[.int .u8 0, .int .u8 0, .int .u8 0, .int .u8 0, .int .u8 0, .int .u8 0, .int .u8 0, .int .u8 0, .int .u8 0, .int .u8 0, .int .u8 0, .int .u8 0] 64)).cell? ⟨(w2.heap.size + 1), 0 + j, none⟩).isSome = true) ∧ (∀ j, j < (bcells (Sys.nextT home want x)).length → ((w2.alloc (.cells #[vc, vr] 25)).alloc (.cells #[.int .u8 0, .int .u8 0, .int .u8 0, .int .u8 0, .int .u8 0, .int .u8 0, .int .u8 0, .int .u8 0, .int .u8 0, .int .u8 0, .int .u8 0, .int .u8 0] 64)).frozen? ⟨(w2.heap.size + 1), 0 + j, none⟩ = false)) := Lib.hid (fun w2 vc vr => by
            have hR := show Row ((w2.alloc (.cells #[vc, vr] 25)).alloc (.cells #[.int .u8 0, .int .u8 0, .int .u8 0, .int .u8 0, .int .u8 0, .int .u8 0, .int .u8 0, .int .u8 0, .int .u8 0, .int .u8 0, .int .u8 0, .int .u8 0] 64)) (w2.heap.size + 1) 64 (bcells (List.replicate 12 0)) from Row.new _ _ [.int .u8 0, .int .u8 0, .int .u8 0, .int .u8 0, .int .u8 0, .int .u8 0, .int .u8 0, .int .u8 0, .int .u8 0, .int .u8 0, .int .u8 0, .int .u8 0] (by simp)
            exact ⟨hR.segSome (by rw [bcells_length, bcells_length, hnl.out]; decide), hR.segFree (by rw [bcells_length, bcells_length, hnl.out]; decide)⟩)
          go_upto_region 13 with (first | (go_at_call 39; (with_reducible refine qT1.out.mono ?_); rintro e wt ⟨vc, vr, vd, rfl, hc2, hi2, hd2, hb2⟩; obtain ⟨acx, ccx, rfl⟩ := OwnC.slice hc2; obtain ⟨arx, crx, rfl⟩ := OwnInts.slice hi2; obtain ⟨adx, cdx, rfl⟩ := OwnC.slice hd2; have SZZ := Lib.hid (qZ.out wt (.slice acx (Sys.txnT G x).ch.length ccx) (.slice arx (Sys.txnT G x).rv.length crx))) | refine wpList_store_seg rfl _ _ _ rfl (wt.heap.size + 1) 0 (bcells (Sys.nextT home want x)) rfl rfl (by rw [bcells_length, hnl.out]; kernel_rfl) SZZ.out.1 SZZ.out.2 (bcells_one _) ?_ | fail "none")
          have RZ : Row ((wt.alloc (.cells #[.slice acx (Sys.txnT G x).ch.length ccx, .slice arx (Sys.txnT G x).rv.length crx] 25)).alloc (.cells #[.int .u8 0, .int .u8 0, .int .u8 0, .int .u8 0, .int .u8 0, .int .u8 0, .int .u8 0, .int .u8 0, .int .u8 0, .int .u8 0, .int .u8 0, .int .u8 0] 64)) (wt.heap.size + 1) 64 (bcells (List.replicate 12 0)) := Row.new _ _ [.int .u8 0, .int .u8 0, .int .u8 0, .int .u8 0, .int .u8 0, .int .u8 0, .int .u8 0, .int .u8 0, .int .u8 0, .int .u8 0, .int .u8 0, .int .u8 0] (by simp)
          have R6 := Lib.hid (((Row.new wt 25 [.slice acx (Sys.txnT G x).ch.length ccx, .slice arx (Sys.txnT G x).rv.length crx] rfl).alloc (.cells #[.int .u8 0, .int .u8 0, .int .u8 0, .int .u8 0, .int .u8 0, .int .u8 0, .int .u8 0, .int .u8 0, .int .u8 0, .int .u8 0, .int .u8 0, .int .u8 0] 64)).setCellsOther (g := (wt.heap.size + 1)) (by omega) (bcells (Sys.nextT home want x)) 0)
          have hszr := HZ.out
          have hls := hb2.size
          have HPS := sys_lt SA.out
          have SA4 := Lib.hid (((SA.out.below hb2).below (below_box (below_box (Below.refl _ _) (.cells #[.slice acx (Sys.txnT G x).ch.length ccx, .slice arx (Sys.txnT G x).rv.length crx] 25)) (.cells #[.int .u8 0, .int .u8 0, .int .u8 0, .int .u8 0, .int .u8 0, .int .u8 0, .int .u8 0, .int .u8 0, .int .u8 0, .int .u8 0, .int .u8 0, .int .u8 0] 64))).newCells (b := (wt.heap.size + 1)) (by have := HPS wb (by simp); omega) (by have := HPS lb (by simp); omega) (fun h => by have := HPS _ (List.mem_cons_of_mem _ (List.mem_cons_of_mem _ h)); omega) (bcells (Sys.nextT home want x)) 0)
          have OT4 : Hid (OwnT w3.heap.size (((wt.alloc (.cells #[.slice acx (Sys.txnT G x).ch.length ccx, .slice arx (Sys.txnT G x).rv.length crx] 25)).alloc (.cells #[.int .u8 0, .int .u8 0, .int .u8 0, .int .u8 0, .int .u8 0, .int .u8 0, .int .u8 0, .int .u8 0, .int .u8 0, .int .u8 0, .int .u8 0, .int .u8 0] 64)).setCells (wt.heap.size + 1) 0 (bcells (Sys.nextT home want x))) v l) := Lib.hid ((((OT.out.below hb2).new1 _).new1 _).setCellsR RZ (by decide) (by decide) (by decide) _ _)
          have HC4 : Hid (OwnC w3.heap.size (((wt.alloc (.cells #[.slice acx (Sys.txnT G x).ch.length ccx, .slice arx (Sys.txnT G x).rv.length crx] 25)).alloc (.cells #[.int .u8 0, .int .u8 0, .int .u8 0, .int .u8 0, .int .u8 0, .int .u8 0, .int .u8 0, .int .u8 0, .int .u8 0, .int .u8 0, .int .u8 0, .int .u8 0] 64)).setCells (wt.heap.size + 1) 0 (bcells (Sys.nextT home want x))) (.slice acx (Sys.txnT G x).ch.length ccx) (Sys.txnT G x).ch) := Lib.hid (own_setCellsR (by decide) _ _ RZ (own_new1 (own_new1 (hc2.mono hszr) _) _))
          have HI4 : Hid (OwnInts w3.heap.size (((wt.alloc (.cells #[.slice acx (Sys.txnT G x).ch.length ccx, .slice arx (Sys.txnT G x).rv.length crx] 25)).alloc (.cells #[.int .u8 0, .int .u8 0, .int .u8 0, .int .u8 0, .int .u8 0, .int .u8 0, .int .u8 0, .int .u8 0, .int .u8 0, .int .u8 0, .int .u8 0, .int .u8 0] 64)).setCells (wt.heap.size + 1) 0 (bcells (Sys.nextT home want x))) (.slice arx (Sys.txnT G x).rv.length crx) (Sys.txnT G x).rv) := Lib.hid (own_setCellsR (by decide) _ _ RZ (own_new1 (own_new1 (hi2.mono hszr) _) _))
          have HD4 : Hid (OwnC w3.heap.size (((wt.alloc (.cells #[.slice acx (Sys.txnT G x).ch.length ccx, .slice arx (Sys.txnT G x).rv.length crx] 25)).alloc (.cells #[.int .u8 0, .int .u8 0, .int .u8 0, .int .u8 0, .int .u8 0, .int .u8 0, .int .u8 0, .int .u8 0, .int .u8 0, .int .u8 0, .int .u8 0, .int .u8 0] 64)).setCells (wt.heap.size + 1) 0 (bcells (Sys.nextT home want x))) (.slice adx (Sys.dataT G x).length cdx) (Sys.dataT G x)) := Lib.hid (own_setCellsR (by decide) _ _ RZ (own_new1 (own_new1 (hd2.mono hszr) _) _))
          have HBx : Below wt.heap.size wt (((wt.alloc (.cells #[.slice acx (Sys.txnT G x).ch.length ccx, .slice arx (Sys.txnT G x).rv.length crx] 25)).alloc (.cells #[.int .u8 0, .int .u8 0, .int .u8 0, .int .u8 0, .int .u8 0, .int .u8 0, .int .u8 0, .int .u8 0, .int .u8 0, .int .u8 0, .int .u8 0, .int .u8 0] 64)).setCells (wt.heap.size + 1) 0 (bcells (Sys.nextT home want x))) := ((below_box (below_box (Below.refl _ _) (.cells #[.slice acx (Sys.txnT G x).ch.length ccx, .slice arx (Sys.txnT G x).rv.length crx] 25)) (.cells #[.int .u8 0, .int .u8 0, .int .u8 0, .int .u8 0, .int .u8 0, .int .u8 0, .int .u8 0, .int .u8 0, .int .u8 0, .int .u8 0, .int .u8 0, .int .u8 0] 64)).trans ((Only.setCells (S := [(wt.heap.size + 1)]) (g := (wt.heap.size + 1)) (by simp) (bcells (Sys.nextT home want x)) 0 _).below (by simp; omega) (by intro k hk; have := List.mem_singleton.1 hk; omega)))
          have HB4 := Lib.hid (below_next (below_next HB.out hb2) HBx)
          have HZ4 := Lib.hid (show w3.heap.size ≤ (((wt.alloc (.cells #[.slice acx (Sys.txnT G x).ch.length ccx, .slice arx (Sys.txnT G x).rv.length crx] 25)).alloc (.cells #[.int .u8 0, .int .u8 0, .int .u8 0, .int .u8 0, .int .u8 0, .int .u8 0, .int .u8 0, .int .u8 0, .int .u8 0, .int .u8 0, .int .u8 0, .int .u8 0] 64)).setCells (wt.heap.size + 1) 0 (bcells (Sys.nextT home want x))).heap.size by have := HBx.size; omega)
          have HNV : Hid (∀ k, v.ownBlock = some k → k < wt.heap.size) := Lib.hid (fun k hk => by obtain ⟨xs, hx, _⟩ := OT.out; have := (World.ownsRow.lt hx k hk).2; omega)
          have HTB : Hid (w3.heap.size ≤ wt.heap.size) := Lib.hid (by omega)
          clear RZ hc2 hi2 hd2 hb2 qT1 c0 c1 c2 c3 c4 SZZ hszr hls HPS HBx SA OT HB HZ k10 qN0 qZ
          generalize World.setCells _ _ _ _ = w4 at *
          --MARK1
          have k0 := HC0.out _ HB4.out
          have hk8 := x.kind.toNat_lt
          by_cases hk : x.kind.toNat % 4 = 3
          · have hm : ((x.kind.toNat : Int)).tmod 4 = 3 := by rw [Int.tmod_eq_emod_of_nonneg (by omega)]; omega
            have hm2 : ((x.kind.toNat : Int)) % 4 = 3 := by omega
            clear hk hk8 HC5
            generalize (x.kind.toNat : Int) = K0 at *
            have k0d : w4.drew.cell? ⟨gs, off + j * 5, none⟩ = some (.int .u8 K0) := k0
            have B4d := Lib.hid (HB4.out.drew)
            refine wp_region_E (S := fun w' => w'.cell? ⟨gs, off + j * 5, none⟩ = some (.int .u8 K0)) (E := []) (by kernel_rfl) k0d (fun hHeld hCl => ?_)
            refine wpAnyE_take (i := 0) (v := .slice (some ⟨gs, off, none⟩) l1.length cx) rfl (by kernel_rfl) (by kernel_rfl) (by kernel_rfl) (by kernel_rfl) hCl (fun _ _ _ h => h) (Or.inl ⟨rfl, fun w hSw => (by (try dsimp only at hSw); go_simp)⟩) hHeld (fun hCl => ?_); (try simp only [List.getElem_toArray, List.getElem_cons_zero, Act.put, List.setIfInBounds_toArray, List.set_cons_zero, List.set_cons_succ])
            refine wpAnyE_take (i := 1) (v := .int .i64 (j : Int)) rfl (by kernel_rfl) (by kernel_rfl) (by kernel_rfl) (by kernel_rfl) hCl (fun _ _ _ h => h) (Or.inl ⟨rfl, fun w hSw => (by (try dsimp only at hSw); go_simp)⟩) hHeld (fun hCl => ?_); (try simp only [List.getElem_toArray, List.getElem_cons_succ, List.getElem_cons_zero, Act.put, List.setIfInBounds_toArray, List.set_cons_zero, List.set_cons_succ])
            refine wpAnyE_take (i := 2) (v := .pointer (some ⟨gs, off + j * 5, none⟩)) rfl (by kernel_rfl) (by kernel_rfl) (by kernel_rfl) (by kernel_rfl) hCl (fun _ _ _ h => h) (Or.inl ⟨rfl, fun w hSw => (by (try dsimp only at hSw); go_simp)⟩) hHeld (fun hCl => ?_); (try simp only [List.getElem_toArray, List.getElem_cons_succ, List.getElem_cons_zero, Act.put, List.setIfInBounds_toArray, List.set_cons_zero, List.set_cons_succ])
            refine wpAnyE_take (i := 3) (v := .pointer (some ⟨gs, off + j * 5, none⟩)) rfl (by kernel_rfl) (by kernel_rfl) (by kernel_rfl) (by kernel_rfl) hCl (fun _ _ _ h => h) (Or.inl ⟨rfl, fun w hSw => (by (try dsimp only at hSw); go_simp)⟩) hHeld (fun hCl => ?_); (try simp only [List.getElem_toArray, List.getElem_cons_succ, List.getElem_cons_zero, Act.put, List.setIfInBounds_toArray, List.set_cons_zero, List.set_cons_succ])
            refine wpAnyE_take (i := 4) (v := .int .u8 K0) rfl (by kernel_rfl) (by kernel_rfl) (by kernel_rfl) (by kernel_rfl) hCl (fun _ _ _ h => h) (Or.inl ⟨rfl, fun w hSw => (by (try dsimp only at hSw); go_simp)⟩) hHeld (fun hCl => ?_); (try simp only [List.getElem_toArray, List.getElem_cons_succ, List.getElem_cons_zero, Act.put, List.setIfInBounds_toArray, List.set_cons_zero, List.set_cons_succ])
            refine wpAnyE_take (i := 5) (v := .int .u8 3) rfl (by kernel_rfl) (by kernel_rfl) (by kernel_rfl) (by kernel_rfl) hCl (fun _ _ _ h => h) (Or.inl ⟨rfl, fun w hSw => (by (try dsimp only at hSw); go_simp)⟩) hHeld (fun hCl => ?_); (try simp only [List.getElem_toArray, List.getElem_cons_succ, List.getElem_cons_zero, Act.put, List.setIfInBounds_toArray, List.set_cons_zero, List.set_cons_succ])
            refine wpAnyE_take (i := 6) (v := .bool true) rfl (by kernel_rfl) (by kernel_rfl) (by kernel_rfl) (by kernel_rfl) hCl (fun _ _ _ h => h) (Or.inl ⟨rfl, fun w hSw => (by (try dsimp only at hSw); go_simp)⟩) hHeld (fun hCl => ?_); (try simp only [List.getElem_toArray, List.getElem_cons_succ, List.getElem_cons_zero, Act.put, List.setIfInBounds_toArray, List.set_cons_zero, List.set_cons_succ])
            refine wpAnyE_take (i := 7) (v := .bool true) rfl (by kernel_rfl) (by kernel_rfl) (by kernel_rfl) (by kernel_rfl) hCl (fun _ _ _ h => h) (Or.inl ⟨rfl, fun w hSw => (by (try dsimp only at hSw); go_simp)⟩) hHeld (fun hCl => ?_); (try simp only [List.getElem_toArray, List.getElem_cons_succ, List.getElem_cons_zero, Act.put, List.setIfInBounds_toArray, List.set_cons_zero, List.set_cons_succ])
            refine wpAnyE_take (i := 8) (v := undef) rfl (by kernel_rfl) (by kernel_rfl) (by kernel_rfl) (by kernel_rfl) hCl (fun _ _ _ h => h) (Or.inr ⟨by rfl, rfl⟩) hHeld (fun hCl => ?_); (try simp only [List.getElem_toArray, List.getElem_cons_succ, List.getElem_cons_zero, Act.put, List.setIfInBounds_toArray, List.set_cons_zero, List.set_cons_succ])
            refine wpAnyE_take (i := 10) (v := undef) rfl (by kernel_rfl) (by kernel_rfl) (by kernel_rfl) (by kernel_rfl) hCl (fun _ _ _ h => h) (Or.inr ⟨by rfl, rfl⟩) hHeld (fun hCl => ?_); (try simp only [List.getElem_toArray, List.getElem_cons_succ, List.getElem_cons_zero, Act.put, List.setIfInBounds_toArray, List.set_cons_zero, List.set_cons_succ])
            refine wpAnyE_take (i := 11) (v := undef) rfl (by kernel_rfl) (by kernel_rfl) (by kernel_rfl) (by kernel_rfl) hCl (fun _ _ _ h => h) (Or.inr ⟨by rfl, rfl⟩) hHeld (fun hCl => ?_); (try simp only [List.getElem_toArray, List.getElem_cons_succ, List.getElem_cons_zero, Act.put, List.setIfInBounds_toArray, List.set_cons_zero, List.set_cons_succ])
            refine wpAnyE_take (i := 12) (v := undef) rfl (by kernel_rfl) (by kernel_rfl) (by kernel_rfl) (by kernel_rfl) hCl (fun _ _ _ h => h) (Or.inr ⟨by rfl, rfl⟩) hHeld (fun hCl => ?_); (try simp only [List.getElem_toArray, List.getElem_cons_succ, List.getElem_cons_zero, Act.put, List.setIfInBounds_toArray, List.set_cons_zero, List.set_cons_succ])
            refine wpAnyE_take (i := 13) (v := undef) rfl (by kernel_rfl) (by kernel_rfl) (by kernel_rfl) (by kernel_rfl) hCl (fun _ _ _ h => h) (Or.inr ⟨by rfl, rfl⟩) hHeld (fun hCl => ?_); (try simp only [List.getElem_toArray, List.getElem_cons_succ, List.getElem_cons_zero, Act.put, List.setIfInBounds_toArray, List.set_cons_zero, List.set_cons_succ])
            refine wpAnyE_ready (rs := [9]) (by kernel_rfl) (by simp) ?_; refine NextE.cons rfl (fun K hK => ?_) NextE.nil
            refine ite_not (by intro h; exact Bool.noConfusion (show false = true from h)) ?_
            refine hK.out _ _ (fun _ => k0d) (fun hHeld => ?_); replace hHeld := hHeld rfl; have hCl := hCl.step (j := 9) (by decide +kernel); clear hK K; (try simp only [List.getElem_toArray, List.getElem_cons_succ, List.getElem_cons_zero, Act.put, List.setIfInBounds_toArray, List.set_cons_zero, List.set_cons_succ])
            refine wpAnyE_ready (rs := [14]) (by kernel_rfl) (by simp) ?_; refine NextE.cons rfl (fun K hK => ?_) NextE.nil
            refine ite_not (by intro h; exact Bool.noConfusion (show false = true from h)) ?_
            refine hK.out _ _ (fun _ => k0d) (fun hHeld => ?_); replace hHeld := hHeld rfl; have hCl := hCl.step (j := 14) (by decide +kernel); clear hK K; (try simp only [List.getElem_toArray, List.getElem_cons_succ, List.getElem_cons_zero, Act.put, List.setIfInBounds_toArray, List.set_cons_zero, List.set_cons_succ])
            refine wpAnyE_take (i := 15) (v := undef) rfl (by kernel_rfl) (by kernel_rfl) (by kernel_rfl) (by kernel_rfl) hCl (fun _ _ _ h => h) (Or.inr ⟨by rfl, rfl⟩) hHeld (fun hCl => ?_); (try simp only [List.getElem_toArray, List.getElem_cons_succ, List.getElem_cons_zero, Act.put, List.setIfInBounds_toArray, List.set_cons_zero, List.set_cons_succ])
            refine wpAnyE_take (i := 16) (v := .bool true) rfl (by kernel_rfl) (by kernel_rfl) (by kernel_rfl) (by kernel_rfl) hCl (fun _ _ _ h => h) (Or.inl ⟨rfl, fun w hSw => (by (try dsimp only at hSw); go_simp)⟩) hHeld (fun hCl => ?_); (try simp only [List.getElem_toArray, List.getElem_cons_succ, List.getElem_cons_zero, Act.put, List.setIfInBounds_toArray, List.set_cons_zero, List.set_cons_succ])
            refine wpAnyE_done (by kernel_rfl) ?_ _
            clear hHeld hCl k0d k0
            have SA5 := Lib.hid (SA4.out.below (Below.drew (Below.refl _ _)))
            have HB5 := B4d
            have HZ5 : Hid (w3.heap.size ≤ w4.drew.heap.size) := HZ4
            clear SA4 OT4 HC4 HI4 HD4 HB4 HZ4 R6 B4d
            generalize w4.drew = w5 at *
            go_upto_region 14 with fail
            have k10 := SA5.out.row.cellAt 10 rfl
            have k1 := SA5.out.row.cellAt 1 rfl
            have qS : Hid (∀ wz, SysAt w2.heap.size wb db lb y G D V home want wz → Calls Tryz.prog 40 #[.pointer (some ⟨wb, 0, none⟩)] wz fun e w' => e = .returned (.int .i64 0) ∧ (∃ D' a q, D'.armed = false ∧ SysAt w2.heap.size wb db lb y G D' ⟨V.place, 0, V.seq, 0⟩ want want w' ∧ Sys.Ok G D' ⟨V.place, 0, V.seq, 0⟩ want want a q [] (600 + 400 * (j + 1))) ∧ Only (wb :: lb :: devB db y) wz w') := Lib.hid (fun wz hz => by
              refine (settle_any hz HOK.out (by have := HL30.out; omega)).mono ?_
              rintro e w' ⟨⟨rfl, D', a, q, h1, h2, h3⟩ | ⟨_, h2, _⟩, ho⟩
              · exact ⟨rfl, ⟨D', a, q, h1.trans HAR.out, h2, h3.mono (by omega)⟩, ho⟩
              · rw [HAR.out] at h2; cases h2)
            have SA5d : Hid (SysAt w2.heap.size wb db lb y G D V home want w5.drew) := Lib.hid (SA5.out.below (Below.drew (Below.refl _ _)))
            have qN : Hid (∀ D V home want wz, SysAt w2.heap.size wb db lb y G D V home want wz → V.seq = N0 → Calls Tryz.prog 18 #[.pointer (some ⟨lb, 0, none⟩)] wz fun e w' => e = .returned (.int .u64 (N0 : Int)) ∧ w' = wz) := Lib.hid (fun D V home want wz hz hn => (next_any wz hz.log).mono (by rintro e w' ⟨h1, h2⟩; exact ⟨by rw [← hn]; exact h1, h2.symm⟩))
            have qR : Hid (∀ D V home want a q K wz, SysAt w2.heap.size wb db lb y G D V home want wz → Sys.Ok G D V home want a q [] K → V.used = 0 → Calls Tryz.prog 17 #[.pointer (some ⟨lb, 0, none⟩)] wz fun e w' => e = .returned (.int .i64 (G.log - 1)) ∧ Below wz.heap.size wz w') := Lib.hid (fun D V home want a q K wz hz hk hu => (room_sys hk hz.log).mono (by rintro e w' ⟨h1, h2⟩; refine ⟨?_, h2⟩; rw [h1, hu]; simp))
            go_region_held3 (fun w' => w'.cell? ⟨wb, 10, none⟩ = some (.pointer (some ⟨lb, 0, none⟩)) ∧ w'.cell? ⟨wb, 1, none⟩ = some (.int .i64 G.log))
              (first | exact ⟨k10, k1⟩ | exact ⟨SA6.row.cellAt 10 rfl, SA6.row.cellAt 1 rfl⟩ | exact ⟨SA7.row.cellAt 10 rfl, SA7.row.cellAt 1 rfl⟩)
              (first | (go_at_call 40; (with_reducible refine (qS.out _ SA5d.out).mono ?_); rintro e w6 ⟨rfl, ⟨D', a', q', har6, SA6, hok6⟩, ho6⟩) | (go_at_call 18; (with_reducible refine (qN.out _ _ _ _ _ SA6 HN0.out).mono ?_); rintro e w7 ⟨rfl, hw7⟩; subst w7) | (go_at_call 17; (with_reducible refine (qR.out _ _ _ _ _ _ _ _ SA6 hok6 rfl).mono ?_); rintro e w7 ⟨rfl, hb7⟩; have SA7 := SA6.below hb7) | fail "none")
            have HAR7 := Lib.hid har6
            have SA7h := Lib.hid SA7
            have HOK7 := Lib.hid hok6
            have ho6b : Only (wb :: lb :: devB db y) w5 w6 := ⟨ho6.os, ho6.tape, ho6.output, ho6.size, ho6.block⟩
            have HB7 := Lib.hid (below_next (HB5.out.trans (ho6b.below HB5.out.size (fun k hk => by have := HS3.out k hk; have := HW2.out; omega))) hb7)
            have HZ7 := Lib.hid (Nat.le_trans HZ5.out (Nat.le_trans ho6b.size hb7.size))
            clear SA6 SA7 har6 hok6 ho6 ho6b hb7 k10 k1 qS qN qR SA5 SA5d HB5 HZ5
            go_wp2_with fail
            go_roundw
            case rel => exact ⟨j + 1, 0, _, _, _, _, _, _, _, _, _, _, _, _, rfl, rfl, by go_num, by omega, rfl, rfl, rfl, rfl, Lib.hid rfl, Lib.hid (Nat.zero_le _), HAR7, SA7h, HOK7, Lib.hid (OwnT.none _ _), HB7, HZ7⟩
            case measure => simp [intOf]; omega
          · have hm : ((x.kind.toNat : Int)).tmod 4 = ((x.kind.toNat % 4 : Nat) : Int) := by rw [Int.tmod_eq_emod_of_nonneg (by omega)]; omega
            have hm2 : ((x.kind.toNat : Int)) % 4 = ((x.kind.toNat % 4 : Nat) : Int) := by omega
            have hne : ((((x.kind.toNat % 4 : Nat) : Int)) == 3) = false := by rw [beq_eq_false_iff_ne]; omega
            clear hk hk8
            generalize ((x.kind.toNat % 4 : Nat) : Int) = K1 at *
            generalize hK0 : (x.kind.toNat : Int) = K0 at HC0 k0 hm hm2
            have HK0 := Lib.hid hK0
            clear hK0
            have k10 := SA4.out.row.cellAt 10 rfl
            have x0 := R6.out.cellAt 0 rfl
            have x1 := R6.out.cellAt 1 rfl
            have SA4d : Hid (SysAt w2.heap.size wb db lb y G D V home want w4.drew) := Lib.hid (SA4.out.below (Below.drew (Below.refl _ _)))
            have HBd : Hid (Below w.heap.size w w4.drew) := Lib.hid HB4.out.drew
            have KEEP : Hid (∀ wz, Below w4.heap.size w4 wz → wz.cell? ⟨gs, off + j * 5, none⟩ = some (.int .u8 K0) ∧ wz.cell? ⟨wt.heap.size, 0, none⟩ = some (.slice acx (Sys.txnT G x).ch.length ccx) ∧ wz.cell? ⟨wt.heap.size, 1, none⟩ = some (.slice arx (Sys.txnT G x).rv.length crx) ∧ wz.cell? ⟨wb, 10, none⟩ = some (.pointer (some ⟨lb, 0, none⟩))) := Lib.hid (fun wz hz => by
              have r := R6.out.below hz R6.out.lt
              exact ⟨HC0.out _ (below_next HB4.out hz), r.cellAt 0 rfl, r.cellAt 1 rfl, (SA4.out.below hz).row.cellAt 10 rfl⟩)
            have s4 : Below w4.heap.size w4 w4.drew := (Below.refl _ _).drew
            have qR : Hid (∀ wz, Below w4.heap.size w4 wz → Calls Tryz.prog 17 #[.pointer (some ⟨lb, 0, none⟩)] wz fun e w' => e = .returned (.int .i64 (G.log - 1 - (U : Int))) ∧ Below wz.heap.size wz w') := Lib.hid (fun wz hz => by
              have h := room_sys HOK.out (SA4.out.below hz).log
              rwa [HU.out] at h)
            have HFIT : Hid (¬ G.log - 1 - (U : Int) < (SZ : Int) → V.used + Jr.size (Sys.txnT G x) ≤ Jr.plc G) := Lib.hid (fun h => by have := HU.out; have := HSZ.out; omega)
            by_cases hgt : G.log - 1 - (U : Int) < (SZ : Int)
            · go_region_held3 (fun w' => w'.cell? ⟨gs, off + j * 5, none⟩ = some (.int .u8 K0) ∧ w'.cell? ⟨wt.heap.size, 0, none⟩ = some (.slice acx (Sys.txnT G x).ch.length ccx) ∧ w'.cell? ⟨wt.heap.size, 1, none⟩ = some (.slice arx (Sys.txnT G x).rv.length crx) ∧ w'.cell? ⟨wb, 10, none⟩ = some (.pointer (some ⟨lb, 0, none⟩)))
                (first | exact ⟨k0, x0, x1, k10⟩ | exact KEEP.out _ s6 | exact KEEP.out _ s5)
                (first | (go_at_call 12; (with_reducible refine (qSz.out _ _ _ _ _).mono ?_); rintro e w5 ⟨rfl, hb5⟩; have s5 := below_next s4 hb5) | (go_at_call 17; (with_reducible refine (qR.out _ s5).mono ?_); rintro e w6 ⟨rfl, hb6⟩; have s6 := below_next s5 hb6) | fail "none")
              go_upto_region 14 with fail
              have SA5 := Lib.hid (SA4.out.below s6)
              have HB5 := Lib.hid (below_next HB4.out s6)
              have HZ5 := Lib.hid (Nat.le_trans HZ4.out s6.size)
              clear SA4 OT4 HC4 HI4 HD4 HB4 HZ4 R6 s4 s5 s6 k10 x0 x1 k0 SA4d HBd KEEP qR HFIT hgt hm hm2 hne HC0 HC5 HK0
              have k10 := SA5.out.row.cellAt 10 rfl
              have k1 := SA5.out.row.cellAt 1 rfl
              have qS : Hid (∀ wz, SysAt w2.heap.size wb db lb y G D V home want wz → Calls Tryz.prog 40 #[.pointer (some ⟨wb, 0, none⟩)] wz fun e w' => e = .returned (.int .i64 0) ∧ (∃ D' a q, D'.armed = false ∧ SysAt w2.heap.size wb db lb y G D' ⟨V.place, 0, V.seq, 0⟩ want want w' ∧ Sys.Ok G D' ⟨V.place, 0, V.seq, 0⟩ want want a q [] (600 + 400 * (j + 1))) ∧ Only (wb :: lb :: devB db y) wz w') := Lib.hid (fun wz hz => by
                refine (settle_any hz HOK.out (by have := HL30.out; omega)).mono ?_
                rintro e w' ⟨⟨rfl, D', a, q, h1, h2, h3⟩ | ⟨_, h2, _⟩, ho⟩
                · exact ⟨rfl, ⟨D', a, q, h1.trans HAR.out, h2, h3.mono (by omega)⟩, ho⟩
                · rw [HAR.out] at h2; cases h2)
              have SA5d : Hid (SysAt w2.heap.size wb db lb y G D V home want w6.drew) := Lib.hid (SA5.out.below (Below.drew (Below.refl _ _)))
              have qN : Hid (∀ D V home want wz, SysAt w2.heap.size wb db lb y G D V home want wz → V.seq = N0 → Calls Tryz.prog 18 #[.pointer (some ⟨lb, 0, none⟩)] wz fun e w' => e = .returned (.int .u64 (N0 : Int)) ∧ w' = wz) := Lib.hid (fun D V home want wz hz hn => (next_any wz hz.log).mono (by rintro e w' ⟨h1, h2⟩; exact ⟨by rw [← hn]; exact h1, h2.symm⟩))
              have qR : Hid (∀ D V home want a q K wz, SysAt w2.heap.size wb db lb y G D V home want wz → Sys.Ok G D V home want a q [] K → V.used = 0 → Calls Tryz.prog 17 #[.pointer (some ⟨lb, 0, none⟩)] wz fun e w' => e = .returned (.int .i64 (G.log - 1)) ∧ Below wz.heap.size wz w') := Lib.hid (fun D V home want a q K wz hz hk hu => (room_sys hk hz.log).mono (by rintro e w' ⟨h1, h2⟩; refine ⟨?_, h2⟩; rw [h1, hu]; simp))
              go_region_held3 (fun w' => w'.cell? ⟨wb, 10, none⟩ = some (.pointer (some ⟨lb, 0, none⟩)) ∧ w'.cell? ⟨wb, 1, none⟩ = some (.int .i64 G.log))
                (first | exact ⟨k10, k1⟩ | exact ⟨SA6.row.cellAt 10 rfl, SA6.row.cellAt 1 rfl⟩ | exact ⟨SA7.row.cellAt 10 rfl, SA7.row.cellAt 1 rfl⟩)
                (first | (go_at_call 40; (with_reducible refine (qS.out _ SA5d.out).mono ?_); rintro e wu ⟨rfl, ⟨D', a', q', har6, SA6, hok6⟩, ho6⟩) | (go_at_call 18; (with_reducible refine (qN.out _ _ _ _ _ SA6 HN0.out).mono ?_); rintro e wv ⟨rfl, hwv⟩; subst wv) | (go_at_call 17; (with_reducible refine (qR.out _ _ _ _ _ _ _ _ SA6 hok6 rfl).mono ?_); rintro e wv ⟨rfl, hb7⟩; have SA7 := SA6.below hb7) | fail "none")
              have HAR7 := Lib.hid har6
              have SA7h := Lib.hid SA7
              have HOK7 := Lib.hid hok6
              have ho6b : Only (wb :: lb :: devB db y) w6 wu := ⟨ho6.os, ho6.tape, ho6.output, ho6.size, ho6.block⟩
              have HB7 := Lib.hid (below_next (HB5.out.trans (ho6b.below HB5.out.size (fun k hk => by have := HS3.out k hk; have := HW2.out; omega))) hb7)
              have HZ7 := Lib.hid (Nat.le_trans HZ5.out (Nat.le_trans ho6b.size hb7.size))
              clear SA6 SA7 har6 hok6 ho6 ho6b hb7 k10 k1 qS qN qR SA5 SA5d HB5 HZ5
              go_wp2_with fail
              go_roundw
              case rel => exact ⟨j + 1, 0, _, _, _, _, _, _, _, _, _, _, _, _, rfl, rfl, by go_num, by omega, rfl, rfl, rfl, rfl, Lib.hid rfl, Lib.hid (Nat.zero_le _), HAR7, SA7h, HOK7, Lib.hid (OwnT.none _ _), HB7, HZ7⟩
              case measure => simp [intOf]; omega
            · go_region_held3 (fun w' => w'.cell? ⟨gs, off + j * 5, none⟩ = some (.int .u8 K0) ∧ w'.cell? ⟨wt.heap.size, 0, none⟩ = some (.slice acx (Sys.txnT G x).ch.length ccx) ∧ w'.cell? ⟨wt.heap.size, 1, none⟩ = some (.slice arx (Sys.txnT G x).rv.length crx) ∧ w'.cell? ⟨wb, 10, none⟩ = some (.pointer (some ⟨lb, 0, none⟩)))
                (first | exact ⟨k0, x0, x1, k10⟩ | exact KEEP.out _ s6 | exact KEEP.out _ s5)
                (first | (go_at_call 12; (with_reducible refine (qSz.out _ _ _ _ _).mono ?_); rintro e w5 ⟨rfl, hb5⟩; have s5 := below_next s4 hb5) | (go_at_call 17; (with_reducible refine (qR.out _ s5).mono ?_); rintro e w6 ⟨rfl, hb6⟩; have s6 := below_next s5 hb6) | fail "none")
              go_upto_region 17 with fail
              have hfit := Lib.hid (HFIT.out hgt)
              have SA5 := Lib.hid (SA4.out.below s6)
              have OT5 := Lib.hid (OT4.out.below s6)
              have HC5x := Lib.hid (own_below HC4.out s6)
              have HI5 := Lib.hid (own_below HI4.out s6)
              have HD5 := Lib.hid (own_below HD4.out s6)
              have HB5 := Lib.hid (below_next HB4.out s6)
              have HZ5 := Lib.hid (Nat.le_trans HZ4.out s6.size)
              have R65 := Lib.hid (R6.out.below s6 R6.out.lt)
              clear SA4 OT4 HC4 HI4 HD4 HB4 HZ4 R6 s4 s5 s6 k10 x0 x1 k0 SA4d HBd KEEP qR HFIT hgt hm hm2 hne HC0
              have k10 := SA5.out.row.cellAt 10 rfl
              have x0 := R65.out.cellAt 0 rfl
              have x1 := R65.out.cellAt 1 rfl
              obtain ⟨N1, hN1⟩ : ∃ N1, N0 + 1 = N1 := ⟨_, rfl⟩
              obtain ⟨U1, hU1⟩ : ∃ U1, U + SZ = U1 := ⟨_, rfl⟩
              have HN1 := Lib.hid hN1
              have HU1 := Lib.hid hU1
              have hwN : IntKind.u64.wrap ((N0 : Int) + 1) = (N1 : Int) := by
                have h := HOK.out.num
                have h2 := HOK.out.room.2.2
                have h3 := HN0.out
                have h4 := HL30.out
                rw [IntWalk.u64_in _ (by omega)]; omega
              have hwU : IntKind.i64.wrap ((U : Int) + (SZ : Int)) = (U1 : Int) := by
                have h1 := HUL.out
                have h2 := HSL.out
                rw [IntWalk.i64_in _ (by omega)]; omega
              have hwW : IntKind.i64.wrap (G.log - 1 - (U1 : Int)) = G.log - 1 - (U1 : Int) := by
                have h1 := HUL.out
                have h2 := HSL.out
                have h3 := HGA.out
                exact IntWalk.i64_in _ (by omega)
              clear hN1 hU1
              have HSLB : Hid (∀ k ∈ lb :: devB db y, k < w3.heap.size) := Lib.hid (fun k hk => HSB.out k (List.mem_cons_of_mem _ hk))
              have qC : Hid (∀ wz, SysAt w2.heap.size wb db lb y G D V home want wz → OwnC w3.heap.size wz (.slice acx (Sys.txnT G x).ch.length ccx) (Sys.txnT G x).ch → OwnInts w3.heap.size wz (.slice arx (Sys.txnT G x).rv.length crx) (Sys.txnT G x).rv → OwnC w3.heap.size wz (.slice adx (Sys.dataT G x).length cdx) (Sys.dataT G x) → Calls Tryz.prog 19 #[.pointer (some ⟨lb, 0, none⟩), .agg #[.slice acx (Sys.txnT G x).ch.length ccx, .slice arx (Sys.txnT G x).rv.length crx], .slice adx (Sys.dataT G x).length cdx] wz fun e w' => e = .returned (.int .i64 0) ∧ ∃ D' V', D'.armed = false ∧ V'.used = U1 ∧ V'.seq = N1 ∧ SysAt w2.heap.size wb db lb y G D' V' home want w' ∧ Sys.Ok G D' V' home (Sys.nextT home want x) p q (l ++ [Sys.txnT G x]) (600 + 400 * (j + 1)) ∧ Only (lb :: devB db y) wz w') := Lib.hid (fun wz hz h1 h2 h3 => by
                refine (commit_sys hz.dev hz.log hz.ne.2.2 HOK.out (by have := HL30.out; omega) x h1 h2 h3 hfit.out).mono ?_
                rintro e w' ⟨E, D', V', ⟨rfl, hd5, hl5, ho5⟩, ⟨rfl, harm, hV', _, hok⟩ | ⟨_, h, _⟩⟩
                · exact ⟨rfl, D', V', harm.trans HAR.out, by rw [hV']; show V.used + _ = _; rw [HU.out, HSZ.out, HU1.out], by rw [hV']; show V.seq + 1 = _; rw [HN0.out, HN1.out], ⟨ho5.row hz.row (by intro k; rcases List.mem_cons.1 k with k | k; exact hz.ne.1 k; exact hz.ne.2.1 k), hz.hl, hz.wl, hd5, hl5, hz.ne⟩, hok.mono (by omega), ho5⟩
                · rw [HAR.out] at h; cases h)
              have qN : Hid (∀ D V home want wz, SysAt w2.heap.size wb db lb y G D V home want wz → V.seq = N1 → Calls Tryz.prog 18 #[.pointer (some ⟨lb, 0, none⟩)] wz fun e w' => e = .returned (.int .u64 (N1 : Int)) ∧ w' = wz) := Lib.hid (fun D V home want wz hz hn => (next_any wz hz.log).mono (by rintro e w' ⟨h1, h2⟩; exact ⟨by rw [← hn]; exact h1, h2.symm⟩))
              have SA6d : Hid (SysAt w2.heap.size wb db lb y G D V home want w6.drew) := Lib.hid (SA5.out.below (Below.drew (Below.refl _ _)))
              have HC6d : Hid (OwnC w3.heap.size w6.drew (.slice acx (Sys.txnT G x).ch.length ccx) (Sys.txnT G x).ch) := Lib.hid (own_below HC5x.out (Below.drew (Below.refl _ _)))
              have HI6d : Hid (OwnInts w3.heap.size w6.drew (.slice arx (Sys.txnT G x).rv.length crx) (Sys.txnT G x).rv) := Lib.hid (own_below HI5.out (Below.drew (Below.refl _ _)))
              have HD6d : Hid (OwnC w3.heap.size w6.drew (.slice adx (Sys.dataT G x).length cdx) (Sys.dataT G x)) := Lib.hid (own_below HD5.out (Below.drew (Below.refl _ _)))
              have HB11N : Hid (wt.heap.size ∉ lb :: devB db y ∧ wb ≠ wt.heap.size) := Lib.hid ⟨fun hm => by have := HSLB.out _ hm; have := HTB.out; omega, by have := HSB.out wb (by simp); have := HTB.out; omega⟩
              go_region_held3 (fun w' => w'.cell? ⟨wb, 10, none⟩ = some (.pointer (some ⟨lb, 0, none⟩)) ∧ w'.cell? ⟨wt.heap.size, 0, none⟩ = some (.slice acx (Sys.txnT G x).ch.length ccx) ∧ w'.cell? ⟨wt.heap.size, 1, none⟩ = some (.slice arx (Sys.txnT G x).rv.length crx))
                (first | exact ⟨k10, x0, x1⟩ | exact ⟨SA7.row.cellAt 10 rfl, R67.cellAt 0 rfl, R67.cellAt 1 rfl⟩)
                (first | (go_at_call 19; (with_reducible refine (qC.out _ SA6d.out HC6d.out HI6d.out HD6d.out).mono ?_); rintro e w7 ⟨rfl, D', V', har7, hu7, hn7, SA7, hok7, ho7⟩; have R67 := ho7.row (Row.drew R65.out) HB11N.out.1) | (go_at_call 18; (with_reducible refine (qN.out _ _ _ _ _ SA7 hn7).mono ?_); rintro e w8 ⟨rfl, hw8⟩; subst w8) | fail "none")
              have HAR7 := Lib.hid har7
              have HU7 := Lib.hid hu7
              have SA7h := Lib.hid SA7
              have R67h := Lib.hid R67
              have HOK7 := Lib.hid hok7
              have ho7b : Only (lb :: devB db y) w6 w7 := ⟨ho7.os, ho7.tape, ho7.output, ho7.size, ho7.block⟩
              have OT7 := Lib.hid (OT5.out.only ho7b HSLB.out (Nat.le_refl _))
              have HC7 : Hid (OwnC w3.heap.size w7 (.slice acx (Sys.txnT G x).ch.length ccx) (Sys.txnT G x).ch) := Lib.hid (ho7b.belowOf HSLB.out (Nat.le_refl _) HC5x.out)
              have HI7 : Hid (OwnInts w3.heap.size w7 (.slice arx (Sys.txnT G x).rv.length crx) (Sys.txnT G x).rv) := Lib.hid (ho7b.belowOf HSLB.out (Nat.le_refl _) HI5.out)
              have HB7 := Lib.hid (HB5.out.trans (ho7b.below HB5.out.size (fun k hk => by have := HS3.out k (List.mem_cons_of_mem _ hk); have := HW2.out; omega)))
              have HZ7 := Lib.hid (Nat.le_trans HZ5.out ho7b.size)
              clear SA7 R67 har7 hu7 hn7 hok7 ho7 ho7b k10 x0 x1 qC qN SA6d HC6d HI6d HD6d SA5 OT5 HC5x HI5 HD5 HB5 HZ5 R65 hfit HSLB
              --MARK2
              obtain ⟨c0, c1, c2, c3, c4⟩ := HC5.out _ HB7.out
              have k0 := SA7h.out.row.cellAt 10 rfl
              have qT7 := Lib.hid (qT.out _ _ _ SA7h.out HB7.out)
              go_upto_region 20 with (first | (go_at_call 39; (with_reducible refine qT7.out.mono ?_); rintro e w8 ⟨vc, vr, vd, rfl, hc8, hi8, hd8, hb8⟩; obtain ⟨acy, ccy, rfl⟩ := OwnC.slice hc8; obtain ⟨ary, cry, rfl⟩ := OwnInts.slice hi8; obtain ⟨ady, cdy, rfl⟩ := OwnC.slice hd8; have SA8 := SA7h.out.below hb8; have SOw := Lib.hid (SA8.row.segSome (off := 23) (n := (bcells (Sys.nextT home want x)).length) (by rw [sysC_len SA8.hl SA8.wl, bcells_length, hnl.out]; omega)); have SFw := Lib.hid (SA8.row.segFree (off := 23) (n := (bcells (Sys.nextT home want x)).length) (by rw [sysC_len SA8.hl SA8.wl, bcells_length, hnl.out]; omega))) | refine wpList_store_seg rfl _ _ _ rfl wb 23 (bcells (Sys.nextT home want x)) rfl rfl (by rw [bcells_length, hnl.out]; kernel_rfl) SOw.out SFw.out (bcells_one _) ?_ | fail "none")
              have SA9 := Lib.hid (SA8.setWant (Sys.nextT home want x) hnl.out)
              have OT9 := Lib.hid ((OT7.out.below hb8).setCellsR SA8.row (by decide) (by decide) (by decide) (bcells (Sys.nextT home want x)) 23)
              have HC9 : Hid (OwnC w3.heap.size (w8.setCells wb 23 (bcells (Sys.nextT home want x))) (.slice acx (Sys.txnT G x).ch.length ccx) (Sys.txnT G x).ch) := Lib.hid (own_setCellsR (by decide) _ _ SA8.row (own_below HC7.out hb8))
              have HI9 : Hid (OwnInts w3.heap.size (w8.setCells wb 23 (bcells (Sys.nextT home want x))) (.slice arx (Sys.txnT G x).rv.length crx) (Sys.txnT G x).rv) := Lib.hid (own_setCellsR (by decide) _ _ SA8.row (own_below HI7.out hb8))
              have R69 := Lib.hid ((R67h.out.below hb8 R67h.out.lt).setCellsOther (g := wb) HB11N.out.2 (bcells (Sys.nextT home want x)) 23)
              have hOn : Only [wb] w8 (w8.setCells wb 23 (bcells (Sys.nextT home want x))) := Only.setCells (S := [wb]) (g := wb) (by simp) (bcells (Sys.nextT home want x)) 23 w8
              have HB9 := Lib.hid ((below_next HB7.out hb8).trans (hOn.below (below_next HB7.out hb8).size (fun k hk => by rw [List.mem_singleton.1 hk]; have := HS3.out wb (by simp); have := HW2.out; omega)))
              have HZ9 := Lib.hid (Nat.le_trans (Nat.le_trans HZ7.out hb8.size) hOn.size)
              clear SA8 hc8 hi8 hd8 hb8 hOn SOw SFw qT7 k0 c0 c1 c2 c3 c4 SA7h R67h OT7 HC7 HI7 HB7 HZ7
              generalize World.setCells _ _ _ _ = w9 at *
              --MARK3
              obtain ⟨xs, hox, hots⟩ := OT9.out
              have HOX := Lib.hid hox
              have HOTS := Lib.hid hots
              clear hox hots
              have x0 := R69.out.cellAt 0 rfl
              have x1 := R69.out.cellAt 1 rfl
              have hone : ∀ u ∈ ([.slice acx (Sys.txnT G x).ch.length ccx, .slice arx (Sys.txnT G x).rv.length crx] : List Value), u.oneCell' = true := by simp [Value.oneCell']
              have HSM : Hid (l.length + 1 ≤ maxLen ∧ (l.length + 1) * 48 ≤ 140737488355328) := Lib.hid (by have := HLJ.out; have := HL30.out; unfold maxLen; omega)
              have HZA : Hid (∀ o, w3.heap.size ≤ (w9.alloc o).heap.size) := Lib.hid (fun o => by have := HZ9.out; simp; omega)
              go_upto_region 21 with (first | (at_builtin; refine wpList_append_own _ rfl (.tmp 124) (.tmp 126) 43 rfl w3.heap.size 25 i0 (.agg #[.slice none 0 0, .slice none 0 0]) 2 48 Tryz.underlying43 hi0 hz0 hz1 hz2 rfl (by decide) _ l.length _ rfl (own_new1 HOX.out _) ⟨w9.heap.size, 0, none⟩ 1 1 [.slice acx (Sys.txnT G x).ch.length ccx, .slice arx (Sys.txnT G x).rv.length crx] rfl rfl (World.news_of_block (heap_alloc_new _ _)) hone HSM.out.1 HSM.out.2 (HZA.out _) ?_; intro v10 w10 hown10 hgrow10 _))
              have hox1 := own_new1 HOX.out (.cells #[.slice acx (Sys.txnT G x).ch.length ccx, .slice arx (Sys.txnT G x).rv.length crx] 25)
              have BG := all_grown hox1 hgrow10 (Below.refl w3.heap.size w9) (Nat.le_refl _) HZ9.out
              have SA10 := Lib.hid (SA9.out.belowB BG HSB.out)
              have R610 := Lib.hid ((R69.out.alloc (.cells #[.slice acx (Sys.txnT G x).ch.length ccx, .slice arx (Sys.txnT G x).rv.length crx] 25)).grown hgrow10 (fun he => by have := HNV.out _ he.symm; omega))
              have OT10 : Hid (OwnT w3.heap.size w10 v10 (l ++ [Sys.txnT G x])) := Lib.hid ⟨xs ++ [(.slice acx (Sys.txnT G x).ch.length ccx, .slice arx (Sys.txnT G x).rv.length crx)], by rw [List.length_append, List.length_singleton, txC_append]; exact hown10, all_push hox1 HOTS.out HC9.out HI9.out hgrow10⟩
              have HB10 := Lib.hid (HB9.out.trans (BG.mono (show w.heap.size ≤ w3.heap.size by have := HS3.out wb (by simp); have := HSB.out wb (by simp); have := HW2.out; omega)))
              have HZ10 := Lib.hid (Nat.le_trans HZ9.out BG.size)
              clear hox1 BG hown10 hgrow10 HOX HOTS x0 x1 hone HSM HZA SA9 R69 OT9 HC9 HI9 HB9 HZ9
              have x0 := R610.out.cellAt 0 rfl
              have x1 := R610.out.cellAt 1 rfl
              go_upto_region 22 with (first | (go_at_call 12; (with_reducible refine (qSz.out _ _ _ _ _).mono ?_); rintro e w11 ⟨rfl, hb11⟩) | fail "none")
              have SA11 := Lib.hid (SA10.out.below hb11)
              have OT11 := Lib.hid (OT10.out.below hb11)
              have HB11 := Lib.hid (below_next HB10.out hb11)
              have HZ11 := Lib.hid (Nat.le_trans HZ10.out hb11.size)
              clear x0 x1 hb11 SA10 OT10 HB10 HZ10 R610
              have k10 := SA11.out.row.cellAt 10 rfl
              have k1 := SA11.out.row.cellAt 1 rfl
              have s11 : Below w11.heap.size w11 w11.drew := (Below.refl _ _).drew
              have qR : Hid (∀ wz, Below w11.heap.size w11 wz → Calls Tryz.prog 17 #[.pointer (some ⟨lb, 0, none⟩)] wz fun e w' => e = .returned (.int .i64 (G.log - 1 - (U1 : Int))) ∧ Below wz.heap.size wz w') := Lib.hid (fun wz hz => by
                have h := room_sys HOK7.out (SA11.out.below hz).log
                rwa [HU7.out] at h)
              go_region_held3 (fun w' => w'.cell? ⟨wb, 10, none⟩ = some (.pointer (some ⟨lb, 0, none⟩)) ∧ w'.cell? ⟨wb, 1, none⟩ = some (.int .i64 G.log))
                (first | exact ⟨k10, k1⟩ | exact ⟨(SA11.out.below s12).row.cellAt 10 rfl, (SA11.out.below s12).row.cellAt 1 rfl⟩)
                (first | (go_at_call 17; (with_reducible refine (qR.out _ s11).mono ?_); rintro e w12 ⟨rfl, hb12⟩; have s12 := below_next s11 hb12) | fail "none")
              have SA12 := Lib.hid (SA11.out.below s12)
              have OT12 := Lib.hid (OT11.out.below s12)
              have HB12 := Lib.hid (below_next HB11.out s12)
              have HZ12 := Lib.hid (Nat.le_trans HZ11.out s12.size)
              have HLJ2 : Hid ((l ++ [Sys.txnT G x]).length ≤ j + 1) := Lib.hid (by rw [List.length_append, List.length_singleton]; have := HLJ.out; omega)
              clear s11 s12 hb12 k10 k1 SA11 OT11 HB11 HZ11 qR
              go_wp2_with fail
              go_roundw
              case rel => exact ⟨j + 1, U1, _, _, _, _, _, _, _, _, _, _, _, _, rfl, rfl, by go_num, by omega, rfl, rfl, rfl, rfl, HU7, HLJ2, HAR7, SA12, HOK7, OT12, HB12, HZ12⟩
              case measure => simp [intOf]; omega
        · have i1 : ¬ (j : Int) < (l1.length : Int) := by omega
          have HOKx := Lib.hid (HOK.out.mono (show 600 + 400 * j ≤ 13000 by have := HL30.out; omega))
          have HLx := Lib.hid (show l.length ≤ 30 by have := HL30.out; have := HLJ.out; omega)
          go_wp2_with fail
          go_meet
          exact ⟨D, V, home, want, p, q, l, _, _, _, _, _, _, _, rfl, rfl, rfl, rfl, rfl, rfl, rfl, SA, HOKx, OT, HLx, HB, HZ⟩
    case rest =>
      clear SA3 HOK0 B3 HAR0
      obtain ⟨D, V, home, want, p, q, l, v, u8, u9, u10, u11, u12, u13, rfl, rfl, rfl, rfl, rfl, rfl, rfl, SA, HOK, OT, HL, HB, HZ⟩ := hcut
      obtain ⟨av, cv, rfl⟩ := OT.out.slice
      have HWL := Lib.hid SA.out.wl
      have HHM := Lib.hid SA.out.hl
      have hszM := HOK.out.dok.kept
      have hbM := HOK.out.blocks
      have HOKF := Lib.hid HOK.out.fresh
      have HLL : Hid (∀ t ∈ l, t.ch.length ≤ 1000000000 ∧ t.rv.length ≤ 1000000000) := Lib.hid (HOK.out.small)
      have qKe : Hid (∀ wz, DevAt w2.heap.size wz db y D → Calls Tryz.prog 25 #[.pointer (some ⟨db, 0, none⟩)] wz fun e w' => e = .returned (.string (txt (cat D.kept))) ∧ Below wz.heap.size wz w') := Lib.hid (fun wz hz => kept_any hz hszM)
      obtain ⟨M, hM⟩ : ∃ M, D.kept = M := ⟨_, rfl⟩
      rw [hM] at hszM hbM qKe HOKF
      have qOp : Hid (∀ wz, Calls Tryz.prog 24 #[.string (txt (cat M))] wz fun e w' => ∃ b, e = .returned (.tuple #[.pointer (some ⟨b, 0, none⟩), .int .i64 0]) ∧ (∃ y, DevAt wz.heap.size w' b y (Dev.fresh M)) ∧ Below wz.heap.size wz w') := Lib.hid (fun wz => opendev_sys hszM (by omega))
      have z9 := SA.out.row.cellAt 9 rfl
      have HBMM := Lib.hid hbM
      clear hszM hbM hM
      go_upto_region 25 with (first | (go_at_call 25; (with_reducible refine (qKe.out _ SA.out.dev).mono ?_); rintro e w5 ⟨rfl, hb5⟩) | (go_at_call 24; (with_reducible refine (qOp.out _).mono ?_); rintro e w6 ⟨db2, rfl, ⟨y2, hd6⟩, hb6⟩) | fail "none")
      have SA5 := Lib.hid (SA.out.below hb5)
      have OT5 := Lib.hid (OT.out.below hb5)
      have HB5 := Lib.hid (below_next HB.out hb5)
      have s6 := Lib.hid hb6
      have HD6 := Lib.hid hd6
      have HDB : Hid (∀ k ∈ devB db2 y2, w5.heap.size ≤ k ∧ k < w6.heap.size) := Lib.hid (fun k hk => by have := hd6.bounds; simp [devB] at hk; omega)
      clear hb5 hb6 hd6 z9 qKe qOp SA OT HB HZ
      have qO1 : Hid (∀ wz, DevAt w5.heap.size wz db2 y2 (Dev.fresh M) → Calls Tryz.prog 16 #[.pointer (some ⟨db2, 0, none⟩), .agg (Geo.cells G)] wz fun e w' => ∃ lb, e = .returned (.tuple #[.pointer (some ⟨lb, 0, none⟩), .int .i64 0]) ∧ LogAt lb db2 G V w' ∧ wz.heap.size ≤ lb ∧ Below wz.heap.size wz w') := Lib.hid (fun wz hz => openlog_sys HOKF.out hz (by decide))
      have qR1 : Hid (∀ wz, DevAt w5.heap.size wz db2 y2 (Dev.fresh M) → Calls Tryz.prog 15 #[.pointer (some ⟨db2, 0, none⟩), .agg (Geo.cells G)] wz fun e w' => ∃ v D', e = .returned (.tuple #[v, .int .i64 0]) ∧ DevAt w5.heap.size w' db2 y2 D' ∧ Only (devB db2 y2) wz w' ∧ OwnT wz.heap.size w' v l ∧ (∃ a q K, Sys.Ok G D' ⟨a, 0, q, 0⟩ want want a q [] K)) := Lib.hid (fun wz hz => by
        refine (replay_sys (HOKF.out.rep rfl) hg.out hz HOKF.out.dok rfl HBMM.out (by decide)).mono ?_
        rintro e w' ⟨v, E, D', he, hd', ho', hc | ⟨_, _, hc, _⟩⟩
        · obtain ⟨⟨rfl, c2, c3, c4, ⟨a, q, c5⟩, _⟩, c7⟩ := hc
          exact ⟨v, D', he, hd', ho', c7, a, q, _, c5⟩
        · cases hc)
      unfold Geo.cells at qO1 qR1
      have SA6 := Lib.hid (SA5.out.below s6.out)
      have k0 := SA6.out.row.cellAt 0 rfl
      have k1 := SA6.out.row.cellAt 1 rfl
      have k2 := SA6.out.row.cellAt 2 rfl
      have k3 := SA6.out.row.cellAt 3 rfl
      have k4 := SA6.out.row.cellAt 4 rfl
      have k5 := SA6.out.row.cellAt 5 rfl
      have k6 := SA6.out.row.cellAt 6 rfl
      have k7 := SA6.out.row.cellAt 7 rfl
      have k8 := SA6.out.row.cellAt 8 rfl
      have qO6 := Lib.hid (qO1.out _ HD6.out)
      go_upto_region 28 with (first | (go_at_call 16; (with_reducible refine qO6.out.mono ?_); rintro e w7 ⟨lb2, rfl, hl7, hlb7, hb7⟩) | fail "none")
      have s7 := Lib.hid (below_next s6.out hb7)
      have SA7 := Lib.hid (SA5.out.below s7.out)
      have HD7 := Lib.hid (HD6.out.below hb7)
      have HL7 : Hid (LogAt lb2 db2 G V w7) := Lib.hid hl7
      have HLB : Hid (lb2 ∉ devB db2 y2) := Lib.hid (fun hm => by have := (HDB.out _ hm).2; omega)
      clear hb7 hl7 hlb7 qO6 qO1 SA6 HD6 k0 k1 k2 k3 k4 k5 k6 k7 k8
      have k0 := SA7.out.row.cellAt 0 rfl
      have k1 := SA7.out.row.cellAt 1 rfl
      have k2 := SA7.out.row.cellAt 2 rfl
      have k3 := SA7.out.row.cellAt 3 rfl
      have k4 := SA7.out.row.cellAt 4 rfl
      have k5 := SA7.out.row.cellAt 5 rfl
      have k6 := SA7.out.row.cellAt 6 rfl
      have k7 := SA7.out.row.cellAt 7 rfl
      have k8 := SA7.out.row.cellAt 8 rfl
      have qR7 := Lib.hid (qR1.out _ HD7.out)
      go_upto_region 29 with (first | (go_at_call 15; (with_reducible refine qR7.out.mono ?_); rintro e w8 ⟨v8, D8, rfl, hd8, ho8, hot8, hok8⟩) | fail "none")
      obtain ⟨av8, cv8, rfl⟩ := hot8.slice
      have s8 := Lib.hid (s7.out.trans (ho8.below s7.out.size (fun k hk => (HDB.out k hk).1)))
      have SA8 := Lib.hid (SA5.out.below s8.out)
      have OT8 := Lib.hid (OT5.out.below s8.out)
      have HB8 := Lib.hid (below_next HB5.out s8.out)
      have HL8 : Hid (LogAt lb2 db2 G V w8) := Lib.hid (ho8.row HL7.out HLB.out)
      have HD8 := Lib.hid hd8
      have HX8 := Lib.hid hot8
      have HOK8 := Lib.hid hok8
      clear hd8 ho8 hot8 hok8 qR7 qR1 SA7 HD7 HL7 HLB s6 s7 s8 SA5 OT5 HB5 HDB k0 k1 k2 k3 k4 k5 k6 k7 k8
      obtain ⟨RM, hRM⟩ : ∃ RM : Int, G.log - 1 - (V.used : Int) = RM := ⟨_, rfl⟩
      obtain ⟨NM, hNM⟩ : ∃ NM : Nat, V.seq = NM := ⟨_, rfl⟩
      have HRM := Lib.hid hRM
      have HNM := Lib.hid hNM
      clear hRM hNM
      have qRm : Hid (∀ lb db wz, LogAt lb db G V wz → Calls Tryz.prog 17 #[.pointer (some ⟨lb, 0, none⟩)] wz fun e w' => e = .returned (.int .i64 RM) ∧ Below wz.heap.size wz w') := Lib.hid (fun lb db wz hz => by
        have h := room_sys HOK.out hz
        rwa [HRM.out] at h)
      have qNx : Hid (∀ lb db wz, LogAt lb db G V wz → Calls Tryz.prog 18 #[.pointer (some ⟨lb, 0, none⟩)] wz fun e w' => e = .returned (.int .u64 (NM : Int)) ∧ w' = wz) := Lib.hid (fun lb db wz hz => (next_any wz hz).mono (by rintro e w' ⟨h1, h2⟩; exact ⟨by rw [← HNM.out]; exact h1, h2.symm⟩))
      have qSm : Hid (∀ wz, Below w8.heap.size w8 wz → Calls Tryz.prog 26 #[.slice av8 l.length cv8, .slice av l.length cv] wz fun e w' => e = .returned (.bool true) ∧ ∃ n, w' = wz.drewN n) := Lib.hid (fun wz hz => txns_same wz _ _ l (HX8.out.below hz).at (OT8.out.below hz).at (by have := HL.out; omega) HLL.out)
      have qHs : Hid (∀ wz, Below w8.heap.size w8 wz → Calls Tryz.prog 41 #[.pointer (some ⟨wb, 0, none⟩), .pointer (some ⟨db2, 0, none⟩), .agg (bcells want).toArray] wz fun e w' => e = .returned (.bool true) ∧ Below wz.heap.size wz w') := Lib.hid (fun wz hz => by
        obtain ⟨a, q, K, hk⟩ := HOK8.out
        have h := has_any wz (SA8.out.below hz).row (HD8.out.below hz) hg.out hk.blocks hk.atHome HWL.out HWL.out
        rwa [decide_eq_true rfl] at h)
      have KEEP : Hid (∀ wz, Below w8.heap.size w8 wz → wz.cell? ⟨wb, 10, none⟩ = some (.pointer (some ⟨lb, 0, none⟩)) ∧ wz.rangeAt wb 23 (bcells want)) := Lib.hid (fun wz hz => by
        have r := (SA8.out.below hz).row
        exact ⟨r.cellAt 10 rfl, r.wantSeg HHM.out⟩)
      have hu12 := Tryz.underlying64
      have hi12 : (Tryz.prog.info? 64).map (·.size) = some (bcells want).length := by rw [bcells_length, HWL.out]; kernel_rfl
      have KL : Hid (∀ wz, Below w8.heap.size w8 wz → LogAt lb2 db2 G V wz ∧ LogAt lb db G V wz) := Lib.hid (fun wz hz => ⟨Row.below HL8.out hz (Row.lt HL8.out), (SA8.out.below hz).log⟩)
      clear HL8 SA8 HD8 HX8 OT8 HOK8 HWL HHM HRM HNM HOK HOKF HLL
      have s8 : Below w8.heap.size w8 w8.drew := (Below.refl _ _).drew
      obtain ⟨k10, krg⟩ := KEEP.out w8 (Below.refl _ _)
      go_region_held3 (fun w' => w'.cell? ⟨wb, 10, none⟩ = some (.pointer (some ⟨lb, 0, none⟩)) ∧ w'.rangeAt wb 23 (bcells want))
        (first | exact ⟨k10, krg⟩ | exact KEEP.out _ s13 | exact KEEP.out _ s12 | exact KEEP.out _ s11 | exact KEEP.out _ s10 | exact KEEP.out _ s9)
        (first | (go_at_call 17; (with_reducible refine (qRm.out _ _ _ (KL.out _ s9).2).mono ?_); rintro e w10 ⟨rfl, hb10⟩; have s10 := below_next s9 hb10) | (go_at_call 17; (with_reducible refine (qRm.out _ _ _ (KL.out _ s8).1).mono ?_); rintro e w9 ⟨rfl, hb9⟩; have s9 := below_next s8 hb9) | (go_at_call 18; (with_reducible refine (qNx.out _ _ _ (KL.out _ s10).1).mono ?_); rintro e w11 ⟨rfl, hw11⟩; subst w11) | (go_at_call 18; (with_reducible refine (qNx.out _ _ _ (KL.out _ s10).2).mono ?_); rintro e w11 ⟨rfl, hw11⟩; subst w11) | (go_at_call 26; (with_reducible refine (qSm.out _ s10).mono ?_); rintro e w11 ⟨rfl, n11, hw11⟩; subst w11; have s11 := below_drewN s10 n11) | (go_at_call 41; (with_reducible refine (qHs.out _ s11).mono ?_); rintro e w12 ⟨rfl, hb12⟩; have s12 := below_next s11 hb12) | (go_at_call 14; (with_reducible refine (qA.out _).mono ?_); rintro e w13 ⟨rfl, hb13⟩; have s13 := below_next s12 hb13) | fail "none")
      have HB13 := Lib.hid (below_next HB8.out s13)
      clear k10 krg hu12 hi12 s8 s9 s10 s11 s12 s13 hb9 hb10 hb12 hb13 KEEP KL qHs qSm qNx qRm
      go_wp2_with fail
      go_ret
      exact ⟨rfl, HB13.out⟩
end Go.Proofs.YtnpdhidliaahbaaGreat
