/- The document's cache: Unpin, Forget, Out, Sync. -/
import Derived.Test.YtlickjaopbcanaaRefCacheC
namespace Go.Proofs.Ytlickjaopbcanaa
open Go Go.RowKit Bufs
variable {B rc rd : Nat} {w w' w1 w2 : World} {z : RLay} {D D' D1 D2 : Dev} {most k : Nat} {l l' l1 l2 : PL} {v v' v1 : Value}

/-- The buffer of a block that may be any number, and where it stands; or none. -/
theorem place_cases (h : l.Pairwise fun x y => x.b ≠ y.b) (hlt : ∀ x ∈ l, x.b < D.kept.length) (b : Int) : (∃ i x, PlaceAt l b i x ∧ bufOf l D.kept.length b = some x ∧ b = (x.b : Int) ∧ x.b < D.kept.length ∧ get l x.b = some x) ∨ (noneTo l b l.length ∧ bufOf l D.kept.length b = none ∧ ∀ j : Nat, b = (j : Int) → j < D.kept.length → get l j = none) := by
  unfold bufOf
  by_cases hb : 0 ≤ b ∧ b < D.kept.length
  · rw [if_pos hb]
    obtain ⟨j, rfl⟩ : ∃ j : Nat, b = (j : Int) := ⟨b.toNat, by omega⟩
    rw [Int.toNat_natCast]
    cases hg : get l j with
    | some x =>
      left
      obtain ⟨i, hp⟩ := place_of h hg
      have hxb := (get_some hg).2
      exact ⟨i, x, hp, rfl, by omega, by omega, by rw [hxb]; exact hg⟩
    | none =>
      right
      refine ⟨fun i y _ hy e => ?_, rfl, fun c hc _ => ?_⟩
      · exact get_none hg y (List.mem_of_getElem? hy) (by omega)
      · obtain rfl : c = j := by omega
        exact hg
  · rw [if_neg hb]
    right
    refine ⟨fun i y _ hy e => ?_, rfl, fun c hc hcn => by omega⟩
    have := hlt y (List.mem_of_getElem? hy)
    omega
theorem unpinS_some {b : Int} {x : PB} (hb : b = (x.b : Int)) (hx : x.b < D.kept.length) : unpinS D l b = turn l x.b unpin := atB_some hb hx
theorem forgetS_some {b : Int} {x : PB} (hb : b = (x.b : Int)) (hx : x.b < D.kept.length) : forgetS D l b = but l x.b := atB_some hb hx
theorem unpinS_none {b : Int} (h : ∀ j : Nat, b = (j : Int) → j < D.kept.length → get l j = none) : unpinS D l b = l := atB_none (fun j h1 h2 => turn_none (h j h1 h2))
theorem forgetS_none {b : Int} (h : ∀ j : Nat, b = (j : Int) → j < D.kept.length → get l j = none) : forgetS D l b = l := atB_none (fun j h1 h2 => but_absent (h j h1 h2))
/-- A field is written in its place. -/
theorem RGo.field {g cap : Nat} (h : RCD B w rc rd z D most l (.slice (some ⟨g, 0, none⟩) l.length cap)) {i : Nat} {x : PB} (hx : l[i]? = some x) {k : Nat} (hk : k < 4) (u : Value) (f : PB → PB) (hy : bcell (f x) = (bcell x).set k u) (hb : (f x).b = x.b) : RGo B w (w.setCell ⟨g, i * 4 + k, none⟩ u) rc rd z (.slice (some ⟨g, 0, none⟩) l.length cap) D most (turn l x.b f) := by
  rw [turn_set h.bs hx f]
  have hf := h.field hx hk u (f x) hy hb
  exact ⟨_, hf, Only.setCell w _ u (rown_v rfl), fun k hk => .inl (rown_v hk)⟩
theorem own_free4 {T : TypeId} {xs : List Value} {n g cap : Nat} (h : w.ownsRow B T 4 (.slice (some ⟨g, 0, none⟩) n cap) n xs) (k : Nat) : w.frozen? ⟨g, k, none⟩ = false := ownsRow_free1 h k

set_option maxRecDepth 100000 in
theorem runpin_any (h : RCD B w rc rd z D most l v) (hB : Buffers D.kept.length most l) (b : Int) :
    Calls Try.prog 66 #[.pointer (some ⟨rc, 0, none⟩), .int .i64 b] w fun e w' => e = .returned (.tuple #[]) ∧ RGo B w w' rc rd z v D most (unpinS D l b) := by
  have c2 := h.c2
  have hlen := h.len
  have hmo := h.most
  rcases place_cases h.bs hB.lt b with ⟨i, x, hp, _, hxb, hxn, _⟩ | ⟨hn, _, hg⟩
  · rw [unpinS_some hxb hxn]
    have hil := hp.lt
    obtain ⟨ad, cap, rfl, hf⟩ := h.form
    obtain ⟨g, rfl⟩ := hf (by omega)
    have q := Lib.hid (place_yes h b hp)
    have c3 := h.buf hp.at' 3 _ (by omega) rfl
    have z3 := own_free4 h.row (i * 4 + 3)
    have HE := Lib.hid (RGo.field h hp.at' (k := 3) (by omega) (.bool false) unpin rfl rfl)
    have i0 : (0 : Int) ≤ (i : Int) := by omega
    have i1 : (i : Int) < (l.length : Int) := by omega
    clear h hf hp hxb hxn
    generalize l.length = n at *
    go_enter Try.func66, Try.ntmps66
    go_wp2_with fail
    (with_reducible refine q.out.mono ?_)
    rintro e w2 ⟨rfl, rfl⟩
    clear q
    go_wp2_with fail
    go_end0
    exact ⟨rfl, HE.out⟩
  · rw [unpinS_none hg]
    have q := Lib.hid (place_no h b hn)
    have HE := Lib.hid (RGo.refl h)
    clear h hn
    go_enter Try.func66, Try.ntmps66
    go_wp2_with fail
    (with_reducible refine q.out.mono ?_)
    rintro e w2 ⟨rfl, rfl⟩
    clear q
    go_wp2_with fail
    go_end0
    exact ⟨rfl, HE.out⟩
/-- A buffer goes: what without answers is stored. -/
theorem with_at (h : RCD B w rc rd z D most l v) {i : Nat} {x : PB} (hat : l[i]? = some x) : Calls Try.prog 89 #[.pointer (some ⟨rc, 0, none⟩), .int .i64 i] w fun e w' => ∃ ad' m' c', e = .returned (.slice ad' m' c') ∧ w'.cell? ⟨rc, 2, none⟩ = some v ∧ w'.frozen? ⟨rc, 2, none⟩ = false ∧ RGo B w (w'.setCell ⟨rc, 2, none⟩ (.slice ad' m' c')) rc rd z v D most (but l x.b) ∧ RCD B (w'.setCell ⟨rc, 2, none⟩ (.slice ad' m' c')) rc rd z D most (but l x.b) (.slice ad' m' c') ∧ Below w.heap.size w w' := by
  refine (rwithout_any h hat).mono ?_
  rintro e w' ⟨v', rfl, hrow, hb⟩
  have h2 := h.below hb
  have hB : B ≤ w.heap.size := by have := h.own; have := h.cells.lt; omega
  obtain ⟨ad', c', rfl, _⟩ := own_opens hrow
  refine ⟨ad', _, c', rfl, h2.c2, h2.z2, RGo.row h hb hrow (but_bs' h.bs x.b) (Nat.le_trans (but_le l x.b) h.len), h2.setL (own_mono hrow hB) (fun k hk => ?_) (but_bs' h.bs x.b) (Nat.le_trans (but_le l x.b) h.len), hb⟩
  have h3 := (hrow.lt k hk).1
  have h4 := h.cells.lt
  exact ⟨by omega, fun hm => by have := (rblocks_lt h.dev k hm).2; omega⟩
set_option maxRecDepth 100000 in
theorem rforget_any (h : RCD B w rc rd z D most l v) (hB : Buffers D.kept.length most l) (b : Int) :
    Calls Try.prog 67 #[.pointer (some ⟨rc, 0, none⟩), .int .i64 b] w fun e w' => e = .returned (.tuple #[]) ∧ RGo B w w' rc rd z v D most (forgetS D l b) := by
  rcases place_cases h.bs hB.lt b with ⟨i, x, hp, _, hxb, hxn, _⟩ | ⟨hn, _, hg⟩
  · rw [forgetS_some hxb hxn]
    have q := Lib.hid (place_yes h b hp)
    have q2 := Lib.hid (with_at h hp.at')
    have i0 : (0 : Int) ≤ (i : Int) := by omega
    clear h hp hxb hxn
    go_enter Try.func67, Try.ntmps67
    go_wp2_with fail
    (with_reducible refine q.out.mono ?_)
    rintro e w2 ⟨rfl, rfl⟩
    clear q
    go_wp2_with fail
    (with_reducible refine q2.out.mono ?_)
    rintro e w2 ⟨ad', m', c', rfl, d2, dz, hR, _, _⟩
    have HR := Lib.hid hR
    clear hR q2
    go_wp2_with fail
    go_end0
    exact ⟨rfl, HR.out⟩
  · rw [forgetS_none hg]
    have q := Lib.hid (place_no h b hn)
    have HE := Lib.hid (RGo.refl h)
    clear h hn
    go_enter Try.func67, Try.ntmps67
    go_wp2_with fail
    (with_reducible refine q.out.mono ?_)
    rintro e w2 ⟨rfl, rfl⟩
    clear q
    go_wp2_with fail
    go_end0
    exact ⟨rfl, HE.out⟩
theorem outB_none {b : Int} (h : bufOf l D.kept.length b = none) : outB D l b = (0, D, l) := by unfold outB; rw [h]
theorem outB_some {b : Int} {x : PB} (h : bufOf l D.kept.length b = some x) : outB D l b = (outE D x, outD D x, outL D l x) := by unfold outB; rw [h]
set_option maxRecDepth 100000 in
set_option maxHeartbeats 4000000 in
theorem rout_any (h : RCD B w rc rd z D most l v) (hB : Buffers D.kept.length most l) (ho : D.Ok k) (hk : k ≤ 900000000000) (b : Int) :
    Calls Try.prog 68 #[.pointer (some ⟨rc, 0, none⟩), .int .i64 b] w fun e w' => e = .returned (.int .i64 (outB D l b).1) ∧ RGo B w w' rc rd z v (outB D l b).2.1 most (outB D l b).2.2 := by
  have c2 := h.c2
  have c0 := h.c0
  have hlen := h.len
  have hmo := h.most
  rcases place_cases h.bs hB.lt b with ⟨i, x, hp, hbf, hxb, hxn, hgx⟩ | ⟨hn, hbf, hg⟩
  · rw [outB_some hbf]
    dsimp only
    have hil := hp.lt
    have hxm : x ∈ l := List.mem_of_getElem? hp.at'
    obtain ⟨ad, cap, rfl, hf⟩ := h.form
    obtain ⟨g, rfl⟩ := hf (by omega)
    have q := Lib.hid (place_yes h b hp)
    have k1 := h.buf hp.at' 1 _ (by omega) rfl
    have k2 := h.buf hp.at' 2 _ (by omega) rfl
    have k3 := h.buf hp.at' 3 _ (by omega) rfl
    have i0 : (0 : Int) ≤ (i : Int) := by omega
    have i1 : (i : Int) < (l.length : Int) := by omega
    have i2 : ¬ (i : Int) < 0 := by omega
    have i3 : decide ((i : Int) < 0) = false := decide_eq_false i2
    by_cases hc : (x.dirty && !x.pinned) = true
    · have e1 : outE D x = D.writeE x.b x.data := if_pos hc
      have e2 : outD D x = D.write x.b x.data := if_pos hc
      have e3 : outL D l x = turn l x.b (soil (decide (D.writeE x.b x.data ≠ 0))) := if_pos hc
      have hd : x.dirty = true := by simp at hc; exact hc.1
      have hpn : x.pinned = false := by simp at hc; exact hc.2
      rw [hd] at k2
      rw [hpn] at k3
      have HFL : D.writeE x.b x.data ≠ 0 → outL D l x = l := fun hne => outL_fail h.bs hxm (by rw [e1]; exact hne)
      rw [e1, e2]
      have HW := Lib.hid (fun wx (hb : Below w.heap.size w wx) => rwrite_any (h.below hb).dev x.b x.data (by rw [hB.data x hxm]; omega) (by have := ho.acts; omega))
      have hsub : ∀ k ∈ [rd, z.gn, z.gp], k ∈ rblocks rd z := fun k hk => by
        simp only [List.mem_cons, List.not_mem_nil, or_false] at hk
        rcases hk with rfl | rfl | rfl <;> simp [rblocks]
      have HDT : Hid (∀ wx w2, Below w.heap.size w wx → RefAt B w2 rd z (D.write x.b x.data) → Only [rd, z.gn, z.gp] wx w2 → RCD B w2 rc rd z (D.write x.b x.data) most l (.slice (some ⟨g, 0, none⟩) l.length cap) ∧ RGo B w w2 rc rd z (.slice (some ⟨g, 0, none⟩) l.length cap) (D.write x.b x.data) most l) := Lib.hid (fun wx w2 hb h2 ho => ⟨(h.below hb).dev_turn (ho.sub hsub) h2, RGo.below hb (RGo.dev (h.below hb) ho hsub h2)⟩)
      have HST : Hid (∀ w2, RCD B w2 rc rd z (D.write x.b x.data) most l (.slice (some ⟨g, 0, none⟩) l.length cap) → w2.cell? ⟨rc, 2, none⟩ = some (.slice (some ⟨g, 0, none⟩) l.length cap) ∧ w2.frozen? ⟨g, i * 4 + 2, none⟩ = false ∧ (∃ u, w2.cell? ⟨g, i * 4 + 2, none⟩ = some u) ∧ RGo B w2 (w2.setCell ⟨g, i * 4 + 2, none⟩ (.bool false)) rc rd z (.slice (some ⟨g, 0, none⟩) l.length cap) (D.write x.b x.data) most (turn l x.b (soil false))) := Lib.hid (fun w2 h2 => ⟨h2.c2, own_free4 h2.row _, ⟨_, h2.buf hp.at' 2 _ (by omega) rfl⟩, RGo.field h2 hp.at' (k := 2) (by omega) (.bool false) (soil false) rfl rfl⟩)
      have bq : ∀ m, Below w.heap.size w ((w.drewN m).drew) := fun m => ⟨rfl, rfl, rfl, Nat.le_refl _, fun _ _ => rfl⟩
      have bq0 : Below w.heap.size w w.drew := ⟨rfl, rfl, rfl, Nat.le_refl _, fun _ _ => rfl⟩
      have BQ := Lib.hid bq
      have BQ0 := Lib.hid bq0
      subst hxb
      rw [e3] at HFL
      rw [e3]
      have HF2 := Lib.hid HFL
      clear HFL h hf hp hbf hgx hxm hB bq bq0 hsub e1 e2 e3 hc hd hpn
      obtain ⟨ee, hee⟩ : ∃ ee, D.writeE x.b x.data = ee := ⟨_, rfl⟩
      rw [hee] at HW HF2
      rw [hee]
      clear hee
      generalize D.write x.b x.data = DW at *
      generalize x.data = xs at *
      by_cases he : ee = 0
      · subst he
        have eL : turn l x.b (soil (decide ((0 : Int) ≠ 0))) = turn l x.b (soil false) := rfl
        rw [eL]
        clear HF2 eL
        generalize turn l x.b (soil false) = LT at *
        generalize x.b = xb at *
        generalize hn : l.length = n at *
        clear hn
        go_enter Try.func68, Try.ntmps68
        go_wp2_with fail
        (with_reducible refine q.out.mono ?_)
        rintro e w2 ⟨rfl, rfl⟩
        clear q
        go_wp2_with fail
        refine wp_region_still_tail 13 (by kernel_rfl) (by kernel_rfl) ?_
        simp only [List.take_succ_cons, List.take_zero, List.drop_succ_cons, List.drop_zero]
        repeat still_step
        refine wpStill_nil ?_
        change wpList _ _ _ _ _ _
        go_wp2_with fail
        refine (HW.out _ BQ0.out).mono ?_
        rintro e w4 ⟨rfl, d1, d2⟩
        obtain ⟨d3, d4⟩ := HDT.out _ _ BQ0.out d1 d2
        obtain ⟨f1, f2, ⟨u, f3⟩, f4⟩ := HST.out _ d3
        obtain ⟨v5, d5, d6, d7⟩ := d4
        have HR := Lib.hid (RGo.trans d6 (fun k hk => .inl (rown_v hk)) f4)
        clear d1 d2 d3 d5 d6 d7 f4 k1 k2 k3
        go_wp2_with fail
        go_ret
        exact ⟨rfl, HR.out⟩
      · have he2 : (ee == 0) = false := by rw [beq_eq_false_iff_ne]; exact he
        rw [HF2.out he]
        clear HF2 HST
        generalize x.b = xb at *
        generalize hn : l.length = n at *
        clear hn
        go_enter Try.func68, Try.ntmps68
        go_wp2_with fail
        (with_reducible refine q.out.mono ?_)
        rintro e w2 ⟨rfl, rfl⟩
        clear q
        go_wp2_with fail
        refine wp_region_still_tail 13 (by kernel_rfl) (by kernel_rfl) ?_
        simp only [List.take_succ_cons, List.take_zero, List.drop_succ_cons, List.drop_zero]
        repeat still_step
        refine wpStill_nil ?_
        change wpList _ _ _ _ _ _
        go_wp2_with fail
        refine (HW.out _ BQ0.out).mono ?_
        rintro e w4 ⟨rfl, d1, d2⟩
        have HR := Lib.hid (HDT.out _ _ BQ0.out d1 d2).2
        clear d1 d2 k1 k2 k3
        go_wp2_with fail
        go_ret
        exact ⟨rfl, HR.out⟩
    · have e1 : outE D x = 0 := if_neg hc
      have e2 : outD D x = D := if_neg hc
      have e3 : outL D l x = l := if_neg hc
      rw [e1, e2, e3]
      have HE := Lib.hid (RGo.refl h)
      clear h hf hp hbf hgx hxm hB e1 e2 e3 hxb hxn
      generalize x.data = xs at *
      generalize hn : l.length = n at *
      clear hn
      cases hd : x.dirty
      · rw [hd] at k2
        clear hc hd k3
        go_enter Try.func68, Try.ntmps68
        go_wp2_with fail
        (with_reducible refine q.out.mono ?_)
        rintro e w2 ⟨rfl, rfl⟩
        clear q
        go_wp2_with fail
        go_ret
        exact ⟨rfl, HE.out⟩
      · have hpn : x.pinned = true := by rw [hd] at hc; simpa using hc
        rw [hd] at k2
        rw [hpn] at k3
        clear hc hd hpn
        go_enter Try.func68, Try.ntmps68
        go_wp2_with fail
        (with_reducible refine q.out.mono ?_)
        rintro e w2 ⟨rfl, rfl⟩
        clear q
        go_wp2_with fail
        go_ret
        exact ⟨rfl, HE.out⟩
  · rw [outB_none hbf]
    have q := Lib.hid (place_no h b hn)
    have HE := Lib.hid (RGo.refl h)
    clear h hn
    go_enter Try.func68, Try.ntmps68
    go_wp2_with fail
    (with_reducible refine q.out.mono ?_)
    rintro e w2 ⟨rfl, rfl⟩
    clear q
    go_wp2_with fail
    go_ret
    exact ⟨rfl, HE.out⟩
theorem Buffers.outL {x : PB} (h : Buffers D.kept.length most l) (_hx : x ∈ l) : Buffers D.kept.length most (Go.Proofs.Ytlickjaopbcanaa.outL D l x) := by
  have hb := outL_bs D l x
  refine ⟨bs_map hb h.bs, lt_map hb h.lt, ?_, outL_all (fun s => s.size = 128) D l x h.data, ?_⟩
  · have := congrArg List.length hb
    rw [List.length_map, List.length_map] at this
    rw [this]; exact h.len
  · unfold Go.Proofs.Ytlickjaopbcanaa.outL
    split
    · intro y hy
      obtain ⟨u, hu, rfl⟩ := List.mem_map.1 hy
      by_cases e : u.b = x.b
      · rw [if_pos e]
        have := h.zero u hu
        show strip (soil _ u) = soil _ u
        conv => rhs; rw [← this]
        rfl
      · rw [if_neg e]; exact h.zero u hu
    · exact h.zero
theorem Buffers.outB (h : Buffers D.kept.length most l) (b : Int) : Buffers D.kept.length most (Go.Proofs.Ytlickjaopbcanaa.outB D l b).2.2 := by
  unfold Go.Proofs.Ytlickjaopbcanaa.outB
  rcases bufOf_find l D.kept.length b with ⟨x, h1, hx, _⟩ | ⟨h1, _⟩
  · rw [h1]; exact h.outL hx
  · rw [h1]; exact h
/-- Where a Sync stands. -/
structure RSync (n j most k0 : Nat) (D D2 : Dev) (l l2 : PL) : Prop where
  eq : syncN (n - j) j D2 l2 = syncN n 0 D l
  len : D2.kept.length = n
  ok : D2.Ok (k0 + j)
  bufs : Buffers n most l2
theorem RSync.next {n j k0 : Nat} (h : RSync n j most k0 D D2 l l2) (hj : j < n) (he : (outB D2 l2 j).1 = 0) : RSync n (j + 1) most k0 D (outB D2 l2 j).2.1 l (outB D2 l2 j).2.2 := by
  have hl := h.len
  refine ⟨?_, (outB_len _ _ _).trans hl, (h.ok.outB l2 j).mono (by omega), ?_⟩
  · rw [← h.eq, show n - j = (n - (j + 1)) + 1 by omega]
    show _ = if (Go.Proofs.Ytlickjaopbcanaa.outB D2 l2 j).1 = 0 then _ else _
    rw [if_pos he]
  · subst hl
    exact h.bufs.outB j
theorem RSync.stop {n j k0 : Nat} (h : RSync n j most k0 D D2 l l2) (hj : j < n) (he : ¬ (outB D2 l2 j).1 = 0) : syncN n 0 D l = outB D2 l2 j := by
  rw [← h.eq, show n - j = (n - (j + 1)) + 1 by omega]
  show (if (Go.Proofs.Ytlickjaopbcanaa.outB D2 l2 j).1 = 0 then _ else _) = _
  rw [if_neg he]
theorem RSync.last {n k0 : Nat} (h : RSync n n most k0 D D2 l l2) : syncN n 0 D l = (0, D2, l2) := by
  rw [← h.eq, Nat.sub_self]
  rfl
set_option maxRecDepth 100000 in
set_option maxHeartbeats 4000000 in
theorem rsync_any (h : RCD B w rc rd z D most l v) (hB : Buffers D.kept.length most l) (ho : D.Ok k) (hk : k ≤ 800000000000) :
    Calls Try.prog 69 #[.pointer (some ⟨rc, 0, none⟩)] w fun e w' => e = .returned (.int .i64 (syncN D.kept.length 0 D l).1) ∧ RGo B w w' rc rd z v (syncN D.kept.length 0 D l).2.1 most (syncN D.kept.length 0 D l).2.2 := by
  have hpos := h.dev.pos
  have h0 : Hid (RSync D.kept.length 0 most k D D l l) := Lib.hid ⟨rfl, rfl, ho, hB⟩
  have HE := Lib.hid (RGo.refl h)
  clear h hB ho
  generalize D.kept.length = n at *
  go_enter Try.func69, Try.ntmps69
  go_wp2_with fail
  go_loopw [3] (fun q wr => ∃ (j : Nat) (D2 : Dev) (L2 : PL), j ≤ n ∧ q = .int .i64 j ∧ Hid (RGo B w wr rc rd z v D2 most L2) ∧ Hid (RSync n j most k D D2 l L2)) (fun q _ => n - (intOf q).toNat)
  case atStart => exact ⟨0, D, l, by omega, rfl, HE, h0⟩
  case round =>
    obtain ⟨j, D2, L2, hj, rfl, hR, hS⟩ := hrel
    obtain ⟨v2, hC, hO, hv⟩ := hR.out
    have c0 := hC.c0
    have qb := rblocks_any hC.dev
    rw [hS.out.len] at qb
    have qb := Lib.hid qb
    by_cases hlt : j < n
    · have i1 : (j : Int) < (n : Int) := by omega
      have hbf := hS.out.bufs
      rw [← hS.out.len] at hbf
      have q2 := rout_any hC hbf hS.out.ok (by omega) (j : Int)
      have HN := Lib.hid (hS.out.next hlt)
      have HT := Lib.hid (hS.out.stop hlt)
      have HTR : Hid (∀ wx D3 l3, RGo B wr wx rc rd z v2 D3 most l3 → RGo B w wx rc rd z v D3 most l3) := Lib.hid (fun wx D3 l3 h3 => RGo.trans hO hv h3)
      clear hS hbf hC hO hv hR
      obtain ⟨ee, hee⟩ : ∃ ee, (outB D2 L2 j).1 = ee := ⟨_, rfl⟩
      have HEE := Lib.hid hee
      rw [hee] at q2
      have q2 := Lib.hid q2
      clear hee
      by_cases e0 : ee = 0
      · subst e0
        go_wp2_with fail
        (with_reducible refine qb.out.mono ?_)
        rintro e w2 ⟨rfl, rfl⟩
        clear qb
        go_wp2_with fail
        (with_reducible refine q2.out.mono ?_)
        rintro e w2 ⟨rfl, h1⟩
        have h1 := Lib.hid (HTR.out _ _ _ h1)
        clear q2
        go_wp2_with fail
        go_roundw
        case rel => exact ⟨j + 1, _, _, by omega, by go_num, h1, Lib.hid (HN.out HEE.out)⟩
        case measure => simp [intOf]; omega
      · have e1 : (ee != 0) = true := by simp [e0]
        go_wp2_with fail
        (with_reducible refine qb.out.mono ?_)
        rintro e w2 ⟨rfl, rfl⟩
        clear qb
        go_wp2_with fail
        (with_reducible refine q2.out.mono ?_)
        rintro e w2 ⟨rfl, h1⟩
        have h1 := Lib.hid (HTR.out _ _ _ h1)
        clear q2
        go_wp2_with fail
        go_ret
        have ht := HT.out (by rw [HEE.out]; exact e0)
        rw [ht, HEE.out]
        exact ⟨rfl, h1.out⟩
    · obtain rfl : j = n := by omega
      have HL := Lib.hid hS.out.last
      clear hS hC hO hv
      go_wp2_with fail
      (with_reducible refine qb.out.mono ?_)
      rintro e w2 ⟨rfl, rfl⟩
      clear qb
      go_wp2_with fail
      go_ret
      rw [HL.out]
      exact ⟨rfl, hR.out⟩

end Go.Proofs.Ytlickjaopbcanaa
