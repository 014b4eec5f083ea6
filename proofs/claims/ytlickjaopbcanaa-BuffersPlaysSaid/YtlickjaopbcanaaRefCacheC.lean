/- The document's cache: room, Forget, Unpin. -/
import Derived.Test.YtlickjaopbcanaaRefCacheB
namespace Go.Proofs.Ytlickjaopbcanaa
open Go Go.RowKit Bufs
variable {B rc rd : Nat} {w w' w1 w2 : World} {z : RLay} {D D' D1 D2 : Dev} {most : Nat} {l l' l1 l2 : PL} {v v' v1 : Value}

theorem rown_blocks {k : Nat} (h : k ∈ rblocks rd z) : k ∈ rown rc rd z v := List.mem_cons_of_mem _ (List.mem_append.2 (.inl h))
theorem rown_v {k : Nat} (h : v.ownBlock = some k) : k ∈ rown rc rd z v := List.mem_cons_of_mem _ (List.mem_append.2 (.inr (by simp [h])))
theorem RGo.dev {S : List Nat} (h : RCD B w rc rd z D most l v) (ho : Only S w w') (hS : ∀ k ∈ S, k ∈ rblocks rd z) (hd : RefAt B w' rd z D') : RGo B w w' rc rd z v D' most l :=
  ⟨v, h.dev_turn (ho.sub hS) hd, ho.sub (fun k hk => rown_blocks (hS k hk)), fun _ hk => .inl (rown_v hk)⟩
theorem RGo.row {w0 : World} (h : RCD B w0 rc rd z D most l v) (hb : Below w0.heap.size w0 w1) (hrow : w1.ownsRow w0.heap.size 104 4 v' l'.length (bflat l')) (hbs : l'.Pairwise fun x y => x.b ≠ y.b) (hl : l'.length ≤ most) : RGo B w0 (w1.setCell ⟨rc, 2, none⟩ v') rc rd z v D most l' := by
  have h1 := h.below hb
  have hB : B ≤ w0.heap.size := by have := h.own; have := h.cells.lt; omega
  refine ⟨v', h1.setL (own_mono hrow hB) (fun k hk => ?_) hbs hl, (Only.ofBelow hb).trans (Only.setCell w1 ⟨rc, 2, none⟩ v' List.mem_cons_self), fun k hk => .inr (hrow.lt k hk).1⟩
  have h3 := (hrow.lt k hk).1
  have h4 := h.cells.lt
  exact ⟨by omega, fun hm => by have := (rblocks_lt h.dev k hm).2; omega⟩
theorem RGo.drewN (h : RCD B w rc rd z D most l v) (m : Nat) : RGo B w (w.drewN m) rc rd z v D most l := RGo.below (w1 := w.drewN m) ⟨rfl, rfl, rfl, Nat.le_refl _, fun _ _ => rfl⟩ (RGo.refl (h.same (w' := w.drewN m) (fun _ _ => rfl)))
theorem RCD.drewN (h : RCD B w rc rd z D most l v) (m : Nat) : RCD B (w.drewN m) rc rd z D most l v := h.same (fun _ _ => rfl)
theorem but_bs' {l : PL} (h : l.Pairwise fun x y => x.b ≠ y.b) (b : Nat) : (but l b).Pairwise fun x y => x.b ≠ y.b := h.filter _
theorem but_le (l : PL) (b : Nat) : (but l b).length ≤ l.length := List.length_filter_le _ _
theorem outL_fail (hb : l.Pairwise fun x y => x.b ≠ y.b) {x : PB} (hx : x ∈ l) (he : outE D x ≠ 0) : outL D l x = l := by
  unfold outE at he
  unfold outL
  split
  · rename_i hc
    rw [if_pos hc] at he
    refine turn_id l x.b _ (fun y hy e => ?_)
    obtain rfl : y = x := pair_eq hb y hy x hx e
    have hd : y.dirty = true := by simp at hc; exact hc.1
    unfold soil
    rw [decide_eq_true he]
    cases y
    simp at hd
    rw [hd]
  · rfl
set_option maxRecDepth 100000 in
set_option maxHeartbeats 8000000 in
theorem rroom_any (h : RCD B w rc rd z D most l v) (hds : ∀ x ∈ l, x.data.size = 128) (ha : D.acts ≤ 900000000000) :
    Calls Try.prog 90 #[.pointer (some ⟨rc, 0, none⟩)] w fun e w' => e = .returned (.int .i64 (roomOf D l most).1) ∧ RGo B w w' rc rd z v (roomOf D l most).2.1 most (roomOf D l most).2.2 := by
  have c1 := h.c1
  have c2 := h.c2
  have hmo := h.most
  have hlen := h.len
  by_cases hlm : l.length < most
  · have e0 : roomOf D l most = (0, D, l) := if_pos hlm
    rw [e0]
    dsimp only
    obtain ⟨ad, cap, rfl, _⟩ := h.form
    have HE := Lib.hid (RGo.drewN h)
    have hi : (l.length : Int) < (most : Int) := by omega
    clear h e0 hds
    generalize l.length = n at *
    go_enter Try.func90, Try.ntmps90
    go_wp2_with fail
    go_quiet (fail)
    go_wp2_with fail
    go_ret
    exact ⟨rfl, HE.out _⟩
  have hi : ¬ (l.length : Int) < (most : Int) := by omega
  have hid : decide ((l.length : Int) < (most : Int)) = false := decide_eq_false hi
  obtain ⟨ad, cap, rfl, hf⟩ := h.form
  obtain ⟨g, rfl⟩ := hf (by omega)
  have HC : Hid (∀ j x, l[j]? = some x → ∀ k u, k < 4 → (bcell x)[k]? = some u → w.cell? ⟨g, j * 4 + k, none⟩ = some u) := Lib.hid (fun j x hx k u hk hu => h.buf hx k u hk hu)
  cases hfd : l.find? (fun x => !x.pinned) with
  | none =>
    have e0 : roomOf D l most = (70, D, l) := by unfold roomOf; rw [if_neg hlm, hfd]
    rw [e0]
    dsimp only
    have HP : Hid (∀ j, j < l.length → w.cell? ⟨g, j * 4 + 3, none⟩ = some (.bool true)) := Lib.hid (fun j hj => by
      have hx : l[j]? = some l[j] := List.getElem?_eq_getElem hj
      have := HC.out j _ hx 3 _ (by omega) rfl
      have hp := List.find?_eq_none.1 hfd l[j] (List.getElem_mem hj)
      simp at hp
      rw [hp] at this
      exact this)
    have HE := Lib.hid (RGo.drewN h)
    clear h e0 hds HC hfd hf
    generalize l.length = n at *
    go_enter Try.func90, Try.ntmps90
    go_wp2_with fail
    go_quiet (fail)
    go_wp2_with fail
    go_loop [3] (fun q => ∃ j : Nat, j ≤ n ∧ q = .int .i64 j) (fun q => n - (intOf q).toNat)
    case atStart => exact ⟨0, by omega, rfl⟩
    case round =>
      obtain ⟨j, hj, rfl⟩ := hrel
      by_cases hlt : j < n
      · have i1 : (j : Int) < (n : Int) := by omega
        have i0 : (0 : Int) ≤ (j : Int) := by omega
        have k1 := HP.out j hlt
        go_wp2_with fail
        go_round
        case rel => exact ⟨j + 1, by omega, by go_num⟩
        case measure => simp [intOf]; omega
      · obtain rfl : j = n := by omega
        go_wp2_with fail
        go_ret
        exact ⟨rfl, HE.out _⟩
  | some x =>
    obtain ⟨hxp, pre, post, hl, has⟩ := List.find?_eq_some_iff_append.1 hfd
    have hxp : x.pinned = false := by simpa using hxp
    have hxm : x ∈ l := List.mem_of_find?_eq_some hfd
    obtain ⟨i, hi2⟩ : ∃ i, i = pre.length := ⟨_, rfl⟩
    have hat : l[i]? = some x := by rw [hl, hi2]; simp
    have hil : i < l.length := (List.getElem?_eq_some_iff.1 hat).1
    have HP : Hid (∀ j, j < i → w.cell? ⟨g, j * 4 + 3, none⟩ = some (.bool true)) := Lib.hid (fun j hj => by
      have hjl : j < pre.length := by omega
      have hx : l[j]? = some pre[j] := by rw [hl, List.getElem?_append_left hjl]; exact List.getElem?_eq_getElem hjl
      have := HC.out j _ hx 3 _ (by omega) rfl
      have hp := has pre[j] (List.getElem_mem hjl)
      simp at hp
      rw [hp] at this
      exact this)
    have e0 : roomOf D l most = if outE D x = 0 then (0, outD D x, but l x.b) else (outE D x, outD D x, outL D l x) := by unfold roomOf; rw [if_neg hlm, hfd]
    have x0 := HC.out i x hat 0 _ (by omega) rfl
    have x1 := HC.out i x hat 1 _ (by omega) rfl
    have x2 := HC.out i x hat 2 _ (by omega) rfl
    have x3 := HC.out i x hat 3 _ (by omega) rfl
    rw [hxp] at x3
    have X0 := Lib.hid x0; have X1 := Lib.hid x1; have X2 := Lib.hid x2; have X3 := Lib.hid x3
    clear x0 x1 x2 x3
    have hbl : (but l x.b).length ≤ most := Nat.le_trans (but_le l x.b) hlen
    have hbb := but_bs' h.bs x.b
    have WITH : Hid (∀ w1 D1, RCD B w1 rc rd z D1 most l (.slice (some ⟨g, 0, none⟩) l.length cap) → Calls Try.prog 89 #[.pointer (some ⟨rc, 0, none⟩), .int .i64 i] w1 fun e w' => ∃ ad' m' c', e = .returned (.slice ad' m' c') ∧ w'.cell? ⟨rc, 2, none⟩ = some (.slice (some ⟨g, 0, none⟩) l.length cap) ∧ w'.frozen? ⟨rc, 2, none⟩ = false ∧ RGo B w1 (w'.setCell ⟨rc, 2, none⟩ (.slice ad' m' c')) rc rd z (.slice (some ⟨g, 0, none⟩) l.length cap) D1 most (but l x.b)) := Lib.hid (fun w1 D1 h1 => by
      refine (rwithout_any h1 hat).mono ?_
      rintro e w' ⟨v', rfl, hrow, hb⟩
      have h2 := h1.below hb
      obtain ⟨ad', c', rfl, _⟩ := own_opens hrow
      exact ⟨ad', _, c', rfl, h2.c2, h2.z2, RGo.row h1 hb hrow hbb hbl⟩)
    have HD0 := Lib.hid (fun m => h.drewN m)
    cases hxd : x.dirty with
    | false =>
      have hE0 : outE D x = 0 ∧ outD D x = D := by unfold outE outD; rw [hxd]; exact ⟨rfl, rfl⟩
      rw [e0, if_pos hE0.1, hE0.2]
      dsimp only
      rw [hxd] at X2
      have FW := Lib.hid (fun m w2 (h2 : RGo B (w.drewN m) w2 rc rd z (.slice (some ⟨g, 0, none⟩) l.length cap) D most (but l x.b)) => RGo.below (w := w) (w1 := w.drewN m) ⟨rfl, rfl, rfl, Nat.le_refl _, fun _ _ => rfl⟩ h2)
      clear h e0 hds HC hfd hf hE0 hl hat has hxm hxd hxp hlm hbl hbb hi2
      generalize but l x.b = LB at *
      generalize l.length = n at *
      go_enter Try.func90, Try.ntmps90
      go_wp2_with fail
      go_quiet (fail)
      go_wp2_with fail
      go_loop [3] (fun q => ∃ j : Nat, j ≤ i ∧ q = .int .i64 j) (fun q => i - (intOf q).toNat)
      case atStart => exact ⟨0, by omega, rfl⟩
      case round =>
        obtain ⟨j, hj, rfl⟩ := hrel
        have i1 : (j : Int) < (n : Int) := by omega
        have i0 : (0 : Int) ≤ (j : Int) := by omega
        by_cases hlt : j < i
        · have k1 := HP.out j hlt
          go_wp2_with fail
          go_round
          case rel => exact ⟨j + 1, by omega, by go_num⟩
          case measure => simp [intOf]; omega
        · obtain rfl : j = i := by omega
          have k2 := X2.out
          have k3 := X3.out
          have q := fun m => Lib.hid (WITH.out _ _ (HD0.out m))
          go_wp2_with fail
          refine (q _).out.mono ?_
          rintro e w4 ⟨ad4, m4, c4, rfl, d2, dz, hR⟩
          have HR := Lib.hid (FW.out _ _ hR)
          clear hR q k2 k3
          go_wp2_with fail
          go_ret
          exact ⟨rfl, HR.out⟩
    | true =>
      have hE0 : outE D x = D.writeE x.b x.data ∧ outD D x = D.write x.b x.data := by unfold outE outD; rw [hxd, hxp]; exact ⟨rfl, rfl⟩
      rw [hxd] at X2
      have FW := Lib.hid (fun (wx w2 : World) D2 l2 (hb : Below w.heap.size w wx) (h2 : RGo B wx w2 rc rd z (.slice (some ⟨g, 0, none⟩) l.length cap) D2 most l2) => RGo.below (w := w) (w1 := wx) hb h2)
      have HW := Lib.hid (fun wx (hb : Below w.heap.size w wx) => rwrite_any (h.below hb).dev x.b x.data (by rw [hds x hxm]; omega) (by omega))
      have hsub : ∀ k ∈ [rd, z.gn, z.gp], k ∈ rblocks rd z := fun k hk => by
        simp only [List.mem_cons, List.not_mem_nil, or_false] at hk
        rcases hk with rfl | rfl | rfl <;> simp [rblocks]
      have hof : D.writeE x.b x.data ≠ 0 → outL D l x = l := fun hne => outL_fail h.bs hxm (by rw [hE0.1]; exact hne)
      have c0 := h.c0
      rw [e0, hE0.1, hE0.2]
      have HOF := Lib.hid hof
      have HSUB := Lib.hid hsub
      have HDT : Hid (∀ wx w2, Below w.heap.size w wx → RefAt B w2 rd z (D.write x.b x.data) → Only [rd, z.gn, z.gp] wx w2 → RCD B w2 rc rd z (D.write x.b x.data) most l (.slice (some ⟨g, 0, none⟩) l.length cap) ∧ RGo B wx w2 rc rd z (.slice (some ⟨g, 0, none⟩) l.length cap) (D.write x.b x.data) most l) := Lib.hid (fun wx w2 hb h2 ho => ⟨(h.below hb).dev_turn (ho.sub HSUB.out) h2, RGo.dev (h.below hb) ho HSUB.out h2⟩)
      clear h e0 hds HC hfd hf hE0 hl hat has hxm hxd hxp hlm hbl hbb hi2 hof hsub
      generalize outL D l x = LO at *
      obtain ⟨ee, hee⟩ : ∃ ee, D.writeE x.b x.data = ee := ⟨_, rfl⟩
      rw [hee] at HW HOF
      rw [hee]
      clear hee
      generalize D.write x.b x.data = DW at *
      generalize x.data = xs at *
      obtain ⟨LB, hLB⟩ : ∃ LB, but l x.b = LB := ⟨_, rfl⟩
      rw [hLB] at WITH
      rw [hLB]
      clear hLB
      generalize x.b = xb at *
      generalize hn : l.length = n at *
      clear hn
      have bq : ∀ m, Below w.heap.size w ((w.drewN m).drew) := fun m => ⟨rfl, rfl, rfl, Nat.le_refl _, fun _ _ => rfl⟩
      have BQ := Lib.hid bq
      clear bq
      by_cases he : ee = 0
      · subst he
        rw [if_pos rfl]
        dsimp only
        go_enter Try.func90, Try.ntmps90
        go_wp2_with fail
        go_quiet (fail)
        go_wp2_with fail
        go_loop [3] (fun q => ∃ j : Nat, j ≤ i ∧ q = .int .i64 j) (fun q => i - (intOf q).toNat)
        case atStart => exact ⟨0, by omega, rfl⟩
        case round =>
          obtain ⟨j, hj, rfl⟩ := hrel
          have i1 : (j : Int) < (n : Int) := by omega
          have i0 : (0 : Int) ≤ (j : Int) := by omega
          by_cases hlt : j < i
          · have k1 := HP.out j hlt
            go_wp2_with fail
            go_round
            case rel => exact ⟨j + 1, by omega, by go_num⟩
            case measure => simp [intOf]; omega
          · obtain rfl : j = i := by omega
            have k2 := X2.out
            have k3 := X3.out
            go_wp2_with fail
            have q0 : (w.drewN nq).cell? ⟨rc, 0, none⟩ = some (.pointer (some ⟨rd, 0, none⟩)) := c0
            have q2 : (w.drewN nq).cell? ⟨rc, 2, none⟩ = some (.slice (some ⟨g, 0, none⟩) n cap) := c2
            have k0 : (w.drewN nq).cell? ⟨g, j * 4, none⟩ = some (.int .i64 xb) := X0.out
            have k1 : (w.drewN nq).cell? ⟨g, j * 4 + 1, none⟩ = some (.string xs) := X1.out
            have BW := BQ.out nq
            clear k2 k3 BQ HD0 X0 X1 X2 X3 HP c0 c1 c2
            generalize w.drewN nq = wq at *
            have BW := Lib.hid BW
            refine wp_region_still_tail 20 (by kernel_rfl) (by kernel_rfl) ?_
            simp only [List.take_succ_cons, List.take_zero, List.drop_succ_cons, List.drop_zero]
            repeat still_step
            refine wpStill_nil ?_
            change wpList _ _ _ _ _ _
            go_wp2_with fail
            refine (HW.out _ BW.out).mono ?_
            rintro e w4 ⟨rfl, d1, d2⟩
            obtain ⟨d3, d4⟩ := HDT.out _ _ BW.out d1 d2
            obtain ⟨v5, d5, d6, d7⟩ := d4
            have D3 := Lib.hid d3
            have D6 := Lib.hid d6
            have q := Lib.hid (WITH.out _ _ d3)
            clear d1 d2 d3 d5 d6 d7 k0 k1
            go_wp2_with fail
            refine q.out.mono ?_
            rintro e w5 ⟨ad4, m4, c4, rfl, e2, ez, hR⟩
            have HR := Lib.hid (FW.out _ _ _ _ BW.out (RGo.trans D6.out (fun k hk => .inl (rown_v hk)) hR))
            clear hR q
            go_wp2_with fail
            go_ret
            exact ⟨rfl, HR.out⟩
      · rw [if_neg he]
        dsimp only
        have he2 : (ee != 0) = true := by simp [he]
        rw [HOF.out he]
        go_enter Try.func90, Try.ntmps90
        go_wp2_with fail
        go_quiet (fail)
        go_wp2_with fail
        go_loop [3] (fun q => ∃ j : Nat, j ≤ i ∧ q = .int .i64 j) (fun q => i - (intOf q).toNat)
        case atStart => exact ⟨0, by omega, rfl⟩
        case round =>
          obtain ⟨j, hj, rfl⟩ := hrel
          have i1 : (j : Int) < (n : Int) := by omega
          have i0 : (0 : Int) ≤ (j : Int) := by omega
          by_cases hlt : j < i
          · have k1 := HP.out j hlt
            go_wp2_with fail
            go_round
            case rel => exact ⟨j + 1, by omega, by go_num⟩
            case measure => simp [intOf]; omega
          · obtain rfl : j = i := by omega
            have k2 := X2.out
            have k3 := X3.out
            go_wp2_with fail
            have q0 : (w.drewN nq).cell? ⟨rc, 0, none⟩ = some (.pointer (some ⟨rd, 0, none⟩)) := c0
            have q2 : (w.drewN nq).cell? ⟨rc, 2, none⟩ = some (.slice (some ⟨g, 0, none⟩) n cap) := c2
            have k0 : (w.drewN nq).cell? ⟨g, j * 4, none⟩ = some (.int .i64 xb) := X0.out
            have k1 : (w.drewN nq).cell? ⟨g, j * 4 + 1, none⟩ = some (.string xs) := X1.out
            have BW := BQ.out nq
            clear k2 k3 BQ HD0 X0 X1 X2 X3 HP c0 c1 c2
            generalize w.drewN nq = wq at *
            have BW := Lib.hid BW
            refine wp_region_still_tail 20 (by kernel_rfl) (by kernel_rfl) ?_
            simp only [List.take_succ_cons, List.take_zero, List.drop_succ_cons, List.drop_zero]
            repeat still_step
            refine wpStill_nil ?_
            change wpList _ _ _ _ _ _
            go_wp2_with fail
            refine (HW.out _ BW.out).mono ?_
            rintro e w4 ⟨rfl, d1, d2⟩
            obtain ⟨d3, d4⟩ := HDT.out _ _ BW.out d1 d2
            obtain ⟨v5, d5, d6, d7⟩ := d4
            have D3 := Lib.hid d3
            have D6 := Lib.hid d6
            have HR := Lib.hid (FW.out _ _ _ _ BW.out (show RGo B _ w4 rc rd z _ DW most l from ⟨v5, d5, d6, d7⟩))
            clear d1 d2 d3 d5 d6 d7 k0 k1
            go_wp2_with fail
            go_ret
            exact ⟨rfl, HR.out⟩

end Go.Proofs.Ytlickjaopbcanaa
