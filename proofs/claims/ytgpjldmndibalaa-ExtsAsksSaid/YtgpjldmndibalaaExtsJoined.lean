/- joined: neighbours that go on from one another are one. -/
import Derived.Test.YtgpjldmndibalaaExtsSame
import Derived.Test.YtgpjldmndibalaaExtsCheck
import Derived.Test.YtgpjldmndibalaaExtsClone
import Derived.Test.YtgpjldmndibalaaExtsFind
import Derived.Test.YtgpjldmndibalaaExtsPut
import Derived.StillTailTactics
namespace Go.Proofs.Ytgpjldmndibalaa
open Go Go.RowKit

theorem own_cellN {B n g cap z : Nat} {T : TypeId} {w : World} {xs : List Value} (h : w.ownsRow B T z (.slice (some ⟨g, 0, none⟩) n cap) n xs) {j : Nat} {u : Value} (hu : xs[j]? = some u) : w.cell? ⟨g, j, none⟩ = some u := by
  have := h.cells rfl j u hu
  have hadd : (⟨g, 0, none⟩ : Addr).add j = ⟨g, j, none⟩ := by unfold Addr.add; split <;> simp_all
  rwa [hadd] at this
theorem own_freeN {B n g cap z : Nat} {T : TypeId} {w : World} {xs : List Value} (h : w.ownsRow B T z (.slice (some ⟨g, 0, none⟩) n cap) n xs) (k : Nat) : w.frozen? ⟨g, k, none⟩ = false := by
  rcases h.2 with ⟨hv, _⟩ | ⟨g', cap', cur, hv, hb, hg, _⟩
  · cases hv
  · cases hv
    simp [World.frozen?, hg]
theorem own_setN {B n g cap z : Nat} {T : TypeId} {w : World} {xs : List Value} (h : w.ownsRow B T z (.slice (some ⟨g, 0, none⟩) n cap) n xs) (k : Nat) (u : Value) :
    (w.setCell ⟨g, k, none⟩ u).ownsRow B T z (.slice (some ⟨g, 0, none⟩) n cap) n (xs.set k u) := by
  obtain ⟨h1, h2⟩ := h
  refine ⟨by simpa using h1, ?_⟩
  rcases h2 with ⟨hv, _⟩ | ⟨g', cap', cur, hv, hb, hg, hc1, hc2, hsz, htk⟩
  · cases hv
  · cases hv
    refine .inr ⟨g, cap, cur.set! k u, rfl, hb, ?_, hc1, hc2, by simpa using hsz, ?_⟩
    · have hlt := lt_of_block hg
      have h' : w.heap[g] = .cells cur T (0, 0) := by simpa [Array.getElem?_eq_getElem hlt] using hg
      show (w.heap.modify g _)[g]? = _
      rw [Array.getElem?_eq_getElem (by simpa using hlt), Array.getElem_modify_self, h']
      simp
    · rw [← htk]
      simp [List.take_set]
theorem ecells_set : ∀ (l : EL) (i : Nat) (x : Exts.E), i < l.length → (((ecells l).set (i * 3) (.int .i64 x.1)).set (i * 3 + 1) (.int .i64 x.2.1)).set (i * 3 + 2) (.int .i64 x.2.2) = ecells (l.set i x)
  | [], i, x, h => by simp at h
  | y :: l, 0, x, _ => by simp [ecells]
  | y :: l, i + 1, x, h => by
    have e : ∀ (y : Exts.E) (l : EL), ecells (y :: l) = .int .i64 y.1 :: .int .i64 y.2.1 :: .int .i64 y.2.2 :: ecells l := fun y l => by simp [ecells]
    have ih := ecells_set l i x (by simpa using h)
    rw [e, show (i + 1) * 3 = i * 3 + 1 + 1 + 1 by omega]
    simp only [List.set_cons_succ]
    rw [ih, ← e]
theorem ecells_set_len (l : EL) (i : Nat) (v : Int) (h : i < l.length) : (ecells l).set (i * 3 + 2) (.int .i64 v) = ecells (l.set i ((l.getD i (0, 0, 0)).1, (l.getD i (0, 0, 0)).2.1, v)) := by
  obtain ⟨h0, h1, h2⟩ := ecells_at l i h
  rw [← ecells_set l i _ h]
  dsimp only
  have e0 : (ecells l).set (i * 3) (.int .i64 (l.getD i (0, 0, 0)).1) = ecells l := by
    obtain ⟨hk, e⟩ := List.getElem?_eq_some_iff.1 h0
    rw [← e]; exact List.set_getElem_self hk
  have e1 : (ecells l).set (i * 3 + 1) (.int .i64 (l.getD i (0, 0, 0)).2.1) = ecells l := by
    obtain ⟨hk, e⟩ := List.getElem?_eq_some_iff.1 h1
    rw [← e]; exact List.set_getElem_self hk
  rw [e0, e1]

namespace Exts
theorem jstep_cases (R : EL) (x : E) (h : 0 < R.length) : jstep R x = if fin (R.getD (R.length - 1) (0, 0, 0)) = x.1 ∧ (R.getD (R.length - 1) (0, 0, 0)).2.1 + (R.getD (R.length - 1) (0, 0, 0)).2.2 = x.2.1 then R.set (R.length - 1) ((R.getD (R.length - 1) (0, 0, 0)).1, (R.getD (R.length - 1) (0, 0, 0)).2.1, (R.getD (R.length - 1) (0, 0, 0)).2.2 + x.2.2) else R ++ [x] := by
  rcases List.eq_nil_or_concat R with rfl | ⟨S, z, rfl⟩
  · simp at h
  · rw [List.concat_eq_append]
    have e : (S ++ [z]).getD ((S ++ [z]).length - 1) (0, 0, 0) = z := by simp [List.getD]
    rw [e, jstep_snoc]
    have e2 : (S ++ [z]).length - 1 = S.length := by simp
    rw [e2]
    split
    · simp
    · rfl
theorem joined_next (l : EL) (j : Nat) (h : j < l.length) : joinedR (l.take (j + 1)) = jstep (joinedR (l.take j)) (l.getD j (0, 0, 0)) := by
  unfold joinedR
  rw [List.take_succ_eq_append_getElem h, List.foldl_append]
  simp [List.getD, h]
theorem joined_may (l : EL) (hl : Row l) : ∀ j, j ≤ l.length → ∀ z ∈ joinedR (l.take j), may z
  | 0, _, z, h => by simp [joinedR] at h
  | j + 1, hj, z, h => by
    have ih := joined_may l hl j (by omega)
    have hx : may (l.getD j (0, 0, 0)) := hl.may _ (by simp [List.getD, show j < l.length by omega])
    rw [joined_next l j (by omega)] at h
    rcases List.eq_nil_or_concat (joinedR (l.take j)) with e | ⟨S, y, e⟩
    · rw [e, jstep_nil] at h
      obtain rfl := List.mem_singleton.1 h
      exact hx
    · rw [List.concat_eq_append] at e
      rw [e] at h ih
      rw [jstep_snoc] at h
      split at h
      · rename_i hc
        rcases List.mem_append.1 h with h | h
        · exact ih z (List.mem_append_left _ h)
        · obtain rfl := List.mem_singleton.1 h
          have hy := ih y (by simp)
          unfold may at *
          unfold fin at hc
          dsimp only
          omega
      · rcases List.mem_append.1 h with h | h
        · exact ih z h
        · obtain rfl := List.mem_singleton.1 h
          exact hx
theorem joined_len (l : EL) : ∀ j, (joinedR (l.take j)).length ≤ j
  | 0 => by simp [joinedR]
  | j + 1 => by
    rcases Nat.lt_or_ge j l.length with h | h
    · have ih := joined_len l j
      rw [joined_next l j h]
      by_cases h0 : 0 < (joinedR (l.take j)).length
      · rw [jstep_cases _ _ h0]
        split
        · rw [List.length_set]; omega
        · simp; omega
      · have e : joinedR (l.take j) = [] := List.eq_nil_of_length_eq_zero (by omega)
        rw [e, jstep_nil]; simp
    · have ih := joined_len l j
      rw [List.take_of_length_le (by omega)] at ih ⊢
      omega
end Exts

theorem OwnExts.forms {B : Nat} {w : World} {v : Value} {l : EL} (h : OwnExts B w v l) : (v = .slice none 0 0 ∧ l = []) ∨ ∃ g cap, v = .slice (some ⟨g, 0, none⟩) l.length cap ∧ B ≤ g := by
  rcases h.2 with ⟨rfl, hn⟩ | ⟨g, cap, cur, rfl, hb, _⟩
  · exact .inl ⟨rfl, List.eq_nil_of_length_eq_zero hn⟩
  · exact .inr ⟨g, cap, rfl, hb⟩

set_option maxRecDepth 100000 in
set_option maxHeartbeats 8000000 in
theorem ejoined_any (v : Value) (l : EL) (w : World) (hr : Exts.Row l) (h : ExtsAt w v l) (hl : l.length ≤ 1000000) :
    Calls Try.prog 46 #[v] w fun e w' => ∃ v', e = .returned v' ∧ OwnExts w.heap.size w' v' (Exts.joinedR l) ∧ Below w.heap.size w w' := by
  obtain ⟨i0', hi0, hz0, hz1, hz2⟩ := info_parts info_ext
  have H := Lib.hid h
  have HR := Lib.hid hr
  obtain ⟨ad, cap, rfl⟩ : ∃ ad cap, v = .slice ad l.length cap := by
    rcases h with ⟨rfl, rfl⟩ | ⟨b, off, cap, rfl, _⟩
    · exact ⟨_, _, rfl⟩
    · exact ⟨_, _, rfl⟩
  have J0 : Hid (OwnExts w.heap.size w (.slice none 0 0) (Exts.joinedR (l.take 0))) := Lib.hid (World.ownsRow_nil _ _ _ _)
  clear h hr
  go_enter Try.func46, Try.ntmps46
  go_wp2_with fail
  go_loopw [3, 4] (fun p q wr => ∃ (u : Value) (j : Nat), u = p ∧ q = .int .i64 j ∧ j ≤ l.length ∧ Hid (OwnExts w.heap.size wr u (Exts.joinedR (l.take j))) ∧ Hid (Below w.heap.size w wr)) (fun _ q _ => l.length - (intOf q).toNat)
  case atStart => exact ⟨_, 0, rfl, rfl, by omega, J0, Lib.hid (Below.refl _ _)⟩
  case round =>
    obtain ⟨u, j, rfl, rfl, hj, ho, hb⟩ := hrel
    by_cases hlt : j < l.length
    · have i0 : (0 : Int) ≤ (j : Int) := by omega
      have i1 : (j : Int) < (l.length : Int) := by omega
      obtain ⟨hll, gl, off, rfl, c0, c1, c2⟩ := (H.out.below (B := 0) hb.out).cells j hlt
      clear hll
      have hnx := Lib.hid (Exts.joined_next l j hlt)
      have hmx := Exts.row_at HR.out hlt
      have hml := Lib.hid (fun z hz => Exts.joined_may l HR.out j hj z hz)
      have hln := Exts.joined_len l j
      have hbz := hb.out.size
      have app : Hid (∀ (wk : World), Below wr.heap.size wr wk → OwnExts w.heap.size wk u (Exts.joinedR (l.take j))) := Lib.hid (fun wk hk => ho.out.below hk)
      generalize Exts.joinedR (l.take j) = R at *
      generalize l.getD j (0, 0, 0) = x at *
      obtain ⟨xa, xb, xc⟩ := x
      unfold Exts.may at hmx
      dsimp only at *
      -- BODY
      have hown0 : Hid (∀ k, u.ownBlock = some k → w.heap.size ≤ k) := Lib.hid (fun k hk => (World.ownsRow.lt ho.out k hk).1)
      have hone := ecells_one [(xa, xb, xc)]
      by_cases hn : R.length = 0
      · have hnx' : Hid (Exts.joinedR (l.take (j + 1)) = R ++ [(xa, xb, xc)]) := Lib.hid (by
          rw [hnx.out, List.eq_nil_of_length_eq_zero hn, Exts.jstep_nil]; rfl)
        clear hnx
        have hnx := hnx'
        clear hnx'
        obtain ⟨au, cu, rfl⟩ := OwnExts.slice ho.out
        have kw : IntKind.i64.wrap ((R.length : Int) - 1) = -1 := by rw [IntWalk.i64_in _ (by omega)]; omega
        have kw' : (R.length : Int) - 1 = -1 := by omega
        clear hn
        go_wp2_with fail
        go_quiet (fail)
        have bA : Below wr.heap.size wr ((wr.drewN nq).alloc (.cells #[.int .i64 xa, .int .i64 xb, .int .i64 xc] 37)) := (below_dr (Below.refl _ _)).alloc (Nat.le_refl _) _
        have G := Lib.hid (show ((wr.drewN nq).alloc (.cells #[.int .i64 xa, .int .i64 xb, .int .i64 xc] 37)).ownsRow w.heap.size 37 3 (.slice au R.length cu) R.length (ecells R) from app.out _ bA)
        have NN := Lib.hid (show ∀ jj uu, [Value.int .i64 xa, .int .i64 xb, .int .i64 xc][jj]? = some uu → ((wr.drewN nq).alloc (.cells #[.int .i64 xa, .int .i64 xb, .int .i64 xc] 37)).cell? ((⟨wr.heap.size, 0, none⟩ : Addr).add jj) = some uu from fun jj uu hjj => by
          have hadd : (⟨wr.heap.size, 0, none⟩ : Addr).add jj = ⟨wr.heap.size, jj, none⟩ := by unfold Addr.add; split <;> simp_all
          rw [hadd]
          exact (World.cell?_alloc_at (w := wr.drewN nq) _ _ _ jj rfl).trans (by simpa using hjj))
        have HB2 := Lib.hid (hb.out.trans (bA.mono hbz))
        have hcx := Lib.hid (And.intro c0 (And.intro c1 c2))
        clear bA
        go_wp2_with (first
          | (at_builtin; refine wpList_append_own _ rfl _ _ 22 rfl w.heap.size 37 i0' (.agg #[.int .i64 0, .int .i64 0, .int .i64 0]) 3 24 Try.underlying22 hi0 hz0 hz1 hz2 rfl (by decide) _ R.length _ rfl G.out ⟨wr.heap.size, 0, none⟩ 1 1 [.int .i64 xa, .int .i64 xb, .int .i64 xc] rfl rfl NN.out hone (by unfold maxLen; omega) (by omega) (by simp; omega) ?_))
        intro v' w5 hown hgrow _
        have B5 : Hid (Below w.heap.size w w5) := Lib.hid (HB2.out.grown hgrow (by simp; omega) (fun k hk => hown0.out k hk))
        have O5 : Hid (OwnExts w.heap.size w5 v' (R ++ [(xa, xb, xc)])) := Lib.hid (by
          unfold OwnExts
          rw [ecells_append, List.length_append]
          exact hown)
        rw [← hnx.out] at O5
        clear hown hgrow NN G HB2
        go_wp2_with fail
        go_roundw
        case rel => exact ⟨v', j + 1, rfl, by go_num, by omega, O5, B5⟩
        case measure => simp [intOf]; omega
      · obtain ⟨m, hm⟩ : ∃ m, R.length - 1 = m := ⟨_, rfl⟩
        have hmR : m < R.length := by omega
        rcases OwnExts.forms ho.out with ⟨_, e⟩ | ⟨g, cu, rfl, hg⟩
        · rw [e] at hn; simp at hn
        have hcs := Lib.hid (Exts.jstep_cases R (xa, xb, xc) (by omega))
        rw [hm] at hcs
        have hzm := hml.out (R.getD m (0, 0, 0)) (by simp [List.getD, hmR])
        obtain ⟨y0, y1, y2⟩ := ecells_at R m hmR
        have d0 := own_cellN ho.out y0
        have d1 := own_cellN ho.out y1
        have d2 := own_cellN ho.out y2
        have hset := Lib.hid (fun v => ecells_set_len R m v hmR)
        have kw : IntKind.i64.wrap ((R.length : Int) - 1) = (m : Int) := by rw [IntWalk.i64_in _ (by omega)]; omega
        have kw' : (R.length : Int) - 1 = (m : Int) := by omega
        have m0 : (0 : Int) ≤ (m : Int) := by omega
        have m1 : (m : Int) < (R.length : Int) := by omega
        clear y0 y1 y2 hn hm
        generalize R.getD m (0, 0, 0) = z at *
        obtain ⟨za, zb, zc⟩ := z
        unfold Exts.fin at hcs
        unfold Exts.may at hzm
        dsimp only at *
        have w1 : IntKind.i64.wrap (za + zc) = za + zc := IntWalk.i64_in _ (by omega)
        have w2 : IntKind.i64.wrap (zb + zc) = zb + zc := IntWalk.i64_in _ (by omega)
        have w3 : IntKind.i64.wrap (zc + xc) = zc + xc := IntWalk.i64_in _ (by omega)
        by_cases k1 : za + zc = xa
        · by_cases k2 : zb + zc = xb
          · have hnx' : Hid (Exts.joinedR (l.take (j + 1)) = R.set m (za, zb, zc + xc)) := Lib.hid (by rw [hnx.out, hcs.out, if_pos ⟨k1, k2⟩])
            have t1 : (za + zc == xa) = true := by simpa using k1
            have t2 : (zb + zc == xb) = true := by simpa using k2
            have K1 := Lib.hid k1
            have K2 := Lib.hid k2
            have OS := Lib.hid (own_setN ho.out (m * 3 + 2) (.int .i64 (zc + xc)))
            rw [hset.out] at OS
            have f2 := own_freeN ho.out (m * 3 + 2)
            clear hnx hcs k1 k2 app
            go_wp2_with fail
            go_quiet (fail)
            have O5 : Hid (OwnExts w.heap.size (((wr.drewN nq).drew).setCell ⟨g, m * 3 + 2, none⟩ (.int .i64 (zc + xc))) (.slice (some ⟨g, 0, none⟩) R.length cu) (Exts.joinedR (l.take (j + 1)))) := Lib.hid (by
              rw [hnx'.out]
              unfold OwnExts
              rw [List.length_set]
              exact OS.out)
            have B5 : Hid (Below w.heap.size w (((wr.drewN nq).drew).setCell ⟨g, m * 3 + 2, none⟩ (.int .i64 (zc + xc)))) := Lib.hid ((below_dr hb.out).drew.setCell hg _)
            go_wp2_with fail
            go_region
            all_goals
              go_wp2_with fail
              go_roundw
              case rel => exact ⟨_, j + 1, rfl, by go_num, by omega, O5, B5⟩
              case measure => simp [intOf]; omega
          · have hnx' : Hid (Exts.joinedR (l.take (j + 1)) = R ++ [(xa, xb, xc)]) := Lib.hid (by rw [hnx.out, hcs.out, if_neg (fun h => k2 h.2)])
            clear hnx
            have hnx := hnx'
            have t1 : (za + zc == xa) = true := by simpa using k1
            have t2 : (zb + zc == xb) = false := by simpa using k2
            clear hnx' hcs k1 k2
            go_wp2_with fail
            go_quiet (fail)
            have bA : Below wr.heap.size wr ((wr.drewN nq).alloc (.cells #[.int .i64 xa, .int .i64 xb, .int .i64 xc] 37)) := (below_dr (Below.refl _ _)).alloc (Nat.le_refl _) _
            have G := Lib.hid (show ((wr.drewN nq).alloc (.cells #[.int .i64 xa, .int .i64 xb, .int .i64 xc] 37)).ownsRow w.heap.size 37 3 (.slice (some ⟨g, 0, none⟩) R.length cu) R.length (ecells R) from app.out _ bA)
            have NN := Lib.hid (show ∀ jj uu, [Value.int .i64 xa, .int .i64 xb, .int .i64 xc][jj]? = some uu → ((wr.drewN nq).alloc (.cells #[.int .i64 xa, .int .i64 xb, .int .i64 xc] 37)).cell? ((⟨wr.heap.size, 0, none⟩ : Addr).add jj) = some uu from fun jj uu hjj => by
              have hadd : (⟨wr.heap.size, 0, none⟩ : Addr).add jj = ⟨wr.heap.size, jj, none⟩ := by unfold Addr.add; split <;> simp_all
              rw [hadd]
              exact (World.cell?_alloc_at (w := wr.drewN nq) _ _ _ jj rfl).trans (by simpa using hjj))
            have HB2 := Lib.hid (hb.out.trans (bA.mono hbz))
            have hcx := Lib.hid (And.intro c0 (And.intro c1 c2))
            clear bA
            go_wp2_with (first
              | (at_builtin; refine wpList_append_own _ rfl _ _ 22 rfl w.heap.size 37 i0' (.agg #[.int .i64 0, .int .i64 0, .int .i64 0]) 3 24 Try.underlying22 hi0 hz0 hz1 hz2 rfl (by decide) _ R.length _ rfl G.out ⟨wr.heap.size, 0, none⟩ 1 1 [.int .i64 xa, .int .i64 xb, .int .i64 xc] rfl rfl NN.out hone (by unfold maxLen; omega) (by omega) (by simp; omega) ?_))
            intro v' w5 hown hgrow _
            have B5 : Hid (Below w.heap.size w w5) := Lib.hid (HB2.out.grown hgrow (by simp; omega) (fun k hk => hown0.out k hk))
            have O5 : Hid (OwnExts w.heap.size w5 v' (R ++ [(xa, xb, xc)])) := Lib.hid (by
              unfold OwnExts
              rw [ecells_append, List.length_append]
              exact hown)
            rw [← hnx.out] at O5
            clear hown hgrow NN G HB2
            go_wp2_with fail
            go_roundw
            case rel => exact ⟨v', j + 1, rfl, by go_num, by omega, O5, B5⟩
            case measure => simp [intOf]; omega
        · have hnx' : Hid (Exts.joinedR (l.take (j + 1)) = R ++ [(xa, xb, xc)]) := Lib.hid (by rw [hnx.out, hcs.out, if_neg (fun h => k1 h.1)])
          clear hnx
          have hnx := hnx'
          have t1 : (za + zc == xa) = false := by simpa using k1
          clear hnx' hcs k1
          go_wp2_with fail
          go_quiet (fail)
          have bA : Below wr.heap.size wr ((wr.drewN nq).alloc (.cells #[.int .i64 xa, .int .i64 xb, .int .i64 xc] 37)) := (below_dr (Below.refl _ _)).alloc (Nat.le_refl _) _
          have G := Lib.hid (show ((wr.drewN nq).alloc (.cells #[.int .i64 xa, .int .i64 xb, .int .i64 xc] 37)).ownsRow w.heap.size 37 3 (.slice (some ⟨g, 0, none⟩) R.length cu) R.length (ecells R) from app.out _ bA)
          have NN := Lib.hid (show ∀ jj uu, [Value.int .i64 xa, .int .i64 xb, .int .i64 xc][jj]? = some uu → ((wr.drewN nq).alloc (.cells #[.int .i64 xa, .int .i64 xb, .int .i64 xc] 37)).cell? ((⟨wr.heap.size, 0, none⟩ : Addr).add jj) = some uu from fun jj uu hjj => by
            have hadd : (⟨wr.heap.size, 0, none⟩ : Addr).add jj = ⟨wr.heap.size, jj, none⟩ := by unfold Addr.add; split <;> simp_all
            rw [hadd]
            exact (World.cell?_alloc_at (w := wr.drewN nq) _ _ _ jj rfl).trans (by simpa using hjj))
          have HB2 := Lib.hid (hb.out.trans (bA.mono hbz))
          have hcx := Lib.hid (And.intro c0 (And.intro c1 c2))
          clear bA
          go_wp2_with (first
            | (at_builtin; refine wpList_append_own _ rfl _ _ 22 rfl w.heap.size 37 i0' (.agg #[.int .i64 0, .int .i64 0, .int .i64 0]) 3 24 Try.underlying22 hi0 hz0 hz1 hz2 rfl (by decide) _ R.length _ rfl G.out ⟨wr.heap.size, 0, none⟩ 1 1 [.int .i64 xa, .int .i64 xb, .int .i64 xc] rfl rfl NN.out hone (by unfold maxLen; omega) (by omega) (by simp; omega) ?_))
          intro v' w5 hown hgrow _
          have B5 : Hid (Below w.heap.size w w5) := Lib.hid (HB2.out.grown hgrow (by simp; omega) (fun k hk => hown0.out k hk))
          have O5 : Hid (OwnExts w.heap.size w5 v' (R ++ [(xa, xb, xc)])) := Lib.hid (by
            unfold OwnExts
            rw [ecells_append, List.length_append]
            exact hown)
          rw [← hnx.out] at O5
          clear hown hgrow NN G HB2
          go_wp2_with fail
          go_roundw
          case rel => exact ⟨v', j + 1, rfl, by go_num, by omega, O5, B5⟩
          case measure => simp [intOf]; omega
    · obtain rfl : j = l.length := by omega
      have ho' := Lib.hid ho.out
      rw [List.take_length] at ho'
      clear ho
      go_wp2_with fail
      go_ret
      exact ⟨_, rfl, ho'.out, hb.out⟩

end Go.Proofs.Ytgpjldmndibalaa
