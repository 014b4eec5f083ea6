/- The document's cache: its device, New, the blocks. -/
import Derived.Test.YtlickjaopbcanaaRefCacheP
namespace Go.Proofs.Ytlickjaopbcanaa
open Go Go.RowKit Bufs
variable {B rc rd : Nat} {w w' w1 w2 : World} {z : RLay} {D D' D1 D2 : Dev} {most k : Nat} {l l' l1 l2 : PL} {v v' v1 : Value}

theorem rcarm_any (h : RCD B w rc rd z D most l v) (n : Int) (hn : -9223372036854775808 ≤ n ∧ n ≤ 9223372036854775807) : Calls Try.prog 70 #[.pointer (some ⟨rd, 0, none⟩), .int .i64 n] w fun e w' => e = .returned (.tuple #[]) ∧ RGo B w w' rc rd z v (D.arm n) most l := by
  refine (rarm_any h.dev n hn).mono ?_
  rintro e w' ⟨rfl, h1, h2⟩
  exact ⟨rfl, RGo.dev h h2 (fun k hk => by rw [List.mem_singleton.1 hk]; simp [rblocks]) h1⟩
theorem rcflush_any (h : RCD B w rc rd z D most l v) (ho : D.Ok k) (hk : k ≤ 900000000000) : Calls Try.prog 71 #[.pointer (some ⟨rd, 0, none⟩)] w fun e w' => e = .returned (.int .i64 D.flushE) ∧ RGo B w w' rc rd z v D.flush most l := by
  refine (rflush_any h.dev (by have := ho.acts; omega)).mono ?_
  rintro e w' ⟨rfl, h1, h2⟩
  exact ⟨rfl, RGo.dev h h2 (fun k hk => by
    simp only [List.mem_cons, List.not_mem_nil, or_false] at hk
    rcases hk with rfl | rfl | rfl <;> simp [rblocks]) h1⟩
theorem rcwrite_any (h : RCD B w rc rd z D most l v) (ho : D.Ok k) (hk : k ≤ 900000000000) (i : Int) (t : ByteArray) (ht : t.size ≤ 9223372036854775807) : Calls Try.prog 72 #[.pointer (some ⟨rd, 0, none⟩), .int .i64 i, .string t] w fun e w' => e = .returned (.int .i64 (D.writeE i t)) ∧ RGo B w w' rc rd z v (D.write i t) most l := by
  refine (rwrite_any h.dev i t ht (by have := ho.acts; omega)).mono ?_
  rintro e w' ⟨rfl, h1, h2⟩
  exact ⟨rfl, RGo.dev h h2 (fun k hk => by
    simp only [List.mem_cons, List.not_mem_nil, or_false] at hk
    rcases hk with rfl | rfl | rfl <;> simp [rblocks]) h1⟩
/-! ### New -/
set_option maxRecDepth 100000 in
theorem rcnew_none (cap : Int) : Calls Try.prog 34 #[.pointer none, .int .i64 cap] w fun e w' => e = .returned (.tuple #[.pointer none, .int .i64 1]) ∧ w = w' := by
  go_enter Try.func34, Try.ntmps34
  go_wp2_with fail
  exact bodyPost_ret (v := .tuple #[.pointer none, .int .i64 1]) (by simp [results, Try.results34, go_sem]) rfl ⟨rfl, rfl⟩
set_option maxRecDepth 100000 in
theorem rcnew_arg (h : RefAt B w rd z D) (m : Int) (hm : ¬ (1 ≤ m ∧ m ≤ 256)) : Calls Try.prog 34 #[.pointer (some ⟨rd, 0, none⟩), .int .i64 m] w fun e w' => e = .returned (.tuple #[.pointer none, .int .i64 2]) ∧ w = w' := by
  have q := Lib.hid (rblocks_any h)
  have hp := h.pos
  have hn0 : ¬ ((D.kept.length : Int) = 0) := by omega
  have hn1 : ((D.kept.length : Int) == 0) = false := by rw [beq_eq_false_iff_ne]; exact hn0
  clear h
  generalize D.kept.length = n at *
  by_cases c : m < 1
  · go_enter Try.func34, Try.ntmps34
    go_wp2_with fail
    (with_reducible refine q.out.mono ?_)
    rintro e w' ⟨rfl, rfl⟩
    go_wp2_with fail
    exact bodyPost_ret (v := .tuple #[.pointer none, .int .i64 2]) (by simp [results, Try.results34, go_sem]) rfl ⟨rfl, rfl⟩
  · have c2 : 256 < m := by omega
    go_enter Try.func34, Try.ntmps34
    go_wp2_with fail
    (with_reducible refine q.out.mono ?_)
    rintro e w' ⟨rfl, rfl⟩
    go_wp2_with fail
    exact bodyPost_ret (v := .tuple #[.pointer none, .int .i64 2]) (by simp [results, Try.results34, go_sem]) rfl ⟨rfl, rfl⟩
theorem RCD.laid (h : RefAt B w rd z D) (hm : 1 ≤ most ∧ most ≤ 256) : RCD B (w.alloc (.cells #[.pointer (some ⟨rd, 0, none⟩), .int .i64 most, .slice none 0 0] 101)) w.heap.size rd z D most [] (.slice none 0 0) := by
  have hb := rblocks_lt h
  have hB : B ≤ w.heap.size := by have := h.own; have := h.cells.lt; omega
  exact ⟨hB, Row.new w _ [_, _, _] rfl, World.ownsRow_nil _ _ _ _, by simp [Value.ownBlock], h.below ((Below.refl _ _).alloc (Nat.le_refl _) _), fun hk => by have := (hb _ hk).2; omega, (fun _ hk => by simp [Value.ownBlock] at hk), List.Pairwise.nil, by simp, hm⟩
set_option maxRecDepth 100000 in
theorem rcnew_any (h : RefAt B w rd z D) (hm : 1 ≤ most ∧ most ≤ 256) : Calls Try.prog 34 #[.pointer (some ⟨rd, 0, none⟩), .int .i64 most] w fun e w' => ∃ rc, e = .returned (.tuple #[.pointer (some ⟨rc, 0, none⟩), .int .i64 0]) ∧ RCD B w' rc rd z D most [] (.slice none 0 0) ∧ w.heap.size ≤ rc ∧ Below w.heap.size w w' := by
  have q := Lib.hid (rblocks_any h)
  have HE := Lib.hid (RCD.laid h hm)
  have hp := h.pos
  have hn0 : ¬ ((D.kept.length : Int) = 0) := by omega
  have hn1 : ((D.kept.length : Int) == 0) = false := by rw [beq_eq_false_iff_ne]; exact hn0
  have hm2 : ¬ ((most : Int) < 1) := by omega
  have hm3 : ¬ (256 < (most : Int)) := by omega
  clear h hm
  generalize D.kept.length = n at *
  go_enter Try.func34, Try.ntmps34
  go_wp2_with fail
  (with_reducible refine q.out.mono ?_)
  rintro e w' ⟨rfl, rfl⟩
  go_wp2_with fail
  exact bodyPost_ret (v := .tuple #[.pointer (some ⟨w.heap.size, 0, none⟩), .int .i64 0]) (by simp [results, Try.results34, go_sem]) rfl ⟨_, rfl, HE.out, Nat.le_refl _, (Below.refl _ _).alloc (Nat.le_refl _) _⟩
/-! ### The blocks -/
def soOf (d p : Bool) (x : PB) : Bool := (!d || x.dirty) && (!p || x.pinned)
set_option maxRecDepth 100000 in
set_option maxHeartbeats 4000000 in
theorem rlist_any (h : RCD B w rc rd z D most l v) (hB : Buffers D.kept.length most l) (d p : Bool) : Calls Try.prog 36 #[.pointer (some ⟨rc, 0, none⟩), .bool d, .bool p] w fun e w' => ∃ u, e = .returned u ∧ w'.ownsRow w.heap.size 3 1 u (blocksOf l (soOf d p) D.kept.length).length (natVs (blocksOf l (soOf d p) D.kept.length)) ∧ Below w.heap.size w w' := by
  obtain ⟨i0, hi0, hz0, hz1, hz2⟩ := info_parts info_int
  have hn := h.dev.pos
  have hlen := h.len
  have hmo := h.most
  have h0 : Hid (blocksOf l (soOf d p) 0 = []) := Lib.hid rfl
  have hS := Lib.hid (blocksOf_succ l (soOf d p))
  have H := Lib.hid h
  have hkl : Hid (D.kept.length = D.kept.length) := Lib.hid rfl
  obtain ⟨ad, cap, hv, hf⟩ := h.form
  have PC := Lib.hid (fun b => place_cases (D := D) h.bs hB.lt b)
  have HN : Hid (∀ wr, Below w.heap.size w wr → wr.cell? ⟨rc, 0, none⟩ = some (.pointer (some ⟨rd, 0, none⟩)) ∧ wr.cell? ⟨rc, 2, none⟩ = some v ∧ Calls Try.prog 63 #[.pointer (some ⟨rd, 0, none⟩)] wr fun e w' => e = .returned (.int .i64 D.kept.length) ∧ wr = w') := Lib.hid (fun wr hb => ⟨(H.out.below hb).c0, (H.out.below hb).c2, rblocks_any (H.out.below hb).dev⟩)
  have hF : Hid (∀ x, soOf d p x = ((!d || x.dirty) && (!p || x.pinned))) := Lib.hid (fun _ => rfl)
  clear h hB
  generalize soOf d p = f at *
  generalize D.kept.length = n at *
  go_enter Try.func36, Try.ntmps36
  go_wp2_with fail
  go_loopw [7, 8] (fun u q wr => ∃ (j : Nat) (u' : Value), j ≤ n ∧ u' = u ∧ q = .int .i64 j ∧ Hid (wr.ownsRow w.heap.size 3 1 u' (blocksOf l f j).length (natVs (blocksOf l f j))) ∧ Hid (Below w.heap.size w wr)) (fun _ q _ => n - (intOf q).toNat)
  case atStart => exact ⟨0, _, by omega, rfl, rfl, Lib.hid (by rw [h0.out]; exact World.ownsRow_nil _ _ _ _), Lib.hid (Below.refl _ _)⟩
  case round =>
    obtain ⟨j, u, hj, rfl, rfl, hg, hbw⟩ := hrel
    obtain ⟨c0, c2, qb⟩ := HN.out wr hbw.out
    have qb := Lib.hid qb
    have hR := H.out.below hbw.out
    by_cases hlt : j < n
    · have i0' : (0 : Int) ≤ (j : Int) := by omega
      have i1 : (j : Int) < (n : Int) := by omega
      have hl := blocksOf_length l f j
      rcases PC.out (j : Int) with ⟨i, x, hp, hbf, hxb, hxn, hgx⟩ | ⟨hno, hbf, hgn⟩
      · have hxj : x.b = j := by omega
        rw [hxj] at hgx
        have q := Lib.hid (place_yes hR (j : Int) hp)
        have hil := hp.lt
        obtain ⟨g, rfl⟩ := hf (by omega)
        subst hv
        have k2 := hR.buf hp.at' 2 _ (by omega) rfl
        have k3 := hR.buf hp.at' 3 _ (by omega) rfl
        have j0 : (0 : Int) ≤ (i : Int) := by omega
        have j1 : (i : Int) < (l.length : Int) := by omega
        have hsucc := hS.out j
        rw [hgx] at hsucc
        have hsucc : blocksOf l f (j + 1) = if f x = true then blocksOf l f j ++ [j] else blocksOf l f j := hsucc
        have hso := hF.out x
        generalize x.dirty = xd at *
        generalize x.pinned = xp at *
        generalize f x = so at *
        clear hp hbf hgx hR hxb hxn hS PC HN hF
        have hone : ∀ u ∈ ([.int .i64 (j : Int)] : List Value), u.oneCell' = true := by simp [Value.oneCell']
        have hbs := hbw.out.size
        cases d <;> cases p <;> cases xd <;> cases xp
        all_goals
          subst hso
          first
          | (have hr : Hid (blocksOf l f (j + 1) = blocksOf l f j) := Lib.hid (by rw [hsucc, if_neg (by decide)])
             clear hsucc hone
             go_wp2_with fail
             (with_reducible refine qb.out.mono ?_)
             rintro e w2 ⟨rfl, rfl⟩
             clear qb
             go_wp2_with fail
             (with_reducible refine q.out.mono ?_)
             rintro e w2 ⟨rfl, rfl⟩
             clear q
             go_wp2_with fail
             go_roundw
             case rel => exact ⟨j + 1, _, by omega, rfl, by go_num, by rw [hr.out]; exact hg, hbw⟩
             case measure => simp [intOf]; omega)
          | (have hr : Hid (blocksOf l f (j + 1) = blocksOf l f j ++ [j]) := Lib.hid (by rw [hsucc, if_pos (by decide)])
             clear hsucc
             generalize blocksOf l f j = P at *
             go_wp2_with fail
             (with_reducible refine qb.out.mono ?_)
             rintro e w2 ⟨rfl, rfl⟩
             clear qb
             go_wp2_with fail
             (with_reducible refine q.out.mono ?_)
             rintro e w2 ⟨rfl, rfl⟩
             clear q
             go_wp2_with (first
               | (at_builtin; refine wpList_append_own _ rfl _ _ 28 rfl w.heap.size 3 i0 (.int .i64 0) 1 8 Try.underlying28 hi0 hz0 hz1 hz2 rfl (by decide) _ P.length _ rfl (hg.out.alloc _) ⟨wr.heap.size, 0, none⟩ 1 1 [.int .i64 j] rfl rfl
                   (World.news_of_block (heap_alloc_new _ _)) hone (by unfold maxLen; omega) (by omega) (by simp; omega) ?_))
             intro v' w1 hown hgrow _
             have hW : Below w.heap.size w w1 := (hbw.out.alloc hbs (.cells #[.int .i64 j] 3)).grown hgrow (by simp; omega) (fun k hk => (hg.out.lt k hk).1)
             have hG : Hid (w1.ownsRow w.heap.size 3 1 v' (P ++ [j]).length (natVs (P ++ [j]))) := Lib.hid (by
               have e : natVs (P ++ [j]) = natVs P ++ [.int .i64 (j : Int)] := by simp [natVs]
               rw [e, List.length_append]; exact hown)
             have hW := Lib.hid hW
             clear hown hgrow
             go_wp2_with fail
             go_roundw
             case rel => exact ⟨j + 1, v', by omega, rfl, by go_num, by rw [hr.out]; exact hG, hW⟩
             case measure => simp [intOf]; omega)
      · have hr : Hid (blocksOf l f (j + 1) = blocksOf l f j) := Lib.hid (by rw [hS.out, hgn j rfl hlt]; simp)
        have q := Lib.hid (place_no hR (j : Int) hno)
        clear hno hbf hgn hR
        go_wp2_with fail
        (with_reducible refine qb.out.mono ?_)
        rintro e w2 ⟨rfl, rfl⟩
        clear qb
        go_wp2_with fail
        (with_reducible refine q.out.mono ?_)
        rintro e w2 ⟨rfl, rfl⟩
        clear q
        go_wp2_with fail
        go_roundw
        case rel => exact ⟨j + 1, _, by omega, rfl, by go_num, by rw [hr.out]; exact hg, hbw⟩
        case measure => simp [intOf]; omega
    · obtain rfl : j = n := by omega
      clear hR
      go_wp2_with fail
      (with_reducible refine qb.out.mono ?_)
      rintro e w2 ⟨rfl, rfl⟩
      clear qb
      go_wp2_with fail
      go_ret
      exact ⟨_, rfl, hg.out, hbw.out⟩

end Go.Proofs.Ytlickjaopbcanaa
