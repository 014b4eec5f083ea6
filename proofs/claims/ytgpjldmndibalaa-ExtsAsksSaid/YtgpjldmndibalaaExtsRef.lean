/- The document's answers for rows of exts: Check, Blocks, Count, End, Find. -/
import Derived.Test.YtgpjldmndibalaaExtsSets
import Derived.Test.YtgpjldmndibalaaExtsRow2
import Derived.Test.YtgpjldmndibalaaRunsRefNorm
import Derived.StillTailTactics
import Derived.Deep.AppendLies
namespace Go.Proofs.Ytgpjldmndibalaa
open Go Go.RowKit

theorem own_atE {B : Nat} {w : World} {v : Value} {l : EL} {T : TypeId} (h : w.ownsRow B T 3 v l.length (ecells l)) : ExtsAt w v l := by
  rcases h.2 with ⟨rfl, hn⟩ | ⟨g, cap, cur, rfl, hg, hh, h1, h2, h3, h4⟩
  · exact .inl ⟨rfl, List.eq_nil_of_length_eq_zero hn⟩
  · refine .inr ⟨g, 0, cap, rfl, fun j u hu => ?_⟩
    have hj : j < l.length * 3 := by
      have := (List.getElem?_eq_some_iff.1 hu).1
      rwa [ecells_length] at this
    rw [Nat.zero_add]
    have e : (cur.toList.take (l.length * 3))[j]? = some u := by rw [h4]; exact hu
    rw [List.getElem?_take, if_pos hj, Array.getElem?_toList] at e
    simp [World.cell?, hh, e]
theorem ecells_take (l : EL) (j : Nat) (hj : j < l.length) : ecells (l.take (j + 1)) = ecells (l.take j) ++ [.int .i64 (l.getD j (0, 0, 0)).1, .int .i64 (l.getD j (0, 0, 0)).2.1, .int .i64 (l.getD j (0, 0, 0)).2.2] := by
  rw [List.take_succ_eq_append_getElem hj, ecells_append]
  simp [ecells, List.getD, hj]
theorem info_entry : (Try.prog.info? 58).map (fun i => (i.zero, i.size, i.bytes)) = some (some (.agg #[.int .i64 0, .int .i64 0, .int .i64 0]), 3, 24) := by kernel_rfl

set_option maxRecDepth 100000 in
set_option maxHeartbeats 4000000 in
theorem echeck2_any (v : Value) (l : EL) (w : World) (hs : SmallsE l) (h : ExtsAt w v l) (hl : l.length ≤ 1000000) :
    Calls Try.prog 17 #[v] w fun e w' => e = .returned (.bool (Exts.okTo l l.length)) ∧ Below w.heap.size w w' := by
  obtain ⟨i0', hi0, hz0, hz1, hz2⟩ := info_parts info_entry
  have H := Lib.hid h
  have S := Lib.hid hs
  obtain ⟨ad, cap, rfl⟩ : ∃ ad cap, v = .slice ad l.length cap := by
    rcases h with ⟨rfl, rfl⟩ | ⟨b, off, cap, rfl, _⟩
    · exact ⟨_, _, rfl⟩
    · exact ⟨_, _, rfl⟩
  clear h hs
  have O0 : Hid (w.ownsRow w.heap.size 58 3 (.slice none 0 0) 0 (ecells (l.take 0))) := Lib.hid (World.ownsRow_nil _ _ _ _)
  go_enter Try.func17, Try.ntmps17
  go_wp2_with fail
  go_loopw [3, 4] (fun p q wr => ∃ (u : Value) (j : Nat), u = p ∧ q = .int .i64 j ∧ j ≤ l.length ∧ Hid (wr.ownsRow w.heap.size 58 3 u j (ecells (l.take j))) ∧ Hid (Below w.heap.size w wr)) (fun _ q _ => l.length - (intOf q).toNat)
  case atStart => exact ⟨_, 0, rfl, rfl, by omega, O0, Lib.hid (Below.refl _ _)⟩
  case round =>
    obtain ⟨u, j, rfl, rfl, hj, ho, hb⟩ := hrel
    by_cases hlt : j < l.length
    · have i0 : (0 : Int) ≤ (j : Int) := by omega
      have i1 : (j : Int) < (l.length : Int) := by omega
      obtain ⟨hll, g, off, rfl, c0, c1, c2⟩ := (H.out.below (B := 0) hb.out).cells j hlt
      clear hll
      obtain ⟨hll, g', off', e', e0, e1, e2⟩ := H.out.cells j hlt
      cases e'
      clear hll
      have hnx := Lib.hid (ecells_take l j hlt)
      have hbz := hb.out.size
      generalize l.getD j (0, 0, 0) = x at *
      obtain ⟨xa, xb, xc⟩ := x
      dsimp only at *
      have hone := ecells_one [(xa, xb, xc)]
      have c2' := c0
      have bA : Below wr.heap.size wr ((wr.alloc (.cells #[.int .i64 xa, .int .i64 xb, .int .i64 xc] 58)).drew) := (below_box (Below.refl _ _) _).drew
      have G := Lib.hid (show (((wr.alloc (.cells #[.int .i64 xa, .int .i64 xb, .int .i64 xc] 58)).drew)).ownsRow w.heap.size 58 3 u j (ecells (l.take j)) from own_belowR ho.out bA)
      have NN := Lib.hid (show ∀ jj uu, [.int .i64 xa, .int .i64 xb, .int .i64 xc][jj]? = some uu → (((wr.alloc (.cells #[.int .i64 xa, .int .i64 xb, .int .i64 xc] 58)).drew)).cell? ((⟨wr.heap.size, 0, none⟩ : Addr).add jj) = some uu from fun jj uu hjj => by
        have hadd : (⟨wr.heap.size, 0, none⟩ : Addr).add jj = ⟨wr.heap.size, jj, none⟩ := by unfold Addr.add; split <;> simp_all
        rw [hadd]
        exact (World.cell?_alloc_at (w := wr) _ _ _ jj rfl).trans (by simpa using hjj))
      have hown0 : Hid (∀ k, u.ownBlock = some k → w.heap.size ≤ k) := Lib.hid (fun k hk => (World.ownsRow.lt ho.out k hk).1)
      have HBA : Below w.heap.size w ((wr.alloc (.cells #[.int .i64 xa, .int .i64 xb, .int .i64 xc] 58)).drew) := hb.out.trans (bA.mono hbz)
      have HB0 : Below w.heap.size w wr.drew := hb.out.drew
      have hg0 : g < w.heap.size := World.block_lt_of_cell? _ _ e0
      have KEEP : Hid (∀ wz, Below w.heap.size w wz → wz.cell? ⟨g, off + j * 3, none⟩ = some (.int .i64 xa) ∧ wz.cell? ⟨g, off + j * 3 + 1, none⟩ = some (.int .i64 xb) ∧ wz.cell? ⟨g, off + j * 3 + 2, none⟩ = some (.int .i64 xc)) := Lib.hid (fun wz hz => ⟨(hz.cell (p := ⟨g, off + j * 3, none⟩) hg0).trans e0, (hz.cell (p := ⟨g, off + j * 3 + 1, none⟩) hg0).trans e1, (hz.cell (p := ⟨g, off + j * 3 + 2, none⟩) hg0).trans e2⟩)
      clear bA ho hb c2' c0 c1 c2 e0 e1 e2
      go_wp2_with fail
      go_region_held3 (fun w' => w'.cell? ⟨g, off + j * 3, none⟩ = some (.int .i64 xa) ∧ w'.cell? ⟨g, off + j * 3 + 1, none⟩ = some (.int .i64 xb) ∧ w'.cell? ⟨g, off + j * 3 + 2, none⟩ = some (.int .i64 xc))
        (first | (refine KEEP.out _ ?_; assumption))
        ((refine step_append_lies _ (by rfl) _ _ _ (by rfl) w.heap.size 58 i0' (.agg #[.int .i64 0, .int .i64 0, .int .i64 0]) 3 24 Try.underlying57 hi0 hz0 hz1 hz2 rfl (by omega) u j _ (by rfl) G.out ⟨wr.heap.size, 0, none⟩ 1 1 [.int .i64 xa, .int .i64 xb, .int .i64 xc] (by rfl) (by rfl) NN.out hone (by omega) (by unfold maxLen; omega) (by omega) (by simp; omega) (wr.heap.size + 1) (by simp) ?_; intro g5 c5 w5 hown hgrow hat hlt5; have B5 : Below w.heap.size w w5 := HBA.grown hgrow (by simp; omega) (fun k hk => hown0.out k hk)))
      have B5 := Lib.hid B5
      have O5 : Hid (w5.ownsRow w.heap.size 58 3 (.slice (some ⟨g5, 0, none⟩) (j + 1) c5) (j + 1) (ecells (l.take (j + 1)))) := Lib.hid (by rw [hnx.out]; exact hown)
      clear hown hgrow NN G KEEP HBA HB0 hat hlt5
      go_wp2_with fail
      go_roundw
      case rel => exact ⟨_, j + 1, rfl, by go_num, by omega, O5, B5⟩
      case measure => simp [intOf]; omega
    · obtain rfl : j = l.length := by omega
      have ho' := ho.out
      rw [List.take_length] at ho'
      have q := Lib.hid (erow2_any u l wr S.out (own_atE ho') (by omega))
      clear ho' ho
      go_wp2_with fail
      refine q.out.mono ?_
      rintro e w6 ⟨rfl, b6⟩
      have B6 := Lib.hid (hb.out.trans (b6.mono hb.out.size))
      clear b6
      go_wp2_with fail
      go_ret
      exact ⟨rfl, B6.out⟩

set_option maxRecDepth 100000 in
set_option maxHeartbeats 4000000 in
theorem eblocks2_any (v : Value) (l : EL) (w : World) (hs : SmallsE l) (h : ExtsAt w v l) (hl : l.length ≤ 1000000) :
    Calls Try.prog 15 #[v] w fun e w' => ∃ v', e = .returned v' ∧ OwnRuns w.heap.size w' v' (Exts.blocksR l) ∧ Below w.heap.size w w' := by
  have q := Lib.hid (echeck2_any v l w hs h hl)
  have H := Lib.hid h
  obtain ⟨ad, cap, rfl⟩ : ∃ ad cap, v = .slice ad l.length cap := by
    rcases h with ⟨rfl, rfl⟩ | ⟨b, off, cap, rfl, _⟩
    · exact ⟨_, _, rfl⟩
    · exact ⟨_, _, rfl⟩
  obtain ⟨i0', hi0, hz0, hz1, hz2⟩ := info_parts info_run
  cases hok : Exts.okTo l l.length
  · rw [hok] at q
    have hE := Lib.hid (Exts.blocks_bad hok)
    clear h hok
    go_enter Try.func15, Try.ntmps15
    go_wp2_with fail
    refine q.out.mono ?_
    rintro e w1 ⟨rfl, b1⟩
    have B1 := Lib.hid b1
    have B2 : Hid (OwnRuns w.heap.size w1 (.slice none 0 0) (Exts.blocksR l)) := Lib.hid (by rw [hE.out]; exact World.ownsRow_nil _ _ _ _)
    clear b1
    go_wp2_with fail
    go_ret
    exact ⟨_, rfl, B2.out, B1.out⟩
  · rw [hok] at q
    have HR := Lib.hid (Exts.check_row.1 hok)
    have hE := Lib.hid (Exts.blocks_ok HR.out)
    clear h hok
    go_enter Try.func15, Try.ntmps15
    go_wp2_with fail
    refine q.out.mono ?_
    rintro e w1 ⟨rfl, b1⟩
    have B1 := Lib.hid b1
    have O0 : Hid (w1.ownsRow w.heap.size 32 2 (.slice none 0 0) 0 (rcells ((l.take 0).map Exts.run))) := Lib.hid (World.ownsRow_nil _ _ _ _)
    clear b1 q
    go_wp2_with fail
    go_loopw [3, 4] (fun p q wr => ∃ (u : Value) (j : Nat), u = p ∧ q = .int .i64 j ∧ j ≤ l.length ∧ Hid (wr.ownsRow w.heap.size 32 2 u j (rcells ((l.take j).map Exts.run))) ∧ Hid (Below w.heap.size w wr)) (fun _ q _ => l.length - (intOf q).toNat)
    case atStart => exact ⟨_, 0, rfl, rfl, by omega, O0, B1⟩
    case round =>
      obtain ⟨u, j, rfl, rfl, hj, ho, hb⟩ := hrel
      clear O0 B1
      by_cases hlt : j < l.length
      · have i0 : (0 : Int) ≤ (j : Int) := by omega
        have i1 : (j : Int) < (l.length : Int) := by omega
        obtain ⟨hll, g, off, rfl, c0, c1, c2⟩ := (H.out.below (B := 0) hb.out).cells j hlt
        clear hll
        obtain ⟨hll, g', off', e', e0, e1, e2⟩ := H.out.cells j hlt
        cases e'
        clear hll
        have hnx := Lib.hid (run_take l j hlt)
        have hbz := hb.out.size
        generalize l.getD j (0, 0, 0) = x at *
        obtain ⟨xa, xb, xc⟩ := x
        dsimp only at *
        have hone := rcells_one [(xb, xc)]
        have c2' := c0
        have bA : Below wr.heap.size wr ((wr.alloc (.cells #[.int .i64 xb, .int .i64 xc] 32)).drew) := (below_box (Below.refl _ _) _).drew
        have G := Lib.hid (show (((wr.alloc (.cells #[.int .i64 xb, .int .i64 xc] 32)).drew)).ownsRow w.heap.size 32 2 u j (rcells ((l.take j).map Exts.run)) from own_belowR ho.out bA)
        have NN := Lib.hid (show ∀ jj uu, [.int .i64 xb, .int .i64 xc][jj]? = some uu → (((wr.alloc (.cells #[.int .i64 xb, .int .i64 xc] 32)).drew)).cell? ((⟨wr.heap.size, 0, none⟩ : Addr).add jj) = some uu from fun jj uu hjj => by
          have hadd : (⟨wr.heap.size, 0, none⟩ : Addr).add jj = ⟨wr.heap.size, jj, none⟩ := by unfold Addr.add; split <;> simp_all
          rw [hadd]
          exact (World.cell?_alloc_at (w := wr) _ _ _ jj rfl).trans (by simpa using hjj))
        have hown0 : Hid (∀ k, u.ownBlock = some k → w.heap.size ≤ k) := Lib.hid (fun k hk => (World.ownsRow.lt ho.out k hk).1)
        have HBA : Below w.heap.size w ((wr.alloc (.cells #[.int .i64 xb, .int .i64 xc] 32)).drew) := hb.out.trans (bA.mono hbz)
        have HB0 : Below w.heap.size w wr.drew := hb.out.drew
        have hg0 : g < w.heap.size := World.block_lt_of_cell? _ _ e0
        have KEEP : Hid (∀ wz, Below w.heap.size w wz → wz.cell? ⟨g, off + j * 3, none⟩ = some (.int .i64 xa) ∧ wz.cell? ⟨g, off + j * 3 + 1, none⟩ = some (.int .i64 xb) ∧ wz.cell? ⟨g, off + j * 3 + 2, none⟩ = some (.int .i64 xc)) := Lib.hid (fun wz hz => ⟨(hz.cell (p := ⟨g, off + j * 3, none⟩) hg0).trans e0, (hz.cell (p := ⟨g, off + j * 3 + 1, none⟩) hg0).trans e1, (hz.cell (p := ⟨g, off + j * 3 + 2, none⟩) hg0).trans e2⟩)
        clear bA ho hb c2' c0 c1 c2 e0 e1 e2
        go_wp2_with fail
        go_region_held3 (fun w' => w'.cell? ⟨g, off + j * 3, none⟩ = some (.int .i64 xa) ∧ w'.cell? ⟨g, off + j * 3 + 1, none⟩ = some (.int .i64 xb) ∧ w'.cell? ⟨g, off + j * 3 + 2, none⟩ = some (.int .i64 xc))
          (first | (refine KEEP.out _ ?_; assumption))
          ((refine step_append_lies _ (by rfl) _ _ _ (by rfl) w.heap.size 32 i0' (.agg #[.int .i64 0, .int .i64 0]) 2 16 Try.underlying26 hi0 hz0 hz1 hz2 rfl (by omega) u j _ (by rfl) G.out ⟨wr.heap.size, 0, none⟩ 1 1 [.int .i64 xb, .int .i64 xc] (by rfl) (by rfl) NN.out hone (by omega) (by unfold maxLen; omega) (by omega) (by simp; omega) (wr.heap.size + 1) (by simp) ?_; intro g5 c5 w5 hown hgrow hat hlt5; have B5 : Below w.heap.size w w5 := HBA.grown hgrow (by simp; omega) (fun k hk => hown0.out k hk)))
        have B5 := Lib.hid B5
        have O5 : Hid (w5.ownsRow w.heap.size 32 2 (.slice (some ⟨g5, 0, none⟩) (j + 1) c5) (j + 1) (rcells ((l.take (j + 1)).map Exts.run))) := Lib.hid (by rw [hnx.out, rcells_append (List.map Exts.run (List.take j l))]; exact hown)
        clear hown hgrow NN G KEEP HBA HB0 hat hlt5
        go_wp2_with fail
        go_roundw
        case rel => exact ⟨_, j + 1, rfl, by go_num, by omega, O5, B5⟩
        case measure => simp [intOf]; omega
      · obtain rfl : j = l.length := by omega
        have ho' : OwnRuns w.heap.size wr u (l.map Exts.run) := by
          have := ho.out
          rw [List.take_length] at this
          unfold OwnRuns
          rw [List.length_map]
          exact this
        have q2 := Lib.hid (normal2_any u (l.map Exts.run) wr (smalls_run HR.out) (OwnRuns.at ho') (by rw [List.length_map]; omega))
        clear ho' ho
        go_wp2_with fail
        refine q2.out.mono ?_
        rintro e w6 ⟨v6, rfl, o6, b6⟩
        have B6 := Lib.hid (hb.out.trans (b6.mono hb.out.size))
        have O6 : Hid (OwnRuns w.heap.size w6 v6 (Exts.blocksR l)) := Lib.hid (by rw [hE.out]; exact World.ownsRow.mono o6 hb.out.size)
        clear o6 b6
        go_wp2_with fail
        go_ret
        exact ⟨_, rfl, O6.out, B6.out⟩

set_option maxRecDepth 100000 in
set_option maxHeartbeats 4000000 in
theorem eEnd2_any (v : Value) (l : EL) (w : World) (hs : SmallsE l) (h : ExtsAt w v l) (hl : l.length ≤ 1000000) :
    Calls Try.prog 20 #[v] w fun e w' => e = .returned (.int .i64 (Exts.endR l)) ∧ Below w.heap.size w w' := by
  have q := Lib.hid (echeck2_any v l w hs h hl)
  have H := Lib.hid h
  obtain ⟨ad, cap, rfl⟩ : ∃ ad cap, v = .slice ad l.length cap := by
    rcases h with ⟨rfl, rfl⟩ | ⟨b, off, cap, rfl, _⟩
    · exact ⟨_, _, rfl⟩
    · exact ⟨_, _, rfl⟩
  cases hok : Exts.okTo l l.length
  · rw [hok] at q
    have hE := Lib.hid (Exts.endR_bad l hok)
    clear h hok
    go_enter Try.func20, Try.ntmps20
    go_wp2_with fail
    refine q.out.mono ?_
    rintro e w1 ⟨rfl, b1⟩
    have B1 := Lib.hid b1
    clear b1
    go_wp2_with fail
    go_ret
    exact ⟨by rw [hE.out]; rfl, B1.out⟩
  · rw [hok] at q
    by_cases hn : l.length = 0
    · have hE : Hid (Exts.endR l = 0) := Lib.hid (by rw [List.eq_nil_of_length_eq_zero hn]; rfl)
      have hb : ((l.length : Int) == 0) = true := by simp [hn]
      clear h hok hn
      go_enter Try.func20, Try.ntmps20
      go_wp2_with fail
      refine q.out.mono ?_
      rintro e w1 ⟨rfl, b1⟩
      have B1 := Lib.hid b1
      clear b1
      go_wp2_with fail
      go_ret
      exact ⟨by rw [hE.out]; rfl, B1.out⟩
    · have hE := Lib.hid (Exts.endR_at hok (by omega))
      have hx := (Exts.check_row.1 hok).may (l.getD (l.length - 1) (0, 0, 0)) (by simp [List.getD, show l.length - 1 < l.length by omega])
      have hb : ((l.length : Int) == 0) = false := by rw [beq_eq_false_iff_ne]; omega
      obtain ⟨j, hj⟩ : ∃ j, l.length - 1 = j := ⟨_, rfl⟩
      have k1 : (j : Int) < (l.length : Int) := by omega
      have k2 : (0 : Int) ≤ (j : Int) := by omega
      have kw : IntKind.i64.wrap ((l.length : Int) - 1) = (j : Int) := by rw [IntWalk.i64_in _ (by omega)]; omega
      have kw' : (l.length : Int) - 1 = (j : Int) := by omega
      have HC := Lib.hid (fun w1 (hb : Below w.heap.size w w1) => (H.out.below (B := 0) hb).cells j (by omega))
      rw [hj] at hE hx
      clear h hok hj hn
      go_enter Try.func20, Try.ntmps20
      go_wp2_with fail
      refine q.out.mono ?_
      rintro e w1 ⟨rfl, b1⟩
      obtain ⟨_, g, off, rfl, c0, c1, c2⟩ := HC.out w1 b1
      have B1 := Lib.hid b1
      generalize l.getD j (0, 0, 0) = x at *
      obtain ⟨xa, xb, xc⟩ := x
      unfold Exts.may at hx
      dsimp only at *
      have wx : IntKind.i64.wrap (xa + xc) = xa + xc := IntWalk.i64_in _ (by omega)
      clear b1
      go_wp2_with fail
      go_quiet (fail)
      have B2 := Lib.hid (below_dr (n := nq) B1.out)
      go_wp2_with fail
      go_ret
      exact ⟨by rw [hE.out]; rfl, B2.out⟩

set_option maxRecDepth 100000 in
set_option maxHeartbeats 4000000 in
theorem ecount2_any (v : Value) (l : EL) (w : World) (hs : SmallsE l) (h : ExtsAt w v l) (hl : l.length ≤ 1000000) :
    Calls Try.prog 22 #[v] w fun e w' => e = .returned (.int .i64 (Exts.countR l)) ∧ Below w.heap.size w w' := by
  have H := Lib.hid h
  have S := Lib.hid hs
  obtain ⟨ad, cap, rfl⟩ : ∃ ad cap, v = .slice ad l.length cap := by
    rcases h with ⟨rfl, rfl⟩ | ⟨b, off, cap, rfl, _⟩
    · exact ⟨_, _, rfl⟩
    · exact ⟨_, _, rfl⟩
  have q := Lib.hid (fun w1 (hb : Below w.heap.size w w1) => echeck2_any _ l w1 S.out (H.out.below (B := 0) hb) hl)
  clear h hs
  cases hok : Exts.okTo l l.length
  · have hE : Hid (Exts.countR l = 0) := Lib.hid (by unfold Exts.countR; rw [hok]; rfl)
    simp only [hok] at q
    by_cases hn : l.length = 0
    · have i1 : ¬ (0 : Int) < (l.length : Int) := by omega
      have i2 : decide ((0 : Int) < (l.length : Int)) = false := decide_eq_false i1
      clear hok hn
      go_enter Try.func22, Try.ntmps22
      go_wp2_with fail
      refine wp_loop_rounds 1 ?_
      rw [rounds_succ]
      go_wp2_with fail
      go_ret
      exact ⟨by rw [hE.out]; rfl, Below.refl _ _⟩
    · have i1 : (0 : Int) < (l.length : Int) := by omega
      have q1 := Lib.hid (q.out w (Below.refl _ _))
      clear hok hn q
      go_enter Try.func22, Try.ntmps22
      go_wp2_with fail
      refine wp_loop_rounds 1 ?_
      rw [rounds_succ]
      go_wp2_with fail
      refine q1.out.mono ?_
      rintro e w1 ⟨rfl, b1⟩
      have B1 := Lib.hid b1
      clear b1
      go_wp2_with fail
      go_ret
      exact ⟨by rw [hE.out]; rfl, B1.out⟩
  · have hE : Hid (Exts.countR l = Exts.sumE l) := Lib.hid (by unfold Exts.countR; rw [hok]; rfl)
    simp only [hok] at q
    have HR := Lib.hid (Exts.check_row.1 hok)
    clear hok
    go_enter Try.func22, Try.ntmps22
    go_wp2_with fail
    go_loopw [3, 4] (fun p q wr => ∃ j : Nat, j ≤ l.length ∧ q = .int .i64 j ∧ p = .int .i64 (Exts.sumE (l.take j)) ∧ Hid (Below w.heap.size w wr)) (fun _ q _ => l.length - (intOf q).toNat)
    case atStart => exact ⟨0, by omega, rfl, rfl, Lib.hid (Below.refl _ _)⟩
    case round =>
      obtain ⟨j, hj, rfl, rfl, hb⟩ := hrel
      by_cases hlt : j < l.length
      · have i0 : (0 : Int) ≤ (j : Int) := by omega
        have i1 : (j : Int) < (l.length : Int) := by omega
        have HC := Lib.hid (fun w1 (hb : Below w.heap.size w w1) => (H.out.below (B := 0) hb).cells j hlt)
        have hnx := Lib.hid (Exts.sumE_next l j hlt)
        have hbd := Exts.sumE_bound l HR.out j hj
        have hbd2 := Exts.sumE_bound l HR.out (j + 1) hlt
        rw [hnx.out] at hbd2
        have q1 := Lib.hid (q.out wr hb.out)
        go_wp2_with fail
        refine q1.out.mono ?_
        rintro e w1 ⟨rfl, b1⟩
        have B2 := Lib.hid (hb.out.trans (b1.mono hb.out.size))
        obtain ⟨hll, g, off, rfl, c0, c1, c2⟩ := HC.out w1 B2.out
        clear hll b1 q1
        generalize l.getD j (0, 0, 0) = x at *
        obtain ⟨xa, xb, xc⟩ := x
        dsimp only at *
        generalize Exts.sumE (l.take j) = sm at *
        go_wp2_with fail
        go_roundw
        case rel => exact ⟨j + 1, by omega, by go_num, by rw [hnx.out], B2⟩
        case measure => simp [intOf]; omega
      · obtain rfl : j = l.length := by omega
        have i1 : ¬ (l.length : Int) < (l.length : Int) := by omega
        go_wp2_with fail
        go_ret
        exact ⟨by rw [hE.out]; rfl, hb.out⟩

theorem at_next {l : EL} {t : Int} {j : Nat} (hj : j < l.length) : Exts.at_ (l.drop j) t = if (l.getD j (0, 0, 0)).1 ≤ t ∧ t < Exts.fin (l.getD j (0, 0, 0)) then some ((l.getD j (0, 0, 0)).2.1 + t - (l.getD j (0, 0, 0)).1, Exts.fin (l.getD j (0, 0, 0)) - t) else Exts.at_ (l.drop (j + 1)) t := by
  rw [List.drop_eq_getElem_cons hj, Exts.at_]
  have e : l.getD j (0, 0, 0) = l[j] := by simp [List.getD, hj]
  rw [e]
set_option maxRecDepth 100000 in
set_option maxHeartbeats 4000000 in
theorem efind2_any (v : Value) (l : EL) (t : Int) (w : World) (hs : SmallsE l) (h : ExtsAt w v l) (hl : l.length ≤ 1000000) (ht : -9223372036854775808 ≤ t ∧ t ≤ 9223372036854775807) (p n : Int) (o : Bool) (hf : Exts.findR l t = (p, n, o)) :
    Calls Try.prog 13 #[v, .int .i64 t] w fun e w' => e = .returned (.tuple #[.int .i64 p, .int .i64 n, .bool o]) ∧ Below w.heap.size w w' := by
  have q := Lib.hid (echeck2_any v l w hs h hl)
  have H := Lib.hid h
  obtain ⟨ad, cap, rfl⟩ : ∃ ad cap, v = .slice ad l.length cap := by
    rcases h with ⟨rfl, rfl⟩ | ⟨b, off, cap, rfl, _⟩
    · exact ⟨_, _, rfl⟩
    · exact ⟨_, _, rfl⟩
  cases hok : Exts.okTo l l.length
  · rw [hok] at q
    rw [Exts.findR_bad hok] at hf
    cases hf
    clear h hok
    go_enter Try.func13, Try.ntmps13
    go_wp2_with fail
    refine q.out.mono ?_
    rintro e w1 ⟨rfl, b1⟩
    have B1 := Lib.hid b1
    clear b1
    go_wp2_with fail
    exact bodyPost_ret (v := .tuple #[.int .i64 0, .int .i64 0, .bool false]) (by simp [results, Try.results13, go_sem]) rfl ⟨rfl, B1.out⟩
  · rw [hok] at q
    have hR := Lib.hid (Exts.check_row.1 hok)
    have hA : Hid (∀ r, Exts.at_ l t = r → (r = none → p = 0 ∧ n = 0 ∧ o = false) ∧ (∀ a b, r = some (a, b) → p = a ∧ n = b ∧ o = true)) := Lib.hid (by
      intro r hr
      constructor
      · rintro rfl
        rw [Exts.findR_none hok hr] at hf
        cases hf
        exact ⟨rfl, rfl, rfl⟩
      · rintro a b rfl
        rw [Exts.findR_some hok hr] at hf
        cases hf
        exact ⟨rfl, rfl, rfl⟩)
    clear h hok hf
    go_enter Try.func13, Try.ntmps13
    go_wp2_with fail
    refine q.out.mono ?_
    rintro e w1 ⟨rfl, b1⟩
    have B1 := Lib.hid b1
    clear b1 q
    go_wp2_with fail
    go_loopw [7] (fun q wr => ∃ j : Nat, j ≤ l.length ∧ q = .int .i64 j ∧ Hid (Exts.at_ l t = Exts.at_ (l.drop j) t) ∧ Hid (Below w.heap.size w wr)) (fun q _ => l.length - (intOf q).toNat)
    case atStart => exact ⟨0, by omega, rfl, Lib.hid rfl, B1⟩
    case round =>
      obtain ⟨j, hj, rfl, ha, hb⟩ := hrel
      by_cases hlt : j < l.length
      · have i0 : (0 : Int) ≤ (j : Int) := by omega
        have i1 : (j : Int) < (l.length : Int) := by omega
        obtain ⟨hll, g, off, rfl, c0, c1, c2⟩ := (H.out.below (B := 0) hb.out).cells j hlt
        clear hll
        have hnx := Lib.hid (at_next (t := t) hlt)
        have hm := Exts.row_at hR.out hlt
        have hbz := hb.out.size
        generalize l.getD j (0, 0, 0) = x at *
        obtain ⟨xa, xb, xc⟩ := x
        unfold Exts.may at hm
        unfold Exts.fin at hnx
        dsimp only at *
        have B2 := Lib.hid (hb.out.alloc hbz (.cells #[.int .i64 xa, .int .i64 xb, .int .i64 xc] 37))
        have wx : IntKind.i64.wrap (xa + xc) = xa + xc := IntWalk.i64_in _ (by omega)
        by_cases k : xa ≤ t ∧ t < xa + xc
        · obtain ⟨rfl, rfl, rfl⟩ := (hA.out _ (ha.out.trans hnx.out)).2 (xb + t - xa) (xa + xc - t) (by rw [if_pos k])
          obtain ⟨k1, k2⟩ := k
          have w1' : IntKind.i64.wrap (xb + t) = xb + t := IntWalk.i64_in _ (by omega)
          have w2' : IntKind.i64.wrap (xb + t - xa) = xb + t - xa := IntWalk.i64_in _ (by omega)
          have w3' : IntKind.i64.wrap (xa + xc - t) = xa + xc - t := IntWalk.i64_in _ (by omega)
          go_wp2_with fail
          go_quiet (fail)
          have B3 := Lib.hid (below_dr (n := nq) B2.out)
          go_wp2_with fail
          exact bodyPost_ret (v := .tuple #[.int .i64 (xb + t - xa), .int .i64 (xa + xc - t), .bool true]) (by simp [results, Try.results13, go_sem]) rfl ⟨rfl, B3.out⟩
        · have ha' : Hid (Exts.at_ l t = Exts.at_ (l.drop (j + 1)) t) := Lib.hid (by rw [ha.out, hnx.out, if_neg k])
          by_cases k1 : t < xa
          · have k2 : ¬ xa ≤ t := by omega
            clear k
            go_wp2_with fail
            go_roundw
            case rel => exact ⟨j + 1, by omega, by go_num, ha', B2⟩
            case measure => simp [intOf]; omega
          · have k2 : xa ≤ t := by omega
            have k3 : ¬ t < xa + xc := fun h => k ⟨k2, h⟩
            clear k
            go_wp2_with fail
            go_roundw
            case rel => exact ⟨j + 1, by omega, by go_num, ha', B2⟩
            case measure => simp [intOf]; omega
      · obtain rfl : j = l.length := by omega
        obtain ⟨rfl, rfl, rfl⟩ := (hA.out _ ha.out).1 (by rw [List.drop_length]; rfl)
        go_wp2_with fail
        exact bodyPost_ret (v := .tuple #[.int .i64 0, .int .i64 0, .bool false]) (by simp [results, Try.results13, go_sem]) rfl ⟨rfl, hb.out⟩

end Go.Proofs.Ytgpjldmndibalaa
