/- Exts: Blocks. -/
import Derived.Test.YtgpjldmndibalaaExtsCheck
import Derived.Test.YtgpjldmndibalaaRunsMinus
namespace Go.Proofs.Ytgpjldmndibalaa
open Go Go.RowKit

theorem smalls_run {l : EL} (h : Exts.Row l) : Smalls (l.map Exts.run) := by
  intro r hr
  obtain ⟨x, hx, rfl⟩ := List.mem_map.1 hr
  have := h.may x hx
  unfold Exts.may at this
  unfold Small Exts.run
  dsimp only
  omega
theorem run_take (l : EL) (j : Nat) (hj : j < l.length) : (l.take (j + 1)).map Exts.run = (l.take j).map Exts.run ++ [((l.getD j (0, 0, 0)).2.1, (l.getD j (0, 0, 0)).2.2)] := by
  rw [List.take_succ_eq_append_getElem hj, List.map_append]
  simp [List.getD, hj, Exts.run]

set_option maxRecDepth 100000 in
set_option maxHeartbeats 4000000 in
theorem eblocks_any (v : Value) (l : EL) (w : World) (hs : SmallsE l) (h : ExtsAt w v l) (hl : l.length ≤ 100000000) :
    Calls Try.prog 14 #[v] w fun e w' => ∃ v', e = .returned v' ∧ OwnRuns w.heap.size w' v' (Exts.blocksR l) ∧ Below w.heap.size w w' := by
  have q := Lib.hid (echeck_any v l w hs h (by omega))
  have H := Lib.hid h
  obtain ⟨ad, cap, rfl⟩ : ∃ ad cap, v = .slice ad l.length cap := by
    rcases h with ⟨rfl, rfl⟩ | ⟨b, off, cap, rfl, _⟩
    · exact ⟨_, _, rfl⟩
    · exact ⟨_, _, rfl⟩
  obtain ⟨i0', hi0, hz0, hz1, hz2⟩ := info_parts info_run
  cases hok : Exts.okTo l l.length
  · rw [hok] at q
    have hE := Lib.hid (Exts.blocks_bad hok)
    clear h hok
    go_enter Try.func14, Try.ntmps14
    go_wp2_with fail
    refine q.out.mono ?_
    rintro e w1 ⟨rfl, b1⟩
    have B1 := Lib.hid b1
    have B2 : Hid (OwnRuns w.heap.size w1 (.slice none 0 0) (Exts.blocksR l)) := Lib.hid (by rw [hE.out]; exact World.ownsRow_nil _ _ _ _)
    clear b1
    go_wp2_with fail
    go_ret
    exact ⟨_, rfl, B2.out, B1.out⟩
  · rw [hok] at q
    have HR := Lib.hid (Exts.check_row.1 hok)
    have hE := Lib.hid (Exts.blocks_ok HR.out)
    obtain ⟨MC, hMC, hmk⟩ : ∃ MC : Array Value, MC.size = l.length * 2 ∧ ∀ wx : World, (Instr.makeSlice 26 (.int .i64 0) (.int .i64 (l.length : Int))).run Try.prog wx = .ok (.slice (some ⟨wx.heap.size, 0, none⟩) 0 l.length) (wx.alloc (.cells MC 32)) := by
      refine ⟨madeCells (Value.agg #[.int .i64 0, .int .i64 0]).cells ((l.length : Int).toNat * i0'.size), ?_, fun wx => ?_⟩
      · rw [size_madeCells, hz1]
        omega
      · have hr := run_make (P := Try.prog) wx 26 32 i0' _ Try.underlying26 hi0 hz0 .i64 .i64 0 (l.length : Int) (by omega) (by omega) (by rw [hz2]; omega) (by omega)
        rw [show (l.length : Int).toNat = l.length by omega] at hr ⊢
        exact hr
    clear h hok
    go_enter Try.func14, Try.ntmps14
    go_wp2_with fail
    refine q.out.mono ?_
    rintro e w1 ⟨rfl, b1⟩
    have B1 := Lib.hid b1
    have O0 : Hid ((w1.alloc (.cells MC 32)).ownsRow w.heap.size 32 2 (.slice (some ⟨w1.heap.size, 0, none⟩) 0 l.length) 0 []) := Lib.hid
      ⟨rfl, .inr ⟨w1.heap.size, l.length, MC, rfl, b1.size, heap_alloc_new w1 _, Nat.zero_le _, by unfold maxLen; omega, hMC, by simp⟩⟩
    have B0 : Hid (Below w.heap.size w (w1.alloc (.cells MC 32))) := Lib.hid (b1.alloc b1.size _)
    clear b1 q B1
    go_wp2_with fail
    go_loopw [3, 14] (fun p q wr => ∃ (j : Nat) (u : Value), u = p ∧ q = .int .i64 j ∧ j ≤ l.length ∧ Hid (OwnRuns w.heap.size wr u ((l.take j).map Exts.run)) ∧ Hid (Below w.heap.size w wr)) (fun _ q _ => l.length - (intOf q).toNat)
    case atStart => exact ⟨0, _, rfl, rfl, by omega, Lib.hid O0.out, B0⟩
    case round =>
      obtain ⟨j, u, rfl, rfl, hj, ho, hb⟩ := hrel
      clear O0 B0
      by_cases hlt : j < l.length
      · have i0 : (0 : Int) ≤ (j : Int) := by omega
        have i1 : (j : Int) < (l.length : Int) := by omega
        obtain ⟨hll, g, off, rfl, c0, c1, c2⟩ := (H.out.below (B := 0) hb.out).cells j hlt
        clear hll
        have hnx := Lib.hid (run_take l j hlt)
        have hlj : ((l.take j).map Exts.run).length = j := by rw [List.length_map, List.length_take]; omega
        generalize (l.take j).map Exts.run = R at *
        generalize l.getD j (0, 0, 0) = x at *
        obtain ⟨xa, xb, xc⟩ := x
        dsimp only at *
        have bA : Below wr.heap.size wr ((wr.alloc (.cells #[.int .i64 xa, .int .i64 xb, .int .i64 xc] 37)).alloc (.cells #[.int .i64 xb, .int .i64 xc] 32)) := ((Below.refl _ _).alloc (Nat.le_refl _) _).alloc (by simp) _
        have G : ((wr.alloc (.cells #[.int .i64 xa, .int .i64 xb, .int .i64 xc] 37)).alloc (.cells #[.int .i64 xb, .int .i64 xc] 32)).ownsRow w.heap.size 32 2 u R.length (rcells R) := own_belowR ho.out bA
        have NN : ∀ jj uu, [Value.int .i64 xb, .int .i64 xc][jj]? = some uu → ((wr.alloc (.cells #[.int .i64 xa, .int .i64 xb, .int .i64 xc] 37)).alloc (.cells #[.int .i64 xb, .int .i64 xc] 32)).cell? ((⟨wr.heap.size + 1, 0, none⟩ : Addr).add jj) = some uu := fun jj uu hjj => by
          have hadd : (⟨wr.heap.size + 1, 0, none⟩ : Addr).add jj = ⟨wr.heap.size + 1, jj, none⟩ := by unfold Addr.add; split <;> simp_all
          rw [hadd, World.cell?_alloc_at _ _ _ _ (by simp)]
          simpa using hjj
        have hone := rcells_one [(xb, xc)]
        have HG := Lib.hid G
        have hbz := hb.out.size
        have HB2 : Hid (Below w.heap.size w ((wr.alloc (.cells #[.int .i64 xa, .int .i64 xb, .int .i64 xc] 37)).alloc (.cells #[.int .i64 xb, .int .i64 xc] 32))) := Lib.hid (hb.out.trans (bA.mono hbz))
        have hown0 : Hid (∀ k, u.ownBlock = some k → w.heap.size ≤ k) := Lib.hid (fun k hk => (World.ownsRow.lt ho.out k hk).1)
        have HLJ := Lib.hid hlj
        clear hb ho bA G hlj
        go_wp2_with (first
          | (at_builtin; refine wpList_append_own _ rfl _ _ 26 rfl w.heap.size 32 i0' (.agg #[.int .i64 0, .int .i64 0]) 2 16 Try.underlying26 hi0 hz0 hz1 hz2 rfl (by decide) _ R.length _ rfl HG.out ⟨wr.heap.size + 1, 0, none⟩ 1 1 [.int .i64 xb, .int .i64 xc] rfl rfl NN hone (by have := HLJ.out; unfold maxLen; omega) (by have := HLJ.out; omega) (by simp; omega) ?_))
        intro v' w5 hown hgrow _
        have B5 : Hid (Below w.heap.size w w5) := Lib.hid (HB2.out.grown hgrow (by simp; omega) (fun k hk => hown0.out k hk))
        have O5 : Hid (OwnRuns w.heap.size w5 v' (R ++ [(xb, xc)])) := Lib.hid (by
          unfold OwnRuns
          rw [rcells_append, List.length_append]
          exact hown)
        rw [← hnx.out] at O5
        clear hown hgrow NN HG HB2
        go_wp2_with fail
        go_roundw
        case rel => exact ⟨j + 1, v', rfl, by go_num, by omega, O5, B5⟩
        case measure => simp [intOf]; omega
      · obtain rfl : j = l.length := by omega
        have ho' := ho.out
        rw [List.take_length] at ho'
        have q2 := Lib.hid (normal_any u (l.map Exts.run) wr (smalls_run HR.out) (OwnRuns.at ho') (by rw [List.length_map]; omega))
        clear ho' ho
        go_wp2_with fail
        refine q2.out.mono ?_
        rintro e w6 ⟨v6, rfl, o6, b6⟩
        have B6 := Lib.hid (hb.out.trans (b6.mono hb.out.size))
        have O6 : Hid (OwnRuns w.heap.size w6 v6 (Exts.blocksR l)) := Lib.hid (by rw [hE.out]; exact World.ownsRow.mono o6 hb.out.size)
        clear o6 b6
        go_wp2_with fail
        go_ret
        exact ⟨_, rfl, O6.out, B6.out⟩

end Go.Proofs.Ytgpjldmndibalaa
