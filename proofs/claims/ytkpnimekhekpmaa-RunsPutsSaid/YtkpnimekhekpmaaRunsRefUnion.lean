/- The document's Union. -/
import Derived.Test.YtkpnimekhekpmaaRunsRefMinus
namespace Go.Proofs.Ytkpnimekhekpmaa
open Go Go.RowKit

set_option maxRecDepth 100000 in
set_option maxHeartbeats 4000000 in
theorem union2_any (va vb : Value) (a b : RL) (w : World) (ha : Smalls a) (hb : Smalls b) (h1 : RunsAt w va a) (h2 : RunsAt w vb b) (hla : a.length ≤ 1000000) (hlb : b.length ≤ 1000000) :
    Calls Try.prog 33 #[va, vb] w fun e w' => ∃ v', e = .returned v' ∧ OwnRuns w.heap.size w' v' (unionR a b) ∧ Below w.heap.size w w' := by
  obtain ⟨i0', hi0, hz0, hz1, hz2⟩ := info_parts info_run
  have bA : Below w.heap.size w (w.alloc (.cells #[] 30)) := (Below.refl _ _).alloc (Nat.le_refl _) _
  have BA := Lib.hid bA
  have O0 : Hid ((w.alloc (.cells #[] 30)).ownsRow w.heap.size 30 2 (.slice (some ⟨w.heap.size, 0, none⟩) 0 0) 0 (rcells [])) := Lib.hid (World.ownsRow_lit w #[] 0 (Nat.le_refl _) (Nat.zero_le _) rfl)
  have H2 := Lib.hid h2
  have hN := Lib.hid (fun v w' (h : RunsAt w' v (a ++ b)) => normal2_any v (a ++ b) w' (fun x hx => (List.mem_append.1 hx).elim (ha x) (hb x)) h (by simp; omega))
  have h1A := h1.below (B := 0) bA
  have h2A := h2.below (B := 0) bA
  clear h1 h2 bA
  have z0 : w.heap.size ≤ (w.alloc (.cells #[] 30)).heap.size := by simp
  rcases h1A with ⟨rfl, rfl⟩ | ⟨ga, oa, ca, rfl, hca⟩
  · rcases h2A with ⟨rfl, rfl⟩ | ⟨gb, ob, cb, rfl, hcb⟩
    · skip
      have o2 : OwnRuns w.heap.size (w.alloc (.cells #[] 30)) (.slice (some ⟨w.heap.size, 0, none⟩) 0 0) ([] ++ []) := O0.out
      have q9 := Lib.hid (hN.out _ _ o2.at)
      go_enter Try.func33, Try.ntmps33
      go_wp2_with fail
      refine q9.out.mono ?_
      rintro e w9 ⟨v9, rfl, o9, b9⟩
      have O9 : Hid (OwnRuns w.heap.size w9 v9 (Runs.normR (_ ++ _))) := Lib.hid (World.ownsRow.mono o9 BA.out.size)
      have B9 := Lib.hid (BA.out.trans (b9.mono BA.out.size))
      clear o9 b9 q9
      go_wp2_with fail
      go_ret
      exact ⟨_, rfl, O9.out, B9.out⟩
    · skip
      have ne_b : ∀ j u, (rcells b)[j]? = some u → (w.alloc (.cells #[] 30)).cell? ((⟨gb, ob, none⟩ : Addr).add j) = some u := fun j u hu => by
        have e1 : (⟨gb, ob, none⟩ : Addr).add j = ⟨gb, ob + j, none⟩ := by unfold Addr.add; split <;> simp_all
        rw [e1]
        exact hcb j u hu
      clear hcb
      go_enter Try.func33, Try.ntmps33
      go_wp2_with (first
        | (at_builtin; refine wpList_append_own _ rfl _ _ 22 rfl w.heap.size 30 i0' (.agg #[.int .i64 0, .int .i64 0]) 2 16 Try.underlying22 hi0 hz0 hz1 hz2 rfl (by decide) _ 0 _ rfl O0.out ⟨gb, ob, none⟩ b.length _ (rcells b) rfl (rcells_length b) ne_b (rcells_one b) (by unfold maxLen; omega) (by omega) z0 ?_))
      intro v2 w2 hown hgrow _
      have B2 : Below w.heap.size w w2 := BA.out.grown hgrow z0 (fun k hk => (World.ownsRow.lt O0.out k hk).1)
      have o2 : OwnRuns w.heap.size w2 v2 ([] ++ b) := by simpa [OwnRuns, rcells] using hown
      have HB := Lib.hid B2
      have HO := Lib.hid o2
      clear hown hgrow ne_b o2 B2
      have q9 := Lib.hid (hN.out _ _ (OwnRuns.at HO.out))
      go_wp2_with fail
      refine q9.out.mono ?_
      rintro e w9 ⟨v9, rfl, o9, b9⟩
      have O9 : Hid (OwnRuns w.heap.size w9 v9 (Runs.normR (_ ++ _))) := Lib.hid (World.ownsRow.mono o9 HB.out.size)
      have B9 := Lib.hid (HB.out.trans (b9.mono HB.out.size))
      clear o9 b9 q9
      go_wp2_with fail
      go_ret
      exact ⟨_, rfl, O9.out, B9.out⟩
  · skip
    have ne_a : ∀ j u, (rcells a)[j]? = some u → (w.alloc (.cells #[] 30)).cell? ((⟨ga, oa, none⟩ : Addr).add j) = some u := fun j u hu => by
      have e1 : (⟨ga, oa, none⟩ : Addr).add j = ⟨ga, oa + j, none⟩ := by unfold Addr.add; split <;> simp_all
      rw [e1]
      exact hca j u hu
    clear hca
    rcases h2A with ⟨rfl, rfl⟩ | ⟨gb, ob, cb, rfl, hcb⟩
    · skip
      go_enter Try.func33, Try.ntmps33
      go_wp2_with (first
        | (at_builtin; refine wpList_append_own _ rfl _ _ 22 rfl w.heap.size 30 i0' (.agg #[.int .i64 0, .int .i64 0]) 2 16 Try.underlying22 hi0 hz0 hz1 hz2 rfl (by decide) _ 0 _ rfl O0.out ⟨ga, oa, none⟩ a.length _ (rcells a) rfl (rcells_length a) ne_a (rcells_one a) (by unfold maxLen; omega) (by omega) z0 ?_))
      intro v1 w1 hown hgrow _
      have B1 := Lib.hid (BA.out.grown hgrow z0 (fun k hk => (World.ownsRow.lt O0.out k hk).1))
      have o1 : w1.ownsRow w.heap.size 30 2 v1 a.length (rcells a) := by simpa [rcells] using hown
      have O1 := Lib.hid o1
      have z1 := B1.out.size
      clear hown hgrow ne_a o1
      have o2 : OwnRuns w.heap.size w1 v1 (a ++ []) := by rw [List.append_nil]; exact O1.out
      have HO := Lib.hid o2
      clear o2
      have hf : (v1 = .slice none 0 0 ∧ a = []) ∨ ∃ g co, v1 = .slice (some ⟨g, 0, none⟩) a.length co ∧ a.length ≤ co := OwnRuns.form O1.out
      rcases hf with ⟨rfl, h0⟩ | ⟨g1, c1, rfl, hc1⟩
      · clear h0
        have q9 := Lib.hid (hN.out _ _ (OwnRuns.at HO.out))
        go_wp2_with fail
        refine q9.out.mono ?_
        rintro e w9 ⟨v9, rfl, o9, b9⟩
        have O9 : Hid (OwnRuns w.heap.size w9 v9 (Runs.normR (_ ++ _))) := Lib.hid (World.ownsRow.mono o9 B1.out.size)
        have B9 := Lib.hid (B1.out.trans (b9.mono B1.out.size))
        clear o9 b9 q9
        go_wp2_with fail
        go_ret
        exact ⟨_, rfl, O9.out, B9.out⟩
      · skip
        have q9 := Lib.hid (hN.out _ _ (OwnRuns.at HO.out))
        go_wp2_with fail
        refine q9.out.mono ?_
        rintro e w9 ⟨v9, rfl, o9, b9⟩
        have O9 : Hid (OwnRuns w.heap.size w9 v9 (Runs.normR (_ ++ _))) := Lib.hid (World.ownsRow.mono o9 B1.out.size)
        have B9 := Lib.hid (B1.out.trans (b9.mono B1.out.size))
        clear o9 b9 q9
        go_wp2_with fail
        go_ret
        exact ⟨_, rfl, O9.out, B9.out⟩
    · skip
      clear hcb
      go_enter Try.func33, Try.ntmps33
      go_wp2_with (first
        | (at_builtin; refine wpList_append_own _ rfl _ _ 22 rfl w.heap.size 30 i0' (.agg #[.int .i64 0, .int .i64 0]) 2 16 Try.underlying22 hi0 hz0 hz1 hz2 rfl (by decide) _ 0 _ rfl O0.out ⟨ga, oa, none⟩ a.length _ (rcells a) rfl (rcells_length a) ne_a (rcells_one a) (by unfold maxLen; omega) (by omega) z0 ?_))
      intro v1 w1 hown hgrow _
      have B1 := Lib.hid (BA.out.grown hgrow z0 (fun k hk => (World.ownsRow.lt O0.out k hk).1))
      have o1 : w1.ownsRow w.heap.size 30 2 v1 a.length (rcells a) := by simpa [rcells] using hown
      have O1 := Lib.hid o1
      have z1 := B1.out.size
      clear hown hgrow ne_a o1
      have HB2 := H2.out.below (B := 0) B1.out
      rcases HB2 with ⟨e, _⟩ | ⟨gb2, ob2, cb2, e, hcb⟩
      · cases e
      cases e
      have ne_b : ∀ j u, (rcells b)[j]? = some u → w1.cell? ((⟨gb, ob, none⟩ : Addr).add j) = some u := fun j u hu => by
        have e1 : (⟨gb, ob, none⟩ : Addr).add j = ⟨gb, ob + j, none⟩ := by unfold Addr.add; split <;> simp_all
        rw [e1]
        exact hcb j u hu
      clear hcb
      go_wp2_with (first
        | (at_builtin; refine wpList_append_own _ rfl _ _ 22 rfl w.heap.size 30 i0' (.agg #[.int .i64 0, .int .i64 0]) 2 16 Try.underlying22 hi0 hz0 hz1 hz2 rfl (by decide) _ a.length _ rfl O1.out ⟨gb, ob, none⟩ b.length _ (rcells b) rfl (rcells_length b) ne_b (rcells_one b) (by unfold maxLen; omega) (by omega) z1 ?_))
      intro v2 w2 hown hgrow _
      have B2 := Lib.hid (B1.out.grown hgrow z1 (fun k hk => (World.ownsRow.lt O1.out k hk).1))
      have HO : Hid (OwnRuns w.heap.size w2 v2 (a ++ b)) := Lib.hid (by
        unfold OwnRuns
        rw [List.length_append, rcells_append]
        exact hown)
      clear hown hgrow ne_b
      have q9 := Lib.hid (hN.out _ _ (OwnRuns.at HO.out))
      go_wp2_with fail
      refine q9.out.mono ?_
      rintro e w9 ⟨v9, rfl, o9, b9⟩
      have O9 : Hid (OwnRuns w.heap.size w9 v9 (Runs.normR (_ ++ _))) := Lib.hid (World.ownsRow.mono o9 B2.out.size)
      have B9 := Lib.hid (B2.out.trans (b9.mono B2.out.size))
      clear o9 b9 q9
      go_wp2_with fail
      go_ret
      exact ⟨_, rfl, O9.out, B9.out⟩

end Go.Proofs.Ytkpnimekhekpmaa
