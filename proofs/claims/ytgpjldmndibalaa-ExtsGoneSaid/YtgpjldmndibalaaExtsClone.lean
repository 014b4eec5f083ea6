/- Exts: Clone. -/
import Derived.Test.YtgpjldmndibalaaExtsAt
namespace Go.Proofs.Ytgpjldmndibalaa
open Go Go.RowKit

theorem info_ext : (Try.prog.info? 37).map (fun i => (i.zero, i.size, i.bytes)) = some (some (.agg #[.int .i64 0, .int .i64 0, .int .i64 0]), 3, 24) := by kernel_rfl
set_option maxHeartbeats 1000000 in
theorem eclone_any (v : Value) (l : EL) (w : World) (h : ExtsAt w v l) (hl : l.length ≤ 1000000000) : Calls Try.prog 45 #[v] w fun e w' => ∃ v', e = .returned v' ∧ OwnExts w.heap.size w' v' l ∧ Below w.heap.size w w' := by
  obtain ⟨i0, hi0, hz0, hz1, hz2⟩ := info_parts info_ext
  rcases h with ⟨rfl, rfl⟩ | ⟨b, off, cap, rfl, hc⟩
  · have hnil : ∀ w : World, (binOp .eql 22 (.slice none 0 0) (.slice none 0 0)).run Try.prog w = .ok (.bool true) w := fun w => Lib.run_eql_slice_nil (P := Try.prog) w 22 37 none 0 0 0 0 Try.underlying22
    go_enter Try.func45, Try.ntmps45
    go_wp2_with fail
    go_ret
    exact ⟨_, rfl, World.ownsRow_nil _ _ _ _, Below.refl _ _⟩
  · have hnil : ∀ w : World, (binOp .eql 22 (.slice (some ⟨b, off, none⟩) l.length cap) (.slice none 0 0)).run Try.prog w = .ok (.bool false) w := fun w => Lib.run_eql_slice_nil (P := Try.prog) w 22 37 (some ⟨b, off, none⟩) l.length cap 0 0 Try.underlying22
    have hnews : ∀ j u, (ecells l)[j]? = some u → (w.alloc (.cells #[] 37)).cell? ((⟨b, off, none⟩ : Addr).add j) = some u := fun j u hu => by
      have e1 : (⟨b, off, none⟩ : Addr).add j = ⟨b, off + j, none⟩ := by unfold Addr.add; split <;> simp_all
      rw [e1]
      have := hc j u hu
      exact Lib.cell?_alloc_some _ this
    have hown : (w.alloc (.cells #[] 37)).ownsRow w.heap.size 37 3 (.slice (some ⟨w.heap.size, 0, none⟩) 0 0) 0 [] := World.ownsRow_lit w #[] 0 (Nat.le_refl _) (Nat.zero_le _) rfl
    have hone := ecells_one l
    have hrl := ecells_length l
    have HH := Lib.hid hl
    clear hc
    go_enter Try.func45, Try.ntmps45
    go_wp2_with (first
      | (at_builtin; refine wpList_append_own _ rfl _ _ 22 rfl w.heap.size 37 i0 (.agg #[.int .i64 0, .int .i64 0, .int .i64 0]) 3 24 Try.underlying22 hi0 hz0 hz1 hz2 rfl (by decide) _ 0 _ rfl hown ⟨b, off, none⟩ l.length cap (ecells l) rfl hrl hnews hone (by have := HH.out; unfold maxLen; omega) (by have := HH.out; omega) (by simp) ?_))
    intro v' w1 hown1 hgrow _
    have hW : Hid (Below w.heap.size w w1) := Lib.hid (((Below.refl _ _).alloc (Nat.le_refl _) (.cells #[] 37)).grown hgrow (by simp) (fun k hk => by have := (hown.lt k hk).1; exact this))
    have hG : Hid (OwnExts w.heap.size w1 v' l) := Lib.hid (by
      exact hown1)
    clear hown1 hgrow hown hnews
    go_wp2_with fail
    go_ret
    exact ⟨_, rfl, hG.out, hW.out⟩

end Go.Proofs.Ytgpjldmndibalaa
