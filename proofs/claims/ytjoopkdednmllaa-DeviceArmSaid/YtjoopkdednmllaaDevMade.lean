/- Devices: made. -/
import Derived.Test.YtjoopkdednmllaaDevCrashed
import Derived.Deep.RegionWith
namespace Go.Proofs.Ytjoopkdednmllaa
open Go Go.RowKit
variable {B b : Nat} {w : World} {y : Lay} {D : Dev}

def Dev.fresh (l : List ByteArray) : Dev := ⟨l, l, List.replicate l.length false, false, 0, 0⟩

theorem info_bool : (Try.prog.info? 4).map (fun i => (i.zero, i.size, i.bytes)) = some (some (.bool false), 1, 1) := by kernel_rfl


theorem own_mono {n size B' : Nat} {T : TypeId} {v : Value} {xs : List Value} (h : w.ownsRow B T size v n xs) (hb : B' ≤ B) : w.ownsRow B' T size v n xs := by
  refine ⟨h.1, ?_⟩
  rcases h.2 with h2 | ⟨g, cap, cur, hv, hg, r⟩
  · exact .inl h2
  · exact .inr ⟨g, cap, cur, hv, by omega, r⟩

theorem own_falses (w : World) (T : TypeId) (n : Nat) (hb : B ≤ w.heap.size) (hn : n ≤ 1000000) : (w.alloc (.cells (Array.replicate n (.bool false)) T)).ownsRow B T 1 (.slice (some ⟨w.heap.size, 0, none⟩) n n) n (bools (List.replicate n false)) := by
  refine ⟨by simp [bools], .inr ⟨w.heap.size, n, _, rfl, hb, heap_alloc_new w _, Nat.le_refl _, by unfold maxLen; omega, by simp, by simp [bools]⟩⟩

/-- The struct is laid over its three rows. -/
theorem DevAt.lay (l : List ByteArray) (n gk ck gn cn gp cp : Nat) (hn : l.length = n) (hp : 0 < n ∧ n ≤ 4096)
    (h1 : w.ownsRow B 9 1 (.slice (some ⟨gk, 0, none⟩) n ck) n (strs l)) (h2 : w.ownsRow B 9 1 (.slice (some ⟨gn, 0, none⟩) n cn) n (strs l)) (h3 : w.ownsRow B 4 1 (.slice (some ⟨gp, 0, none⟩) n cp) n (bools (List.replicate n false)))
    (ne : gk ≠ gn ∧ gk ≠ gp ∧ gn ≠ gp) :
    DevAt B (w.alloc (.cells #[.slice (some ⟨gk, 0, none⟩) n ck, .slice (some ⟨gn, 0, none⟩) n cn, .slice (some ⟨gp, 0, none⟩) n cp, .bool false, .int .i64 0, .int .i64 0] 52)) w.heap.size ⟨gk, ck, gn, cn, gp, cp⟩ (Dev.fresh l) := by
  subst hn
  have k1 : B ≤ gk ∧ gk < w.heap.size := h1.lt _ rfl
  have k2 : B ≤ gn ∧ gn < w.heap.size := h2.lt _ rfl
  have k3 : B ≤ gp ∧ gp < w.heap.size := h3.lt _ rfl
  exact ⟨by omega, Row.new w _ [_, _, _, _, _, _] rfl, h1.alloc _, h2.alloc _, h3.alloc _, by dsimp only; omega, hp, by simp [Dev.fresh], by simp [Dev.fresh]⟩

set_option maxHeartbeats 1000000 in
theorem made_any (l : List ByteArray) (g c : Nat) (hv : w.ownsRow B 9 1 (.slice (some ⟨g, 0, none⟩) l.length c) l.length (strs l)) (hp : 0 < l.length ∧ l.length ≤ 4096) :
    Calls Try.prog 40 #[.slice (some ⟨g, 0, none⟩) l.length c] w fun e w' => ∃ b, e = .returned (.pointer (some ⟨b, 0, none⟩)) ∧ (∃ y, DevAt B w' b y (Dev.fresh l)) ∧ w.heap.size ≤ b ∧ Below w.heap.size w w' := by
  have hcl : Hid (∀ w', Below w.heap.size w w' → Calls Try.prog 47 #[.slice (some ⟨g, 0, none⟩) l.length c] w' fun e w2 => ∃ v', e = .returned v' ∧ w2.ownsRow w'.heap.size 9 1 v' l.length (strs l) ∧ v' ≠ .slice none 0 0 ∧ Below w'.heap.size w' w2) := Lib.hid fun w' hb => by
    have hcl := Try.slices_Clone_string g 0 l.length c l w' (Nat.le_refl _) (by omega) (fun j hj => by
      rw [Nat.zero_add]; exact own_cellAt (own_below hv hb) (by simp [strs, List.getD, hj, ByteArray.empty, ByteArray.emptyWithCapacity]))
    rw [List.take_length] at hcl
    exact hcl
  have HV := Lib.hid hv
  obtain ⟨ib, hib, hzb, hsb, hbb⟩ := info_parts info_bool
  have hmk : ∀ wx : World, (Instr.makeSlice 32 (.int .i64 (l.length : Int)) (.int .i64 (l.length : Int))).run Try.prog wx = .ok (.slice (some ⟨wx.heap.size, 0, none⟩) l.length l.length) (wx.alloc (.cells (List.replicate l.length (.bool false)).toArray 4)) := fun wx => by
    have hr := run_make (P := Try.prog) wx 32 4 ib (.bool false) Try.underlying32 hib hzb .i64 .i64 l.length l.length (by omega) (by omega) (by rw [hbb]; omega) (by omega)
    simpa [hsb, Value.cells, madeCells_one] using hr
  clear hv
  generalize hn : l.length = n at *
  go_enter Try.func40, Try.ntmps40
  go_wp2_with fail
  go_region_with (go_at_call 47; refine (hcl.out _ (by first | exact (Below.refl _ _).drew | exact (Below.refl _ _).drew.alloc (Nat.le_refl _) _)).mono ?_; rintro e wc ⟨vc, rfl, oc, _, bc⟩; obtain ⟨gc, cc, rfl⟩ := own_some oc hp.1)
  · have bc' : Below w.heap.size w wc := ⟨bc.os, bc.tape, bc.output, bc.size, bc.block⟩
    have oc' : wc.ownsRow w.heap.size 9 1 (.slice (some ⟨gc, 0, none⟩) n cc) n (strs l) := oc
    have HB : B ≤ g ∧ g < w.heap.size := HV.out.lt _ rfl
    have o1 := own_below HV.out bc'
    have kc : w.heap.size ≤ gc ∧ gc < wc.heap.size := oc'.lt _ rfl
    have H := Lib.hid (DevAt.lay (w := wc.alloc (.cells (Array.replicate n (.bool false)) 4)) l n g c gc cc wc.heap.size n hn hp (o1.alloc _) ((own_mono oc' (by omega)).alloc _) (own_falses wc _ n (by omega) (by omega)) (by omega))
    have hb2 : Hid (Below w.heap.size w ((wc.alloc (.cells (Array.replicate n (.bool false)) 4)).alloc (.cells #[.slice (some ⟨g, 0, none⟩) n c, .slice (some ⟨gc, 0, none⟩) n cc, .slice (some ⟨wc.heap.size, 0, none⟩) n n, .bool false, .int .i64 0, .int .i64 0] 52))) := Lib.hid ((bc'.alloc bc'.size _).alloc (by have := bc'.size; simp; omega) _)
    have hs := bc'.size
    simp only [World.size_alloc] at H
    clear oc oc' bc bc' o1 hcl hmk
    go_wp2_with fail
    go_ret
    exact ⟨_, rfl, ⟨_, H.out⟩, by omega, hb2.out⟩
  · have bc' : Below (w.heap.size + 1) (w.alloc (.cells (Array.replicate n (.bool false)) 4)) wc := by
      have e : w.heap.size + 1 = (w.alloc (.cells (Array.replicate n (.bool false)) 4)).drew.heap.size := (World.size_alloc w _).symm
      rw [e]; exact ⟨bc.os, bc.tape, bc.output, bc.size, bc.block⟩
    have oc' : wc.ownsRow (w.heap.size + 1) 9 1 (.slice (some ⟨gc, 0, none⟩) n cc) n (strs l) := by
      have e : w.heap.size + 1 = (w.alloc (.cells (Array.replicate n (.bool false)) 4)).drew.heap.size := (World.size_alloc w _).symm
      rw [e]; exact oc
    have HB : B ≤ g ∧ g < w.heap.size := HV.out.lt _ rfl
    have kc : w.heap.size + 1 ≤ gc ∧ gc < wc.heap.size := oc'.lt _ rfl
    have bc2 : Below (w.alloc (.cells (Array.replicate n (.bool false)) 4)).heap.size (w.alloc (.cells (Array.replicate n (.bool false)) 4)) wc := by simpa using bc'
    have H := Lib.hid (DevAt.lay (w := wc) l n g c gc cc w.heap.size n hn hp (own_below (HV.out.alloc _) bc2) (own_mono oc' (by omega)) (own_below (own_falses w _ n (by omega) (by omega)) bc2) (by omega))
    have hb3 : Below w.heap.size w wc := ((Below.refl _ _).alloc (Nat.le_refl _) _).trans (bc'.mono (by omega))
    have hs := hb3.size
    have hb2 : Hid (Below w.heap.size w (wc.alloc (.cells #[.slice (some ⟨g, 0, none⟩) n c, .slice (some ⟨gc, 0, none⟩) n cc, .slice (some ⟨w.heap.size, 0, none⟩) n n, .bool false, .int .i64 0, .int .i64 0] 52))) := Lib.hid (hb3.alloc hb3.size _)
    clear oc oc' bc bc' bc2 hb3 hcl hmk
    go_wp2_with fail
    go_ret
    exact ⟨_, rfl, ⟨_, H.out⟩, by omega, hb2.out⟩

end Go.Proofs.Ytjoopkdednmllaa
