/- The document's device: Open. -/
import Derived.Test.YtjoopkdednmllaaRefCrash
namespace Go.Proofs.Ytjoopkdednmllaa
open Go Go.RowKit
variable {B b : Nat} {w : World} {z : RLay} {D : Dev}

theorem RefAt.both (L : List ByteArray) (h : RefAt B w b z (Dev.fresh L)) (j : Nat) (t : ByteArray) : RefAt B ((w.setCell ⟨z.gn, j, none⟩ (.string t)).setCell ⟨z.gw, j, none⟩ (.string t)) b z (Dev.fresh (L.set j t)) := by
  obtain ⟨n1, n2, n3, n4, n5, n6⟩ := h.ne
  have hl : (Dev.fresh (L.set j t)).kept.length = (Dev.fresh L).kept.length := List.length_set
  refine ⟨h.own, ?_, ?_, ?_, ?_, h.ne, by rw [hl]; exact h.pos, h.left, h.acts⟩
  · rw [hl]; exact (h.cells.other (fun e => n1 e.symm) _).other (fun e => n2 e.symm) _
  · rw [hl]
    have := ownsRow_setCell_other (ownsRow_set h.now j (.string t)) (a := ⟨z.gw, j, none⟩) (by simp [Value.ownBlock]; exact n4) (.string t)
    simpa [strs, List.map_set, Dev.fresh] using this
  · rw [hl]
    have := ownsRow_set (ownsRow_setCell_other h.was (a := ⟨z.gn, j, none⟩) (by simp [Value.ownBlock]; exact fun e => n4 e.symm) (.string t)) j (.string t)
    simpa [strs, List.map_set, Dev.fresh] using this
  · rw [hl]
    have := ownsRow_setCell_other (ownsRow_setCell_other h.pend (a := ⟨z.gn, j, none⟩) (by simp [Value.ownBlock]; exact fun e => n5 e.symm) (.string t)) (a := ⟨z.gw, j, none⟩) (by simp [Value.ownBlock]; exact fun e => n6 e.symm) (.string t)
    simpa [bools, Dev.fresh] using this

def openTo (s : ByteArray) (n j : Nat) : List ByteArray := chop s j ++ List.replicate (n - j) zblock
theorem openTo_length (s : ByteArray) (n j : Nat) (h : j ≤ n) : (openTo s n j).length = n := by simp [openTo, chop_length]; omega
theorem openTo_set (s : ByteArray) (n j : Nat) (h : j < n) : (openTo s n j).set j (blkS s j) = openTo s n (j + 1) := by
  unfold openTo
  rw [List.set_append_right _ _ (by rw [chop_length]; exact Nat.le_refl _), chop_length, Nat.sub_self, show n - j = (n - (j + 1)) + 1 by omega, List.replicate_succ, List.set_cons_zero]
  show chop s j ++ blkS s j :: List.replicate (n - (j + 1)) zblock = chop s j ++ [blkS s j] ++ List.replicate (n - (j + 1)) zblock
  simp
theorem blk_mid (s : ByteArray) (j : Nat) : s.extract (j * 128) ((j + 1) * 128) = blkS s j := by
  conv => lhs; rw [← txt_of s]
  rw [txt_extract]
  unfold blkS
  congr 1
  rw [List.drop_take]
  congr 1; omega

theorem ropen_none (s : ByteArray) (hs : s.size ≤ 9223372036854775807) (h : s.size = 0 ∨ s.size % 128 ≠ 0 ∨ 524288 < s.size) :
    Calls Try.prog 39 #[.string s] w fun e w' => e = .returned (.tuple #[.pointer none, .int .i64 2]) ∧ w = w' := by
  generalize hn : s.size = n at *
  by_cases h2 : n % 128 = 0
  · have h2' : (Int.tmod (n : Int) 128) = 0 := by rw [Int.tmod_eq_emod_of_nonneg (by omega)]; omega
    have hq : (Int.tdiv (n : Int) 128) = ((n / 128 : Nat) : Int) := by rw [Int.tdiv_eq_ediv_of_nonneg (by omega)]; omega
    have hc := Lib.hid (rnew_none (w := w) ((n / 128 : Nat) : Int) (by omega) (by omega))
    have hqb : n / 128 ≤ 9223372036854775807 := by omega
    generalize n / 128 = q at *
    go_enter Try.func39, Try.ntmps39
    go_wp2_with fail
    refine hc.out.mono ?_
    rintro e w' ⟨rfl, rfl⟩
    go_wp2_with fail
    exact bodyPost_ret (v := .tuple #[.pointer none, .int .i64 2]) (by simp [results, Try.results39, go_sem]) rfl ⟨rfl, rfl⟩
  · have h2' : ¬ (Int.tmod (n : Int) 128) = 0 := by rw [Int.tmod_eq_emod_of_nonneg (by omega)]; omega
    go_enter Try.func39, Try.ntmps39
    go_wp2_with fail
    exact bodyPost_ret (v := .tuple #[.pointer none, .int .i64 2]) (by simp [results, Try.results39, go_sem]) rfl ⟨rfl, rfl⟩

set_option maxHeartbeats 2000000 in
theorem ropen_any (s : ByteArray) (n : Nat) (hs : s.size = n * 128) (hn : 1 ≤ n ∧ n ≤ 4096) :
    Calls Try.prog 39 #[.string s] w fun e w' => ∃ b, e = .returned (.tuple #[.pointer (some ⟨b, 0, none⟩), .int .i64 0]) ∧ (∃ z, RefAt w.heap.size w' b z (Dev.fresh (chop s n))) ∧ Below w.heap.size w w' := by
  have h2' : (Int.tmod (s.size : Int) 128) = 0 := by rw [Int.tmod_eq_emod_of_nonneg (by omega)]; omega
  have hq : (Int.tdiv (s.size : Int) 128) = (n : Int) := by rw [Int.tdiv_eq_ediv_of_nonneg (by omega)]; omega
  have hc := Lib.hid (rnew_any (w := w) n hn)
  have hm := fun j => Lib.hid (blk_mid s j)
  have HS := Lib.hid hs
  have hsn : (n : Int) * 128 ≤ (s.size : Int) := by omega
  clear hs
  have h00 : Hid (openTo s n 0 = List.replicate n zblock) := Lib.hid (by simp [openTo, chop])
  have hnn : Hid (openTo s n n = chop s n) := Lib.hid (by simp [openTo])
  have hl := fun j hj => Lib.hid (openTo_length s n j hj)
  have hst := fun j hj => Lib.hid (openTo_set s n j hj)
  generalize hN : s.size = N at *
  go_enter Try.func39, Try.ntmps39
  go_wp2_with fail
  refine hc.out.mono ?_
  rintro e w1 ⟨b, rfl, ⟨z, hd⟩, hb1⟩
  have R1 : Hid (RefAt w.heap.size w1 b z (Dev.fresh (openTo s n 0))) := Lib.hid (by rw [h00.out]; exact hd)
  have B1 := Lib.hid hb1
  have hbd := Lib.hid hd.bounds
  clear hd hb1 hc
  go_wp2_with fail
  go_loopw [6] (fun q wr => ∃ j : Nat, j ≤ n ∧ q = .int .i64 j ∧ Hid (RefAt w.heap.size wr b z (Dev.fresh (openTo s n j))) ∧ Hid (Below w.heap.size w wr)) (fun q _ => n - (intOf q).toNat)
  case atStart => exact ⟨0, by omega, rfl, R1, B1⟩
  case round =>
    obtain ⟨j, hj, rfl, hr, hb⟩ := hrel
    have hlj := hl j hj
    have c0 := hr.out.c0
    have c1 := hr.out.c1
    have ek : (Dev.fresh (openTo s n j)).kept.length = n := hlj.out
    rw [ek] at c0 c1
    by_cases hlt : j < n
    · have i0 : (0 : Int) ≤ (j : Int) := by omega
      have i1 : (j : Int) < (n : Int) := by omega
      have hmj := hm j
      have hsj := hst j hlt
      have d0 : ∃ u, wr.cell? ⟨z.gn, j, none⟩ = some u := ⟨_, own_cellAt hr.out.now (List.getElem?_eq_getElem (by rw [hr.out.now.1, ek]; omega))⟩
      have d1 : ∃ u, wr.cell? ⟨z.gw, j, none⟩ = some u := ⟨_, own_cellAt hr.out.was (List.getElem?_eq_getElem (by rw [hr.out.was.1, ek]; omega))⟩
      obtain ⟨u0, d0⟩ := d0
      obtain ⟨u1, d1⟩ := d1
      have g0 := ownsRow_free1 hr.out.now j
      have g1 := ownsRow_free1 hr.out.was j
      obtain ⟨n1, n2, n3, n4, n5, n6⟩ := hr.out.ne
      have hbo := Lib.hid (hr.out.both _ j (blkS s j))
      have hbb : Hid (Below w.heap.size w ((wr.setCell ⟨z.gn, j, none⟩ (.string (blkS s j))).setCell ⟨z.gw, j, none⟩ (.string (blkS s j)))) := Lib.hid (((hb.out.setCell (p := ⟨z.gn, j, none⟩) (by have := hbd.out; dsimp only; omega) _)).setCell (p := ⟨z.gw, j, none⟩) (by have := hbd.out; dsimp only; omega) _)
      rw [hsj.out] at hbo
      clear hlj hsj
      have hw1 : IntKind.i64.wrap ((j : Int) * 128) = (j : Int) * 128 := by rw [IntKind.wrap_i64]; omega
      have hw2 : IntKind.i64.wrap ((j : Int) + 1) = (j : Int) + 1 := by rw [IntKind.wrap_i64]; omega
      have hw3 : IntKind.i64.wrap (((j : Int) + 1) * 128) = ((j : Int) + 1) * 128 := by rw [IntKind.wrap_i64]; omega
      have hsl1 : (j : Int) * 128 ≤ ((j : Int) + 1) * 128 := by omega
      have hsl2 : ((j : Int) + 1) * 128 ≤ (N : Int) := by omega
      have hsl3 : (0 : Int) ≤ (j : Int) * 128 := by omega
      have ht1 : ((j : Int) * 128).toNat = j * 128 := by omega
      have ht2 : (((j : Int) + 1) * 128).toNat = (j + 1) * 128 := by omega
      rw [← hmj.out] at hbo hbb
      have hnb : ¬ b = z.gn := n1
      have hnw : ¬ z.gw = z.gn := fun e => n4 e.symm
      generalize hX : s.extract (j * 128) ((j + 1) * 128) = X at *
      have k0 : (wr.setCell ⟨z.gn, j, none⟩ (.string X)).cell? ⟨b, 0, none⟩ = some (.slice (some ⟨z.gn, 0, none⟩) n z.cn) := (World.cell?_setCell_other _ _ _ _ (by simp [hnb])).trans c0
      have k1 : (wr.setCell ⟨z.gn, j, none⟩ (.string X)).cell? ⟨b, 1, none⟩ = some (.slice (some ⟨z.gw, 0, none⟩) n z.cw) := (World.cell?_setCell_other _ _ _ _ (by simp)).trans c1
      have k2 : (wr.setCell ⟨z.gn, j, none⟩ (.string X)).cell? ⟨z.gn, j, none⟩ = some (.string X) := own_cellAt (ownsRow_set hr.out.now j (.string X)) (by
        have : j < (strs (Dev.fresh (openTo s n j)).now).length := by rw [hr.out.now.1, ek]; omega
        simp [this])
      have k3 : (wr.setCell ⟨z.gn, j, none⟩ (.string X)).cell? ⟨z.gw, j, none⟩ = some u1 := (World.cell?_setCell_other _ _ _ _ (by simp [hnw])).trans d1
      have k4 : (wr.setCell ⟨z.gn, j, none⟩ (.string X)).frozen? ⟨z.gw, j, none⟩ = false := by rw [World.frozen?_setCell]; exact g1
      clear ek
      go_upto_region 9 with fail
      go_region
      go_upto_region 10 with fail
      go_region
      go_wp2_with fail
      go_roundw
      case rel => exact ⟨j + 1, by omega, by go_num, Lib.hid (hbo.out.below ⟨rfl, rfl, rfl, Nat.le_refl _, fun _ _ => rfl⟩), Lib.hid (below_drewN hbb.out 2)⟩
      case measure => simp [intOf]; omega
    · obtain rfl : j = n := by omega
      rw [hnn.out] at hr
      go_wp2_with fail
      exact bodyPost_ret (v := .tuple #[.pointer (some ⟨b, 0, none⟩), .int .i64 0]) (by simp [results, Try.results39, go_sem]) rfl ⟨_, rfl, ⟨_, hr.out⟩, hb.out⟩

end Go.Proofs.Ytjoopkdednmllaa
