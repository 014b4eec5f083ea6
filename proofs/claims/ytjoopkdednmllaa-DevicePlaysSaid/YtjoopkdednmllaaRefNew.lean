/- The document's device: New. -/
import Derived.Test.YtjoopkdednmllaaRefDevs
namespace Go.Proofs.Ytjoopkdednmllaa
open Go Go.RowKit
variable {B b : Nat} {w : World} {z : RLay} {D : Dev}

def Apart (u v : Value) : Prop := ∀ k, u.ownBlock = some k → v.ownBlock ≠ some k
theorem Apart.symm {u v : Value} (h : Apart u v) : Apart v u := fun k hv hu => h k hu hv

theorem other_kept {T : TypeId} {u v x : Value} {n i : Nat} {xs : List Value} {w1 : World} (h : w.ownsRow B T 1 u n xs) (o : Obj) (hg : (w.alloc o).grownBy w1 v.ownBlock) (ha : Apart u v) (hb : u.ownBlock ≠ some b) :
    (w1.setCell ⟨b, i, none⟩ x).ownsRow B T 1 u n xs := by
  refine ownsRow_setCell_other ((h.alloc o).kept hg ?_) hb x
  cases hu : u.ownBlock with
  | none => exact .inl rfl
  | some k => exact .inr (fun e => ha k hu e.symm)
theorem apart_new {T : TypeId} {u v : Value} {n g c m H : Nat} {xs : List Value} (h : w.ownsRow B T 1 u n xs) (hH : w.heap.size ≤ H) (hat : v.ownBlock = some g ∨ g = H) (ha : Apart u v) : Apart u (.slice (some ⟨g, 0, none⟩) m c) := by
  intro k hu e
  have e' : g = k := by simpa [Value.ownBlock] using e
  subst e'
  rcases hat with h1 | h1
  · exact ha g hu h1
  · have := (h.lt g hu).2; omega

/-- A device that grows. -/
structure RefGrow (B : Nat) (w : World) (b : Nat) (v1 v2 v3 : Value) (j1 j2 j3 : Nat) (t : ByteArray) : Prop where
  own : B ≤ b
  cells : Row w b 47 [v1, v2, v3, .int .i64 (-1), .int .i64 0]
  o1 : w.ownsRow B 9 1 v1 j1 (strs (List.replicate j1 t))
  o2 : w.ownsRow B 9 1 v2 j2 (strs (List.replicate j2 t))
  o3 : w.ownsRow B 4 1 v3 j3 (bools (List.replicate j3 false))
  ne : v1.ownBlock ≠ some b ∧ v2.ownBlock ≠ some b ∧ v3.ownBlock ≠ some b
  apart : Apart v1 v2 ∧ Apart v1 v3 ∧ Apart v2 v3

variable {v1 v2 v3 : Value} {j1 j2 j3 : Nat} {t : ByteArray}

theorem RefGrow.row (h : RefGrow B w b v1 v2 v3 j1 j2 j3 t) (o : Obj) {v x : Value} {w1 : World} (i : Nat) (hg : (w.alloc o).grownBy w1 v.ownBlock) (hv : v.ownBlock ≠ some b) : Row (w1.setCell ⟨b, i, none⟩ x) b 47 ([v1, v2, v3, .int .i64 (-1), .int .i64 0].set i x) :=
  ((h.cells.alloc o).grown hg (fun e => hv e.symm)).set i x

theorem RefGrow.step1 (h : RefGrow B w b v1 v2 v3 j1 j2 j3 t) (o : Obj) {w1 : World} {g c : Nat} (hg : (w.alloc o).grownBy w1 v1.ownBlock) (hown : w1.ownsRow B 9 1 (.slice (some ⟨g, 0, none⟩) (j1 + 1) c) (j1 + 1) (strs (List.replicate j1 t) ++ [.string t])) (hat : v1.ownBlock = some g ∨ g = (w.alloc o).heap.size) :
    RefGrow B (w1.setCell ⟨b, 0, none⟩ (.slice (some ⟨g, 0, none⟩) (j1 + 1) c)) b (.slice (some ⟨g, 0, none⟩) (j1 + 1) c) v2 v3 (j1 + 1) j2 j3 t := by
  obtain ⟨n1, n2, n3⟩ := h.ne
  obtain ⟨a1, a2, a3⟩ := h.apart
  have hs : w.heap.size ≤ (w.alloc o).heap.size := by simp
  have hgb : (Value.slice (some ⟨g, 0, none⟩) (j1 + 1) c).ownBlock ≠ some b := by
    rcases hat with h1 | h1
    · rw [h1] at n1; exact n1
    · intro e; have e' : g = b := by simpa [Value.ownBlock] using e
      have := h.cells.lt; simp at h1; omega
  refine ⟨h.own, h.row o 0 hg n1, ?_, other_kept h.o2 o hg a1.symm n2, other_kept h.o3 o hg a2.symm n3, ⟨hgb, n2, n3⟩, (apart_new h.o2 hs hat a1.symm).symm, (apart_new h.o3 hs hat a2.symm).symm, a3⟩
  have e : strs (List.replicate (j1 + 1) t) = strs (List.replicate j1 t) ++ [.string t] := by simp [strs, List.replicate_succ']
  rw [e]
  exact ownsRow_setCell_other hown hgb _

theorem RefGrow.step2 (h : RefGrow B w b v1 v2 v3 j1 j2 j3 t) (o : Obj) {w1 : World} {g c : Nat} (hg : (w.alloc o).grownBy w1 v2.ownBlock) (hown : w1.ownsRow B 9 1 (.slice (some ⟨g, 0, none⟩) (j2 + 1) c) (j2 + 1) (strs (List.replicate j2 t) ++ [.string t])) (hat : v2.ownBlock = some g ∨ g = (w.alloc o).heap.size) :
    RefGrow B (w1.setCell ⟨b, 1, none⟩ (.slice (some ⟨g, 0, none⟩) (j2 + 1) c)) b v1 (.slice (some ⟨g, 0, none⟩) (j2 + 1) c) v3 j1 (j2 + 1) j3 t := by
  obtain ⟨n1, n2, n3⟩ := h.ne
  obtain ⟨a1, a2, a3⟩ := h.apart
  have hs : w.heap.size ≤ (w.alloc o).heap.size := by simp
  have hgb : (Value.slice (some ⟨g, 0, none⟩) (j2 + 1) c).ownBlock ≠ some b := by
    rcases hat with h1 | h1
    · rw [h1] at n2; exact n2
    · intro e; have e' : g = b := by simpa [Value.ownBlock] using e
      have := h.cells.lt; simp at h1; omega
  refine ⟨h.own, h.row o 1 hg n2, other_kept h.o1 o hg a1 n1, ?_, other_kept h.o3 o hg a3.symm n3, ⟨n1, hgb, n3⟩, apart_new h.o1 hs hat a1, a2, (apart_new h.o3 hs hat a3.symm).symm⟩
  have e : strs (List.replicate (j2 + 1) t) = strs (List.replicate j2 t) ++ [.string t] := by simp [strs, List.replicate_succ']
  rw [e]
  exact ownsRow_setCell_other hown hgb _

theorem RefGrow.step3 (h : RefGrow B w b v1 v2 v3 j1 j2 j3 t) (o : Obj) {w1 : World} {g c : Nat} (hg : (w.alloc o).grownBy w1 v3.ownBlock) (hown : w1.ownsRow B 4 1 (.slice (some ⟨g, 0, none⟩) (j3 + 1) c) (j3 + 1) (bools (List.replicate j3 false) ++ [.bool false])) (hat : v3.ownBlock = some g ∨ g = (w.alloc o).heap.size) :
    RefGrow B (w1.setCell ⟨b, 2, none⟩ (.slice (some ⟨g, 0, none⟩) (j3 + 1) c)) b v1 v2 (.slice (some ⟨g, 0, none⟩) (j3 + 1) c) j1 j2 (j3 + 1) t := by
  obtain ⟨n1, n2, n3⟩ := h.ne
  obtain ⟨a1, a2, a3⟩ := h.apart
  have hs : w.heap.size ≤ (w.alloc o).heap.size := by simp
  have hgb : (Value.slice (some ⟨g, 0, none⟩) (j3 + 1) c).ownBlock ≠ some b := by
    rcases hat with h1 | h1
    · rw [h1] at n3; exact n3
    · intro e; have e' : g = b := by simpa [Value.ownBlock] using e
      have := h.cells.lt; simp at h1; omega
  refine ⟨h.own, h.row o 2 hg n3, other_kept h.o1 o hg a2 n1, other_kept h.o2 o hg a3 n2, ?_, ⟨n1, n2, hgb⟩, a1, apart_new h.o1 hs hat a2, apart_new h.o2 hs hat a3⟩
  have e : bools (List.replicate (j3 + 1) false) = bools (List.replicate j3 false) ++ [.bool false] := by simp [bools, List.replicate_succ']
  rw [e]
  exact ownsRow_setCell_other hown hgb _

/-- It has grown. -/
theorem RefGrow.done {n : Nat} (h : RefGrow B w b v1 v2 v3 n n n t) (hn : 0 < n ∧ n ≤ 4096) : ∃ z, RefAt B w b z (Dev.fresh (List.replicate n t)) := by
  obtain ⟨g1, c1, rfl⟩ := own_some h.o1 hn.1
  obtain ⟨g2, c2, rfl⟩ := own_some h.o2 hn.1
  obtain ⟨g3, c3, rfl⟩ := own_some h.o3 hn.1
  obtain ⟨n1, n2, n3⟩ := h.ne
  obtain ⟨a1, a2, a3⟩ := h.apart
  have hl : (Dev.fresh (List.replicate n t)).kept.length = n := List.length_replicate
  have m1 : g1 ≠ b := fun e => n1 (by rw [e]; rfl)
  have m2 : g2 ≠ b := fun e => n2 (by rw [e]; rfl)
  have m3 : g3 ≠ b := fun e => n3 (by rw [e]; rfl)
  have m4 : g1 ≠ g2 := fun e => a1 g1 rfl (by rw [e]; rfl)
  have m5 : g1 ≠ g3 := fun e => a2 g1 rfl (by rw [e]; rfl)
  have m6 : g2 ≠ g3 := fun e => a3 g2 rfl (by rw [e]; rfl)
  refine ⟨⟨g1, c1, g2, c2, g3, c3⟩, ⟨h.own, ?_, ?_, ?_, ?_, ⟨m1.symm, m2.symm, m3.symm, m4, m5, m6⟩, by rw [hl]; exact hn, by simp [Dev.fresh], by simp [Dev.fresh]⟩⟩
  · rw [hl]; exact h.cells
  · rw [hl]; exact h.o1
  · rw [hl]; exact h.o2
  · rw [hl]
    have e : (Dev.fresh (List.replicate n t)).pend = List.replicate n false := by simp [Dev.fresh]
    rw [e]; exact h.o3

theorem rnew_none (i : Int) (hi : -9223372036854775808 ≤ i ∧ i ≤ 9223372036854775807) (h : i < 1 ∨ 4096 < i) :
    Calls Try.prog 12 #[.int .i64 i] w fun e w' => e = .returned (.tuple #[.pointer none, .int .i64 2]) ∧ w = w' := by
  by_cases h1 : i < 1
  · go_enter Try.func12, Try.ntmps12
    go_wp2_with fail
    exact bodyPost_ret (v := .tuple #[.pointer none, .int .i64 2]) (by simp [results, Try.results12, go_sem]) rfl ⟨rfl, rfl⟩
  · have h2 : 4096 < i := by omega
    go_enter Try.func12, Try.ntmps12
    go_wp2_with fail
    exact bodyPost_ret (v := .tuple #[.pointer none, .int .i64 2]) (by simp [results, Try.results12, go_sem]) rfl ⟨rfl, rfl⟩

theorem RefGrow.start (w : World) (t : ByteArray) : RefGrow w.heap.size (w.alloc (.cells #[.slice none 0 0, .slice none 0 0, .slice none 0 0, .int .i64 (-1), .int .i64 0] 47)) w.heap.size (.slice none 0 0) (.slice none 0 0) (.slice none 0 0) 0 0 0 t :=
  ⟨Nat.le_refl _, Row.new w _ [_, _, _, _, _] rfl, World.ownsRow_nil _ _ _ _, World.ownsRow_nil _ _ _ _, World.ownsRow_nil _ _ _ _, by simp [Value.ownBlock], by simp [Apart, Value.ownBlock]⟩

set_option maxHeartbeats 2000000 in
theorem rnew_any (n : Nat) (hn : 1 ≤ n ∧ n ≤ 4096) :
    Calls Try.prog 12 #[.int .i64 n] w fun e w' => ∃ b, e = .returned (.tuple #[.pointer (some ⟨b, 0, none⟩), .int .i64 0]) ∧ (∃ z, RefAt w.heap.size w' b z (Dev.fresh (List.replicate n zblock))) ∧ Below w.heap.size w w' := by
  obtain ⟨ib, hib, hzb, hsb, hbb⟩ := info_parts info_byte
  obtain ⟨i1, hi1, hz1, hs1, hb1⟩ := info_parts info_string
  obtain ⟨i2, hi2, hz2, hs2, hb2⟩ := info_parts info_bool
  have q1 : ¬ ((n : Int) < 1) := by omega
  have q2 : ¬ (4096 < (n : Int)) := by omega
  have hmk : ∀ wx : World, (Instr.makeSlice 66 (.int .i64 128) (.int .i64 128)).run Try.prog wx = .ok (.slice (some ⟨wx.heap.size, 0, none⟩) 128 128) (wx.alloc (.cells (bcells (fillTo 0 0)).toArray 5)) := fun wx => by
    have hr := run_make (P := Try.prog) wx 66 5 ib (.int .u8 0) Try.underlying66 hib hzb .i64 .i64 128 128 (by omega) (by omega) (by rw [hbb]; omega) (by omega)
    rw [fillTo_zero, ← bcells_zero]
    simpa [hsb, Value.cells, madeCells_one] using hr
  have hcv : ∀ wx : World, ∀ c : Nat, (convert 66 9 (.slice (some ⟨wx.heap.size, 0, none⟩) 128 c)).run Try.prog (wx.alloc (.cells (bcells (fillTo 0 0)).toArray 5)) = .ok (.string zblock) (wx.alloc (.cells (bcells (fillTo 0 0)).toArray 5)) := fun wx c => by
    have e : zblock = (⟨(fillTo 0 0).toArray⟩ : ByteArray) := by rw [fillTo_zero]; rfl
    rw [e]
    exact run_string_of_row _ _ 5 128 c (by rw [fillTo_length _ _ (Nat.zero_le _)]) Try.underlying66 Try.underlying5 Try.underlying9 (Row.new wx _ _ rfl)
  generalize zblock = t at *
  have hg0 : Hid (RefGrow (w.heap.size + 1) ((w.alloc (.cells (bcells (fillTo 0 0)).toArray 5)).alloc (.cells #[.slice none 0 0, .slice none 0 0, .slice none 0 0, .int .i64 (-1), .int .i64 0] 47)) (w.heap.size + 1) (.slice none 0 0) (.slice none 0 0) (.slice none 0 0) 0 0 0 t) := Lib.hid (by
    have := RefGrow.start (w.alloc (.cells (bcells (fillTo 0 0)).toArray 5)) t
    simpa using this)
  have hb0 : Hid (Below w.heap.size w ((w.alloc (.cells (bcells (fillTo 0 0)).toArray 5)).alloc (.cells #[.slice none 0 0, .slice none 0 0, .slice none 0 0, .int .i64 (-1), .int .i64 0] 47))) := Lib.hid (((Below.refl _ _).alloc (Nat.le_refl _) _).alloc (by simp) _)
  go_enter Try.func12, Try.ntmps12
  go_wp2_with fail
  clear hmk hcv
  generalize hbb0 : w.heap.size + 1 = bb at *
  have hone : ∀ u ∈ ([.string t] : List Value), u.oneCell' = true := by simp [Value.oneCell']
  have hone2 : ∀ u ∈ ([.bool false] : List Value), u.oneCell' = true := by simp [Value.oneCell']
  go_loopw [6] (fun q wr => ∃ (j : Nat) (v1 v2 v3 : Value), j ≤ n ∧ q = .int .i64 j ∧ Hid (RefGrow bb wr bb v1 v2 v3 j j j t) ∧ Hid (Below w.heap.size w wr)) (fun q _ => n - (intOf q).toNat)
  case atStart => exact ⟨0, _, _, _, by omega, rfl, hg0, hb0⟩
  case round =>
    obtain ⟨j, v1, v2, v3, hj, rfl, hg, hb⟩ := hrel
    have c0 := hg.out.cells.cellAt 0 rfl
    have f0 := hg.out.cells.free 0 (by simp)
    have hbl := hg.out.cells.lt
    by_cases hlt : j < n
    · have i0 : (0 : Int) ≤ (j : Int) := by omega
      have i1' : (j : Int) < (n : Int) := by omega
      go_wp2_with (first
        | (at_builtin; refine wpList_append_lies _ rfl _ _ 45 rfl bb 9 i1 (.string ⟨#[]⟩) 1 16 Try.underlying45 hi1 hz1 hs1 hb1 rfl (by decide) v1 j _ rfl (hg.out.o1.alloc _) ⟨wr.heap.size, 0, none⟩ 1 1 [.string t] rfl rfl (World.news_of_block (heap_alloc_new _ _)) hone (by decide) (by unfold maxLen; omega) (by omega) (by simp; omega) _ rfl ?_))
      intro g1 q1 w1 hown1 hgrow1 hat1 hlt1
      have e1 : (wr.alloc (.cells #[.string t] 9)).heap.size = wr.heap.size + 1 := by simp
      have n1 := hg.out.ne.1
      have r1 := (hg.out.cells.alloc (.cells #[.string t] 9)).grown hgrow1 (fun e => n1 e.symm)
      have c0' := r1.cellAt 0 rfl
      have f0' := r1.free 0 (by simp)
      have G1 := Lib.hid (hg.out.step1 _ hgrow1 hown1 (by rw [e1]; exact hat1))
      have B1 := Lib.hid (((hb.out.alloc hb.out.size (.cells #[.string t] 9)).grown hgrow1 (by have := hb.out.size; simp; omega) (fun k hk => by have := (hg.out.o1.lt k hk).1; omega)).setCell (p := ⟨bb, 0, none⟩) (by dsimp only; omega) (.slice (some ⟨g1, 0, none⟩) (j + 1) q1))
      have s1 : (w1.setCell ⟨bb, 0, none⟩ (.slice (some ⟨g1, 0, none⟩) (j + 1) q1)).heap.size = w1.heap.size := by simp
      have c1 := G1.out.cells.cellAt 1 rfl
      have f1 := G1.out.cells.free 1 (by simp)
      clear c0 f0 r1 hgrow1 hown1 hat1 hg hb e1 n1
      go_upto_region 9 with fail
      generalize w1.setCell ⟨bb, 0, none⟩ (.slice (some ⟨g1, 0, none⟩) (j + 1) q1) = W1 at *
      generalize Value.slice (some ⟨g1, 0, none⟩) (j + 1) q1 = v1' at *
      have hbl1 := G1.out.cells.lt
      clear s1 hlt1 hbl
      go_wp2_with (first
        | (at_builtin; refine wpList_append_lies _ rfl _ _ 45 rfl bb 9 i1 (.string ⟨#[]⟩) 1 16 Try.underlying45 hi1 hz1 hs1 hb1 rfl (by decide) v2 j _ rfl (G1.out.o2.alloc _) ⟨W1.heap.size, 0, none⟩ 1 1 [.string t] rfl rfl (World.news_of_block (heap_alloc_new _ _)) hone (by decide) (by unfold maxLen; omega) (by omega) (by simp; omega) _ rfl ?_))
      intro g2 q2 w2 hown2 hgrow2 hat2 hlt2
      have e2 : (W1.alloc (.cells #[.string t] 9)).heap.size = W1.heap.size + 1 := by simp
      have n2 := G1.out.ne.2.1
      have r2 := (G1.out.cells.alloc (.cells #[.string t] 9)).grown hgrow2 (fun e => n2 e.symm)
      have c1' := r2.cellAt 1 rfl
      have f1' := r2.free 1 (by simp)
      have G2 := Lib.hid (G1.out.step2 _ hgrow2 hown2 (by rw [e2]; exact hat2))
      have B2 := Lib.hid (((B1.out.alloc B1.out.size (.cells #[.string t] 9)).grown hgrow2 (by have := B1.out.size; simp; omega) (fun k hk => by have := (G1.out.o2.lt k hk).1; omega)).setCell (p := ⟨bb, 1, none⟩) (by dsimp only; omega) (.slice (some ⟨g2, 0, none⟩) (j + 1) q2))
      have c2 := G2.out.cells.cellAt 2 rfl
      clear c1 f1 r2 hgrow2 hown2 hat2 G1 B1 e2 n2
      go_upto_region 10 with fail
      generalize w2.setCell ⟨bb, 1, none⟩ (.slice (some ⟨g2, 0, none⟩) (j + 1) q2) = W2 at *
      generalize Value.slice (some ⟨g2, 0, none⟩) (j + 1) q2 = v2' at *
      have hbl2 := G2.out.cells.lt
      clear hlt2 hbl1
      go_wp2_with (first
        | (at_builtin; refine wpList_append_lies _ rfl _ _ 32 rfl bb 4 i2 (.bool false) 1 1 Try.underlying32 hi2 hz2 hs2 hb2 rfl (by decide) v3 j _ rfl (G2.out.o3.alloc _) ⟨W2.heap.size, 0, none⟩ 1 1 [.bool false] rfl rfl (World.news_of_block (heap_alloc_new _ _)) hone2 (by decide) (by unfold maxLen; omega) (by omega) (by simp; omega) _ rfl ?_))
      intro g3 q3 w3 hown3 hgrow3 hat3 hlt3
      have e3 : (W2.alloc (.cells #[.bool false] 4)).heap.size = W2.heap.size + 1 := by simp
      have n3 := G2.out.ne.2.2
      have r3 := (G2.out.cells.alloc (.cells #[.bool false] 4)).grown hgrow3 (fun e => n3 e.symm)
      have c2' := r3.cellAt 2 rfl
      have f2' := r3.free 2 (by simp)
      have G3 := Lib.hid (G2.out.step3 _ hgrow3 hown3 (by rw [e3]; exact hat3))
      have B3 := Lib.hid (((B2.out.alloc B2.out.size (.cells #[.bool false] 4)).grown hgrow3 (by have := B2.out.size; simp; omega) (fun k hk => by have := (G2.out.o3.lt k hk).1; omega)).setCell (p := ⟨bb, 2, none⟩) (by dsimp only; omega) (.slice (some ⟨g3, 0, none⟩) (j + 1) q3))
      clear c2 r3 hgrow3 hown3 hat3 G2 B2 e3 n3
      go_wp2_with fail
      go_roundw
      case rel => exact ⟨j + 1, _, _, _, by omega, by go_num, G3, B3⟩
      case measure => simp [intOf]; omega
    · obtain rfl : j = n := by omega
      obtain ⟨z, hz⟩ := hg.out.done (by omega)
      have hz' : RefAt w.heap.size wr bb z (Dev.fresh (List.replicate j t)) := ⟨by omega, hz.cells, own_mono hz.now (by omega), own_mono hz.was (by omega), own_mono hz.pend (by omega), hz.ne, hz.pos, hz.left, hz.acts⟩
      have HZ := Lib.hid hz'
      clear hz hz'
      go_wp2_with fail
      exact bodyPost_ret (v := .tuple #[.pointer (some ⟨bb, 0, none⟩), .int .i64 0]) (by simp [results, Try.results12, go_sem]) rfl ⟨_, rfl, ⟨_, HZ.out⟩, hb.out⟩

end Go.Proofs.Ytjoopkdednmllaa
