/- The document's cache: Get, Put. -/
import Derived.Test.YtlickjaopbcanaaRefCacheD
namespace Go.Proofs.Ytlickjaopbcanaa
open Go Go.RowKit Bufs
variable {B rc rd : Nat} {w w' w1 w2 : World} {z : RLay} {D D' D1 D2 : Dev} {most k : Nat} {l l' l1 l2 : PL} {v v' v1 : Value}

/-- One is appended. -/
theorem RGo.append (h : RCD B w rc rd z D most l v) (y : PB) (hy : ∀ x ∈ l, x.b ≠ y.b) (hl : l.length < most) {W : World} (hW : Below w.heap.size w W) (hWs : W.heap.size = w.heap.size + 1) {g c : Nat} (hg : W.grownBy w1 v.ownBlock) (ho : w1.ownsRow B 104 4 (.slice (some ⟨g, 0, none⟩) (l.length + 1) c) (l.length + 1) (bflat l ++ bcell y)) (hat : v.ownBlock = some g ∨ g = w.heap.size + 1) :
    RGo B w (w1.setCell ⟨rc, 2, none⟩ (.slice (some ⟨g, 0, none⟩) (l.length + 1) c)) rc rd z v D most (l ++ [y]) := by
  have hk : ∀ k, k < w.heap.size → v.ownBlock ≠ some k → w1.heap[k]? = w.heap[k]? := fun k h1 h2 => (hg.block k (by omega) (fun e => h2 e.symm)).trans (hW.block k h1)
  have hd := rblocks_lt h.dev
  have hgr : g ≠ rc := by
    rcases hat with h1 | h1
    · exact fun e => h.ne (by rw [h1, e])
    · have := h.cells.lt; omega
  have hgd : g ∉ rblocks rd z := by
    rcases hat with h1 | h1
    · exact h.vd g h1
    · exact fun hm => by have := (hd g hm).2; omega
  have hcells : Row w1 rc 101 [.pointer (some ⟨rd, 0, none⟩), .int .i64 most, v] := by
    have hl := h.cells.lt
    obtain ⟨f, h1, h2⟩ := h.cells
    exact ⟨f, by rw [hk rc hl h.ne]; exact h1, h2⟩
  have hdev : RefAt B w1 rd z D := h.dev.same (fun k hm => hk k (hd k hm).2 (fun e => h.vd k e hm))
  have hlen : (l ++ [y]).length = l.length + 1 := by simp
  have hfl : bflat (l ++ [y]) = bflat l ++ bcell y := by rw [bflat_append]; show bflat l ++ (bcell y ++ []) = _; rw [List.append_nil]
  refine ⟨_, ⟨h.own, hcells.set 2 _, ?_, fun e => hgr (by injection e), hdev.same (fun k hm => Below.heap_setCell _ _ _ _ (fun e => h.rcd (by have e : k = rc := e; rw [← e]; exact hm))), h.rcd, fun k e => by injection e with e; subst e; exact hgd, ?_, by rw [hlen]; omega, h.most⟩, ?_, fun k e => ?_⟩
  · rw [hlen, hfl]
    exact ownsRow_setCell_other ho (a := ⟨rc, 2, none⟩) (fun e => hgr (by injection e)) _
  · refine List.pairwise_append.2 ⟨h.bs, List.pairwise_singleton _ _, fun u hu q hq => ?_⟩
    rw [List.mem_singleton.1 hq]
    exact hy u hu
  · have h1 : Only (rown rc rd z v) w w1 := ⟨hg.os.trans hW.os, hg.tape.trans hW.tape, hg.output.trans hW.output, Nat.le_trans hW.size hg.size, fun k hk1 hk2 => hk k hk1 (fun e => hk2 (rown_v e))⟩
    exact h1.trans (Only.setCell w1 ⟨rc, 2, none⟩ _ List.mem_cons_self)
  · injection e with e
    subst e
    rcases hat with h1 | h1
    · exact .inl (rown_v h1)
    · exact .inr (by show w.heap.size ≤ g; omega)

set_option maxRecDepth 100000 in
theorem rget_no (h : RCD B w rc rd z D most l v) (b : Int) (hb : ¬ (0 ≤ b ∧ b < D.kept.length)) : Calls Try.prog 64 #[.pointer (some ⟨rc, 0, none⟩), .int .i64 b] w fun e w' => e = .returned (.tuple #[.string ⟨#[]⟩, .int .i64 60]) ∧ w = w' := by
  have c0 := h.c0
  have q := Lib.hid (rblocks_any h.dev)
  clear h
  generalize D.kept.length = n at *
  by_cases h1 : b < 0
  · clear hb
    go_enter Try.func64, Try.ntmps64
    go_wp2_with fail
    exact bodyPost_ret (v := .tuple #[.string ⟨#[]⟩, .int .i64 60]) (by simp [results, Try.results64, go_sem]) rfl ⟨rfl, rfl⟩
  · have h2 : (n : Int) ≤ b := by omega
    have h1' : decide (b < 0) = false := decide_eq_false h1
    clear hb
    go_enter Try.func64, Try.ntmps64
    go_wp2_with fail
    (with_reducible refine q.out.mono ?_)
    rintro e w2 ⟨rfl, rfl⟩
    go_wp2_with fail
    exact bodyPost_ret (v := .tuple #[.string ⟨#[]⟩, .int .i64 60]) (by simp [results, Try.results64, go_sem]) rfl ⟨rfl, rfl⟩
/-- To a named row. -/
def RTo (B : Nat) (w w' : World) (rc rd : Nat) (z : RLay) (v : Value) (D : Dev) (most : Nat) (l : PL) (v' : Value) : Prop :=
  RCD B w' rc rd z D most l v' ∧ Only (rown rc rd z v) w w' ∧ ∀ k, v'.ownBlock = some k → k ∈ rown rc rd z v ∨ w.heap.size ≤ k
theorem RTo.below (hb : Below w.heap.size w w1) (h : RTo B w1 w2 rc rd z v D2 most l2 v') : RTo B w w2 rc rd z v D2 most l2 v' :=
  ⟨h.1, (Only.ofBelow hb).trans h.2.1, fun k hk => (h.2.2 k hk).elim .inl (fun q => .inr (Nat.le_trans hb.size q))⟩
theorem RTo.refl (h : RCD B w rc rd z D most l v) : RTo B w w rc rd z v D most l v := ⟨h, Only.refl _ _, fun _ hk => .inl (rown_v hk)⟩
theorem with_to (h : RCD B w rc rd z D most l v) {i : Nat} {x : PB} (hat : l[i]? = some x) : Calls Try.prog 89 #[.pointer (some ⟨rc, 0, none⟩), .int .i64 i] w fun e w' => ∃ ad' m' c', e = .returned (.slice ad' m' c') ∧ w'.cell? ⟨rc, 2, none⟩ = some v ∧ w'.frozen? ⟨rc, 2, none⟩ = false ∧ RTo B w (w'.setCell ⟨rc, 2, none⟩ (.slice ad' m' c')) rc rd z v D most (but l x.b) (.slice ad' m' c') ∧ Below w.heap.size w w' := by
  refine (rwithout_any h hat).mono ?_
  rintro e w' ⟨v', rfl, hrow, hb⟩
  have h2 := h.below hb
  have hB : B ≤ w.heap.size := by have := h.own; have := h.cells.lt; omega
  obtain ⟨ad', c', rfl, _⟩ := own_opens hrow
  refine ⟨ad', _, c', rfl, h2.c2, h2.z2, ⟨h2.setL (own_mono hrow hB) (fun k hk => ?_) (but_bs' h.bs x.b) (Nat.le_trans (but_le l x.b) h.len), (Only.ofBelow hb).trans (Only.setCell w' ⟨rc, 2, none⟩ _ List.mem_cons_self), fun k hk => .inr (hrow.lt k hk).1⟩, hb⟩
  have h3 := (hrow.lt k hk).1
  have h4 := h.cells.lt
  exact ⟨by omega, fun hm => by have := (rblocks_lt h.dev k hm).2; omega⟩
theorem app_below (W : World) (x : PB) : Below W.heap.size W (W.drew.alloc (.cells #[.int .i64 x.b, .string x.data, .bool x.dirty, .bool x.pinned] 104)) := (Below.refl _ _).drew.alloc (Nat.le_refl _) _
theorem app_news (W : World) (x : PB) : ∀ j u, (bcell x)[j]? = some u → (W.drew.alloc (.cells #[.int .i64 x.b, .string x.data, .bool x.dirty, .bool x.pinned] 104)).cell? ((⟨W.heap.size, 0, none⟩ : Addr).add j) = some u := fun j u hj => by
  have hadd : (⟨W.heap.size, 0, none⟩ : Addr).add j = ⟨W.heap.size, j, none⟩ := by unfold Addr.add; split <;> simp_all
  rw [hadd]
  exact (World.cell?_alloc_at (w := W.drew) _ _ _ j rfl).trans (by simpa [bcell] using hj)
theorem bcell_one (x : PB) : ∀ u ∈ bcell x, u.oneCell' = true := fun u hu => bflat_one [x] u (List.mem_append.2 (.inl hu))
theorem app_cell (h : RCD B w rc rd z D most l v) (x : PB) (hg : (w.drew.alloc (.cells #[.int .i64 x.b, .string x.data, .bool x.dirty, .bool x.pinned] 104)).grownBy w1 v.ownBlock) : w1.cell? ⟨rc, 2, none⟩ = some v ∧ w1.frozen? ⟨rc, 2, none⟩ = false := by
  have hb := app_below w x
  have hl := h.cells.lt
  have h2 := h.below hb
  refine ⟨(hg.cell_far ⟨rc, 2, none⟩ (by show rc < _; have := hb.size; omega) (fun e => h.ne e.symm)).trans h2.c2, (hg.frozen_far ⟨rc, 2, none⟩ (by show rc < _; have := hb.size; omega) (fun e => h.ne e.symm)).trans h2.z2⟩
theorem RTo.ne (h : RCD B w rc rd z D most l v) (hw : w1.heap.size = w.heap.size + 1) (h1 : RTo B w1 w2 rc rd z v D2 most l2 v1) : ∀ k, v1.ownBlock = some k → k ≠ w.heap.size := fun k hk e => by
  subst e
  rcases h1.2.2 _ hk with h2 | h2
  · rcases List.mem_cons.1 h2 with h3 | h3
    · have := h.cells.lt; omega
    · rcases List.mem_append.1 h3 with h4 | h4
      · exact Nat.lt_irrefl _ (rblocks_lt h.dev _ h4).2
      · exact Nat.lt_irrefl _ (h.row.lt _ (by simpa using h4)).2
  · omega
theorem app_old {Y k : Nat} {u : Value} {y : PB} (hY : Y < w.heap.size) (hc : w.cell? ⟨Y, k, none⟩ = some u) (hne : ∀ j, v.ownBlock = some j → j ≠ Y) (hg : (w.drew.alloc (.cells #[.int .i64 y.b, .string y.data, .bool y.dirty, .bool y.pinned] 104)).grownBy w1 v.ownBlock) : w1.cell? ⟨Y, k, none⟩ = some u :=
  (hg.cell_far ⟨Y, k, none⟩ (by show Y < _; have := (app_below w y).size; omega) (fun e => hne Y e.symm rfl)).trans (((app_below w y).cell (p := ⟨Y, k, none⟩) hY).trans hc)
theorem RTo.app {y : PB} (h1 : RTo B w w1 rc rd z v D most l v1) (hy : ∀ x ∈ l, x.b ≠ y.b) (hl : l.length < most) (hg : (w1.drew.alloc (.cells #[.int .i64 y.b, .string y.data, .bool y.dirty, .bool y.pinned] 104)).grownBy w2 v1.ownBlock) {g c n : Nat} (hn : n = l.length) (ho : w2.ownsRow B 104 4 (.slice (some ⟨g, 0, none⟩) (n + 1) c) (n + 1) (bflat l ++ bcell y)) (hat : v1.ownBlock = some g ∨ g = (w1.drew.alloc (.cells #[.int .i64 y.b, .string y.data, .bool y.dirty, .bool y.pinned] 104)).heap.size) :
    RGo B w (w2.setCell ⟨rc, 2, none⟩ (.slice (some ⟨g, 0, none⟩) (n + 1) c)) rc rd z v D most (l ++ [y]) := by
  subst hn
  have hs : (w1.drew.alloc (.cells #[.int .i64 y.b, .string y.data, .bool y.dirty, .bool y.pinned] 104)).heap.size = w1.heap.size + 1 := by simp
  exact RGo.trans h1.2.1 h1.2.2 (RGo.append h1.1 y hy hl (app_below w1 y) hs hg ho (by rwa [hs] at hat))
set_option maxRecDepth 100000 in
set_option maxHeartbeats 8000000 in
theorem rget_old (h : RCD B w rc rd z D most l v) (b : Nat) (hb : b < D.kept.length) {i : Nat} {x : PB} (hp : PlaceAt l b i x) :
    Calls Try.prog 64 #[.pointer (some ⟨rc, 0, none⟩), .int .i64 b] w fun e w' => e = .returned (.tuple #[.string x.data, .int .i64 0]) ∧ RGo B w w' rc rd z v D most (but l b ++ [x]) := by
  obtain ⟨i0, hi0, hz0, hz1, hz2⟩ := info_parts info_buffer
  have c0 := h.c0
  have c2 := h.c2
  have hlen := h.len
  have hmo := h.most
  have hil := hp.lt
  have q := Lib.hid (rblocks_any h.dev)
  have qp := Lib.hid (place_yes h b hp)
  obtain ⟨ad, cap, rfl, hf⟩ := h.form
  obtain ⟨g, rfl⟩ := hf (by omega)
  have hxb : x.b = b := by have := hp.eqb; omega
  subst hxb
  have k0 : w.cell? ⟨g, i * 4, none⟩ = some (.int .i64 x.b) := h.buf hp.at' 0 _ (by omega) rfl
  have k1 := h.buf hp.at' 1 _ (by omega) rfl
  have k2 := h.buf hp.at' 2 _ (by omega) rfl
  have k3 := h.buf hp.at' 3 _ (by omega) rfl
  have i00 : (0 : Int) ≤ (i : Int) := by omega
  have i01 : (i : Int) < (l.length : Int) := by omega
  have b0 : ¬ (x.b : Int) < 0 := by omega
  have b1 : decide ((x.b : Int) < 0) = false := decide_eq_false b0
  have b2 : ¬ (D.kept.length : Int) ≤ (x.b : Int) := by omega
  have hrcl := h.cells.lt
  have hgl := (h.row.lt g rfl).2
  have hbl : (but l x.b).length < most := by rw [but_at h.bs hp.at', List.length_append, List.length_take, List.length_drop]; omega
  have hbl := Lib.hid hbl
  have hby : Hid (∀ u ∈ but l x.b, u.b ≠ x.b) := Lib.hid (fun u hu => (but_mem.1 hu).2)
  have H := Lib.hid h
  have HP := Lib.hid hp
  clear h hf hp
  generalize D.kept.length = nd at *
  generalize hn : l.length = n at *
  clear hn
  go_enter Try.func64, Try.ntmps64
  go_wp2_with fail
  (with_reducible refine q.out.mono ?_)
  rintro e w2 ⟨rfl, rfl⟩
  clear q
  go_wp2_with fail
  (with_reducible refine qp.out.mono ?_)
  rintro e w2 ⟨rfl, rfl⟩
  clear qp
  go_wp2_with fail
  have hb1 : Below w.heap.size w (w.alloc (.cells (bcell x).toArray 104)) := (Below.refl _ _).alloc (Nat.le_refl _) _
  have hx0 : ∀ k, (w.alloc (.cells (bcell x).toArray 104)).cell? ⟨w.heap.size, k, none⟩ = _ := fun k => cell_of_row _ _ _ _ _ _ (heap_alloc_new w _)
  have HB1 := Lib.hid hb1
  refine (with_to (H.out.below hb1) HP.out.at').mono ?_
  rintro e w3 ⟨ad', m', c', rfl, d2, dz, hR, hb3⟩
  have hX : ∀ k u, (bcell x)[k]? = some u → (w3.setCell ⟨rc, 2, none⟩ (.slice ad' m' c')).cell? ⟨w.heap.size, k, none⟩ = some u := fun k u hu => by
    rw [World.cell?_setCell_other _ _ _ _ (by simp), hb3.cell (p := ⟨w.heap.size, k, none⟩) (by simp), hx0 k]
    simpa using hu
  have y0 := hX 0 _ rfl
  have y1 := hX 1 _ rfl
  have y2 := hX 2 _ rfl
  have y3 := hX 3 _ rfl
  have HT := Lib.hid (RTo.below HB1.out hR)
  have hYv := Lib.hid (RTo.ne H.out (by simp) hR)
  have hYl : w.heap.size < (w3.setCell ⟨rc, 2, none⟩ (.slice ad' m' c')).heap.size := by have := hR.2.1.size; simp at this; simp; omega
  clear hX hx0 hb1 hb3 hR
  go_wp2_with fail
  generalize w3.setCell ⟨rc, 2, none⟩ (.slice ad' m' c') = W2 at *
  have hm' : Hid (m' = (but l x.b).length) := Lib.hid (by obtain ⟨_, _, e, _⟩ := HT.out.1.form; injection e)
  clear d2 dz
  have HG := Lib.hid (HT.out.1.below (app_below W2 x)).row
  have HG2 := Lib.hid (by simpa [← hm'.out] using HG.out : (W2.drew.alloc (.cells #[.int .i64 x.b, .string x.data, .bool x.dirty, .bool x.pinned] 104)).ownsRow B 104 4 (.slice ad' m' c') m' (bflat (but l x.b)))
  have HNN := Lib.hid (app_news W2 x)
  have hone := Lib.hid (bcell_one x)
  have hBB : B ≤ (W2.drew.alloc (.cells #[.int .i64 x.b, .string x.data, .bool x.dirty, .bool x.pinned] 104)).heap.size := by have := HT.out.1.own; have := HT.out.1.cells.lt; simp; omega
  have e2 := HT.out.1.c2
  have ez := HT.out.1.z2
  have hrl2 := HT.out.1.cells.lt
  have hm2 : m' ≤ 1048576 := by have h1 := hm'.out; have h2 := HT.out.1.len; have h3 := HT.out.1.most; omega
  clear HG
  go_upto_region 12 with fail
  go_region_law (refine step_append_lies _ rfl (.tmp 59) (.tmp 61) 99 rfl B 104 i0 (.agg #[.int .i64 0, .string ByteArray.empty, .bool false, .bool false]) 4 32 Try.underlying99 hi0 hz0 hz1 hz2 rfl (by decide) (.slice ad' m' c') m' (bflat (but l x.b)) (by simp [Act.eval]; done) HG2.out ⟨W2.heap.size, 0, none⟩ 1 1 (bcell x) (by simp [Act.eval]; done) rfl HNN.out hone.out (by decide) (by unfold maxLen; omega) (by omega) hBB _ rfl ?_; intro g5 c5 w5 hown hgrow hat hlt5; have X5 := app_cell HT.out.1 x hgrow; have cX5 := X5.1; have fX5 := X5.2; have y15 := app_old hYl y1 hYv.out hgrow)
  all_goals
    have R5 := Lib.hid (RTo.app HT.out hby.out hbl.out hgrow hm'.out hown hat)
    go_wp2_with fail
    exact bodyPost_ret (v := .tuple #[.string x.data, .int .i64 0]) (by simp [results, Try.results64, go_sem]) rfl ⟨rfl, R5.out⟩

theorem room_fits (hb : l.Pairwise fun x y => x.b ≠ y.b) (hlen : l.length ≤ most) (hr : (roomOf D l most).1 = 0) : (roomOf D l most).2.2.length < most ∧ ∀ u ∈ (roomOf D l most).2.2, u ∈ l := by
  unfold roomOf at hr ⊢
  by_cases h1 : l.length < most
  · rw [if_pos h1]
    exact ⟨h1, fun _ h => h⟩
  · rw [if_neg h1] at hr ⊢
    cases hf : l.find? (fun x => !x.pinned) with
    | none => rw [hf] at hr; exact absurd (show (70 : Int) = 0 from hr) (by decide)
    | some x =>
      rw [hf] at hr
      dsimp only at hr ⊢
      by_cases h2 : outE D x = 0
      · rw [if_pos h2]
        have hx : x ∈ l := List.mem_of_find?_eq_some hf
        have hlt : (but l x.b).length < l.length := by
          obtain ⟨i, hi⟩ := List.getElem?_of_mem hx
          have hil : i < l.length := by rcases Nat.lt_or_ge i l.length with h3 | h3; · exact h3
                                        · rw [List.getElem?_eq_none h3] at hi; exact nomatch hi
          rw [but_at hb hi, List.length_append, List.length_take, List.length_drop]; omega
        exact ⟨by show (but l x.b).length < most; omega, fun u hu => (but_mem.1 hu).1⟩
      · rw [if_neg h2] at hr
        exact absurd hr h2
theorem rown_lt (h : RCD B w rc rd z D most l v) {k : Nat} (hk : k ∈ rown rc rd z v) : k < w.heap.size := by
  rcases List.mem_cons.1 hk with h3 | h3
  · have := h.cells.lt; omega
  · rcases List.mem_append.1 h3 with h4 | h4
    · exact (rblocks_lt h.dev _ h4).2
    · exact (h.row.lt _ (by simpa using h4)).2
/-- A box beside. -/
theorem RTo.box (h : RTo B w w1 rc rd z v D most l v1) {Y : Nat} (hY : w.heap.size ≤ Y) (hne : Y ∉ rown rc rd z v1) (k : Nat) (u : Value) : RTo B w (w1.setCell ⟨Y, k, none⟩ u) rc rd z v D most l v1 := by
  obtain ⟨h1, h2, h3⟩ := h
  refine ⟨h1.same (fun j hj => Below.heap_setCell _ _ _ _ (fun e => hne (by have e : j = Y := e; rw [← e]; exact hj))), ⟨h2.os, h2.tape, h2.output, by simpa using h2.size, fun j hj hs => ?_⟩, h3⟩
  exact (Below.heap_setCell _ _ _ _ (fun e => by have e : j = Y := e; omega)).trans (h2.block j hj hs)
/-- The box that was made ahead of a call is as it was. -/
theorem box_row (h : RCD B w rc rd z D most l v) {cs : List Value} {T : TypeId} (hR : Only (rown rc rd z v) (w.alloc (.cells cs.toArray T)) w1) : Row w1 w.heap.size T cs :=
  row_same (Row.new w T cs rfl) (hR.block _ (by simp) (fun hm => Nat.lt_irrefl _ (rown_lt h hm)))
set_option maxRecDepth 100000 in
set_option maxHeartbeats 8000000 in
theorem rget_full (h : RCD B w rc rd z D most l v) (b : Nat) (hb : b < D.kept.length) (hn : noneTo l b l.length) (hds : ∀ x ∈ l, x.data.size = 128) (ha : D.acts ≤ 900000000000) (hr : (roomOf D l most).1 ≠ 0) :
    Calls Try.prog 64 #[.pointer (some ⟨rc, 0, none⟩), .int .i64 b] w fun e w' => e = .returned (.tuple #[.string ⟨#[]⟩, .int .i64 (roomOf D l most).1]) ∧ RGo B w w' rc rd z v (roomOf D l most).2.1 most (roomOf D l most).2.2 := by
  obtain ⟨i0, hi0, hz0, hz1, hz2⟩ := info_parts info_buffer
  have c0 := h.c0
  have hmo := h.most
  have q := Lib.hid (rblocks_any h.dev)
  have qp := Lib.hid (place_no h b hn)
  have q3 : Hid (∀ w1, RCD B w1 rc rd z D most l v → Calls Try.prog 90 #[.pointer (some ⟨rc, 0, none⟩)] w1 fun e w' => e = .returned (.int .i64 (roomOf D l most).1) ∧ RGo B w1 w' rc rd z v (roomOf D l most).2.1 most (roomOf D l most).2.2) := Lib.hid (fun w1 h1 => rroom_any h1 hds ha)
  have hny : Hid (∀ u ∈ l, u.b ≠ b) := Lib.hid (fun u hu e => by
    obtain ⟨i, hi⟩ := List.getElem?_of_mem hu
    have hil : i < l.length := by
      rcases Nat.lt_or_ge i l.length with h3 | h3
      · exact h3
      · rw [List.getElem?_eq_none h3] at hi; exact nomatch hi
    exact hn i u hil hi (by omega))
  generalize roomOf D l most = r at *
  obtain ⟨c, D1, l1⟩ := r
  dsimp only at *
  have hrcl := h.cells.lt
  have b0 : ¬ (b : Int) < 0 := by omega
  have b1 : decide ((b : Int) < 0) = false := decide_eq_false b0
  have b2 : ¬ (D.kept.length : Int) ≤ (b : Int) := by omega
  have H := Lib.hid h
  clear h hn hds hny
  generalize D.kept.length = nd at *
  go_enter Try.func64, Try.ntmps64
  go_wp2_with fail
  (with_reducible refine q.out.mono ?_)
  rintro e w2 ⟨rfl, rfl⟩
  clear q
  go_wp2_with fail
  (with_reducible refine qp.out.mono ?_)
  rintro e w2 ⟨rfl, rfl⟩
  clear qp
  go_wp2_with fail
  have hb1 : Below w.heap.size w (w.alloc (.cells (bcell ⟨b, ⟨#[]⟩, false, false, 0, 0⟩).toArray 104)) := (Below.refl _ _).alloc (Nat.le_refl _) _
  have HB1 := Lib.hid hb1
  refine (q3.out _ (H.out.below hb1)).mono ?_
  rintro e w3 ⟨rfl, v', hR⟩
  clear q3
  have HT0 := Lib.hid (RTo.below HB1.out hR)
  clear hb1
  have HG : Hid (RGo B w w3 rc rd z v D1 most l1) := Lib.hid ⟨v', HT0.out⟩
  clear hR HT0
  go_wp2_with fail
  exact bodyPost_ret (v := .tuple #[.string ⟨#[]⟩, .int .i64 c]) (by simp [results, Try.results64, go_sem]) rfl ⟨rfl, HG.out⟩
set_option maxRecDepth 100000 in
set_option maxHeartbeats 8000000 in
theorem rget_new (h : RCD B w rc rd z D most l v) (b : Nat) (hb : b < D.kept.length) (hn : noneTo l b l.length) (hds : ∀ x ∈ l, x.data.size = 128) (ha : D.acts ≤ 900000000000) (hr : (roomOf D l most).1 = 0) :
    Calls Try.prog 64 #[.pointer (some ⟨rc, 0, none⟩), .int .i64 b] w fun e w' => e = .returned (.tuple #[.string ((roomOf D l most).2.1.readS b), .int .i64 0]) ∧ RGo B w w' rc rd z v (roomOf D l most).2.1 most ((roomOf D l most).2.2 ++ [⟨b, (roomOf D l most).2.1.readS b, false, false, 0, 0⟩]) := by
  obtain ⟨i0, hi0, hz0, hz1, hz2⟩ := info_parts info_buffer
  have c0 := h.c0
  have hmo := h.most
  have q := Lib.hid (rblocks_any h.dev)
  have qp := Lib.hid (place_no h b hn)
  have hfit := room_fits h.bs h.len hr
  have hkl : (roomOf D l most).2.1.kept.length = D.kept.length := room_len D l most
  have q3 : Hid (∀ w1, RCD B w1 rc rd z D most l v → Calls Try.prog 90 #[.pointer (some ⟨rc, 0, none⟩)] w1 fun e w' => e = .returned (.int .i64 (roomOf D l most).1) ∧ RGo B w1 w' rc rd z v (roomOf D l most).2.1 most (roomOf D l most).2.2) := Lib.hid (fun w1 h1 => rroom_any h1 hds ha)
  have hny : Hid (∀ u ∈ l, u.b ≠ b) := Lib.hid (fun u hu e => by
    obtain ⟨i, hi⟩ := List.getElem?_of_mem hu
    have hil : i < l.length := by
      rcases Nat.lt_or_ge i l.length with h3 | h3
      · exact h3
      · rw [List.getElem?_eq_none h3] at hi; exact nomatch hi
    exact hn i u hil hi (by omega))
  generalize roomOf D l most = r at *
  obtain ⟨c, D1, l1⟩ := r
  dsimp only at *
  subst hr
  have hbl := Lib.hid hfit.1
  have hby : Hid (∀ u ∈ l1, u.b ≠ b) := Lib.hid (fun u hu => hny.out u (hfit.2 u hu))
  clear hfit
  have hrcl := h.cells.lt
  have b0 : ¬ (b : Int) < 0 := by omega
  have b1 : decide ((b : Int) < 0) = false := decide_eq_false b0
  have b2 : ¬ (D.kept.length : Int) ≤ (b : Int) := by omega
  have H := Lib.hid h
  clear h hn hds hny
  generalize D.kept.length = nd at *
  go_enter Try.func64, Try.ntmps64
  go_wp2_with fail
  (with_reducible refine q.out.mono ?_)
  rintro e w2 ⟨rfl, rfl⟩
  clear q
  go_wp2_with fail
  (with_reducible refine qp.out.mono ?_)
  rintro e w2 ⟨rfl, rfl⟩
  clear qp
  go_wp2_with fail
  have hb1 : Below w.heap.size w (w.alloc (.cells (bcell ⟨b, ⟨#[]⟩, false, false, 0, 0⟩).toArray 104)) := (Below.refl _ _).alloc (Nat.le_refl _) _
  have HB1 := Lib.hid hb1
  refine (q3.out _ (H.out.below hb1)).mono ?_
  rintro e w3 ⟨rfl, v', hR⟩
  clear q3
  have HT0 := Lib.hid (RTo.below HB1.out hR)
  clear hb1
  have hrow := box_row H.out hR.2.1
  have hYv := Lib.hid (RTo.ne H.out (by simp) hR)
  have hYl0 : w.heap.size < w3.heap.size := by have := hR.2.1.size; simp at this; omega
  obtain ⟨ad', c', rfl, _⟩ := hR.1.form
  have e00 := hR.1.c0
  have q4 := Lib.hid (rread_any hR.1.dev (b : Int))
  have hask : D1.ask (b : Int) = 0 := by unfold Dev.ask; rw [if_neg]; omega
  rw [hask] at q4
  obtain ⟨x, hx⟩ : ∃ x : PB, x = ⟨b, D1.readS b, false, false, 0, 0⟩ := ⟨_, rfl⟩
  have hxd : D1.readS b = x.data := by rw [hx]
  rw [hxd] at q4
  have hxb : b = x.b := by rw [hx]
  have frY := hrow.free 1 (by show 1 < 4; omega)
  have crY := hrow.cellAt 1 (rfl : (bcell ⟨b, ⟨#[]⟩, false, false, 0, 0⟩)[1]? = some (.string ⟨#[]⟩))
  have hrow2 : Row (w3.setCell ⟨w.heap.size, 1, none⟩ (.string x.data)) w.heap.size 104 (bcell x) := by
    have h1 := hrow.set 1 (.string x.data)
    rw [hx]
    exact (by rw [hx] at h1; exact h1)
  have HT := Lib.hid (RTo.box HT0.out (Nat.le_refl _) (fun hm => by
    rcases rown_mem hm with h5 | h5
    · exact Nat.lt_irrefl _ (rown_lt H.out h5)
    · exact hYv.out _ h5 rfl) 1 (.string x.data))
  have hYl : w.heap.size < (w3.setCell ⟨w.heap.size, 1, none⟩ (.string x.data)).heap.size := by simpa using hYl0
  have y0 := hrow2.cellAt 0 (rfl : (bcell x)[0]? = some (.int .i64 x.b))
  have y1 := hrow2.cellAt 1 (rfl : (bcell x)[1]? = some (.string x.data))
  have y2 := hrow2.cellAt 2 (rfl : (bcell x)[2]? = some (.bool x.dirty))
  have y3 := hrow2.cellAt 3 (rfl : (bcell x)[3]? = some (.bool x.pinned))
  have HX := Lib.hid hx
  have HXD := Lib.hid hxd
  rw [hxb] at hby
  clear hrow hrow2 hR HT0 hx hxd hxb hask
  go_wp2_with fail
  (with_reducible refine q4.out.mono ?_)
  rintro e w4 ⟨rfl, rfl⟩
  clear q4
  go_upto_region 12 with fail
  generalize w3.setCell ⟨w.heap.size, 1, none⟩ (.string x.data) = W2 at *
  clear e00 frY crY hYl0 HB1
  have HG := Lib.hid (HT.out.1.below (app_below W2 x)).row
  have HG2 := Lib.hid (HG.out : (W2.drew.alloc (.cells #[.int .i64 x.b, .string x.data, .bool x.dirty, .bool x.pinned] 104)).ownsRow B 104 4 (.slice ad' l1.length c') l1.length (bflat l1))
  have HNN := Lib.hid (app_news W2 x)
  have hone := Lib.hid (bcell_one x)
  have hBB : B ≤ (W2.drew.alloc (.cells #[.int .i64 x.b, .string x.data, .bool x.dirty, .bool x.pinned] 104)).heap.size := by have := HT.out.1.own; have := HT.out.1.cells.lt; simp; omega
  have e2 := HT.out.1.c2
  have ez := HT.out.1.z2
  have hrl2 := HT.out.1.cells.lt
  have hm2 : l1.length ≤ 1048576 := by have h2 := HT.out.1.len; have h3 := HT.out.1.most; omega
  clear HG
  go_region_law (refine step_append_lies _ rfl (.tmp 59) (.tmp 61) 99 rfl B 104 i0 (.agg #[.int .i64 0, .string ByteArray.empty, .bool false, .bool false]) 4 32 Try.underlying99 hi0 hz0 hz1 hz2 rfl (by decide) (.slice ad' l1.length c') l1.length (bflat l1) (by simp [Act.eval]; done) HG2.out ⟨W2.heap.size, 0, none⟩ 1 1 (bcell x) (by simp [Act.eval]; done) rfl HNN.out hone.out (by decide) (by unfold maxLen; omega) (by omega) hBB _ rfl ?_; intro g5 c5 w5 hown hgrow hat hlt5; have X5 := app_cell HT.out.1 x hgrow; have cX5 := X5.1; have fX5 := X5.2; have y15 := app_old hYl y1 hYv.out hgrow)
  all_goals
    have R5 := Lib.hid (RTo.app HT.out hby.out hbl.out hgrow rfl hown hat)
    go_wp2_with fail
    exact bodyPost_ret (v := .tuple #[.string x.data, .int .i64 0]) (by simp [results, Try.results64, go_sem]) rfl ⟨by rw [HXD.out], by rw [← HX.out]; exact R5.out⟩

end Go.Proofs.Ytlickjaopbcanaa
