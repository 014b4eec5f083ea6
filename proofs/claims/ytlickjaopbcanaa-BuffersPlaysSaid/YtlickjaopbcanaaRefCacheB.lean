/- The document's cache: without, what becomes of it. -/
import Derived.Test.YtlickjaopbcanaaRefCache
import Derived.StillTailTactics
namespace Go.Proofs.Ytlickjaopbcanaa
open Go Go.RowKit Bufs
variable {B rc rd : Nat} {w w' w1 w2 : World} {z : RLay} {D D' D1 D2 : Dev} {most : Nat} {l l' l1 l2 : PL} {v v' v1 : Value}

theorem Only.next {S T : List Nat} {a b c : World} (h1 : Only S a b) (h2 : Only T b c) (hT : ∀ k ∈ T, k ∈ S ∨ a.heap.size ≤ k) : Only S a c :=
  ⟨h2.os.trans h1.os, h2.tape.trans h1.tape, h2.output.trans h1.output, Nat.le_trans h1.size h2.size, fun k hk hs => (h2.block k (Nat.lt_of_lt_of_le hk h1.size) (fun hm => (hT k hm).elim hs (fun h => by omega))).trans (h1.block k hk hs)⟩
theorem RefAt.same {b : Nat} (h : RefAt B w b z D) (hd : ∀ k ∈ rblocks b z, w'.heap[k]? = w.heap[k]?) : RefAt B w' b z D := by
  refine ⟨h.own, ?_, ?_, ?_, ?_, h.ne, h.pos, h.left, h.acts⟩
  · obtain ⟨f, h1, h2⟩ := h.cells
    exact ⟨f, by rw [hd b (by simp [rblocks])]; exact h1, h2⟩
  · exact own_keep h.now (fun k e => by injection e with e; subst e; exact hd _ (by simp [rblocks]))
  · exact own_keep h.was (fun k e => by injection e with e; subst e; exact hd _ (by simp [rblocks]))
  · exact own_keep h.pend (fun k e => by injection e with e; subst e; exact hd _ (by simp [rblocks]))
/-- What has become of the document's cache. -/
def RGo (B : Nat) (w w' : World) (rc rd : Nat) (z : RLay) (v : Value) (D' : Dev) (most : Nat) (l' : PL) : Prop :=
  ∃ v', RCD B w' rc rd z D' most l' v' ∧ Only (rown rc rd z v) w w' ∧ ∀ k, v'.ownBlock = some k → k ∈ rown rc rd z v ∨ w.heap.size ≤ k
theorem RGo.refl (h : RCD B w rc rd z D most l v) : RGo B w w rc rd z v D most l := ⟨v, h, Only.refl _ _, fun k hk => .inl (List.mem_cons_of_mem _ (List.mem_append.2 (.inr (by simp [hk]))))⟩
theorem rown_mem {k : Nat} (h : k ∈ rown rc rd z v1) : k ∈ rown rc rd z v ∨ v1.ownBlock = some k := by
  rcases List.mem_cons.1 h with rfl | h
  · exact .inl List.mem_cons_self
  · rcases List.mem_append.1 h with h | h
    · exact .inl (List.mem_cons_of_mem _ (List.mem_append.2 (.inl h)))
    · exact .inr (by simpa using h)
theorem RGo.trans (h1 : Only (rown rc rd z v) w w1) (hv : ∀ k, v1.ownBlock = some k → k ∈ rown rc rd z v ∨ w.heap.size ≤ k) (h2 : RGo B w1 w2 rc rd z v1 D2 most l2) : RGo B w w2 rc rd z v D2 most l2 := by
  obtain ⟨v2, h3, h4, h5⟩ := h2
  have hT : ∀ k ∈ rown rc rd z v1, k ∈ rown rc rd z v ∨ w.heap.size ≤ k := fun k hk => (rown_mem hk).elim .inl (hv k)
  refine ⟨v2, h3, h1.next h4 hT, fun k hk => ?_⟩
  rcases h5 k hk with h | h
  · exact hT k h
  · exact .inr (Nat.le_trans h1.size h)
theorem RGo.below (hb : Below w.heap.size w w1) (h2 : RGo B w1 w2 rc rd z v D2 most l2) : RGo B w w2 rc rd z v D2 most l2 :=
  RGo.trans (Only.ofBelow hb) (fun k hk => .inl (List.mem_cons_of_mem _ (List.mem_append.2 (.inr (by simp [hk]))))) h2
/-- A new row. -/
theorem RCD.setL (h : RCD B w rc rd z D most l v) (hrow : w.ownsRow B 104 4 v' l'.length (bflat l')) (hf : ∀ k, v'.ownBlock = some k → k ≠ rc ∧ k ∉ rblocks rd z) (hbs : l'.Pairwise fun x y => x.b ≠ y.b) (hl : l'.length ≤ most) : RCD B (w.setCell ⟨rc, 2, none⟩ v') rc rd z D most l' v' :=
  ⟨h.own, h.cells.set 2 v', ownsRow_setCell_other hrow (a := ⟨rc, 2, none⟩) (fun e => (hf rc e).1 rfl) v', fun e => (hf rc e).1 rfl, h.dev.same (fun k hk => Below.heap_setCell _ _ _ _ (fun e => h.rcd (by have e : k = rc := e; rw [← e]; exact hk))), h.rcd, fun k hk => (hf k hk).2, hbs, hl, h.most⟩
/-- A buffer's cell. -/
theorem bflat_set : ∀ (l : PL) (i : Nat) (x y : PB) (k : Nat) (u : Value), l[i]? = some x → k < 4 → bcell y = (bcell x).set k u → bflat (l.set i y) = (bflat l).set (i * 4 + k) u
  | [], i, x, y, k, u, h, hk, e => by simp at h
  | q :: l, 0, x, y, k, u, h, hk, e => by
    have e2 : q = x := by simpa using h
    subst e2
    show bcell y ++ bflat l = (bcell q ++ bflat l).set (0 * 4 + k) u
    rw [Nat.zero_mul, Nat.zero_add, List.set_append_left _ _ (by rw [bcell_length]; exact hk), e]
  | q :: l, i + 1, x, y, k, u, h, hk, e => by
    show bcell q ++ bflat (l.set i y) = (bcell q ++ bflat l).set ((i + 1) * 4 + k) u
    rw [List.set_append_right _ _ (by rw [bcell_length]; omega), bcell_length, show (i + 1) * 4 + k - 4 = i * 4 + k by omega, bflat_set l i x y k u (by simpa using h) hk e]
theorem RCD.field {g cap : Nat} (h : RCD B w rc rd z D most l (.slice (some ⟨g, 0, none⟩) l.length cap)) {i : Nat} {x : PB} (hx : l[i]? = some x) {k : Nat} (hk : k < 4) (u : Value) (y : PB) (hy : bcell y = (bcell x).set k u) (hb : y.b = x.b) : RCD B (w.setCell ⟨g, i * 4 + k, none⟩ u) rc rd z D most (l.set i y) (.slice (some ⟨g, 0, none⟩) l.length cap) := by
  have hgd := h.vd g rfl
  have hgr : g ≠ rc := fun e => h.ne (by rw [e]; rfl)
  have hi := (List.getElem?_eq_some_iff.1 hx).1
  have hmap : (l.set i y).map PB.b = l.map PB.b := by
    rw [List.map_set, hb]
    apply List.ext_getElem?
    intro j
    rw [List.getElem?_set]
    split
    · rename_i e
      subst e
      rw [if_pos (by simpa using hi), List.getElem?_map, hx]
      rfl
    · rfl
  refine ⟨h.own, h.cells.other (a := ⟨g, _, none⟩) hgr u, ?_, h.ne, h.dev.same (fun k hk => Below.heap_setCell _ _ _ _ (fun e => hgd (by have e : k = g := e; rw [← e]; exact hk))), h.rcd, h.vd, bs_map hmap h.bs, by rw [List.length_set]; exact h.len, h.most⟩
  have := ownsRow_set h.row (i * 4 + k) u
  rw [List.length_set, bflat_set l i x y k u hx hk hy]
  exact this
theorem turn_set {l : PL} (hb : l.Pairwise fun x y => x.b ≠ y.b) {i : Nat} {x : PB} (hx : l[i]? = some x) (f : PB → PB) : turn l x.b f = l.set i (f x) := by
  have hi := (List.getElem?_eq_some_iff.1 hx).1
  have e : l[i] = x := by rw [List.getElem?_eq_getElem hi] at hx; exact Option.some.inj hx
  unfold turn
  apply List.ext_getElem (by simp)
  intro j h1 h2
  rw [List.getElem_map, List.getElem_set]
  have hj : j < l.length := by simpa using h1
  by_cases hij : i = j
  · subst hij
    rw [e, if_pos rfl, if_pos rfl]
  · rw [if_neg hij, if_neg]
    intro k
    have := List.pairwise_iff_getElem.1 hb
    rcases Nat.lt_or_gt_of_ne hij with h | h
    · exact this i j hi hj h (by rw [e, k])
    · exact this j i hj hi h (by rw [e, k])

set_option maxRecDepth 100000 in
set_option maxHeartbeats 4000000 in
theorem rwithout_any (h : RCD B w rc rd z D most l v) {i : Nat} {x : PB} (hx : l[i]? = some x) :
    Calls Try.prog 89 #[.pointer (some ⟨rc, 0, none⟩), .int .i64 i] w fun e w' => ∃ v', e = .returned v' ∧ w'.ownsRow w.heap.size 104 4 v' (but l x.b).length (bflat (but l x.b)) ∧ Below w.heap.size w w' := by
  obtain ⟨i0, hi0, hz0, hz1, hz2⟩ := info_parts info_buffer
  have hi := (List.getElem?_eq_some_iff.1 hx).1
  have hlen := h.len
  have hmo := h.most
  have c2 := h.c2
  have hrcl := h.cells.lt
  obtain ⟨ad, cap, rfl, hf⟩ := h.form
  obtain ⟨g, rfl⟩ := hf (by omega)
  have hgl := (h.row.lt g rfl).2
  have hcap : l.length ≤ cap ∧ cap ≤ maxLen := by
    obtain ⟨_, h2⟩ := h.row
    rcases h2 with ⟨hv, _⟩ | ⟨g', cap', cur, hv, hb, hg, hc1, hc2, hsz, htk⟩
    · cases hv
    · cases hv; exact ⟨hc1, hc2⟩
  have hrow := fun j u (hu : (bflat l)[j]? = some u) => own_cell4 h.row hu
  have n1 : ∀ j u, (bflat (l.take i))[j]? = some u → w.cell? ((⟨g, 0, none⟩ : Addr).add j) = some u := fun j u hu => by
    have e1 : (⟨g, 0, none⟩ : Addr).add j = ⟨g, 0 + j, none⟩ := by unfold Addr.add; split <;> simp_all
    rw [e1, Nat.zero_add]
    exact hrow j u (bflat_take l i j u hu)
  have n2 : ∀ w1, Below w.heap.size w w1 → ∀ j u, (bflat (l.drop (i + 1)))[j]? = some u → w1.cell? ((⟨g, (i + 1) * 4, none⟩ : Addr).add j) = some u := fun w1 hb j u hu => by
    have e1 : (⟨g, (i + 1) * 4, none⟩ : Addr).add j = ⟨g, (i + 1) * 4 + j, none⟩ := by unfold Addr.add; split <;> simp_all
    rw [e1, hb.cell (p := ⟨g, _, none⟩) hgl]
    rw [bflat_drop l (i + 1) (by omega)] at hu
    exact hrow _ u hu
  have N2 := Lib.hid n2
  have hbut := Lib.hid (but_at h.bs hx)
  have l1 : (bflat (l.take i)).length = i * 4 := by rw [bflat_length, List.length_take]; congr 1; omega
  have l2 : (bflat (l.drop (i + 1))).length = (l.length - (i + 1)) * 4 := by rw [bflat_length, List.length_drop]
  have o1 := bflat_one (l.take i)
  have O2 := Lib.hid (bflat_one (l.drop (i + 1)))
  have L2 := Lib.hid l2
  have hbl : (but l x.b).length = i + (l.length - (i + 1)) := by rw [hbut.out, List.length_append, List.length_take, List.length_drop]; congr 1; omega
  have HBL := Lib.hid hbl
  have hbf : bflat (but l x.b) = bflat (l.take i) ++ bflat (l.drop (i + 1)) := by rw [hbut.out, bflat_append]
  have HBF := Lib.hid hbf
  clear h hf hx hrow n2 hbut l2 hbl hbf
  generalize bflat (l.take i) = T1 at *
  generalize bflat (l.drop (i + 1)) = T2 at *
  generalize l.length = n at *
  unfold maxLen at hcap
  have i00 : (0 : Int) ≤ (i : Int) := by omega
  have i01 : (i : Int) ≤ (cap : Int) := by omega
  have i02 : (i : Int) + 1 ≤ (n : Int) := by omega
  have i03 : (i : Int) + 1 ≤ (cap : Int) := by omega
  go_enter Try.func89, Try.ntmps89
  go_wp2_with (first
    | (at_builtin; refine wpList_append_own _ rfl _ _ 99 rfl w.heap.size 104 i0 (.agg #[.int .i64 0, .string ByteArray.empty, .bool false, .bool false]) 4 32 Try.underlying99 hi0 hz0 hz1 hz2 rfl (by decide) _ 0 _ rfl (World.ownsRow_nil _ _ _ _) ⟨g, 0, none⟩ i cap T1 rfl l1 n1 o1 (by unfold maxLen; omega) (by omega) (Nat.le_refl _) ?_))
  intro v1 w1 own1 grow1 _
  have HW1 := Lib.hid ((Below.refl w.heap.size w).grown grow1 (Nat.le_refl _) (fun k hk => by simp [Value.ownBlock] at hk))
  have OW1 := Lib.hid own1
  have cg := (HW1.out.cell (p := ⟨rc, 2, none⟩) hrcl).trans c2
  have N3 := Lib.hid (N2.out w1 HW1.out)
  by_cases hc : cap = i + 1
  · have hT : T2 = [] := by
      apply List.length_eq_zero_iff.1
      rw [L2.out]; omega
    have hn1 : n - (i + 1) = 0 := by omega
    have HN1 := Lib.hid hn1
    have HT := Lib.hid hT
    clear hn1
    subst hc
    clear hT
    go_wp2_with (first
      | (at_builtin; refine wpList_append_own _ rfl _ _ 99 rfl w.heap.size 104 i0 (.agg #[.int .i64 0, .string ByteArray.empty, .bool false, .bool false]) 4 32 Try.underlying99 hi0 hz0 hz1 hz2 rfl (by decide) _ i _ rfl OW1.out ⟨g, 0, none⟩ 0 0 [] rfl rfl (fun j u hu => by simp at hu) (fun u hu => nomatch hu) (by unfold maxLen; omega) (by omega) HW1.out.size ?_))
    intro v2 w3 own2 grow2 _
    have hv1 : ∀ k, v1.ownBlock = some k → w.heap.size ≤ k := fun k hk => (OW1.out.lt k hk).1
    have HE := Lib.hid (show w3.ownsRow w.heap.size 104 4 v2 (but l x.b).length (bflat (but l x.b)) ∧ Below w.heap.size w w3 from ⟨by rw [HBL.out, HBF.out, HN1.out, HT.out, List.append_nil, Nat.add_zero]; exact own2, HW1.out.grown grow2 HW1.out.size hv1⟩)
    clear own2 grow2 hv1
    go_wp2_with fail
    go_ret
    exact ⟨_, rfl, HE.out⟩
  · have hc1 : i + 1 < cap := by omega
    go_wp2_with (first
      | (at_builtin; refine wpList_append_own _ rfl _ _ 99 rfl w.heap.size 104 i0 (.agg #[.int .i64 0, .string ByteArray.empty, .bool false, .bool false]) 4 32 Try.underlying99 hi0 hz0 hz1 hz2 rfl (by decide) _ i _ rfl OW1.out ⟨g, (i + 1) * 4, none⟩ (n - (i + 1)) (cap - (i + 1)) T2 rfl L2.out N3.out O2.out (by unfold maxLen; omega) (by omega) HW1.out.size ?_))
    intro v2 w3 own2 grow2 _
    have hv1 : ∀ k, v1.ownBlock = some k → w.heap.size ≤ k := fun k hk => (OW1.out.lt k hk).1
    have HE := Lib.hid (show w3.ownsRow w.heap.size 104 4 v2 (but l x.b).length (bflat (but l x.b)) ∧ Below w.heap.size w w3 from ⟨by rw [HBL.out, HBF.out]; exact own2, HW1.out.grown grow2 HW1.out.size hv1⟩)
    clear own2 grow2 hv1
    go_wp2_with fail
    go_ret
    exact ⟨_, rfl, HE.out⟩

end Go.Proofs.Ytlickjaopbcanaa
