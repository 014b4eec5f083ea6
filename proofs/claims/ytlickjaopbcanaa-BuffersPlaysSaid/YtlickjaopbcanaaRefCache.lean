/- The document's cache in memory; place, without. -/
import Derived.Test.YtlickjaopbcanaaRefDevA
import Derived.Test.YtlickjaopbcanaaCacheDev
import Derived.Test.YtlickjaopbcanaaSyncMath
namespace Go.Proofs.Ytlickjaopbcanaa
open Go Go.RowKit Bufs
variable {B rc rd : Nat} {w w' : World} {z : RLay} {D : Dev} {most : Nat} {l : PL} {v : Value}

theorem bcell_length (x : PB) : (bcell x).length = 4 := rfl
def bflat : PL → List Value
  | [] => []
  | x :: l => bcell x ++ bflat l
theorem bflat_length : ∀ l : PL, (bflat l).length = l.length * 4
  | [] => rfl
  | x :: l => by show (bcell x ++ bflat l).length = _; rw [List.length_append, bflat_length l, bcell_length, List.length_cons]; omega
theorem bflat_append : ∀ l m : PL, bflat (l ++ m) = bflat l ++ bflat m
  | [], m => rfl
  | x :: l, m => by show bcell x ++ bflat (l ++ m) = (bcell x ++ bflat l) ++ bflat m; rw [bflat_append l m, List.append_assoc]
theorem bflat_at : ∀ (l : PL) (i : Nat) (x : PB), l[i]? = some x → ∀ k, k < 4 → (bflat l)[i * 4 + k]? = (bcell x)[k]?
  | [], i, x, h, k, hk => by simp at h
  | y :: l, 0, x, h, k, hk => by
    have e : y = x := by simpa using h
    subst e
    show (bcell y ++ bflat l)[0 * 4 + k]? = _
    rw [Nat.zero_mul, Nat.zero_add, List.getElem?_append_left (by rw [bcell_length]; exact hk)]
  | y :: l, i + 1, x, h, k, hk => by
    show (bcell y ++ bflat l)[(i + 1) * 4 + k]? = _
    rw [List.getElem?_append_right (by rw [bcell_length]; omega), bcell_length, show (i + 1) * 4 + k - 4 = i * 4 + k by omega]
    exact bflat_at l i x (by simpa using h) k hk
theorem bflat_one : ∀ (l : PL), ∀ u ∈ bflat l, u.oneCell' = true
  | [], u, h => nomatch h
  | x :: l, u, h => by
    rcases List.mem_append.1 (show u ∈ bcell x ++ bflat l from h) with h | h
    · simp only [Go.Proofs.Ytlickjaopbcanaa.bcell, List.mem_cons, List.not_mem_nil, or_false] at h
      rcases h with rfl | rfl | rfl | rfl <;> rfl
    · exact bflat_one l u h
theorem info_buffer : (Try.prog.info? 104).map (fun i => (i.zero, i.size, i.bytes)) = some (some (.agg #[.int .i64 0, .string ByteArray.empty, .bool false, .bool false]), 4, 32) := by kernel_rfl

def rblocks (rd : Nat) (z : RLay) : List Nat := [rd, z.gn, z.gw, z.gp]
/-- The blocks of the document's cache and its device. -/
def rown (rc rd : Nat) (z : RLay) (v : Value) : List Nat := rc :: (rblocks rd z ++ v.ownBlock.toList)
structure RCD (B : Nat) (w : World) (rc rd : Nat) (z : RLay) (D : Dev) (most : Nat) (l : PL) (v : Value) : Prop where
  own : B ≤ rc
  cells : Row w rc 101 [.pointer (some ⟨rd, 0, none⟩), .int .i64 most, v]
  row : w.ownsRow B 104 4 v l.length (bflat l)
  ne : v.ownBlock ≠ some rc
  dev : RefAt B w rd z D
  rcd : rc ∉ rblocks rd z
  vd : ∀ k, v.ownBlock = some k → k ∉ rblocks rd z
  bs : l.Pairwise fun x y => x.b ≠ y.b
  len : l.length ≤ most
  most : 1 ≤ most ∧ most ≤ 256
theorem RCD.c0 (h : RCD B w rc rd z D most l v) : w.cell? ⟨rc, 0, none⟩ = some (.pointer (some ⟨rd, 0, none⟩)) := h.cells.cellAt 0 rfl
theorem RCD.c1 (h : RCD B w rc rd z D most l v) : w.cell? ⟨rc, 1, none⟩ = some (.int .i64 most) := h.cells.cellAt 1 rfl
theorem RCD.c2 (h : RCD B w rc rd z D most l v) : w.cell? ⟨rc, 2, none⟩ = some v := h.cells.cellAt 2 rfl
theorem RCD.z2 (h : RCD B w rc rd z D most l v) : w.frozen? ⟨rc, 2, none⟩ = false := h.cells.free 2 (by simp)
theorem rblocks_lt (h : RefAt B w rd z D) : ∀ k ∈ rblocks rd z, B ≤ k ∧ k < w.heap.size := by
  have hb := h.bounds
  intro k hk
  simp only [rblocks, List.mem_cons, List.not_mem_nil, or_false] at hk
  rcases hk with rfl | rfl | rfl | rfl
  · exact hb.1
  · exact hb.2.1
  · exact hb.2.2.1
  · exact hb.2.2.2
theorem RCD.lt (h : RCD B w rc rd z D most l v) : ∀ k ∈ rown rc rd z v, B ≤ k ∧ k < w.heap.size := by
  intro k hk
  rcases List.mem_cons.1 hk with rfl | hk
  · exact ⟨h.own, h.cells.lt⟩
  · rcases List.mem_append.1 hk with hk | hk
    · exact rblocks_lt h.dev k hk
    · exact h.row.lt k (by simpa using hk)
/-- The row in its form. -/
theorem RCD.form (h : RCD B w rc rd z D most l v) : ∃ ad cap, v = .slice ad l.length cap ∧ (0 < l.length → ∃ g, ad = some ⟨g, 0, none⟩) := by
  obtain ⟨ad, cap, e, hh⟩ := own_opens h.row
  exact ⟨ad, cap, e, fun k => by obtain ⟨g, hg, _⟩ := hh k; exact ⟨g, hg⟩⟩
theorem own_cell4 {T : TypeId} {g n cap : Nat} {xs : List Value} (h : w.ownsRow B T 4 (.slice (some ⟨g, 0, none⟩) n cap) n xs) {j : Nat} {u : Value} (hu : xs[j]? = some u) : w.cell? ⟨g, j, none⟩ = some u := by
  obtain ⟨h1, h2⟩ := h
  rcases h2 with ⟨hv, _⟩ | ⟨g', cap', cur, hv, hb, hg, hc1, hc2, hsz, htk⟩
  · cases hv
  · cases hv
    have hj : j < n * 4 := by
      have := (List.getElem?_eq_some_iff.1 hu).1
      omega
    have e : (cur.toList.take (n * 4))[j]? = some u := by rw [htk]; exact hu
    rw [List.getElem?_take, if_pos hj, Array.getElem?_toList] at e
    simp [World.cell?, hg, e]
theorem RCD.buf {g cap : Nat} (h : RCD B w rc rd z D most l (.slice (some ⟨g, 0, none⟩) l.length cap)) {i : Nat} {x : PB} (hx : l[i]? = some x) : ∀ k u, k < 4 → (bcell x)[k]? = some u → w.cell? ⟨g, i * 4 + k, none⟩ = some u := fun k u hk hu => own_cell4 h.row (by rw [bflat_at l i x hx k hk]; exact hu)
/-- Others have written to their own, or made memory. -/
theorem RCD.same (h : RCD B w rc rd z D most l v) (hs : ∀ k ∈ rown rc rd z v, w'.heap[k]? = w.heap[k]?) : RCD B w' rc rd z D most l v := by
  have hd := fun k (hk : k ∈ rblocks rd z) => hs k (List.mem_cons_of_mem _ (List.mem_append.2 (.inl hk)))
  refine ⟨h.own, ?_, ?_, h.ne, ⟨h.dev.own, ?_, ?_, ?_, ?_, h.dev.ne, h.dev.pos, h.dev.left, h.dev.acts⟩, h.rcd, h.vd, h.bs, h.len, h.most⟩
  · obtain ⟨f, h1, h2⟩ := h.cells
    exact ⟨f, by rw [hs rc List.mem_cons_self]; exact h1, h2⟩
  · obtain ⟨h1, h2⟩ := h.row
    refine ⟨h1, ?_⟩
    rcases h2 with h2 | ⟨g, cap, cur, rfl, hg, hh, r⟩
    · exact .inl h2
    · exact .inr ⟨g, cap, cur, rfl, hg, by rw [hs g (List.mem_cons_of_mem _ (List.mem_append.2 (.inr (by simp [Value.ownBlock]))))]; exact hh, r⟩
  · obtain ⟨f, h1, h2⟩ := h.dev.cells
    exact ⟨f, by rw [hd rd (by simp [rblocks])]; exact h1, h2⟩
  · exact own_keep h.dev.now (fun k e => by injection e with e; subst e; exact hd _ (by simp [rblocks]))
  · exact own_keep h.dev.was (fun k e => by injection e with e; subst e; exact hd _ (by simp [rblocks]))
  · exact own_keep h.dev.pend (fun k e => by injection e with e; subst e; exact hd _ (by simp [rblocks]))
theorem RCD.below (h : RCD B w rc rd z D most l v) (hb : Below w.heap.size w w') : RCD B w' rc rd z D most l v := h.same (fun k hk => hb.block k (h.lt k hk).2)
theorem RCD.fr {B' : Nat} {E : List Nat} (h : RCD B w rc rd z D most l v) (hf : Fr B' E w w') (hE : ∀ k ∈ rown rc rd z v, k ∈ E) : RCD B w' rc rd z D most l v := h.same (fun k hk => hf.block k (h.lt k hk).2 (.inr (hE k hk)))
/-- The device is used. -/
theorem RCD.dev_turn {D' : Dev} (h : RCD B w rc rd z D most l v) (ho : Only (rblocks rd z) w w') (hd : RefAt B w' rd z D') : RCD B w' rc rd z D' most l v := by
  refine ⟨h.own, h.cells.only ho h.rcd, ?_, h.ne, hd, h.rcd, h.vd, h.bs, h.len, h.most⟩
  obtain ⟨h1, h2⟩ := h.row
  refine ⟨h1, ?_⟩
  rcases h2 with h2 | ⟨g, cap, cur, rfl, hg, hh, r⟩
  · exact .inl h2
  · exact .inr ⟨g, cap, cur, rfl, hg, by rw [ho.block g (lt_of_block hh) (h.vd g rfl)]; exact hh, r⟩

/-! ### place -/
structure PlaceAt (l : PL) (b : Int) (i : Nat) (x : PB) : Prop where
  at' : l[i]? = some x
  eqb : (x.b : Int) = b
  first : ∀ j y, j < i → l[j]? = some y → (y.b : Int) ≠ b
theorem place_of {l : PL} (hb : l.Pairwise fun x y => x.b ≠ y.b) {b : Nat} {x : PB} (h : get l b = some x) : ∃ i, PlaceAt l b i x := by
  obtain ⟨hx, e⟩ := get_some h
  obtain ⟨i, hi, hxi⟩ := List.getElem_of_mem hx
  refine ⟨i, by rw [List.getElem?_eq_getElem hi, hxi], by omega, fun j y hj hy k => ?_⟩
  have hjl : j < l.length := by omega
  have ey : l[j] = y := by rw [List.getElem?_eq_getElem hjl] at hy; exact Option.some.inj hy
  have := List.pairwise_iff_getElem.1 hb j i hjl hi hj
  rw [ey, hxi] at this
  omega
theorem PlaceAt.lt {l : PL} {b : Int} {i : Nat} {x : PB} (h : PlaceAt l b i x) : i < l.length := (List.getElem?_eq_some_iff.1 h.at').1
def noneTo (l : PL) (b : Int) (j : Nat) : Prop := ∀ i y, i < j → l[i]? = some y → (y.b : Int) ≠ b
set_option maxRecDepth 100000 in
set_option maxHeartbeats 2000000 in
theorem place_no (h : RCD B w rc rd z D most l v) (b : Int) (hb : noneTo l b l.length) : Calls Try.prog 73 #[.pointer (some ⟨rc, 0, none⟩), .int .i64 b] w fun e w' => e = .returned (.int .i64 (-1)) ∧ w = w' := by
  have c2 := h.c2
  have hlen := h.len
  have hmo := h.most
  obtain ⟨ad, cap, rfl, hf⟩ := h.form
  have HB : Hid (∀ j, j < l.length → ∃ g xb, ad = some ⟨g, 0, none⟩ ∧ w.cell? ⟨g, j * 4, none⟩ = some (.int .i64 xb) ∧ xb ≠ b) := Lib.hid (fun j hj => by
    obtain ⟨g, rfl⟩ := hf (by omega)
    have hx : l[j]? = some l[j] := List.getElem?_eq_getElem hj
    exact ⟨g, l[j].b, rfl, h.buf hx 0 _ (by omega) rfl, hb j _ hj hx⟩)
  clear h hf hb
  generalize l.length = n at *
  go_enter Try.func73, Try.ntmps73
  go_wp2_with fail
  go_loop [5] (fun q => ∃ j : Nat, j ≤ n ∧ q = .int .i64 j) (fun q => n - (intOf q).toNat)
  case atStart => exact ⟨0, by omega, rfl⟩
  case round =>
    obtain ⟨j, hj, rfl⟩ := hrel
    by_cases hlt : j < n
    · have i1 : (j : Int) < (n : Int) := by omega
      have i0 : (0 : Int) ≤ (j : Int) := by omega
      obtain ⟨g, xb, rfl, k1, hne⟩ := HB.out j hlt
      have hne2 : (xb == b) = false := by rw [beq_eq_false_iff_ne]; exact hne
      go_wp2_with fail
      go_round
      case rel => exact ⟨j + 1, by omega, by go_num⟩
      case measure => simp [intOf]; omega
    · obtain rfl : j = n := by omega
      go_wp2_with fail
      go_ret
      exact ⟨rfl, rfl⟩
set_option maxRecDepth 100000 in
set_option maxHeartbeats 2000000 in
theorem place_yes (h : RCD B w rc rd z D most l v) (b : Int) {i : Nat} {x : PB} (hp : PlaceAt l b i x) : Calls Try.prog 73 #[.pointer (some ⟨rc, 0, none⟩), .int .i64 b] w fun e w' => e = .returned (.int .i64 i) ∧ w = w' := by
  have c2 := h.c2
  have hlen := h.len
  have hmo := h.most
  have hil := hp.lt
  obtain ⟨ad, cap, rfl, hf⟩ := h.form
  obtain ⟨g, rfl⟩ := hf (by omega)
  have HB : Hid (∀ j, j < i → ∃ xb, w.cell? ⟨g, j * 4, none⟩ = some (.int .i64 xb) ∧ xb ≠ b) := Lib.hid (fun j hj => by
    have hx : l[j]? = some l[j] := List.getElem?_eq_getElem (by omega)
    exact ⟨l[j].b, h.buf hx 0 _ (by omega) rfl, hp.first j _ hj hx⟩)
  have HI : Hid (w.cell? ⟨g, i * 4, none⟩ = some (.int .i64 b)) := Lib.hid (by
    have := h.buf hp.at' 0 _ (by omega) rfl
    rw [hp.eqb] at this
    exact this)
  clear h hf hp
  generalize l.length = n at *
  go_enter Try.func73, Try.ntmps73
  go_wp2_with fail
  go_loop [5] (fun q => ∃ j : Nat, j ≤ i ∧ q = .int .i64 j) (fun q => i - (intOf q).toNat)
  case atStart => exact ⟨0, by omega, rfl⟩
  case round =>
    obtain ⟨j, hj, rfl⟩ := hrel
    have i1 : (j : Int) < (n : Int) := by omega
    have i0 : (0 : Int) ≤ (j : Int) := by omega
    by_cases hlt : j < i
    · obtain ⟨xb, k1, hne⟩ := HB.out j hlt
      have hne2 : (xb == b) = false := by rw [beq_eq_false_iff_ne]; exact hne
      go_wp2_with fail
      go_round
      case rel => exact ⟨j + 1, by omega, by go_num⟩
      case measure => simp [intOf]; omega
    · obtain rfl : j = i := by omega
      have k1 := HI.out
      go_wp2_with fail
      go_ret
      exact ⟨rfl, rfl⟩

/-! ### without -/
theorem but_at {l : PL} (hb : l.Pairwise fun x y => x.b ≠ y.b) {i : Nat} {x : PB} (hx : l[i]? = some x) : but l x.b = l.take i ++ l.drop (i + 1) := by
  have hi := (List.getElem?_eq_some_iff.1 hx).1
  have e : l[i] = x := by rw [List.getElem?_eq_getElem hi] at hx; exact Option.some.inj hx
  conv => lhs; rw [← List.take_append_drop i l, List.drop_eq_getElem_cons hi, e]
  have hp := List.pairwise_iff_getElem.1 hb
  unfold but
  rw [List.filter_append, List.filter_cons]
  have h1 : (l.take i).filter (fun y => y.b != x.b) = l.take i := by
    rw [List.filter_eq_self]
    intro y hy
    obtain ⟨j, hj, ey⟩ := List.getElem_of_mem hy
    rw [List.length_take] at hj
    rw [List.getElem_take] at ey
    have := hp j i (by omega) hi (by omega)
    rw [ey, e] at this
    simp [this]
  have h2 : (l.drop (i + 1)).filter (fun y => y.b != x.b) = l.drop (i + 1) := by
    rw [List.filter_eq_self]
    intro y hy
    obtain ⟨j, hj, ey⟩ := List.getElem_of_mem hy
    rw [List.length_drop] at hj
    rw [List.getElem_drop] at ey
    have := hp i (i + 1 + j) hi (by omega) (by omega)
    rw [ey, e] at this
    simp [Ne.symm this]
  rw [h1, h2]
  simp
theorem bflat_take (l : PL) (i : Nat) (j : Nat) (u : Value) (h : (bflat (l.take i))[j]? = some u) : (bflat l)[j]? = some u := by
  conv => lhs; rw [← List.take_append_drop i l, bflat_append]
  rw [List.getElem?_append_left (List.getElem?_eq_some_iff.1 h).1]
  exact h
theorem bflat_drop (l : PL) (i : Nat) (hi : i ≤ l.length) (j : Nat) : (bflat (l.drop i))[j]? = (bflat l)[i * 4 + j]? := by
  conv => rhs; rw [← List.take_append_drop i l, bflat_append]
  rw [List.getElem?_append_right (by rw [bflat_length, List.length_take]; omega), bflat_length, List.length_take, Nat.min_eq_left hi]
  congr 1
  omega

end Go.Proofs.Ytlickjaopbcanaa
