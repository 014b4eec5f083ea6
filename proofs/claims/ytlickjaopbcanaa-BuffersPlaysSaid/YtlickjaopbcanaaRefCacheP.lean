/- The document's cache: Put. -/
import Derived.Test.YtlickjaopbcanaaRefCacheF
namespace Go.Proofs.Ytlickjaopbcanaa
open Go Go.RowKit Bufs
variable {B rc rd : Nat} {w w' w1 w2 : World} {z : RLay} {D D' D1 D2 : Dev} {most k : Nat} {l l' l1 l2 : PL} {v v' v1 : Value}

set_option maxRecDepth 100000 in
theorem rput_no (h : RCD B w rc rd z D most l v) (b : Int) (hb : ¬ (0 ≤ b ∧ b < D.kept.length)) (data : ByteArray) (pin : Bool) : Calls Try.prog 65 #[.pointer (some ⟨rc, 0, none⟩), .int .i64 b, .string data, .bool pin] w fun e w' => e = .returned (.int .i64 60) ∧ w = w' := by
  have c0 := h.c0
  have q := Lib.hid (rblocks_any h.dev)
  clear h
  generalize D.kept.length = n at *
  by_cases h1 : b < 0
  · clear hb
    go_enter Try.func65, Try.ntmps65
    go_wp2_with fail
    go_ret
    exact ⟨rfl, rfl⟩
  · have h2 : (n : Int) ≤ b := by omega
    have h1' : decide (b < 0) = false := decide_eq_false h1
    clear hb
    go_enter Try.func65, Try.ntmps65
    go_wp2_with fail
    (with_reducible refine q.out.mono ?_)
    rintro e w2 ⟨rfl, rfl⟩
    go_wp2_with fail
    go_ret
    exact ⟨rfl, rfl⟩
set_option maxRecDepth 100000 in
theorem rput_size (h : RCD B w rc rd z D most l v) (b : Nat) (hb : b < D.kept.length) (data : ByteArray) (pin : Bool) (_hs : data.size ≤ 9223372036854775807) (hs2 : data.size ≠ 128) : Calls Try.prog 65 #[.pointer (some ⟨rc, 0, none⟩), .int .i64 b, .string data, .bool pin] w fun e w' => e = .returned (.int .i64 2) ∧ w = w' := by
  have c0 := h.c0
  have q := Lib.hid (rblocks_any h.dev)
  have hs3 : ¬ (data.size : Int) = 128 := by omega
  clear h
  generalize D.kept.length = n at *
  have b0 : ¬ (b : Int) < 0 := by omega
  have b1 : decide ((b : Int) < 0) = false := decide_eq_false b0
  have b2 : ¬ (n : Int) ≤ (b : Int) := by omega
  go_enter Try.func65, Try.ntmps65
  go_wp2_with fail
  (with_reducible refine q.out.mono ?_)
  rintro e w2 ⟨rfl, rfl⟩
  go_wp2_with fail
  go_ret
  exact ⟨rfl, rfl⟩
set_option maxRecDepth 100000 in
set_option maxHeartbeats 8000000 in
theorem rput_old_true (h : RCD B w rc rd z D most l v) (b : Nat) (hb : b < D.kept.length) {i : Nat} {x : PB} (hp : PlaceAt l b i x) (data : ByteArray) (hs : data.size = 128) :
    Calls Try.prog 65 #[.pointer (some ⟨rc, 0, none⟩), .int .i64 b, .string data, .bool true] w fun e w' => e = .returned (.int .i64 0) ∧ RGo B w w' rc rd z v D most (but l b ++ [⟨b, data, true, true, 0, 0⟩]) := by
  obtain ⟨i0, hi0, hz0, hz1, hz2⟩ := info_parts info_buffer
  have c0 := h.c0
  have c2 := h.c2
  have hlen := h.len
  have hmo := h.most
  have hil := hp.lt
  have q := Lib.hid (rblocks_any h.dev)
  have qp := Lib.hid (place_yes h b hp)
  obtain ⟨ad, cap, rfl, hf⟩ := h.form
  obtain ⟨g, rfl⟩ := hf (by omega)
  have hxb : x.b = b := by have := hp.eqb; omega
  subst hxb
  have k3 := h.buf hp.at' 3 _ (by omega) rfl
  have i00 : (0 : Int) ≤ (i : Int) := by omega
  have i01 : (i : Int) < (l.length : Int) := by omega
  have b0 : ¬ (x.b : Int) < 0 := by omega
  have b1 : decide ((x.b : Int) < 0) = false := decide_eq_false b0
  have b2 : ¬ (D.kept.length : Int) ≤ (x.b : Int) := by omega
  have hs3 : (data.size : Int) = 128 := by omega
  have hrcl := h.cells.lt
  have hgl := (h.row.lt g rfl).2
  have hbl : (but l x.b).length < most := by rw [but_at h.bs hp.at', List.length_append, List.length_take, List.length_drop]; omega
  have hbl := Lib.hid hbl
  have hby : Hid (∀ u ∈ but l x.b, u.b ≠ x.b) := Lib.hid (fun u hu => (but_mem.1 hu).2)
  have H := Lib.hid h
  have HP := Lib.hid hp
  clear h hf hp
  generalize D.kept.length = nd at *
  generalize hn : l.length = n at *
  clear hn
  go_enter Try.func65, Try.ntmps65
  go_wp2_with fail
  (with_reducible refine q.out.mono ?_)
  rintro e w2 ⟨rfl, rfl⟩
  clear q
  go_wp2_with fail
  (with_reducible refine qp.out.mono ?_)
  rintro e w2 ⟨rfl, rfl⟩
  clear qp
  go_wp2_with fail
  have hb1 : Below w.heap.size w (w.alloc (.cells #[.int .i64 x.b, .string data, .bool true, .bool true] 104)) := (Below.refl _ _).alloc (Nat.le_refl _) _
  have hrow := (Row.new w 104 [.int .i64 x.b, .string data, .bool true, .bool true] rfl)
  have HB1 := Lib.hid hb1
  refine (with_to (H.out.below hb1) HP.out.at').mono ?_
  rintro e w3 ⟨ad', m', c', rfl, d2, dz, hR, hb3⟩
  obtain ⟨x', hx'⟩ : ∃ x' : PB, x' = ⟨x.b, data, true, true, 0, 0⟩ := ⟨_, rfl⟩
  have hrow2 : Row (w3.setCell ⟨rc, 2, none⟩ (.slice ad' m' c')) w.heap.size 104 (bcell x') := by
    rw [hx']
    exact (Row.below hrow hb3 (by simp)).other (by show rc ≠ w.heap.size; omega) _
  have y0 := hrow2.cellAt 0 (rfl : (bcell x')[0]? = some (.int .i64 x'.b))
  have y1 := hrow2.cellAt 1 (rfl : (bcell x')[1]? = some (.string x'.data))
  have y2 := hrow2.cellAt 2 (rfl : (bcell x')[2]? = some (.bool x'.dirty))
  have y3 := hrow2.cellAt 3 (rfl : (bcell x')[3]? = some (.bool x'.pinned))
  have HT := Lib.hid (RTo.below HB1.out hR)
  have hYv := Lib.hid (RTo.ne H.out (by simp) hR)
  have hYl : w.heap.size < (w3.setCell ⟨rc, 2, none⟩ (.slice ad' m' c')).heap.size := by have := hR.2.1.size; simp at this; simp; omega
  have hxb : x.b = x'.b := by rw [hx']
  have HX := Lib.hid hx'
  have HXB := Lib.hid hxb
  clear hx' hrow hrow2 hb1 hb3 hR hxb
  go_wp2_with fail
  generalize w3.setCell ⟨rc, 2, none⟩ (.slice ad' m' c') = W2 at *
  have hm' : Hid (m' = (but l x.b).length) := Lib.hid (by obtain ⟨_, _, e, _⟩ := HT.out.1.form; injection e)
  have hby := Lib.hid (by rw [← HXB.out]; exact hby.out : ∀ u ∈ but l x.b, u.b ≠ x'.b)
  clear d2 dz HXB
  have HG := Lib.hid (HT.out.1.below (app_below W2 x')).row
  have HG2 := Lib.hid (by simpa [← hm'.out] using HG.out : (W2.drew.alloc (.cells #[.int .i64 x'.b, .string x'.data, .bool x'.dirty, .bool x'.pinned] 104)).ownsRow B 104 4 (.slice ad' m' c') m' (bflat (but l x.b)))
  have HNN := Lib.hid (app_news W2 x')
  have hone := Lib.hid (bcell_one x')
  have hBB : B ≤ (W2.drew.alloc (.cells #[.int .i64 x'.b, .string x'.data, .bool x'.dirty, .bool x'.pinned] 104)).heap.size := by have := HT.out.1.own; have := HT.out.1.cells.lt; simp; omega
  have e2 := HT.out.1.c2
  have ez := HT.out.1.z2
  have hrl2 := HT.out.1.cells.lt
  have hm2 : m' ≤ 1048576 := by have h1 := hm'.out; have h2 := HT.out.1.len; have h3 := HT.out.1.most; omega
  clear HG
  go_upto_region 13 with fail
  go_region_law (refine step_append_lies _ rfl (.tmp 62) (.tmp 64) 99 rfl B 104 i0 (.agg #[.int .i64 0, .string ByteArray.empty, .bool false, .bool false]) 4 32 Try.underlying99 hi0 hz0 hz1 hz2 rfl (by decide) (.slice ad' m' c') m' (bflat (but l x.b)) (by simp [Act.eval]; done) HG2.out ⟨W2.heap.size, 0, none⟩ 1 1 (bcell x') (by simp [Act.eval]; done) rfl HNN.out hone.out (by decide) (by unfold maxLen; omega) (by omega) hBB _ rfl ?_; intro g5 c5 w5 hown hgrow hat hlt5; have X5 := app_cell HT.out.1 x' hgrow; have cX5 := X5.1; have fX5 := X5.2; have y15 := app_old hYl y1 hYv.out hgrow)
  all_goals
    have R5 := Lib.hid (RTo.app HT.out hby.out hbl.out hgrow hm'.out hown hat)
    go_wp2_with fail
    go_ret
    exact ⟨rfl, by rw [← HX.out]; exact R5.out⟩
set_option maxRecDepth 100000 in
set_option maxHeartbeats 8000000 in
theorem rput_old_false (h : RCD B w rc rd z D most l v) (b : Nat) (hb : b < D.kept.length) {i : Nat} {x : PB} (hp : PlaceAt l b i x) (data : ByteArray) (hs : data.size = 128) :
    Calls Try.prog 65 #[.pointer (some ⟨rc, 0, none⟩), .int .i64 b, .string data, .bool false] w fun e w' => e = .returned (.int .i64 0) ∧ RGo B w w' rc rd z v D most (but l b ++ [⟨b, data, true, x.pinned, 0, 0⟩]) := by
  obtain ⟨i0, hi0, hz0, hz1, hz2⟩ := info_parts info_buffer
  have c0 := h.c0
  have c2 := h.c2
  have hlen := h.len
  have hmo := h.most
  have hil := hp.lt
  have q := Lib.hid (rblocks_any h.dev)
  have qp := Lib.hid (place_yes h b hp)
  obtain ⟨ad, cap, rfl, hf⟩ := h.form
  obtain ⟨g, rfl⟩ := hf (by omega)
  have hxb : x.b = b := by have := hp.eqb; omega
  subst hxb
  have k3 := h.buf hp.at' 3 _ (by omega) rfl
  have i00 : (0 : Int) ≤ (i : Int) := by omega
  have i01 : (i : Int) < (l.length : Int) := by omega
  have b0 : ¬ (x.b : Int) < 0 := by omega
  have b1 : decide ((x.b : Int) < 0) = false := decide_eq_false b0
  have b2 : ¬ (D.kept.length : Int) ≤ (x.b : Int) := by omega
  have hs3 : (data.size : Int) = 128 := by omega
  have hrcl := h.cells.lt
  have hgl := (h.row.lt g rfl).2
  have hbl : (but l x.b).length < most := by rw [but_at h.bs hp.at', List.length_append, List.length_take, List.length_drop]; omega
  have hbl := Lib.hid hbl
  have hby : Hid (∀ u ∈ but l x.b, u.b ≠ x.b) := Lib.hid (fun u hu => (but_mem.1 hu).2)
  have H := Lib.hid h
  have HP := Lib.hid hp
  clear h hf hp
  generalize D.kept.length = nd at *
  generalize hn : l.length = n at *
  clear hn
  go_enter Try.func65, Try.ntmps65
  go_wp2_with fail
  (with_reducible refine q.out.mono ?_)
  rintro e w2 ⟨rfl, rfl⟩
  clear q
  go_wp2_with fail
  (with_reducible refine qp.out.mono ?_)
  rintro e w2 ⟨rfl, rfl⟩
  clear qp
  go_wp2_with fail
  have hb1 : Below w.heap.size w (w.alloc (.cells #[.int .i64 x.b, .string data, .bool true, .bool x.pinned] 104)) := (Below.refl _ _).alloc (Nat.le_refl _) _
  have hrow := (Row.new w 104 [.int .i64 x.b, .string data, .bool true, .bool x.pinned] rfl)
  have HB1 := Lib.hid hb1
  refine (with_to (H.out.below hb1) HP.out.at').mono ?_
  rintro e w3 ⟨ad', m', c', rfl, d2, dz, hR, hb3⟩
  obtain ⟨x', hx'⟩ : ∃ x' : PB, x' = ⟨x.b, data, true, x.pinned, 0, 0⟩ := ⟨_, rfl⟩
  have hrow2 : Row (w3.setCell ⟨rc, 2, none⟩ (.slice ad' m' c')) w.heap.size 104 (bcell x') := by
    rw [hx']
    exact (Row.below hrow hb3 (by simp)).other (by show rc ≠ w.heap.size; omega) _
  have y0 := hrow2.cellAt 0 (rfl : (bcell x')[0]? = some (.int .i64 x'.b))
  have y1 := hrow2.cellAt 1 (rfl : (bcell x')[1]? = some (.string x'.data))
  have y2 := hrow2.cellAt 2 (rfl : (bcell x')[2]? = some (.bool x'.dirty))
  have y3 := hrow2.cellAt 3 (rfl : (bcell x')[3]? = some (.bool x'.pinned))
  have HT := Lib.hid (RTo.below HB1.out hR)
  have hYv := Lib.hid (RTo.ne H.out (by simp) hR)
  have hYl : w.heap.size < (w3.setCell ⟨rc, 2, none⟩ (.slice ad' m' c')).heap.size := by have := hR.2.1.size; simp at this; simp; omega
  have hxb : x.b = x'.b := by rw [hx']
  have HX := Lib.hid hx'
  have HXB := Lib.hid hxb
  clear hx' hrow hrow2 hb1 hb3 hR hxb
  go_wp2_with fail
  generalize w3.setCell ⟨rc, 2, none⟩ (.slice ad' m' c') = W2 at *
  have hm' : Hid (m' = (but l x.b).length) := Lib.hid (by obtain ⟨_, _, e, _⟩ := HT.out.1.form; injection e)
  have hby := Lib.hid (by rw [← HXB.out]; exact hby.out : ∀ u ∈ but l x.b, u.b ≠ x'.b)
  clear d2 dz HXB
  have HG := Lib.hid (HT.out.1.below (app_below W2 x')).row
  have HG2 := Lib.hid (by simpa [← hm'.out] using HG.out : (W2.drew.alloc (.cells #[.int .i64 x'.b, .string x'.data, .bool x'.dirty, .bool x'.pinned] 104)).ownsRow B 104 4 (.slice ad' m' c') m' (bflat (but l x.b)))
  have HNN := Lib.hid (app_news W2 x')
  have hone := Lib.hid (bcell_one x')
  have hBB : B ≤ (W2.drew.alloc (.cells #[.int .i64 x'.b, .string x'.data, .bool x'.dirty, .bool x'.pinned] 104)).heap.size := by have := HT.out.1.own; have := HT.out.1.cells.lt; simp; omega
  have e2 := HT.out.1.c2
  have ez := HT.out.1.z2
  have hrl2 := HT.out.1.cells.lt
  have hm2 : m' ≤ 1048576 := by have h1 := hm'.out; have h2 := HT.out.1.len; have h3 := HT.out.1.most; omega
  clear HG
  go_upto_region 13 with fail
  go_region_law (refine step_append_lies _ rfl (.tmp 62) (.tmp 64) 99 rfl B 104 i0 (.agg #[.int .i64 0, .string ByteArray.empty, .bool false, .bool false]) 4 32 Try.underlying99 hi0 hz0 hz1 hz2 rfl (by decide) (.slice ad' m' c') m' (bflat (but l x.b)) (by simp [Act.eval]; done) HG2.out ⟨W2.heap.size, 0, none⟩ 1 1 (bcell x') (by simp [Act.eval]; done) rfl HNN.out hone.out (by decide) (by unfold maxLen; omega) (by omega) hBB _ rfl ?_; intro g5 c5 w5 hown hgrow hat hlt5; have X5 := app_cell HT.out.1 x' hgrow; have cX5 := X5.1; have fX5 := X5.2; have y15 := app_old hYl y1 hYv.out hgrow)
  all_goals
    have R5 := Lib.hid (RTo.app HT.out hby.out hbl.out hgrow hm'.out hown hat)
    go_wp2_with fail
    go_ret
    exact ⟨rfl, by rw [← HX.out]; exact R5.out⟩
set_option maxRecDepth 100000 in
set_option maxHeartbeats 8000000 in
theorem rput_full (h : RCD B w rc rd z D most l v) (b : Nat) (hb : b < D.kept.length) (hn : noneTo l b l.length) (hds : ∀ x ∈ l, x.data.size = 128) (ha : D.acts ≤ 900000000000) (hr : (roomOf D l most).1 ≠ 0) (data : ByteArray) (hs : data.size = 128) (pin : Bool) :
    Calls Try.prog 65 #[.pointer (some ⟨rc, 0, none⟩), .int .i64 b, .string data, .bool pin] w fun e w' => e = .returned (.int .i64 (roomOf D l most).1) ∧ RGo B w w' rc rd z v (roomOf D l most).2.1 most (roomOf D l most).2.2 := by
  obtain ⟨i0, hi0, hz0, hz1, hz2⟩ := info_parts info_buffer
  have c0 := h.c0
  have hmo := h.most
  have q := Lib.hid (rblocks_any h.dev)
  have qp := Lib.hid (place_no h b hn)
  have q3 : Hid (∀ w1, RCD B w1 rc rd z D most l v → Calls Try.prog 90 #[.pointer (some ⟨rc, 0, none⟩)] w1 fun e w' => e = .returned (.int .i64 (roomOf D l most).1) ∧ RGo B w1 w' rc rd z v (roomOf D l most).2.1 most (roomOf D l most).2.2) := Lib.hid (fun w1 h1 => rroom_any h1 hds ha)
  have hny : Hid (∀ u ∈ l, u.b ≠ b) := Lib.hid (fun u hu e => by
    obtain ⟨i, hi⟩ := List.getElem?_of_mem hu
    have hil : i < l.length := by
      rcases Nat.lt_or_ge i l.length with h3 | h3
      · exact h3
      · rw [List.getElem?_eq_none h3] at hi; exact nomatch hi
    exact hn i u hil hi (by omega))
  generalize roomOf D l most = r at *
  obtain ⟨c, D1, l1⟩ := r
  dsimp only at *
  have hrcl := h.cells.lt
  have b0 : ¬ (b : Int) < 0 := by omega
  have b1 : decide ((b : Int) < 0) = false := decide_eq_false b0
  have b2 : ¬ (D.kept.length : Int) ≤ (b : Int) := by omega
  have hs3 : (data.size : Int) = 128 := by omega
  have H := Lib.hid h
  clear h hn hds hny
  generalize D.kept.length = nd at *
  go_enter Try.func65, Try.ntmps65
  go_wp2_with fail
  (with_reducible refine q.out.mono ?_)
  rintro e w2 ⟨rfl, rfl⟩
  clear q
  go_wp2_with fail
  (with_reducible refine qp.out.mono ?_)
  rintro e w2 ⟨rfl, rfl⟩
  clear qp
  go_wp2_with fail
  have hb1 : Below w.heap.size w (w.alloc (.cells (bcell ⟨b, data, true, pin, 0, 0⟩).toArray 104)) := (Below.refl _ _).alloc (Nat.le_refl _) _
  have HB1 := Lib.hid hb1
  refine (q3.out _ (H.out.below hb1)).mono ?_
  rintro e w3 ⟨rfl, v', hR⟩
  clear q3
  have HT := Lib.hid (RTo.below HB1.out hR)
  clear hb1
  have HG : Hid (RGo B w w3 rc rd z v D1 most l1) := Lib.hid ⟨v', HT.out⟩
  clear hR HT
  go_wp2_with fail
  go_ret
  exact ⟨rfl, HG.out⟩
set_option maxRecDepth 100000 in
set_option maxHeartbeats 8000000 in
theorem rput_new (h : RCD B w rc rd z D most l v) (b : Nat) (hb : b < D.kept.length) (hn : noneTo l b l.length) (hds : ∀ x ∈ l, x.data.size = 128) (ha : D.acts ≤ 900000000000) (hr : (roomOf D l most).1 = 0) (data : ByteArray) (hs : data.size = 128) (pin : Bool) :
    Calls Try.prog 65 #[.pointer (some ⟨rc, 0, none⟩), .int .i64 b, .string data, .bool pin] w fun e w' => e = .returned (.int .i64 0) ∧ RGo B w w' rc rd z v (roomOf D l most).2.1 most ((roomOf D l most).2.2 ++ [⟨b, data, true, pin, 0, 0⟩]) := by
  obtain ⟨i0, hi0, hz0, hz1, hz2⟩ := info_parts info_buffer
  have c0 := h.c0
  have hmo := h.most
  have q := Lib.hid (rblocks_any h.dev)
  have qp := Lib.hid (place_no h b hn)
  have hfit := room_fits h.bs h.len hr
  have q3 : Hid (∀ w1, RCD B w1 rc rd z D most l v → Calls Try.prog 90 #[.pointer (some ⟨rc, 0, none⟩)] w1 fun e w' => e = .returned (.int .i64 (roomOf D l most).1) ∧ RGo B w1 w' rc rd z v (roomOf D l most).2.1 most (roomOf D l most).2.2) := Lib.hid (fun w1 h1 => rroom_any h1 hds ha)
  have hny : Hid (∀ u ∈ l, u.b ≠ b) := Lib.hid (fun u hu e => by
    obtain ⟨i, hi⟩ := List.getElem?_of_mem hu
    have hil : i < l.length := by
      rcases Nat.lt_or_ge i l.length with h3 | h3
      · exact h3
      · rw [List.getElem?_eq_none h3] at hi; exact nomatch hi
    exact hn i u hil hi (by omega))
  generalize roomOf D l most = r at *
  obtain ⟨c, D1, l1⟩ := r
  dsimp only at *
  subst hr
  have hbl := Lib.hid hfit.1
  have hby : Hid (∀ u ∈ l1, u.b ≠ b) := Lib.hid (fun u hu => hny.out u (hfit.2 u hu))
  clear hfit
  have hrcl := h.cells.lt
  have b0 : ¬ (b : Int) < 0 := by omega
  have b1 : decide ((b : Int) < 0) = false := decide_eq_false b0
  have b2 : ¬ (D.kept.length : Int) ≤ (b : Int) := by omega
  have hs3 : (data.size : Int) = 128 := by omega
  have H := Lib.hid h
  clear h hn hds hny
  generalize D.kept.length = nd at *
  go_enter Try.func65, Try.ntmps65
  go_wp2_with fail
  (with_reducible refine q.out.mono ?_)
  rintro e w2 ⟨rfl, rfl⟩
  clear q
  go_wp2_with fail
  (with_reducible refine qp.out.mono ?_)
  rintro e w2 ⟨rfl, rfl⟩
  clear qp
  go_wp2_with fail
  have hb1 : Below w.heap.size w (w.alloc (.cells (bcell ⟨b, data, true, pin, 0, 0⟩).toArray 104)) := (Below.refl _ _).alloc (Nat.le_refl _) _
  have HB1 := Lib.hid hb1
  refine (q3.out _ (H.out.below hb1)).mono ?_
  rintro e w3 ⟨rfl, v', hR⟩
  clear q3
  have HT := Lib.hid (RTo.below HB1.out hR)
  clear hb1
  obtain ⟨x', hx'⟩ : ∃ x' : PB, x' = ⟨b, data, true, pin, 0, 0⟩ := ⟨_, rfl⟩
  have hrow2 : Row w3 w.heap.size 104 (bcell x') := by rw [hx']; exact box_row H.out hR.2.1
  have y0 := hrow2.cellAt 0 (rfl : (bcell x')[0]? = some (.int .i64 x'.b))
  have y1 := hrow2.cellAt 1 (rfl : (bcell x')[1]? = some (.string x'.data))
  have y2 := hrow2.cellAt 2 (rfl : (bcell x')[2]? = some (.bool x'.dirty))
  have y3 := hrow2.cellAt 3 (rfl : (bcell x')[3]? = some (.bool x'.pinned))
  have hYv := Lib.hid (RTo.ne H.out (by simp) hR)
  have hYl : w.heap.size < w3.heap.size := by have := hR.2.1.size; simp at this; omega
  obtain ⟨ad', c', rfl, _⟩ := hR.1.form
  have hby := Lib.hid (by rw [hx']; exact hby.out : ∀ u ∈ l1, u.b ≠ x'.b)
  have HX := Lib.hid hx'
  clear hrow2 hx' hR HB1
  go_wp2_with fail
  generalize hW : w3 = W2 at *
  clear hW
  have HG := Lib.hid (HT.out.1.below (app_below W2 x')).row
  have HG2 := Lib.hid (HG.out : (W2.drew.alloc (.cells #[.int .i64 x'.b, .string x'.data, .bool x'.dirty, .bool x'.pinned] 104)).ownsRow B 104 4 (.slice ad' l1.length c') l1.length (bflat l1))
  have HNN := Lib.hid (app_news W2 x')
  have hone := Lib.hid (bcell_one x')
  have hBB : B ≤ (W2.drew.alloc (.cells #[.int .i64 x'.b, .string x'.data, .bool x'.dirty, .bool x'.pinned] 104)).heap.size := by have := HT.out.1.own; have := HT.out.1.cells.lt; simp; omega
  have e2 := HT.out.1.c2
  have ez := HT.out.1.z2
  have hrl2 := HT.out.1.cells.lt
  have hm2 : l1.length ≤ 1048576 := by have h2 := HT.out.1.len; have h3 := HT.out.1.most; omega
  clear HG
  go_upto_region 13 with fail
  go_region_law (refine step_append_lies _ rfl (.tmp 62) (.tmp 64) 99 rfl B 104 i0 (.agg #[.int .i64 0, .string ByteArray.empty, .bool false, .bool false]) 4 32 Try.underlying99 hi0 hz0 hz1 hz2 rfl (by decide) (.slice ad' l1.length c') l1.length (bflat l1) (by simp [Act.eval]; done) HG2.out ⟨W2.heap.size, 0, none⟩ 1 1 (bcell x') (by simp [Act.eval]; done) rfl HNN.out hone.out (by decide) (by unfold maxLen; omega) (by omega) hBB _ rfl ?_; intro g5 c5 w5 hown hgrow hat hlt5; have X5 := app_cell HT.out.1 x' hgrow; have cX5 := X5.1; have fX5 := X5.2; have y15 := app_old hYl y1 hYv.out hgrow)
  all_goals
    have R5 := Lib.hid (RTo.app HT.out hby.out hbl.out hgrow rfl hown hat)
    go_wp2_with fail
    go_ret
    exact ⟨rfl, by rw [← HX.out]; exact R5.out⟩
theorem no_of (hg : get l k = none) : noneTo l k l.length := fun i y _ hy e => get_none hg y (List.mem_of_getElem? hy) (by omega)
theorem rget_any (h : RCD B w rc rd z D most l v) (hB : Buffers D.kept.length most l) (ho : D.Ok k) (hk : k ≤ 900000000000) (b : Int) :
    Calls Try.prog 64 #[.pointer (some ⟨rc, 0, none⟩), .int .i64 b] w fun e w' => e = .returned (.tuple #[.string (getS D l most b).1.1, .int .i64 (getS D l most b).1.2]) ∧ RGo B w w' rc rd z v (getS D l most b).2.1 most (getS D l most b).2.2 := by
  have ha := ho.acts
  by_cases hb : 0 ≤ b ∧ b < D.kept.length
  · obtain ⟨j, rfl⟩ : ∃ j : Nat, b = (j : Int) := ⟨b.toNat, by omega⟩
    have hj : j < D.kept.length := by omega
    have eq : getS D l most (j : Int) = match get l j with
        | some x => ((x.data, 0), D, but l j ++ [x])
        | none => if (roomOf D l most).1 = 0 then (((roomOf D l most).2.1.readS j, 0), (roomOf D l most).2.1, (roomOf D l most).2.2 ++ [⟨j, (roomOf D l most).2.1.readS j, false, false, 0, 0⟩])
          else ((⟨#[]⟩, (roomOf D l most).1), (roomOf D l most).2.1, (roomOf D l most).2.2) := if_pos hb
    rw [eq]
    cases hg : get l j with
    | some x =>
      obtain ⟨i, hp⟩ := place_of h.bs hg
      exact rget_old h j hj hp
    | none =>
      dsimp only
      by_cases hr : (roomOf D l most).1 = 0
      · rw [if_pos hr]
        exact rget_new h j hj (no_of hg) hB.data (by omega) hr
      · rw [if_neg hr]
        exact rget_full h j hj (no_of hg) hB.data (by omega) hr
  · have eq : getS D l most b = ((⟨#[]⟩, 60), D, l) := if_neg hb
    rw [eq]
    refine (rget_no h b hb).mono ?_
    rintro e w' ⟨rfl, rfl⟩
    exact ⟨rfl, RGo.refl h⟩
theorem rput_any (h : RCD B w rc rd z D most l v) (hB : Buffers D.kept.length most l) (ho : D.Ok k) (hk : k ≤ 900000000000) (b : Int) (data : ByteArray) (hs : data.size ≤ 9223372036854775807) (pin : Bool) :
    Calls Try.prog 65 #[.pointer (some ⟨rc, 0, none⟩), .int .i64 b, .string data, .bool pin] w fun e w' => e = .returned (.int .i64 (putS D l most b data pin).1) ∧ RGo B w w' rc rd z v (putS D l most b data pin).2.1 most (putS D l most b data pin).2.2 := by
  have ha := ho.acts
  by_cases hb : 0 ≤ b ∧ b < D.kept.length
  · by_cases hs2 : data.size = 128
    · obtain ⟨j, rfl⟩ : ∃ j : Nat, b = (j : Int) := ⟨b.toNat, by omega⟩
      have hj : j < D.kept.length := by omega
      have eq : putS D l most (j : Int) data pin = match get l j with
          | some x => (0, D, but l j ++ [⟨j, data, true, pin || x.pinned, 0, 0⟩])
          | none => if (roomOf D l most).1 = 0 then (0, (roomOf D l most).2.1, (roomOf D l most).2.2 ++ [⟨j, data, true, pin, 0, 0⟩])
            else ((roomOf D l most).1, (roomOf D l most).2.1, (roomOf D l most).2.2) := by
        unfold putS
        rw [if_pos hb, if_neg (by simp [hs2])]
        rfl
      rw [eq]
      cases hg : get l j with
      | some x =>
        obtain ⟨i, hp⟩ := place_of h.bs hg
        cases pin
        · exact rput_old_false h j hj hp data hs2
        · exact rput_old_true h j hj hp data hs2
      | none =>
        dsimp only
        by_cases hr : (roomOf D l most).1 = 0
        · rw [if_pos hr]
          exact rput_new h j hj (no_of hg) hB.data (by omega) hr data hs2 pin
        · rw [if_neg hr]
          exact rput_full h j hj (no_of hg) hB.data (by omega) hr data hs2 pin
    · have eq : putS D l most b data pin = (2, D, l) := by
        unfold putS
        rw [if_pos hb, if_pos hs2]
      rw [eq]
      obtain ⟨j, rfl⟩ : ∃ j : Nat, b = (j : Int) := ⟨b.toNat, by omega⟩
      refine (rput_size h j (by omega) data pin hs hs2).mono ?_
      rintro e w' ⟨rfl, rfl⟩
      exact ⟨rfl, RGo.refl h⟩
  · have eq : putS D l most b data pin = (60, D, l) := if_neg hb
    rw [eq]
    refine (rput_no h b hb data pin).mono ?_
    rintro e w' ⟨rfl, rfl⟩
    exact ⟨rfl, RGo.refl h⟩

end Go.Proofs.Ytlickjaopbcanaa
