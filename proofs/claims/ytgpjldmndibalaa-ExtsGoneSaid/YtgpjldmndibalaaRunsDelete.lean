/- Lists of runs: DeleteFunc, at what may not be. -/
import Derived.Test.YtgpjldmndibalaaRunsClone
namespace Go.Proofs.Ytgpjldmndibalaa
open Go Go.RowKit

def mayB (x : Int × Int) : Bool := decide (Runs.may x)
/-- The first run that may not be; if there is none: how many there are. -/
def firstBad (l : RL) (i : Nat) : Prop := i < l.length ∧ mayB (l.getD i (0, 0)) = false ∧ ∀ k, k < i → mayB (l.getD k (0, 0)) = true

set_option maxHeartbeats 1000000 in
theorem indexBad_any (g off cap : Nat) (l : RL) (w : World) (hs : Smalls l) (h : RunsAt w (.slice (some ⟨g, off, none⟩) l.length cap) l) (hl : l.length ≤ 1000000000) :
    Calls Try.prog 64 #[.slice (some ⟨g, off, none⟩) l.length cap, .func (.func 51) #[] #[]] w fun e w' => ∃ r : Int, e = .returned (.int .i64 r) ∧ ((r = -1 ∧ ∀ k, k < l.length → mayB (l.getD k (0, 0)) = true) ∨ ∃ i : Nat, r = i ∧ firstBad l i) ∧ Below w.heap.size w w' := by
  have H := Lib.hid h
  have hcl := Lib.hid (fun x (hx : Small x) w => normal1_any x hx w)
  have HS := Lib.hid hs
  clear h hs
  go_enter Try.func64, Try.ntmps64
  go_wp2_with fail
  go_loopw [8] (fun q wr => ∃ j : Nat, j ≤ l.length ∧ q = .int .i64 j ∧ Hid (∀ k, k < j → mayB (l.getD k (0, 0)) = true) ∧ Hid (Below w.heap.size w wr)) (fun q _ => l.length - (intOf q).toNat)
  case atStart => exact ⟨0, by omega, rfl, Lib.hid (fun k hk => absurd hk (Nat.not_lt_zero _)), Lib.hid (Below.refl _ _)⟩
  case round =>
    obtain ⟨j, hj, rfl, ha, hb⟩ := hrel
    by_cases hlt : j < l.length
    · have i0 : (0 : Int) ≤ (j : Int) := by omega
      have i1 : (j : Int) < (l.length : Int) := by omega
      obtain ⟨_, g', off', e', c0, c1⟩ := (H.out.below (B := 0) hb.out).cells j hlt
      cases e'
      have hc := Lib.hid (fun w => hcl.out _ (HS.out.at j hlt) w)
      cases hm : mayB (l.getD j (0, 0))
      · have hfb : Hid (firstBad l j) := Lib.hid ⟨hlt, hm, ha.out⟩
        have hm' : decide (Runs.may (l.getD j (0, 0))) = false := hm
        rw [hm'] at hc
        generalize l.getD j (0, 0) = x at *
        obtain ⟨xa, xb⟩ := x
        dsimp only at *
        clear hm hm'
        go_wp2_with fail
        refine (hc.out _).mono ?_
        rintro e w' ⟨rfl, hb'⟩
        have B2 := Lib.hid (hb.out.trans (hb'.mono hb.out.size))
        clear hb'
        go_wp2_with fail
        go_ret
        exact ⟨_, rfl, .inr ⟨j, rfl, hfb.out⟩, B2.out⟩
      · have hm' : decide (Runs.may (l.getD j (0, 0))) = true := hm
        rw [hm'] at hc
        have ha' : Hid (∀ k, k < j + 1 → mayB (l.getD k (0, 0)) = true) := Lib.hid (fun k hk => by
          rcases Nat.lt_or_ge k j with h | h
          · exact ha.out k h
          · obtain rfl : k = j := by omega
            exact hm)
        generalize l.getD j (0, 0) = x at *
        obtain ⟨xa, xb⟩ := x
        dsimp only at *
        clear hm hm'
        go_wp2_with fail
        refine (hc.out _).mono ?_
        rintro e w' ⟨rfl, hb'⟩
        have B2 := Lib.hid (hb.out.trans (hb'.mono hb.out.size))
        clear hb'
        go_wp2_with fail
        go_roundw
        case rel => exact ⟨j + 1, by omega, by go_num, ha', B2⟩
        case measure => simp [intOf]; omega
    · obtain rfl : j = l.length := by omega
      go_wp2_with fail
      go_ret
      exact ⟨_, rfl, .inl ⟨rfl, ha.out⟩, hb.out⟩

theorem indexNone_any (ad : Option Addr) (cap : Nat) (f : Value) (w : World) :
    Calls Try.prog 64 #[.slice ad 0 cap, f] w fun e w' => e = .returned (.int .i64 (-1)) ∧ w = w' := by
  go_enter Try.func64, Try.ntmps64
  go_wp2_with fail
  go_loopw [8] (fun q wr => q = .int .i64 0 ∧ w = wr) (fun _ _ => 0)
  case atStart => exact ⟨rfl, rfl⟩
  case round =>
    obtain ⟨rfl, rfl⟩ := hrel
    go_wp2_with fail
    go_ret
    exact ⟨rfl, rfl⟩

theorem filter_all (l : RL) (h : ∀ k, k < l.length → mayB (l.getD k (0, 0)) = true) : l.filter mayB = l := by
  rw [List.filter_eq_self]
  intro x hx
  obtain ⟨k, hk, rfl⟩ := List.getElem_of_mem hx
  have := h k hk
  simpa [List.getD, hk] using this
theorem Del.first (l : RL) (i : Nat) (h : firstBad l i) : Del mayB l l i (i + 1) := by
  have hi := h.1
  refine ⟨rfl, ?_, rfl, by omega⟩
  rw [List.take_succ_eq_append_getElem h.1, List.filter_append]
  have h1 : (l.take i).filter mayB = l.take i := by
    rw [List.filter_eq_self]
    intro x hx
    obtain ⟨k, hk, rfl⟩ := List.getElem_of_mem hx
    have hk' : k < i := by simp at hk; omega
    have := h.2.2 k hk'
    have h2 : k < l.length := by have := h.1; omega
    simpa [List.getD, h2] using this
  have h2 : mayB l[i] = false := by have := h.2.1; simpa [List.getD, h.1] using this
  rw [h1]
  simp [h2]

theorem own_cellAt2 {B n g cap : Nat} {T : TypeId} {w : World} {xs : List Value} (h : w.ownsRow B T 2 (.slice (some ⟨g, 0, none⟩) n cap) n xs) {j : Nat} {u : Value} (hu : xs[j]? = some u) : w.cell? ⟨g, j, none⟩ = some u := by
  have := h.cells rfl j u hu
  have hadd : (⟨g, 0, none⟩ : Addr).add j = ⟨g, j, none⟩ := by unfold Addr.add; split <;> simp_all
  rwa [hadd] at this
theorem own_free2 {B n g cap : Nat} {T : TypeId} {w : World} {xs : List Value} (h : w.ownsRow B T 2 (.slice (some ⟨g, 0, none⟩) n cap) n xs) (k : Nat) : w.frozen? ⟨g, k, none⟩ = false := by
  rcases h.2 with ⟨hv, _⟩ | ⟨g', cap', cur, hv, hb, hg, _⟩
  · cases hv
  · cases hv
    simp [World.frozen?, hg]
theorem own_set2 {B n g cap : Nat} {T : TypeId} {w : World} {xs : List Value} (h : w.ownsRow B T 2 (.slice (some ⟨g, 0, none⟩) n cap) n xs) (k : Nat) (u : Value) :
    (w.setCell ⟨g, k, none⟩ u).ownsRow B T 2 (.slice (some ⟨g, 0, none⟩) n cap) n (xs.set k u) := by
  obtain ⟨h1, h2⟩ := h
  refine ⟨by simpa using h1, ?_⟩
  rcases h2 with ⟨hv, _⟩ | ⟨g', cap', cur, hv, hb, hg, hc1, hc2, hsz, htk⟩
  · cases hv
  · cases hv
    refine .inr ⟨g, cap, cur.set! k u, rfl, hb, ?_, hc1, hc2, by simpa using hsz, ?_⟩
    · have hlt := lt_of_block hg
      have h' : w.heap[g] = .cells cur T (0, 0) := by simpa [Array.getElem?_eq_getElem hlt] using hg
      show (w.heap.modify g _)[g]? = _
      rw [Array.getElem?_eq_getElem (by simpa using hlt), Array.getElem_modify_self, h']
      simp
    · rw [← htk]
      simp [List.take_set]
/-- Cut to its head. -/
theorem own_head2 {B n m g cap : Nat} {T : TypeId} {w : World} {l : RL} (h : w.ownsRow B T 2 (.slice (some ⟨g, 0, none⟩) n cap) n (rcells l)) (hm : m ≤ l.length) : w.ownsRow B T 2 (.slice (some ⟨g, 0, none⟩) m cap) m (rcells (l.take m)) := by
  have hln : l.length = n := by have := h.1; rw [rcells_length] at this; omega
  obtain ⟨h1, h2⟩ := h
  refine ⟨by rw [rcells_length, List.length_take]; omega, ?_⟩
  rcases h2 with ⟨hv, _⟩ | ⟨g', cap', cur, hv, hb, hg, hc1, hc2, hsz, htk⟩
  · cases hv
  · cases hv
    refine .inr ⟨g, cap, cur, rfl, hb, hg, by omega, hc2, hsz, ?_⟩
    have e : (cur.toList.take (n * 2)).take (m * 2) = (rcells l).take (m * 2) := by rw [htk]
    rw [List.take_take, Nat.min_eq_left (by omega)] at e
    rw [e]
    have hsp : rcells l = rcells (l.take m) ++ rcells (l.drop m) := by rw [← rcells_append, List.take_append_drop]
    rw [hsp, List.take_left' (by rw [rcells_length, List.length_take]; omega)]

theorem setCells_own2 {B g cap : Nat} {T : TypeId} : ∀ (vs : List Value) (o : Nat) (w : World) (m : Nat) (l : RL), m * 2 ≤ o → w.ownsRow B T 2 (.slice (some ⟨g, 0, none⟩) m cap) m (rcells l) → (w.setCells g o vs).ownsRow B T 2 (.slice (some ⟨g, 0, none⟩) m cap) m (rcells l)
  | [], _, _, _, _, _, h => h
  | v :: vs, o, w, m, l, ho, h => by
    have h2 := own_set2 h o v
    have hl : (rcells l).length = m * 2 := h.1
    rw [List.set_eq_of_length_le (by omega)] at h2
    exact setCells_own2 vs (o + 1) _ m l (by omega) h2
theorem setCells_below {B g : Nat} (hg : B ≤ g) {w0 : World} : ∀ (vs : List Value) (o : Nat) (w : World), Below B w0 w → Below B w0 (w.setCells g o vs)
  | [], _, _, h => h
  | v :: vs, o, w, h => setCells_below hg vs (o + 1) _ (h.setCell (by dsimp only; omega) v)

theorem own_keep2 {B n g cap : Nat} {T : TypeId} {w w' : World} {xs : List Value} (h : w.ownsRow B T 2 (.slice (some ⟨g, 0, none⟩) n cap) n xs) (he : g < w.heap.size → w'.heap[g]? = w.heap[g]?) : w'.ownsRow B T 2 (.slice (some ⟨g, 0, none⟩) n cap) n xs := by
  refine ⟨h.1, ?_⟩
  rcases h.2 with ⟨hv, _⟩ | ⟨g', cap', cur, hv, hg', hh, r⟩
  · cases hv
  · cases hv
    exact .inr ⟨g, cap, cur, rfl, hg', by rw [he (lt_of_block hh)]; exact hh, r⟩

theorem below_cell {B : Nat} {w w' : World} (h : Below B w w') (a : Addr) (ha : a.block < B) : w'.cell? a = w.cell? a := by
  unfold World.cell?
  rw [h.block a.block ha]
theorem own_belowR {B n z : Nat} {T : TypeId} {v : Value} {xs : List Value} {w w' : World} (h : w.ownsRow B T z v n xs) (hb : Below w.heap.size w w') : w'.ownsRow B T z v n xs :=
  ⟨h.1, h.2.imp id (fun ⟨g, cap, cur, hv, hg, hh, r⟩ => ⟨g, cap, cur, hv, hg, by rw [hb.block g (lt_of_block hh)]; exact hh, r⟩)⟩
theorem below_dr {B n : Nat} {w w' : World} (h : Below B w w') : Below B w (w'.drewN n) := ⟨h.os, h.tape, h.output, h.size, h.block⟩
theorem box_cell (w : World) (c : Array Value) (T : TypeId) (k : Nat) : (w.alloc (.cells c T)).cell? ⟨w.heap.size, k, none⟩ = c[k]? := World.cell?_alloc_at c T _ k rfl
theorem after_box {B g cap n : Nat} {w wr w3 : World} {R : RL} {o : Obj} (hb : Below B w wr) (ho : OwnRuns B wr (.slice (some ⟨g, 0, none⟩) n cap) R) (h3 : Below (wr.alloc o).heap.size (wr.alloc o) w3) (hB : B ≤ w.heap.size) (hsz : w.heap.size ≤ wr.heap.size) :
    OwnRuns B w3 (.slice (some ⟨g, 0, none⟩) n cap) R ∧ Below B w w3 ∧ w.heap.size ≤ w3.heap.size := by
  have ha : Below wr.heap.size wr (wr.alloc o) := (Below.refl _ _).alloc (Nat.le_refl _) o
  have hs : (wr.alloc o).heap.size = wr.heap.size + 1 := by simp
  have h4 : Below wr.heap.size wr w3 := ha.trans (h3.mono (by omega))
  refine ⟨?_, hb.trans (h4.mono (by omega)), Nat.le_trans hsz h4.size⟩
  have hn : n = R.length := by
    rcases ho.2 with ⟨hv, _⟩ | ⟨g', cap', cur, hv, _⟩
    · cases hv
    · cases hv; rfl
  subst hn
  exact own_keep2 ho (fun hlt => h4.block _ hlt)

set_option maxRecDepth 100000 in
set_option maxHeartbeats 2000000 in
theorem deleteBad_any (B : Nat) (v : Value) (l : RL) (w : World) (hs : Smalls l) (h : OwnRuns B w v l) (hl : l.length ≤ 1000000000) (hB : B ≤ w.heap.size) :
    Calls Try.prog 49 #[v, .func (.func 51) #[] #[]] w fun e w' => ∃ v', e = .returned v' ∧ OwnRuns B w' v' (l.filter mayB) ∧ Below B w w' := by
  by_cases h0 : l.length = 0
  · obtain rfl := List.eq_nil_of_length_eq_zero h0
    obtain ⟨ad, cap, rfl, _⟩ : ∃ ad cap, v = .slice ad 0 cap ∧ True := by
      rcases h.2 with ⟨rfl, _⟩ | ⟨g, cap, cur, rfl, _⟩
      · exact ⟨_, _, rfl, trivial⟩
      · exact ⟨_, _, rfl, trivial⟩
    have hi := Lib.hid (fun f w => indexNone_any ad cap f w)
    have H := Lib.hid h
    clear h
    go_enter Try.func49, Try.ntmps49
    go_wp2_with fail
    refine (hi.out _ _).mono ?_
    rintro e w' ⟨rfl, rfl⟩
    go_wp2_with fail
    go_ret
    exact ⟨_, rfl, H.out, Below.refl _ _⟩
  obtain ⟨g, cap, rfl, hgB, hgl⟩ : ∃ g cap, v = .slice (some ⟨g, 0, none⟩) l.length cap ∧ B ≤ g ∧ g < w.heap.size := World.ownsRow.form h (by omega)
  have hi := Lib.hid (indexBad_any g 0 cap l w hs h.at hl)
  have hcl := Lib.hid (fun x (hx : Small x) w => normal1_any x hx w)
  have HS := Lib.hid hs
  have H := Lib.hid h
  have hcap : l.length ≤ cap ∧ cap ≤ 9223372036854775807 := by
    rcases h.2 with ⟨hv, _⟩ | ⟨g', cap', cur, hv, _, _, h1, h2, _⟩
    · cases hv
    · cases hv; exact ⟨h1, h2⟩
  clear h hs
  go_enter Try.func49, Try.ntmps49
  go_wp2_with fail
  refine hi.out.mono ?_
  rintro e w1 ⟨r, rfl, hr, b1⟩
  have B1 := Lib.hid (b1.mono hB)
  have O1 : Hid (OwnRuns B w1 (.slice (some ⟨g, 0, none⟩) l.length cap) l) := Lib.hid (by
    have := H.out
    exact ⟨this.1, by
      rcases this.2 with h2 | ⟨g', cap', cur, hv, hg', hh, r⟩
      · exact .inl h2
      · exact .inr ⟨g', cap', cur, hv, hg', by rw [b1.block g' (lt_of_block hh)]; exact hh, r⟩⟩)
  have hs1 := b1.size
  clear b1 hi
  rcases hr with ⟨rfl, hall⟩ | ⟨i, rfl, hfb⟩
  · have hf : Hid (l.filter mayB = l) := Lib.hid (filter_all l hall)
    go_wp2_with fail
    go_ret
    exact ⟨_, rfl, by rw [hf.out]; exact O1.out, B1.out⟩
  · have hd0 : Hid (Del mayB l l i (i + 1)) := Lib.hid (Del.first l i hfb)
    have hil := hfb.1
    have hne : ((i : Int) == -1) = false := by simp
    clear hfb
    go_wp2_with fail
    go_loopw [5, 6] (fun p q wr => ∃ (i j : Nat) (R : RL), i < j ∧ j ≤ l.length ∧ p = .int .i64 i ∧ q = .int .i64 j ∧ Hid (Del mayB l R i j) ∧ Hid (OwnRuns B wr (.slice (some ⟨g, 0, none⟩) l.length cap) R) ∧ Hid (Below B w wr) ∧ w.heap.size ≤ wr.heap.size) (fun _ q _ => l.length - (intOf q).toNat)
    case atStart => exact ⟨i, i + 1, l, by omega, by omega, rfl, rfl, hd0, O1, B1, hs1⟩
    case round =>
      obtain ⟨i, j, R, hij, hj, rfl, rfl, hd, ho, hb, hsz⟩ := hrel
      have hRl := hd.out.len
      by_cases hlt : j < l.length
      · have i0 : (0 : Int) ≤ (j : Int) := by omega
        have i1 : (j : Int) < (l.length : Int) := by omega
        have hat := hd.out.at hlt
        obtain ⟨hll, g', off', e', c0, c1⟩ := (ho.out.at).cells j (by omega)
        clear hll
        cases e'
        rw [Nat.zero_add] at c0 c1
        rw [hat] at c0 c1
        have hgl' := Nat.lt_of_lt_of_le hgl hsz
        have hc := Lib.hid (hcl.out _ (HS.out.at j hlt))
        have hk := Lib.hid (fun h => hd.out.keep hlt h)
        have hsk := Lib.hid (fun h => hd.out.skip hlt h)
        clear hat hd
        cases hm : mayB (l.getD j (0, 0))
        · have hsk' := Lib.hid (hsk.out hm)
          have hm' : decide (Runs.may (l.getD j (0, 0))) = false := hm
          rw [hm'] at hc
          clear hsk hk hm hm'
          generalize l.getD j (0, 0) = x at *
          obtain ⟨xa, xb⟩ := x
          dsimp only at *
          go_wp2_with fail
          refine (hc.out _).mono ?_
          rintro e w3 ⟨rfl, hb3⟩
          have F3 := after_box hb.out ho.out hb3 hB hsz
          clear hb3
          obtain ⟨O3, B3, z3⟩ := F3
          have O3 := Lib.hid O3
          have B3 := Lib.hid B3
          go_wp2_with fail
          go_roundw
          case rel => exact ⟨i, j + 1, R, by omega, by omega, rfl, by go_num, hsk', O3, B3, z3⟩
          case measure => simp [intOf]; omega
        · have hk' := Lib.hid (hk.out hm)
          have hm' : decide (Runs.may (l.getD j (0, 0))) = true := hm
          rw [hm'] at hc
          clear hsk hk hm hm'
          generalize l.getD j (0, 0) = x at *
          obtain ⟨xa, xb⟩ := x
          dsimp only at *
          go_wp2_with fail
          refine (hc.out _).mono ?_
          rintro e w3 ⟨rfl, hb3⟩
          have F3 := after_box hb.out ho.out hb3 hB hsz
          have bx0 : w3.cell? ⟨wr.heap.size, 0, none⟩ = some (.int .i64 xa) := by
            rw [below_cell hb3 _ (by simp), box_cell]
            rfl
          have bx1 : w3.cell? ⟨wr.heap.size, 1, none⟩ = some (.int .i64 xb) := by
            rw [below_cell hb3 _ (by simp), box_cell]
            rfl
          clear hb3
          obtain ⟨O3, B3, z3⟩ := F3
          have o3 : w3.ownsRow B 32 2 (.slice (some ⟨g, 0, none⟩) l.length cap) l.length (rcells R) := by have := O3; unfold OwnRuns at this; rwa [hRl] at this
          obtain ⟨y0, e0⟩ : ∃ y, (rcells R)[i * 2]? = some y := ⟨_, List.getElem?_eq_getElem (by rw [rcells_length]; omega)⟩
          obtain ⟨y1, e1⟩ : ∃ y, (rcells R)[i * 2 + 1]? = some y := ⟨_, List.getElem?_eq_getElem (by rw [rcells_length]; omega)⟩
          have d0 := own_cellAt2 o3 e0
          have d1 := own_cellAt2 o3 e1
          have f0 := own_free2 o3 (i * 2)
          have f1 := own_free2 o3 (i * 2 + 1)
          have O4 : Hid (OwnRuns B ((w3.setCell ⟨g, i * 2, none⟩ (.int .i64 xa)).setCell ⟨g, i * 2 + 1, none⟩ (.int .i64 xb)) (.slice (some ⟨g, 0, none⟩) l.length cap) (R.set i (xa, xb))) := Lib.hid (by
            have := own_set2 (own_set2 o3 (i * 2) (.int .i64 xa)) (i * 2 + 1) (.int .i64 xb)
            rw [rcells_set R i (xa, xb) (by omega)] at this
            show World.ownsRow _ B _ 2 _ (R.set i (xa, xb)).length _
            rw [List.length_set, hRl]
            exact this)
          have B4 : Hid (Below B w ((w3.setCell ⟨g, i * 2, none⟩ (.int .i64 xa)).setCell ⟨g, i * 2 + 1, none⟩ (.int .i64 xb))) := Lib.hid ((B3.setCell hgB _).setCell hgB _)
          clear O3 B3 o3 e0 e1
          have i2 : (0 : Int) ≤ (i : Int) := by omega
          have i3 : (i : Int) < (l.length : Int) := by omega
          go_wp2_with fail
          go_roundw
          case rel => exact ⟨i + 1, j + 1, R.set i (xa, xb), by omega, by omega, by go_num, by go_num, hk', O4, B4, by simpa using z3⟩
          case measure => simp [intOf]; omega
      · obtain rfl : j = l.length := by omega
        have ho' : wr.ownsRow B 32 2 (.slice (some ⟨g, 0, none⟩) l.length cap) l.length (rcells R) := by have := ho.out; unfold OwnRuns at this; rwa [hRl] at this
        have hclr : (Builtin.clear_ #[26] 0 #[Value.slice (some ⟨g, i * 2, none⟩) (l.length - i) (cap - i)]).run Try.prog wr = .ok (.tuple #[]) (wr.setCells g (i * 2) (List.replicate ((l.length - i) * 2) (.int .i64 0))) := by
          refine run_clear_runs wr _ 32 _ Try.underlying26 (fun _ => rfl) g (i * 2) (l.length - i) (cap - i) (by omega) (fun j hj => ?_) (fun j _ => own_free2 ho' _)
          have hjR : i * 2 + j < (rcells R).length := by rw [rcells_length]; omega
          rw [own_cellAt2 ho' (List.getElem?_eq_getElem hjR)]
          rfl
        have hfin : Hid (OwnRuns B (wr.setCells g (i * 2) (List.replicate ((l.length - i) * 2) (.int .i64 0))) (.slice (some ⟨g, 0, none⟩) i cap) (l.filter mayB)) := Lib.hid (by
          have e1 : R.take i = l.filter mayB := by have := hd.out.head; rwa [List.take_length] at this
          have h1 : wr.ownsRow B 32 2 (.slice (some ⟨g, 0, none⟩) i cap) i (rcells (R.take i)) := own_head2 (l := R) ho' (by omega)
          rw [e1] at h1
          have e2 : (l.filter mayB).length = i := by rw [← e1, List.length_take]; omega
          have h2 := setCells_own2 (List.replicate ((l.length - i) * 2) (.int .i64 0)) (i * 2) wr i (l.filter mayB) (Nat.le_refl _) h1
          show World.ownsRow _ B _ 2 _ (l.filter mayB).length _
          rw [e2]
          exact h2)
        have hfb : Hid (Below B w (wr.setCells g (i * 2) (List.replicate ((l.length - i) * 2) (.int .i64 0)))) := Lib.hid (setCells_below hgB _ _ _ hb.out)
        go_wp2_with fail
        go_ret
        exact ⟨_, rfl, hfin.out, hfb.out⟩

end Go.Proofs.Ytgpjldmndibalaa
