/- A cache and what it stands for; ask, find. A cache: find, Has; the row of all and those that are pinned, as buffers come and go. A cache: a buffer that it has is used. A cache: a buffer goes, is unpinned, is turned. A cache: Has, Unpin, Forget. A cache: out. A cache: Out. A cache: room. A cache: a buffer is made. -/
import Derived.Test.YtlickjaopbcanaaCacheA
import Derived.Test.YtlickjaopbcanaaDevA
namespace Go.Proofs.Ytlickjaopbcanaa
open Go Go.RowKit Bufs
variable {B cb go : Nat} {w w' : World} {five : List Value} {v : Value} {K A : Heap.KL} {fr : Nat → List Value} {P : List Value} {D : List Nat}

/-- What others see of a call: nothing below B, nothing of E, is touched. -/
structure Fr (B : Nat) (E : List Nat) (w w' : World) : Prop where
  os : w'.os = w.os
  tape : w'.tape = w.tape
  output : w'.output = w.output
  size : w.heap.size ≤ w'.heap.size
  block : ∀ k, k < w.heap.size → (k < B ∨ k ∈ E) → w'.heap[k]? = w.heap[k]?
theorem Fr.refl (B : Nat) (E : List Nat) (w : World) : Fr B E w w := ⟨rfl, rfl, rfl, Nat.le_refl _, fun _ _ _ => rfl⟩
theorem Fr.trans {B : Nat} {E : List Nat} {a b c : World} (h : Fr B E a b) (k : Fr B E b c) : Fr B E a c :=
  ⟨k.os.trans h.os, k.tape.trans h.tape, k.output.trans h.output, Nat.le_trans h.size k.size, fun i hi hs => (k.block i (Nat.lt_of_lt_of_le hi h.size) hs).trans (h.block i hi hs)⟩
theorem Fr.below {B : Nat} {E : List Nat} {a b : World} (h : Fr B E a b) (hB : B ≤ a.heap.size) : Below B a b := ⟨h.os, h.tape, h.output, h.size, fun k hk => h.block k (by omega) (.inl hk)⟩
theorem Only.frame {S : List Nat} {a b : World} {E : List Nat} (h : Only S a b) (h1 : ∀ k ∈ S, B ≤ k) (h2 : ∀ k ∈ E, k ∉ S) : Fr B E a b :=
  ⟨h.os, h.tape, h.output, h.size, fun k hk hs => h.block k hk (fun hm => hs.elim (fun h3 => by have := h1 k hm; omega) (fun h3 => h2 k h3 hm))⟩
/-- The cache's own blocks, those of the queue, that of all. -/
theorem Raw.frame (h : Raw B w cb go five v K A fr P D) {S : List Nat} (hS : ∀ k ∈ S, k = go ∨ k ∈ ownOf cb v (K ++ A)) {E : List Nat} (hE : ∀ k ∈ E, k ∈ D) (ho : Only S w w') : Fr B E w w' := by
  refine ho.frame (fun k hk => ?_) (fun k hk hm => ?_)
  · rcases hS k hk with rfl | h1
    · exact h.goB
    · rcases List.mem_cons.1 h1 with rfl | h1
      · exact h.q.own
      · rcases List.mem_append.1 h1 with h2 | h2
        · exact (h.q.row.lt k (by simpa using h2)).1
        · obtain ⟨x, hx, rfl⟩ := mem_ids.1 h2
          rcases List.mem_append.1 hx with h3 | h3
          · exact (h.q.ids x h3).2.2
          · exact (h.aid x h3).2.2
  · obtain ⟨_, hf⟩ := h.off k (hE k hk)
    rcases hS k hm with e | h1
    · exact hf.go e
    · exact not_own hf.cb hf.v hf.ids h1
/-- .. when others have made memory that is now theirs. -/
theorem Raw.more {S : List Nat} (h : Raw B w cb go five v K A fr P D) (ho : Only S w w') (hS : ∀ k ∈ S, k ∈ D ∨ w.heap.size ≤ k) (D' : List Nat) (hD : ∀ k ∈ D', k < w'.heap.size ∧ (k ∈ D ∨ w.heap.size ≤ k)) : Raw B w' cb go five v K A fr P D' := by
  have r := h.other ho hS
  refine ⟨r.q, r.al, r.afl, r.aid, r.akey, r.nd, r.of, r.gocb, r.gov, r.goB, r.goid, r.base, fun k hk => ⟨(hD k hk).1, ?_⟩⟩
  rcases (hD k hk).2 with h1 | h1
  · exact (h.off k h1).2
  · have hx : ∀ x ∈ K ++ A, x.1 < w.heap.size := fun x hx => by obtain ⟨a, rr, _⟩ := h.buffer hx; exact rr.lt
    exact ⟨fun e => by have := h.q.cells.lt; omega, fun e => by have := h.of.lt; omega, fun e => by have := (h.q.row.lt k e).2; omega, fun x hxm e => by have := hx x hxm; omega⟩

def pq (L : PL) : Heap.KL := (L.filter fun x => x.pinned).map fun x => (x.id, x.used)
def cellOf (L : PL) (b : Nat) : Value := match get L b with
  | some x => ptr x.id
  | none => .pointer none
def rowOf (L : PL) (n : Nat) : List Value := (List.range n).map (cellOf L)
def bcell (x : PB) : List Value := [.int .i64 x.b, .string x.data, .bool x.dirty, .bool x.pinned]
def dblocks (db : Nat) (y : Lay) : List Nat := [db, y.gk, y.gn, y.gp]
/-- A cache of a device: which buffers it has, the least recently used one first. -/
structure CIn (B : Nat) (w : World) (cb db : Nat) (y : Lay) (Dv : Dev) (most : Nat) (clock : Int) (L : PL) (E : List Nat) (go : Nat) (v : Value) (K A : Heap.KL) (fr : Nat → List Value) (cap : Nat) : Prop where
  raw : Raw B w cb go [ptr db, .int .i64 most, .int .i64 clock, .slice (some ⟨go, 0, none⟩) Dv.kept.length cap, .int .i64 L.length] v K A fr (rowOf L Dv.kept.length) (dblocks db y ++ E)
  dev : DevAt B w db y Dv
  inv : Inv Dv.kept.length most clock L
  q : QRel K L
  out : A.Perm (pq L)
  cells : ∀ x ∈ L, fr x.id = bcell x
  most : 1 ≤ most ∧ most ≤ 256
  clock : 0 ≤ clock ∧ clock ≤ 1000000000000
  apart : ∀ k ∈ E, k ∉ dblocks db y
def CAt (B : Nat) (w : World) (cb db : Nat) (y : Lay) (Dv : Dev) (most : Nat) (clock : Int) (L : PL) (E : List Nat) : Prop := ∃ go v K A fr cap, CIn B w cb db y Dv most clock L E go v K A fr cap

section
variable {db most cap : Nat} {y : Lay} {Dv : Dev} {clock : Int} {L : PL} {E : List Nat}
theorem rowOf_at (L : PL) (n b : Nat) (h : b < n) : (rowOf L n)[b]? = some (cellOf L b) := by simp [rowOf, h]
theorem rowOf_len (L : PL) (n : Nat) : (rowOf L n).length = n := by simp [rowOf]
theorem CIn.has (h : CIn B w cb db y Dv most clock L E go v K A fr cap) {x : PB} (hx : x ∈ L) : (x.id, x.used) ∈ K ++ A := by
  cases hp : x.pinned with
  | true => exact List.mem_append.2 (.inr (h.out.mem_iff.2 (List.mem_map.2 ⟨x, List.mem_filter.2 ⟨hx, hp⟩, rfl⟩)))
  | false =>
    obtain ⟨i, hi, e⟩ := q_has h.q hx hp
    refine List.mem_append.2 (.inl ?_)
    rw [← e]
    exact h.raw.q.at hi
theorem CIn.c0 (h : CIn B w cb db y Dv most clock L E go v K A fr cap) : w.cell? ⟨cb, 0, none⟩ = some (ptr db) := (h.raw.cellF (k := 0) rfl).1
theorem CIn.c3 (h : CIn B w cb db y Dv most clock L E go v K A fr cap) : w.cell? ⟨cb, 3, none⟩ = some (.slice (some ⟨go, 0, none⟩) Dv.kept.length cap) := (h.raw.cellF (k := 3) rfl).1
def askOf (n : Nat) (b : Int) : Int := if 0 ≤ b ∧ b < n then 0 else 60
set_option maxRecDepth 100000 in
theorem ask_raw (db n cap : Nat) (w : World) (h0 : w.cell? ⟨cb, 0, none⟩ = some (ptr db)) (h3 : w.cell? ⟨cb, 3, none⟩ = some (.slice (some ⟨go, 0, none⟩) n cap)) (b : Int) : Calls Try.prog 44 #[.pointer (some ⟨cb, 0, none⟩), .int .i64 b] w fun e w' => e = .returned (.int .i64 (askOf n b)) ∧ w = w' := by
  unfold ptr at *
  by_cases c1 : b < 0
  · have hr : askOf n b = 60 := if_neg (by omega)
    rw [hr]
    go_enter Try.func44, Try.ntmps44
    go_wp2_with fail
    go_ret
    exact ⟨rfl, rfl⟩
  · by_cases c2 : (n : Int) ≤ b
    · have hr : askOf n b = 60 := if_neg (by omega)
      rw [hr]
      go_enter Try.func44, Try.ntmps44
      go_wp2_with fail
      go_ret
      exact ⟨rfl, rfl⟩
    · have hr : askOf n b = 0 := if_pos (by omega)
      rw [hr]
      go_enter Try.func44, Try.ntmps44
      go_wp2_with fail
      go_ret
      exact ⟨rfl, rfl⟩
end

end Go.Proofs.Ytlickjaopbcanaa

namespace Go.Proofs.Ytlickjaopbcanaa
open Go Go.RowKit Bufs
variable {B cb go : Nat} {w w' : World} {n : Nat} {L : PL}

theorem get_but (L : PL) (c b : Nat) : get (but L c) b = if b = c then none else get L b := by
  unfold Bufs.get but
  induction L with
  | nil => simp
  | cons x L ih =>
    rw [List.filter_cons]
    by_cases hx : x.b = c
    · have e : (x.b != c) = false := by simp [hx]
      rw [e, if_neg (by simp), ih, List.find?_cons]
      by_cases hb : b = c
      · rw [if_pos hb, if_pos hb]
      · have e2 : (x.b == b) = false := by rw [beq_eq_false_iff_ne]; omega
        rw [if_neg hb, if_neg hb, e2]
    · have e : (x.b != c) = true := by simp [hx]
      rw [e, if_pos rfl, List.find?_cons, List.find?_cons, ih]
      by_cases hb : x.b = b
      · have e2 : (x.b == b) = true := by simp [hb]
        have hbc : ¬ b = c := by omega
        rw [e2]
        simp [hbc]
      · have e2 : (x.b == b) = false := by rw [beq_eq_false_iff_ne]; exact hb
        rw [e2]
theorem get_snoc (L : PL) (y : PB) (b : Nat) (hn : get L y.b = none) : get (L ++ [y]) b = if b = y.b then some y else get L b := by
  unfold Bufs.get at *
  rw [List.find?_append]
  by_cases hb : b = y.b
  · subst hb
    rw [hn]
    simp
  · have e2 : (y.b == b) = false := by rw [beq_eq_false_iff_ne]; omega
    rw [if_neg hb]
    simp [e2]
/-- A buffer that is used anew stands last. -/
theorem get_last (L : PL) (y : PB) (b : Nat) : get (but L y.b ++ [y]) b = if b = y.b then some y else get L b := by
  rw [get_snoc _ _ _ (by rw [get_but, if_pos rfl]), get_but]
  split <;> rfl
theorem rowOf_ext {L M : PL} {n : Nat} (h : ∀ b, b < n → cellOf L b = cellOf M b) : rowOf L n = rowOf M n := by
  unfold rowOf
  apply List.map_congr_left
  intro b hb
  exact h b (by simpa using hb)
theorem rowOf_last {L : PL} {x y : PB} (hx : get L y.b = some x) (hi : y.id = x.id) (n : Nat) : rowOf (but L y.b ++ [y]) n = rowOf L n := by
  refine rowOf_ext (fun b _ => ?_)
  unfold cellOf
  rw [get_last]
  by_cases hb : b = y.b
  · rw [if_pos hb, hb, hx]
    show ptr y.id = ptr x.id
    rw [hi]
  · rw [if_neg hb]
theorem rowOf_set {L M : PL} {c n : Nat} {u : Value} (hc : cellOf M c = u) (h : ∀ b, b ≠ c → cellOf M b = cellOf L b) : rowOf M n = (rowOf L n).set c u := by
  apply List.ext_getElem?
  intro j
  rw [List.getElem?_set]
  by_cases hj : j < n
  · rw [rowOf_at M n j hj, rowOf_len]
    by_cases e : c = j
    · subst e
      rw [if_pos rfl, if_pos hj, hc]
    · rw [if_neg e, rowOf_at L n j hj, h j (fun e2 => e e2.symm)]
  · rw [List.getElem?_eq_none (by rw [rowOf_len]; omega), rowOf_len]
    by_cases e : c = j
    · rw [if_pos e, if_neg (by omega)]
    · rw [if_neg e, List.getElem?_eq_none (by rw [rowOf_len]; omega)]
theorem rowOf_but (L : PL) (c n : Nat) : rowOf (but L c) n = (rowOf L n).set c (.pointer none) := by
  refine rowOf_set ?_ (fun b hb => ?_)
  · unfold cellOf; rw [get_but, if_pos rfl]
  · unfold cellOf; rw [get_but, if_neg hb]
theorem rowOf_new (L : PL) (y : PB) (n : Nat) (hn : get L y.b = none) : rowOf (L ++ [y]) n = (rowOf L n).set y.b (ptr y.id) := by
  refine rowOf_set ?_ (fun b hb => ?_)
  · unfold cellOf; rw [get_snoc _ _ _ hn, if_pos rfl]
  · unfold cellOf; rw [get_snoc _ _ _ hn, if_neg hb]
/-! ### those that are pinned -/
theorem pq_perm {L M : PL} (h : L.Perm M) : (pq L).Perm (pq M) := (h.filter _).map _
theorem pq_cons (x : PB) (L : PL) : pq (x :: L) = if x.pinned then (x.id, x.used) :: pq L else pq L := by
  unfold pq
  rw [List.filter_cons]
  split <;> rfl
theorem pq_snoc (L : PL) (y : PB) : pq (L ++ [y]) = if y.pinned then pq L ++ [(y.id, y.used)] else pq L := by
  unfold pq
  rw [List.filter_append, List.map_append]
  by_cases h : y.pinned
  · simp [h]
  · simp [h]
theorem pq_but {most : Nat} {clock : Int} (h : Inv n most clock L) {x : PB} (hx : x ∈ L) : (pq L).Perm (if x.pinned then (x.id, x.used) :: pq (but L x.b) else pq (but L x.b)) := by
  have := pq_perm (but_perm h hx)
  rwa [pq_cons] at this

theorem cellOf_form (L : PL) (b : Nat) : (∃ x, get L b = some x ∧ cellOf L b = ptr x.id) ∨ (get L b = none ∧ cellOf L b = .pointer none) := by
  unfold cellOf
  cases Bufs.get L b with
  | none => exact .inr ⟨rfl, rfl⟩
  | some x => exact .inl ⟨x, rfl, rfl⟩
def findOf (L : PL) (n : Nat) (b : Int) : Value := if 0 ≤ b ∧ b < n then cellOf L b.toNat else .pointer none
set_option maxRecDepth 100000 in
theorem find_raw (db n cap : Nat) (w : World) (L : PL) (h0 : w.cell? ⟨cb, 0, none⟩ = some (ptr db)) (h3 : w.cell? ⟨cb, 3, none⟩ = some (.slice (some ⟨go, 0, none⟩) n cap)) (hP : ∀ b, b < n → w.cell? ⟨go, b, none⟩ = some (cellOf L b)) (b : Int) : Calls Try.prog 47 #[.pointer (some ⟨cb, 0, none⟩), .int .i64 b] w fun e w' => e = .returned (findOf L n b) ∧ w = w' := by
  have q := Lib.hid (ask_raw (go := go) db n cap w h0 h3 b)
  by_cases c : 0 ≤ b ∧ b < n
  · have ha : askOf n b = 0 := if_pos c
    have hf : findOf L n b = cellOf L b.toNat := if_pos c
    rw [ha] at q
    obtain ⟨j, rfl⟩ : ∃ j : Nat, b = (j : Int) := ⟨b.toNat, by omega⟩
    have hj : j < n := by omega
    have hg := hP j hj
    rw [hf, Int.toNat_natCast]
    have j0 : ¬ (j : Int) < 0 := by omega
    have j1 : (j : Int) < (n : Int) := by omega
    clear hP c ha hf h0
    generalize cellOf L j = u at *
    go_enter Try.func47, Try.ntmps47
    go_wp2_with fail
    refine q.out.mono ?_
    rintro e w2 ⟨rfl, rfl⟩
    go_wp2_with fail
    go_ret
    exact ⟨rfl, rfl⟩
  · have ha : askOf n b = 60 := if_neg c
    have hf : findOf L n b = .pointer none := if_neg c
    rw [ha] at q
    rw [hf]
    clear hP c ha hf h0
    go_enter Try.func47, Try.ntmps47
    go_wp2_with fail
    refine q.out.mono ?_
    rintro e w2 ⟨rfl, rfl⟩
    go_wp2_with fail
    go_ret
    exact ⟨rfl, rfl⟩

end Go.Proofs.Ytlickjaopbcanaa

namespace Go.Proofs.Ytlickjaopbcanaa
open Go Go.RowKit Bufs
variable {B cb go : Nat} {w w' : World} {v : Value} {K A : Heap.KL} {fr : Nat → List Value} {db most cap : Nat} {y : Lay} {Dv : Dev} {clock : Int} {L : PL} {E : List Nat}

theorem own_keep {B n : Nat} {T : TypeId} {u : Value} {xs : List Value} (h : w.ownsRow B T 1 u n xs) (hb : ∀ k, u.ownBlock = some k → w'.heap[k]? = w.heap[k]?) : w'.ownsRow B T 1 u n xs := by
  obtain ⟨h1, h2⟩ := h
  refine ⟨h1, ?_⟩
  rcases h2 with h2 | ⟨g, cap, cur, rfl, hg, hh, r⟩
  · exact .inl h2
  · exact .inr ⟨g, cap, cur, rfl, hg, by rw [hb g rfl]; exact hh, r⟩
theorem DevAt.frame {B' : Nat} {E' : List Nat} (h : DevAt B w db y Dv) (ho : Fr B' E' w w') (hE : ∀ k ∈ dblocks db y, k ∈ E') : DevAt B w' db y Dv := by
  have hk : ∀ k ∈ dblocks db y, k < w.heap.size → w'.heap[k]? = w.heap[k]? := fun k hk hl => ho.block k hl (.inr (hE k hk))
  have hgk := (h.kept.lt _ rfl).2
  have hgn := (h.now.lt _ rfl).2
  have hgp := (h.pend.lt _ rfl).2
  refine ⟨h.own, ?_, own_keep h.kept (fun k e => ?_), own_keep h.now (fun k e => ?_), own_keep h.pend (fun k e => ?_), h.ne, h.pos, h.left, h.acts⟩
  · have hl := h.cells.lt
    obtain ⟨f, h1, h2⟩ := h.cells
    exact ⟨f, by rw [hk db (by simp [dblocks]) hl]; exact h1, h2⟩
  · injection e with e; subst e; exact hk _ (by simp [dblocks]) hgk
  · injection e with e; subst e; exact hk _ (by simp [dblocks]) hgn
  · injection e with e; subst e; exact hk _ (by simp [dblocks]) hgp
/-- A buffer, used at this time, pinned or not. -/
def now (x : PB) (u : Int) (p : Bool) : PB := { x with used := u, pinned := p }
theorem CIn.used (h : CIn B w cb db y Dv most clock L E go v K A fr cap) {x : PB} (hx : x ∈ L) (p : Bool) (hc : clock < 1000000000000) {v' : Value} {K' A' : Heap.KL}
    (hr : Raw B w' cb go [ptr db, .int .i64 most, .int .i64 (clock + 1), .slice (some ⟨go, 0, none⟩) Dv.kept.length cap, .int .i64 L.length] v' K' A' (upd fr x.id ((fr x.id).set 3 (.bool p))) (rowOf L Dv.kept.length) (dblocks db y ++ E)) (hf : Fr B (dblocks db y ++ E) w w')
    (hq : QRel K' (but L x.b ++ [now x (clock + 1) p])) (ha : A'.Perm (pq (but L x.b ++ [now x (clock + 1) p]))) : CIn B w' cb db y Dv most (clock + 1) (but L x.b ++ [now x (clock + 1) p]) E go v' K' A' (upd fr x.id ((fr x.id).set 3 (.bool p))) cap := by
  have hlen : (but L x.b ++ [now x (clock + 1) p]).length = L.length := by rw [but_len h.inv hx]; simp
  have hlm := h.inv.len
  have hbl := but_len h.inv hx
  refine ⟨?_, h.dev.frame hf (fun k hk => List.mem_append.2 (.inl hk)), ?_, hq, ha, ?_, h.most, ⟨by have := h.clock; omega, by omega⟩, h.apart⟩
  · rw [hlen, show rowOf (but L x.b ++ [now x (clock + 1) p]) Dv.kept.length = rowOf L Dv.kept.length from rowOf_last (x := x) (y := now x (clock + 1) p) (by have := get_of h.inv hx; exact this) rfl _]
    exact hr
  · exact end_inv (but_inv h.inv x.b) (now x (clock + 1) p) (fun z hz => (but_mem.1 hz).2) (fun z hz e => (but_mem.1 hz).2 (by rw [pair_eq h.inv.ids z (but_mem.1 hz).1 x hx e])) (by show clock < clock + 1; omega) (by show 0 ≤ clock + 1; have := h.clock; omega) (h.inv.lt x hx) (by omega)
  · intro z hz
    rcases List.mem_append.1 hz with h1 | h1
    · have hne : z.id ≠ x.id := fun e => (but_mem.1 h1).2 (by rw [pair_eq h.inv.ids z (but_mem.1 h1).1 x hx e])
      rw [upd_ne _ _ hne]
      exact h.cells z (but_mem.1 h1).1
    · rw [List.mem_singleton.1 h1]
      show upd fr x.id _ x.id = _
      rw [upd_same, h.cells x hx]
      rfl
theorem CIn.off (h : CIn B w cb db y Dv most clock L E go v K A fr cap) {S : List Nat} {w' : World} (hS : ∀ k ∈ S, k = go ∨ k ∈ ownOf cb v (K ++ A)) (ho : Only S w w') : Fr B (dblocks db y ++ E) w w' := h.raw.frame hS (fun _ hk => hk) ho
theorem own_left {cb : Nat} {v : Value} {K A : Heap.KL} : ∀ k ∈ ownOf cb v K, k ∈ ownOf cb v (K ++ A) := by
  intro k hk
  rcases List.mem_cons.1 hk with rfl | hk
  · exact List.mem_cons_self
  · refine List.mem_cons_of_mem _ ?_
    rw [ids_app]
    rcases List.mem_append.1 hk with hk | hk
    · exact List.mem_append.2 (.inl hk)
    · exact List.mem_append.2 (.inr (List.mem_append.2 (.inl hk)))
/-- use, of a buffer that the cache has. -/
theorem use_old (h : CIn B w cb db y Dv most clock L E go v K A fr cap) {x : PB} (hx : x ∈ L) (p : Bool) (hp : x.pinned = true → p = true) (hc : clock < 1000000000000) :
    Calls Try.prog 46 #[.pointer (some ⟨cb, 0, none⟩), ptr x.id, .bool p] w fun e w' => e = .returned (.tuple #[]) ∧ CAt B w' cb db y Dv most (clock + 1) (but L x.b ++ [now x (clock + 1) p]) E ∧ Fr B (dblocks db y ++ E) w w' := by
  have hc0 := h.clock
  cases hpx : x.pinned with
  | true =>
    obtain rfl := hp hpx
    have e1 := pq_but h.inv hx
    rw [hpx, if_pos rfl] at e1
    have h2 := h.raw.perm (h.out.trans e1)
    refine (use_stay (x.id, x.used) h2 clock rfl ⟨hc0.1, hc⟩).mono ?_
    rintro e w' ⟨rfl, hr, ho⟩
    have hf : Fr B (dblocks db y ++ E) w w' := h.off (S := [cb, x.id]) (fun k hk => by
      rcases List.mem_cons.1 hk with rfl | hk
      · exact .inr List.mem_cons_self
      · rw [List.mem_singleton.1 hk]; exact .inr (own_id (h.has hx))) ho
    refine ⟨rfl, ⟨_, _, _, _, _, _, h.used hx true hc hr hf (q_used_pinned h.inv h.q hx hpx _ rfl) ?_⟩, hf⟩
    rw [pq_snoc, if_pos (by rfl)]
    exact (List.perm_append_singleton _ _).symm
  | false =>
    obtain ⟨i, hi, hki⟩ := q_has h.q hx hpx
    have e1 := pq_but h.inv hx
    rw [hpx, if_neg (by simp)] at e1
    cases p with
    | true =>
      refine (use_rem h.raw h.q.heap i hi (x.id, x.used) hki clock rfl ⟨hc0.1, hc⟩).mono ?_
      rintro e w' ⟨rfl, v', K', hperm, hh, hr, ho⟩
      have hf := h.off (fun k hk => .inr (own_left k hk)) ho
      refine ⟨rfl, ⟨_, _, _, _, _, _, h.used hx true hc hr hf (q_new_pinned (q_out h.inv h.q hx hpx hperm hh) _ rfl) ?_⟩, hf⟩
      rw [pq_snoc, if_pos (by rfl)]
      exact ((h.out.trans e1).cons _).trans (List.perm_append_singleton _ _).symm
    | false =>
      refine (use_fix h.raw h.q.heap i hi (x.id, x.used) hki clock rfl ⟨hc0.1, hc⟩).mono ?_
      rintro e w' ⟨rfl, K', hperm, hh, hr, ho⟩
      have hf := h.off (fun k hk => .inr (own_left k hk)) ho
      refine ⟨rfl, ⟨_, _, _, _, _, _, h.used hx false hc hr hf (q_used h.inv h.q hx hpx (now x (clock + 1) false) rfl rfl hi hki hperm hh) ?_⟩, hf⟩
      rw [pq_snoc, if_neg (by simp [now])]
      exact h.out.trans e1

end Go.Proofs.Ytlickjaopbcanaa

namespace Go.Proofs.Ytlickjaopbcanaa
open Go Go.RowKit Bufs
variable {B cb go : Nat} {w w' : World} {v : Value} {K A : Heap.KL} {fr : Nat → List Value} {db most cap : Nat} {y : Lay} {Dv : Dev} {clock : Int} {L : PL} {E : List Nat}

/-- drop, of a buffer that the cache has. -/
theorem drop_old (h : CIn B w cb db y Dv most clock L E go v K A fr cap) {x : PB} (hx : x ∈ L) :
    Calls Try.prog 51 #[.pointer (some ⟨cb, 0, none⟩), ptr x.id] w fun e w' => e = .returned (.tuple #[]) ∧ CAt B w' cb db y Dv most clock (but L x.b) E ∧ Fr B (dblocks db y ++ E) w w' := by
  have hlen := but_len h.inv hx
  have hll := h.inv.len
  have hm := h.most
  have hpos := h.dev.pos
  have hn0 : (L.length : Int) - 1 = ((but L x.b).length : Int) := by omega
  have hb : (fr x.id)[0]? = some (.int .i64 x.b) := by rw [h.cells x hx]; rfl
  have hP : x.b < (rowOf L Dv.kept.length).length := by rw [rowOf_len]; exact h.inv.lt x hx
  have mk : ∀ {w' : World} {v' : Value} {K' A' : Heap.KL}, Raw B w' cb go ([ptr db, .int .i64 most, .int .i64 clock, .slice (some ⟨go, 0, none⟩) Dv.kept.length cap, .int .i64 L.length].set 4 (.int .i64 ((L.length : Int) - 1))) v' K' A' fr ((rowOf L Dv.kept.length).set x.b (.pointer none)) (dblocks db y ++ E) → Fr B (dblocks db y ++ E) w w' → QRel K' (but L x.b) → A'.Perm (pq (but L x.b)) → CIn B w' cb db y Dv most clock (but L x.b) E go v' K' A' fr cap := fun {w' v' K' A'} hr hf hq ha => by
    refine ⟨?_, h.dev.frame hf (fun k hk => List.mem_append.2 (.inl hk)), but_inv h.inv x.b, hq, ha, fun z hz => h.cells z (but_mem.1 hz).1, h.most, h.clock, h.apart⟩
    rw [rowOf_but]
    rw [hn0] at hr
    exact hr
  have e1 := pq_but h.inv hx
  cases hpx : x.pinned with
  | true =>
    rw [hpx, if_pos rfl] at e1
    have h2 := h.raw.perm (h.out.trans e1)
    refine (drop_out (x.id, x.used) h2 x.b Dv.kept.length cap L.length hb hP (rowOf_len _ _) hpos.2 rfl rfl (by omega)).mono ?_
    rintro e w' ⟨rfl, hr, ho⟩
    have hf : Fr B (dblocks db y ++ E) w w' := h.off (S := [cb, go]) (fun k hk => by
      rcases List.mem_cons.1 hk with rfl | hk
      · exact .inr List.mem_cons_self
      · exact .inl (List.mem_singleton.1 hk)) ho
    exact ⟨rfl, ⟨_, _, _, _, _, _, mk hr hf (q_out_pinned h.inv h.q hx hpx) (.refl _)⟩, hf⟩
  | false =>
    rw [hpx, if_neg (by simp)] at e1
    obtain ⟨i, hi, hki⟩ := q_has h.q hx hpx
    refine (drop_rem h.raw h.q.heap i hi (x.id, x.used) hki x.b Dv.kept.length cap L.length hb hP (rowOf_len _ _) hpos.2 rfl rfl (by omega)).mono ?_
    rintro e w' ⟨rfl, v', K', hperm, hh, hr, ho⟩
    have hf : Fr B (dblocks db y ++ E) w w' := h.off (S := go :: ownOf cb v K) (fun k hk => by
      rcases List.mem_cons.1 hk with rfl | hk
      · exact .inl rfl
      · exact .inr (own_left k hk)) ho
    exact ⟨rfl, ⟨_, _, _, _, _, _, mk hr hf (q_out h.inv h.q hx hpx hperm hh) (h.out.trans e1)⟩, hf⟩

theorem get_turn (L : PL) (c b : Nat) {f : PB → PB} (hf : Same f) : get (turn L c f) b = (get L b).map fun x => if x.b = c then f x else x := by
  unfold Bufs.get turn
  induction L with
  | nil => rfl
  | cons x L ih =>
    have hb : (if x.b = c then f x else x).b = x.b := by split; exact hf.b x; rfl
    rw [List.map_cons, List.find?_cons, List.find?_cons, hb]
    cases x.b == b with
    | true => rfl
    | false => exact ih
theorem rowOf_turn (L : PL) (c n : Nat) {f : PB → PB} (hf : Same f) : rowOf (turn L c f) n = rowOf L n := by
  refine rowOf_ext (fun b _ => ?_)
  unfold cellOf
  rw [get_turn L c b hf]
  cases Bufs.get L b with
  | none => rfl
  | some x =>
    show ptr (if x.b = c then f x else x).id = ptr x.id
    split
    · rw [hf.id x]
    · rfl
theorem turn_len (L : PL) (c : Nat) (f : PB → PB) : (turn L c f).length = L.length := by simp [turn]
/-- A buffer has been turned. -/
theorem CIn.turned (h : CIn B w cb db y Dv most clock L E go v K A fr cap) {x : PB} (hx : x ∈ L) {f : PB → PB} (hs : Same f) {Dv' : Dev} (hk : Dv'.kept.length = Dv.kept.length) {v' : Value} {K' A' : Heap.KL} {fr' : Nat → List Value}
    (hr : Raw B w' cb go [ptr db, .int .i64 most, .int .i64 clock, .slice (some ⟨go, 0, none⟩) Dv.kept.length cap, .int .i64 L.length] v' K' A' fr' (rowOf L Dv.kept.length) (dblocks db y ++ E)) (hd : DevAt B w' db y Dv')
    (hx' : fr' x.id = bcell (f x)) (hne : ∀ k, k ≠ x.id → fr' k = fr k) (hq : QRel K' (turn L x.b f)) (ha : A'.Perm (pq (turn L x.b f))) : CIn B w' cb db y Dv' most clock (turn L x.b f) E go v' K' A' fr' cap := by
  refine ⟨?_, hd, by rw [hk]; exact turn_inv h.inv x.b hs, hq, ha, ?_, h.most, h.clock, h.apart⟩
  · rw [hk, turn_len, rowOf_turn L x.b _ hs]
    exact hr
  · intro z hz
    obtain ⟨u, hu, rfl⟩ := List.mem_map.1 hz
    by_cases hb : u.b = x.b
    · obtain rfl : u = x := pair_eq h.inv.bs u hu x hx hb
      rw [if_pos rfl, hs.id]
      exact hx'
    · rw [if_neg hb, hne _ (fun e => hb (by rw [pair_eq h.inv.ids u hu x hx e]))]
      exact h.cells u hu
theorem pq_turn (h : Inv Dv.kept.length most clock L) {x : PB} (hx : x ∈ L) (f : PB → PB) : (pq (turn L x.b f)).Perm (if (f x).pinned then ((f x).id, (f x).used) :: pq (but L x.b) else pq (but L x.b)) := by
  have := pq_perm (turn_perm h hx f)
  rwa [pq_cons] at this
theorem q_len (h : CIn B w cb db y Dv most clock L E go v K A fr cap) : K.length + A.length = L.length := by
  have h1 := h.q.perm.length_eq
  have h2 := h.out.length_eq
  rw [h1, h2]
  unfold qs free pq
  rw [List.length_map, List.length_map]
  have : ∀ M : PL, (M.filter fun x => !x.pinned).length + (M.filter fun x => x.pinned).length = M.length := by
    intro M
    induction M with
    | nil => rfl
    | cons x M ih =>
      rw [List.filter_cons, List.filter_cons]
      cases x.pinned <;> simp <;> omega
  exact this L
def unpin (x : PB) : PB := { x with pinned := false }
/-- pin, with false. -/
theorem unpin_old (h : CIn B w cb db y Dv most clock L E go v K A fr cap) {x : PB} (hx : x ∈ L) :
    Calls Try.prog 50 #[.pointer (some ⟨cb, 0, none⟩), ptr x.id, .bool false] w fun e w' => e = .returned (.tuple #[]) ∧ CAt B w' cb db y Dv most clock (turn L x.b unpin) E ∧ Fr B (dblocks db y ++ E) w w' := by
  have hs : Same unpin := ⟨fun _ => rfl, fun _ => rfl, fun _ => rfl⟩
  have e2 := pq_turn h.inv hx unpin
  rw [if_neg (by simp [unpin])] at e2
  have hfx : upd fr x.id ((fr x.id).set 3 (.bool false)) x.id = bcell (unpin x) := by rw [upd_same, h.cells x hx]; rfl
  have hfn : ∀ k, k ≠ x.id → upd fr x.id ((fr x.id).set 3 (.bool false)) k = fr k := fun k hk => upd_ne _ _ hk
  have e1 := pq_but h.inv hx
  cases hpx : x.pinned with
  | true =>
    rw [hpx, if_pos rfl] at e1
    have h2 := h.raw.perm (h.out.trans e1)
    have hKA := q_len h
    have hA := (h.out.trans e1).length_eq
    rw [List.length_cons] at hA
    have hll := h.inv.len
    have hm := h.most
    refine (pin_put (x.id, x.used) h2 (by omega) h.q.heap).mono ?_
    rintro e w' ⟨rfl, g, c', K', hperm, hh, hr, ho, _⟩
    have hf : Fr B (dblocks db y ++ E) w w' := h.off (S := ownOf cb v (K ++ [(x.id, x.used)])) (fun k hk => .inr (by
      rcases List.mem_cons.1 hk with rfl | hk
      · exact List.mem_cons_self
      · rcases List.mem_append.1 hk with hk | hk
        · exact List.mem_cons_of_mem _ (List.mem_append.2 (.inl hk))
        · obtain ⟨z, hz, rfl⟩ := mem_ids.1 hk
          rcases List.mem_append.1 hz with hz | hz
          · exact own_id (List.mem_append.2 (.inl hz))
          · rw [List.mem_singleton.1 hz]; exact own_id (h.has hx))) ho
    exact ⟨rfl, ⟨_, _, _, _, _, _, h.turned hx hs rfl hr (h.dev.frame hf (fun k hk => List.mem_append.2 (.inl hk))) hfx hfn (q_in h.inv h.q hx hpx hs rfl hperm hh) e2.symm⟩, hf⟩
  | false =>
    rw [hpx, if_neg (by simp)] at e1
    obtain ⟨i, hi, hki⟩ := q_has h.q hx hpx
    refine (pin_stay (x.id, x.used) h.raw (h.has hx) false (fun e => by cases e) (fun _ => hki ▸ h.raw.q.at hi)).mono ?_
    rintro e w' ⟨rfl, hr, ho⟩
    have hf : Fr B (dblocks db y ++ E) w w' := h.off (S := [x.id]) (fun k hk => by rw [List.mem_singleton.1 hk]; exact .inr (own_id (h.has hx))) ho
    exact ⟨rfl, ⟨_, _, _, _, _, _, h.turned hx hs rfl hr (h.dev.frame hf (fun k hk => List.mem_append.2 (.inl hk))) hfx hfn (q_turn h.inv h.q hx hs (by rw [hpx]; rfl)) ((h.out.trans e1).trans e2.symm)⟩, hf⟩

end Go.Proofs.Ytlickjaopbcanaa

namespace Go.Proofs.Ytlickjaopbcanaa
open Go Go.RowKit Bufs
variable {B cb : Nat} {w w' : World} {db most : Nat} {y : Lay} {Dv : Dev} {clock : Int} {L : PL} {E : List Nat}

/-- find, of a cache: its buffer, or none. -/
theorem find_any (h : CAt B w cb db y Dv most clock L E) (b : Int) : Calls Try.prog 47 #[.pointer (some ⟨cb, 0, none⟩), .int .i64 b] w fun e w' => e = .returned (findOf L Dv.kept.length b) ∧ w = w' := by
  obtain ⟨go, v, K, A, fr, cap, h⟩ := h
  refine find_raw (go := go) db Dv.kept.length cap w L h.c0 h.c3 (fun j hj => ?_) b
  rw [h.raw.of.cell, rowOf_at L _ j hj]
theorem turn_none {L : PL} {c : Nat} {f : PB → PB} (h : get L c = none) : turn L c f = L := by
  unfold turn
  conv => rhs; rw [← List.map_id L]
  apply List.map_congr_left
  intro x hx
  rw [if_neg (get_none h x hx)]
  rfl
/-- What find tells. -/
inductive Found (L : PL) (n : Nat) (b : Int) : Value → Prop where
  | some (x : PB) (hx : x ∈ L) (hb : b = (x.b : Int)) : Found L n b (.pointer (some ⟨x.id, 0, none⟩))
  | none (hn : ∀ j : Nat, b = (j : Int) → j < n → get L j = none) : Found L n b (.pointer none)
theorem found (L : PL) (n : Nat) (b : Int) : Found L n b (findOf L n b) := by
  unfold findOf
  by_cases c : 0 ≤ b ∧ b < n
  · rw [if_pos c]
    rcases cellOf_form L b.toNat with ⟨x, h1, h2⟩ | ⟨h1, h2⟩
    · rw [h2]
      obtain ⟨hx, hb⟩ := get_some h1
      exact .some x hx (by omega)
    · rw [h2]
      refine .none (fun j hj _ => ?_)
      have : j = b.toNat := by omega
      rw [this]
      exact h1
  · rw [if_neg c]
    exact .none (fun j hj hn => absurd ⟨by omega, by omega⟩ c)
/-- What becomes of the buffers by a call about a block that may be any number. -/
def atB (L : PL) (n : Nat) (b : Int) (f : Nat → PL) : PL := if 0 ≤ b ∧ b < n then f b.toNat else L
theorem atB_some {L : PL} {n : Nat} {b : Int} {f : Nat → PL} {x : PB} (hb : b = (x.b : Int)) (hn : x.b < n) : atB L n b f = f x.b := by
  unfold atB
  rw [if_pos (by omega)]
  congr 1
  omega
theorem atB_none {L : PL} {n : Nat} {b : Int} {f : Nat → PL} (h : ∀ j : Nat, b = (j : Int) → j < n → f j = L) : atB L n b f = L := by
  unfold atB
  split
  · exact h _ (by omega) (by omega)
  · rfl

set_option maxRecDepth 100000 in
set_option maxHeartbeats 2000000 in
theorem unpin_any (h : CAt B w cb db y Dv most clock L E) (b : Int) : Calls Try.prog 18 #[.pointer (some ⟨cb, 0, none⟩), .int .i64 b] w fun e w' => e = .returned (.tuple #[]) ∧ CAt B w' cb db y Dv most clock (atB L Dv.kept.length b fun j => turn L j unpin) E ∧ Fr B (dblocks db y ++ E) w w' := by
  have q := Lib.hid (find_any h b)
  have hf := found L Dv.kept.length b
  generalize findOf L Dv.kept.length b = u at *
  cases hf with
  | none hn =>
    have HE := Lib.hid h
    have HA := Lib.hid (atB_none (f := fun j => turn L j unpin) (fun j hj hl => turn_none (hn j hj hl)))
    clear h hn
    go_enter Try.func18, Try.ntmps18
    go_wp2_with fail
    refine q.out.mono ?_
    rintro e w2 ⟨rfl, rfl⟩
    go_wp2_with fail
    go_end0
    exact ⟨rfl, by rw [HA.out]; exact HE.out, Fr.refl _ _ _⟩
  | some x hx hb =>
    obtain ⟨go, v, K, A, fr, cap, h⟩ := h
    have q2 := Lib.hid (unpin_old h hx)
    have HA := Lib.hid (atB_some (f := fun j => turn L j unpin) (L := L) hb (h.inv.lt x hx))
    clear h hx hb
    unfold ptr at q2
    go_enter Try.func18, Try.ntmps18
    go_wp2_with fail
    refine q.out.mono ?_
    rintro e w2 ⟨rfl, rfl⟩
    go_wp2_with fail
    refine q2.out.mono ?_
    rintro e w3 ⟨rfl, h3, h4⟩
    have HE := Lib.hid (And.intro h3 h4)
    clear h3 h4 q q2
    go_wp2_with fail
    go_end0
    exact ⟨rfl, by rw [HA.out]; exact HE.out.1, HE.out.2⟩
set_option maxRecDepth 100000 in
set_option maxHeartbeats 2000000 in
theorem forget_any (h : CAt B w cb db y Dv most clock L E) (b : Int) : Calls Try.prog 19 #[.pointer (some ⟨cb, 0, none⟩), .int .i64 b] w fun e w' => e = .returned (.tuple #[]) ∧ CAt B w' cb db y Dv most clock (atB L Dv.kept.length b fun j => but L j) E ∧ Fr B (dblocks db y ++ E) w w' := by
  have q := Lib.hid (find_any h b)
  have hf := found L Dv.kept.length b
  generalize findOf L Dv.kept.length b = u at *
  cases hf with
  | none hn =>
    have HE := Lib.hid h
    have HA := Lib.hid (atB_none (f := fun j => but L j) (fun j hj hl => but_none (get_none (hn j hj hl))))
    clear h hn
    go_enter Try.func19, Try.ntmps19
    go_wp2_with fail
    refine q.out.mono ?_
    rintro e w2 ⟨rfl, rfl⟩
    go_wp2_with fail
    go_end0
    exact ⟨rfl, by rw [HA.out]; exact HE.out, Fr.refl _ _ _⟩
  | some x hx hb =>
    obtain ⟨go, v, K, A, fr, cap, h⟩ := h
    have q2 := Lib.hid (drop_old h hx)
    have HA := Lib.hid (atB_some (f := fun j => but L j) (L := L) hb (h.inv.lt x hx))
    clear h hx hb
    unfold ptr at q2
    go_enter Try.func19, Try.ntmps19
    go_wp2_with fail
    refine q.out.mono ?_
    rintro e w2 ⟨rfl, rfl⟩
    go_wp2_with fail
    refine q2.out.mono ?_
    rintro e w3 ⟨rfl, h3, h4⟩
    have HE := Lib.hid (And.intro h3 h4)
    clear h3 h4 q q2
    go_wp2_with fail
    go_end0
    exact ⟨rfl, by rw [HA.out]; exact HE.out.1, HE.out.2⟩
/-- Has. -/
def hasOf (L : PL) (n : Nat) (b : Int) : Bool := decide (0 ≤ b ∧ b < n) && (get L b.toNat).isSome
set_option maxRecDepth 100000 in
theorem chas_any (h : CAt B w cb db y Dv most clock L E) (b : Int) : Calls Try.prog 13 #[.pointer (some ⟨cb, 0, none⟩), .int .i64 b] w fun e w' => e = .returned (.bool (hasOf L Dv.kept.length b)) ∧ w = w' := by
  have q := Lib.hid (find_any h b)
  have hu : (∃ i, findOf L Dv.kept.length b = .pointer (some ⟨i, 0, none⟩) ∧ hasOf L Dv.kept.length b = true) ∨ (findOf L Dv.kept.length b = .pointer none ∧ hasOf L Dv.kept.length b = false) := by
    unfold findOf hasOf
    by_cases c : 0 ≤ b ∧ b < Dv.kept.length
    · rw [if_pos c, decide_eq_true c]
      rcases cellOf_form L b.toNat with ⟨x, h1, h2⟩ | ⟨h1, h2⟩
      · exact .inl ⟨x.id, h2, by rw [h1]; rfl⟩
      · exact .inr ⟨h2, by rw [h1]; rfl⟩
    · rw [if_neg c, decide_eq_false c]
      exact .inr ⟨rfl, rfl⟩
  clear h
  rcases hu with ⟨i, h1, h2⟩ | ⟨h1, h2⟩
  all_goals
    rw [h1] at q
    rw [h2]
    clear h1 h2
    go_enter Try.func13, Try.ntmps13
    go_wp2_with fail
    refine q.out.mono ?_
    rintro e w2 ⟨rfl, rfl⟩
    go_wp2_with fail
    go_ret
    exact ⟨rfl, rfl⟩

end Go.Proofs.Ytlickjaopbcanaa

namespace Go.Proofs.Ytlickjaopbcanaa
open Go Go.RowKit Bufs
variable {B cb go : Nat} {w w' : World} {v : Value} {K A : Heap.KL} {fr : Nat → List Value} {db most cap : Nat} {y : Lay} {Dv : Dev} {clock : Int} {L : PL} {E : List Nat}

def soil (d : Bool) (x : PB) : PB := { x with dirty := d }
def outE (Dv : Dev) (x : PB) : Int := if x.dirty && !x.pinned then Dv.writeE x.b x.data else 0
def outD (Dv : Dev) (x : PB) : Dev := if x.dirty && !x.pinned then Dv.write x.b x.data else Dv
def outL (Dv : Dev) (L : PL) (x : PB) : PL := if x.dirty && !x.pinned then turn L x.b (soil (decide (Dv.writeE x.b x.data ≠ 0))) else L
theorem Dev.write_len (D : Dev) (i : Int) (t : ByteArray) : (D.write i t).kept.length = D.kept.length := by
  unfold Dev.write
  split <;> rfl
set_option maxRecDepth 100000 in
set_option maxHeartbeats 2000000 in
theorem out_old (h : CIn B w cb db y Dv most clock L E go v K A fr cap) {x : PB} (hx : x ∈ L) (ht : x.data.size ≤ 9223372036854775807) (ha : Dv.acts < 1000000000000) :
    Calls Try.prog 55 #[.pointer (some ⟨cb, 0, none⟩), ptr x.id] w fun e w' => e = .returned (.int .i64 (outE Dv x)) ∧ CAt B w' cb db y (outD Dv x) most clock (outL Dv L x) E ∧ Fr B E w w' := by
  have hm := h.has hx
  have hc := h.cells x hx
  have c0 := (h.raw.cellB hm (k := 0) (u := .int .i64 x.b) (by rw [hc]; rfl)).1
  have c1 := (h.raw.cellB hm (k := 1) (u := .string x.data) (by rw [hc]; rfl)).1
  have c2 := (h.raw.cellB hm (k := 2) (u := .bool x.dirty) (by rw [hc]; rfl)).1
  have c3 := (h.raw.cellB hm (k := 3) (u := .bool x.pinned) (by rw [hc]; rfl)).1
  have d0 := h.c0
  dsimp only at c0 c1 c2 c3
  cases hd : x.dirty with
  | false =>
    have e1 : outE Dv x = 0 := by unfold outE; rw [hd]; rfl
    have e2 : outD Dv x = Dv := by unfold outD; rw [hd]; rfl
    have e3 : outL Dv L x = L := by unfold outL; rw [hd]; rfl
    rw [hd] at c2
    have HE : Hid (CAt B w cb db y (outD Dv x) most clock (outL Dv L x) E) := Lib.hid (by rw [e2, e3]; exact ⟨_, _, _, _, _, _, h⟩)
    rw [e1]
    clear h hm hc hx hd e1 e2 e3
    unfold ptr at *
    go_enter Try.func55, Try.ntmps55
    go_wp2_with fail
    go_ret
    exact ⟨rfl, HE.out, Fr.refl _ _ _⟩
  | true =>
    rw [hd] at c2
    cases hp : x.pinned with
    | true =>
      have e1 : outE Dv x = 0 := by unfold outE; rw [hd, hp]; rfl
      have e2 : outD Dv x = Dv := by unfold outD; rw [hd, hp]; rfl
      have e3 : outL Dv L x = L := by unfold outL; rw [hd, hp]; rfl
      rw [hp] at c3
      have HE : Hid (CAt B w cb db y (outD Dv x) most clock (outL Dv L x) E) := Lib.hid (by rw [e2, e3]; exact ⟨_, _, _, _, _, _, h⟩)
      rw [e1]
      clear h hm hc hx hd hp e1 e2 e3
      unfold ptr at *
      go_enter Try.func55, Try.ntmps55
      go_wp2_with fail
      go_ret
      exact ⟨rfl, HE.out, Fr.refl _ _ _⟩
    | false =>
      have e1 : outE Dv x = Dv.writeE x.b x.data := by unfold outE; rw [hd, hp]; rfl
      have e2 : outD Dv x = Dv.write x.b x.data := by unfold outD; rw [hd, hp]; rfl
      have e3 : outL Dv L x = turn L x.b (soil (decide (Dv.writeE x.b x.data ≠ 0))) := by unfold outL; rw [hd, hp]; rfl
      rw [hp] at c3
      have hdw : DevAt B w.drew db y Dv := h.dev.frame (B' := B) (E' := dblocks db y) ⟨rfl, rfl, rfl, Nat.le_refl _, fun _ _ _ => rfl⟩ (fun _ hk => hk)
      have q := Lib.hid (write_any hdw x.b x.data ht ha)
      have HH := Lib.hid (And.intro h (And.intro hx hp))
      rw [e1, e2, e3]
      clear h hm hc hx hd hp e1 e2 e3 hdw
      have fin : ∀ (d : Bool) (w2 : World), d = decide (Dv.writeE x.b x.data ≠ 0) → DevAt B w2 db y (Dv.write x.b x.data) → Only [db, y.gn, y.gp] w.drew w2 → (∃ u, w2.cell? ⟨x.id, 2, none⟩ = some u) ∧ w2.frozen? ⟨x.id, 2, none⟩ = false ∧ CAt B (w2.setCell ⟨x.id, 2, none⟩ (.bool d)) cb db y (Dv.write x.b x.data) most clock (turn L x.b (soil (decide (Dv.writeE x.b x.data ≠ 0)))) E ∧ Fr B E w (w2.setCell ⟨x.id, 2, none⟩ (.bool d)) := by
        intro d w2 hde hdv ho
        obtain ⟨h, hx, hp⟩ := HH.out
        have hm := h.has hx
        have r2 := h.raw.drew.other ho (fun k hk => .inl (List.mem_append.2 (.inl (by
          simp only [List.mem_cons, List.not_mem_nil, or_false] at hk
          rcases hk with rfl | rfl | rfl <;> simp [dblocks]))))
        obtain ⟨k1, k2⟩ := r2.cellB hm (k := 2) (u := .bool x.dirty) (by rw [h.cells x hx]; rfl)
        have r3 := r2.cell hm (k := 2) (by omega) (.bool d)
        have hs : Same (soil (decide (Dv.writeE x.b x.data ≠ 0))) := ⟨fun _ => rfl, fun _ => rfl, fun _ => rfl⟩
        have e2 := pq_turn h.inv hx (soil (decide (Dv.writeE x.b x.data ≠ 0)))
        have e1 := pq_but h.inv hx
        rw [if_neg (by rw [hp]; simp)] at e1
        rw [if_neg (by show ¬ x.pinned = true; rw [hp]; simp)] at e2
        have hidb : ∀ k ∈ dblocks db y ++ E, k ≠ x.id := fun k hk e => (h.raw.off k hk).2.ids _ hm e.symm
        have hdv2 : DevAt B (w2.setCell ⟨x.id, 2, none⟩ (.bool d)) db y (Dv.write x.b x.data) := hdv.frame (B' := 0) (E' := dblocks db y) ⟨rfl, rfl, rfl, by simp, fun k hk hs => Below.heap_setCell _ _ _ _ (fun e => hidb k (List.mem_append.2 (.inl (hs.elim (fun h5 => absurd h5 (by omega)) id))) e)⟩ (fun _ hk => hk)
        refine ⟨⟨_, k1⟩, k2, ⟨_, _, _, _, _, _, h.turned hx hs (Dev.write_len _ _ _) r3 hdv2 ?_ (fun k hk => upd_ne _ _ hk) (q_turn h.inv h.q hx hs rfl) ((h.out.trans e1).trans e2.symm)⟩, ?_⟩
        · rw [upd_same, h.cells x hx, hde]; rfl
        · have hxB : B ≤ x.id := by
            rcases List.mem_append.1 hm with h5 | h5
            · exact (h.raw.q.ids _ h5).2.2
            · exact (h.raw.aid _ h5).2.2
          have f1 : Fr B E w w2 := ((Only.drew' w).trans ho).frame (fun k hk => by
            simp only [List.mem_cons, List.not_mem_nil, or_false] at hk
            rcases hk with rfl | rfl | rfl
            · exact h.dev.own
            · exact (h.dev.now.lt _ rfl).1
            · exact (h.dev.pend.lt _ rfl).1) (fun k hk hm2 => h.apart k hk (by
            simp only [List.mem_cons, List.not_mem_nil, or_false] at hm2
            rcases hm2 with rfl | rfl | rfl <;> simp [dblocks]))
          exact f1.trans ((Only.setCell (S := [x.id]) w2 ⟨x.id, 2, none⟩ (.bool d) (List.mem_singleton.2 rfl)).frame (fun k hk => by rw [List.mem_singleton.1 hk]; exact hxB) (fun k hk hm2 => hidb k (List.mem_append.2 (.inr hk)) (List.mem_singleton.1 hm2)))
      have FIN := Lib.hid fin
      clear fin HH
      generalize Dv.writeE x.b x.data = ee at *
      unfold ptr at *
      go_enter Try.func55, Try.ntmps55
      go_wp2_with fail
      refine wp_region_still_tail 12 (by kernel_rfl) (by kernel_rfl) ?_
      simp only [List.take_succ_cons, List.take_zero, List.drop_succ_cons, List.drop_zero]
      repeat still_step
      refine wpStill_nil ?_
      change wpList _ _ _ _ _ w.drew
      go_wp2_with fail
      refine q.out.mono ?_
      rintro e w2 ⟨rfl, hdv, ho⟩
      by_cases hee : ee = 0
      · subst hee
        obtain ⟨⟨u, k1⟩, k2, hE⟩ := FIN.out false w2 (by simp) hdv ho
        have HE := Lib.hid hE
        clear hE hdv ho q FIN
        go_wp2_with fail
        go_ret
        exact ⟨rfl, HE.out.1, HE.out.2⟩
      · obtain ⟨⟨u, k1⟩, k2, hE⟩ := FIN.out true w2 (by simp [hee]) hdv ho
        have hee2 : (ee != 0) = true := by simp [hee]
        have HE := Lib.hid hE
        clear hE hdv ho q FIN
        go_wp2_with fail
        go_ret
        exact ⟨rfl, HE.out.1, HE.out.2⟩

end Go.Proofs.Ytlickjaopbcanaa

namespace Go.Proofs.Ytlickjaopbcanaa
open Go Go.RowKit Bufs
variable {B cb : Nat} {w w' : World} {db most : Nat} {y : Lay} {Dv : Dev} {clock : Int} {L : PL} {E : List Nat}

/-- The buffer of a block that may be any number. -/
def bufOf (L : PL) (n : Nat) (b : Int) : Option PB := if 0 ≤ b ∧ b < n then get L b.toNat else none
/-- Out: the answer, the device, the buffers. -/
def outB (Dv : Dev) (L : PL) (b : Int) : Int × Dev × PL := match bufOf L Dv.kept.length b with
  | some x => (outE Dv x, outD Dv x, outL Dv L x)
  | none => (0, Dv, L)
theorem bufOf_find (L : PL) (n : Nat) (b : Int) : (∃ x, bufOf L n b = some x ∧ x ∈ L ∧ findOf L n b = ptr x.id) ∨ (bufOf L n b = none ∧ findOf L n b = .pointer none) := by
  unfold bufOf findOf
  by_cases c : 0 ≤ b ∧ b < n
  · rw [if_pos c, if_pos c]
    rcases cellOf_form L b.toNat with ⟨x, h1, h2⟩ | ⟨h1, h2⟩
    · exact .inl ⟨x, h1, (get_some h1).1, h2⟩
    · exact .inr ⟨h1, h2⟩
  · rw [if_neg c, if_neg c]
    exact .inr ⟨rfl, rfl⟩
set_option maxRecDepth 100000 in
set_option maxHeartbeats 2000000 in
theorem cout_any (h : CAt B w cb db y Dv most clock L E) (b : Int) (hd : ∀ x ∈ L, x.data.size ≤ 9223372036854775807) (ha : Dv.acts < 1000000000000) :
    Calls Try.prog 22 #[.pointer (some ⟨cb, 0, none⟩), .int .i64 b] w fun e w' => e = .returned (.int .i64 (outB Dv L b).1) ∧ CAt B w' cb db y (outB Dv L b).2.1 most clock (outB Dv L b).2.2 E ∧ Fr B E w w' := by
  have q := Lib.hid (find_any h b)
  obtain ⟨ak, hak, hak1⟩ : ∃ ak, askOf Dv.kept.length b = ak ∧ ¬ ak = 1 := ⟨_, rfl, by unfold askOf; split <;> omega⟩
  have qa : Hid (Calls Try.prog 44 #[.pointer (some ⟨cb, 0, none⟩), .int .i64 b] w fun e w' => e = .returned (.int .i64 ak) ∧ w = w') := Lib.hid (by
    obtain ⟨go, v, K, A, fr, cap, h⟩ := h
    rw [← hak]
    exact ask_raw (go := go) db Dv.kept.length cap w h.c0 h.c3 b)
  clear hak
  rcases bufOf_find L Dv.kept.length b with ⟨x, h1, hx, h2⟩ | ⟨h1, h2⟩
  · have e0 : outB Dv L b = (outE Dv x, outD Dv x, outL Dv L x) := by unfold outB; rw [h1]
    rw [h2] at q
    rw [e0]
    dsimp only
    obtain ⟨go, v, K, A, fr, cap, h⟩ := h
    have q2 := Lib.hid (out_old h hx (hd x hx) ha)
    clear h h1 h2 e0 hx hd
    unfold ptr at *
    generalize outE Dv x = ee at *
    go_enter Try.func22, Try.ntmps22
    go_wp2_with fail
    refine qa.out.mono ?_
    rintro e w2 ⟨rfl, rfl⟩
    go_wp2_with fail
    refine q.out.mono ?_
    rintro e w2 ⟨rfl, rfl⟩
    go_wp2_with fail
    refine q2.out.mono ?_
    rintro e w3 ⟨rfl, h3, h4⟩
    have HE := Lib.hid (And.intro h3 h4)
    clear h3 h4 q q2 qa
    go_wp2_with fail
    go_ret
    exact ⟨rfl, HE.out.1, HE.out.2⟩
  · have e0 : outB Dv L b = (0, Dv, L) := by unfold outB; rw [h1]
    rw [h2] at q
    rw [e0]
    dsimp only
    have HE := Lib.hid h
    clear h h1 h2 e0 hd
    go_enter Try.func22, Try.ntmps22
    go_wp2_with fail
    refine qa.out.mono ?_
    rintro e w2 ⟨rfl, rfl⟩
    go_wp2_with fail
    refine q.out.mono ?_
    rintro e w2 ⟨rfl, rfl⟩
    go_wp2_with fail
    go_ret
    exact ⟨rfl, HE.out, Fr.refl _ _ _⟩

end Go.Proofs.Ytlickjaopbcanaa

namespace Go.Proofs.Ytlickjaopbcanaa
open Go Go.RowKit Bufs
variable {B cb : Nat} {w w' : World} {db most : Nat} {y : Lay} {Dv : Dev} {clock : Int} {L : PL} {E : List Nat}

/-- room: the answer, the device, the buffers. -/
def roomOf (Dv : Dev) (L : PL) (most : Nat) : Int × Dev × PL :=
  if L.length < most then (0, Dv, L) else match L.find? (fun x => !x.pinned) with
  | none => (70, Dv, L)
  | some x => if outE Dv x = 0 then (0, outD Dv x, but L x.b) else (outE Dv x, outD Dv x, outL Dv L x)
theorem but_turn (L : PL) (c : Nat) {f : PB → PB} (hf : Same f) : but (turn L c f) c = but L c := by
  unfold but turn
  induction L with
  | nil => rfl
  | cons x L ih =>
    rw [List.map_cons, List.filter_cons, List.filter_cons]
    by_cases hb : x.b = c
    · rw [if_pos hb, if_neg (by rw [hf.b]; simp [hb]), if_neg (by simp [hb])]
      exact ih
    · rw [if_neg hb, if_pos (by simp [hb]), if_pos (by simp [hb]), ih]
theorem out_has {x : PB} (hx : x ∈ L) : ∃ z ∈ outL Dv L x, z.id = x.id ∧ z.b = x.b ∧ but (outL Dv L x) z.b = but L x.b := by
  unfold outL
  split
  · refine ⟨soil (decide (Dv.writeE x.b x.data ≠ 0)) x, ?_, rfl, rfl, but_turn L x.b ⟨fun _ => rfl, fun _ => rfl, fun _ => rfl⟩⟩
    exact List.mem_map.2 ⟨x, hx, if_pos rfl⟩
  · exact ⟨x, hx, rfl, rfl, rfl⟩
set_option maxRecDepth 100000 in
set_option maxHeartbeats 2000000 in
theorem room_any (h : CAt B w cb db y Dv most clock L E) (hd : ∀ x ∈ L, x.data.size ≤ 9223372036854775807) (ha : Dv.acts < 1000000000000) :
    Calls Try.prog 76 #[.pointer (some ⟨cb, 0, none⟩)] w fun e w' => e = .returned (.int .i64 (roomOf Dv L most).1) ∧ CAt B w' cb db y (roomOf Dv L most).2.1 most clock (roomOf Dv L most).2.2 E ∧ Fr B E w w' := by
  obtain ⟨go, v, K, A, fr, cap, h⟩ := h
  have c4 := (h.raw.cellF (k := 4) rfl).1
  have c1 := (h.raw.cellF (k := 1) rfl).1
  have c5 := h.raw.q.c5
  have hm := h.most
  have hll := h.inv.len
  by_cases hlm : L.length < most
  · have e0 : roomOf Dv L most = (0, Dv, L) := if_pos hlm
    rw [e0]
    dsimp only
    have HE : Hid (∀ m, CAt B (w.drewN m) cb db y Dv most clock L E) := Lib.hid (fun m => ⟨_, _, _, _, _, _, h.raw.drewN m, h.dev.frame (B' := B) (E' := dblocks db y) ⟨rfl, rfl, rfl, Nat.le_refl _, fun _ _ _ => rfl⟩ (fun _ hk => hk), h.inv, h.q, h.out, h.cells, h.most, h.clock, h.apart⟩)
    have hi : (L.length : Int) < (most : Int) := by omega
    clear h e0 hd c5
    go_enter Try.func76, Try.ntmps76
    go_wp2_with fail
    go_quiet (fail)
    go_wp2_with fail
    go_ret
    exact ⟨rfl, HE.out _, ⟨rfl, rfl, rfl, Nat.le_refl _, fun _ _ _ => rfl⟩⟩
  · have hi : ¬ (L.length : Int) < (most : Int) := by omega
    have hid : decide ((L.length : Int) < (most : Int)) = false := decide_eq_false hi
    have HC : Hid (∀ m, CIn B (w.drewN m) cb db y Dv most clock L E go v K A fr cap) := Lib.hid (fun m => ⟨h.raw.drewN m, h.dev.frame (B' := B) (E' := dblocks db y) ⟨rfl, rfl, rfl, Nat.le_refl _, fun _ _ _ => rfl⟩ (fun _ hk => hk), h.inv, h.q, h.out, h.cells, h.most, h.clock, h.apart⟩)
    have FW : Hid (∀ m, Fr B E w (w.drewN m)) := Lib.hid (fun m => ⟨rfl, rfl, rfl, Nat.le_refl _, fun _ _ _ => rfl⟩)
    rcases Nat.eq_zero_or_pos K.length with hk | hk
    · have e0 : roomOf Dv L most = (70, Dv, L) := by unfold roomOf; rw [if_neg hlm, q_none h.q hk]
      obtain ⟨ad, c', hv⟩ := h.raw.q.form
      rw [hk] at hv
      rw [hv] at c5
      rw [e0]
      dsimp only
      clear h e0 hd hv hlm
      go_enter Try.func76, Try.ntmps76
      go_wp2_with fail
      go_quiet (fail)
      go_wp2_with fail
      go_ret
      exact ⟨rfl, ⟨_, _, _, _, _, _, HC.out _⟩, FW.out _⟩
    · obtain ⟨x, hf, hx0⟩ := q_top h.inv h.q hk
      have hx : x ∈ L := List.mem_of_find?_eq_some hf
      obtain ⟨g, c', hv, _⟩ := h.raw.q.slice hk
      have r := h.raw.q.row
      rw [hv] at r c5
      have cg := own_cell1 r (ptrs_at K 0 hk)
      rw [hx0] at cg
      dsimp only at cg
      have e0 : roomOf Dv L most = if outE Dv x = 0 then (0, outD Dv x, but L x.b) else (outE Dv x, outD Dv x, outL Dv L x) := by unfold roomOf; rw [if_neg hlm, hf]
      have HQ := Lib.hid (fun m => out_old (HC.out m) hx (hd x hx) ha)
      have HZ := Lib.hid (out_has (Dv := Dv) hx)
      have k0 : ¬ ((K.length : Int) = 0) := by omega
      have k1 : ((K.length : Int) == 0) = false := by rw [beq_eq_false_iff_ne]; exact k0
      have k2 : (0 : Int) < (K.length : Int) := by omega
      rw [e0]
      clear h e0 hd hv hlm r hf hx0 hx HC
      unfold ptr at *
      generalize outE Dv x = ee at *
      by_cases hee : ee = 0
      · subst hee
        rw [if_pos rfl]
        dsimp only
        go_enter Try.func76, Try.ntmps76
        go_wp2_with fail
        go_quiet (fail)
        go_wp2_with fail
        refine (HQ.out _).mono ?_
        rintro e w2 ⟨rfl, h2, f2⟩
        have F2 := Lib.hid ((FW.out _).trans f2)
        obtain ⟨z, hz, hzi, hzb, hzl⟩ := HZ.out
        obtain ⟨go2, v2, K2, A2, fr2, cap2, h3⟩ := h2
        have q3 := drop_old h3 hz
        rw [hzi, hzl] at q3
        have Q3 := Lib.hid q3
        have hap := Lib.hid h3.apart
        clear q3 h3 hz hzi hzb hzl f2 HQ HZ
        unfold ptr at Q3
        go_wp2_with fail
        refine Q3.out.mono ?_
        rintro e w3 ⟨rfl, h4, f4⟩
        have HE := Lib.hid (And.intro h4 f4)
        clear h4 f4 Q3
        go_wp2_with fail
        go_ret
        exact ⟨rfl, HE.out.1, F2.out.trans ⟨HE.out.2.os, HE.out.2.tape, HE.out.2.output, HE.out.2.size, fun k hk hs => HE.out.2.block k hk (hs.elim .inl (fun h5 => .inr (List.mem_append.2 (.inr h5))))⟩⟩
      · have hee2 : (ee != 0) = true := by simp [hee]
        rw [if_neg hee]
        dsimp only
        go_enter Try.func76, Try.ntmps76
        go_wp2_with fail
        go_quiet (fail)
        go_wp2_with fail
        refine (HQ.out _).mono ?_
        rintro e w2 ⟨rfl, h2, f2⟩
        have F2 := Lib.hid ((FW.out _).trans f2)
        have H2 := Lib.hid h2
        clear h2 f2 HQ HZ
        go_wp2_with fail
        go_ret
        exact ⟨rfl, H2.out, F2.out⟩

end Go.Proofs.Ytlickjaopbcanaa

namespace Go.Proofs.Ytlickjaopbcanaa
open Go Go.RowKit Bufs
variable {B cb go : Nat} {w w' : World} {five : List Value} {v : Value} {K A : Heap.KL} {fr : Nat → List Value} {P : List Value} {D : List Nat}

theorem Raw.new (h : Raw B w cb go five v K A fr P D) (l : List Value) (hl : l.length = 4) : Raw B (w.alloc (.cells (l ++ [Value.int .i64 0, Value.int .i64 (-1)]).toArray 88)) cb go five v K ((w.heap.size, 0) :: A) (upd fr w.heap.size l) P D := by
  have q := h.q
  have hlt : ∀ x ∈ K ++ A, x.1 < w.heap.size := fun x hx => by obtain ⟨a, r, _⟩ := h.buffer hx; exact r.lt
  have hK : ∀ x ∈ K, x.1 ≠ w.heap.size := fun x hx => by have := hlt x (List.mem_append.2 (.inl hx)); omega
  have hA : ∀ x ∈ A, x.1 ≠ w.heap.size := fun x hx => by have := hlt x (List.mem_append.2 (.inr hx)); omega
  refine ⟨⟨q.own, q.fl, q.cells.alloc _, q.row.alloc _, fun i hi => by rw [upd_ne _ _ (hK _ (q.at hi))]; exact (q.buf i hi).alloc _, fun x hx => by rw [upd_ne _ _ (hK x hx)]; exact q.frl x hx, q.nd, q.ne, q.ids, q.keys, q.len⟩, fun x hx => ?_, fun x hx => ?_, fun x hx => ?_, fun x hx => ?_, ?_, h.of.alloc _, h.gocb, h.gov, h.goB, fun x hx => ?_, by simp; have := h.base; omega, fun k hk => ?_⟩
  · rcases List.mem_cons.1 hx with rfl | hx
    · unfold Alone
      rw [upd_same]
      exact Row.new w _ _ rfl
    · unfold Alone
      rw [upd_ne _ _ (hA x hx)]
      exact Row.alloc (h.al x hx) _
  · rcases List.mem_cons.1 hx with rfl | hx
    · rw [upd_same]; exact hl
    · rw [upd_ne _ _ (hA x hx)]; exact h.afl x hx
  · rcases List.mem_cons.1 hx with rfl | hx
    · exact ⟨by have := q.cells.lt; show w.heap.size ≠ cb; omega, fun e => by have := (q.row.lt _ e).2; dsimp only at this; omega, h.base⟩
    · exact h.aid x hx
  · rcases List.mem_cons.1 hx with rfl | hx
    · exact ⟨Int.le_refl 0, by show (0 : Int) ≤ 1000000000000; omega⟩
    · exact h.akey x hx
  · have hp : (K ++ (w.heap.size, (0 : Int)) :: A).Perm ((w.heap.size, 0) :: (K ++ A)) := List.perm_middle
    refine (hp.pairwise_iff (R := fun x y : Nat × Int => x.1 ≠ y.1) (fun h => h.symm)).2 (List.pairwise_cons.2 ⟨fun y hy => ?_, h.nd⟩)
    have := hlt y hy
    show w.heap.size ≠ y.1
    omega
  · rcases List.mem_append.1 hx with hx | hx
    · exact h.goid x (List.mem_append.2 (.inl hx))
    · rcases List.mem_cons.1 hx with rfl | hx
      · have := h.of.lt; show w.heap.size ≠ go; omega
      · exact h.goid x (List.mem_append.2 (.inr hx))
  · obtain ⟨h4, h5⟩ := h.off k hk
    refine ⟨by simp; omega, h5.cb, h5.go, h5.v, fun x hx => ?_⟩
    rcases List.mem_append.1 hx with hx | hx
    · exact h5.ids x (List.mem_append.2 (.inl hx))
    · rcases List.mem_cons.1 hx with rfl | hx
      · show w.heap.size ≠ k; omega
      · exact h5.ids x (List.mem_append.2 (.inr hx))

end Go.Proofs.Ytlickjaopbcanaa
