/- A cache: Sync. A cache: a buffer that has just been made is used. A cache: take. A cache: Get. A cache: Put. A cache: which buffers are dirty, which are pinned. A cache: New. A cache by what it has: its buffers as the document knows them. No walk. A cache: each call, as the document knows it. No walk. -/
import Derived.Test.YtlickjaopbcanaaCacheB
import Derived.Test.YtlickjaopbcanaaDevA
import Derived.Test.YtlickjaopbcanaaDevB
namespace Go.Proofs.Ytlickjaopbcanaa
open Go Go.RowKit Bufs
variable {B cb : Nat} {w w' : World} {db most : Nat} {y : Lay} {Dv : Dev} {clock : Int} {L : PL} {E : List Nat}

/-- n blocks from b on are written that may be. -/
def syncN : Nat → Nat → Dev → PL → Int × Dev × PL
  | 0, _, Dv, L => (0, Dv, L)
  | n + 1, b, Dv, L => if (outB Dv L b).1 = 0 then syncN n (b + 1) (outB Dv L b).2.1 (outB Dv L b).2.2 else outB Dv L b
theorem Dev.write_acts (D : Dev) (i : Int) (t : ByteArray) : (D.write i t).acts ≤ D.acts + 1 := by
  unfold Dev.write
  split
  · show D.acts + 1 ≤ _; omega
  · omega
theorem outB_len (Dv : Dev) (L : PL) (b : Int) : (outB Dv L b).2.1.kept.length = Dv.kept.length := by
  unfold outB
  split
  · show (outD Dv _).kept.length = _
    unfold outD
    split
    · exact Dev.write_len _ _ _
    · rfl
  · rfl
theorem outB_acts (Dv : Dev) (L : PL) (b : Int) : (outB Dv L b).2.1.acts ≤ Dv.acts + 1 := by
  unfold outB
  split
  · show (outD Dv _).acts ≤ _
    unfold outD
    split
    · exact Dev.write_acts _ _ _
    · omega
  · show Dv.acts ≤ _; omega
theorem outL_all (p : ByteArray → Prop) (Dv : Dev) (L : PL) (x : PB) (h : ∀ x ∈ L, p x.data) : ∀ z ∈ outL Dv L x, p z.data := by
  unfold outL
  split
  · intro z hz
    obtain ⟨u, hu, rfl⟩ := List.mem_map.1 hz
    split
    · exact h u hu
    · exact h u hu
  · exact h
theorem outB_all (p : ByteArray → Prop) (Dv : Dev) (L : PL) (b : Int) (h : ∀ x ∈ L, p x.data) : ∀ x ∈ (outB Dv L b).2.2, p x.data := by
  unfold outB
  split
  · exact outL_all p Dv L _ h
  · exact h
structure SyncIn (n j : Nat) (Dv D2 : Dev) (L L2 : PL) : Prop where
  eq : syncN (n - j) j D2 L2 = syncN n 0 Dv L
  len : D2.kept.length = n
  acts : D2.acts ≤ Dv.acts + j
  size : ∀ x ∈ L2, x.data.size ≤ 9223372036854775807
theorem SyncIn.next {n j : Nat} {Dv D2 : Dev} {L L2 : PL} (h : SyncIn n j Dv D2 L L2) (hj : j < n) (he : (outB D2 L2 j).1 = 0) : SyncIn n (j + 1) Dv (outB D2 L2 j).2.1 L (outB D2 L2 j).2.2 := by
  refine ⟨?_, (outB_len _ _ _).trans h.len, ?_, outB_all (fun s => s.size ≤ 9223372036854775807) _ _ _ h.size⟩
  · rw [← h.eq, show n - j = (n - (j + 1)) + 1 by omega]
    show _ = if (outB D2 L2 j).1 = 0 then _ else _
    rw [if_pos he]
  · have := outB_acts D2 L2 j
    have := h.acts
    omega
theorem SyncIn.stop {n j : Nat} {Dv D2 : Dev} {L L2 : PL} (h : SyncIn n j Dv D2 L L2) (hj : j < n) (he : ¬ (outB D2 L2 j).1 = 0) : syncN n 0 Dv L = outB D2 L2 j := by
  rw [← h.eq, show n - j = (n - (j + 1)) + 1 by omega]
  show (if (outB D2 L2 j).1 = 0 then _ else _) = _
  rw [if_neg he]
theorem SyncIn.last {n : Nat} {Dv D2 : Dev} {L L2 : PL} (h : SyncIn n n Dv D2 L L2) : syncN n 0 Dv L = (0, D2, L2) := by
  rw [← h.eq, Nat.sub_self]
  rfl
set_option maxRecDepth 100000 in
set_option maxHeartbeats 2000000 in
theorem sync_any (h : CAt B w cb db y Dv most clock L E) (hd : ∀ x ∈ L, x.data.size ≤ 9223372036854775807) (ha : Dv.acts ≤ 900000000000) :
    Calls Try.prog 23 #[.pointer (some ⟨cb, 0, none⟩)] w fun e w' => e = .returned (.int .i64 (syncN Dv.kept.length 0 Dv L).1) ∧ CAt B w' cb db y (syncN Dv.kept.length 0 Dv L).2.1 most clock (syncN Dv.kept.length 0 Dv L).2.2 E ∧ Fr B E w w' := by
  have H := Lib.hid h
  obtain ⟨go, v, K, A, fr, cap, h⟩ := h
  have hpos := h.dev.pos
  have q : Hid (Calls Try.prog 44 #[.pointer (some ⟨cb, 0, none⟩), .int .i64 0] w fun e w' => e = .returned (.int .i64 0) ∧ w = w') := Lib.hid (by
    have e : askOf Dv.kept.length 0 = 0 := if_pos (by omega)
    have := ask_raw (go := go) db Dv.kept.length cap w h.c0 h.c3 0
    rwa [e] at this)
  have c3 := h.c3
  have h0 : Hid (SyncIn Dv.kept.length 0 Dv Dv L L) := Lib.hid ⟨rfl, rfl, by omega, hd⟩
  clear h hd
  generalize Dv.kept.length = n at *
  go_enter Try.func23, Try.ntmps23
  go_wp2_with fail
  refine q.out.mono ?_
  rintro e w2 ⟨rfl, rfl⟩
  clear q
  go_wp2_with fail
  go_loopw [16] (fun q wr => ∃ (j : Nat) (D2 : Dev) (L2 : PL), j ≤ n ∧ q = .int .i64 j ∧ Hid (CAt B wr cb db y D2 most clock L2 E) ∧ Hid (Fr B E w wr) ∧ Hid (SyncIn n j Dv D2 L L2)) (fun q _ => n - (intOf q).toNat)
  case atStart => exact ⟨0, Dv, L, by omega, rfl, H, Lib.hid (Fr.refl _ _ _), h0⟩
  case round =>
    obtain ⟨j, D2, L2, hj, rfl, hC, hF, hS⟩ := hrel
    by_cases hlt : j < n
    · have hacts := hS.out.acts
      have q2 := Lib.hid (cout_any hC.out j hS.out.size (by omega))
      have i1 : (j : Int) < (n : Int) := by omega
      have HN := Lib.hid (hS.out.next hlt)
      have HT := Lib.hid (hS.out.stop hlt)
      clear hS hC
      obtain ⟨ee, hee⟩ : ∃ ee, (outB D2 L2 j).1 = ee := ⟨_, rfl⟩
      have HE := Lib.hid hee
      rw [hee] at q2
      clear hee
      by_cases e0 : ee = 0
      · subst e0
        go_wp2_with fail
        refine q2.out.mono ?_
        rintro e w2 ⟨rfl, h1, h2⟩
        have h1 := Lib.hid h1
        have h2 := Lib.hid (hF.out.trans h2)
        clear q2
        go_wp2_with fail
        go_roundw
        case rel => exact ⟨j + 1, _, _, by omega, by go_num, h1, h2, Lib.hid (HN.out HE.out)⟩
        case measure => simp [intOf]; omega
      · have e1 : (ee != 0) = true := by simp [e0]
        go_wp2_with fail
        refine q2.out.mono ?_
        rintro e w2 ⟨rfl, h1, h2⟩
        have h1 := Lib.hid h1
        have h2 := Lib.hid (hF.out.trans h2)
        clear q2
        go_wp2_with fail
        go_ret
        have ht := HT.out (by rw [HE.out]; exact e0)
        rw [ht, HE.out]
        exact ⟨rfl, h1.out, h2.out⟩
    · obtain rfl : j = n := by omega
      have HL := Lib.hid hS.out.last
      clear hS
      go_wp2_with fail
      go_ret
      rw [HL.out]
      exact ⟨rfl, hC.out, hF.out⟩

end Go.Proofs.Ytlickjaopbcanaa

namespace Go.Proofs.Ytlickjaopbcanaa
open Go Go.RowKit Bufs
variable {B cb go : Nat} {w w' : World} {v : Value} {K A : Heap.KL} {fr : Nat → List Value} {db most cap : Nat} {y : Lay} {Dv : Dev} {clock : Int} {L : PL} {E : List Nat}

/-- A buffer has just been made for block b: it is in no queue, and was not used yet. -/
structure CMid (B : Nat) (w : World) (cb db : Nat) (y : Lay) (Dv : Dev) (most : Nat) (clock : Int) (L : PL) (E : List Nat) (go : Nat) (v : Value) (K A : Heap.KL) (fr : Nat → List Value) (cap : Nat) (b id : Nat) (data : ByteArray) (d p : Bool) : Prop where
  raw : Raw B w cb go [ptr db, .int .i64 most, .int .i64 clock, .slice (some ⟨go, 0, none⟩) Dv.kept.length cap, .int .i64 ((L.length : Int) + 1)] v K ((id, 0) :: A) fr ((rowOf L Dv.kept.length).set b (ptr id)) (dblocks db y ++ E)
  cell : fr id = [.int .i64 b, .string data, .bool d, .bool p]
  dev : DevAt B w db y Dv
  inv : Inv Dv.kept.length most clock L
  q : QRel K L
  room : L.length < most
  out : A.Perm (pq L)
  cells : ∀ x ∈ L, fr x.id = bcell x
  most : 1 ≤ most ∧ most ≤ 256
  clock : 0 ≤ clock ∧ clock ≤ 1000000000000
  apart : ∀ k ∈ E, k ∉ dblocks db y
  nil : get L b = Option.none
  lt : b < Dv.kept.length
  new : ∀ x ∈ L, x.id ≠ id

variable {b id : Nat} {data : ByteArray} {d p0 : Bool}
theorem CMid.used (h : CMid B w cb db y Dv most clock L E go v K A fr cap b id data d p0) (p : Bool) (hc : clock < 1000000000000) {v' : Value} {K' A' : Heap.KL}
    (hr : Raw B w' cb go [ptr db, .int .i64 most, .int .i64 (clock + 1), .slice (some ⟨go, 0, none⟩) Dv.kept.length cap, .int .i64 ((L.length : Int) + 1)] v' K' A' (upd fr id ((fr id).set 3 (.bool p))) ((rowOf L Dv.kept.length).set b (ptr id)) (dblocks db y ++ E)) (hf : Fr B (dblocks db y ++ E) w w')
    (hq : QRel K' (L ++ [⟨b, data, d, p, clock + 1, id⟩])) (ha : A'.Perm (pq (L ++ [⟨b, data, d, p, clock + 1, id⟩]))) : CIn B w' cb db y Dv most (clock + 1) (L ++ [⟨b, data, d, p, clock + 1, id⟩]) E go v' K' A' (upd fr id ((fr id).set 3 (.bool p))) cap := by
  have hlen : ((L ++ [(⟨b, data, d, p, clock + 1, id⟩ : PB)]).length : Int) = (L.length : Int) + 1 := by simp
  have hrow := rowOf_new L ⟨b, data, d, p, clock + 1, id⟩ Dv.kept.length h.nil
  refine ⟨?_, h.dev.frame hf (fun k hk => List.mem_append.2 (.inl hk)), ?_, hq, ha, ?_, h.most, ⟨by have := h.clock; omega, by omega⟩, h.apart⟩
  · rw [hlen, hrow]
    exact hr
  · exact end_inv h.inv ⟨b, data, d, p, clock + 1, id⟩ (fun z hz => get_none h.nil z hz) (fun z hz => h.new z hz) (by show clock < clock + 1; omega) (by show 0 ≤ clock + 1; have := h.clock; omega) h.lt h.room
  · intro z hz
    rcases List.mem_append.1 hz with h1 | h1
    · rw [upd_ne _ _ (h.new z h1)]
      exact h.cells z h1
    · rw [List.mem_singleton.1 h1]
      show upd fr id _ id = _
      rw [upd_same, h.cell]
      rfl
theorem CMid.off (h : CMid B w cb db y Dv most clock L E go v K A fr cap b id data d p0) {S : List Nat} {w' : World} (hS : ∀ k ∈ S, k = go ∨ k ∈ ownOf cb v (K ++ (id, 0) :: A)) (ho : Only S w w') : Fr B (dblocks db y ++ E) w w' := h.raw.frame hS (fun _ hk => hk) ho
/-- use, of a buffer that was made. -/
theorem use_new (h : CMid B w cb db y Dv most clock L E go v K A fr cap b id data d p0) (p : Bool) (hc : clock < 1000000000000) :
    Calls Try.prog 46 #[.pointer (some ⟨cb, 0, none⟩), ptr id, .bool p] w fun e w' => e = .returned (.tuple #[]) ∧ CAt B w' cb db y Dv most (clock + 1) (L ++ [⟨b, data, d, p, clock + 1, id⟩]) E ∧ Fr B (dblocks db y ++ E) w w' := by
  have hc0 := h.clock
  have hid : ((id, 0) : Nat × Int) ∈ K ++ (id, 0) :: A := List.mem_append.2 (.inr List.mem_cons_self)
  cases p with
  | true =>
    refine (use_stay (id, 0) h.raw clock rfl ⟨hc0.1, hc⟩).mono ?_
    rintro e w' ⟨rfl, hr, ho⟩
    have hf : Fr B (dblocks db y ++ E) w w' := h.off (S := [cb, id]) (fun k hk => by
      rcases List.mem_cons.1 hk with rfl | hk
      · exact .inr List.mem_cons_self
      · rw [List.mem_singleton.1 hk]; exact .inr (own_id hid)) ho
    refine ⟨rfl, ⟨_, _, _, _, _, _, h.used true hc hr hf (q_new_pinned h.q _ rfl) ?_⟩, hf⟩
    rw [pq_snoc, if_pos (by rfl)]
    exact (h.out.cons _).trans (List.perm_append_singleton _ _).symm
  | false =>
    have hkl : K.length < 256 := by
      have h1 := h.q.perm.length_eq
      have h2 : (qs L).length ≤ L.length := by unfold qs Bufs.free; rw [List.length_map]; exact List.length_filter_le _ _
      have := h.room
      have := h.most
      omega
    refine (use_put (id, 0) h.raw h.q.heap hkl clock rfl ⟨hc0.1, hc⟩).mono ?_
    rintro e w' ⟨rfl, v', K', hperm, hh, hr, ho⟩
    have hf := h.off (S := ownOf cb v (K ++ [(id, 0)])) (fun k hk => .inr (by
      rcases List.mem_cons.1 hk with rfl | hk
      · exact List.mem_cons_self
      · rcases List.mem_append.1 hk with hk | hk
        · exact List.mem_cons_of_mem _ (List.mem_append.2 (.inl hk))
        · obtain ⟨z, hz, rfl⟩ := mem_ids.1 hk
          rcases List.mem_append.1 hz with hz | hz
          · exact own_id (List.mem_append.2 (.inl hz))
          · rw [List.mem_singleton.1 hz]; exact own_id hid)) ho
    refine ⟨rfl, ⟨_, _, _, _, _, _, h.used false hc hr hf (q_new h.q ⟨b, data, d, false, clock + 1, id⟩ rfl hperm hh) ?_⟩, hf⟩
    rw [pq_snoc, if_neg (by simp)]
    exact h.out

end Go.Proofs.Ytlickjaopbcanaa

namespace Go.Proofs.Ytlickjaopbcanaa
open Go Go.RowKit Bufs
variable {B cb : Nat} {w w' : World} {db most : Nat} {y : Lay} {Dv : Dev} {clock : Int} {L : PL} {E : List Nat}

/-- take, of a block that has a buffer. -/
theorem take_old (h : CAt B w cb db y Dv most clock L E) (b : Nat) (hb : b < Dv.kept.length) {x : PB} (hx : get L b = some x) (fv : Value) :
    Calls Try.prog 45 #[.pointer (some ⟨cb, 0, none⟩), .int .i64 b, fv] w fun e w' => e = .returned (.tuple #[ptr x.id, .int .i64 0]) ∧ w = w' := by
  obtain ⟨go, v, K, A, fr, cap, h⟩ := h
  have c3 := h.c3
  have hcell : cellOf L b = ptr x.id := by unfold cellOf; rw [hx]
  have cg := h.raw.of.cellAt b (rowOf_at L Dv.kept.length b hb)
  rw [hcell] at cg
  have b0 : ¬ (b : Int) < 0 := by omega
  have b1 : (b : Int) < (Dv.kept.length : Int) := by omega
  clear h hcell hx
  generalize Dv.kept.length = n at *
  unfold ptr at *
  go_enter Try.func45, Try.ntmps45
  go_wp2_with fail
  exact bodyPost_ret (v := .tuple #[.pointer (some ⟨x.id, 0, none⟩), .int .i64 0]) (by simp [results, Try.results45, go_sem]) rfl ⟨rfl, rfl⟩

theorem CAt.nil_at (h : CAt B w cb db y Dv most clock L E) (b : Nat) (hb : b < Dv.kept.length) (hx : get L b = none) : ∃ go cap, w.cell? ⟨cb, 3, none⟩ = some (.slice (some ⟨go, 0, none⟩) Dv.kept.length cap) ∧ w.cell? ⟨go, b, none⟩ = some (.pointer none) := by
  obtain ⟨go, v, K, A, fr, cap, h⟩ := h
  have hcell : cellOf L b = .pointer none := by unfold cellOf; rw [hx]
  have cg := h.raw.of.cellAt b (rowOf_at L Dv.kept.length b hb)
  rw [hcell] at cg
  exact ⟨go, cap, h.c3, cg⟩
/-- take, of a block that has none, when there is no room. -/
theorem take_full (h : CAt B w cb db y Dv most clock L E) (hd : ∀ x ∈ L, x.data.size ≤ 9223372036854775807) (ha : Dv.acts < 1000000000000) (b : Nat) (hb : b < Dv.kept.length) (hx : get L b = none) (hr : (roomOf Dv L most).1 ≠ 0) (fv : Value) :
    Calls Try.prog 45 #[.pointer (some ⟨cb, 0, none⟩), .int .i64 b, fv] w fun e w' => e = .returned (.tuple #[.pointer none, .int .i64 (roomOf Dv L most).1]) ∧ CAt B w' cb db y (roomOf Dv L most).2.1 most clock (roomOf Dv L most).2.2 E ∧ Fr B E w w' := by
  obtain ⟨go, cap, c3, cg⟩ := h.nil_at b hb hx
  have q := Lib.hid (room_any h hd ha)
  have b0 : ¬ (b : Int) < 0 := by omega
  have b1 : (b : Int) < (Dv.kept.length : Int) := by omega
  clear h hx hd
  generalize Dv.kept.length = n at *
  generalize (roomOf Dv L most).1 = ee at *
  have hee : (ee != 0) = true := by simp [hr]
  go_enter Try.func45, Try.ntmps45
  go_wp2_with fail
  refine q.out.mono ?_
  rintro e w2 ⟨rfl, h1, h2⟩
  have HE := Lib.hid (And.intro h1 h2)
  clear h1 h2 q
  go_wp2_with fail
  exact bodyPost_ret (v := .tuple #[.pointer none, .int .i64 ee]) (by simp [results, Try.results45, go_sem]) rfl ⟨rfl, HE.out⟩

theorem find_first {L : PL} {p : PB → Bool} {x : PB} (h : L.find? p = some x) : x ∈ L := List.mem_of_find?_eq_some h
theorem room_ok {n : Nat} (hI : Inv n most clock L) (hr : (roomOf Dv L most).1 = 0) : (roomOf Dv L most).2.2.length < most ∧ ∀ b, get L b = none → get (roomOf Dv L most).2.2 b = none := by
  unfold roomOf at hr ⊢
  by_cases hl : L.length < most
  · rw [if_pos hl]
    exact ⟨hl, fun b h => h⟩
  · rw [if_neg hl] at hr ⊢
    cases hf : L.find? (fun x => !x.pinned) with
    | none => rw [hf] at hr; dsimp only at hr; omega
    | some x =>
      rw [hf] at hr
      dsimp only at hr ⊢
      by_cases he : outE Dv x = 0
      · rw [if_pos he]
        have h1 := but_len hI (find_first hf)
        have h2 := hI.len
        refine ⟨by show (but L x.b).length < most; omega, fun b h => ?_⟩
        show get (but L x.b) b = none
        rw [get_but]
        split
        · rfl
        · exact h
      · rw [if_neg he] at hr
        exact absurd hr he
theorem outD_len (Dv : Dev) (x : PB) : (outD Dv x).kept.length = Dv.kept.length := by
  unfold outD
  split
  · exact Dev.write_len _ _ _
  · rfl
theorem room_len (Dv : Dev) (L : PL) (most : Nat) : (roomOf Dv L most).2.1.kept.length = Dv.kept.length := by
  unfold roomOf
  split
  · rfl
  · split
    · rfl
    · split
      · exact outD_len _ _
      · exact outD_len _ _
/-- A buffer is made. -/
theorem CIn.make {go cap : Nat} {v : Value} {K A : Heap.KL} {fr : Nat → List Value} (h : CIn B w cb db y Dv most clock L E go v K A fr cap) {b : Nat} (hb : b < Dv.kept.length) (hx : get L b = none) (hl : L.length < most) (s : ByteArray) :
    CMid B (((w.alloc (.cells #[.int .i64 b, .string s, .bool false, .bool false, .int .i64 0, .int .i64 (-1)] 88)).setCell ⟨go, b, none⟩ (ptr w.heap.size)).setCell ⟨cb, 4, none⟩ (.int .i64 ((L.length : Int) + 1))) cb db y Dv most clock L E go v K A (upd fr w.heap.size [.int .i64 b, .string s, .bool false, .bool false]) cap b w.heap.size s false false ∧
    Fr B (dblocks db y ++ E) w (((w.alloc (.cells #[.int .i64 b, .string s, .bool false, .bool false, .int .i64 0, .int .i64 (-1)] 88)).setCell ⟨go, b, none⟩ (ptr w.heap.size)).setCell ⟨cb, 4, none⟩ (.int .i64 ((L.length : Int) + 1))) := by
  have r := ((h.raw.new [.int .i64 b, .string s, .bool false, .bool false] rfl).at_of b (ptr w.heap.size)).fives (k := 4) (by omega) (.int .i64 ((L.length : Int) + 1))
  have f1 : Fr B (dblocks db y ++ E) w (w.alloc (.cells #[.int .i64 b, .string s, .bool false, .bool false, .int .i64 0, .int .i64 (-1)] 88)) := (Only.ofBelow (S := []) ((Below.refl _ _).alloc (Nat.le_refl _) _)).frame (fun k hk => by cases hk) (fun k _ hk => by cases hk)
  have f2 := h.off (w' := (w.setCell ⟨go, b, none⟩ (ptr w.heap.size)).setCell ⟨cb, 4, none⟩ (.int .i64 ((L.length : Int) + 1))) (S := [cb, go]) (fun k hk => by
      rcases List.mem_cons.1 hk with rfl | hk
      · exact .inr List.mem_cons_self
      · exact .inl (List.mem_singleton.1 hk)) ((Only.setCell w ⟨go, b, none⟩ _ (by simp)).trans (Only.setCell _ ⟨cb, 4, none⟩ _ (by simp)))
  have f3 : Fr B (dblocks db y ++ E) w (((w.alloc (.cells #[.int .i64 b, .string s, .bool false, .bool false, .int .i64 0, .int .i64 (-1)] 88)).setCell ⟨go, b, none⟩ (ptr w.heap.size)).setCell ⟨cb, 4, none⟩ (.int .i64 ((L.length : Int) + 1))) := by
    have hh := h.raw.new [.int .i64 b, .string s, .bool false, .bool false] rfl
    refine f1.trans (hh.frame (S := [cb, go]) (fun k hk => ?_) (fun _ hk => hk) ((Only.setCell _ ⟨go, b, none⟩ _ (by simp)).trans (Only.setCell _ ⟨cb, 4, none⟩ _ (by simp))))
    rcases List.mem_cons.1 hk with rfl | hk
    · exact .inr List.mem_cons_self
    · exact .inl (List.mem_singleton.1 hk)
  have hlt : ∀ x ∈ L, x.id < w.heap.size := fun x hx => by obtain ⟨a, r, _⟩ := h.raw.buffer (h.has hx); exact r.lt
  refine ⟨⟨r, upd_same _ _ _, h.dev.frame f3 (fun k hk => List.mem_append.2 (.inl hk)), h.inv, h.q, hl, h.out, fun x hx => ?_, h.most, h.clock, h.apart, hx, hb, fun x hx e => ?_⟩, f3⟩
  · rw [upd_ne _ _ (by have := hlt x hx; omega)]
    exact h.cells x hx
  · have := hlt x hx; omega

set_option maxRecDepth 100000 in
set_option maxHeartbeats 4000000 in
/-- take, of a block that has none, when there is room. -/
theorem take_new (h : CAt B w cb db y Dv most clock L E) (hd : ∀ x ∈ L, x.data.size ≤ 9223372036854775807) (ha : Dv.acts < 1000000000000) (b : Nat) (hb : b < Dv.kept.length) (hx : get L b = none) (hr : (roomOf Dv L most).1 = 0)
    (F : Nat) (first : List Value) (hK : (F = 28 ∧ first = [ptr db]) ∨ (F = 52 ∧ first = [])) (s : Dev → ByteArray)
    (hc : ∀ w1 D1, DevAt B w1 db y D1 → D1.kept.length = Dv.kept.length → Calls Try.prog F (first.toArray ++ #[.int .i64 b]) w1 fun e w2 => e = .returned (.tuple #[.string (s D1), .int .i64 0]) ∧ w1 = w2) :
    Calls Try.prog 45 #[.pointer (some ⟨cb, 0, none⟩), .int .i64 b, .func (.func F) first.toArray #[]] w fun e w' => ∃ id, e = .returned (.tuple #[ptr id, .int .i64 0]) ∧ (∃ go v K A fr cap, CMid B w' cb db y (roomOf Dv L most).2.1 most clock (roomOf Dv L most).2.2 E go v K A fr cap b id (s (roomOf Dv L most).2.1) false false) ∧ Fr B E w w' := by
  obtain ⟨go, cap, c3, cg⟩ := h.nil_at b hb hx
  have q := room_any h hd ha
  rw [hr] at q
  have q := Lib.hid q
  have b0 : ¬ (b : Int) < 0 := by omega
  have b1 : (b : Int) < (Dv.kept.length : Int) := by omega
  have b2 : b < Dv.kept.length := hb
  have hlen := room_len Dv L most
  have HR := Lib.hid (show (roomOf Dv L most).2.2.length < most ∧ get (roomOf Dv L most).2.2 b = none by
    obtain ⟨_, _, _, _, _, _, h⟩ := h
    have := room_ok h.inv hr
    exact ⟨this.1, this.2 b hx⟩)
  clear h hx hd hr hb
  generalize Dv.kept.length = n at *
  generalize (roomOf Dv L most).2.1 = D1 at *
  generalize (roomOf Dv L most).2.2 = L1 at *
  have HC := Lib.hid hc
  have HL := Lib.hid hlen
  clear hc hlen
  have main : ∀ w2, CAt B w2 cb db y D1 most clock L1 E → ∃ go cap, w2.cell? ⟨cb, 3, none⟩ = some (.slice (some ⟨go, 0, none⟩) n cap) ∧ (w2.frozen? ⟨go, b, none⟩ = false) ∧ (∃ u, w2.cell? ⟨go, b, none⟩ = some u) ∧ w2.cell? ⟨cb, 4, none⟩ = some (.int .i64 L1.length) ∧ w2.frozen? ⟨cb, 4, none⟩ = false ∧ go < w2.heap.size ∧ cb < w2.heap.size ∧ go ≠ cb ∧ Hid (DevAt B w2 db y D1) ∧ (L1.length ≤ 256) ∧
      Hid ((∃ gg v K A fr cc, CMid B (((w2.setCell ⟨go, b, none⟩ (.pointer (some ⟨w2.heap.size, 0, none⟩))).setCell ⟨cb, 4, none⟩ (.int .i64 ((L1.length : Int) + 1))).alloc (.cells #[.int .i64 b, .string (s D1), .bool false, .bool false, .int .i64 0, .int .i64 (-1)] 88)) cb db y D1 most clock L1 E gg v K A fr cc b w2.heap.size (s D1) false false) ∧ Fr B E w2 (((w2.setCell ⟨go, b, none⟩ (.pointer (some ⟨w2.heap.size, 0, none⟩))).setCell ⟨cb, 4, none⟩ (.int .i64 ((L1.length : Int) + 1))).alloc (.cells #[.int .i64 b, .string (s D1), .bool false, .bool false, .int .i64 0, .int .i64 (-1)] 88))) := by
    intro w2 h2
    obtain ⟨go, v, K, A, fr, cap, h2⟩ := h2
    have hP : b < (rowOf L1 D1.kept.length).length := by rw [rowOf_len, HL.out]; exact b2
    have hm := h2.make (b := b) (by rw [HL.out]; exact b2) HR.out.2 HR.out.1 (s D1)
    rw [World.setCell_alloc_past (hn := h2.raw.of.lt), World.setCell_alloc_past (hn := by simpa using h2.raw.q.cells.lt)] at hm
    have hlt : L1.length ≤ 256 := by have := h2.most; have := HR.out.1; omega
    refine ⟨go, cap, by rw [← HL.out]; exact h2.c3, h2.raw.of.free b hP, Row.has h2.raw.of hP, (h2.raw.cellF (k := 4) rfl).1, (h2.raw.cellF (k := 4) rfl).2, h2.raw.of.lt, h2.raw.q.cells.lt, h2.raw.gocb, Lib.hid h2.dev, hlt, Lib.hid ⟨⟨_, _, _, _, _, _, hm.1⟩, ?_⟩⟩
    exact ⟨hm.2.os, hm.2.tape, hm.2.output, hm.2.size, fun k hk hs => hm.2.block k hk (hs.elim .inl (fun h5 => .inr (List.mem_append.2 (.inr h5))))⟩
  have MAIN := Lib.hid main
  clear main HR
  rcases hK with ⟨rfl, rfl⟩ | ⟨rfl, rfl⟩
  all_goals
    unfold ptr at *
    go_enter Try.func45, Try.ntmps45
    go_wp2_with fail
    refine q.out.mono ?_
    rintro e w2 ⟨rfl, h1, h2⟩
    obtain ⟨go2, cap2, d3, dz, ⟨u, dg⟩, d4, dz4, hgl, hcl, hgc, HD, hl5, HE⟩ := MAIN.out w2 h1
    have H2 := Lib.hid h2
    have hq := Lib.hid (HC.out w2 D1 HD.out HL.out)
    clear h1 h2 q c3 cg
    go_wp2_with fail
    refine hq.out.mono ?_
    rintro e w3 ⟨rfl, rfl⟩
    clear hq
    go_wp2_with fail
    exact bodyPost_ret (v := .tuple #[.pointer (some ⟨w2.heap.size, 0, none⟩), .int .i64 0]) (by simp [results, Try.results45, go_sem]) rfl ⟨_, rfl, HE.out.1, H2.out.trans HE.out.2⟩

end Go.Proofs.Ytlickjaopbcanaa

namespace Go.Proofs.Ytlickjaopbcanaa
open Go Go.RowKit Bufs
variable {B cb : Nat} {w w' : World} {db most : Nat} {y : Lay} {Dv : Dev} {clock : Int} {L : PL} {E : List Nat}

theorem CAt.bcell (h : CAt B w cb db y Dv most clock L E) {x : PB} (hx : x ∈ L) : ∀ k u, (bcell x)[k]? = some u → w.cell? ⟨x.id, k, none⟩ = some u ∧ w.frozen? ⟨x.id, k, none⟩ = false := by
  obtain ⟨go, v, K, A, fr, cap, h⟩ := h
  intro k u hu
  exact h.raw.cellB (h.has hx) (by show (fr x.id)[k]? = some u; rw [h.cells x hx]; exact hu)
theorem CAt.ask (h : CAt B w cb db y Dv most clock L E) (b : Int) : Calls Try.prog 44 #[.pointer (some ⟨cb, 0, none⟩), .int .i64 b] w fun e w' => e = .returned (.int .i64 (askOf Dv.kept.length b)) ∧ w = w' := by
  obtain ⟨go, v, K, A, fr, cap, h⟩ := h
  exact ask_raw (go := go) db Dv.kept.length cap w h.c0 h.c3 b
theorem CAt.c0 (h : CAt B w cb db y Dv most clock L E) : w.cell? ⟨cb, 0, none⟩ = some (ptr db) := by
  obtain ⟨go, v, K, A, fr, cap, h⟩ := h
  exact h.c0
theorem Fr.weak {w w' : World} {E : List Nat} (y : Lay) (db : Nat) (h : Fr B (dblocks db y ++ E) w w') : Fr B E w w' := ⟨h.os, h.tape, h.output, h.size, fun k hk hs => h.block k hk (hs.elim .inl (fun h5 => .inr (List.mem_append.2 (.inr h5))))⟩
theorem CAt.drewN (h : CAt B w cb db y Dv most clock L E) (m : Nat) : CAt B (w.drewN m) cb db y Dv most clock L E := by
  obtain ⟨go, v, K, A, fr, cap, h⟩ := h
  exact ⟨_, _, _, _, _, _, h.raw.drewN m, h.dev.frame (B' := B) (E' := dblocks db y) ⟨rfl, rfl, rfl, Nat.le_refl _, fun _ _ _ => rfl⟩ (fun _ hk => hk), h.inv, h.q, h.out, h.cells, h.most, h.clock, h.apart⟩
theorem Fr.drewN' (B : Nat) (E : List Nat) (w : World) (m : Nat) : Fr B E w (w.drewN m) := ⟨rfl, rfl, rfl, Nat.le_refl _, fun _ _ _ => rfl⟩
theorem CAt.drew' (h : CAt B w cb db y Dv most clock L E) : CAt B w.drew cb db y Dv most clock L E := h.drewN 1
theorem CMid.drew' {go cap b id : Nat} {v : Value} {K A : Heap.KL} {fr : Nat → List Value} {data : ByteArray} {d p : Bool} (h : CMid B w cb db y Dv most clock L E go v K A fr cap b id data d p) : CMid B w.drew cb db y Dv most clock L E go v K A fr cap b id data d p :=
  ⟨h.raw.drew, h.cell, h.dev.frame (B' := B) (E' := dblocks db y) ⟨rfl, rfl, rfl, Nat.le_refl _, fun _ _ _ => rfl⟩ (fun _ hk => hk), h.inv, h.q, h.room, h.out, h.cells, h.most, h.clock, h.apart, h.nil, h.lt, h.new⟩

set_option maxRecDepth 100000 in
theorem get_no (h : CAt B w cb db y Dv most clock L E) (b : Int) (hb : ¬ (0 ≤ b ∧ b < Dv.kept.length)) :
    Calls Try.prog 11 #[.pointer (some ⟨cb, 0, none⟩), .int .i64 b] w fun e w' => e = .returned (.tuple #[.string ⟨#[]⟩, .int .i64 60]) ∧ w = w' := by
  have q := h.ask b
  have e : askOf Dv.kept.length b = 60 := if_neg hb
  rw [e] at q
  have q := Lib.hid q
  clear h e hb
  go_enter Try.func11, Try.ntmps11
  go_wp2_with fail
  refine q.out.mono ?_
  rintro e w2 ⟨rfl, rfl⟩
  go_wp2_with fail
  exact bodyPost_ret (v := .tuple #[.string ⟨#[]⟩, .int .i64 60]) (by simp [results, Try.results11, go_sem]) rfl ⟨rfl, rfl⟩
set_option maxRecDepth 100000 in
set_option maxHeartbeats 4000000 in
theorem get_old (h : CAt B w cb db y Dv most clock L E) (b : Nat) (hb : b < Dv.kept.length) {x : PB} (hx : get L b = some x) (hc : clock < 1000000000000) :
    Calls Try.prog 11 #[.pointer (some ⟨cb, 0, none⟩), .int .i64 b] w fun e w' => e = .returned (.tuple #[.string x.data, .int .i64 0]) ∧ CAt B w' cb db y Dv most (clock + 1) (but L b ++ [now x (clock + 1) x.pinned]) E ∧ Fr B E w w' := by
  have q := h.ask b
  have e : askOf Dv.kept.length b = 0 := if_pos (by omega)
  rw [e] at q
  have q := Lib.hid q
  have qt := fun fv => Lib.hid (take_old h b hb hx fv)
  have c0 := h.c0
  obtain ⟨hxL, hxb⟩ := get_some hx
  have c1 := (h.bcell hxL 3 _ rfl).1
  have hu := (by
    obtain ⟨go, v, K, A, fr, cap, h⟩ := h
    exact Lib.hid (use_old h hxL x.pinned (fun e => e) hc) : Hid (Calls Try.prog 46 #[.pointer (some ⟨cb, 0, none⟩), ptr x.id, .bool x.pinned] w fun e w' => e = .returned (.tuple #[]) ∧ CAt B w' cb db y Dv most (clock + 1) (but L x.b ++ [now x (clock + 1) x.pinned]) E ∧ Fr B (dblocks db y ++ E) w w'))
  rw [hxb] at hu
  have HD : Hid (∀ w2, CAt B w2 cb db y Dv most (clock + 1) (but L b ++ [now x (clock + 1) x.pinned]) E → w2.cell? ⟨x.id, 1, none⟩ = some (.string x.data)) := Lib.hid (fun w2 h2 => (h2.bcell (x := now x (clock + 1) x.pinned) (by simp) 1 _ rfl).1)
  clear h hb hx hxL hxb e hc
  unfold ptr at *
  go_enter Try.func11, Try.ntmps11
  go_wp2_with fail
  refine q.out.mono ?_
  rintro e w2 ⟨rfl, rfl⟩
  clear q
  go_wp2_with fail
  refine (qt _).out.mono ?_
  rintro e w2 ⟨rfl, rfl⟩
  clear qt
  go_wp2_with fail
  refine hu.out.mono ?_
  rintro e w3 ⟨rfl, h1, h2⟩
  have d1 := HD.out w3 h1
  have HE := Lib.hid (And.intro h1 (h2.weak y db))
  clear h1 h2 hu HD
  go_wp2_with fail
  exact bodyPost_ret (v := .tuple #[.string x.data, .int .i64 0]) (by simp [results, Try.results11, go_sem]) rfl ⟨rfl, HE.out⟩
set_option maxRecDepth 100000 in
set_option maxHeartbeats 4000000 in
theorem get_full (h : CAt B w cb db y Dv most clock L E) (hd : ∀ x ∈ L, x.data.size ≤ 9223372036854775807) (ha : Dv.acts < 1000000000000) (b : Nat) (hb : b < Dv.kept.length) (hx : get L b = none) (hr : (roomOf Dv L most).1 ≠ 0) :
    Calls Try.prog 11 #[.pointer (some ⟨cb, 0, none⟩), .int .i64 b] w fun e w' => e = .returned (.tuple #[.string ⟨#[]⟩, .int .i64 (roomOf Dv L most).1]) ∧ CAt B w' cb db y (roomOf Dv L most).2.1 most clock (roomOf Dv L most).2.2 E ∧ Fr B E w w' := by
  have q := h.ask b
  have e : askOf Dv.kept.length b = 0 := if_pos (by omega)
  rw [e] at q
  have q := Lib.hid q
  have qt := fun fv => Lib.hid (take_full h hd ha b hb hx hr fv)
  have c0 := h.c0
  have hr2 : ((roomOf Dv L most).1 != 0) = true := by simp [hr]
  clear h hb hx e hd
  generalize (roomOf Dv L most).1 = ee at *
  unfold ptr at *
  go_enter Try.func11, Try.ntmps11
  go_wp2_with fail
  refine q.out.mono ?_
  rintro e w2 ⟨rfl, rfl⟩
  clear q
  go_wp2_with fail
  refine (qt _).out.mono ?_
  rintro e w2 ⟨rfl, h1, h2⟩
  have HE := Lib.hid (And.intro h1 h2)
  clear qt h1 h2
  go_wp2_with fail
  exact bodyPost_ret (v := .tuple #[.string ⟨#[]⟩, .int .i64 ee]) (by simp [results, Try.results11, go_sem]) rfl ⟨rfl, HE.out⟩
theorem DevAt.ask0 (_h : DevAt B w db y Dv) (b : Nat) (hb : b < Dv.kept.length) : Dv.ask b = 0 := if_neg (by omega)
set_option maxRecDepth 100000 in
set_option maxHeartbeats 4000000 in
theorem get_new (h : CAt B w cb db y Dv most clock L E) (hd : ∀ x ∈ L, x.data.size ≤ 9223372036854775807) (ha : Dv.acts < 1000000000000) (b : Nat) (hb : b < Dv.kept.length) (hx : get L b = none) (hr : (roomOf Dv L most).1 = 0) (hc : clock < 1000000000000) :
    Calls Try.prog 11 #[.pointer (some ⟨cb, 0, none⟩), .int .i64 b] w fun e w' => e = .returned (.tuple #[.string ((roomOf Dv L most).2.1.readS b), .int .i64 0]) ∧ (∃ id, CAt B w' cb db y (roomOf Dv L most).2.1 most (clock + 1) ((roomOf Dv L most).2.2 ++ [⟨b, (roomOf Dv L most).2.1.readS b, false, false, clock + 1, id⟩]) E) ∧ Fr B E w w' := by
  have q := h.ask b
  have e : askOf Dv.kept.length b = 0 := if_pos (by omega)
  rw [e] at q
  have q := Lib.hid q
  have qt0 := (take_new h hd ha b hb hx hr 28 [ptr db] (.inl ⟨rfl, rfl⟩) (fun D => D.readS b) (fun w1 D1 h1 hl => (read_any h1 b).mono (by
    rintro e w2 ⟨rfl, rfl⟩
    rw [h1.ask0 b (by rw [hl]; exact hb)]
    exact ⟨rfl, rfl⟩)))
  have c0 := h.c0
  clear h hb hx e hd hr
  have qt := Lib.hid qt0
  clear qt0
  generalize (roomOf Dv L most).2.2 = L1 at *
  generalize (roomOf Dv L most).2.1 = D1 at *
  generalize D1.readS b = s at *
  unfold ptr at *
  go_enter Try.func11, Try.ntmps11
  go_wp2_with fail
  refine q.out.mono ?_
  rintro e w2 ⟨rfl, rfl⟩
  clear q
  go_wp2_with fail
  refine qt.out.mono ?_
  rintro e w2 ⟨id, rfl, ⟨go, v, K, A, fr, cap, h1⟩, h2⟩
  have c3 := (h1.raw.cellB (x := (id, 0)) (k := 3) (u := .bool false) (List.mem_append.2 (.inr List.mem_cons_self)) (by show (fr id)[3]? = _; rw [h1.cell]; rfl)).1
  have hu := Lib.hid (use_new h1 false hc)
  have H2 := Lib.hid h2
  clear qt h2 h1
  unfold ptr at hu
  go_wp2_with fail
  refine hu.out.mono ?_
  rintro e w3 ⟨rfl, h3, h4⟩
  have d1 := (h3.bcell (x := ⟨b, s, false, false, clock + 1, id⟩) (by simp) 1 _ rfl).1
  have HE := Lib.hid (And.intro (show ∃ id, CAt B w3 cb db y D1 most (clock + 1) (L1 ++ [⟨b, s, false, false, clock + 1, id⟩]) E from ⟨id, h3⟩) (H2.out.trans (h4.weak y db)))
  clear h3 h4 hu H2
  dsimp only at d1
  go_wp2_with fail
  exact bodyPost_ret (v := .tuple #[.string s, .int .i64 0]) (by simp [results, Try.results11, go_sem]) rfl ⟨rfl, HE.out⟩

end Go.Proofs.Ytlickjaopbcanaa

namespace Go.Proofs.Ytlickjaopbcanaa
open Go Go.RowKit Bufs
variable {B cb : Nat} {w w' : World} {db most : Nat} {y : Lay} {Dv : Dev} {clock : Int} {L : PL} {E : List Nat}

/-- The buffer that is to be written, as it stands. -/
structure Here (w : World) (id : Nat) (p0 : Bool) : Prop where
  c1 : ∃ u, w.cell? ⟨id, 1, none⟩ = some u
  c2 : ∃ u, w.cell? ⟨id, 2, none⟩ = some u
  z1 : w.frozen? ⟨id, 1, none⟩ = false
  z2 : w.frozen? ⟨id, 2, none⟩ = false
  c3 : w.cell? ⟨id, 3, none⟩ = some (.bool p0)
  lt : id < w.heap.size
def PutTo (w w2 : World) (id : Nat) (data : ByteArray) : Prop := ∃ w1, Below w.heap.size w w1 ∧ w2 = (w1.setCell ⟨id, 1, none⟩ (.string data)).setCell ⟨id, 2, none⟩ (.bool true)
set_option maxRecDepth 100000 in
set_option maxHeartbeats 4000000 in
theorem put_gen (b : Nat) (data : ByteArray) (pin : Bool) (hs : data.size = 128) (q : Hid (Calls Try.prog 44 #[.pointer (some ⟨cb, 0, none⟩), .int .i64 b] w fun e w' => e = .returned (.int .i64 0) ∧ w = w')) (T : World → Nat → Bool → Prop) (Q : World → Prop)
    (ht : Hid (Calls Try.prog 45 #[.pointer (some ⟨cb, 0, none⟩), .int .i64 b, .func (.func 52) #[] #[]] w fun e w' => ∃ id p0, e = .returned (.tuple #[.pointer (some ⟨id, 0, none⟩), .int .i64 0]) ∧ T w' id p0))
    (hT : Hid (∀ w' id p0, T w' id p0 → Here w' id p0)) (hU : Hid (∀ w' id p0, T w' id p0 → ∀ w2, PutTo w' w2 id data → Calls Try.prog 46 #[.pointer (some ⟨cb, 0, none⟩), .pointer (some ⟨id, 0, none⟩), .bool (pin || p0)] w2 fun e w3 => e = .returned (.tuple #[]) ∧ Q w3)) :
    Calls Try.prog 20 #[.pointer (some ⟨cb, 0, none⟩), .int .i64 b, .string data, .bool pin] w fun e w' => e = .returned (.int .i64 0) ∧ Q w' := by
  have hcl := Lib.hid (fun w => clone_any data w (by omega))
  have hs2 : (data.size : Int) = 128 := by omega
  have hs3 : ((data.size : Int) != 128) = false := by simp [hs2]
  clear hs hs2
  cases pin
  all_goals
    go_enter Try.func20, Try.ntmps20
    go_wp2_with fail
    refine q.out.mono ?_
    rintro e w2 ⟨rfl, rfl⟩
    clear q
    go_wp2_with fail
    refine ht.out.mono ?_
    rintro e w2 ⟨id, p0, rfl, h1⟩
    clear ht
    obtain ⟨⟨u1, c1⟩, ⟨u2, c2⟩, z1, z2, c3, hl⟩ := hT.out w2 id p0 h1
    have HU := Lib.hid (hU.out w2 id p0 h1)
    clear hU hT h1
    go_wp2_with fail
    refine (hcl.out _).mono ?_
    rintro e w1 ⟨rfl, hb1⟩
    have k1 := (hb1.cell (p := ⟨id, 1, none⟩) hl).trans c1; have k2 := (hb1.cell (p := ⟨id, 2, none⟩) hl).trans c2; have k3 := (hb1.frozen (p := ⟨id, 1, none⟩) hl).trans z1; have k4 := (hb1.frozen (p := ⟨id, 2, none⟩) hl).trans z2; have k5 := (hb1.cell (p := ⟨id, 3, none⟩) hl).trans c3
    have hu := Lib.hid (HU.out _ ⟨w1, hb1, rfl⟩)
    clear HU hb1 hcl
    simp only [Bool.true_or, Bool.false_or] at hu
    go_wp2_with fail
    refine hu.out.mono ?_
    rintro e w3 ⟨rfl, h3⟩
    have HE := Lib.hid h3
    clear h3 hu
    go_wp2_with fail
    go_ret
    exact ⟨rfl, HE.out⟩

/-- A buffer's new content. -/
def wrote (data : ByteArray) (x : PB) : PB := { x with data := data, dirty := true }
theorem CIn.wrote {go cap : Nat} {v : Value} {K A : Heap.KL} {fr : Nat → List Value} (h : CIn B w cb db y Dv most clock L E go v K A fr cap) {x : PB} (hx : x ∈ L) {data : ByteArray} (hp : PutTo w w' x.id data) : (∃ fr', CIn B w' cb db y Dv most clock (turn L x.b (Go.Proofs.Ytlickjaopbcanaa.wrote data)) E go v K A fr' cap) ∧ Fr B (dblocks db y ++ E) w w' := by
  obtain ⟨w1, hb1, rfl⟩ := hp
  have hs : Same (Go.Proofs.Ytlickjaopbcanaa.wrote data) := ⟨fun _ => rfl, fun _ => rfl, fun _ => rfl⟩
  have hm := h.has hx
  have r1 := h.raw.other (S := []) (Only.ofBelow hb1) (fun k hk => by cases hk)
  have r2 := (r1.cell hm (k := 1) (by omega) (.string data)).cell hm (k := 2) (by omega) (.bool true)
  have f1 : Fr B (dblocks db y ++ E) w w1 := (Only.ofBelow (S := []) hb1).frame (fun k hk => by cases hk) (fun k _ hk => by cases hk)
  have f2 : Fr B (dblocks db y ++ E) w ((w1.setCell ⟨x.id, 1, none⟩ (.string data)).setCell ⟨x.id, 2, none⟩ (.bool true)) :=
    f1.trans (r1.frame (S := [x.id]) (fun k hk => by rw [List.mem_singleton.1 hk]; exact .inr (own_id hm)) (fun _ hk => hk) ((Only.setCell w1 ⟨x.id, 1, none⟩ _ (by simp)).trans (Only.setCell _ ⟨x.id, 2, none⟩ _ (by simp))))
  have e1 := pq_but h.inv hx
  have e2 := pq_turn h.inv hx (Go.Proofs.Ytlickjaopbcanaa.wrote data)
  refine ⟨⟨_, h.turned hx hs rfl r2 (h.dev.frame f2 (fun k hk => List.mem_append.2 (.inl hk))) ?_ (fun k hk => by rw [upd_ne _ _ hk, upd_ne _ _ hk]) (q_turn h.inv h.q hx hs rfl) ((h.out.trans e1).trans e2.symm)⟩, f2⟩
  rw [upd_same, upd_same, h.cells x hx]
  rfl
theorem CMid.wrote {go cap b id : Nat} {v : Value} {K A : Heap.KL} {fr : Nat → List Value} {data0 data : ByteArray} {d p : Bool} (h : CMid B w cb db y Dv most clock L E go v K A fr cap b id data0 d p) (hp : PutTo w w' id data) : (∃ fr', CMid B w' cb db y Dv most clock L E go v K A fr' cap b id data true p) ∧ Fr B (dblocks db y ++ E) w w' := by
  obtain ⟨w1, hb1, rfl⟩ := hp
  have hm : ((id, 0) : Nat × Int) ∈ K ++ (id, 0) :: A := List.mem_append.2 (.inr List.mem_cons_self)
  have r1 := h.raw.other (S := []) (Only.ofBelow hb1) (fun k hk => by cases hk)
  have r2 := (r1.cell hm (k := 1) (by omega) (.string data)).cell hm (k := 2) (by omega) (.bool true)
  have f1 : Fr B (dblocks db y ++ E) w w1 := (Only.ofBelow (S := []) hb1).frame (fun k hk => by cases hk) (fun k _ hk => by cases hk)
  have f2 : Fr B (dblocks db y ++ E) w ((w1.setCell ⟨id, 1, none⟩ (.string data)).setCell ⟨id, 2, none⟩ (.bool true)) :=
    f1.trans (r1.frame (S := [id]) (fun k hk => by rw [List.mem_singleton.1 hk]; exact .inr (own_id hm)) (fun _ hk => hk) ((Only.setCell w1 ⟨id, 1, none⟩ _ (by simp)).trans (Only.setCell _ ⟨id, 2, none⟩ _ (by simp))))
  refine ⟨⟨_, r2, ?_, h.dev.frame f2 (fun k hk => List.mem_append.2 (.inl hk)), h.inv, h.q, h.room, h.out, fun x hx => ?_, h.most, h.clock, h.apart, h.nil, h.lt, h.new⟩, f2⟩
  · rw [upd_same, upd_same, h.cell]
    rfl
  · rw [upd_ne _ _ (h.new x hx), upd_ne _ _ (h.new x hx)]
    exact h.cells x hx
theorem here_of {go : Nat} {five : List Value} {v : Value} {K A : Heap.KL} {fr : Nat → List Value} {P : List Value} {D : List Nat} (h : Raw B w cb go five v K A fr P D) {x : Nat × Int} (hx : x ∈ K ++ A) {a b c : Value} {p : Bool} (hc : fr x.1 = [a, b, c, .bool p]) : Here w x.1 p := by
  have k1 := h.cellB hx (k := 1) (u := b) (by rw [hc]; rfl)
  have k2 := h.cellB hx (k := 2) (u := c) (by rw [hc]; rfl)
  have k3 := h.cellB hx (k := 3) (u := .bool p) (by rw [hc]; rfl)
  obtain ⟨_, r, _⟩ := h.buffer hx
  exact ⟨⟨_, k1.1⟩, ⟨_, k2.1⟩, k1.2, k2.2, k3.1, r.lt⟩
theorem put_old (h : CAt B w cb db y Dv most clock L E) (b : Nat) (hb : b < Dv.kept.length) {x : PB} (hx : get L b = some x) (hc : clock < 1000000000000) (data : ByteArray) (hs : data.size = 128) (pin : Bool) :
    Calls Try.prog 20 #[.pointer (some ⟨cb, 0, none⟩), .int .i64 b, .string data, .bool pin] w fun e w' => e = .returned (.int .i64 0) ∧ CAt B w' cb db y Dv most (clock + 1) (but L b ++ [now (wrote data x) (clock + 1) (pin || x.pinned)]) E ∧ Fr B E w w' := by
  have q := h.ask b
  have e : askOf Dv.kept.length b = 0 := if_pos (by omega)
  rw [e] at q
  obtain ⟨hxL, hxb⟩ := get_some hx
  refine (put_gen b data pin hs (Lib.hid q) (fun w2 id p0 => w2 = w ∧ id = x.id ∧ p0 = x.pinned) (fun w' => CAt B w' cb db y Dv most (clock + 1) (but L b ++ [now (wrote data x) (clock + 1) (pin || x.pinned)]) E ∧ Fr B E w w')
    (Lib.hid ((take_old h b hb hx _).mono ?_)) (Lib.hid ?_) (Lib.hid ?_)).mono (fun e w' h => h)
  · rintro e w2 ⟨rfl, rfl⟩
    exact ⟨x.id, x.pinned, rfl, rfl, rfl, rfl⟩
  · rintro w2 id p0 ⟨rfl, rfl, rfl⟩
    obtain ⟨go, v, K, A, fr, cap, h⟩ := h
    exact here_of h.raw (h.has hxL) (h.cells x hxL)
  · rintro w2 id p0 ⟨rfl, rfl, rfl⟩ w3 hp
    obtain ⟨go, v, K, A, fr, cap, h⟩ := h
    obtain ⟨⟨fr', h3⟩, f3⟩ := h.wrote hxL hp
    have hmem : wrote data x ∈ turn L x.b (wrote data) := List.mem_map.2 ⟨x, hxL, if_pos rfl⟩
    refine (use_old h3 hmem (pin || x.pinned) (fun e => by have e : x.pinned = true := e; rw [e, Bool.or_true]) hc).mono ?_
    rintro e w4 ⟨rfl, h4, f4⟩
    have hbt : but (turn L x.b (wrote data)) (wrote data x).b = but L b := by rw [← hxb]; exact but_turn L x.b ⟨fun _ => rfl, fun _ => rfl, fun _ => rfl⟩
    rw [hbt] at h4
    exact ⟨rfl, h4, (f3.weak y db).trans (f4.weak y db)⟩
theorem put_new (h : CAt B w cb db y Dv most clock L E) (hd : ∀ x ∈ L, x.data.size ≤ 9223372036854775807) (ha : Dv.acts < 1000000000000) (b : Nat) (hb : b < Dv.kept.length) (hx : get L b = none) (hr : (roomOf Dv L most).1 = 0) (hc : clock < 1000000000000) (data : ByteArray) (hs : data.size = 128) (pin : Bool) :
    Calls Try.prog 20 #[.pointer (some ⟨cb, 0, none⟩), .int .i64 b, .string data, .bool pin] w fun e w' => e = .returned (.int .i64 0) ∧ (∃ id, CAt B w' cb db y (roomOf Dv L most).2.1 most (clock + 1) ((roomOf Dv L most).2.2 ++ [⟨b, data, true, pin, clock + 1, id⟩]) E) ∧ Fr B E w w' := by
  have q := h.ask b
  have e : askOf Dv.kept.length b = 0 := if_pos (by omega)
  rw [e] at q
  refine (put_gen b data pin hs (Lib.hid q) (fun w2 id p0 => (∃ go v K A fr cap, CMid B w2 cb db y (roomOf Dv L most).2.1 most clock (roomOf Dv L most).2.2 E go v K A fr cap b id ⟨#[]⟩ false false) ∧ Fr B E w w2 ∧ p0 = false) (fun w' => (∃ id, CAt B w' cb db y (roomOf Dv L most).2.1 most (clock + 1) ((roomOf Dv L most).2.2 ++ [⟨b, data, true, pin, clock + 1, id⟩]) E) ∧ Fr B E w w')
    (Lib.hid ((take_new h hd ha b hb hx hr 52 [] (.inr ⟨rfl, rfl⟩) (fun _ => ⟨#[]⟩) ?_).mono ?_)) (Lib.hid ?_) (Lib.hid ?_)).mono (fun e w' h => h)
  · intro w1 D1 _ _
    show Calls Try.prog 52 #[.int .i64 b] w1 _
    go_enter Try.func52, Try.ntmps52
    go_wp2_with fail
    exact bodyPost_ret (v := .tuple #[.string ⟨#[]⟩, .int .i64 0]) (by simp [results, Try.results52, go_sem]) rfl ⟨rfl, rfl⟩
  · rintro e w2 ⟨id, rfl, h1, h2⟩
    exact ⟨id, false, rfl, h1, h2, rfl⟩
  · rintro w2 id p0 ⟨⟨go, v, K, A, fr, cap, h1⟩, h2, rfl⟩
    exact here_of h1.raw (x := (id, 0)) (List.mem_append.2 (.inr List.mem_cons_self)) h1.cell
  · rintro w2 id p0 ⟨⟨go, v, K, A, fr, cap, h1⟩, h2, rfl⟩ w3 hp
    obtain ⟨⟨fr', h3⟩, f3⟩ := h1.wrote hp
    rw [Bool.or_false]
    refine (use_new h3 pin hc).mono ?_
    rintro e w4 ⟨rfl, h4, f4⟩
    exact ⟨rfl, ⟨id, h4⟩, (h2.trans (f3.weak y db)).trans (f4.weak y db)⟩
set_option maxRecDepth 100000 in
set_option maxHeartbeats 4000000 in
theorem put_full (h : CAt B w cb db y Dv most clock L E) (hd : ∀ x ∈ L, x.data.size ≤ 9223372036854775807) (ha : Dv.acts < 1000000000000) (b : Nat) (hb : b < Dv.kept.length) (hx : get L b = none) (hr : (roomOf Dv L most).1 ≠ 0) (data : ByteArray) (hs : data.size = 128) (pin : Bool) :
    Calls Try.prog 20 #[.pointer (some ⟨cb, 0, none⟩), .int .i64 b, .string data, .bool pin] w fun e w' => e = .returned (.int .i64 (roomOf Dv L most).1) ∧ CAt B w' cb db y (roomOf Dv L most).2.1 most clock (roomOf Dv L most).2.2 E ∧ Fr B E w w' := by
  have q := h.ask b
  have e : askOf Dv.kept.length b = 0 := if_pos (by omega)
  rw [e] at q
  have q := Lib.hid q
  have qt := fun fv => Lib.hid (take_full h hd ha b hb hx hr fv)
  have hr2 : ((roomOf Dv L most).1 != 0) = true := by simp [hr]
  have hs2 : (data.size : Int) = 128 := by omega
  have hs3 : ((data.size : Int) != 128) = false := by simp [hs2]
  clear h hb hx e hd hs hs2
  generalize (roomOf Dv L most).1 = ee at *
  go_enter Try.func20, Try.ntmps20
  go_wp2_with fail
  refine q.out.mono ?_
  rintro e w2 ⟨rfl, rfl⟩
  clear q
  go_wp2_with fail
  refine (qt _).out.mono ?_
  rintro e w2 ⟨rfl, h1, h2⟩
  have HE := Lib.hid (And.intro h1 h2)
  clear qt h1 h2
  go_wp2_with fail
  go_ret
  exact ⟨rfl, HE.out⟩
set_option maxRecDepth 100000 in
theorem put_bad (h : CAt B w cb db y Dv most clock L E) (b : Int) (data : ByteArray) (hs : data.size ≠ 128) (pin : Bool) :
    Calls Try.prog 20 #[.pointer (some ⟨cb, 0, none⟩), .int .i64 b, .string data, .bool pin] w fun e w' => e = .returned (.int .i64 (if askOf Dv.kept.length b = 0 then 2 else 60)) ∧ w = w' := by
  have q := Lib.hid (h.ask b)
  have hs3 : ((data.size : Int) != 128) = true := by rw [bne_iff_ne]; omega
  have hs4 : ¬ ((data.size : Int) = 128) := by omega
  clear h hs
  by_cases c : 0 ≤ b ∧ b < Dv.kept.length
  · have e : askOf Dv.kept.length b = 0 := if_pos c
    rw [e] at q ⊢
    rw [if_pos rfl]
    clear e c
    go_enter Try.func20, Try.ntmps20
    go_wp2_with fail
    refine q.out.mono ?_
    rintro e w2 ⟨rfl, rfl⟩
    clear q
    go_wp2_with fail
    go_ret
    exact ⟨rfl, rfl⟩
  · have e : askOf Dv.kept.length b = 60 := if_neg c
    rw [e] at q ⊢
    rw [if_neg (by omega)]
    clear e c
    go_enter Try.func20, Try.ntmps20
    go_wp2_with fail
    refine q.out.mono ?_
    rintro e w2 ⟨rfl, rfl⟩
    clear q
    go_wp2_with fail
    go_ret
    exact ⟨rfl, rfl⟩
set_option maxRecDepth 100000 in
theorem put_no (h : CAt B w cb db y Dv most clock L E) (b : Int) (hb : ¬ (0 ≤ b ∧ b < Dv.kept.length)) (data : ByteArray) (pin : Bool) :
    Calls Try.prog 20 #[.pointer (some ⟨cb, 0, none⟩), .int .i64 b, .string data, .bool pin] w fun e w' => e = .returned (.int .i64 60) ∧ w = w' := by
  have q := h.ask b
  have e : askOf Dv.kept.length b = 60 := if_neg hb
  rw [e] at q
  have q := Lib.hid q
  clear h e hb
  go_enter Try.func20, Try.ntmps20
  go_wp2_with fail
  refine q.out.mono ?_
  rintro e w2 ⟨rfl, rfl⟩
  clear q
  go_wp2_with fail
  go_ret
  exact ⟨rfl, rfl⟩

end Go.Proofs.Ytlickjaopbcanaa

namespace Go.Proofs.Ytlickjaopbcanaa
open Go Go.RowKit Bufs
variable {B cb : Nat} {w w' : World} {db most : Nat} {y : Lay} {Dv : Dev} {clock : Int} {L : PL} {E : List Nat}

/-- The blocks below n that have a buffer that is so, rising. -/
def blocksOf (L : PL) (so : PB → Bool) (n : Nat) : List Nat := (List.range n).filter fun b => ((get L b).map so).getD false
theorem blocksOf_succ (L : PL) (so : PB → Bool) (n : Nat) : blocksOf L so (n + 1) = if ((get L n).map so).getD false = true then blocksOf L so n ++ [n] else blocksOf L so n := by
  unfold blocksOf
  rw [List.range_succ, List.filter_append]
  by_cases h : ((get L n).map so).getD false = true
  · rw [if_pos h]; simp [h]
  · rw [if_neg h]; simp [h]
theorem blocksOf_length (L : PL) (so : PB → Bool) (n : Nat) : (blocksOf L so n).length ≤ n := by
  unfold blocksOf
  have := List.length_filter_le (fun b => ((get L b).map so).getD false) (List.range n)
  simpa using this
/-- A list of one's own, that may be written, not grown. -/
def HeadAt (w : World) (B : Nat) (v : Value) (l : List Nat) : Prop :=
  (v = .slice none 0 0 ∧ l = []) ∨ ∃ g c cur, v = .slice (some ⟨g, 0, none⟩) l.length c ∧ B ≤ g ∧ w.heap[g]? = some (.cells cur 3 (0, 0)) ∧ l.length ≤ cur.size ∧ cur.toList.take l.length = natVs l
def Listed (B : Nat) (l : List Nat) (e : Ending) (w : World) : Prop := ∃ v, e = .returned v ∧ HeadAt w B v l
set_option maxRecDepth 100000 in
theorem clip_any (l : List Nat) (v : Value) (h : w.ownsRow B 3 1 v l.length (natVs l)) : Calls Try.prog 78 #[v] w fun e w' => Listed B l e w' ∧ w = w' := by
  obtain ⟨hl, h⟩ := h
  rcases h with ⟨rfl, h0⟩ | ⟨g, cap, cur, rfl, hg, hh, hc, hm, hs, ht⟩
  · have e : l = [] := List.length_eq_zero_iff.1 h0
    subst e
    clear hl h0
    go_enter Try.func78, Try.ntmps78
    go_wp2_with fail
    go_ret
    exact ⟨⟨_, rfl, .inl ⟨rfl, rfl⟩⟩, rfl⟩
  · have HE := Lib.hid (show HeadAt w B (.slice (some ⟨g, 0, none⟩) l.length l.length) l from .inr ⟨g, _, cur, rfl, hg, hh, by omega, by simpa using ht⟩)
    clear hl hh hs ht
    unfold maxLen at hm
    generalize l.length = n at *
    go_enter Try.func78, Try.ntmps78
    go_wp2_with fail
    go_ret
    exact ⟨⟨_, rfl, HE.out⟩, rfl⟩

set_option maxRecDepth 100000 in
set_option maxHeartbeats 4000000 in
theorem blocks_raw (h : CAt B w cb db y Dv most clock L E) (F : Nat) (so : PB → Bool) (hF : (F = 49 ∧ so = PB.dirty) ∨ (F = 56 ∧ so = PB.pinned)) :
    Calls Try.prog 48 #[.pointer (some ⟨cb, 0, none⟩), .func (.func F) #[] #[]] w fun e w' => Listed w.heap.size (blocksOf L so Dv.kept.length) e w' ∧ Below w.heap.size w w' := by
  obtain ⟨i0, hi0, hz0, hz1, hz2⟩ := info_parts info_int
  have HC : Hid (∀ x ∈ L, ∀ wr, Below w.heap.size w wr → Calls Try.prog F #[.pointer (some ⟨x.id, 0, none⟩)] wr fun e w' => e = .returned (.bool (so x)) ∧ wr = w') := Lib.hid (fun x hx wr hb => by
    have c2 := (h.bcell hx 2 _ rfl).1
    have c3 := (h.bcell hx 3 _ rfl).1
    have c2 := (hb.cell (p := ⟨x.id, 2, none⟩) (World.block_lt_of_cell? w _ c2)).trans c2
    have c3 := (hb.cell (p := ⟨x.id, 3, none⟩) (World.block_lt_of_cell? w _ c3)).trans c3
    clear hb h
    rcases hF with ⟨rfl, rfl⟩ | ⟨rfl, rfl⟩
    · go_enter Try.func49, Try.ntmps49
      go_wp2_with fail
      go_ret
      exact ⟨rfl, rfl⟩
    · go_enter Try.func56, Try.ntmps56
      go_wp2_with fail
      go_ret
      exact ⟨rfl, rfl⟩)
  obtain ⟨go, v, K, A, fr, cap, h⟩ := h
  have c3 := h.c3
  have hn := h.dev.pos
  have HP : Hid (∀ j, j < Dv.kept.length → w.cell? ⟨go, j, none⟩ = some (cellOf L j)) := Lib.hid (fun j hj => h.raw.of.cellAt j (rowOf_at L Dv.kept.length j hj))
  have hgo := h.raw.of.lt
  have h0 : Hid (blocksOf L so 0 = []) := Lib.hid rfl
  have hS := Lib.hid (blocksOf_succ L so)
  clear h
  generalize Dv.kept.length = n at *
  rcases hF with ⟨rfl, -⟩ | ⟨rfl, -⟩
  all_goals
    go_enter Try.func48, Try.ntmps48
    go_wp2_with fail
    go_loopw [5, 15] (fun v q wr => ∃ (j : Nat) (u : Value), j ≤ n ∧ u = v ∧ q = .int .i64 j ∧ Hid (wr.ownsRow w.heap.size 3 1 u (blocksOf L so j).length (natVs (blocksOf L so j))) ∧ Below w.heap.size w wr) (fun _ q _ => n - (intOf q).toNat)
    case atStart => exact ⟨0, _, by omega, rfl, rfl, Lib.hid (by rw [h0.out]; exact World.ownsRow_nil _ _ _ _), Below.refl _ _⟩
    case round =>
      obtain ⟨j, v, hj, rfl, rfl, hg, hbw⟩ := hrel
      by_cases hlt : j < n
      · have hc := (hbw.cell (p := ⟨go, j, none⟩) hgo).trans (HP.out j hlt)
        have i0' : (0 : Int) ≤ (j : Int) := by omega
        have i1 : (j : Int) < (n : Int) := by omega
        have hl := blocksOf_length L so j
        rcases cellOf_form L j with ⟨x, h1, h2⟩ | ⟨h1, h2⟩
        · have q := Lib.hid (HC.out x (get_some h1).1 wr hbw)
          rw [h2] at hc
          unfold ptr at hc
          cases hb : so x
          · have hr : Hid (blocksOf L so (j + 1) = blocksOf L so j) := Lib.hid (by rw [hS.out, h1]; simp [hb])
            rw [hb] at q
            clear hb h1 h2
            go_wp2_with fail
            refine q.out.mono ?_
            rintro e w' ⟨rfl, rfl⟩
            go_wp2_with fail
            go_roundw
            case rel => exact ⟨j + 1, _, by omega, rfl, by go_num, by rw [hr.out]; exact hg, hbw⟩
            case measure => simp [intOf]; omega
          · have hr : Hid (blocksOf L so (j + 1) = blocksOf L so j ++ [j]) := Lib.hid (by rw [hS.out, h1]; simp [hb])
            rw [hb] at q
            clear hb h1 h2
            generalize blocksOf L so j = P at *
            have hone : ∀ u ∈ ([.int .i64 (j : Int)] : List Value), u.oneCell' = true := by simp [Value.oneCell']
            go_wp2_with fail
            refine q.out.mono ?_
            rintro e w' ⟨rfl, rfl⟩
            go_wp2_with (first
              | (at_builtin; refine wpList_append_own _ rfl _ _ 28 rfl w.heap.size 3 i0 (.int .i64 0) 1 8 Try.underlying28 hi0 hz0 hz1 hz2 rfl (by decide) _ P.length _ rfl (hg.out.alloc _) ⟨wr.heap.size, 0, none⟩ 1 1 [.int .i64 j] rfl rfl
                  (World.news_of_block (heap_alloc_new _ _)) hone (by unfold maxLen; omega) (by omega) (by have := hbw.size; simp; omega) ?_))
            intro v' w1 hown hgrow _
            have hW : Below w.heap.size w w1 := (hbw.alloc hbw.size (.cells #[.int .i64 j] 3)).grown hgrow (by have := hbw.size; simp; omega) (fun k hk => (hg.out.lt k hk).1)
            have hG : Hid (w1.ownsRow w.heap.size 3 1 v' (P ++ [j]).length (natVs (P ++ [j]))) := Lib.hid (by
              have e : natVs (P ++ [j]) = natVs P ++ [.int .i64 (j : Int)] := by simp [natVs]
              rw [e, List.length_append]; exact hown)
            clear hown hgrow
            go_wp2_with fail
            go_roundw
            case rel => exact ⟨j + 1, v', by omega, rfl, by go_num, by rw [hr.out]; exact hG, hW⟩
            case measure => simp [intOf]; omega
        · have hr : Hid (blocksOf L so (j + 1) = blocksOf L so j) := Lib.hid (by rw [hS.out, h1]; simp)
          rw [h2] at hc
          clear h1 h2
          go_wp2_with fail
          go_roundw
          case rel => exact ⟨j + 1, _, by omega, rfl, by go_num, by rw [hr.out]; exact hg, hbw⟩
          case measure => simp [intOf]; omega
      · obtain rfl : j = n := by omega
        have q := Lib.hid (clip_any _ _ hg.out)
        clear hg
        go_wp2_with fail
        refine q.out.mono ?_
        rintro e w' ⟨⟨u, rfl, h5⟩, rfl⟩
        have H5 := Lib.hid h5
        clear h5 q
        go_wp2_with fail
        go_ret
        exact ⟨⟨_, rfl, H5.out⟩, hbw⟩
theorem dirty_any (h : CAt B w cb db y Dv most clock L E) : Calls Try.prog 15 #[.pointer (some ⟨cb, 0, none⟩)] w fun e w' => Listed w.heap.size (blocksOf L PB.dirty Dv.kept.length) e w' ∧ Below w.heap.size w w' := by
  have q := Lib.hid (blocks_raw h 49 PB.dirty (.inl ⟨rfl, rfl⟩))
  clear h
  go_enter Try.func15, Try.ntmps15
  go_wp2_with fail
  refine q.out.mono ?_
  rintro e w' ⟨⟨u, rfl, h5⟩, h6⟩
  have H5 := Lib.hid (And.intro h5 h6)
  clear h5 h6 q
  go_wp2_with fail
  go_ret
  exact ⟨⟨_, rfl, H5.out.1⟩, H5.out.2⟩
theorem pinned_any (h : CAt B w cb db y Dv most clock L E) : Calls Try.prog 24 #[.pointer (some ⟨cb, 0, none⟩)] w fun e w' => Listed w.heap.size (blocksOf L PB.pinned Dv.kept.length) e w' ∧ Below w.heap.size w w' := by
  have q := Lib.hid (blocks_raw h 56 PB.pinned (.inr ⟨rfl, rfl⟩))
  clear h
  go_enter Try.func24, Try.ntmps24
  go_wp2_with fail
  refine q.out.mono ?_
  rintro e w' ⟨⟨u, rfl, h5⟩, h6⟩
  have H5 := Lib.hid (And.intro h5 h6)
  clear h5 h6 q
  go_wp2_with fail
  go_ret
  exact ⟨⟨_, rfl, H5.out.1⟩, H5.out.2⟩

end Go.Proofs.Ytlickjaopbcanaa

namespace Go.Proofs.Ytlickjaopbcanaa
open Go Go.RowKit Bufs
variable {B cb : Nat} {w w' : World} {db most : Nat} {y : Lay} {Dv : Dev} {clock : Int} {L : PL} {E : List Nat}

theorem info_ptrs : (Try.prog.info? 83).map (fun i => (i.zero, i.size, i.bytes)) = some (some (.pointer none), 1, 8) := by kernel_rfl
theorem DevAt.bounds2 (h : DevAt B w db y Dv) : ∀ k ∈ dblocks db y, B ≤ k ∧ k < w.heap.size := by
  intro k hk
  simp only [dblocks, List.mem_cons, List.not_mem_nil, or_false] at hk
  rcases hk with rfl | rfl | rfl | rfl
  · exact ⟨h.own, h.cells.lt⟩
  · exact h.kept.lt _ rfl
  · exact h.now.lt _ rfl
  · exact h.pend.lt _ rfl
/-- A cache that has no buffers. -/
theorem CAt.laid (h : DevAt B w db y Dv) (hm : 1 ≤ most ∧ most ≤ 256) (hE : ∀ k ∈ E, k < w.heap.size ∧ k ∉ dblocks db y) :
    CAt B ((w.alloc (.cells (List.replicate Dv.kept.length (.pointer none)).toArray 83)).alloc (.cells #[ptr db, .int .i64 most, .int .i64 0, .slice (some ⟨w.heap.size, 0, none⟩) Dv.kept.length Dv.kept.length, .int .i64 0, .slice none 0 0] 41)) (w.heap.size + 1) db y Dv most 0 [] E := by
  have hb := h.bounds2
  have h0 : B ≤ w.heap.size := by have := h.own; have := h.cells.lt; omega
  have r1 : Row (w.alloc (.cells (List.replicate Dv.kept.length (.pointer none)).toArray 83)) w.heap.size 83 (List.replicate Dv.kept.length (.pointer none)) := Row.new w _ _ rfl
  have hrow : rowOf [] Dv.kept.length = List.replicate Dv.kept.length (.pointer none) := by
    unfold rowOf
    apply List.ext_getElem
    · simp
    · intro i h1 h2; simp [cellOf, Bufs.get]
  refine ⟨w.heap.size, .slice none 0 0, [], [], fun _ => [], Dv.kept.length, ⟨⟨⟨by omega, rfl, ?_, World.ownsRow_nil _ _ _ _, (fun i hi => absurd hi (Nat.not_lt_zero i)), (fun _ h => nomatch h), List.Pairwise.nil, by simp [Value.ownBlock], (fun _ h => nomatch h), (fun _ h => nomatch h), by simp⟩, (fun _ h => nomatch h), (fun _ h => nomatch h), (fun _ h => nomatch h), (fun _ h => nomatch h), List.Pairwise.nil, ?_, by omega, by simp [Value.ownBlock], h0, (fun _ h => nomatch h), by simp; omega, fun k hk => ?_⟩, ?_, ⟨List.Pairwise.nil, (fun _ h => nomatch h), (fun _ h => nomatch h), List.Pairwise.nil, List.Pairwise.nil, (fun _ h => nomatch h), by simp⟩, ⟨.refl _, (fun c c0 hc => absurd hc (Nat.not_lt_zero c))⟩, .refl _, (fun _ h => nomatch h), hm, by omega, fun k hk => (hE k hk).2⟩⟩
  · exact Row.new _ _ [_, _, _, _, _, _] (World.size_alloc w _).symm
  · rw [hrow]; exact r1.alloc _
  · have hk2 : k < w.heap.size := by
      rcases List.mem_append.1 hk with h1 | h1
      · exact (hb k h1).2
      · exact (hE k h1).1
    exact ⟨by simp; omega, by omega, by omega, by simp [Value.ownBlock], (fun _ h => nomatch h)⟩
  · exact (h.below ((Below.refl _ _).alloc (Nat.le_refl _) _)).below ((Below.refl _ _).alloc (Nat.le_refl _) _)
set_option maxRecDepth 100000 in
set_option maxHeartbeats 4000000 in
theorem newcache_any (h : DevAt B w db y Dv) (hm : 1 ≤ most ∧ most ≤ 256) (hE : ∀ k ∈ E, k < w.heap.size ∧ k ∉ dblocks db y) :
    Calls Try.prog 17 #[ptr db, .int .i64 most] w fun e w' => ∃ cb, e = .returned (.tuple #[.pointer (some ⟨cb, 0, none⟩), .int .i64 0]) ∧ CAt B w' cb db y Dv most 0 [] E ∧ w.heap.size ≤ cb ∧ Below w.heap.size w w' := by
  obtain ⟨ib, hib, hzb, hsb, hbb⟩ := info_parts info_ptrs
  have hp := h.pos
  have hmk : ∀ wx : World, (Instr.makeSlice 38 (.int .i64 (Dv.kept.length : Int)) (.int .i64 (Dv.kept.length : Int))).run Try.prog wx = .ok (.slice (some ⟨wx.heap.size, 0, none⟩) Dv.kept.length Dv.kept.length) (wx.alloc (.cells (List.replicate Dv.kept.length (.pointer none)).toArray 83)) := fun wx => by
    have hr := run_make (P := Try.prog) wx 38 83 ib (.pointer none) Try.underlying38 hib hzb .i64 .i64 Dv.kept.length Dv.kept.length (by omega) (by omega) (by rw [hbb]; omega) (by omega)
    simpa [hsb, Value.cells, madeCells_one] using hr
  have q := Lib.hid (blocks_any h)
  have HE := Lib.hid (CAt.laid h hm hE)
  have hm2 : ¬ ((most : Int) < 1) := by omega
  have hm3 : ¬ (256 < (most : Int)) := by omega
  have hm4 : decide ((most : Int) < 1) = false := by simp [hm2]
  have hn0 : ¬ ((Dv.kept.length : Int) = 0) := by omega
  have hn1 : ((Dv.kept.length : Int) == 0) = false := by rw [beq_eq_false_iff_ne]; exact hn0
  clear h hE hm
  generalize Dv.kept.length = n at *
  unfold ptr at *
  go_enter Try.func17, Try.ntmps17
  go_wp2_with fail
  refine q.out.mono ?_
  rintro e w' ⟨rfl, rfl⟩
  go_wp2_with fail
  refine q.out.mono ?_
  rintro e w' ⟨rfl, rfl⟩
  clear q
  go_wp2_with fail
  exact bodyPost_ret (v := .tuple #[.pointer (some ⟨w.heap.size + 1, 0, none⟩), .int .i64 0]) (by simp [results, Try.results17, go_sem]) rfl ⟨_, rfl, HE.out, by omega, ((Below.refl _ _).alloc (Nat.le_refl _) _).alloc (by simp) _⟩
set_option maxRecDepth 100000 in
theorem newcache_arg (h : DevAt B w db y Dv) (m : Int) (hm : ¬ (1 ≤ m ∧ m ≤ 256)) :
    Calls Try.prog 17 #[ptr db, .int .i64 m] w fun e w' => e = .returned (.tuple #[.pointer none, .int .i64 2]) ∧ w = w' := by
  have q := Lib.hid (blocks_any h)
  have hp := h.pos
  have hn0 : ¬ ((Dv.kept.length : Int) = 0) := by omega
  have hn1 : ((Dv.kept.length : Int) == 0) = false := by rw [beq_eq_false_iff_ne]; exact hn0
  clear h
  generalize Dv.kept.length = n at *
  unfold ptr at *
  by_cases c : m < 1
  · go_enter Try.func17, Try.ntmps17
    go_wp2_with fail
    refine q.out.mono ?_
    rintro e w' ⟨rfl, rfl⟩
    go_wp2_with fail
    exact bodyPost_ret (v := .tuple #[.pointer none, .int .i64 2]) (by simp [results, Try.results17, go_sem]) rfl ⟨rfl, rfl⟩
  · have c2 : 256 < m := by omega
    go_enter Try.func17, Try.ntmps17
    go_wp2_with fail
    refine q.out.mono ?_
    rintro e w' ⟨rfl, rfl⟩
    go_wp2_with fail
    exact bodyPost_ret (v := .tuple #[.pointer none, .int .i64 2]) (by simp [results, Try.results17, go_sem]) rfl ⟨rfl, rfl⟩

end Go.Proofs.Ytlickjaopbcanaa

namespace Go.Proofs.Ytlickjaopbcanaa
open Go Go.RowKit Bufs
variable {B cb : Nat} {w w' : World} {db most : Nat} {y : Lay} {Dv : Dev} {clock : Int} {L l : PL} {E : List Nat} {k : Nat}

def strip (x : PB) : PB := { x with used := 0, id := 0 }
theorem get_strip (L : PL) (b : Nat) : get (L.map strip) b = (get L b).map strip := by
  unfold Bufs.get
  rw [List.find?_map]
  rfl
theorem but_strip (L : PL) (b : Nat) : but (L.map strip) b = (but L b).map strip := by
  unfold but
  rw [List.filter_map]
  rfl
theorem turn_strip (L : PL) (b : Nat) {f : PB → PB} (hf : ∀ x, f (strip x) = strip (f x)) : turn (L.map strip) b f = (turn L b f).map strip := by
  unfold turn
  rw [List.map_map, List.map_map]
  apply List.map_congr_left
  intro x _
  show (if x.b = b then f (strip x) else strip x) = strip (if x.b = b then f x else x)
  split
  · exact hf x
  · rfl
theorem outL_strip (Dv : Dev) (L : PL) (x : PB) : outL Dv (L.map strip) (strip x) = (outL Dv L x).map strip := by
  unfold outL
  show (if x.dirty && !x.pinned then turn (L.map strip) x.b (soil (decide (Dv.writeE x.b x.data ≠ 0))) else L.map strip) = _
  split
  · exact turn_strip L x.b (fun _ => rfl)
  · rfl
theorem first_strip (L : PL) : (L.map strip).find? (fun x => !x.pinned) = (L.find? (fun x => !x.pinned)).map strip := by
  rw [List.find?_map]
  rfl
theorem room_strip (Dv : Dev) (L : PL) (most : Nat) : roomOf Dv (L.map strip) most = ((roomOf Dv L most).1, (roomOf Dv L most).2.1, (roomOf Dv L most).2.2.map strip) := by
  unfold roomOf
  rw [List.length_map]
  split
  · rfl
  · rw [first_strip]
    cases L.find? (fun x => !x.pinned) with
    | none => rfl
    | some x =>
      show (if outE Dv x = 0 then (0, outD Dv x, but (L.map strip) x.b) else (outE Dv x, outD Dv x, outL Dv (L.map strip) (strip x))) = _
      dsimp only
      split
      · rw [but_strip]
      · rw [outL_strip]
theorem bufOf_strip (L : PL) (n : Nat) (b : Int) : bufOf (L.map strip) n b = (bufOf L n b).map strip := by
  unfold bufOf
  split
  · exact get_strip L _
  · rfl
theorem outB_strip (Dv : Dev) (L : PL) (b : Int) : outB Dv (L.map strip) b = ((outB Dv L b).1, (outB Dv L b).2.1, (outB Dv L b).2.2.map strip) := by
  unfold outB
  rw [bufOf_strip]
  cases bufOf L Dv.kept.length b with
  | none => rfl
  | some x =>
    show (outE Dv x, outD Dv x, outL Dv (L.map strip) (strip x)) = _
    rw [outL_strip]
theorem sync_strip (n : Nat) : ∀ (b : Nat) (Dv : Dev) (L : PL), syncN n b Dv (L.map strip) = ((syncN n b Dv L).1, (syncN n b Dv L).2.1, (syncN n b Dv L).2.2.map strip) := by
  induction n with
  | zero => intro b Dv L; rfl
  | succ n ih =>
    intro b Dv L
    show (if (outB Dv (L.map strip) b).1 = 0 then syncN n (b + 1) (outB Dv (L.map strip) b).2.1 (outB Dv (L.map strip) b).2.2 else outB Dv (L.map strip) b) = _
    rw [outB_strip]
    dsimp only
    by_cases h : (outB Dv L b).1 = 0
    · rw [if_pos h, ih]
      have e : syncN (n + 1) b Dv L = syncN n (b + 1) (outB Dv L b).2.1 (outB Dv L b).2.2 := by
        show (if (outB Dv L b).1 = 0 then _ else _) = _
        rw [if_pos h]
      rw [e]
    · rw [if_neg h]
      have e : syncN (n + 1) b Dv L = outB Dv L b := by
        show (if (outB Dv L b).1 = 0 then _ else _) = _
        rw [if_neg h]
      rw [e]
theorem blocks_strip (L : PL) (so : PB → Bool) (hs : ∀ x, so (strip x) = so x) (n : Nat) : blocksOf (L.map strip) so n = blocksOf L so n := by
  unfold blocksOf
  apply List.filter_congr
  intro b _
  rw [get_strip]
  cases Bufs.get L b with
  | none => rfl
  | some x => show so (strip x) = so x; exact hs x
theorem has_strip (L : PL) (n : Nat) (b : Int) : hasOf (L.map strip) n b = hasOf L n b := by
  unfold hasOf
  rw [get_strip, Option.isSome_map]

/-! ### What becomes of a device -/
theorem Dev.Ok.outD {x : PB} (h : Dv.Ok k) : (Go.Proofs.Ytlickjaopbcanaa.outD Dv x).Ok (k + 1) := by
  unfold Go.Proofs.Ytlickjaopbcanaa.outD
  split
  · exact h.write _ _
  · exact h.mono (by omega)
theorem Dev.Ok.room (h : Dv.Ok k) (L : PL) (most : Nat) : (roomOf Dv L most).2.1.Ok (k + 1) := by
  unfold roomOf
  split
  · exact h.mono (by omega)
  · split
    · exact h.mono (by omega)
    · split
      · exact h.outD
      · exact h.outD
theorem Dev.Ok.outB (h : Dv.Ok k) (L : PL) (b : Int) : (Go.Proofs.Ytlickjaopbcanaa.outB Dv L b).2.1.Ok (k + 1) := by
  unfold Go.Proofs.Ytlickjaopbcanaa.outB
  split
  · exact h.outD
  · exact h.mono (by omega)
theorem Dev.Ok.sync (n : Nat) : ∀ (b : Nat) (Dv : Dev) (L : PL) (k : Nat), Dv.Ok k → (syncN n b Dv L).2.1.Ok (k + n) := by
  induction n with
  | zero => intro b Dv L k h; exact h
  | succ n ih =>
    intro b Dv L k h
    show (if (Go.Proofs.Ytlickjaopbcanaa.outB Dv L b).1 = 0 then syncN n (b + 1) (Go.Proofs.Ytlickjaopbcanaa.outB Dv L b).2.1 (Go.Proofs.Ytlickjaopbcanaa.outB Dv L b).2.2 else Go.Proofs.Ytlickjaopbcanaa.outB Dv L b).2.1.Ok _
    split
    · exact (ih _ _ _ _ (h.outB L b)).mono (by omega)
    · exact (h.outB L b).mono (by omega)
theorem room_data (p : ByteArray → Prop) (Dv : Dev) (L : PL) (most : Nat) (h : ∀ x ∈ L, p x.data) : ∀ x ∈ (roomOf Dv L most).2.2, p x.data := by
  unfold roomOf
  split
  · exact h
  · split
    · exact h
    · split
      · exact fun x hx => h x (but_mem.1 hx).1
      · exact outL_all p Dv L _ h
theorem sync_data (p : ByteArray → Prop) (n : Nat) : ∀ (b : Nat) (Dv : Dev) (L : PL), (∀ x ∈ L, p x.data) → ∀ x ∈ (syncN n b Dv L).2.2, p x.data := by
  induction n with
  | zero => intro b Dv L h; exact h
  | succ n ih =>
    intro b Dv L h
    show ∀ x ∈ (if (Go.Proofs.Ytlickjaopbcanaa.outB Dv L b).1 = 0 then syncN n (b + 1) (Go.Proofs.Ytlickjaopbcanaa.outB Dv L b).2.1 (Go.Proofs.Ytlickjaopbcanaa.outB Dv L b).2.2 else Go.Proofs.Ytlickjaopbcanaa.outB Dv L b).2.2, p x.data
    split
    · exact ih _ _ _ (outB_all p Dv L b h)
    · exact outB_all p Dv L b h
theorem sync_len (n : Nat) : ∀ (b : Nat) (Dv : Dev) (L : PL), (syncN n b Dv L).2.1.kept.length = Dv.kept.length := by
  induction n with
  | zero => intro b Dv L; rfl
  | succ n ih =>
    intro b Dv L
    show (if (Go.Proofs.Ytlickjaopbcanaa.outB Dv L b).1 = 0 then syncN n (b + 1) (Go.Proofs.Ytlickjaopbcanaa.outB Dv L b).2.1 (Go.Proofs.Ytlickjaopbcanaa.outB Dv L b).2.2 else Go.Proofs.Ytlickjaopbcanaa.outB Dv L b).2.1.kept.length = _
    split
    · rw [ih, outB_len]
    · exact outB_len _ _ _
theorem Dev.Ok.readS (h : Dv.Ok k) {b : Nat} (hb : b < Dv.kept.length) : (Dv.readS b).size = 128 := by
  unfold Dev.readS
  rw [if_neg (by omega)]
  have hl : b < Dv.now.length := by rw [h.len]; exact hb
  rw [Int.toNat_natCast, show Dv.now.getD b ⟨#[]⟩ = Dv.now[b] by simp [List.getD, hl]]
  exact h.now _ (List.getElem_mem hl)

/-! ### The calls, as the document knows them -/
def getS (Dv : Dev) (l : PL) (most : Nat) (b : Int) : (ByteArray × Int) × Dev × PL :=
  if 0 ≤ b ∧ b < Dv.kept.length then match get l b.toNat with
    | some x => ((x.data, 0), Dv, but l b.toNat ++ [x])
    | none => if (roomOf Dv l most).1 = 0 then (((roomOf Dv l most).2.1.readS b, 0), (roomOf Dv l most).2.1, (roomOf Dv l most).2.2 ++ [⟨b.toNat, (roomOf Dv l most).2.1.readS b, false, false, 0, 0⟩])
      else ((⟨#[]⟩, (roomOf Dv l most).1), (roomOf Dv l most).2.1, (roomOf Dv l most).2.2)
  else ((⟨#[]⟩, 60), Dv, l)
def putS (Dv : Dev) (l : PL) (most : Nat) (b : Int) (data : ByteArray) (pin : Bool) : Int × Dev × PL :=
  if 0 ≤ b ∧ b < Dv.kept.length then if data.size ≠ 128 then (2, Dv, l) else match get l b.toNat with
    | some x => (0, Dv, but l b.toNat ++ [⟨b.toNat, data, true, pin || x.pinned, 0, 0⟩])
    | none => if (roomOf Dv l most).1 = 0 then (0, (roomOf Dv l most).2.1, (roomOf Dv l most).2.2 ++ [⟨b.toNat, data, true, pin, 0, 0⟩])
      else ((roomOf Dv l most).1, (roomOf Dv l most).2.1, (roomOf Dv l most).2.2)
  else (60, Dv, l)
/-- A cache of a device, and that both are sound; k bounds what was done. -/
def CS (B : Nat) (w : World) (cb db : Nat) (y : Lay) (Dv : Dev) (most : Nat) (l : PL) (E : List Nat) (k : Nat) : Prop := ∃ clock L, CAt B w cb db y Dv most clock L E ∧ L.map strip = l ∧ clock ≤ k ∧ Dv.Ok k ∧ ∀ x ∈ L, x.data.size = 128
theorem CS.ok (h : CS B w cb db y Dv most l E k) : Dv.Ok k := by obtain ⟨_, _, _, _, _, h, _⟩ := h; exact h
theorem CS.mono {k' : Nat} (h : CS B w cb db y Dv most l E k) (hk : k ≤ k') : CS B w cb db y Dv most l E k' := by
  obtain ⟨c, L, h1, h2, h3, h4, h5⟩ := h
  exact ⟨c, L, h1, h2, by omega, h4.mono hk, h5⟩
theorem CS.dev (h : CS B w cb db y Dv most l E k) : DevAt B w db y Dv := by obtain ⟨_, _, ⟨_, _, _, _, _, _, h⟩, _⟩ := h; exact h.dev
/-- What is known of the buffers. -/
structure Buffers (n most : Nat) (l : PL) : Prop where
  bs : l.Pairwise fun x y => x.b ≠ y.b
  lt : ∀ x ∈ l, x.b < n
  len : l.length ≤ most
  data : ∀ x ∈ l, x.data.size = 128
  zero : ∀ x ∈ l, strip x = x
theorem CS.bufs (h : CS B w cb db y Dv most l E k) : Buffers Dv.kept.length most l := by
  obtain ⟨c, L, ⟨_, _, _, _, _, _, h⟩, rfl, _, _, h5⟩ := h
  refine ⟨?_, ?_, by simpa using h.inv.len, ?_, ?_⟩
  · rw [List.pairwise_map]; exact h.inv.bs
  · intro x hx; obtain ⟨z, hz, rfl⟩ := List.mem_map.1 hx; exact h.inv.lt z hz
  · intro x hx; obtain ⟨z, hz, rfl⟩ := List.mem_map.1 hx; exact h5 z hz
  · intro x hx; obtain ⟨z, hz, rfl⟩ := List.mem_map.1 hx; rfl

end Go.Proofs.Ytlickjaopbcanaa

namespace Go.Proofs.Ytlickjaopbcanaa
open Go Go.RowKit Bufs
variable {B cb : Nat} {w w' : World} {db most : Nat} {y : Lay} {Dv : Dev} {clock : Int} {L l : PL} {E : List Nat} {k : Nat}

theorem size_of (h : ∀ x ∈ L, x.data.size = 128) : ∀ x ∈ L, x.data.size ≤ 9223372036854775807 := fun x hx => by have := h x hx; omega
theorem data_last {L : PL} {b : Nat} {z : PB} (h : ∀ x ∈ L, x.data.size = 128) (hz : z.data.size = 128) : ∀ x ∈ but L b ++ [z], x.data.size = 128 := by
  intro x hx
  rcases List.mem_append.1 hx with h1 | h1
  · exact h x (but_mem.1 h1).1
  · rw [List.mem_singleton.1 h1]; exact hz
theorem data_snoc {L : PL} {z : PB} (h : ∀ x ∈ L, x.data.size = 128) (hz : z.data.size = 128) : ∀ x ∈ L ++ [z], x.data.size = 128 := by
  intro x hx
  rcases List.mem_append.1 hx with h1 | h1
  · exact h x h1
  · rw [List.mem_singleton.1 h1]; exact hz
theorem cs_get (h : CS B w cb db y Dv most l E k) (hk : k ≤ 900000000000) (b : Int) :
    Calls Try.prog 11 #[.pointer (some ⟨cb, 0, none⟩), .int .i64 b] w fun e w' => e = .returned (.tuple #[.string (getS Dv l most b).1.1, .int .i64 (getS Dv l most b).1.2]) ∧ CS B w' cb db y (getS Dv l most b).2.1 most (getS Dv l most b).2.2 E (k + 1) ∧ Fr B E w w' := by
  obtain ⟨c, L, h, rfl, hc, hok, hd⟩ := h
  by_cases hb : 0 ≤ b ∧ b < Dv.kept.length
  · obtain ⟨j, rfl⟩ : ∃ j : Nat, b = (j : Int) := ⟨b.toNat, by omega⟩
    have hj : j < Dv.kept.length := by omega
    have eq : getS Dv (L.map strip) most (j : Int) = match get (L.map strip) j with
        | some x => ((x.data, 0), Dv, but (L.map strip) j ++ [x])
        | none => if (roomOf Dv (L.map strip) most).1 = 0 then (((roomOf Dv (L.map strip) most).2.1.readS j, 0), (roomOf Dv (L.map strip) most).2.1, (roomOf Dv (L.map strip) most).2.2 ++ [⟨j, (roomOf Dv (L.map strip) most).2.1.readS j, false, false, 0, 0⟩])
          else ((⟨#[]⟩, (roomOf Dv (L.map strip) most).1), (roomOf Dv (L.map strip) most).2.1, (roomOf Dv (L.map strip) most).2.2) := if_pos hb
    rw [eq, get_strip]
    cases hg : get L j with
    | some x =>
      refine (get_old h j hj hg (by omega)).mono ?_
      rintro e w' ⟨rfl, h1, h2⟩
      refine ⟨rfl, ⟨_, _, h1, ?_, by omega, hok.mono (by omega), data_last hd (hd x (get_some hg).1)⟩, h2⟩
      rw [List.map_append, ← but_strip]
      rfl
    | none =>
      rw [room_strip]
      dsimp only [Option.map_none]
      by_cases hr : (roomOf Dv L most).1 = 0
      · rw [if_pos hr]
        refine (get_new h (size_of hd) (by have := hok.acts; omega) j hj hg hr (by omega)).mono ?_
        rintro e w' ⟨rfl, ⟨id, h1⟩, h2⟩
        refine ⟨rfl, ⟨_, _, h1, ?_, by omega, hok.room L most, data_snoc (room_data (fun s => s.size = 128) Dv L most hd) ((hok.room L most).readS (by rw [room_len]; exact hj))⟩, h2⟩
        rw [List.map_append]
        rfl
      · rw [if_neg hr]
        refine (get_full h (size_of hd) (by have := hok.acts; omega) j hj hg hr).mono ?_
        rintro e w' ⟨rfl, h1, h2⟩
        exact ⟨rfl, ⟨_, _, h1, rfl, by omega, hok.room L most, room_data (fun s => s.size = 128) Dv L most hd⟩, h2⟩
  · have eq : getS Dv (L.map strip) most b = ((⟨#[]⟩, 60), Dv, L.map strip) := if_neg hb
    rw [eq]
    refine (get_no h b hb).mono ?_
    rintro e w' ⟨rfl, rfl⟩
    exact ⟨rfl, ⟨_, _, h, rfl, by omega, hok.mono (by omega), hd⟩, Fr.refl _ _ _⟩
theorem cs_put (h : CS B w cb db y Dv most l E k) (hk : k ≤ 900000000000) (b : Int) (data : ByteArray) (pin : Bool) :
    Calls Try.prog 20 #[.pointer (some ⟨cb, 0, none⟩), .int .i64 b, .string data, .bool pin] w fun e w' => e = .returned (.int .i64 (putS Dv l most b data pin).1) ∧ CS B w' cb db y (putS Dv l most b data pin).2.1 most (putS Dv l most b data pin).2.2 E (k + 1) ∧ Fr B E w w' := by
  obtain ⟨c, L, h, rfl, hc, hok, hd⟩ := h
  by_cases hb : 0 ≤ b ∧ b < Dv.kept.length
  · by_cases hs : data.size = 128
    · obtain ⟨j, rfl⟩ : ∃ j : Nat, b = (j : Int) := ⟨b.toNat, by omega⟩
      have hj : j < Dv.kept.length := by omega
      have eq : putS Dv (L.map strip) most (j : Int) data pin = match get (L.map strip) j with
          | some x => (0, Dv, but (L.map strip) j ++ [⟨j, data, true, pin || x.pinned, 0, 0⟩])
          | none => if (roomOf Dv (L.map strip) most).1 = 0 then (0, (roomOf Dv (L.map strip) most).2.1, (roomOf Dv (L.map strip) most).2.2 ++ [⟨j, data, true, pin, 0, 0⟩])
            else ((roomOf Dv (L.map strip) most).1, (roomOf Dv (L.map strip) most).2.1, (roomOf Dv (L.map strip) most).2.2) := by
        unfold putS
        rw [if_pos hb, if_neg (by simp [hs])]
        rfl
      rw [eq, get_strip]
      cases hg : get L j with
      | some x =>
        refine (put_old h j hj hg (by omega) data hs pin).mono ?_
        rintro e w' ⟨rfl, h1, h2⟩
        refine ⟨rfl, ⟨_, _, h1, ?_, by omega, hok.mono (by omega), data_last hd hs⟩, h2⟩
        rw [List.map_append, ← but_strip]
        have hxb := (get_some hg).2
        subst hxb
        rfl
      | none =>
        rw [room_strip]
        dsimp only [Option.map_none]
        by_cases hr : (roomOf Dv L most).1 = 0
        · rw [if_pos hr]
          refine (put_new h (size_of hd) (by have := hok.acts; omega) j hj hg hr (by omega) data hs pin).mono ?_
          rintro e w' ⟨rfl, ⟨id, h1⟩, h2⟩
          refine ⟨rfl, ⟨_, _, h1, ?_, by omega, hok.room L most, data_snoc (room_data (fun s => s.size = 128) Dv L most hd) hs⟩, h2⟩
          rw [List.map_append]
          rfl
        · rw [if_neg hr]
          refine (put_full h (size_of hd) (by have := hok.acts; omega) j hj hg hr data hs pin).mono ?_
          rintro e w' ⟨rfl, h1, h2⟩
          exact ⟨rfl, ⟨_, _, h1, rfl, by omega, hok.room L most, room_data (fun s => s.size = 128) Dv L most hd⟩, h2⟩
    · have eq : putS Dv (L.map strip) most b data pin = (2, Dv, L.map strip) := by
        unfold putS
        rw [if_pos hb, if_pos hs]
      rw [eq]
      refine (put_bad h b data hs pin).mono ?_
      rintro e w' ⟨rfl, rfl⟩
      have ea : askOf Dv.kept.length b = 0 := if_pos hb
      rw [if_pos ea]
      exact ⟨rfl, ⟨_, _, h, rfl, by omega, hok.mono (by omega), hd⟩, Fr.refl _ _ _⟩
  · have eq : putS Dv (L.map strip) most b data pin = (60, Dv, L.map strip) := if_neg hb
    rw [eq]
    refine (put_no h b hb data pin).mono ?_
    rintro e w' ⟨rfl, rfl⟩
    exact ⟨rfl, ⟨_, _, h, rfl, by omega, hok.mono (by omega), hd⟩, Fr.refl _ _ _⟩
def unpinS (Dv : Dev) (l : PL) (b : Int) : PL := atB l Dv.kept.length b fun j => turn l j unpin
def forgetS (Dv : Dev) (l : PL) (b : Int) : PL := atB l Dv.kept.length b fun j => but l j
theorem cs_unpin (h : CS B w cb db y Dv most l E k) (b : Int) :
    Calls Try.prog 18 #[.pointer (some ⟨cb, 0, none⟩), .int .i64 b] w fun e w' => e = .returned (.tuple #[]) ∧ CS B w' cb db y Dv most (unpinS Dv l b) E k ∧ Fr B (dblocks db y ++ E) w w' := by
  obtain ⟨c, L, h, rfl, hc, hok, hd⟩ := h
  refine (unpin_any h b).mono ?_
  rintro e w' ⟨rfl, h1, h2⟩
  refine ⟨rfl, ⟨_, _, h1, ?_, hc, hok, ?_⟩, h2⟩
  · unfold unpinS atB
    split
    · exact (turn_strip L b.toNat (f := unpin) (fun _ => rfl)).symm
    · rfl
  · unfold atB
    split
    · intro x hx
      obtain ⟨z, hz, rfl⟩ := List.mem_map.1 hx
      split
      · exact hd z hz
      · exact hd z hz
    · exact hd
theorem cs_forget (h : CS B w cb db y Dv most l E k) (b : Int) :
    Calls Try.prog 19 #[.pointer (some ⟨cb, 0, none⟩), .int .i64 b] w fun e w' => e = .returned (.tuple #[]) ∧ CS B w' cb db y Dv most (forgetS Dv l b) E k ∧ Fr B (dblocks db y ++ E) w w' := by
  obtain ⟨c, L, h, rfl, hc, hok, hd⟩ := h
  refine (forget_any h b).mono ?_
  rintro e w' ⟨rfl, h1, h2⟩
  refine ⟨rfl, ⟨_, _, h1, ?_, hc, hok, ?_⟩, h2⟩
  · unfold forgetS atB
    split
    · exact (but_strip L _).symm
    · rfl
  · unfold atB
    split
    · intro x hx
      exact hd x (but_mem.1 hx).1
    · exact hd
theorem cs_out (h : CS B w cb db y Dv most l E k) (hk : k ≤ 900000000000) (b : Int) :
    Calls Try.prog 22 #[.pointer (some ⟨cb, 0, none⟩), .int .i64 b] w fun e w' => e = .returned (.int .i64 (outB Dv l b).1) ∧ CS B w' cb db y (outB Dv l b).2.1 most (outB Dv l b).2.2 E (k + 1) ∧ Fr B E w w' := by
  obtain ⟨c, L, h, rfl, hc, hok, hd⟩ := h
  rw [outB_strip]
  refine (cout_any h b (size_of hd) (by have := hok.acts; omega)).mono ?_
  rintro e w' ⟨rfl, h1, h2⟩
  exact ⟨rfl, ⟨_, _, h1, rfl, by omega, hok.outB L b, outB_all (fun s => s.size = 128) Dv L b hd⟩, h2⟩
theorem cs_sync (h : CS B w cb db y Dv most l E k) (hk : k ≤ 900000000000) :
    Calls Try.prog 23 #[.pointer (some ⟨cb, 0, none⟩)] w fun e w' => e = .returned (.int .i64 (syncN Dv.kept.length 0 Dv l).1) ∧ CS B w' cb db y (syncN Dv.kept.length 0 Dv l).2.1 most (syncN Dv.kept.length 0 Dv l).2.2 E (k + 5000) ∧ Fr B E w w' := by
  have hpos := h.dev.pos
  obtain ⟨c, L, h, rfl, hc, hok, hd⟩ := h
  rw [sync_strip]
  refine (sync_any h (size_of hd) (by have := hok.acts; omega)).mono ?_
  rintro e w' ⟨rfl, h1, h2⟩
  exact ⟨rfl, ⟨_, _, h1, rfl, by omega, (Dev.Ok.sync Dv.kept.length 0 Dv L k hok).mono (by omega), sync_data (fun s => s.size = 128) _ _ Dv L hd⟩, h2⟩
theorem cs_has (h : CS B w cb db y Dv most l E k) (b : Int) :
    Calls Try.prog 13 #[.pointer (some ⟨cb, 0, none⟩), .int .i64 b] w fun e w' => e = .returned (.bool (hasOf l Dv.kept.length b)) ∧ w = w' := by
  obtain ⟨c, L, h, rfl, hc, hok, hd⟩ := h
  rw [has_strip]
  exact chas_any h b
theorem cs_dirty (h : CS B w cb db y Dv most l E k) :
    Calls Try.prog 15 #[.pointer (some ⟨cb, 0, none⟩)] w fun e w' => Listed w.heap.size (blocksOf l PB.dirty Dv.kept.length) e w' ∧ Below w.heap.size w w' := by
  obtain ⟨c, L, h, rfl, hc, hok, hd⟩ := h
  rw [blocks_strip L _ (fun _ => rfl)]
  exact dirty_any h
theorem cs_pinned (h : CS B w cb db y Dv most l E k) :
    Calls Try.prog 24 #[.pointer (some ⟨cb, 0, none⟩)] w fun e w' => Listed w.heap.size (blocksOf l PB.pinned Dv.kept.length) e w' ∧ Below w.heap.size w w' := by
  obtain ⟨c, L, h, rfl, hc, hok, hd⟩ := h
  rw [blocks_strip L _ (fun _ => rfl)]
  exact pinned_any h

/-! ### What others do -/
/-- The device is used by others; other memory is made. -/
theorem CS.dev_turn {Dv' : Dev} {S : List Nat} (h : CS B w cb db y Dv most l E k) (ho : Only S w w') (hS : ∀ j ∈ S, j ∈ dblocks db y ++ E) (hD : DevAt B w' db y Dv') (hl : Dv'.kept.length = Dv.kept.length) {k' : Nat} (hok' : Dv'.Ok k') (hk : k ≤ k') : CS B w' cb db y Dv' most l E k' := by
  obtain ⟨c, L, ⟨go, v, K, A, fr, cap, h⟩, rfl, hc, hok, hd⟩ := h
  refine ⟨c, L, ⟨go, v, K, A, fr, cap, ?_, hD, by rw [hl]; exact h.inv, h.q, h.out, h.cells, h.most, h.clock, h.apart⟩, rfl, by omega, hok', hd⟩
  rw [hl]
  exact h.raw.other ho (fun j hj => .inl (hS j hj))
theorem CS.only {S : List Nat} (h : CS B w cb db y Dv most l E k) (ho : Only S w w') (hS : ∀ j ∈ S, j ∈ E) : CS B w' cb db y Dv most l E k := by
  refine h.dev_turn ho (fun j hj => List.mem_append.2 (.inr (hS j hj))) ?_ rfl h.ok (Nat.le_refl _)
  have hb := h.dev.bounds2
  have hap : ∀ j ∈ E, j ∉ dblocks db y := by obtain ⟨c, L, ⟨go, v, K, A, fr, cap, h⟩, _⟩ := h; exact h.apart
  exact h.dev.frame (B' := 0) (E' := dblocks db y) ⟨ho.os, ho.tape, ho.output, ho.size, fun j hj hs => ho.block j hj (fun hm => hs.elim (fun h => absurd h (Nat.not_lt_zero _)) (fun h => hap j (hS j hm) h))⟩ (fun _ hk => hk)
theorem CS.below (h : CS B w cb db y Dv most l E k) (hb : Below w.heap.size w w') : CS B w' cb db y Dv most l E k := h.only (S := []) (Only.ofBelow hb) (fun _ hk => nomatch hk)
/-- Others have memory that they made since. -/
theorem CS.more {S : List Nat} (h : CS B w cb db y Dv most l E k) (ho : Only S w w') (hS : ∀ j ∈ S, j ∈ E) (E' : List Nat) (hE : ∀ j ∈ E', j < w'.heap.size ∧ (j ∈ E ∨ w.heap.size ≤ j)) : CS B w' cb db y Dv most l E' k := by
  have h2 := h.only ho hS
  have hb := h.dev.bounds2
  obtain ⟨c, L, ⟨go, v, K, A, fr, cap, h⟩, rfl, hc, hok, hd⟩ := h
  refine ⟨c, L, ⟨go, v, K, A, fr, cap, h.raw.more ho (fun j hj => .inl (List.mem_append.2 (.inr (hS j hj)))) _ (fun j hj => ?_), h2.dev, h.inv, h.q, h.out, h.cells, h.most, h.clock, fun j hj hm => ?_⟩, rfl, by omega, hok, hd⟩
  · rcases List.mem_append.1 hj with h1 | h1
    · exact ⟨by have := (hb j h1).2; have := ho.size; omega, .inl (List.mem_append.2 (.inl h1))⟩
    · exact ⟨(hE j h1).1, (hE j h1).2.elim (fun h => .inl (List.mem_append.2 (.inr h))) .inr⟩
  · rcases (hE j hj).2 with h1 | h1
    · exact h.apart j h1 hm
    · have := (hb j hm).2; omega

end Go.Proofs.Ytlickjaopbcanaa
