/- Devices: Kept. Devices: Crash. Devices: Crash, the walk. Devices: made. slices.Repeat of one string. Devices: New. What keeps of a device while it is used. No walk. -/
import Derived.Test.YtlickjaopbcanaaDevA
import Derived.Deep.RegionWith
import Derived.Deep.RegionLaw
namespace Go.Proofs.Ytlickjaopbcanaa
open Go Go.RowKit
variable {B b : Nat} {w : World} {y : Lay} {D : Dev}

def cat (l : List ByteArray) : List UInt8 := (l.map (·.data.toList)).flatten
def txt (l : List UInt8) : ByteArray := ⟨l.toArray⟩
theorem join_cat (l : List ByteArray) : Lib.join (l.map (·.data.toList)) [] = cat l := by
  cases l with
  | nil => rfl
  | cons x r =>
    rw [List.map_cons, Lib.join_cons]
    simp [cat, Lib.joinTail]
    rfl
def sized (l : List ByteArray) : Prop := ∀ s ∈ l, s.size = 128
theorem cat_length (l : List ByteArray) (h : sized l) : (cat l).length = l.length * 128 := by
  induction l with
  | nil => rfl
  | cons x r ih =>
    have h1 : x.data.toList.length = 128 := by rw [Array.length_toList]; exact h x (by simp)
    have h2 := ih (fun s hs => h s (by simp [hs]))
    simp only [cat, List.map_cons, List.flatten_cons, List.length_append, List.length_cons] at h2 ⊢
    omega

/-- The blocks of a row, joined. -/
theorem join_any (v : Value) (l : List ByteArray) (g cap B' : Nat) (hv : v = .slice (some ⟨g, 0, none⟩) l.length cap) (h : w.ownsRow B' 9 1 v l.length (strs l)) (hs : sized l) (hn : l.length ≤ 1000000) :
    Calls Try.prog 74 #[v, .string { data := #[] }] w fun e w' => e = .returned (.string (txt (cat l))) ∧ Below w.heap.size w w' := by
  subst hv
  have hc : l.length ≤ cap := by
    rcases h.2 with ⟨hv, _⟩ | ⟨g', cap', cur, hv, hb, hg, h1, _⟩
    · cases hv
    · cases hv; exact h1
  have := Try.strings_Join g 0 cap l { data := #[] } w (fun j x hx => by rw [Nat.zero_add]; exact own_cellAt h (by simp [strs, hx])) (h.lt _ rfl).2 (by omega) hc (by
    show (Lib.join _ []).length ≤ _
    rw [join_cat, cat_length _ hs]; omega)
  refine this.mono ?_
  rintro e w' ⟨rfl, hb⟩
  exact ⟨by rw [show (({ data := #[] } : ByteArray).data.toList) = [] from rfl, join_cat]; rfl, hb⟩

theorem kept_any (h : DevAt B w b y D) (hs : sized D.kept) : Calls Try.prog 39 #[.pointer (some ⟨b, 0, none⟩)] w fun e w' => e = .returned (.string (txt (cat D.kept))) ∧ Below w.heap.size w w' := by
  have c0 := h.c0
  have hj := Lib.hid (join_any _ D.kept y.gk y.ck B rfl h.kept hs (by have := h.pos; omega))
  clear h
  go_enter Try.func39, Try.ntmps39
  go_wp2_with fail
  refine hj.out.mono ?_
  rintro e w' ⟨rfl, hb⟩
  go_wp2_with fail
  go_ret
  exact ⟨rfl, hb⟩

end Go.Proofs.Ytlickjaopbcanaa

namespace Go.Proofs.Ytlickjaopbcanaa
open Go Go.RowKit
variable {B b : Nat} {w : World} {y : Lay} {D : Dev}

/-- A slice of Booleans in memory, whichever. -/
def BoolsAt (w : World) (ad : Option Addr) (l : List Bool) : Prop := ∀ i, i < l.length → ∃ g off, ad = some ⟨g, off, none⟩ ∧ w.cell? ⟨g, off + i, none⟩ = some (.bool (l.getD i false))
theorem BoolsAt.below {w' : World} {ad : Option Addr} {l : List Bool} (h : BoolsAt w ad l) (hb : Below w.heap.size w w') : BoolsAt w' ad l := by
  intro i hi
  obtain ⟨g, off, e, hc⟩ := h i hi
  exact ⟨g, off, e, (hb.cell (p := ⟨g, off + i, none⟩) (World.block_lt_of_cell? w _ hc)).trans hc⟩

/-- The blocks behind so many of the pending ones. -/
def crashTo (D : Dev) (P : List Nat) (keep : List Bool) : Nat → List ByteArray
  | 0 => D.kept
  | i + 1 => if keep.getD i false then (crashTo D P keep i).set (P.getD i 0) (D.now.getD (P.getD i 0) ⟨#[]⟩) else crashTo D P keep i
theorem crashTo_length (D : Dev) (P : List Nat) (keep : List Bool) (i : Nat) : (crashTo D P keep i).length = D.kept.length := by
  induction i with
  | zero => rfl
  | succ i ih =>
    show (if keep.getD i false = true then (crashTo D P keep i).set (P.getD i 0) (D.now.getD (P.getD i 0) ⟨#[]⟩) else crashTo D P keep i).length = _
    split
    · rw [List.length_set]; exact ih
    · exact ih
theorem pendTo_lt (l : List Bool) (k : Nat) : ∀ n ∈ pendTo l k, n < k := by
  induction k with
  | zero => intro n hn; simp [pendTo] at hn
  | succ k ih =>
    intro n hn
    change n ∈ (if l.getD k false = true then pendTo l k ++ [k] else pendTo l k) at hn
    split at hn
    · rcases List.mem_append.1 hn with h | h
      · have := ih n h; omega
      · simp at h; omega
    · have := ih n hn; omega
theorem crashTo_sized (D : Dev) (P : List Nat) (keep : List Bool) (h1 : sized D.kept) (h2 : sized D.now) (hl : D.now.length = D.kept.length) (hP : ∀ n ∈ P, n < D.kept.length) : ∀ i, i ≤ P.length → sized (crashTo D P keep i) := by
  intro i
  induction i with
  | zero => intro _; exact h1
  | succ i ih =>
    intro hi
    show sized (if keep.getD i false = true then (crashTo D P keep i).set (P.getD i 0) (D.now.getD (P.getD i 0) ⟨#[]⟩) else crashTo D P keep i)
    split
    · intro s hs
      rcases List.mem_or_eq_of_mem_set hs with h | h
      · exact ih (by omega) s h
      · subst h
        have hp : P.getD i 0 < D.now.length := by
          rw [hl]; exact hP _ (by simp [List.getD, show i < P.length by omega])
        generalize P.getD i 0 = q at hp
        have e : D.now.getD q ⟨#[]⟩ = D.now[q] := by simp [List.getD, hp]
        rw [e]
        exact h2 _ (List.getElem_mem hp)
    · exact ih (by omega)

end Go.Proofs.Ytlickjaopbcanaa

namespace Go.Proofs.Ytlickjaopbcanaa
open Go Go.RowKit
variable {B b : Nat} {w : World} {y : Lay} {D : Dev}

/-- What a crash leaves. -/
def Dev.crash (D : Dev) (keep : List Bool) : List ByteArray := crashTo D (pendTo D.pend D.pend.length) keep (pendTo D.pend D.pend.length).length

theorem natVs_at (l : List Nat) (i : Nat) (h : i < l.length) : (natVs l)[i]? = some (.int .i64 (l.getD i 0 : Nat)) := by simp [natVs, List.getD, h]

theorem own_some {B n : Nat} {T : TypeId} {v : Value} {xs : List Value} {size : Nat} (h : w.ownsRow B T size v n xs) (hn : 0 < n) : ∃ g cap, v = .slice (some ⟨g, 0, none⟩) n cap := by
  rcases h.2 with ⟨_, h0⟩ | ⟨g, cap, cur, rfl, _⟩
  · omega
  · exact ⟨_, _, rfl⟩
theorem own_opens {B n : Nat} {T : TypeId} {v : Value} {xs : List Value} {size : Nat} (h : w.ownsRow B T size v n xs) : ∃ ad cap, v = .slice ad n cap ∧ (0 < n → ∃ g, ad = some ⟨g, 0, none⟩ ∧ B ≤ g) := by
  rcases h.2 with ⟨rfl, hn⟩ | ⟨g, cap, cur, rfl, hg, _⟩
  · subst hn; exact ⟨_, _, rfl, fun h => absurd h (Nat.lt_irrefl _)⟩
  · exact ⟨_, _, rfl, fun _ => ⟨g, rfl, hg⟩⟩

set_option maxHeartbeats 2000000 in
theorem crash_any (h : DevAt B w b y D) (h1 : sized D.kept) (h2 : sized D.now) (ad : Option Addr) (cap : Nat) (keep : List Bool) (hk : BoolsAt w ad keep) (hkl : keep.length ≤ 9223372036854775807) :
    Calls Try.prog 41 #[.pointer (some ⟨b, 0, none⟩), .slice ad keep.length cap] w fun e w' => e = .returned (.string (txt (cat (D.crash keep)))) ∧ Below w.heap.size w w' := by
  have hlen : D.now.length = D.kept.length := by have := h.now.1; simpa [strs] using this
  have hpl : D.pend.length = D.kept.length := by have := h.pend.1; simpa [bools] using this
  have hcl := Try.slices_Clone_string y.gk 0 D.kept.length y.ck D.kept w (Nat.le_refl _) (by have := h.pos; omega) (fun j hj => by
    rw [Nat.zero_add]; exact own_cellAt h.kept (by simp [strs, List.getD, hj, ByteArray.empty, ByteArray.emptyWithCapacity]))
  rw [List.take_length] at hcl
  have HCL := Lib.hid hcl
  have H := Lib.hid h
  have hp := h.pos
  have c0 := h.c0
  have hcr := Lib.hid (crashTo_sized D (pendTo D.pend D.pend.length) keep h1 h2 hlen (fun n hn => by have := pendTo_lt _ _ n hn; omega))
  have hPlt : ∀ n ∈ pendTo D.pend D.pend.length, n < D.kept.length := fun n hn => by have := pendTo_lt _ _ n hn; omega
  have hPl : (pendTo D.pend D.pend.length).length ≤ D.kept.length := by have := pendTo_length D.pend D.pend.length; omega
  unfold Dev.crash
  have hcl0 := fun i => crashTo_length D (pendTo D.pend D.pend.length) keep i
  have hpend := fun w (h : DevAt B w b y D) => pending_any h
  have HK := Lib.hid hk
  clear h hcl hk
  generalize pendTo D.pend D.pend.length = P at *
  go_enter Try.func41, Try.ntmps41
  go_wp2_with fail
  refine HCL.out.mono ?_
  rintro e w1 ⟨v1, rfl, o1, _, hb1⟩
  have H1 := H.out.below hb1
  go_wp2_with fail
  refine (hpend w1 H1).mono ?_
  rintro e w2 ⟨v2, rfl, o2, hb2⟩
  have H2 := Lib.hid (H1.below hb2)
  have K2 := Lib.hid ((HK.out.below hb1).below hb2)
  have B2 := hb1.trans (hb2.mono hb1.size)
  have O1 := Lib.hid (own_below o1 hb2)
  have O2 := Lib.hid o2
  obtain ⟨g1, cap1, rfl⟩ := own_some o1 hp.1
  obtain ⟨ad2, cap2, rfl, had2⟩ := own_opens o2
  have lg1 := (o1.lt g1 rfl)
  have HAD := Lib.hid had2
  have HP := Lib.hid hPlt
  have HL := Lib.hid hlen
  have HB2 := Lib.hid B2
  have hl0 : crashTo D P keep 0 = D.kept := rfl
  have HL0 := Lib.hid hl0
  have HCL0 := Lib.hid hcl0
  clear H1 o1 o2 had2 hPlt hlen B2 hb1 hb2 hl0 hcl0 h1 h2 hpend HCL H2 K2 c0 hpl
  go_wp2_with fail
  go_loopw [18] (fun q wr => ∃ i : Nat, i ≤ P.length ∧ q = .int .i64 i ∧ Hid (wr.ownsRow w.heap.size 9 1 (.slice (some ⟨g1, 0, none⟩) D.kept.length cap1) D.kept.length (strs (crashTo D P keep i))) ∧
    Hid (wr.ownsRow w1.heap.size 3 1 (.slice ad2 P.length cap2) P.length (natVs P)) ∧ Hid (Below w.heap.size w wr)) (fun q _ => P.length - (intOf q).toNat)
  case atStart => exact ⟨0, by omega, rfl, by rw [HL0.out]; exact O1, O2, HB2⟩
  case round =>
    obtain ⟨i, hi, rfl, hr, hq, hbw⟩ := hrel
    by_cases hlt : i < P.length
    · obtain ⟨g2, rfl, hg2⟩ := HAD.out (by omega)
      have z1 := own_cellAt hq.out (natVs_at P i hlt)
      have hqn : P.getD i 0 < D.kept.length := HP.out _ (by simp [List.getD, hlt])
      have hstep : Hid (crashTo D P keep (i + 1) = if keep.getD i false = true then (crashTo D P keep i).set (P.getD i 0) (D.now.getD (P.getD i 0) ⟨#[]⟩) else crashTo D P keep i) := Lib.hid rfl
      have HD := H.out.below hbw.out
      have HKK := HK.out.below hbw.out
      have c1 := HD.c1
      generalize P.getD i 0 = q at *
      have z2 : wr.cell? ⟨y.gn, q, none⟩ = some (.string (D.now.getD q ⟨#[]⟩)) := own_cellAt HD.now (by rw [← HL.out] at hqn; simp [strs, List.getD, hqn])
      have z3 : ∃ u, wr.cell? ⟨g1, q, none⟩ = some u := ⟨_, own_cellAt hr.out (List.getElem?_eq_getElem (by rw [hr.out.1]; omega))⟩
      have z4 := ownsRow_free1 hr.out q
      generalize D.now.getD q ⟨#[]⟩ = t at *
      obtain ⟨u, z3⟩ := z3
      have i0 : (0 : Int) ≤ (i : Int) := by omega
      have i1 : (i : Int) < (P.length : Int) := by omega
      have j0 : (0 : Int) ≤ (q : Int) := by omega
      have j1 : (q : Int) < (D.kept.length : Int) := by omega
      by_cases hik : i < keep.length
      · obtain ⟨g3, off3, rfl, z5⟩ := HKK i hik
        clear HD HKK
        cases hb : keep.getD i false
        · rw [hb] at z5 hstep
          simp only [Bool.false_eq_true, if_false] at hstep
          clear hb
          go_wp2_with fail
          go_roundw
          case rel => exact ⟨i + 1, by omega, by go_num, by rw [hstep.out]; exact hr, hq, hbw⟩
          case measure => simp [intOf]; omega
        · rw [hb] at z5 hstep
          simp only [if_true] at hstep
          clear hb
          go_wp2_with fail
          go_roundw
          case rel =>
            refine ⟨i + 1, by omega, by go_num, ?_, ?_, ?_⟩
            · rw [hstep.out]
              refine Lib.hid ?_
              have := ownsRow_set hr.out q (.string t)
              simpa [strs, List.map_set] using this
            · exact Lib.hid (ownsRow_setCell_other hq.out (by simp [Value.ownBlock]; omega) _)
            · exact Lib.hid (hbw.out.setCell (by dsimp only; omega) _)
          case measure => simp [intOf]; omega
      · have hb : keep.getD i false = false := by simp [List.getD, List.getElem?_eq_none (Nat.not_lt.1 hik)]
        rw [hb] at hstep
        simp only [Bool.false_eq_true, if_false] at hstep
        clear HD HKK hb
        go_wp2_with fail
        go_roundw
        case rel => exact ⟨i + 1, by omega, by go_num, by rw [hstep.out]; exact hr, hq, hbw⟩
        case measure => simp [intOf]; omega
    · obtain rfl : i = P.length := by omega
      have hj := join_any (w := wr) (.slice (some ⟨g1, 0, none⟩) D.kept.length cap1) (crashTo D P keep P.length) g1 cap1 w.heap.size (by rw [HCL0.out]) (by rw [HCL0.out]; exact hr.out) (hcr.out _ (Nat.le_refl _)) (by rw [HCL0.out]; omega)
      have HJ := Lib.hid hj
      clear hj
      obtain ⟨C, hC⟩ : ∃ C, crashTo D P keep P.length = C := ⟨_, rfl⟩
      rw [hC] at HJ
      have HC := Lib.hid hC
      clear hC
      go_wp2_with fail
      refine HJ.out.mono ?_
      rintro e w5 ⟨rfl, hb5⟩
      have B5 := hbw.out.trans (hb5.mono hbw.out.size)
      go_wp2_with fail
      go_ret
      exact ⟨by rw [HC.out]; rfl, B5⟩

end Go.Proofs.Ytlickjaopbcanaa

namespace Go.Proofs.Ytlickjaopbcanaa
open Go Go.RowKit
variable {B b : Nat} {w : World} {y : Lay} {D : Dev}

def Dev.fresh (l : List ByteArray) : Dev := ⟨l, l, List.replicate l.length false, false, 0, 0⟩

theorem info_bool : (Try.prog.info? 4).map (fun i => (i.zero, i.size, i.bytes)) = some (some (.bool false), 1, 1) := by kernel_rfl


theorem own_mono {n size B' : Nat} {T : TypeId} {v : Value} {xs : List Value} (h : w.ownsRow B T size v n xs) (hb : B' ≤ B) : w.ownsRow B' T size v n xs := by
  refine ⟨h.1, ?_⟩
  rcases h.2 with h2 | ⟨g, cap, cur, hv, hg, r⟩
  · exact .inl h2
  · exact .inr ⟨g, cap, cur, hv, by omega, r⟩

theorem own_falses (w : World) (T : TypeId) (n : Nat) (hb : B ≤ w.heap.size) (hn : n ≤ 1000000) : (w.alloc (.cells (Array.replicate n (.bool false)) T)).ownsRow B T 1 (.slice (some ⟨w.heap.size, 0, none⟩) n n) n (bools (List.replicate n false)) := by
  refine ⟨by simp [bools], .inr ⟨w.heap.size, n, _, rfl, hb, heap_alloc_new w _, Nat.le_refl _, by unfold maxLen; omega, by simp, by simp [bools]⟩⟩

/-- The struct is laid over its three rows. -/
theorem DevAt.lay (l : List ByteArray) (n gk ck gn cn gp cp : Nat) (hn : l.length = n) (hp : 0 < n ∧ n ≤ 4096)
    (h1 : w.ownsRow B 9 1 (.slice (some ⟨gk, 0, none⟩) n ck) n (strs l)) (h2 : w.ownsRow B 9 1 (.slice (some ⟨gn, 0, none⟩) n cn) n (strs l)) (h3 : w.ownsRow B 4 1 (.slice (some ⟨gp, 0, none⟩) n cp) n (bools (List.replicate n false)))
    (ne : gk ≠ gn ∧ gk ≠ gp ∧ gn ≠ gp) :
    DevAt B (w.alloc (.cells #[.slice (some ⟨gk, 0, none⟩) n ck, .slice (some ⟨gn, 0, none⟩) n cn, .slice (some ⟨gp, 0, none⟩) n cp, .bool false, .int .i64 0, .int .i64 0] 45)) w.heap.size ⟨gk, ck, gn, cn, gp, cp⟩ (Dev.fresh l) := by
  subst hn
  have k1 : B ≤ gk ∧ gk < w.heap.size := h1.lt _ rfl
  have k2 : B ≤ gn ∧ gn < w.heap.size := h2.lt _ rfl
  have k3 : B ≤ gp ∧ gp < w.heap.size := h3.lt _ rfl
  exact ⟨by omega, Row.new w _ [_, _, _, _, _, _] rfl, h1.alloc _, h2.alloc _, h3.alloc _, by dsimp only; omega, hp, by simp [Dev.fresh], by simp [Dev.fresh]⟩

set_option maxHeartbeats 1000000 in
theorem made_any (l : List ByteArray) (g c : Nat) (hv : w.ownsRow B 9 1 (.slice (some ⟨g, 0, none⟩) l.length c) l.length (strs l)) (hp : 0 < l.length ∧ l.length ≤ 4096) :
    Calls Try.prog 60 #[.slice (some ⟨g, 0, none⟩) l.length c] w fun e w' => ∃ b, e = .returned (.pointer (some ⟨b, 0, none⟩)) ∧ (∃ y, DevAt B w' b y (Dev.fresh l)) ∧ w.heap.size ≤ b ∧ Below w.heap.size w w' := by
  have hcl : Hid (∀ w', Below w.heap.size w w' → Calls Try.prog 75 #[.slice (some ⟨g, 0, none⟩) l.length c] w' fun e w2 => ∃ v', e = .returned v' ∧ w2.ownsRow w'.heap.size 9 1 v' l.length (strs l) ∧ v' ≠ .slice none 0 0 ∧ Below w'.heap.size w' w2) := Lib.hid fun w' hb => by
    have hcl := Try.slices_Clone_string g 0 l.length c l w' (Nat.le_refl _) (by omega) (fun j hj => by
      rw [Nat.zero_add]; exact own_cellAt (own_below hv hb) (by simp [strs, List.getD, hj, ByteArray.empty, ByteArray.emptyWithCapacity]))
    rw [List.take_length] at hcl
    exact hcl
  have HV := Lib.hid hv
  obtain ⟨ib, hib, hzb, hsb, hbb⟩ := info_parts info_bool
  have hmk : ∀ wx : World, (Instr.makeSlice 43 (.int .i64 (l.length : Int)) (.int .i64 (l.length : Int))).run Try.prog wx = .ok (.slice (some ⟨wx.heap.size, 0, none⟩) l.length l.length) (wx.alloc (.cells (List.replicate l.length (.bool false)).toArray 4)) := fun wx => by
    have hr := run_make (P := Try.prog) wx 43 4 ib (.bool false) Try.underlying43 hib hzb .i64 .i64 l.length l.length (by omega) (by omega) (by rw [hbb]; omega) (by omega)
    simpa [hsb, Value.cells, madeCells_one] using hr
  clear hv
  generalize hn : l.length = n at *
  go_enter Try.func60, Try.ntmps60
  go_wp2_with fail
  go_region_with (go_at_call 75; refine (hcl.out _ (by first | exact (Below.refl _ _).drew | exact (Below.refl _ _).drew.alloc (Nat.le_refl _) _)).mono ?_; rintro e wc ⟨vc, rfl, oc, _, bc⟩; obtain ⟨gc, cc, rfl⟩ := own_some oc hp.1)
  · have bc' : Below w.heap.size w wc := ⟨bc.os, bc.tape, bc.output, bc.size, bc.block⟩
    have oc' : wc.ownsRow w.heap.size 9 1 (.slice (some ⟨gc, 0, none⟩) n cc) n (strs l) := oc
    have HB : B ≤ g ∧ g < w.heap.size := HV.out.lt _ rfl
    have o1 := own_below HV.out bc'
    have kc : w.heap.size ≤ gc ∧ gc < wc.heap.size := oc'.lt _ rfl
    have H := Lib.hid (DevAt.lay (w := wc.alloc (.cells (Array.replicate n (.bool false)) 4)) l n g c gc cc wc.heap.size n hn hp (o1.alloc _) ((own_mono oc' (by omega)).alloc _) (own_falses wc _ n (by omega) (by omega)) (by omega))
    have hb2 : Hid (Below w.heap.size w ((wc.alloc (.cells (Array.replicate n (.bool false)) 4)).alloc (.cells #[.slice (some ⟨g, 0, none⟩) n c, .slice (some ⟨gc, 0, none⟩) n cc, .slice (some ⟨wc.heap.size, 0, none⟩) n n, .bool false, .int .i64 0, .int .i64 0] 45))) := Lib.hid ((bc'.alloc bc'.size _).alloc (by have := bc'.size; simp; omega) _)
    have hs := bc'.size
    simp only [World.size_alloc] at H
    clear oc oc' bc bc' o1 hcl hmk
    go_wp2_with fail
    go_ret
    exact ⟨_, rfl, ⟨_, H.out⟩, by omega, hb2.out⟩
  · have bc' : Below (w.heap.size + 1) (w.alloc (.cells (Array.replicate n (.bool false)) 4)) wc := by
      have e : w.heap.size + 1 = (w.alloc (.cells (Array.replicate n (.bool false)) 4)).drew.heap.size := (World.size_alloc w _).symm
      rw [e]; exact ⟨bc.os, bc.tape, bc.output, bc.size, bc.block⟩
    have oc' : wc.ownsRow (w.heap.size + 1) 9 1 (.slice (some ⟨gc, 0, none⟩) n cc) n (strs l) := by
      have e : w.heap.size + 1 = (w.alloc (.cells (Array.replicate n (.bool false)) 4)).drew.heap.size := (World.size_alloc w _).symm
      rw [e]; exact oc
    have HB : B ≤ g ∧ g < w.heap.size := HV.out.lt _ rfl
    have kc : w.heap.size + 1 ≤ gc ∧ gc < wc.heap.size := oc'.lt _ rfl
    have bc2 : Below (w.alloc (.cells (Array.replicate n (.bool false)) 4)).heap.size (w.alloc (.cells (Array.replicate n (.bool false)) 4)) wc := by simpa using bc'
    have H := Lib.hid (DevAt.lay (w := wc) l n g c gc cc w.heap.size n hn hp (own_below (HV.out.alloc _) bc2) (own_mono oc' (by omega)) (own_below (own_falses w _ n (by omega) (by omega)) bc2) (by omega))
    have hb3 : Below w.heap.size w wc := ((Below.refl _ _).alloc (Nat.le_refl _) _).trans (bc'.mono (by omega))
    have hs := hb3.size
    have hb2 : Hid (Below w.heap.size w (wc.alloc (.cells #[.slice (some ⟨g, 0, none⟩) n c, .slice (some ⟨gc, 0, none⟩) n cc, .slice (some ⟨w.heap.size, 0, none⟩) n n, .bool false, .int .i64 0, .int .i64 0] 45))) := Lib.hid (hb3.alloc hb3.size _)
    clear oc oc' bc bc' bc2 hb3 hcl hmk
    go_wp2_with fail
    go_ret
    exact ⟨_, rfl, ⟨_, H.out⟩, by omega, hb2.out⟩

end Go.Proofs.Ytlickjaopbcanaa

namespace Go.Proofs.Ytlickjaopbcanaa
open Go Go.RowKit
variable {B b : Nat} {w : World} {y : Lay} {D : Dev}

def repTo (s : ByteArray) (n k : Nat) : List Value := List.replicate k (.string s) ++ List.replicate (n - k) (.string ⟨#[]⟩)
theorem repTo_length (s : ByteArray) (n k : Nat) (h : k ≤ n) : (repTo s n k).length = n := by simp [repTo]; omega
theorem repTo_zero (s : ByteArray) (n : Nat) : repTo s n 0 = List.replicate n (.string ⟨#[]⟩) := by simp [repTo]
theorem repTo_splice (s : ByteArray) (n k m : Nat) (_h : k + m ≤ n) : splice (repTo s n k) k (List.replicate m (.string s)) = repTo s n (k + m) := by
  unfold splice repTo
  rw [List.take_left' (by simp), List.length_replicate, List.drop_append, List.drop_replicate, List.length_replicate, List.drop_replicate, ← List.append_assoc, ← List.append_assoc, List.replicate_append_replicate]
  rw [show k - (k + m) = 0 by omega, show k + m - k = m by omega, show n - k - m = n - (k + m) by omega]
  simp
theorem repTo_at (s : ByteArray) (n k j : Nat) (h : j < k) : (repTo s n k)[j]? = some (.string s) := by
  unfold repTo
  rw [List.getElem?_append_left (by simpa using h)]
  simp [h]

theorem info_string : (Try.prog.info? 9).map (fun i => (i.zero, i.size, i.bytes)) = some (some (.string ⟨#[]⟩), 1, 16) := by kernel_rfl

set_option maxRecDepth 100000 in
set_option maxHeartbeats 1000000 in
theorem repeat_any (s : ByteArray) (n g c : Nat) (hg : w.cell? ⟨g, 0, none⟩ = some (.string s)) (hn : 1 ≤ n ∧ n ≤ 4096) :
    Calls Try.prog 61 #[.slice (some ⟨g, 0, none⟩) 1 c, .int .i64 n] w fun e w' => ∃ g2, e = .returned (.slice (some ⟨g2, 0, none⟩) n n) ∧ w'.ownsRow w.heap.size 9 1 (.slice (some ⟨g2, 0, none⟩) n n) n (strs (List.replicate n s)) ∧ Below w.heap.size w w' := by
  have hmul : Hid (∀ w, Calls Try.prog 83 #[.int .u64 1, .int .u64 (n : Int)] w fun e w' => e = .returned (.tuple #[.int .u64 0, .int .u64 (n : Int)]) ∧ w' = w) := Lib.hid (fun w => by
    have := Try.bits_Mul 1 n (by decide) (by omega) w
    rwa [show 1 * n / 18446744073709551616 = 0 by omega, show 1 * n % 18446744073709551616 = n by omega] at this)
  obtain ⟨ib, hib, hzb, hsb, hbb⟩ := info_parts info_string
  have hmk : ∀ wx : World, (Instr.makeSlice 42 (.int .i64 (n : Int)) (.int .i64 (n : Int))).run Try.prog wx = .ok (.slice (some ⟨wx.heap.size, 0, none⟩) n n) (wx.alloc (.cells (repTo s n 0).toArray 9)) := fun wx => by
    have hr := run_make (P := Try.prog) wx 42 9 ib (.string ⟨#[]⟩) Try.underlying42 hib hzb .i64 .i64 n n (by omega) (by omega) (by rw [hbb]; omega) (by omega)
    rw [repTo_zero]
    simpa [hsb, Value.cells, madeCells_one] using hr
  go_enter Try.func61, Try.ntmps61
  go_wp2_with fail
  refine (hmul.out _).mono ?_
  rintro e w' ⟨rfl, rfl⟩
  have q1 : ([.string s] : List Value).length = Nat.min 1 n := by simp only [List.length_singleton, Nat.min_def]; split <;> omega
  have q2 : 0 + ([.string s] : List Value).length ≤ (repTo s n 0).length := by rw [repTo_length _ _ _ (Nat.zero_le n), List.length_singleton]; omega
  have q3 : ∀ v ∈ ([.string s] : List Value), v.oneCell' = true := by simp [Value.oneCell']
  have q4 : Below w'.heap.size w' (w'.alloc (.cells (repTo s n 0).toArray 9)) := (Below.refl _ _).alloc (Nat.le_refl _) _
  have q5 : ∀ j v, ([.string s] : List Value)[j]? = some v → (w'.alloc (.cells (repTo s n 0).toArray 9)).cell? ((⟨g, 0, none⟩ : Addr).add j) = some v := fun j v hj => by
    cases j with
    | zero => simp at hj; subst hj; exact (q4.cell (p := ⟨g, 0, none⟩) (World.block_lt_of_cell? _ _ hg)).trans hg
    | succ j => simp at hj
  go_wp2_with (first
    | (refine wpList_copy_splice rfl (.tmp 31) (.tmp 32) 42 42 rfl 9 Try.underlying42 (by kernel_rfl) (some ⟨w'.heap.size, 0, none⟩) (some ⟨g, 0, none⟩) n n 1 c rfl rfl w'.heap.size 0 (repTo s n 0) 9 (heap_alloc_new w' _) [.string s] q1 (fun _ => ⟨rfl, ⟨g, 0, none⟩, rfl, q5⟩) q2 q3 w'.heap.size w' q4 (Nat.le_refl _) ?_))
  intro w1 hg1 hb1
  have hg2 : Hid (w1.heap[w'.heap.size]? = some (.cells (repTo s n 1).toArray 9 (0, 0))) := Lib.hid (by
    have := repTo_splice s n 0 1 (by omega)
    rw [List.replicate_one] at this
    rw [← this]; exact hg1.out)
  clear hg1 hg hmul hmk
  have HB1 := Lib.hid hb1
  clear hb1
  go_wp2_with fail
  go_loopw [8] (fun q wr => ∃ k : Nat, 1 ≤ k ∧ k ≤ n ∧ q = .int .i64 k ∧ Hid (wr.heap[w'.heap.size]? = some (.cells (repTo s n k).toArray 9 (0, 0))) ∧ Hid (Below w'.heap.size w' wr)) (fun q _ => n - (intOf q).toNat)
  case atStart => exact ⟨1, by omega, by omega, rfl, hg2, HB1⟩
  case round =>
    obtain ⟨k, h1, h2, rfl, hr, hbw⟩ := hrel
    by_cases hlt : k < n
    · have i1 : (k : Int) < (n : Int) := by omega
      have hlen := repTo_length s n k h2
      obtain ⟨m, hm, hm1, hm2, hm3⟩ : ∃ m, m = Nat.min k (n - k) ∧ 1 ≤ m ∧ m ≤ k ∧ m ≤ n - k := ⟨_, rfl, by simp only [Nat.min_def]; split <;> omega, by simp only [Nat.min_def]; split <;> omega, by simp only [Nat.min_def]; split <;> omega⟩
      have r1 : (List.replicate m (Value.string s)).length = m := List.length_replicate
      have r3 : ∀ v ∈ List.replicate m (Value.string s), v.oneCell' = true := by intro v hv; rw [(List.mem_replicate.1 hv).2]; rfl
      have r5 : ∀ j v, (List.replicate m (Value.string s))[j]? = some v → wr.drew.cell? ((⟨w'.heap.size, 0, none⟩ : Addr).add j) = some v := fun j v hj => by
        have hj2 : j < m := by have := List.getElem?_eq_some_iff.1 hj; obtain ⟨h, _⟩ := this; rwa [r1] at h
        have e1 : (⟨w'.heap.size, 0, none⟩ : Addr).add j = ⟨w'.heap.size, j, none⟩ := by unfold Addr.add; split <;> simp_all
        rw [e1, cell_of_row wr.drew w'.heap.size j _ _ _ hr.out]
        have := repTo_at s n k j (by omega)
        have e2 : v = .string s := by
          obtain ⟨h, e⟩ := List.getElem?_eq_some_iff.1 hj; rw [← e]; simp
        rw [e2]; simpa using this
      have hnk : ¬ n = k := by omega
      have hwm : IntKind.i64.wrap ((k : Int) + (m : Int)) = ((k + m : Nat) : Int) := by rw [IntKind.wrap_i64]; omega
      have HM := Lib.hid hm
      have R5 := Lib.hid r5
      have R3 := Lib.hid r3
      have R1 := Lib.hid r1
      have hsp := Lib.hid (repTo_splice s n k m (by omega))
      have HN := Lib.hid hn
      clear hm r1 r3 r5 q1 q2 q3 q4 q5
      generalize List.replicate m (Value.string s) = CS at *
      go_wp2_with fail
      go_region_law (refine step_copy_splice rfl (.tmp 41) (.tmp 44) 42 42 rfl 9 Try.underlying42 (by kernel_rfl) (some ⟨w'.heap.size, k, none⟩) (some ⟨w'.heap.size, 0, none⟩) (n - k) (n - k) k n (by simp [Act.eval, Act.put]; done) (by simp [Act.eval, Act.put]; done) w'.heap.size k (repTo s n k) 9 hr.out CS (by rw [R1.out]; exact HM.out) (fun _ => ⟨rfl, ⟨w'.heap.size, 0, none⟩, rfl, R5.out⟩) (by rw [R1.out, hlen]; omega) R3.out w'.heap.size w' hbw.out.drew (Nat.le_refl _) ?_; intro w4 hg4 hb4; rw [R1.out])
      go_simp
      go_roundw
      case rel => exact ⟨_, _, _, _, _, _, _, _, _, _, _, _, _, _, ⟨k + m, by omega, by omega, rfl, by rw [← hsp.out]; exact hg4, Lib.hid hb4⟩, rfl⟩
      case measure => simp [intOf]; omega
    · obtain rfl : k = n := by omega
      go_wp2_with fail
      go_ret
      have hrow : (strs (List.replicate k s)) = repTo s k k := by simp [strs, repTo]
      exact ⟨w'.heap.size, rfl, ⟨by simp [strs], .inr ⟨_, _, _, rfl, Nat.le_refl _, hr.out, Nat.le_refl _, by unfold maxLen; omega, by simp [repTo], by rw [hrow]; simp [repTo]⟩⟩, hbw.out⟩

end Go.Proofs.Ytlickjaopbcanaa

namespace Go.Proofs.Ytlickjaopbcanaa
open Go Go.RowKit
variable {B b : Nat} {w : World} {y : Lay} {D : Dev}

/-- A block of zeros. -/
def zblock : ByteArray := txt (List.replicate 128 0)
theorem zblock_size : zblock.size = 128 := by simp [zblock, txt, ByteArray.size]

theorem repeat_zero : Lib.repeatL (⟨#[0]⟩ : ByteArray).data.toList 128 = List.replicate 128 0 := by decide +kernel

theorem newdev_none (i : Int) (hi : -9223372036854775808 ≤ i ∧ i ≤ 9223372036854775807) (h : i < 1 ∨ 4096 < i) :
    Calls Try.prog 32 #[.int .i64 i] w fun e w' => e = .returned (.tuple #[.pointer none, .int .i64 2]) ∧ w = w' := by
  by_cases h1 : i < 1
  · go_enter Try.func32, Try.ntmps32
    go_wp2_with fail
    exact bodyPost_ret (v := .tuple #[.pointer none, .int .i64 2]) (by simp [results, Try.results32, go_sem]) rfl ⟨rfl, rfl⟩
  · have h2 : 4096 < i := by omega
    go_enter Try.func32, Try.ntmps32
    go_wp2_with fail
    exact bodyPost_ret (v := .tuple #[.pointer none, .int .i64 2]) (by simp [results, Try.results32, go_sem]) rfl ⟨rfl, rfl⟩

theorem newdev_any (n : Nat) (hn : 1 ≤ n ∧ n ≤ 4096) :
    Calls Try.prog 32 #[.int .i64 n] w fun e w' => ∃ b, e = .returned (.tuple #[.pointer (some ⟨b, 0, none⟩), .int .i64 0]) ∧ (∃ y, DevAt w.heap.size w' b y (Dev.fresh (List.replicate n zblock))) ∧ Below w.heap.size w w' := by
  have hz : Hid (∀ w, Calls Try.prog 62 #[.string ⟨#[0]⟩, .int .i64 128] w fun e w' => e = .returned (.string zblock) ∧ Below w.heap.size w w') := Lib.hid fun w => by
    have := Try.strings_Repeat ⟨#[0]⟩ 128 w (by decide) (by decide)
    have e : (⟨(Lib.repeatL (⟨#[0]⟩ : ByteArray).data.toList 128).toArray⟩ : ByteArray) = zblock := by
      exact congrArg (fun l : List UInt8 => (⟨l.toArray⟩ : ByteArray)) repeat_zero
    rw [e] at this
    exact this
  have hr := fun (w : World) (g : Nat) (c : Nat) hg => repeat_any (w := w) zblock n g c hg hn
  have hm : Hid (∀ (w : World) (B g c : Nat), w.ownsRow B 9 1 (.slice (some ⟨g, 0, none⟩) n c) n (strs (List.replicate n zblock)) → Calls Try.prog 60 #[.slice (some ⟨g, 0, none⟩) n c] w fun e w' => ∃ b, e = .returned (.pointer (some ⟨b, 0, none⟩)) ∧ (∃ y, DevAt B w' b y (Dev.fresh (List.replicate n zblock))) ∧ w.heap.size ≤ b ∧ Below w.heap.size w w') := Lib.hid fun w B g c h => by
    have := made_any (w := w) (B := B) (List.replicate n zblock) g c (by simpa using h) (by simp; omega)
    simpa using this
  have HR := Lib.hid hr
  clear hr
  have q1 : ¬ ((n : Int) < 1) := by omega
  have q2 : ¬ (4096 < (n : Int)) := by omega
  generalize zblock = z at *
  go_enter Try.func32, Try.ntmps32
  go_wp2_with fail
  refine (hz.out _).mono ?_
  rintro e w1 ⟨rfl, hb1⟩
  go_wp2_with fail
  have hc0 : (w1.alloc (.cells #[.string z] 9)).cell? ⟨w1.heap.size, 0, none⟩ = some (.string z) := by
    rw [cell_of_row _ _ _ _ _ _ (heap_alloc_new w1 _)]; rfl
  refine (HR.out _ _ _ hc0).mono ?_
  rintro e w2 ⟨g2, rfl, o2, hb2⟩
  have hB2 : Below w1.heap.size w1 w2 := ((Below.refl _ _).alloc (Nat.le_refl _) _).trans (hb2.mono (by simp))
  have hB3 : Below w.heap.size w w2 := hb1.trans (hB2.mono hb1.size)
  have hO := own_mono o2 (show w.heap.size ≤ _ by simp; have := hb1.size; omega)
  clear o2 hb2 hB2 hc0
  go_wp2_with fail
  refine (hm.out _ _ _ _ hO).mono ?_
  rintro e w3 ⟨b, rfl, hD, hb, hb3⟩
  have hB4 := hB3.trans (hb3.mono hB3.size)
  go_wp2_with fail
  exact bodyPost_ret (v := .tuple #[.pointer (some ⟨b, 0, none⟩), .int .i64 0]) (by simp [results, Try.results32, go_sem]) rfl ⟨_, rfl, hD, hB4⟩

end Go.Proofs.Ytlickjaopbcanaa

namespace Go.Proofs.Ytlickjaopbcanaa
open Go Go.RowKit
variable {B b : Nat} {w : World} {y : Lay} {D : Dev}

theorem DevAt.bounds (h : DevAt B w b y D) : (B ≤ b ∧ b < w.heap.size) ∧ (B ≤ y.gk ∧ y.gk < w.heap.size) ∧ (B ≤ y.gn ∧ y.gn < w.heap.size) ∧ (B ≤ y.gp ∧ y.gp < w.heap.size) :=
  ⟨⟨h.own, h.cells.lt⟩, h.kept.lt _ rfl, h.now.lt _ rfl, h.pend.lt _ rfl⟩
structure Dev.Ok (D : Dev) (k : Nat) : Prop where
  kept : sized D.kept
  now : sized D.now
  len : D.now.length = D.kept.length
  plen : D.pend.length = D.kept.length
  acts : D.acts ≤ k
theorem sized_set (l : List ByteArray) (h : sized l) (i : Nat) (t : ByteArray) (ht : t.size = 128) : sized (l.set i t) := by
  intro s hs
  rcases List.mem_or_eq_of_mem_set hs with h1 | h1
  · exact h s h1
  · subst h1; exact ht
theorem Dev.Ok.mono {D : Dev} {k k' : Nat} (h : D.Ok k) (hk : k ≤ k') : D.Ok k' := ⟨h.kept, h.now, h.len, h.plen, by have := h.acts; omega⟩
theorem Dev.writeE_size {D : Dev} {i : Int} {t : ByteArray} (h0 : D.writeE i t = 0) : t.size = 128 := by
  unfold Dev.writeE at h0
  split at h0
  · omega
  · split at h0
    · omega
    · rename_i h2; simpa using h2
theorem Dev.Ok.write {D : Dev} {k : Nat} (h : D.Ok k) (i : Int) (t : ByteArray) : (D.write i t).Ok (k + 1) := by
  unfold Dev.write
  split
  · rename_i h0
    exact ⟨h.kept, sized_set _ h.now _ _ (Dev.writeE_size h0), by simpa [Dev.put, Dev.acted] using h.len, by simpa [Dev.put, Dev.acted] using h.plen, by have := h.acts; show D.acts + 1 ≤ _; omega⟩
  · exact h.mono (by omega)
theorem Dev.Ok.flush {D : Dev} {k : Nat} (h : D.Ok k) : D.flush.Ok (k + 1) := by
  unfold Dev.flush
  split
  · exact h.mono (by omega)
  · exact ⟨h.now, h.now, rfl, by show (List.replicate _ _).length = D.now.length; rw [List.length_replicate]; exact h.len.symm, by have := h.acts; show D.acts + 1 ≤ _; omega⟩
theorem Dev.Ok.arm {D : Dev} {k : Nat} (h : D.Ok k) (n : Int) : (D.arm n).Ok k := ⟨h.kept, h.now, h.len, h.plen, h.acts⟩
theorem Dev.Ok.fresh (l : List ByteArray) (h : sized l) : (Dev.fresh l).Ok 0 := ⟨h, h, rfl, by simp [Dev.fresh], by simp [Dev.fresh]⟩
def zeros (n : Nat) : Dev := Dev.fresh (List.replicate n zblock)
theorem zeros_ok (n : Nat) : (zeros n).Ok 0 := Dev.Ok.fresh _ (fun s hs => by rw [(List.mem_replicate.1 hs).2]; exact zblock_size)
theorem Dev.flush_len (D : Dev) (h : D.now.length = D.kept.length) : D.flush.kept.length = D.kept.length := by
  unfold Dev.flush
  split
  · rfl
  · exact h

end Go.Proofs.Ytlickjaopbcanaa
