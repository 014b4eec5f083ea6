/- Forks: Encode. -/
import Derived.Test.YtgjmeeiejcbjfaaGreatH10
import Derived.Test.YtgjmeeiejcbjfaaGreatH11
import Derived.Deep.RegionHeld3
import Derived.Deep.DeepCutAuto
import Derived.Deep.CutRange
import Derived.Test.YtgjmeeiejcbjfaaGreatH07
import Derived.Test.YtgjmeeiejcbjfaaGreatH05
import Derived.Deep.RegionLaw
set_option linter.unusedSimpArgs false
set_option linter.unusedVariables false
namespace Go.Proofs.YtgjmeeiejcbjfaaGreat
open Go.Lib (hid)
open Go Go.RowKit
theorem zeros_txt : (⟨(Lib.repeatL (⟨#[0]⟩ : ByteArray).data.toList 125).toArray⟩ : ByteArray) = txt (List.replicate 125 0) := by
 have : Lib.repeatL (⟨#[0]⟩ : ByteArray).data.toList 125 = List.replicate 125 0 := by decide +kernel
 rw [this]; rfl
theorem repeat125 (w : World) : Calls Tryz.prog 39 #[.string ⟨#[0]⟩, .int .i64 125] w fun e w' => e = .returned (.string (txt (List.replicate 125 0))) ∧ Below w.heap.size w w' := by
 have q := Tryz.strings_Repeat ⟨#[0]⟩ 125 w (by decide) (by decide)
 rw [zeros_txt] at q
 exact q
theorem txt_append (a b : Bytes) : txt a ++ txt b = txt (a ++ b) := by
 apply ByteArray.ext
 simp [txt]
theorem nodeB_splice (l : EL) (leaf : Bool) (h : l.length ≤ 10) : splice ([70, if leaf then 1 else 0, UInt8.ofNat l.length] ++ List.replicate 125 0) 3 (Ents.ebs l) = Ents.nodeB l leaf := by
 unfold splice Ents.nodeB
 rw [Ents.ebs_length]
 have e1 : List.take 3 ([70, if leaf then 1 else 0, UInt8.ofNat l.length] ++ List.replicate 125 (0 : UInt8)) = [70, if leaf then 1 else 0, UInt8.ofNat l.length] := List.take_left' rfl
 have e2 : List.drop (3 + 12 * l.length) ([70, if leaf then 1 else 0, UInt8.ofNat l.length] ++ List.replicate 125 (0 : UInt8)) = List.replicate (125 - 12 * l.length) 0 := by
  rw [List.drop_append, List.drop_of_length_le (by simp), List.nil_append, List.drop_replicate]
  congr 1
  simp
 rw [e1, e2, List.append_assoc]
theorem run_string_of_cells {P : Program} {w : World} {b : Nat} {l : Bytes} (src dst e : TypeId) (n cap : Nat) (hn : n = l.length) (hs : P.underlying src = some (.slice e)) (he : P.underlying e = some (.int .u8)) (hd : P.underlying dst = some .string)
  (h : ∀ j, j < l.length → w.cell? ⟨b, j, none⟩ = some (bval (l.getD j 0))) : (convert src dst (.slice (some ⟨b, 0, none⟩) n cap)).run P w = .ok (.string (txt l)) w := by
 subst hn
 refine run_convert_bytes_back w src dst e _ cap l hs he hd fun j hj => ?_
 have e1 : (⟨b, 0, none⟩ : Addr).add j = ⟨b, j, none⟩ := by unfold Addr.add; split <;> simp_all
 rw [e1, h j hj]
 simp [bval, List.getD, hj]
set_option maxRecDepth 100000 in
set_option maxHeartbeats 4000000 in
theorem encode_any (leaf : Bool) (v : Value) (l : EL) (w : World) (hs : SmallsE l) (h : ExtsAt w v l) (hl : l.length ≤ 1000000000) :
  Calls Tryz.prog 10 #[v, .bool leaf] w fun e w' => e = .returned (.tuple #[.string (txt (Ents.encR l leaf).1), .int .i64 (Ents.encR l leaf).2]) ∧ Below w.heap.size w w' := by
 have q := hid (xcheck_any leaf v l w hs h hl)
 have H := hid h
 have hrep := hid repeat125
 obtain ⟨ad, cap, rfl⟩ := h.form
 clear h
 by_cases k : Ents.EncOk l leaf
 ·have hR : Hid (Ents.encR l leaf = (Ents.nodeB l leaf, 0)) := hid (if_pos k)
  obtain ⟨k1, k2, k3⟩ := k
  have hF := hid (fun x hx => Ents.may_fits (k3.may x hx))
  have hN := hid (nodeB_splice l leaf k2)
  unfold Ents.Row at k3
  rw [k3] at q
  clear k3
  rw [hR.out]
  have hz : ((l.length : Int) == 0) = false := by rw [beq_eq_false_iff_ne]; omega
  have hg : ¬ (10 : Int) < (l.length : Int) := by omega
  have hw : IntKind.u8.wrap (l.length : Int) = (l.length : Int) := by
   simp only [IntKind.wrap, IntKind.bits, IntKind.signed]
   exact Int.emod_eq_of_lt (by omega) (by omega)
  cases leaf
  case false =>
   go_enter Tryz.func10, Tryz.ntmps10
   go_wp2_with fail
   refine q.out.mono ?_
   rintro e w1 ⟨rfl, b1⟩
   have B1 := hid b1
   clear b1
   go_wp2_with fail
   have bA : Below w1.heap.size w1 (w1.alloc (.cells #[.int .u8 70, .int .u8 0, .int .u8 (l.length : Int)] 5)) := (Below.refl _ _).alloc (Nat.le_refl _) _
   have x0 : (w1.alloc (.cells #[.int .u8 70, .int .u8 0, .int .u8 (l.length : Int)] 5)).cell? ⟨w1.heap.size, 0, none⟩ = some (.int .u8 70) := box_cell _ _ _ _
   have x1 : (w1.alloc (.cells #[.int .u8 70, .int .u8 0, .int .u8 (l.length : Int)] 5)).cell? ⟨w1.heap.size, 1, none⟩ = some (.int .u8 0) := box_cell _ _ _ _
   have x2 : (w1.alloc (.cells #[.int .u8 70, .int .u8 0, .int .u8 (l.length : Int)] 5)).cell? ⟨w1.heap.size, 2, none⟩ = some (.int .u8 (l.length : Int)) := box_cell _ _ _ _
   have zX : w1.heap.size < (w1.alloc (.cells #[.int .u8 70, .int .u8 0, .int .u8 (l.length : Int)] 5)).heap.size := by simp
   have HA : Hid (ExtsAt (w1.alloc (.cells #[.int .u8 70, .int .u8 0, .int .u8 (l.length : Int)] 5)) (.slice ad l.length cap) l) := hid ((H.out.below (B := 0) B1.out).below (B := 0) bA)
   have B2 := hid (B1.out.trans (bA.mono B1.out.size))
   clear bA
   generalize w1.alloc _ = wx at *
   generalize w1.heap.size = X at *
   have hput : Hid (∀ wz, Below wx.heap.size wx wz → Calls Tryz.prog 38 #[.string (txt [70, 0, UInt8.ofNat l.length] ++ txt (List.replicate 125 0)), .int .i64 3, .slice ad l.length cap] wz fun e w' => e = .returned (.string (txt (Ents.nodeB l false))) ∧ Below wz.heap.size wz w') := hid (fun wz hz => by
    have := xput_any ([70, 0, UInt8.ofNat l.length] ++ List.replicate 125 0) 3 (.slice ad l.length cap) l wz hF.out (HA.out.below (B := 0) hz) (by simp) (by simp; omega)
    have hn := hN.out
    rw [txt_append]
    rwa [show splice ([70, 0, UInt8.ofNat l.length] ++ List.replicate 125 0) 3 (Ents.ebs l) = Ents.nodeB l false from hn] at this)
   have hcat : (txt [70, 0, UInt8.ofNat l.length]).size + (txt (List.replicate 125 0)).size ≤ 9223372036854775807 := by rw [txt_size, txt_size]; simp
   have hstr : ∀ wz : World, wz.cell? ⟨X, 0, none⟩ = some (.int .u8 70) → wz.cell? ⟨X, 1, none⟩ = some (.int .u8 0) → wz.cell? ⟨X, 2, none⟩ = some (.int .u8 (l.length : Int)) → (convert 95 9 (.slice (some ⟨X, 0, none⟩) 3 3)).run Tryz.prog wz = .ok (.string (txt [70, 0, UInt8.ofNat l.length])) wz := fun wz z0 z1 z2 => by
    refine run_string_of_cells _ _ 5 3 3 rfl Tryz.underlying95 Tryz.underlying5 Tryz.underlying9 fun j hj => ?_
    have hj3 : j < 3 := hj
    rcases (by omega : j = 0 ∨ j = 1 ∨ j = 2) with rfl | rfl | rfl
    ·exact z0
    ·exact z1
    ·rw [z2]
     show _ = some (bval (UInt8.ofNat l.length))
     have : (UInt8.ofNat l.length).toNat = l.length := by simp; omega
     rw [bval, this]
   have hcat' := Nat.not_lt.2 hcat
   generalize txt [70, 0, UInt8.ofNat l.length] = Y at *
   generalize txt (List.replicate 125 0) = Z at *
   go_region_held3 (fun w' => w'.cell? ⟨X, 0, none⟩ = some (.int .u8 70) ∧ w'.cell? ⟨X, 1, none⟩ = some (.int .u8 0) ∧ w'.cell? ⟨X, 2, none⟩ = some (.int .u8 (l.length : Int)))
    (first | exact ⟨x0, x1, x2⟩ | exact ⟨(s4.cell (p := ⟨X, 0, none⟩) zX).trans x0, (s4.cell (p := ⟨X, 1, none⟩) zX).trans x1, (s4.cell (p := ⟨X, 2, none⟩) zX).trans x2⟩ | exact ⟨(s5.cell (p := ⟨X, 0, none⟩) zX).trans x0, (s5.cell (p := ⟨X, 1, none⟩) zX).trans x1, (s5.cell (p := ⟨X, 2, none⟩) zX).trans x2⟩)
    (first | (go_at_call 39; refine (hrep.out _).mono ?_; rintro e w4 ⟨rfl, b4⟩; have s4 : Below wx.heap.size wx w4 := ⟨b4.os, b4.tape, b4.output, b4.size, b4.block⟩) | (go_at_call 38; refine (hput.out _ s4).mono ?_; rintro e w5 ⟨rfl, b5⟩; have s5 : Below wx.heap.size wx w5 := s4.trans (b5.mono s4.size)))
   have B9 := hid (B2.out.trans (s5.mono B2.out.size))
   go_wp2_with fail
   go_ret2
   exact ⟨rfl, B9.out⟩
  case true =>
   go_enter Tryz.func10, Tryz.ntmps10
   go_wp2_with fail
   refine q.out.mono ?_
   rintro e w1 ⟨rfl, b1⟩
   have B1 := hid b1
   clear b1
   go_wp2_with fail
   have bA : Below w1.heap.size w1 (w1.alloc (.cells #[.int .u8 70, .int .u8 1, .int .u8 (l.length : Int)] 5)) := (Below.refl _ _).alloc (Nat.le_refl _) _
   have x0 : (w1.alloc (.cells #[.int .u8 70, .int .u8 1, .int .u8 (l.length : Int)] 5)).cell? ⟨w1.heap.size, 0, none⟩ = some (.int .u8 70) := box_cell _ _ _ _
   have x1 : (w1.alloc (.cells #[.int .u8 70, .int .u8 1, .int .u8 (l.length : Int)] 5)).cell? ⟨w1.heap.size, 1, none⟩ = some (.int .u8 1) := box_cell _ _ _ _
   have x2 : (w1.alloc (.cells #[.int .u8 70, .int .u8 1, .int .u8 (l.length : Int)] 5)).cell? ⟨w1.heap.size, 2, none⟩ = some (.int .u8 (l.length : Int)) := box_cell _ _ _ _
   have zX : w1.heap.size < (w1.alloc (.cells #[.int .u8 70, .int .u8 1, .int .u8 (l.length : Int)] 5)).heap.size := by simp
   have HA : Hid (ExtsAt (w1.alloc (.cells #[.int .u8 70, .int .u8 1, .int .u8 (l.length : Int)] 5)) (.slice ad l.length cap) l) := hid ((H.out.below (B := 0) B1.out).below (B := 0) bA)
   have B2 := hid (B1.out.trans (bA.mono B1.out.size))
   clear bA
   generalize w1.alloc _ = wx at *
   generalize w1.heap.size = X at *
   have hput : Hid (∀ wz, Below wx.heap.size wx wz → Calls Tryz.prog 38 #[.string (txt [70, 1, UInt8.ofNat l.length] ++ txt (List.replicate 125 0)), .int .i64 3, .slice ad l.length cap] wz fun e w' => e = .returned (.string (txt (Ents.nodeB l true))) ∧ Below wz.heap.size wz w') := hid (fun wz hz => by
    have := xput_any ([70, 1, UInt8.ofNat l.length] ++ List.replicate 125 0) 3 (.slice ad l.length cap) l wz hF.out (HA.out.below (B := 0) hz) (by simp) (by simp; omega)
    have hn := hN.out
    rw [txt_append]
    rwa [show splice ([70, 1, UInt8.ofNat l.length] ++ List.replicate 125 0) 3 (Ents.ebs l) = Ents.nodeB l true from hn] at this)
   have hcat : (txt [70, 1, UInt8.ofNat l.length]).size + (txt (List.replicate 125 0)).size ≤ 9223372036854775807 := by rw [txt_size, txt_size]; simp
   have hstr : ∀ wz : World, wz.cell? ⟨X, 0, none⟩ = some (.int .u8 70) → wz.cell? ⟨X, 1, none⟩ = some (.int .u8 1) → wz.cell? ⟨X, 2, none⟩ = some (.int .u8 (l.length : Int)) → (convert 95 9 (.slice (some ⟨X, 0, none⟩) 3 3)).run Tryz.prog wz = .ok (.string (txt [70, 1, UInt8.ofNat l.length])) wz := fun wz z0 z1 z2 => by
    refine run_string_of_cells _ _ 5 3 3 rfl Tryz.underlying95 Tryz.underlying5 Tryz.underlying9 fun j hj => ?_
    have hj3 : j < 3 := hj
    rcases (by omega : j = 0 ∨ j = 1 ∨ j = 2) with rfl | rfl | rfl
    ·exact z0
    ·exact z1
    ·rw [z2]
     show _ = some (bval (UInt8.ofNat l.length))
     have : (UInt8.ofNat l.length).toNat = l.length := by simp; omega
     rw [bval, this]
   have hcat' := Nat.not_lt.2 hcat
   generalize txt [70, 1, UInt8.ofNat l.length] = Y at *
   generalize txt (List.replicate 125 0) = Z at *
   go_region_held3 (fun w' => w'.cell? ⟨X, 0, none⟩ = some (.int .u8 70) ∧ w'.cell? ⟨X, 1, none⟩ = some (.int .u8 1) ∧ w'.cell? ⟨X, 2, none⟩ = some (.int .u8 (l.length : Int)))
    (first | exact ⟨x0, x1, x2⟩ | exact ⟨(s4.cell (p := ⟨X, 0, none⟩) zX).trans x0, (s4.cell (p := ⟨X, 1, none⟩) zX).trans x1, (s4.cell (p := ⟨X, 2, none⟩) zX).trans x2⟩ | exact ⟨(s5.cell (p := ⟨X, 0, none⟩) zX).trans x0, (s5.cell (p := ⟨X, 1, none⟩) zX).trans x1, (s5.cell (p := ⟨X, 2, none⟩) zX).trans x2⟩)
    (first | (go_at_call 39; refine (hrep.out _).mono ?_; rintro e w4 ⟨rfl, b4⟩; have s4 : Below wx.heap.size wx w4 := ⟨b4.os, b4.tape, b4.output, b4.size, b4.block⟩) | (go_at_call 38; refine (hput.out _ s4).mono ?_; rintro e w5 ⟨rfl, b5⟩; have s5 : Below wx.heap.size wx w5 := s4.trans (b5.mono s4.size)))
   have B9 := hid (B2.out.trans (s5.mono B2.out.size))
   go_wp2_with fail
   go_ret2
   exact ⟨rfl, B9.out⟩
 ·have hR : Ents.encR l leaf = ([], 2) := if_neg k
  rw [hR]
  by_cases k1 : l.length = 0
  ·have hz : ((l.length : Int) == 0) = true := by rw [k1]; rfl
   clear hR k
   generalize l.length = n at *
   subst k1
   go_enter Tryz.func10, Tryz.ntmps10
   go_wp2_with fail
   go_ret2
   exact ⟨rfl, Below.refl _ _⟩
  ·have hz : ((l.length : Int) == 0) = false := by rw [beq_eq_false_iff_ne]; omega
   by_cases k2 : l.length ≤ 10
   ·have hg : ¬ (10 : Int) < (l.length : Int) := by omega
    have k3 : Ents.okTo leaf l l.length = false := by
     cases h : Ents.okTo leaf l l.length
     ·rfl
     ·exact absurd ⟨by omega, k2, h⟩ k
    rw [k3] at q
    clear k hR k3
    go_enter Tryz.func10, Tryz.ntmps10
    go_wp2_with fail
    refine q.out.mono ?_
    rintro e w1 ⟨rfl, b1⟩
    have B1 := hid b1
    clear b1
    go_wp2_with fail
    go_ret2
    exact ⟨rfl, B1.out⟩
   ·have hg : (10 : Int) < (l.length : Int) := by omega
    clear k hR
    go_enter Tryz.func10, Tryz.ntmps10
    go_wp2_with fail
    go_ret2
    exact ⟨rfl, Below.refl _ _⟩
def DecOut (B : Nat) (s : ByteArray) (e : Ending) (w' : World) : Prop := match Ents.dec s.data.toList with
 | none => e = .returned (.tuple #[.slice none 0 0, .bool false, .int .i64 80])
 | some x => ∃ v, e = .returned (.tuple #[v, .bool x.2, .int .i64 0]) ∧ OwnEnts B w' v x.1
theorem DecOut.no {B : Nat} {s : ByteArray} {w' : World} (h : Ents.dec s.data.toList = none) : DecOut B s (.returned (.tuple #[.slice none 0 0, .bool false, .int .i64 80])) w' := by
 unfold DecOut; rw [h]
theorem DecOut.yes {B : Nat} {s : ByteArray} {w' : World} {l : EL} {leaf : Bool} {v : Value} (h : Ents.dec s.data.toList = some (l, leaf)) (ho : OwnEnts B w' v l) : DecOut B s (.returned (.tuple #[v, .bool leaf, .int .i64 0])) w' := by
 unfold DecOut; rw [h]; exact ⟨v, rfl, ho⟩
theorem getD_byte (s : ByteArray) (k : Nat) (h : k < s.size) : s.data.toList.getD k 0 = s[k] := by
 have hz : k < s.data.size := h
 have e1 : s.data.toList.getD k 0 = s.data[k] := by
  simp only [List.getD, Array.getElem?_toList, Array.getElem?_eq_getElem hz, Option.getD_some]
 exact e1
theorem str_eq {a b : ByteArray} (h : a = b) : (a.toList == b.toList) = true := by rw [h]; simp
theorem str_ne {a b : ByteArray} (h : ¬ a = b) : (a.toList == b.toList) = false := by
 rw [beq_eq_false_iff_ne]
 intro e
 rw [ByteArray.toList_eq, ByteArray.toList_eq] at e
 exact h (by rw [← txt_of a, e, txt_of])
theorem getE_small (s : Bytes) (a : Nat) : SmallE (Ents.getE s a) := by
 have h1 := get4_lt s a
 have h2 := get4_lt s (a + 4)
 have h3 := get4_lt s (a + 8)
 unfold SmallE Ents.getE
 dsimp only
 omega
theorem getL_smalls (s : Bytes) (a : Nat) : ∀ n, SmallsE (Ents.getL s a n)
 | 0 => fun x hx => by cases hx
 | n + 1 => fun x hx => by
  rcases List.mem_append.1 hx with h | h
  ·exact getL_smalls s a n x h
  ·obtain rfl := List.mem_singleton.1 h
   exact getE_small _ _
set_option maxRecDepth 100000 in
set_option maxHeartbeats 4000000 in
theorem decode_any (s : ByteArray) (w : World) (hs : s.size ≤ 140737488351232) :
  Calls Tryz.prog 12 #[.string s] w fun e w' => DecOut w.heap.size s e w' ∧ Below w.heap.size w w' := by
 by_cases k : s.size = 128
 ·have z1 : 1 < s.size := by omega
  have z2 : 2 < s.size := by omega
  obtain ⟨m, hm⟩ : ∃ m, min (s.data.toList.getD 2 0).toNat 10 = m := ⟨_, rfl⟩
  have hm10 : m ≤ 10 := by omega
  have hg2 := getD_byte s 2 z2
  have hg1 := getD_byte s 1 z1
  have hgt := hid (fun w => xget_any s 3 m w hs (by omega) (by omega))
  have hraw : Hid (Ents.rawL s.data.toList = Ents.getL s.data.toList 3 m) := hid (by unfold Ents.rawL; rw [hm])
  have hleaf : Hid (Ents.rawLeaf s.data.toList = (s[1] == 1)) := hid (by unfold Ents.rawLeaf; rw [hg1])
  have hlen := hid (Ents.getL_length s.data.toList 3 m)
  have hsm := hid (getL_smalls s.data.toList 3 m)
  have hdec : Hid (Ents.dec s.data.toList = if Ents.EncOk (Ents.rawL s.data.toList) (Ents.rawLeaf s.data.toList) ∧ Ents.nodeB (Ents.rawL s.data.toList) (Ents.rawLeaf s.data.toList) = s.data.toList then some (Ents.rawL s.data.toList, Ents.rawLeaf s.data.toList) else none) := hid (by
   unfold Ents.dec
   rw [list_length, k]
   simp)
  rw [hraw.out] at hdec
  rw [hg2] at hm
  have hmi : min ((s[2].toNat : Nat) : Int) (10 : Int) = (m : Int) := by omega
  have hb1 : (((s[1].toNat : Nat) : Int) == 1) = (s[1] == 1) := by
   rw [Bool.eq_iff_iff, beq_iff_eq, beq_iff_eq]
   constructor
   ·intro h; exact UInt8.toNat_inj.1 (by have : (1 : UInt8).toNat = 1 := rfl; omega)
   ·intro h; rw [h]; rfl
  have hk : ((s.size : Int) != 128) = false := by rw [bne_eq_false_iff_eq]; omega
  have z1' : (1 : Int) < (s.size : Int) := by omega
  have z2' : (2 : Int) < (s.size : Int) := by omega
  have hsz := hid k
  clear hm hg1 hg2 hraw k
  generalize Ents.rawLeaf s.data.toList = lf at *
  have hw2 : IntKind.i64.wrap ((s[2].toNat : Nat) : Int) = ((s[2].toNat : Nat) : Int) := by have := s[2].toNat_lt; exact IntWalk.i64_in _ (by omega)
  go_enter Tryz.func12, Tryz.ntmps12
  go_wp2_with fail
  go_cut [2, 3] from 10 to 18 (fun p q wx => ∃ u : Value, u = p ∧ q = .bool (s[1] == 1) ∧ Hid (OwnEnts w.heap.size wx u (Ents.getL s.data.toList 3 m)) ∧ Hid (Below w.heap.size w wx))
  case first =>
   go_region_held3 (fun _ => True) (exact trivial) ((go_at_call 42; refine (hgt.out _).mono ?_; rintro e w4 ⟨v4, rfl, o4, b4⟩; have O4 := hid o4; have s4 : Below w.heap.size w w4 := ⟨b4.os, b4.tape, b4.output, b4.size, b4.block⟩))
   all_goals first | (go_step; go_meet; exact ⟨_, rfl, rfl, O4, hid s4⟩) | (go_step; go_step; go_meet; exact ⟨_, rfl, rfl, O4, hid s4⟩)
  obtain ⟨v4, rfl, rfl, O5, hS4⟩ := hcut
  have hS4' := hid hS4.out
  have henc := hid (encode_any (s[1] == 1) v4 (Ents.getL s.data.toList 3 m) wc hsm.out O5.out.at (by rw [hlen.out]; omega))
  obtain ⟨ad, co, rfl⟩ := O5.out.slice
  have hlf := hleaf.out
  rw [hlf] at hdec
  clear hmi hb1 hlf hleaf hlen hsm hgt
  generalize hlfd : (s[1] == 1) = lf' at *
  have HL := hid hlfd
  clear hlfd
  generalize Ents.getL s.data.toList 3 m = L at *
  by_cases k1 : Ents.EncOk L lf'
  ·have hR : Hid (Ents.encR L lf' = (Ents.nodeB L lf', 0)) := hid (if_pos k1)
   rw [hR.out] at henc
   by_cases k2 : Ents.nodeB L lf' = s.data.toList
   ·have hd : Hid (Ents.dec s.data.toList = some (L, lf')) := hid (by rw [hdec.out, if_pos ⟨k1, k2⟩])
    have HY := hid (fun w2 (h : OwnEnts w.heap.size w2 (.slice ad L.length co) L) => DecOut.yes (w' := w2) hd.out h)
    have hne := str_eq (show txt (Ents.nodeB L lf') = s by rw [k2, txt_of])
    clear hdec hR k1 k2 hd
    dsimp only at henc
    generalize txt (Ents.nodeB L lf') = T at *
    go_wp2_with fail
    refine henc.out.mono ?_
    rintro e w5 ⟨rfl, b5⟩
    have B5 := hid (hS4'.out.trans (b5.mono hS4'.out.size))
    have HD := hid (HY.out w5 (O5.out.below b5))
    clear b5
    go_wp2_with fail
    refine bodyPost_ret (v := .tuple #[.slice ad L.length co, .bool lf', .int .i64 0]) (by simp [results, Tryz.results12, go_sem]) rfl ⟨HD.out, B5.out⟩
   ·have hd : Hid (Ents.dec s.data.toList = none) := hid (by rw [hdec.out, if_neg (fun h => k2 h.2)])
    have hx : ¬ txt (Ents.nodeB L lf') = s := fun h => k2 (by rw [← h, txt_list])
    have HY := hid (fun w2 => DecOut.no (B := w.heap.size) (w' := w2) hd.out)
    have hne := str_ne hx
    clear hx
    clear hdec hR k1 k2 hd
    dsimp only at henc
    generalize txt (Ents.nodeB L lf') = T at *
    go_wp2_with fail
    refine henc.out.mono ?_
    rintro e w5 ⟨rfl, b5⟩
    have B5 := hid (hS4'.out.trans (b5.mono hS4'.out.size))
    have HD := hid (HY.out w5)
    clear b5
    go_wp2_with fail
    refine bodyPost_ret (v := .tuple #[.slice none 0 0, .bool false, .int .i64 80]) (by simp [results, Tryz.results12, go_sem]) rfl ⟨HD.out, B5.out⟩
  ·have hR : Hid (Ents.encR L lf' = ([], 2)) := hid (if_neg k1)
   rw [hR.out] at henc
   have hd : Hid (Ents.dec s.data.toList = none) := hid (by rw [hdec.out, if_neg (fun h => k1 h.1)])
   have HY := hid (fun w2 => DecOut.no (B := w.heap.size) (w' := w2) hd.out)
   clear hdec hR k1 hd
   dsimp only at henc
   generalize txt [] = T at *
   go_wp2_with fail
   refine henc.out.mono ?_
   rintro e w5 ⟨rfl, b5⟩
   have B5 := hid (hS4'.out.trans (b5.mono hS4'.out.size))
   have HD := hid (HY.out w5)
   clear b5
   go_wp2_with fail
   refine bodyPost_ret (v := .tuple #[.slice none 0 0, .bool false, .int .i64 80]) (by simp [results, Tryz.results12, go_sem]) rfl ⟨HD.out, B5.out⟩
 ·have hd : Ents.dec s.data.toList = none := by
   unfold Ents.dec
   rw [if_neg (by rw [list_length]; exact fun h => k h.1)]
  have hk : ((s.size : Int) != 128) = true := by rw [bne_iff_ne]; omega
  have HD := hid (DecOut.no (B := w.heap.size) (w' := w) hd)
  clear hd
  go_enter Tryz.func12, Tryz.ntmps12
  go_wp2_with fail
  refine bodyPost_ret (v := .tuple #[.slice none 0 0, .bool false, .int .i64 80]) (by simp [results, Tryz.results12, go_sem]) rfl ⟨HD.out, Below.refl _ _⟩
end Go.Proofs.YtgjmeeiejcbjfaaGreat
namespace Go.Proofs.YtgjmeeiejcbjfaaGreat
open Go.Lib (hid)
open Go Go.RowKit
def KeepE (w w' : World) : Prop := ∀ (b : Nat) cs fr, w.heap[b]? = some (.cells cs 31 fr) → w'.heap[b]? = some (.cells cs 31 fr)
theorem KeepE.refl (w : World) : KeepE w w := fun _ _ _ h => h
theorem KeepE.trans {a b c : World} (h1 : KeepE a b) (h2 : KeepE b c) : KeepE a c := fun k cs fr h => h2 k cs fr (h1 k cs fr h)
theorem KeepE.of_below {w w' : World} (h : Below w.heap.size w w') : KeepE w w' := fun b cs fr hb => by rw [h.block b (lt_of_block hb)]; exact hb
def EntsAt (w : World) (v : Value) (l : EL) : Prop :=
 (v = .slice none 0 0 ∧ l = []) ∨ ∃ b off cap cs fr, v = .slice (some ⟨b, off, none⟩) l.length cap ∧ w.heap[b]? = some (.cells cs 31 fr) ∧ ∀ j u, (ecells l)[j]? = some u → cs[off + j]? = some u
theorem EntsAt.ext {w : World} {v : Value} {l : EL} (h : EntsAt w v l) : ExtsAt w v l := by
 rcases h with h | ⟨b, off, cap, cs, fr, rfl, hb, hc⟩
 ·exact .inl h
 ·exact .inr ⟨b, off, cap, rfl, fun j u hu => by rw [cell_of_row w b (off + j) _ _ _ hb]; exact hc j u hu⟩
theorem EntsAt.keep {w w' : World} {v : Value} {l : EL} (h : EntsAt w v l) (hk : KeepE w w') : EntsAt w' v l := by
 rcases h with h | ⟨b, off, cap, cs, fr, rfl, hb, hc⟩
 ·exact .inl h
 ·exact .inr ⟨b, off, cap, cs, fr, rfl, hk _ _ _ hb, hc⟩
theorem EntsAt.form {w : World} {v : Value} {l : EL} (h : EntsAt w v l) : ∃ ad cap, v = .slice ad l.length cap := h.ext.form
theorem OwnEnts.ents {B : Nat} {w : World} {v : Value} {l : EL} (h : OwnEnts B w v l) : EntsAt w v l := by
 rcases h.2 with ⟨rfl, hn⟩ | ⟨g, cap, cur, rfl, hg, hh, h1, h2, h3, h4⟩
 ·exact .inl ⟨rfl, List.eq_nil_of_length_eq_zero hn⟩
 ·refine .inr ⟨g, 0, cap, cur, _, rfl, hh, fun j u hu => ?_⟩
  have hj : j < l.length * 3 := by
   have := (List.getElem?_eq_some_iff.1 hu).1
   rwa [ecells_length] at this
  rw [Nat.zero_add]
  have e : (cur.toList.take (l.length * 3))[j]? = some u := by rw [h4]; exact hu
  rw [List.getElem?_take, if_pos hj, Array.getElem?_toList] at e
  exact e
theorem kept_other {w w' : World} {v : Value} {base size n : Nat} {e T : TypeId} {xs : List Value} {b : Nat} {cs : Array Value} {fr : Nat × Nat} (hown : w.ownsRow base e size v n xs) (hg : w.grownBy w' v.ownBlock) (hb : w.heap[b]? = some (.cells cs T fr)) (hT : T ≠ e) :
  w'.heap[b]? = some (.cells cs T fr) := by
 rw [hg.block b (lt_of_block hb) (fun h => ?_)]
 ·exact hb
 rcases hown.2 with ⟨rfl, _⟩ | ⟨g, cap, cur, rfl, _, hh, _⟩
 ·simp [Value.ownBlock] at h
 ·simp only [Value.ownBlock, Option.some.injEq] at h
  subst h
  rw [hh] at hb
  cases hb
  exact hT rfl
theorem set_other {w : World} {a : Addr} {u : Value} {T S : TypeId} {b : Nat} {cs cs' : Array Value} {fr fr' : Nat × Nat} (ha : w.heap[a.block]? = some (.cells cs' S fr')) (hb : w.heap[b]? = some (.cells cs T fr)) (hT : T ≠ S) :
  (w.setCell a u).heap[b]? = some (.cells cs T fr) := by
 rw [Below.heap_setCell _ _ _ _ (fun h => ?_)]
 ·exact hb
 subst h
 rw [ha] at hb
 cases hb
 exact hT rfl
theorem KeepE.grown {w w' : World} {v : Value} {base size n : Nat} {e : TypeId} {xs : List Value} (hown : w.ownsRow base e size v n xs) (hg : w.grownBy w' v.ownBlock) (he : 31 ≠ e) : KeepE w w' := fun b cs fr hb => kept_other hown hg hb he
theorem KeepE.set {w : World} {a : Addr} {u : Value} {S : TypeId} {cs' : Array Value} {fr' : Nat × Nat} (ha : w.heap[a.block]? = some (.cells cs' S fr')) (he : 31 ≠ S) : KeepE w (w.setCell a u) := fun b cs fr hb => set_other ha hb he
theorem Row.kept {w w' : World} {v : Value} {base size n : Nat} {e T : TypeId} {xs cs : List Value} {b : Nat} (h : Row w b T cs) (hown : w.ownsRow base e size v n xs) (hg : w.grownBy w' v.ownBlock) (hT : T ≠ e) : Row w' b T cs := by
 obtain ⟨fr, hb, hf⟩ := h
 exact ⟨fr, kept_other hown hg hb hT, hf⟩
theorem own_other {w w' : World} {v u : Value} {base size n base' size' n' : Nat} {e e' : TypeId} {xs ys : List Value} (h : w.ownsRow base' e' size' u n' ys) (hown : w.ownsRow base e size v n xs) (hg : w.grownBy w' v.ownBlock) (hT : e' ≠ e) : w'.ownsRow base' e' size' u n' ys := by
 refine ⟨h.1, h.2.imp id ?_⟩
 rintro ⟨g, cap, cur, rfl, hg', hh, r⟩
 exact ⟨g, cap, cur, rfl, hg', kept_other hown hg hh hT, r⟩
theorem own_set {w : World} {a : Addr} {u v : Value} {S : TypeId} {cs' : Array Value} {fr' : Nat × Nat} {base size n : Nat} {e : TypeId} {xs : List Value} (ha : w.heap[a.block]? = some (.cells cs' S fr')) (h : w.ownsRow base e size v n xs) (hT : e ≠ S) : (w.setCell a u).ownsRow base e size v n xs := by
 refine ⟨h.1, h.2.imp id ?_⟩
 rintro ⟨g, cap, cur, rfl, hg', hh, r⟩
 exact ⟨g, cap, cur, rfl, hg', set_other ha hh hT, r⟩
theorem Row.block {w : World} {b : Nat} {T : TypeId} {cs : List Value} (h : Row w b T cs) : ∃ fr, w.heap[b]? = some (.cells cs.toArray T fr) := by
 obtain ⟨fr, hb, _⟩ := h; exact ⟨fr, hb⟩
theorem Row.setOther {w : World} {a : Addr} {u : Value} {S T : TypeId} {cs' : Array Value} {fr' : Nat × Nat} {b : Nat} {cs : List Value} (ha : w.heap[a.block]? = some (.cells cs' S fr')) (h : Row w b T cs) (hT : T ≠ S) : Row (w.setCell a u) b T cs := by
 obtain ⟨fr, hb, hf⟩ := h
 exact ⟨fr, set_other ha hb hT, hf⟩
abbrev Node := Forks.Node
def NodeCells (w : World) : List Value → List Node → Prop
 | [], [] => True
 | a :: b :: cs, n :: L => a = .int .i64 n.1 ∧ EntsAt w b n.2 ∧ NodeCells w cs L
 | _, _ => False
theorem NodeCells.keep {w w' : World} (hk : KeepE w w') : ∀ {cs : List Value} {L : List Node}, NodeCells w cs L → NodeCells w' cs L
 | [], [], _ => trivial
 | [], _ :: _, h => h.elim
 | [_], _ :: _, h => h.elim
 | [_], [], h => h.elim
 | _ :: _ :: _, [], h => h.elim
 | _ :: _ :: _, _ :: _, h => ⟨h.1, h.2.1.keep hk, NodeCells.keep hk h.2.2⟩
theorem NodeCells.length {w : World} : ∀ {cs : List Value} {L : List Node}, NodeCells w cs L → cs.length = L.length * 2
 | [], [], _ => rfl
 | [], _ :: _, h => h.elim
 | [_], _ :: _, h => h.elim
 | [_], [], h => h.elim
 | _ :: _ :: _, [], h => h.elim
 | _ :: _ :: cs, _ :: L, h => by have := NodeCells.length h.2.2; simp only [List.length_cons]; omega
theorem NodeCells.append {w : World} : ∀ {cs ds : List Value} {L M : List Node}, NodeCells w cs L → NodeCells w ds M → NodeCells w (cs ++ ds) (L ++ M)
 | [], _, [], _, _, h => h
 | [], _, _ :: _, _, h, _ => h.elim
 | [_], _, _ :: _, _, h, _ => h.elim
 | [_], _, [], _, h, _ => h.elim
 | _ :: _ :: _, _, [], _, h, _ => h.elim
 | _ :: _ :: _, _, _ :: _, _, h, h2 => ⟨h.1, h.2.1, NodeCells.append h.2.2 h2⟩
theorem NodeCells.at {w : World} : ∀ {cs : List Value} {L : List Node}, NodeCells w cs L → ∀ i n, L[i]? = some n → cs[i * 2]? = some (.int .i64 n.1) ∧ ∃ u, cs[i * 2 + 1]? = some u ∧ EntsAt w u n.2
 | [], [], _, i, n, hn => by simp at hn
 | [], _ :: _, h, _, _, _ => h.elim
 | [_], _ :: _, h, _, _, _ => h.elim
 | [_], [], h, _, _, _ => h.elim
 | _ :: _ :: _, [], h, _, _, _ => h.elim
 | a :: b :: cs, m :: L, h, 0, n, hn => by
  simp at hn; subst hn
  exact ⟨by rw [h.1]; rfl, b, rfl, h.2.1⟩
 | a :: b :: cs, m :: L, h, i + 1, n, hn => by
  obtain ⟨h1, u, h2, h3⟩ := NodeCells.at h.2.2 i n (by simpa using hn)
  refine ⟨?_, u, ?_, h3⟩
  ·rw [show (i + 1) * 2 = i * 2 + 1 + 1 by omega]; simpa using h1
  ·rw [show (i + 1) * 2 + 1 = i * 2 + 1 + 1 + 1 by omega]; simpa using h2
def OwnNodes (B : Nat) (w : World) (v : Value) (L : List Node) : Prop := ∃ cs, w.ownsRow B 131 2 v L.length cs ∧ NodeCells w cs L
def NodesAt (w : World) (v : Value) (L : List Node) : Prop :=
 (v = .slice none 0 0 ∧ L = []) ∨ ∃ b off cap cs, v = .slice (some ⟨b, off, none⟩) L.length cap ∧ (∀ j u, cs[j]? = some u → w.cell? ⟨b, off + j, none⟩ = some u) ∧ NodeCells w cs L
theorem OwnNodes.nodes {B : Nat} {w : World} {v : Value} {L : List Node} (h : OwnNodes B w v L) : NodesAt w v L := by
 obtain ⟨cs, ho, hc⟩ := h
 rcases ho.2 with ⟨rfl, hn⟩ | ⟨g, cap, cur, rfl, hg, hh, h1, h2, h3, h4⟩
 ·exact .inl ⟨rfl, List.eq_nil_of_length_eq_zero hn⟩
 ·refine .inr ⟨g, 0, cap, cs, rfl, fun j u hu => ?_, hc⟩
  have hj : j < L.length * 2 := by
   have := (List.getElem?_eq_some_iff.1 hu).1
   rwa [hc.length] at this
  rw [Nat.zero_add]
  have e : (cur.toList.take (L.length * 2))[j]? = some u := by rw [h4]; exact hu
  rw [List.getElem?_take, if_pos hj, Array.getElem?_toList] at e
  simp [World.cell?, hh, e]
theorem OwnNodes.below {B : Nat} {w w' : World} {v : Value} {L : List Node} (h : OwnNodes B w v L) (hb : Below w.heap.size w w') : OwnNodes B w' v L := by
 obtain ⟨cs, ho, hc⟩ := h
 exact ⟨cs, ⟨ho.1, ho.2.imp id (fun ⟨g, cap, cur, hv, hg, hh, r⟩ => ⟨g, cap, cur, hv, hg, by rw [hb.block g (lt_of_block hh)]; exact hh, r⟩)⟩, hc.keep (.of_below hb)⟩
theorem NodesAt.below {w w' : World} {v : Value} {L : List Node} (h : NodesAt w v L) (hb : Below w.heap.size w w') : NodesAt w' v L := by
 rcases h with h | ⟨b, off, cap, cs, rfl, hc, hn⟩
 ·exact .inl h
 ·exact .inr ⟨b, off, cap, cs, rfl, fun j u hu => (hb.cell (p := ⟨b, off + j, none⟩) (World.block_lt_of_cell? w _ (hc j u hu))).trans (hc j u hu), hn.keep (.of_below hb)⟩
theorem NodesAt.form {w : World} {v : Value} {L : List Node} (h : NodesAt w v L) : ∃ ad cap, v = .slice ad L.length cap := by
 rcases h with ⟨rfl, rfl⟩ | ⟨b, off, cap, cs, rfl, _⟩
 ·exact ⟨_, _, rfl⟩
 ·exact ⟨_, _, rfl⟩
theorem OwnNodes.slice {B : Nat} {w : World} {v : Value} {L : List Node} (h : OwnNodes B w v L) : ∃ ad cap, v = .slice ad L.length cap := h.nodes.form
theorem OwnNodes.nil (w : World) (B : Nat) : OwnNodes B w (.slice none 0 0) [] := ⟨[], World.ownsRow_nil _ _ _ _, trivial⟩
structure WRaw (B X Lb Tb : Nat) (w : World) (rdv : Value) (lv : List Value) (rv : Value) (TX : List ByteArray) (LV : Nat → List Node) (R : EL) : Prop where
 x : w.heap[X]? = some (.cells #[rdv, .slice (some ⟨Lb, 0, none⟩) lv.length lv.length, rv, .slice (some ⟨Tb, 0, none⟩) 4096 4096] 109 (0, 0))
 lb : Row w Lb 128 lv
 tb : Row w Tb 9 (TX.map .string)
 lvl : ∀ (i : Nat) (u : Value), lv[i]? = some u → OwnNodes B w u (LV (i + 1))
 row : OwnExts B w rv R
 ne : ∀ (i j : Nat) (u u' : Value), lv[i]? = some u → lv[j]? = some u' → i ≠ j → ∀ k, u.ownBlock = some k → u'.ownBlock ≠ some k
 loX : B ≤ X
 loL : B ≤ Lb
 loT : B ≤ Tb
variable {B X Lb Tb : Nat} {w w' : World} {rdv rv : Value} {lv : List Value} {TX : List ByteArray} {LV : Nat → List Node} {R : EL}
theorem WRaw.below (h : WRaw B X Lb Tb w rdv lv rv TX LV R) (hb : Below w.heap.size w w') : WRaw B X Lb Tb w' rdv lv rv TX LV R :=
 ⟨by rw [hb.block X (lt_of_block h.x)]; exact h.x, h.lb.below hb h.lb.lt, h.tb.below hb h.tb.lt, fun i u hu => (h.lvl i u hu).below hb, h.row.below hb, h.ne, h.loX, h.loL, h.loT⟩
theorem WRaw.text (h : WRaw B X Lb Tb w rdv lv rv TX LV R) (k : Nat) (s : ByteArray) : WRaw B X Lb Tb (w.setCell ⟨Tb, k, none⟩ (.string s)) rdv lv rv (TX.set k s) LV R ∧ Below B w (w.setCell ⟨Tb, k, none⟩ (.string s)) ∧ KeepE w (w.setCell ⟨Tb, k, none⟩ (.string s)) := by
 obtain ⟨fr, ht⟩ := h.tb.block
 have ht' : w.heap[(⟨Tb, k, none⟩ : Addr).block]? = some (.cells (TX.map .string).toArray 9 fr) := ht
 have hk : KeepE w (w.setCell ⟨Tb, k, none⟩ (.string s)) := .set ht' (by decide)
 refine ⟨⟨set_other ht' h.x (by decide), h.lb.setOther ht' (by decide), ?_, fun i u hu => ?_, own_set ht' h.row (by decide), h.ne, h.loX, h.loL, h.loT⟩, (Below.refl _ _).setCell h.loT _, hk⟩
 ·have := h.tb.set k (.string s)
  rwa [← List.map_set] at this
 ·obtain ⟨cs, ho, hc⟩ := h.lvl i u hu
  exact ⟨cs, own_set ht' ho (by decide), hc.keep hk⟩
theorem WRaw.pushRow {w5 : World} {nv : Value} {R' : EL} (h : WRaw B X Lb Tb w rdv lv rv TX LV R) (hg : w.grownBy w5 rv.ownBlock) (hown : OwnExts B w5 nv R') (hB : B ≤ w.heap.size) :
  WRaw B X Lb Tb (w5.setCell ⟨X, 2, none⟩ nv) rdv lv nv TX LV R' ∧ Below B w (w5.setCell ⟨X, 2, none⟩ nv) ∧ KeepE w (w5.setCell ⟨X, 2, none⟩ nv) := by
 have hr : w.ownsRow B 53 3 rv R.length (ecells R) := h.row
 have hx := kept_other hr hg h.x (by decide)
 have hx' : w5.heap[(⟨X, 2, none⟩ : Addr).block]? = some (.cells #[rdv, .slice (some ⟨Lb, 0, none⟩) lv.length lv.length, rv, .slice (some ⟨Tb, 0, none⟩) 4096 4096] 109 (0, 0)) := hx
 have hk : KeepE w (w5.setCell ⟨X, 2, none⟩ nv) := (KeepE.grown hr hg (by decide)).trans (.set hx' (by decide))
 refine ⟨⟨?_, (h.lb.kept hr hg (by decide)).setOther hx' (by decide), (h.tb.kept hr hg (by decide)).setOther hx' (by decide), fun i u hu => ?_, own_set hx' hown (by decide), h.ne, h.loX, h.loL, h.loT⟩, ((Below.refl _ _).grown hg hB (fun k hk => (World.ownsRow.lt hr k hk).1)).setCell h.loX _, hk⟩
 ·show (w5.heap.modify X _)[X]? = _
  have hlt := lt_of_block hx
  have e : w5.heap[X] = .cells #[rdv, .slice (some ⟨Lb, 0, none⟩) lv.length lv.length, rv, .slice (some ⟨Tb, 0, none⟩) 4096 4096] 109 (0, 0) := by simpa [Array.getElem?_eq_getElem hlt] using hx
  rw [Array.getElem?_eq_getElem (by simpa using hlt), Array.getElem_modify_self, e]
  rfl
 ·obtain ⟨cs, ho, hc⟩ := h.lvl i u hu
  exact ⟨cs, own_set hx' (own_other ho hr hg (by decide)) (by decide), hc.keep hk⟩
theorem WRaw.pushLvl {w5 : World} {i g c : Nat} {u : Value} {cs : List Value} {n : Node} {a e : Value} (h : WRaw B X Lb Tb w rdv lv rv TX LV R) (hi : lv[i]? = some u) (hr : w.ownsRow B 131 2 u (LV (i + 1)).length cs) (hc : NodeCells w cs (LV (i + 1))) (hg : w.grownBy w5 u.ownBlock) (ha : a = .int .i64 n.1) (he : EntsAt w e n.2)
  (hown : w5.ownsRow B 131 2 (.slice (some ⟨g, 0, none⟩) ((LV (i + 1)).length + 1) c) ((LV (i + 1)).length + 1) (cs ++ [a, e])) (hat : u.ownBlock = some g ∨ g = w.heap.size) (hB : B ≤ w.heap.size) {LV' : Nat → List Node} (hL : LV' (i + 1) = LV (i + 1) ++ [n]) (hL' : ∀ k, k ≠ i + 1 → LV' k = LV k) :
  WRaw B X Lb Tb (w5.setCell ⟨Lb, i, none⟩ (.slice (some ⟨g, 0, none⟩) ((LV (i + 1)).length + 1) c)) rdv (lv.set i (.slice (some ⟨g, 0, none⟩) ((LV (i + 1)).length + 1) c)) rv TX LV' R ∧ Below B w (w5.setCell ⟨Lb, i, none⟩ (.slice (some ⟨g, 0, none⟩) ((LV (i + 1)).length + 1) c)) ∧ KeepE w (w5.setCell ⟨Lb, i, none⟩ (.slice (some ⟨g, 0, none⟩) ((LV (i + 1)).length + 1) c)) := by
 have hlb := h.lb.kept hr hg (by decide)
 obtain ⟨fr, hlb0⟩ := hlb.block
 have hlb' : w5.heap[(⟨Lb, i, none⟩ : Addr).block]? = some (.cells lv.toArray 128 fr) := hlb0
 have hk1 : KeepE w w5 := KeepE.grown hr hg (by decide)
 have hk : KeepE w (w5.setCell ⟨Lb, i, none⟩ (.slice (some ⟨g, 0, none⟩) ((LV (i + 1)).length + 1) c)) := hk1.trans (.set hlb' (by decide))
 have hil : i < lv.length := (List.getElem?_eq_some_iff.1 hi).1
 refine ⟨⟨?_, hlb.set i _, (h.tb.kept hr hg (by decide)).setOther hlb' (by decide), fun j v hv => ?_, own_set hlb' (own_other h.row hr hg (by decide)) (by decide), fun j k v v' hv hv' hjk b hb => ?_, h.loX, h.loL, h.loT⟩, ((Below.refl _ _).grown hg hB (fun k hk => (World.ownsRow.lt hr k hk).1)).setCell h.loL _, hk⟩
 ·rw [List.length_set]
  exact set_other hlb' (kept_other hr hg h.x (by decide)) (by decide)
 ·rw [List.getElem?_set] at hv
  split at hv
  ·rename_i e1
   subst e1
   try rw [if_pos hil] at hv
   cases hv
   refine ⟨cs ++ [a, e], ?_, ?_⟩
   ·rw [hL, List.length_append]
    exact own_set hlb' hown (by decide)
   ·rw [hL]
    exact (hc.append (show NodeCells w [a, e] [n] from ⟨ha, he, trivial⟩)).keep hk
  ·rename_i e1
   rw [hL' (j + 1) (by omega)]
   obtain ⟨ds, ho, hd⟩ := h.lvl j v hv
   refine ⟨ds, own_set hlb' (World.ownsRow.kept ho hg ?_) (by decide), hd.keep hk⟩
   cases hv1 : v.ownBlock with
   | none => exact .inl rfl
   | some b => exact .inr (fun e2 => h.ne j i v u hv hi (fun h => e1 h.symm) b hv1 e2.symm)
 ·rw [List.getElem?_set] at hv hv'
  have hx : ∀ k v', k ≠ i → lv[k]? = some v' → v'.ownBlock ≠ some g := by
   intro k v' hki hv' hb'
   rcases hat with h1 | h1
   ·exact h.ne k i v' u hv' hi hki g hb' h1
   ·obtain ⟨ds, ho, _⟩ := h.lvl k v' hv'
    have := (World.ownsRow.lt ho g hb').2
    omega
  by_cases e1 : i = j
  ·rw [if_pos e1, if_pos hil] at hv
   cases hv
   rw [if_neg (fun e2 => hjk (e1.symm.trans e2))] at hv'
   simp only [Value.ownBlock, Option.some.injEq] at hb
   subst hb
   exact hx k v' (fun e2 => hjk (e1.symm.trans e2.symm)) hv'
  ·rw [if_neg e1] at hv
   by_cases e2 : i = k
   ·rw [if_pos e2, if_pos hil] at hv'
    cases hv'
    intro hb'
    simp only [Value.ownBlock, Option.some.injEq] at hb'
    subst hb'
    exact hx j v (fun e3 => e1 e3.symm) hv hb
   ·rw [if_neg e2] at hv'
    exact h.ne j k v v' hv hv' hjk b hb
def WAt (B X : Nat) (w : World) (rdv : Value) (d : Nat) (v : Forks.V) : Prop := ∃ Lb Tb lv rv, lv.length = d ∧ WRaw B X Lb Tb w rdv lv rv (Forks.texts v) (Forks.lvl v) (Forks.rowV v)
theorem WAt.below {B X : Nat} {w w' : World} {rdv : Value} {d : Nat} {v : Forks.V} (h : WAt B X w rdv d v) (hb : Below w.heap.size w w') : WAt B X w' rdv d v := by
 obtain ⟨Lb, Tb, lv, rv, hd, h⟩ := h
 exact ⟨Lb, Tb, lv, rv, hd, h.below hb⟩
end Go.Proofs.YtgjmeeiejcbjfaaGreat
namespace Go.Proofs.YtgjmeeiejcbjfaaGreat
open Go.Lib (hid)
open Go Go.RowKit
set_option maxHeartbeats 1000000 in
theorem nclone_any (v : Value) (l : EL) (w : World) (h : ExtsAt w v l) (hl : l.length ≤ 1000000000) : Calls Tryz.prog 100 #[v] w fun e w' => ∃ v', e = .returned v' ∧ OwnEnts w.heap.size w' v' l ∧ Below w.heap.size w w' := by
 obtain ⟨i0, hi0, hz0, hz1, hz2⟩ := info_parts info_entry
 rcases h with ⟨rfl, rfl⟩ | ⟨b, off, cap, rfl, hc⟩
 ·have hnil : ∀ w : World, (binOp .eql 22 (.slice none 0 0) (.slice none 0 0)).run Tryz.prog w = .ok (.bool true) w := fun w => Lib.run_eql_slice_nil (P := Tryz.prog) w 22 31 none 0 0 0 0 Tryz.underlying22
  go_enter Tryz.func100, Tryz.ntmps100
  go_wp2_with fail
  go_ret
  exact ⟨_, rfl, World.ownsRow_nil _ _ _ _, Below.refl _ _⟩
 ·have hnil : ∀ w : World, (binOp .eql 22 (.slice (some ⟨b, off, none⟩) l.length cap) (.slice none 0 0)).run Tryz.prog w = .ok (.bool false) w := fun w => Lib.run_eql_slice_nil (P := Tryz.prog) w 22 31 (some ⟨b, off, none⟩) l.length cap 0 0 Tryz.underlying22
  have hnews : ∀ j u, (ecells l)[j]? = some u → (w.alloc (.cells #[] 31)).cell? ((⟨b, off, none⟩ : Addr).add j) = some u := fun j u hu => by
   have e1 : (⟨b, off, none⟩ : Addr).add j = ⟨b, off + j, none⟩ := by unfold Addr.add; split <;> simp_all
   rw [e1]
   have := hc j u hu
   exact Lib.cell?_alloc_some _ this
  have hown : (w.alloc (.cells #[] 31)).ownsRow w.heap.size 31 3 (.slice (some ⟨w.heap.size, 0, none⟩) 0 0) 0 [] := World.ownsRow_lit w #[] 0 (Nat.le_refl _) (Nat.zero_le _) rfl
  have hone := ecells_one l
  have hrl := ecells_length l
  have HH := hid hl
  clear hc
  go_enter Tryz.func100, Tryz.ntmps100
  go_wp2_with (first
   | (at_builtin; refine wpList_append_own _ rfl _ _ 22 rfl w.heap.size 31 i0 (.agg #[.int .i64 0, .int .i64 0, .int .i64 0]) 3 24 Tryz.underlying22 hi0 hz0 hz1 hz2 rfl (by decide) _ 0 _ rfl hown ⟨b, off, none⟩ l.length cap (ecells l) rfl hrl hnews hone (by have := HH.out; unfold maxLen; omega) (by have := HH.out; omega) (by simp) ?_))
  intro v' w1 hown1 hgrow _
  have hW : Hid (Below w.heap.size w w1) := hid (((Below.refl _ _).alloc (Nat.le_refl _) (.cells #[] 31)).grown hgrow (by simp) (fun k hk => by have := (hown.lt k hk).1; exact this))
  have hG : Hid (OwnEnts w.heap.size w1 v' l) := hid (by
   exact hown1)
  clear hown1 hgrow hown hnews
  go_wp2_with fail
  go_ret
  exact ⟨_, rfl, hG.out, hW.out⟩
end Go.Proofs.YtgjmeeiejcbjfaaGreat
namespace Go.Proofs.YtgjmeeiejcbjfaaGreat
open Go.Lib (hid)
open Go Go.RowKit
variable {B X Lb Tb : Nat} {w : World} {rdv rv : Value} {lv : List Value} {TX : List ByteArray} {LV : Nat → List Node} {R : EL}
theorem WRaw.cellX (h : WRaw B X Lb Tb w rdv lv rv TX LV R) : w.cell? ⟨X, 0, none⟩ = some rdv ∧ w.cell? ⟨X, 1, none⟩ = some (.slice (some ⟨Lb, 0, none⟩) lv.length lv.length) ∧ w.cell? ⟨X, 2, none⟩ = some rv ∧ w.cell? ⟨X, 3, none⟩ = some (.slice (some ⟨Tb, 0, none⟩) 4096 4096) := by
 refine ⟨?_, ?_, ?_, ?_⟩ <;> (rw [cell_of_row w X _ _ _ _ h.x]; rfl)
theorem free_zero {w : World} {b : Nat} {cs : Array Value} {T : TypeId} (h : w.heap[b]? = some (.cells cs T (0, 0))) (k : Nat) : w.frozen? ⟨b, k, none⟩ = false := by
 simp only [World.frozen?, h]
 simp
theorem WRaw.lt (h : WRaw B X Lb Tb w rdv lv rv TX LV R) : X < w.heap.size := lt_of_block h.x
set_option maxRecDepth 100000 in
set_option maxHeartbeats 4000000 in
theorem add_any (h : WRaw B X Lb Tb w rdv lv rv TX LV R) (v : Value) (l : EL) (hv : ∀ wz, Below B w wz → KeepE w wz → ExtsAt wz v l) (hl : R.length + l.length ≤ 1000000) (hB : B ≤ w.heap.size) :
  Calls Tryz.prog 94 #[.pointer (some ⟨X, 0, none⟩), v] w fun e w' => e = .returned (.tuple #[]) ∧ (∃ rv', WRaw B X Lb Tb w' rdv lv rv' TX LV (R ++ l)) ∧ Below B w w' ∧ KeepE w w' := by
 obtain ⟨i0', hi0, hz0, hz1, hz2⟩ := info_parts info_ext
 have HV := hid hv
 obtain ⟨ad, cap, rfl⟩ := (hv w (Below.refl _ _) (.refl _)).form
 have HW := hid h
 clear h hv
 go_enter Tryz.func94, Tryz.ntmps94
 go_wp2_with fail
 go_loopw [8] (fun q wr => ∃ j : Nat, j ≤ l.length ∧ q = .int .i64 j ∧ Hid (∃ rv', WRaw B X Lb Tb wr rdv lv rv' TX LV (R ++ l.take j)) ∧ Hid (Below B w wr ∧ KeepE w wr)) (fun q _ => l.length - (intOf q).toNat)
 case atStart => exact ⟨0, by omega, rfl, hid ⟨_, by rw [List.take_zero, List.append_nil]; exact HW.out⟩, hid ⟨Below.refl _ _, .refl _⟩⟩
 case round =>
  obtain ⟨j, hj, rfl, hw, hb⟩ := hrel
  by_cases hlt : j < l.length
  ·have i0 : (0 : Int) ≤ (j : Int) := by omega
   have i1 : (j : Int) < (l.length : Int) := by omega
   obtain ⟨hll, g, off, rfl, c0, c1, c2⟩ := (HV.out wr hb.out.1 hb.out.2).cells j hlt
   clear hll
   obtain ⟨rv', hw⟩ := hw.out
   have hBw := hb.out.1.size
   have hT : Hid (l.take (j + 1) = l.take j ++ [l.getD j (0, 0, 0)]) := hid (by
    rw [List.take_succ_eq_append_getElem hlt]
    simp [List.getD, hlt])
   have hTl : (R ++ l.take j).length ≤ 1000000 - 1 := by rw [List.length_append, List.length_take]; omega
   generalize hP : R ++ l.take j = P at *
   have HP := hid hP
   clear hP
   generalize l.getD j (0, 0, 0) = x at *
   obtain ⟨xa, xb, xc⟩ := x
   dsimp only at *
   have h1 := hw.below (w' := wr.alloc (.cells #[.int .i64 xa, .int .i64 xb, .int .i64 xc] 31)) ((Below.refl _ _).alloc (Nat.le_refl _) _)
   have x0 : (wr.alloc (.cells #[.int .i64 xa, .int .i64 xb, .int .i64 xc] 31)).cell? ⟨wr.heap.size, 0, none⟩ = some (.int .i64 xa) := box_cell _ _ _ _
   have x1 : (wr.alloc (.cells #[.int .i64 xa, .int .i64 xb, .int .i64 xc] 31)).cell? ⟨wr.heap.size, 1, none⟩ = some (.int .i64 xb) := box_cell _ _ _ _
   have x2 : (wr.alloc (.cells #[.int .i64 xa, .int .i64 xb, .int .i64 xc] 31)).cell? ⟨wr.heap.size, 2, none⟩ = some (.int .i64 xc) := box_cell _ _ _ _
   have hb1 : Below B w (wr.alloc (.cells #[.int .i64 xa, .int .i64 xb, .int .i64 xc] 31)) ∧ KeepE w (wr.alloc (.cells #[.int .i64 xa, .int .i64 xb, .int .i64 xc] 31)) := ⟨hb.out.1.alloc (by omega) _, hb.out.2.trans (.of_below ((Below.refl _ _).alloc (Nat.le_refl _) _))⟩
   have HB1 := hid hb1
   have hBs : B ≤ (wr.alloc (.cells #[.int .i64 xa, .int .i64 xb, .int .i64 xc] 31)).heap.size := by simp; omega
   clear hb1 hb hw
   go_upto_region 3 with fail
   generalize wr.alloc _ = wx at *
   generalize wr.heap.size = Y at *
   obtain ⟨-, -, cX, -⟩ := h1.cellX
   have zX := h1.lt
   obtain ⟨ad', co, rfl⟩ := h1.row.slice
   have bA : Below wx.heap.size wx (wx.drew.alloc (.cells #[.int .i64 xa, .int .i64 xb, .int .i64 xc] 53)) := (Below.refl _ _).drew.alloc (Nat.le_refl _) _
   have H2 := hid (h1.below bA)
   have HG := hid (show World.ownsRow (wx.drew.alloc (.cells #[.int .i64 xa, .int .i64 xb, .int .i64 xc] 53)) B 53 3 (.slice ad' P.length co) P.length (ecells P) from H2.out.row)
   have HBA := hid (And.intro (HB1.out.1.trans (bA.mono hBs)) (HB1.out.2.trans (.of_below bA)))
   have HNN : Hid (∀ jj uu, [Value.int .i64 xa, .int .i64 xb, .int .i64 xc][jj]? = some uu → (wx.drew.alloc (.cells #[.int .i64 xa, .int .i64 xb, .int .i64 xc] 53)).cell? ((⟨wx.heap.size, 0, none⟩ : Addr).add jj) = some uu) := hid (fun jj uu hjj => by
    have hadd : (⟨wx.heap.size, 0, none⟩ : Addr).add jj = ⟨wx.heap.size, jj, none⟩ := by unfold Addr.add; split <;> simp_all
    rw [hadd]
    exact (World.cell?_alloc_at (w := wx.drew) _ _ _ jj rfl).trans (by simpa using hjj))
   have hone := ecells_one [(xa, xb, xc)]
   have hBs2 : B ≤ (wx.drew.alloc (.cells #[.int .i64 xa, .int .i64 xb, .int .i64 xc] 53)).heap.size := by simp; omega
   clear bA h1
   go_region_law (refine step_append_lies _ rfl (.tmp 16) (.tmp 18) 42 rfl B 53 i0' (.agg #[.int .i64 0, .int .i64 0, .int .i64 0]) 3 24 Tryz.underlying42 hi0 hz0 hz1 hz2 rfl (by decide) (.slice ad' P.length co) P.length (ecells P) (by simp [Act.eval, Act.put]; done) HG.out ⟨wx.heap.size, 0, none⟩ 1 1 [.int .i64 xa, .int .i64 xb, .int .i64 xc] (by simp [Act.eval, Act.put]; done) rfl HNN.out hone (by decide) (by unfold maxLen; omega) (by omega) hBs2 _ rfl ?_; intro g5 c5 w5 hown hgrow hat hlt5; have X5 := kept_other HG.out hgrow H2.out.x (by decide); have cX5 := cell_of_row w5 X 2 _ _ _ X5; have fX5 := free_zero X5 2)
   all_goals
    have hown2 : OwnExts B w5 (.slice (some ⟨g5, 0, none⟩) (P.length + 1) c5) (P ++ [(xa, xb, xc)]) := by
     unfold OwnExts
     rw [List.length_append, ecells_append]
     exact hown
    have R5 := H2.out.pushRow hgrow hown2 hBs2
    have R6 := hid (show ∃ rv', WRaw B X Lb Tb (w5.setCell ⟨X, 2, none⟩ (.slice (some ⟨g5, 0, none⟩) (P.length + 1) c5)) rdv lv rv' TX LV (R ++ l.take (j + 1)) from ⟨_, by rw [hT.out, ← List.append_assoc, HP.out]; exact R5.1⟩)
    have R7 := hid (And.intro (HBA.out.1.trans R5.2.1) (HBA.out.2.trans R5.2.2))
    clear R5 hown hown2 hgrow hat hlt5 X5 cX5 fX5
    go_wp2_with fail
    go_roundw
    case rel => exact ⟨j + 1, by omega, by go_num, R6, R7⟩
    case measure => simp [intOf]; omega
  ·obtain rfl : j = l.length := by omega
   have hw2 := hw.out
   rw [List.take_length] at hw2
   have HW2 := hid hw2
   clear hw2
   go_wp2_with fail
   go_end0
   exact ⟨rfl, HW2.out, hb.out⟩
end Go.Proofs.YtgjmeeiejcbjfaaGreat
namespace Go.Proofs.YtgjmeeiejcbjfaaGreat
open Go.Lib (hid)
open Go Go.RowKit
def DiskAt (B : Nat) (w : World) (rdv : Value) (d : Forks.Disk) : Prop :=
 ∃ pl pb D c, rdv = .func (.func 49) #[] #[.pointer (some ⟨pl, 0, none⟩), .pointer (some ⟨pb, 0, none⟩)] ∧ pl < B ∧ pb < B ∧ D < B ∧ d.L.length ≤ 1000000000 ∧
  w.cell? ⟨pl, 0, none⟩ = some (.slice (some ⟨D, 0, none⟩) d.L.length c) ∧ w.cell? ⟨pb, 0, none⟩ = some (.int .i64 d.bad) ∧ ∀ k s, d.L[k]? = some s → w.cell? ⟨D, k, none⟩ = some (.string s)
theorem DiskAt.below {B : Nat} {w w' : World} {rdv : Value} {d : Forks.Disk} (h : DiskAt B w rdv d) (hb : Below B w w') : DiskAt B w' rdv d := by
 obtain ⟨pl, pb, D, c, rfl, h1, h2, h3, h4, c1, c2, c3⟩ := h
 exact ⟨pl, pb, D, c, rfl, h1, h2, h3, h4, (hb.cell (p := ⟨pl, 0, none⟩) h1).trans c1, (hb.cell (p := ⟨pb, 0, none⟩) h2).trans c2, fun k s hk => (hb.cell (p := ⟨D, k, none⟩) h3).trans (c3 k s hk)⟩
theorem DiskAt.mono {B B' : Nat} {w : World} {rdv : Value} {d : Forks.Disk} (h : DiskAt B w rdv d) (hb : B ≤ B') : DiskAt B' w rdv d := by
 obtain ⟨pl, pb, D, c, rfl, h1, h2, h3, r⟩ := h
 exact ⟨pl, pb, D, c, rfl, by omega, by omega, by omega, r⟩
def rdOut (o : Option ByteArray) : Value := match o with
 | none => .tuple #[.string ⟨#[]⟩, .int .i64 60]
 | some s => .tuple #[.string s, .int .i64 0]
set_option maxHeartbeats 1000000 in
theorem read_any {B : Nat} {w : World} {d : Forks.Disk} (pl pb : Nat) (h : DiskAt B w (.func (.func 49) #[] #[.pointer (some ⟨pl, 0, none⟩), .pointer (some ⟨pb, 0, none⟩)]) d) (b : Nat) (hb : b ≤ 1000000000) (o : Option ByteArray) (ho : d.rd b = o) :
  Calls Tryz.prog 49 #[.int .i64 b, .pointer (some ⟨pl, 0, none⟩), .pointer (some ⟨pb, 0, none⟩)] w fun e w' => e = .returned (rdOut o) ∧ w = w' := by
 obtain ⟨pl, pb, D, c, e, h1, h2, h3, h4, c1, c2, c3⟩ := h
 cases e
 subst ho
 have b0 : (0 : Int) ≤ (b : Int) := by omega
 by_cases k1 : b < d.L.length
 ·have k1' : ¬ (d.L.length : Int) ≤ (b : Int) := by omega
  have k1'' : (b : Int) < (d.L.length : Int) := by omega
  have c3 := c3 b _ (List.getElem?_eq_getElem k1)
  by_cases k2 : (b : Int) = d.bad
  ·have hr : d.rd b = none := by unfold Forks.Disk.rd; rw [if_pos k2]
   have hk : ((b : Int) == d.bad) = true := by rw [beq_iff_eq]; exact k2
   rw [hr]
   clear hr k2
   generalize d.L[b] = s at *
   generalize d.bad = bad at *
   generalize d.L.length = n at *
   go_enter Tryz.func49, Tryz.ntmps49
   go_wp2_with fail
   go_ret2
   exact ⟨rfl, rfl⟩
  ·have hr : d.rd b = some d.L[b] := by unfold Forks.Disk.rd; rw [if_neg k2, List.getElem?_eq_getElem k1]
   have hk : ((b : Int) == d.bad) = false := by rw [beq_eq_false_iff_ne]; exact k2
   rw [hr]
   clear hr k2
   generalize d.L[b] = s at *
   generalize d.bad = bad at *
   generalize d.L.length = n at *
   go_enter Tryz.func49, Tryz.ntmps49
   go_wp2_with fail
   go_ret2
   exact ⟨rfl, rfl⟩
 ·have hr : d.rd b = none := by
   unfold Forks.Disk.rd
   split
   ·rfl
   ·exact List.getElem?_eq_none (by omega)
  have k1' : (d.L.length : Int) ≤ (b : Int) := by omega
  rw [hr]
  clear hr
  generalize d.bad = bad at *
  generalize d.L.length = n at *
  go_enter Tryz.func49, Tryz.ntmps49
  go_wp2_with fail
  go_ret2
  exact ⟨rfl, rfl⟩
end Go.Proofs.YtgjmeeiejcbjfaaGreat
