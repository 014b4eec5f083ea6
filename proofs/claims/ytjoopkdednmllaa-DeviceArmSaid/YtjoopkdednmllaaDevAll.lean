/- Laws of devices: read, played. -/
import Derived.Test.YtjoopkdednmllaaDevGreat
namespace Go.Proofs.Ytjoopkdednmllaa
open Go Go.RowKit
variable {B b : Nat} {w : World} {y : Lay} {D : Dev}

theorem txt_append (a c : List UInt8) : txt a ++ txt c = txt (a ++ c) := by
  apply ByteArray.ext
  apply Array.ext'
  simp [txt]
theorem txt_of (s : ByteArray) : txt s.data.toList = s := by
  obtain ⟨⟨l⟩⟩ := s
  rfl
theorem cat_take (l : List ByteArray) (j : Nat) (h : j < l.length) : txt (cat (l.take j)) ++ l.getD j ⟨#[]⟩ = txt (cat (l.take (j + 1))) := by
  have e : l.getD j ⟨#[]⟩ = l[j] := by simp [List.getD, h]
  rw [List.take_succ_eq_append_getElem h, e]
  conv => lhs; rw [← txt_of l[j], txt_append]
  congr 1
  simp only [cat, List.map_append, List.flatten_append, List.map_cons, List.map_nil, List.flatten_cons, List.flatten_nil, List.append_nil]

theorem cat_take_size (l : List ByteArray) (hs : sized l) (j : Nat) (h : j < l.length) : (txt (cat (l.take j))).size = j * 128 ∧ (l.getD j ⟨#[]⟩).size = 128 := by
  constructor
  · show (List.toArray _).size = _
    rw [List.size_toArray, cat_length _ (fun s hs' => hs s (List.mem_of_mem_take hs')), List.length_take]
    congr 1; omega
  · have e : l.getD j ⟨#[]⟩ = l[j] := by simp [List.getD, h]
    rw [e]; exact hs _ (List.getElem_mem h)

theorem readall_any (h : DevAt B w b y D) (hs : sized D.now) : Calls Try.prog 37 #[.pointer (some ⟨b, 0, none⟩)] w fun e w' => e = .returned (.string (txt (cat D.now))) ∧ w = w' := by
  have HB := Lib.hid (blocks_any h)
  have hp := h.pos
  have hlen : D.now.length = D.kept.length := by have := h.now.1; simpa [strs] using this
  have HR : Hid (∀ j : Nat, j < D.kept.length → Calls Try.prog 21 #[.pointer (some ⟨b, 0, none⟩), .int .i64 j] w fun e w' => e = .returned (.tuple #[.string (D.now.getD j ⟨#[]⟩), .int .i64 0]) ∧ w = w') := Lib.hid fun j hj => by
    have := read_any h (j : Int)
    have e1 : D.readS (j : Int) = D.now.getD j ⟨#[]⟩ := by unfold Dev.readS; rw [if_neg (by omega)]; rfl
    have e2 : D.ask (j : Int) = 0 := by unfold Dev.ask; rw [if_neg (by omega)]
    rw [e1, e2] at this
    exact this
  have h0 : Hid (txt (cat (D.now.take 0)) = ⟨#[]⟩) := Lib.hid rfl
  have hS : Hid (∀ j, j < D.kept.length → txt (cat (D.now.take j)) ++ D.now.getD j ⟨#[]⟩ = txt (cat (D.now.take (j + 1)))) := Lib.hid (fun j hj => cat_take _ _ (by omega))
  have hsz : Hid (∀ j, j < D.kept.length → (txt (cat (D.now.take j))).size = j * 128 ∧ (D.now.getD j ⟨#[]⟩).size = 128) := Lib.hid (fun j hj => cat_take_size _ hs j (by omega))
  have hE : Hid (txt (cat (D.now.take D.kept.length)) = txt (cat D.now)) := Lib.hid (by rw [← hlen, List.take_length])
  clear h hlen hs
  generalize txt (cat D.now) = T at *
  generalize D.kept.length = n at *
  obtain ⟨S, hSS⟩ : ∃ S : Nat → ByteArray, ∀ j, txt (cat (D.now.take j)) = S j := ⟨_, fun _ => rfl⟩
  obtain ⟨Z, hZZ⟩ : ∃ Z : Nat → ByteArray, ∀ j, D.now.getD j ⟨#[]⟩ = Z j := ⟨_, fun _ => rfl⟩
  simp only [hSS, hZZ] at h0 hS hE HR hsz
  clear hSS hZZ
  go_enter Try.func37, Try.ntmps37
  go_wp2_with fail
  go_loopw [3, 4] (fun u q wr => ∃ j : Nat, j ≤ n ∧ u = .string (S j) ∧ q = .int .i64 j ∧ w = wr) (fun _ q _ => n - (intOf q).toNat)
  case atStart => exact ⟨0, by omega, by rw [h0.out], rfl, rfl⟩
  case round =>
    obtain ⟨j, hj, rfl, rfl, rfl⟩ := hrel
    by_cases hlt : j < n
    · have i1 : (j : Int) < (n : Int) := by omega
      have i0 : (0 : Int) ≤ (j : Int) := by omega
      have hst := Lib.hid (hS.out j hlt)
      have hbd : (S j).size + (Z j).size ≤ 9223372036854775807 := by have := hsz.out j hlt; omega
      have HRj := Lib.hid (HR.out j hlt)
      go_wp2_with fail
      refine HB.out.mono ?_
      rintro e w' ⟨rfl, rfl⟩
      go_wp2_with fail
      refine HRj.out.mono ?_
      rintro e w' ⟨rfl, rfl⟩
      go_wp2_with fail
      go_roundw
      case rel => exact ⟨j + 1, by omega, by rw [hst.out], by go_num, trivial⟩
      case measure => simp [intOf]; omega
    · obtain rfl : j = n := by omega
      go_wp2_with fail
      refine HB.out.mono ?_
      rintro e w' ⟨rfl, rfl⟩
      go_wp2_with fail
      go_ret
      exact ⟨by rw [hE.out]; rfl, rfl⟩

end Go.Proofs.Ytjoopkdednmllaa
