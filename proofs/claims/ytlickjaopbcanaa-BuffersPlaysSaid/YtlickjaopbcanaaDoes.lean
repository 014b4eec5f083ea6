/- Laws of caches: does. -/
import Derived.Test.YtlickjaopbcanaaActs7
import Derived.Test.YtlickjaopbcanaaCacheDev
import Derived.Deep.RegionHeld3
namespace Go.Proofs.Ytlickjaopbcanaa
open Go Go.RowKit Bufs
variable {B cb : Nat} {w w' : World} {db most : Nat} {y : Lay} {Dv : Dev} {l : PL} {E : List Nat} {k : Nat}

/-- An act, done. -/
def doesR (r : Nat) (D : Dev) (l : PL) (most : Nat) (x : ActC) : (ByteArray × Int) × Dev × PL :=
  if r < 3 then getS D l most x.b else if r < 6 then ((⟨#[]⟩, (putS D l most x.b x.what x.pin).1), (putS D l most x.b x.what x.pin).2.1, (putS D l most x.b x.what x.pin).2.2)
  else if r = 6 then ((⟨#[]⟩, 0), D, unpinS D l x.b) else if r = 7 then ((⟨#[]⟩, 0), D, forgetS D l x.b)
  else if r = 8 then ((⟨#[]⟩, (outB D l x.b).1), (outB D l x.b).2.1, (outB D l x.b).2.2)
  else if r = 9 then ((⟨#[]⟩, (syncN D.kept.length 0 D l).1), (syncN D.kept.length 0 D l).2.1, (syncN D.kept.length 0 D l).2.2)
  else if r = 10 then ((⟨#[]⟩, 0), D.arm x.n, l) else if r = 11 then ((⟨#[]⟩, D.flushE), D.flush, l)
  else ((⟨#[]⟩, D.writeE x.b (blk x.fill)), D.write x.b (blk x.fill), l)
def doesS (D : Dev) (l : PL) (most : Nat) (x : ActC) : (ByteArray × Int) × Dev × PL := doesR (x.kind.toNat % 13) D l most x
theorem ActC.what_le (x : ActC) (h : ActOk x) : x.what.size ≤ 9223372036854775807 := by
  unfold ActC.what
  split
  · rw [blk_size]; omega
  · exact h.data
/-- An act's cells, in a block of its own. -/
structure ActAt (w : World) (X : Nat) (kz xb xn fz : Int) (pin : Bool) (data : ByteArray) : Prop where
  x0 : w.cell? ⟨X, 0, none⟩ = some (.int .u8 kz)
  x1 : w.cell? ⟨X, 1, none⟩ = some (.int .i64 xb)
  x2 : w.cell? ⟨X, 2, none⟩ = some (.int .i64 xn)
  x3 : w.cell? ⟨X, 3, none⟩ = some (.int .u8 fz)
  x4 : w.cell? ⟨X, 4, none⟩ = some (.bool pin)
  x5 : w.cell? ⟨X, 5, none⟩ = some (.string data)
theorem ActAt.same {w w' : World} {X : Nat} {kz xb xn fz : Int} {pin : Bool} {data : ByteArray} (h : ActAt w X kz xb xn fz pin data) (he : w'.heap[X]? = w.heap[X]?) : ActAt w' X kz xb xn fz pin data := by
  have e : ∀ k, w'.cell? ⟨X, k, none⟩ = w.cell? ⟨X, k, none⟩ := fun k => by simp only [World.cell?, he]
  exact ⟨(e 0).trans h.x0, (e 1).trans h.x1, (e 2).trans h.x2, (e 3).trans h.x3, (e 4).trans h.x4, (e 5).trans h.x5⟩
theorem ActAt.lt {w : World} {X : Nat} {kz xb xn fz : Int} {pin : Bool} {data : ByteArray} (h : ActAt w X kz xb xn fz pin data) : X < w.heap.size := World.block_lt_of_cell? w _ h.x0
theorem ActAt.below {w w' : World} {X : Nat} {kz xb xn fz : Int} {pin : Bool} {data : ByteArray} (h : ActAt w X kz xb xn fz pin data) (hb : Below w.heap.size w w') : ActAt w' X kz xb xn fz pin data := h.same (hb.block X h.lt)
theorem ActAt.fr {w w' : World} {X : Nat} {kz xb xn fz : Int} {pin : Bool} {data : ByteArray} (h : ActAt w X kz xb xn fz pin data) (hb : Fr B (X :: E) w w') : ActAt w' X kz xb xn fz pin data := h.same (hb.block X h.lt (.inr List.mem_cons_self))
theorem ActAt.new (w : World) (kz xb xn fz : Int) (pin : Bool) (data : ByteArray) : ActAt (w.alloc (.cells #[.int .u8 kz, .int .i64 xb, .int .i64 xn, .int .u8 fz, .bool pin, .string data] 57)) w.heap.size kz xb xn fz pin data := by
  have e : ∀ k, (w.alloc (.cells #[.int .u8 kz, .int .i64 xb, .int .i64 xn, .int .u8 fz, .bool pin, .string data] 57)).cell? ⟨w.heap.size, k, none⟩ = _ := fun k => cell_of_row _ _ _ _ _ _ (heap_alloc_new w _)
  exact ⟨(e 0).trans rfl, (e 1).trans rfl, (e 2).trans rfl, (e 3).trans rfl, (e 4).trans rfl, (e 5).trans rfl⟩

set_option maxRecDepth 100000 in
set_option maxHeartbeats 8000000 in
theorem does_any (h : CS B w cb db y Dv most l E k) (hk : k ≤ 800000000000) (x : ActC) (hx : ActOk x) :
    Calls Try.prog 26 #[.pointer (some ⟨cb, 0, none⟩), .pointer (some ⟨db, 0, none⟩), .agg (actCells x).toArray] w fun e w' => e = .returned (.tuple #[.string (doesS Dv l most x).1.1, .int .i64 (doesS Dv l most x).1.2]) ∧ CS B w' cb db y (doesS Dv l most x).2.1 most (doesS Dv l most x).2.2 E (k + 6000) ∧ Fr B E w w' := by
  have hwhat := fun w => Lib.hid (what_any x w)
  have hfill := fun w => Lib.hid (fill_any x.fill w)
  have hT := Lib.hid (x.what_le hx)
  have hbs := Lib.hid (blk_size x.fill)
  obtain ⟨r, hr⟩ : ∃ r, x.kind.toNat % 13 = r := ⟨_, rfl⟩
  have hr13 : r < 13 := by omega
  have hkz := x.kind.toNat_lt
  have htm : Int.tmod (x.kind.toNat : Int) 13 = ((r : Nat) : Int) := by rw [Int.tmod_eq_emod_of_nonneg (by omega)]; omega
  have hS : doesS Dv l most x = doesR r Dv l most x := by unfold doesS; rw [hr]
  rw [hS]
  clear hS hr hkz
  obtain ⟨hx1, hx2, hx3⟩ := hx
  obtain ⟨kind, xb, xn, fill, pin, data⟩ := x
  dsimp only [actCells] at hx1 hx2 hx3 htm hwhat hfill hT hbs ⊢
  unfold bval at hwhat hfill ⊢
  obtain ⟨Z, hZ⟩ : ∃ Z : Nat → (ByteArray × Int) × Dev × PL, ∀ r, doesR r Dv l most ⟨kind, xb, xn, fill, pin, data⟩ = Z r := ⟨_, fun _ => rfl⟩
  have HZ : Hid (∀ r, Z r = doesR r Dv l most ⟨kind, xb, xn, fill, pin, data⟩) := Lib.hid (fun r => (hZ r).symm)
  rw [hZ]
  clear hZ
  have hw0 : ∃ T, ActC.what ⟨kind, xb, xn, fill, pin, data⟩ = T := ⟨_, rfl⟩
  obtain ⟨T, hTT⟩ := hw0
  rw [hTT] at hwhat hT
  have HTT := Lib.hid hTT
  clear hTT
  generalize hkz : (kind.toNat : Int) = kz at *
  generalize hfz : (fill.toNat : Int) = fz at *
  obtain ⟨F, hF⟩ : ∃ F, blk fill = F := ⟨_, rfl⟩
  rw [hF] at hfill hbs
  have HF := Lib.hid hF
  clear hF hkz hfz
  have cW := Lib.hid (h.plus (.cells #[.int .u8 kz, .int .i64 xb, .int .i64 xn, .int .u8 fz, .bool pin, .string data] 57))
  have hat := ActAt.new w kz xb xn fz pin data
  have fW : Hid (Fr B E w (w.alloc (.cells #[.int .u8 kz, .int .i64 xb, .int .i64 xn, .int .u8 fz, .bool pin, .string data] 57))) := Lib.hid (Fr.ofBelow ((Below.refl _ _).alloc (Nat.le_refl _) _))
  have FIN : Hid (∀ w' D' l' k', k' ≤ k + 6000 → CS B w' cb db y D' most l' (w.heap.size :: E) k' → Fr B (w.heap.size :: E) (w.alloc (.cells #[.int .u8 kz, .int .i64 xb, .int .i64 xn, .int .u8 fz, .bool pin, .string data] 57)) w' → CS B w' cb db y D' most l' E (k + 6000) ∧ Fr B E w w') := Lib.hid (fun w' D' l' k' hk' h1 h2 => ⟨(h1.less (fun j hj => List.mem_cons_of_mem _ hj)).mono hk', fW.out.trans (h2.less (fun j hj => List.mem_cons_of_mem _ hj))⟩)
  clear h fW
  rcases (show r = 0 ∨ r = 1 ∨ r = 2 ∨ r = 3 ∨ r = 4 ∨ r = 5 ∨ r = 6 ∨ r = 7 ∨ r = 8 ∨ r = 9 ∨ r = 10 ∨ r = 11 ∨ r = 12 by omega) with rfl | rfl | rfl | rfl | rfl | rfl | rfl | rfl | rfl | rfl | rfl | rfl | rfl
  · have q := Lib.hid (cs_get cW.out (by omega) xb)
    clear hwhat hfill cW
    go_enter Try.func26, Try.ntmps26
    go_wp2_with fail
    (with_reducible refine q.out.mono ?_)
    rintro e w3 ⟨rfl, h1, h2⟩
    have HE := Lib.hid (FIN.out w3 _ _ _ (by omega) h1 h2)
    clear h1 h2 q FIN hat
    go_wp2_with fail
    exact bodyPost_ret (v := .tuple #[.string (getS Dv l most xb).1.1, .int .i64 (getS Dv l most xb).1.2]) (by simp [results, Try.results26, go_sem]) rfl ⟨by rw [HZ.out]; rfl, by rw [HZ.out]; exact HE.out.1, HE.out.2⟩
  · have q := Lib.hid (cs_get cW.out (by omega) xb)
    clear hwhat hfill cW
    go_enter Try.func26, Try.ntmps26
    go_wp2_with fail
    (with_reducible refine q.out.mono ?_)
    rintro e w3 ⟨rfl, h1, h2⟩
    have HE := Lib.hid (FIN.out w3 _ _ _ (by omega) h1 h2)
    clear h1 h2 q FIN hat
    go_wp2_with fail
    exact bodyPost_ret (v := .tuple #[.string (getS Dv l most xb).1.1, .int .i64 (getS Dv l most xb).1.2]) (by simp [results, Try.results26, go_sem]) rfl ⟨by rw [HZ.out]; rfl, by rw [HZ.out]; exact HE.out.1, HE.out.2⟩
  · have q := Lib.hid (cs_get cW.out (by omega) xb)
    clear hwhat hfill cW
    go_enter Try.func26, Try.ntmps26
    go_wp2_with fail
    (with_reducible refine q.out.mono ?_)
    rintro e w3 ⟨rfl, h1, h2⟩
    have HE := Lib.hid (FIN.out w3 _ _ _ (by omega) h1 h2)
    clear h1 h2 q FIN hat
    go_wp2_with fail
    exact bodyPost_ret (v := .tuple #[.string (getS Dv l most xb).1.1, .int .i64 (getS Dv l most xb).1.2]) (by simp [results, Try.results26, go_sem]) rfl ⟨by rw [HZ.out]; rfl, by rw [HZ.out]; exact HE.out.1, HE.out.2⟩
  · have hk2 : k ≤ 900000000000 := by omega
    clear hfill
    go_enter Try.func26, Try.ntmps26
    go_wp2_with fail
    generalize w.heap.size = X at *
    generalize w.alloc _ = wx at *
    obtain ⟨x0, x1, x2, x3, x4, x5⟩ := hat
    go_region_held3 (fun w' => w'.cell? ⟨X, 0, none⟩ = some (.int .u8 kz) ∧ w'.cell? ⟨X, 1, none⟩ = some (.int .i64 xb) ∧ w'.cell? ⟨X, 2, none⟩ = some (.int .i64 xn) ∧ w'.cell? ⟨X, 3, none⟩ = some (.int .u8 fz) ∧ w'.cell? ⟨X, 4, none⟩ = some (.bool pin) ∧ w'.cell? ⟨X, 5, none⟩ = some (.string data))
      (first | exact ⟨x0, x1, x2, x3, x4, x5⟩ | exact ⟨h1.x0, h1.x1, h1.x2, h1.x3, h1.x4, h1.x5⟩ | exact ⟨h2.x0, h2.x1, h2.x2, h2.x3, h2.x4, h2.x5⟩)
      (first | (go_at_call 27; refine ((hwhat _).out).mono ?_; rintro e w3 ⟨rfl, hb3'⟩; have hb3 : Below wx.heap.size wx w3 := ⟨hb3'.os, hb3'.tape, hb3'.output, hb3'.size, hb3'.block⟩; have h1 := ActAt.below ⟨x0, x1, x2, x3, x4, x5⟩ hb3; have d3 := Lib.hid (cW.out.below hb3)) | (go_at_call 20; refine (cs_put d3.out hk2 xb T pin).mono ?_; rintro e w4 ⟨rfl, d4, o4⟩; have h2 := h1.fr o4))
    have HE := Lib.hid (FIN.out w4 _ _ _ (by omega) d4 ((Fr.ofBelow hb3).trans o4))
    clear d4 o4 h2 hb3 hb3' h1 d3 FIN hwhat
    go_wp2_with fail
    rw [← HTT.out] at *
    exact bodyPost_ret (v := .tuple #[.string ⟨#[]⟩, .int .i64 (putS Dv l most xb (ActC.what ⟨kind, xb, xn, fill, pin, data⟩) pin).1]) (by simp [results, Try.results26, go_sem]) rfl ⟨by rw [HZ.out]; rfl, by rw [HZ.out]; exact HE.out.1, HE.out.2⟩
  · have hk2 : k ≤ 900000000000 := by omega
    clear hfill
    go_enter Try.func26, Try.ntmps26
    go_wp2_with fail
    generalize w.heap.size = X at *
    generalize w.alloc _ = wx at *
    obtain ⟨x0, x1, x2, x3, x4, x5⟩ := hat
    go_region_held3 (fun w' => w'.cell? ⟨X, 0, none⟩ = some (.int .u8 kz) ∧ w'.cell? ⟨X, 1, none⟩ = some (.int .i64 xb) ∧ w'.cell? ⟨X, 2, none⟩ = some (.int .i64 xn) ∧ w'.cell? ⟨X, 3, none⟩ = some (.int .u8 fz) ∧ w'.cell? ⟨X, 4, none⟩ = some (.bool pin) ∧ w'.cell? ⟨X, 5, none⟩ = some (.string data))
      (first | exact ⟨x0, x1, x2, x3, x4, x5⟩ | exact ⟨h1.x0, h1.x1, h1.x2, h1.x3, h1.x4, h1.x5⟩ | exact ⟨h2.x0, h2.x1, h2.x2, h2.x3, h2.x4, h2.x5⟩)
      (first | (go_at_call 27; refine ((hwhat _).out).mono ?_; rintro e w3 ⟨rfl, hb3'⟩; have hb3 : Below wx.heap.size wx w3 := ⟨hb3'.os, hb3'.tape, hb3'.output, hb3'.size, hb3'.block⟩; have h1 := ActAt.below ⟨x0, x1, x2, x3, x4, x5⟩ hb3; have d3 := Lib.hid (cW.out.below hb3)) | (go_at_call 20; refine (cs_put d3.out hk2 xb T pin).mono ?_; rintro e w4 ⟨rfl, d4, o4⟩; have h2 := h1.fr o4))
    have HE := Lib.hid (FIN.out w4 _ _ _ (by omega) d4 ((Fr.ofBelow hb3).trans o4))
    clear d4 o4 h2 hb3 hb3' h1 d3 FIN hwhat
    go_wp2_with fail
    rw [← HTT.out] at *
    exact bodyPost_ret (v := .tuple #[.string ⟨#[]⟩, .int .i64 (putS Dv l most xb (ActC.what ⟨kind, xb, xn, fill, pin, data⟩) pin).1]) (by simp [results, Try.results26, go_sem]) rfl ⟨by rw [HZ.out]; rfl, by rw [HZ.out]; exact HE.out.1, HE.out.2⟩
  · have hk2 : k ≤ 900000000000 := by omega
    clear hfill
    go_enter Try.func26, Try.ntmps26
    go_wp2_with fail
    generalize w.heap.size = X at *
    generalize w.alloc _ = wx at *
    obtain ⟨x0, x1, x2, x3, x4, x5⟩ := hat
    go_region_held3 (fun w' => w'.cell? ⟨X, 0, none⟩ = some (.int .u8 kz) ∧ w'.cell? ⟨X, 1, none⟩ = some (.int .i64 xb) ∧ w'.cell? ⟨X, 2, none⟩ = some (.int .i64 xn) ∧ w'.cell? ⟨X, 3, none⟩ = some (.int .u8 fz) ∧ w'.cell? ⟨X, 4, none⟩ = some (.bool pin) ∧ w'.cell? ⟨X, 5, none⟩ = some (.string data))
      (first | exact ⟨x0, x1, x2, x3, x4, x5⟩ | exact ⟨h1.x0, h1.x1, h1.x2, h1.x3, h1.x4, h1.x5⟩ | exact ⟨h2.x0, h2.x1, h2.x2, h2.x3, h2.x4, h2.x5⟩)
      (first | (go_at_call 27; refine ((hwhat _).out).mono ?_; rintro e w3 ⟨rfl, hb3'⟩; have hb3 : Below wx.heap.size wx w3 := ⟨hb3'.os, hb3'.tape, hb3'.output, hb3'.size, hb3'.block⟩; have h1 := ActAt.below ⟨x0, x1, x2, x3, x4, x5⟩ hb3; have d3 := Lib.hid (cW.out.below hb3)) | (go_at_call 20; refine (cs_put d3.out hk2 xb T pin).mono ?_; rintro e w4 ⟨rfl, d4, o4⟩; have h2 := h1.fr o4))
    have HE := Lib.hid (FIN.out w4 _ _ _ (by omega) d4 ((Fr.ofBelow hb3).trans o4))
    clear d4 o4 h2 hb3 hb3' h1 d3 FIN hwhat
    go_wp2_with fail
    rw [← HTT.out] at *
    exact bodyPost_ret (v := .tuple #[.string ⟨#[]⟩, .int .i64 (putS Dv l most xb (ActC.what ⟨kind, xb, xn, fill, pin, data⟩) pin).1]) (by simp [results, Try.results26, go_sem]) rfl ⟨by rw [HZ.out]; rfl, by rw [HZ.out]; exact HE.out.1, HE.out.2⟩
  · have q := Lib.hid (cs_unpin cW.out xb)
    clear hwhat hfill cW
    go_enter Try.func26, Try.ntmps26
    go_wp2_with fail
    (with_reducible refine q.out.mono ?_)
    rintro e w3 ⟨rfl, h1, h2⟩
    have HE := Lib.hid (FIN.out w3 _ _ _ (by omega) h1 (h2.weak y db))
    clear h1 h2 q FIN hat
    go_wp2_with fail
    exact bodyPost_ret (v := .tuple #[.string ⟨#[]⟩, .int .i64 0]) (by simp [results, Try.results26, go_sem]) rfl ⟨by rw [HZ.out]; rfl, by rw [HZ.out]; exact HE.out.1, HE.out.2⟩
  · have q := Lib.hid (cs_forget cW.out xb)
    clear hwhat hfill cW
    go_enter Try.func26, Try.ntmps26
    go_wp2_with fail
    (with_reducible refine q.out.mono ?_)
    rintro e w3 ⟨rfl, h1, h2⟩
    have HE := Lib.hid (FIN.out w3 _ _ _ (by omega) h1 (h2.weak y db))
    clear h1 h2 q FIN hat
    go_wp2_with fail
    exact bodyPost_ret (v := .tuple #[.string ⟨#[]⟩, .int .i64 0]) (by simp [results, Try.results26, go_sem]) rfl ⟨by rw [HZ.out]; rfl, by rw [HZ.out]; exact HE.out.1, HE.out.2⟩
  · have q := Lib.hid (cs_out cW.out (by omega) xb)
    clear hwhat hfill cW
    go_enter Try.func26, Try.ntmps26
    go_wp2_with fail
    (with_reducible refine q.out.mono ?_)
    rintro e w3 ⟨rfl, h1, h2⟩
    have HE := Lib.hid (FIN.out w3 _ _ _ (by omega) h1 h2)
    clear h1 h2 q FIN hat
    go_wp2_with fail
    exact bodyPost_ret (v := .tuple #[.string ⟨#[]⟩, .int .i64 (outB Dv l xb).1]) (by simp [results, Try.results26, go_sem]) rfl ⟨by rw [HZ.out]; rfl, by rw [HZ.out]; exact HE.out.1, HE.out.2⟩
  · have q := Lib.hid (cs_sync cW.out (by omega))
    clear hwhat hfill cW
    go_enter Try.func26, Try.ntmps26
    go_wp2_with fail
    (with_reducible refine q.out.mono ?_)
    rintro e w3 ⟨rfl, h1, h2⟩
    have HE := Lib.hid (FIN.out w3 _ _ _ (by omega) h1 h2)
    clear h1 h2 q FIN hat
    go_wp2_with fail
    exact bodyPost_ret (v := .tuple #[.string ⟨#[]⟩, .int .i64 (syncN Dv.kept.length 0 Dv l).1]) (by simp [results, Try.results26, go_sem]) rfl ⟨by rw [HZ.out]; rfl, by rw [HZ.out]; exact HE.out.1, HE.out.2⟩
  · have q := Lib.hid (cs_arm cW.out xn hx2)
    clear hwhat hfill cW
    go_enter Try.func26, Try.ntmps26
    go_wp2_with fail
    (with_reducible refine q.out.mono ?_)
    rintro e w3 ⟨rfl, h1, h2⟩
    have HE := Lib.hid (FIN.out w3 _ _ _ (by omega) h1 h2)
    clear h1 h2 q FIN hat
    go_wp2_with fail
    exact bodyPost_ret (v := .tuple #[.string ⟨#[]⟩, .int .i64 0]) (by simp [results, Try.results26, go_sem]) rfl ⟨by rw [HZ.out]; rfl, by rw [HZ.out]; exact HE.out.1, HE.out.2⟩
  · have q := Lib.hid (cs_flush cW.out (by omega))
    clear hwhat hfill cW
    go_enter Try.func26, Try.ntmps26
    go_wp2_with fail
    (with_reducible refine q.out.mono ?_)
    rintro e w3 ⟨rfl, h1, h2⟩
    have HE := Lib.hid (FIN.out w3 _ _ _ (by omega) h1 h2)
    clear h1 h2 q FIN hat
    go_wp2_with fail
    exact bodyPost_ret (v := .tuple #[.string ⟨#[]⟩, .int .i64 Dv.flushE]) (by simp [results, Try.results26, go_sem]) rfl ⟨by rw [HZ.out]; rfl, by rw [HZ.out]; exact HE.out.1, HE.out.2⟩
  · have hk2 : k ≤ 900000000000 := by omega
    have hF2 : F.size ≤ 9223372036854775807 := by have := hbs.out; omega
    clear hwhat
    go_enter Try.func26, Try.ntmps26
    go_wp2_with fail
    generalize w.heap.size = X at *
    generalize w.alloc _ = wx at *
    obtain ⟨x0, x1, x2, x3, x4, x5⟩ := hat
    go_region_held3 (fun w' => w'.cell? ⟨X, 0, none⟩ = some (.int .u8 kz) ∧ w'.cell? ⟨X, 1, none⟩ = some (.int .i64 xb) ∧ w'.cell? ⟨X, 2, none⟩ = some (.int .i64 xn) ∧ w'.cell? ⟨X, 3, none⟩ = some (.int .u8 fz) ∧ w'.cell? ⟨X, 4, none⟩ = some (.bool pin) ∧ w'.cell? ⟨X, 5, none⟩ = some (.string data))
      (first | exact ⟨x0, x1, x2, x3, x4, x5⟩ | exact ⟨h1.x0, h1.x1, h1.x2, h1.x3, h1.x4, h1.x5⟩ | exact ⟨h2.x0, h2.x1, h2.x2, h2.x3, h2.x4, h2.x5⟩)
      (first | (go_at_call 21; refine ((hfill _).out).mono ?_; rintro e w3 ⟨rfl, hb3'⟩; have hb3 : Below wx.heap.size wx w3 := ⟨hb3'.os, hb3'.tape, hb3'.output, hb3'.size, hb3'.block⟩; have h1 := ActAt.below ⟨x0, x1, x2, x3, x4, x5⟩ hb3; have d3 := Lib.hid (cW.out.below hb3)) | (go_at_call 58; refine (cs_write d3.out hk2 xb F hF2).mono ?_; rintro e w4 ⟨rfl, d4, o4⟩; have h2 := h1.fr o4))
    have HE := Lib.hid (FIN.out w4 _ _ _ (by omega) d4 ((Fr.ofBelow hb3).trans o4))
    clear d4 o4 h2 hb3 hb3' h1 d3 FIN hfill
    go_wp2_with fail
    rw [← HF.out] at *
    exact bodyPost_ret (v := .tuple #[.string ⟨#[]⟩, .int .i64 (Dv.writeE xb (blk fill))]) (by simp [results, Try.results26, go_sem]) rfl ⟨by rw [HZ.out]; rfl, by rw [HZ.out]; exact HE.out.1, HE.out.2⟩

end Go.Proofs.Ytlickjaopbcanaa
