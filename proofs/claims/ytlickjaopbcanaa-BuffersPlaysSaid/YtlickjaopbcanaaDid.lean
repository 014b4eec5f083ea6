/- Laws of caches: did. -/
import Derived.Test.YtlickjaopbcanaaDoes
import Derived.Test.YtlickjaopbcanaaRefCacheE
namespace Go.Proofs.Ytlickjaopbcanaa
open Go Go.RowKit Bufs
variable {B rc rd : Nat} {w w' : World} {most : Nat} {z : RLay} {Dv : Dev} {l : PL} {v : Value} {k : Nat}

theorem ActAt.only {S : List Nat} {w w' : World} {X : Nat} {kz xb xn fz : Int} {pin : Bool} {data : ByteArray} (h : ActAt w X kz xb xn fz pin data) (ho : Only S w w') (hn : X ∉ S) : ActAt w' X kz xb xn fz pin data := h.same (ho.block X h.lt hn)
set_option maxRecDepth 100000 in
set_option maxHeartbeats 8000000 in
theorem did_any (h : RCD B w rc rd z Dv most l v) (hb : Buffers Dv.kept.length most l) (ho : Dv.Ok k) (hk : k ≤ 800000000000) (x : ActC) (hx : ActOk x) :
    Calls Try.prog 35 #[.pointer (some ⟨rc, 0, none⟩), .pointer (some ⟨rd, 0, none⟩), .agg (actCells x).toArray] w fun e w' => e = .returned (.tuple #[.string (doesS Dv l most x).1.1, .int .i64 (doesS Dv l most x).1.2]) ∧ RGo B w w' rc rd z v (doesS Dv l most x).2.1 most (doesS Dv l most x).2.2 := by
  have hwhat := fun w => Lib.hid (what_any x w)
  have hfill := fun w => Lib.hid (fill_any x.fill w)
  have hT := Lib.hid (x.what_le hx)
  have hbs := Lib.hid (blk_size x.fill)
  obtain ⟨r, hr⟩ : ∃ r, x.kind.toNat % 13 = r := ⟨_, rfl⟩
  have hr13 : r < 13 := by omega
  have hkz := x.kind.toNat_lt
  have htm : Int.tmod (x.kind.toNat : Int) 13 = ((r : Nat) : Int) := by rw [Int.tmod_eq_emod_of_nonneg (by omega)]; omega
  have hS : doesS Dv l most x = doesR r Dv l most x := by unfold doesS; rw [hr]
  rw [hS]
  clear hS hr hkz
  obtain ⟨hx1, hx2, hx3⟩ := hx
  obtain ⟨kind, xb, xn, fill, pin, data⟩ := x
  dsimp only [actCells] at hx1 hx2 hx3 htm hwhat hfill hT hbs ⊢
  unfold bval at hwhat hfill ⊢
  obtain ⟨Z, hZ⟩ : ∃ Z : Nat → (ByteArray × Int) × Dev × PL, ∀ r, doesR r Dv l most ⟨kind, xb, xn, fill, pin, data⟩ = Z r := ⟨_, fun _ => rfl⟩
  have HZ : Hid (∀ r, Z r = doesR r Dv l most ⟨kind, xb, xn, fill, pin, data⟩) := Lib.hid (fun r => (hZ r).symm)
  rw [hZ]
  clear hZ
  have hw0 : ∃ T, ActC.what ⟨kind, xb, xn, fill, pin, data⟩ = T := ⟨_, rfl⟩
  obtain ⟨T, hTT⟩ := hw0
  rw [hTT] at hwhat hT
  have HTT := Lib.hid hTT
  clear hTT
  generalize hkz : (kind.toNat : Int) = kz at *
  generalize hfz : (fill.toNat : Int) = fz at *
  obtain ⟨F, hF⟩ : ∃ F, blk fill = F := ⟨_, rfl⟩
  rw [hF] at hfill hbs
  have HF := Lib.hid hF
  clear hF hkz hfz
  have hbx : Below w.heap.size w (w.alloc (.cells #[.int .u8 kz, .int .i64 xb, .int .i64 xn, .int .u8 fz, .bool pin, .string data] 57)) := (Below.refl _ _).alloc (Nat.le_refl _) _
  have cW := Lib.hid (h.below hbx)
  have hat := ActAt.new w kz xb xn fz pin data
  have HBX := Lib.hid hbx
  have HB := Lib.hid hb
  have HO := Lib.hid ho
  have hXn : Hid (w.heap.size ∉ rown rc rd z v) := Lib.hid (fun hm => by have := (h.lt _ hm).2; omega)
  have FIN : Hid (∀ w' D' l', RGo B (w.alloc (.cells #[.int .u8 kz, .int .i64 xb, .int .i64 xn, .int .u8 fz, .bool pin, .string data] 57)) w' rc rd z v D' most l' → RGo B w w' rc rd z v D' most l') := Lib.hid (fun w' D' l' h1 => RGo.below HBX.out h1)
  clear h hbx hb ho
  rcases (show r = 0 ∨ r = 1 ∨ r = 2 ∨ r = 3 ∨ r = 4 ∨ r = 5 ∨ r = 6 ∨ r = 7 ∨ r = 8 ∨ r = 9 ∨ r = 10 ∨ r = 11 ∨ r = 12 by omega) with rfl | rfl | rfl | rfl | rfl | rfl | rfl | rfl | rfl | rfl | rfl | rfl | rfl
  · have q := Lib.hid (rget_any cW.out HB.out HO.out (by omega) xb)
    clear hwhat hfill cW
    go_enter Try.func35, Try.ntmps35
    go_wp2_with fail
    (with_reducible refine q.out.mono ?_)
    rintro e w3 ⟨rfl, h1⟩
    have HE := Lib.hid (FIN.out w3 _ _ h1)
    clear h1 q FIN hat
    go_wp2_with fail
    exact bodyPost_ret (v := .tuple #[.string (getS Dv l most xb).1.1, .int .i64 (getS Dv l most xb).1.2]) (by simp [results, Try.results35, go_sem]) rfl ⟨by rw [HZ.out]; rfl, by rw [HZ.out]; exact HE.out⟩
  · have q := Lib.hid (rget_any cW.out HB.out HO.out (by omega) xb)
    clear hwhat hfill cW
    go_enter Try.func35, Try.ntmps35
    go_wp2_with fail
    (with_reducible refine q.out.mono ?_)
    rintro e w3 ⟨rfl, h1⟩
    have HE := Lib.hid (FIN.out w3 _ _ h1)
    clear h1 q FIN hat
    go_wp2_with fail
    exact bodyPost_ret (v := .tuple #[.string (getS Dv l most xb).1.1, .int .i64 (getS Dv l most xb).1.2]) (by simp [results, Try.results35, go_sem]) rfl ⟨by rw [HZ.out]; rfl, by rw [HZ.out]; exact HE.out⟩
  · have q := Lib.hid (rget_any cW.out HB.out HO.out (by omega) xb)
    clear hwhat hfill cW
    go_enter Try.func35, Try.ntmps35
    go_wp2_with fail
    (with_reducible refine q.out.mono ?_)
    rintro e w3 ⟨rfl, h1⟩
    have HE := Lib.hid (FIN.out w3 _ _ h1)
    clear h1 q FIN hat
    go_wp2_with fail
    exact bodyPost_ret (v := .tuple #[.string (getS Dv l most xb).1.1, .int .i64 (getS Dv l most xb).1.2]) (by simp [results, Try.results35, go_sem]) rfl ⟨by rw [HZ.out]; rfl, by rw [HZ.out]; exact HE.out⟩
  · have hk2 : k ≤ 900000000000 := by omega
    clear hfill
    go_enter Try.func35, Try.ntmps35
    go_wp2_with fail
    generalize w.heap.size = X at *
    generalize w.alloc _ = wx at *
    obtain ⟨x0, x1, x2, x3, x4, x5⟩ := hat
    go_region_held3 (fun w' => w'.cell? ⟨X, 0, none⟩ = some (.int .u8 kz) ∧ w'.cell? ⟨X, 1, none⟩ = some (.int .i64 xb) ∧ w'.cell? ⟨X, 2, none⟩ = some (.int .i64 xn) ∧ w'.cell? ⟨X, 3, none⟩ = some (.int .u8 fz) ∧ w'.cell? ⟨X, 4, none⟩ = some (.bool pin) ∧ w'.cell? ⟨X, 5, none⟩ = some (.string data))
      (first | exact ⟨x0, x1, x2, x3, x4, x5⟩ | exact ⟨h1.x0, h1.x1, h1.x2, h1.x3, h1.x4, h1.x5⟩ | exact ⟨h2.x0, h2.x1, h2.x2, h2.x3, h2.x4, h2.x5⟩)
      (first | (go_at_call 27; refine ((hwhat _).out).mono ?_; rintro e w3 ⟨rfl, hb3'⟩; have hb3 : Below wx.heap.size wx w3 := ⟨hb3'.os, hb3'.tape, hb3'.output, hb3'.size, hb3'.block⟩; have h1 := ActAt.below ⟨x0, x1, x2, x3, x4, x5⟩ hb3; have d3 := Lib.hid (cW.out.below hb3)) | (go_at_call 65; refine (rput_any d3.out HB.out HO.out hk2 xb T hT.out pin).mono ?_; rintro e w4 ⟨rfl, d4⟩; obtain ⟨v4, d5, o4, d6⟩ := d4; have h2 := h1.only o4 hXn.out))
    have HE := Lib.hid (FIN.out w4 _ _ (RGo.below hb3 ⟨v4, d5, o4, d6⟩))
    clear d5 o4 d6 h2 hb3 hb3' h1 d3 FIN hwhat
    go_wp2_with fail
    rw [← HTT.out] at *
    exact bodyPost_ret (v := .tuple #[.string ⟨#[]⟩, .int .i64 (putS Dv l most xb (ActC.what ⟨kind, xb, xn, fill, pin, data⟩) pin).1]) (by simp [results, Try.results35, go_sem]) rfl ⟨by rw [HZ.out]; rfl, by rw [HZ.out]; exact HE.out⟩
  · have hk2 : k ≤ 900000000000 := by omega
    clear hfill
    go_enter Try.func35, Try.ntmps35
    go_wp2_with fail
    generalize w.heap.size = X at *
    generalize w.alloc _ = wx at *
    obtain ⟨x0, x1, x2, x3, x4, x5⟩ := hat
    go_region_held3 (fun w' => w'.cell? ⟨X, 0, none⟩ = some (.int .u8 kz) ∧ w'.cell? ⟨X, 1, none⟩ = some (.int .i64 xb) ∧ w'.cell? ⟨X, 2, none⟩ = some (.int .i64 xn) ∧ w'.cell? ⟨X, 3, none⟩ = some (.int .u8 fz) ∧ w'.cell? ⟨X, 4, none⟩ = some (.bool pin) ∧ w'.cell? ⟨X, 5, none⟩ = some (.string data))
      (first | exact ⟨x0, x1, x2, x3, x4, x5⟩ | exact ⟨h1.x0, h1.x1, h1.x2, h1.x3, h1.x4, h1.x5⟩ | exact ⟨h2.x0, h2.x1, h2.x2, h2.x3, h2.x4, h2.x5⟩)
      (first | (go_at_call 27; refine ((hwhat _).out).mono ?_; rintro e w3 ⟨rfl, hb3'⟩; have hb3 : Below wx.heap.size wx w3 := ⟨hb3'.os, hb3'.tape, hb3'.output, hb3'.size, hb3'.block⟩; have h1 := ActAt.below ⟨x0, x1, x2, x3, x4, x5⟩ hb3; have d3 := Lib.hid (cW.out.below hb3)) | (go_at_call 65; refine (rput_any d3.out HB.out HO.out hk2 xb T hT.out pin).mono ?_; rintro e w4 ⟨rfl, d4⟩; obtain ⟨v4, d5, o4, d6⟩ := d4; have h2 := h1.only o4 hXn.out))
    have HE := Lib.hid (FIN.out w4 _ _ (RGo.below hb3 ⟨v4, d5, o4, d6⟩))
    clear d5 o4 d6 h2 hb3 hb3' h1 d3 FIN hwhat
    go_wp2_with fail
    rw [← HTT.out] at *
    exact bodyPost_ret (v := .tuple #[.string ⟨#[]⟩, .int .i64 (putS Dv l most xb (ActC.what ⟨kind, xb, xn, fill, pin, data⟩) pin).1]) (by simp [results, Try.results35, go_sem]) rfl ⟨by rw [HZ.out]; rfl, by rw [HZ.out]; exact HE.out⟩
  · have hk2 : k ≤ 900000000000 := by omega
    clear hfill
    go_enter Try.func35, Try.ntmps35
    go_wp2_with fail
    generalize w.heap.size = X at *
    generalize w.alloc _ = wx at *
    obtain ⟨x0, x1, x2, x3, x4, x5⟩ := hat
    go_region_held3 (fun w' => w'.cell? ⟨X, 0, none⟩ = some (.int .u8 kz) ∧ w'.cell? ⟨X, 1, none⟩ = some (.int .i64 xb) ∧ w'.cell? ⟨X, 2, none⟩ = some (.int .i64 xn) ∧ w'.cell? ⟨X, 3, none⟩ = some (.int .u8 fz) ∧ w'.cell? ⟨X, 4, none⟩ = some (.bool pin) ∧ w'.cell? ⟨X, 5, none⟩ = some (.string data))
      (first | exact ⟨x0, x1, x2, x3, x4, x5⟩ | exact ⟨h1.x0, h1.x1, h1.x2, h1.x3, h1.x4, h1.x5⟩ | exact ⟨h2.x0, h2.x1, h2.x2, h2.x3, h2.x4, h2.x5⟩)
      (first | (go_at_call 27; refine ((hwhat _).out).mono ?_; rintro e w3 ⟨rfl, hb3'⟩; have hb3 : Below wx.heap.size wx w3 := ⟨hb3'.os, hb3'.tape, hb3'.output, hb3'.size, hb3'.block⟩; have h1 := ActAt.below ⟨x0, x1, x2, x3, x4, x5⟩ hb3; have d3 := Lib.hid (cW.out.below hb3)) | (go_at_call 65; refine (rput_any d3.out HB.out HO.out hk2 xb T hT.out pin).mono ?_; rintro e w4 ⟨rfl, d4⟩; obtain ⟨v4, d5, o4, d6⟩ := d4; have h2 := h1.only o4 hXn.out))
    have HE := Lib.hid (FIN.out w4 _ _ (RGo.below hb3 ⟨v4, d5, o4, d6⟩))
    clear d5 o4 d6 h2 hb3 hb3' h1 d3 FIN hwhat
    go_wp2_with fail
    rw [← HTT.out] at *
    exact bodyPost_ret (v := .tuple #[.string ⟨#[]⟩, .int .i64 (putS Dv l most xb (ActC.what ⟨kind, xb, xn, fill, pin, data⟩) pin).1]) (by simp [results, Try.results35, go_sem]) rfl ⟨by rw [HZ.out]; rfl, by rw [HZ.out]; exact HE.out⟩
  · have q := Lib.hid (runpin_any cW.out HB.out xb)
    clear hwhat hfill cW
    go_enter Try.func35, Try.ntmps35
    go_wp2_with fail
    (with_reducible refine q.out.mono ?_)
    rintro e w3 ⟨rfl, h1⟩
    have HE := Lib.hid (FIN.out w3 _ _ h1)
    clear h1 q FIN hat
    go_wp2_with fail
    exact bodyPost_ret (v := .tuple #[.string ⟨#[]⟩, .int .i64 0]) (by simp [results, Try.results35, go_sem]) rfl ⟨by rw [HZ.out]; rfl, by rw [HZ.out]; exact HE.out⟩
  · have q := Lib.hid (rforget_any cW.out HB.out xb)
    clear hwhat hfill cW
    go_enter Try.func35, Try.ntmps35
    go_wp2_with fail
    (with_reducible refine q.out.mono ?_)
    rintro e w3 ⟨rfl, h1⟩
    have HE := Lib.hid (FIN.out w3 _ _ h1)
    clear h1 q FIN hat
    go_wp2_with fail
    exact bodyPost_ret (v := .tuple #[.string ⟨#[]⟩, .int .i64 0]) (by simp [results, Try.results35, go_sem]) rfl ⟨by rw [HZ.out]; rfl, by rw [HZ.out]; exact HE.out⟩
  · have q := Lib.hid (rout_any cW.out HB.out HO.out (by omega) xb)
    clear hwhat hfill cW
    go_enter Try.func35, Try.ntmps35
    go_wp2_with fail
    (with_reducible refine q.out.mono ?_)
    rintro e w3 ⟨rfl, h1⟩
    have HE := Lib.hid (FIN.out w3 _ _ h1)
    clear h1 q FIN hat
    go_wp2_with fail
    exact bodyPost_ret (v := .tuple #[.string ⟨#[]⟩, .int .i64 (outB Dv l xb).1]) (by simp [results, Try.results35, go_sem]) rfl ⟨by rw [HZ.out]; rfl, by rw [HZ.out]; exact HE.out⟩
  · have q := Lib.hid (rsync_any cW.out HB.out HO.out (by omega))
    clear hwhat hfill cW
    go_enter Try.func35, Try.ntmps35
    go_wp2_with fail
    (with_reducible refine q.out.mono ?_)
    rintro e w3 ⟨rfl, h1⟩
    have HE := Lib.hid (FIN.out w3 _ _ h1)
    clear h1 q FIN hat
    go_wp2_with fail
    exact bodyPost_ret (v := .tuple #[.string ⟨#[]⟩, .int .i64 (syncN Dv.kept.length 0 Dv l).1]) (by simp [results, Try.results35, go_sem]) rfl ⟨by rw [HZ.out]; rfl, by rw [HZ.out]; exact HE.out⟩
  · have q := Lib.hid (rcarm_any cW.out xn hx2)
    clear hwhat hfill cW
    go_enter Try.func35, Try.ntmps35
    go_wp2_with fail
    (with_reducible refine q.out.mono ?_)
    rintro e w3 ⟨rfl, h1⟩
    have HE := Lib.hid (FIN.out w3 _ _ h1)
    clear h1 q FIN hat
    go_wp2_with fail
    exact bodyPost_ret (v := .tuple #[.string ⟨#[]⟩, .int .i64 0]) (by simp [results, Try.results35, go_sem]) rfl ⟨by rw [HZ.out]; rfl, by rw [HZ.out]; exact HE.out⟩
  · have q := Lib.hid (rcflush_any cW.out HO.out (by omega))
    clear hwhat hfill cW
    go_enter Try.func35, Try.ntmps35
    go_wp2_with fail
    (with_reducible refine q.out.mono ?_)
    rintro e w3 ⟨rfl, h1⟩
    have HE := Lib.hid (FIN.out w3 _ _ h1)
    clear h1 q FIN hat
    go_wp2_with fail
    exact bodyPost_ret (v := .tuple #[.string ⟨#[]⟩, .int .i64 Dv.flushE]) (by simp [results, Try.results35, go_sem]) rfl ⟨by rw [HZ.out]; rfl, by rw [HZ.out]; exact HE.out⟩
  · have hk2 : k ≤ 900000000000 := by omega
    have hF2 : F.size ≤ 9223372036854775807 := by have := hbs.out; omega
    clear hwhat
    go_enter Try.func35, Try.ntmps35
    go_wp2_with fail
    generalize w.heap.size = X at *
    generalize w.alloc _ = wx at *
    obtain ⟨x0, x1, x2, x3, x4, x5⟩ := hat
    go_region_held3 (fun w' => w'.cell? ⟨X, 0, none⟩ = some (.int .u8 kz) ∧ w'.cell? ⟨X, 1, none⟩ = some (.int .i64 xb) ∧ w'.cell? ⟨X, 2, none⟩ = some (.int .i64 xn) ∧ w'.cell? ⟨X, 3, none⟩ = some (.int .u8 fz) ∧ w'.cell? ⟨X, 4, none⟩ = some (.bool pin) ∧ w'.cell? ⟨X, 5, none⟩ = some (.string data))
      (first | exact ⟨x0, x1, x2, x3, x4, x5⟩ | exact ⟨h1.x0, h1.x1, h1.x2, h1.x3, h1.x4, h1.x5⟩ | exact ⟨h2.x0, h2.x1, h2.x2, h2.x3, h2.x4, h2.x5⟩)
      (first | (go_at_call 21; refine ((hfill _).out).mono ?_; rintro e w3 ⟨rfl, hb3'⟩; have hb3 : Below wx.heap.size wx w3 := ⟨hb3'.os, hb3'.tape, hb3'.output, hb3'.size, hb3'.block⟩; have h1 := ActAt.below ⟨x0, x1, x2, x3, x4, x5⟩ hb3; have d3 := Lib.hid (cW.out.below hb3)) | (go_at_call 72; refine (rcwrite_any d3.out HO.out hk2 xb F hF2).mono ?_; rintro e w4 ⟨rfl, d4⟩; obtain ⟨v4, d5, o4, d6⟩ := d4; have h2 := h1.only o4 hXn.out))
    have HE := Lib.hid (FIN.out w4 _ _ (RGo.below hb3 ⟨v4, d5, o4, d6⟩))
    clear d5 o4 d6 h2 hb3 hb3' h1 d3 FIN hfill
    go_wp2_with fail
    rw [← HF.out] at *
    exact bodyPost_ret (v := .tuple #[.string ⟨#[]⟩, .int .i64 (Dv.writeE xb (blk fill))]) (by simp [results, Try.results35, go_sem]) rfl ⟨by rw [HZ.out]; rfl, by rw [HZ.out]; exact HE.out⟩

end Go.Proofs.Ytlickjaopbcanaa
