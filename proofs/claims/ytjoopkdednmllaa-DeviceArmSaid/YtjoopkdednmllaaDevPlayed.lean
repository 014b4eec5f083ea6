/- Laws of devices: played. -/
import Derived.Test.YtjoopkdednmllaaDevAll
import Derived.Deep.RegionHeld3
namespace Go.Proofs.Ytjoopkdednmllaa
open Go Go.RowKit
variable {B b : Nat} {w : World} {y : Lay} {D : Dev}

theorem DevAt.bounds (h : DevAt B w b y D) : (B ≤ b ∧ b < w.heap.size) ∧ (B ≤ y.gk ∧ y.gk < w.heap.size) ∧ (B ≤ y.gn ∧ y.gn < w.heap.size) ∧ (B ≤ y.gp ∧ y.gp < w.heap.size) :=
  ⟨⟨h.own, h.cells.lt⟩, h.kept.lt _ rfl, h.now.lt _ rfl, h.pend.lt _ rfl⟩

/-- What keeps of a device while it is used. -/
structure Dev.Ok (D : Dev) (k : Nat) : Prop where
  kept : sized D.kept
  now : sized D.now
  len : D.now.length = D.kept.length
  plen : D.pend.length = D.kept.length
  acts : D.acts ≤ k

theorem sized_set (l : List ByteArray) (h : sized l) (i : Nat) (t : ByteArray) (ht : t.size = 128) : sized (l.set i t) := by
  intro s hs
  rcases List.mem_or_eq_of_mem_set hs with h1 | h1
  · exact h s h1
  · subst h1; exact ht

theorem Dev.Ok.mono {D : Dev} {k k' : Nat} (h : D.Ok k) (hk : k ≤ k') : D.Ok k' := ⟨h.kept, h.now, h.len, h.plen, by have := h.acts; omega⟩
theorem Dev.Ok.write {D : Dev} {k : Nat} (h : D.Ok k) (i : Int) (t : ByteArray) : (D.write i t).Ok (k + 1) := by
  unfold Dev.write
  split
  · rename_i h0
    have ht : t.size = 128 := by
      unfold Dev.writeE at h0
      split at h0
      · omega
      · split at h0
        · omega
        · rename_i h2; simpa using h2
    exact ⟨h.kept, sized_set _ h.now _ _ ht, by simpa [Dev.put, Dev.acted] using h.len, by simpa [Dev.put, Dev.acted] using h.plen, by have := h.acts; show D.acts + 1 ≤ _; omega⟩
  · exact h.mono (by omega)
theorem Dev.Ok.flush {D : Dev} {k : Nat} (h : D.Ok k) : D.flush.Ok (k + 1) := by
  unfold Dev.flush
  split
  · exact h.mono (by omega)
  · exact ⟨h.now, h.now, rfl, by show (List.replicate _ _).length = D.now.length; rw [List.length_replicate]; exact h.len.symm, by have := h.acts; show D.acts + 1 ≤ _; omega⟩
theorem Dev.Ok.arm {D : Dev} {k : Nat} (h : D.Ok k) (n : Int) : (D.arm n).Ok k := ⟨h.kept, h.now, h.len, h.plen, h.acts⟩
theorem Dev.Ok.fresh (l : List ByteArray) (h : sized l) : (Dev.fresh l).Ok 0 := ⟨h, h, rfl, by simp [Dev.fresh], by simp [Dev.fresh]⟩

/-- One act is done. -/
def Dev.does (D : Dev) (x : ActV) : Dev := if x.kind.toNat % 8 ≤ 3 then D.write x.b x.what else if x.kind.toNat % 8 = 4 then D.flush else if x.kind.toNat % 8 = 5 then D.arm x.n else D
theorem Dev.Ok.does {D : Dev} {k : Nat} (h : D.Ok k) (x : ActV) : (D.does x).Ok (k + 1) := by
  unfold Dev.does
  split
  · exact h.write _ _
  · split
    · exact h.flush
    · split
      · exact (h.arm _).mono (by omega)
      · exact h.mono (by omega)
def Dev.plays (D : Dev) (l : List ActV) : Nat → Dev
  | 0 => D
  | j + 1 => (D.plays l j).does (l.getD j default)
theorem Dev.Ok.plays {D : Dev} (h : D.Ok 0) (l : List ActV) (j : Nat) : (D.plays l j).Ok j := by
  induction j with
  | zero => exact h
  | succ j ih => exact ih.does _

theorem below_only {S : List Nat} {w0 w w' : World} (hb : Below B w0 w) (hB : B ≤ w0.heap.size) (ho : Only S w w') (hs : ∀ k ∈ S, B ≤ k) : Below B w0 w' := hb.trans (ho.below (Nat.le_trans hB hb.size) hs)

/-- An act's cells, in a block of its own. -/
structure ActAt (w : World) (X : Nat) (kz xb xn fz : Int) (data : ByteArray) (kad : Option Addr) (kl kcap : Nat) : Prop where
  x0 : w.cell? ⟨X, 0, none⟩ = some (.int .u8 kz)
  x1 : w.cell? ⟨X, 1, none⟩ = some (.int .i64 xb)
  x2 : w.cell? ⟨X, 2, none⟩ = some (.int .i64 xn)
  x3 : w.cell? ⟨X, 3, none⟩ = some (.int .u8 fz)
  x4 : w.cell? ⟨X, 4, none⟩ = some (.string data)
  x5 : w.cell? ⟨X, 5, none⟩ = some (.slice kad kl kcap)
theorem ActAt.same {w w' : World} {X : Nat} {kz xb xn fz : Int} {data : ByteArray} {kad : Option Addr} {kl kcap : Nat} (h : ActAt w X kz xb xn fz data kad kl kcap) (he : w'.heap[X]? = w.heap[X]?) : ActAt w' X kz xb xn fz data kad kl kcap := by
  have e : ∀ k, w'.cell? ⟨X, k, none⟩ = w.cell? ⟨X, k, none⟩ := fun k => by simp only [World.cell?, he]
  exact ⟨(e 0).trans h.x0, (e 1).trans h.x1, (e 2).trans h.x2, (e 3).trans h.x3, (e 4).trans h.x4, (e 5).trans h.x5⟩
theorem ActAt.lt {w : World} {X : Nat} {kz xb xn fz : Int} {data : ByteArray} {kad : Option Addr} {kl kcap : Nat} (h : ActAt w X kz xb xn fz data kad kl kcap) : X < w.heap.size := World.block_lt_of_cell? w _ h.x0
theorem ActAt.below {w w' : World} {X : Nat} {kz xb xn fz : Int} {data : ByteArray} {kad : Option Addr} {kl kcap : Nat} (h : ActAt w X kz xb xn fz data kad kl kcap) (hb : Below w.heap.size w w') : ActAt w' X kz xb xn fz data kad kl kcap := h.same (hb.block X h.lt)
theorem ActAt.only {S : List Nat} {w w' : World} {X : Nat} {kz xb xn fz : Int} {data : ByteArray} {kad : Option Addr} {kl kcap : Nat} (h : ActAt w X kz xb xn fz data kad kl kcap) (ho : Only S w w') (hn : X ∉ S) : ActAt w' X kz xb xn fz data kad kl kcap := h.same (ho.block X h.lt hn)
theorem ActAt.new (w : World) (kz xb xn fz : Int) (data : ByteArray) (kad : Option Addr) (kl kcap : Nat) : ActAt (w.alloc (.cells #[.int .u8 kz, .int .i64 xb, .int .i64 xn, .int .u8 fz, .string data, .slice kad kl kcap] 34)) w.heap.size kz xb xn fz data kad kl kcap := by
  have e : ∀ k, (w.alloc (.cells #[.int .u8 kz, .int .i64 xb, .int .i64 xn, .int .u8 fz, .string data, .slice kad kl kcap] 34)).cell? ⟨w.heap.size, k, none⟩ = _ := fun k => cell_of_row _ _ _ _ _ _ (heap_alloc_new w _)
  exact ⟨(e 0).trans rfl, (e 1).trans rfl, (e 2).trans rfl, (e 3).trans rfl, (e 4).trans rfl, (e 5).trans rfl⟩

def zeros (n : Nat) : Dev := Dev.fresh (List.replicate n zblock)
theorem zeros_ok (n : Nat) : (zeros n).Ok 0 := Dev.Ok.fresh _ (fun s hs => by rw [(List.mem_replicate.1 hs).2]; exact zblock_size)

set_option maxHeartbeats 1000000 in
theorem played_any (x : UInt8) (ad : Option Addr) (cap : Nat) (l : List ActV) (h : ActsIn w ad cap l) (hl : l.length ≤ 120) :
    Calls Try.prog 36 #[bval x, .slice ad l.length cap] w fun e w' => ∃ b, e = .returned (.pointer (some ⟨b, 0, none⟩)) ∧ (∃ y, DevAt w.heap.size w' b y ((zeros (1 + x.toNat % 20)).plays l l.length)) ∧ Below w.heap.size w w' := by
  have hx := x.toNat_lt
  obtain ⟨n, hn⟩ : ∃ n, n = 1 + x.toNat % 20 := ⟨_, rfl⟩
  have hnew := Lib.hid (newdev_any (w := w) n (by omega))
  have H := Lib.hid h
  have hlen := h.len
  clear h
  rw [← hn]
  have hwz : wrap64 (1 + wrap64 (Int.tmod (x.toNat : Int) 20)) = (n : Int) := by
    rw [Int.tmod_eq_emod_of_nonneg (by omega)]; unfold wrap64; omega
  unfold bval
  generalize (x.toNat : Int) = xi at *
  have HN := Lib.hid hn
  clear hn
  go_enter Try.func36, Try.ntmps36
  go_wp2_with fail
  rw [hwz]
  refine hnew.out.mono ?_
  rintro e w1 ⟨b, rfl, ⟨y, hD⟩, hb1⟩
  have HD := Lib.hid hD
  have HB1 := Lib.hid hb1
  clear hD hb1 hnew hwz
  go_wp2_with fail
  go_loopw [7] (fun q wr => ∃ j : Nat, j ≤ l.length ∧ q = .int .i64 j ∧ Hid (DevAt w.heap.size wr b y ((zeros n).plays l j)) ∧ Hid (Below w.heap.size w wr)) (fun q _ => l.length - (intOf q).toNat)
  case atStart => exact ⟨0, by omega, rfl, HD, HB1⟩
  case round =>
    obtain ⟨j, hj, rfl, hd, hb⟩ := hrel
    by_cases hlt : j < l.length
    · have i1 : (j : Int) < (l.length : Int) := by omega
      obtain ⟨g, off, rfl, c0, c1, c2, c3, c4, c5⟩ := (H.out.below hb.out).at j hlt
      obtain ⟨hk, hx1, hx2, hdt⟩ := H.out.okAt j hlt
      have hk2 := hk.2
      have hst : Hid ((zeros n).plays l (j + 1) = ((zeros n).plays l j).does (l.getD j default)) := Lib.hid rfl
      have hok := Lib.hid ((zeros_ok n).plays l j)
      generalize (zeros n).plays l j = D at *
      clear hk
      have hwhat := fun w => Lib.hid (what_any (l.getD j default) w)
      generalize l.getD j default = X at *
      obtain ⟨kind, xb, xn, fill, data, kad, kcap, keep⟩ := X
      dsimp only [actCells] at c0 c1 c2 c3 c4 c5 hx1 hx2 hk2 hdt hwhat
      unfold bval at c0 c3 hwhat
      have hkz := kind.toNat_lt
      have htm : Int.tmod (kind.toNat : Int) 8 = ((kind.toNat % 8 : Nat) : Int) := by rw [Int.tmod_eq_emod_of_nonneg (by omega)]; omega
      obtain ⟨r, hr⟩ : ∃ r, kind.toNat % 8 = r := ⟨_, rfl⟩
      have hr8 : r < 8 := by omega
      have hdoes : Hid ((zeros n).plays l (j + 1) = if r ≤ 3 then D.write xb (ActV.what ⟨kind, xb, xn, fill, data, kad, kcap, keep⟩) else if r = 4 then D.flush else if r = 5 then D.arm xn else D) := Lib.hid (by
        rw [hst.out]; unfold Dev.does; dsimp only; rw [hr])
      rw [hr] at htm
      clear hr hst
      have hT : Hid ((ActV.what ⟨kind, xb, xn, fill, data, kad, kcap, keep⟩).size ≤ 9223372036854775807) := Lib.hid (by
        unfold ActV.what; split
        · show (List.toArray _).size ≤ _; simp
        · exact hdt)
      generalize (ActV.what ⟨kind, xb, xn, fill, data, kad, kcap, keep⟩) = T at *
      generalize (kind.toNat : Int) = kz at *
      generalize (fill.toNat : Int) = fz at *
      generalize keep.length = kl at *
      have hdA : Hid (DevAt w.heap.size (wr.alloc (.cells #[.int .u8 kz, .int .i64 xb, .int .i64 xn, .int .u8 fz, .string data, .slice kad kl kcap] 34)) b y D) := Lib.hid (hd.out.below ((Below.refl _ _).alloc (Nat.le_refl _) _))
      have hbA : Hid (Below w.heap.size w (wr.alloc (.cells #[.int .u8 kz, .int .i64 xb, .int .i64 xn, .int .u8 fz, .string data, .slice kad kl kcap] 34))) := Lib.hid (hb.out.alloc hb.out.size _)
      have hac : D.acts < 1000000000000 := by have := hok.out.acts; omega
      have hbd := Lib.hid hdA.out.bounds
      by_cases h6 : 6 ≤ r
      · have hdo : Hid ((zeros n).plays l (j + 1) = D) := Lib.hid (by rw [hdoes.out, if_neg (by omega), if_neg (by omega), if_neg (by omega)])
        have k0 : ¬ (r : Int) = 0 := by omega
        have k1 : ¬ (r : Int) = 1 := by omega
        have k2 : ¬ (r : Int) = 2 := by omega
        have k3 : ¬ (r : Int) = 3 := by omega
        have k4 : ¬ (r : Int) = 4 := by omega
        have k5 : ¬ (r : Int) = 5 := by omega
        clear hdoes hwhat
        go_wp2_with fail
        go_roundw
        case rel => exact ⟨j + 1, by omega, by go_num, by rw [hdo.out]; exact hdA, hbA⟩
        case measure => simp [intOf]; omega
      by_cases h5 : r = 5
      · have hdo : Hid ((zeros n).plays l (j + 1) = D.arm xn) := Lib.hid (by rw [hdoes.out, if_neg (by omega), if_neg (by omega), if_pos h5])
        subst h5
        have ha := Lib.hid (arm_any hdA.out xn hx2)
        clear hdoes hwhat
        go_wp2_with fail
        refine ha.out.mono ?_
        rintro e w2 ⟨rfl, hd2, ho2⟩
        have hd2' := Lib.hid hd2
        have hb2 := Lib.hid (below_only hbA.out (Nat.le_refl _) ho2 (by have := hbd.out; simp; omega))
        clear hd2 ho2
        go_wp2_with fail
        go_roundw
        case rel => exact ⟨j + 1, by omega, by go_num, by rw [hdo.out]; exact hd2', hb2⟩
        case measure => simp [intOf]; omega
      by_cases h4 : r = 4
      · have hdo : Hid ((zeros n).plays l (j + 1) = D.flush) := Lib.hid (by rw [hdoes.out, if_neg (by omega), if_pos h4])
        subst h4
        have ha := Lib.hid (flush_any hdA.out hac)
        clear hdoes hwhat
        go_wp2_with fail
        refine ha.out.mono ?_
        rintro e w2 ⟨rfl, hd2, ho2⟩
        have hd2' := Lib.hid hd2
        have hb2 := Lib.hid (below_only hbA.out (Nat.le_refl _) ho2 (by have := hbd.out; simp; omega))
        clear hd2 ho2
        go_wp2_with fail
        go_roundw
        case rel => exact ⟨j + 1, by omega, by go_num, by rw [hdo.out]; exact hd2', hb2⟩
        case measure => simp [intOf]; omega
      · have hdo : Hid ((zeros n).plays l (j + 1) = D.write xb T) := Lib.hid (by rw [hdoes.out, if_pos (by omega)])
        have hr3 : r = 0 ∨ r = 1 ∨ r = 2 ∨ r = 3 := by omega
        clear hdoes
        have hat := ActAt.new wr kz xb xn fz data kad kl kcap
        have hXb : Hid (wr.heap.size ∉ [b, y.gn, y.gp]) := Lib.hid (by have := hd.out.bounds; simp; omega)
        rcases hr3 with rfl | rfl | rfl | rfl
        all_goals
          go_wp2_with fail
          generalize wr.heap.size = X at *
          generalize wr.alloc _ = wx at *
          obtain ⟨x0, x1, x2, x3, x4, x5⟩ := hat
          go_region_held3 (fun w' => w'.cell? ⟨X, 0, none⟩ = some (.int .u8 kz) ∧ w'.cell? ⟨X, 1, none⟩ = some (.int .i64 xb) ∧ w'.cell? ⟨X, 2, none⟩ = some (.int .i64 xn) ∧ w'.cell? ⟨X, 3, none⟩ = some (.int .u8 fz) ∧ w'.cell? ⟨X, 4, none⟩ = some (.string data) ∧ w'.cell? ⟨X, 5, none⟩ = some (.slice kad kl kcap))
            (first | exact ⟨x0, x1, x2, x3, x4, x5⟩ | exact ⟨h1.x0, h1.x1, h1.x2, h1.x3, h1.x4, h1.x5⟩ | exact ⟨h2.x0, h2.x1, h2.x2, h2.x3, h2.x4, h2.x5⟩)
            (first | (go_at_call 15; refine ((hwhat _).out).mono ?_; rintro e w3 ⟨rfl, hb3'⟩; have hb3 : Below wx.heap.size wx w3 := ⟨hb3'.os, hb3'.tape, hb3'.output, hb3'.size, hb3'.block⟩; have h1 := ActAt.below ⟨x0, x1, x2, x3, x4, x5⟩ hb3; have d3 := Lib.hid (hdA.out.below hb3)) | (go_at_call 14; refine (write_any d3.out xb T hT.out hac).mono ?_; rintro e w4 ⟨rfl, d4, o4⟩; have h2 := h1.only o4 hXb.out))
          have hb4 := Lib.hid (below_only (hbA.out.trans (hb3.mono hbA.out.size)) (Nat.le_refl _) o4 (by have := hbd.out; simp; omega))
          have hd4 := Lib.hid d4
          clear d4 o4 h2 hb3 hb3' h1 d3
          go_wp2_with fail
          go_roundw
          case rel => exact ⟨j + 1, by omega, by go_num, by rw [hdo.out]; exact hd4, hb4⟩
          case measure => simp [intOf]; omega
    · obtain rfl : j = l.length := by omega
      go_wp2_with fail
      go_ret
      exact ⟨b, rfl, ⟨y, hd.out⟩, hb.out⟩

end Go.Proofs.Ytjoopkdednmllaa
