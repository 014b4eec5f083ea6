/- The law DeviceFlush: its walk. -/
import Derived.Test.YtjoopkdednmllaaDevAlived
namespace Go.Proofs.Ytjoopkdednmllaa
open Go Go.RowKit
variable {B b : Nat} {w : World} {y : Lay} {D : Dev}

theorem BoolsIn.at {ad : Option Addr} {cap : Nat} {l : List Bool} (h : BoolsIn w ad cap l) : BoolsAt w ad l := by
  intro i hi
  obtain ⟨g, off, e, hc⟩ := h.1 i (.bool (l.getD i false)) (by simp [List.getD, hi])
  exact ⟨g, off, e, hc⟩

theorem plays_kept_length (D : Dev) (l : List ActV) (h : D.Ok 0) : ∀ j, (D.plays l j).kept.length = D.kept.length := by
  intro j
  induction j with
  | zero => rfl
  | succ j ih =>
    rw [← ih]
    have hok := h.plays l j
    show ((D.plays l j).does _).kept.length = _
    unfold Dev.does
    split
    · unfold Dev.write; split <;> rfl
    · split
      · unfold Dev.flush; split
        · rfl
        · exact hok.len
      · split <;> rfl

theorem pendTo_falses (n k : Nat) : pendTo (List.replicate n false) k = [] := by
  induction k with
  | zero => rfl
  | succ k ih =>
    show (if (List.replicate n false).getD k false = true then _ else _) = _
    have : (List.replicate n false).getD k false = false := by
      by_cases h : k < n
      · simp [List.getD, h]
      · simp [List.getD, h]
    rw [this, ih]; rfl

theorem flushed_pend (D : Dev) (h : D.dead = false) : pendTo D.flush.pend D.flush.pend.length = [] := by
  have e : D.flush.pend = List.replicate D.kept.length false := by unfold Dev.flush; rw [h]; rfl
  rw [e]; exact pendTo_falses _ _
theorem flushed_kept (D : Dev) (h : D.dead = false) : D.flush.kept = D.now ∧ D.flush.now = D.now ∧ D.flush.acts = D.acts + 1 := by
  unfold Dev.flush; rw [h]; exact ⟨rfl, rfl, rfl⟩
theorem flushed_crash (D : Dev) (h : D.dead = false) (keep : List Bool) : D.flush.crash keep = D.now := by
  unfold Dev.crash
  rw [flushed_pend D h]
  exact (flushed_kept D h).1
theorem flush_dead (D : Dev) (h : D.dead = true) : D.flush = D ∧ D.flushE = 61 := by
  unfold Dev.flush Dev.flushE; rw [h]; exact ⟨rfl, rfl⟩

set_option maxHeartbeats 2000000 in
theorem DeviceFlush_walk (x : UInt8) (ad : Option Addr) (cap : Nat) (l : List ActV) (ad2 : Option Addr) (cap2 : Nat) (keep : List Bool) (h1 : ActsIn w ad cap l) (h2 : BoolsIn w ad2 cap2 keep) :
    Calls Try.prog 6 #[bval x, .slice ad l.length cap, .slice ad2 keep.length cap2] w fun e w' => e = .returned (.bool true) ∧ Below w.heap.size w w' := by
  have hg := Lib.hid (great_any ad cap l h1)
  have H1 := Lib.hid h1
  have H2 := Lib.hid h2.at
  have hlen := h1.len
  have hlen2 := h2.2
  have hp := Lib.hid (fun w (h : ActsIn w ad cap l) hl => played_any x ad cap l h hl)
  have hk : ∃ n : Int, bval x = .int .u8 n := ⟨_, rfl⟩
  have hok := fun j => (zeros_ok (1 + x.toNat % 20)).plays l j
  generalize zeros (1 + x.toNat % 20) = D0 at *
  generalize bval x = vx at *
  obtain ⟨xn, rfl⟩ := hk
  have hal := Lib.hid (fun w => alive_any w)
  clear h1 h2
  go_enter Try.func6, Try.ntmps6
  go_wp2_with fail
  refine hg.out.mono ?_
  rintro e w1 ⟨g, rfl, b1, hg1⟩
  have B1 := Lib.hid b1
  have G := Lib.hid hg1
  clear b1 hg1
  cases g
  case true =>
    go_wp2_with fail
    go_ret
    exact ⟨rfl, B1.out⟩
  by_cases hk1000 : (1000 : Int) < (keep.length : Int)
  · go_wp2_with fail
    go_ret
    exact ⟨rfl, B1.out⟩
  have hl120 := Lib.hid (G.out.out rfl)
  go_wp2_with fail
  refine (hp.out _ (H1.out.below B1.out) hl120.out).mono ?_
  rintro e w2 ⟨b, rfl, ⟨y, d2⟩, b2⟩
  have HOK := Lib.hid (hok l.length)
  have hac : (D0.plays l l.length).acts < 1000000000000 := by have := HOK.out.acts; have := hl120.out; omega
  generalize D0.plays l l.length = D at *
  have B2 := Lib.hid (B1.out.trans (b2.mono B1.out.size))
  have D2 : Hid (DevAt w.heap.size w2 b y D) := Lib.hid ⟨Nat.le_trans B1.out.size d2.own, d2.cells, own_mono d2.kept B1.out.size, own_mono d2.now B1.out.size, own_mono d2.pend B1.out.size, d2.ne, d2.pos, d2.left, d2.acts⟩
  have K2 := Lib.hid (H2.out.below B2.out)
  clear b2 d2
  have hac0 := D2.out.acts
  have k1 := Lib.hid (readall_any D2.out HOK.out.now)
  have k2 := Lib.hid (kept_any D2.out HOK.out.kept)
  have k3 := Lib.hid (acts_any D2.out)
  go_wp2_with fail
  refine k1.out.mono ?_
  rintro e w3 ⟨rfl, rfl⟩
  go_wp2_with fail
  refine k2.out.mono ?_
  rintro e w3 ⟨rfl, b3⟩
  have B3 := Lib.hid (B2.out.trans (b3.mono B2.out.size))
  have D3 := Lib.hid (D2.out.below b3)
  have K3 := Lib.hid (K2.out.below b3)
  clear b3 D2 B2 K2 k1 k2 k3
  have k3 := Lib.hid (acts_any D3.out)
  have k4 := Lib.hid (dead_any D3.out)
  have k5 := Lib.hid (flush_any D3.out hac)
  have hbd := Lib.hid D3.out.bounds
  go_wp2_with fail
  refine k3.out.mono ?_
  rintro e w4 ⟨rfl, rfl⟩
  go_wp2_with fail
  refine k4.out.mono ?_
  rintro e w4 ⟨rfl, rfl⟩
  go_wp2_with fail
  refine k5.out.mono ?_
  rintro e w4 ⟨rfl, d4, o4⟩
  have B4 := Lib.hid (below_only B3.out (Nat.le_refl _) o4 (by have := hbd.out; simp; omega))
  have D4 := Lib.hid d4
  have K4 : Hid (BoolsAt w4 ad2 keep) := Lib.hid (H2.out.below B4.out)
  clear d4 o4 k3 k4 k5 hbd D3 B3 K3
  cases hd : D.dead
  · have hf := flushed_kept D hd
    have he : D.flushE = 0 := by unfold Dev.flushE; rw [hd]; rfl
    have c1 := Lib.hid (pending_any D4.out)
    have c3 := flushed_crash D hd keep
    rw [flushed_pend D hd] at c1
    have OK4 := Lib.hid HOK.out.flush
    have E4 := Lib.hid hf
    rw [he]
    clear hd hf he
    generalize D.flush = F at *
    go_wp2_with fail
    refine c1.out.mono ?_
    rintro e w5 ⟨v, rfl, ho5, b5⟩
    obtain ⟨ad5, cap5, rfl, _⟩ := own_opens ho5
    have B5 := Lib.hid (B4.out.trans (b5.mono B4.out.size))
    have D5 := Lib.hid (D4.out.below b5)
    have K5 := Lib.hid (K4.out.below b5)
    clear b5 D4 B4 K4 c1 ho5
    have k5 := Lib.hid (kept_any D5.out OK4.out.kept)
    rw [E4.out.1] at k5
    go_wp2_with fail
    refine k5.out.mono ?_
    rintro e w6 ⟨rfl, b6⟩
    have B6 := Lib.hid (B5.out.trans (b6.mono B5.out.size))
    have D6 := Lib.hid (D5.out.below b6)
    have K6 := Lib.hid (K5.out.below b6)
    clear b6 D5 B5 K5 k5
    have k6 := Lib.hid (readall_any D6.out OK4.out.now)
    have k7 := Lib.hid (crash_any D6.out OK4.out.kept OK4.out.now ad2 cap2 keep K6.out (by omega))
    rw [E4.out.2.1] at k6
    rw [c3] at k7
    go_wp2_with fail
    refine k6.out.mono ?_
    rintro e w7 ⟨rfl, rfl⟩
    go_wp2_with fail
    refine k7.out.mono ?_
    rintro e w7 ⟨rfl, b7⟩
    have B7 := Lib.hid (B6.out.trans (b7.mono B6.out.size))
    have D7 := Lib.hid (D6.out.below b7)
    clear b7 D6 B6 K6 k6 k7
    have k8 := Lib.hid (acts_any D7.out)
    rw [E4.out.2.2] at k8
    go_wp2_with fail
    refine k8.out.mono ?_
    rintro e w8 ⟨rfl, rfl⟩
    go_wp2_with fail
    refine (hal.out _).mono ?_
    rintro e w9 ⟨rfl, b9⟩
    have B9 := Lib.hid (B7.out.trans (b9.mono B7.out.size))
    clear b9
    go_wp2_with fail
    go_ret
    exact ⟨rfl, B9.out⟩
  · obtain ⟨hf, he⟩ := flush_dead D hd
    rw [hf] at D4
    rw [he]
    have k5 := Lib.hid (kept_any D4.out HOK.out.kept)
    clear hd hf he
    go_wp2_with fail
    refine k5.out.mono ?_
    rintro e w6 ⟨rfl, b6⟩
    have B6 := Lib.hid (B4.out.trans (b6.mono B4.out.size))
    have D6 := Lib.hid (D4.out.below b6)
    clear b6 D4 B4 K4 k5
    have k6 := Lib.hid (readall_any D6.out HOK.out.now)
    have k8 := Lib.hid (acts_any D6.out)
    go_wp2_with fail
    refine k6.out.mono ?_
    rintro e w7 ⟨rfl, rfl⟩
    go_wp2_with fail
    refine k8.out.mono ?_
    rintro e w8 ⟨rfl, rfl⟩
    go_wp2_with fail
    refine (hal.out _).mono ?_
    rintro e w9 ⟨rfl, b9⟩
    have B9 := Lib.hid (B6.out.trans (b9.mono B6.out.size))
    clear b9
    go_wp2_with fail
    go_ret
    exact ⟨rfl, B9.out⟩

end Go.Proofs.Ytjoopkdednmllaa
