/- Devices: Flush, the walk. -/
import Derived.Test.YtjoopkdednmllaaDevFlush
namespace Go.Proofs.Ytjoopkdednmllaa
open Go Go.RowKit
variable {B b : Nat} {w : World} {y : Lay} {D : Dev}

set_option maxHeartbeats 1000000 in
theorem flush_ok (h : DevAt B w b y D) (hd : D.dead = false) (ha : D.acts < 1000000000000) :
    Calls Try.prog 17 #[.pointer (some ⟨b, 0, none⟩)] w fun e w' => e = .returned (.int .i64 0) ∧ DevAt B w' b y D.acted.flushed ∧ Only [b, y.gk, y.gp] w w' := by
  have hask := ask_any h 0
  have hk0 : D.ask 0 = 0 := by unfold Dev.ask; have := h.pos; rw [if_neg (by omega)]
  rw [hk0] at hask
  have hact := act_any h ha
  rw [hd] at hact
  simp only [Bool.false_eq_true, if_false] at hact
  have HASK := Lib.hid hask
  have HACT := Lib.hid hact
  clear h hask hact hk0 hd ha
  generalize D.acted = E at *
  go_enter Try.func17, Try.ntmps17
  go_wp2_with fail
  refine HASK.out.mono ?_
  rintro e w' ⟨rfl, rfl⟩
  go_wp2_with fail
  refine HACT.out.mono ?_
  rintro e w2 ⟨rfl, hE, hO⟩
  have c0 := hE.c0
  have c1 := hE.c1
  have HE := Lib.hid hE
  have HO := Lib.hid hO
  obtain ⟨cur, hcur, hsz⟩ : ∃ cur, w2.heap[y.gk]? = some (.cells cur 9 (0, 0)) ∧ E.kept.length ≤ cur.size := by
    rcases hE.kept.2 with ⟨hv, _⟩ | ⟨g', cap', cur', hv, hb, hg', r1, r2, r3, r4⟩
    · cases hv
    · cases hv; exact ⟨cur', hg', by omega⟩
  have hl2 : (strs E.now).length = E.kept.length := hE.now.1.trans (Nat.mul_one _)
  have hsrc : ∀ j v, (strs E.now)[j]? = some v → w2.cell? ((⟨y.gn, 0, none⟩ : Addr).add j) = some v := hE.now.cells rfl
  have hone : ∀ v ∈ strs E.now, v.oneCell' = true := by intro v hv; simp [strs] at hv; obtain ⟨_, _, rfl⟩ := hv; rfl
  have hEd : DevAt B w2.drew b y E := hE.below ⟨rfl, rfl, rfl, Nat.le_refl _, fun _ _ => rfl⟩
  have hcp := hEd.copied cur hcur hsz
  have hO3 : Only [b, y.gk, y.gp] w (w2.drew.setRow y.gk (cur.toList.take 0 ++ (strs E.now ++ cur.toList.drop (0 + (strs E.now).length))).toArray) :=
    (hO.sub (by simp)).trans ⟨rfl, rfl, rfl, by simp [World.setRow], fun k _ hn => setRow_other _ _ _ _ (fun e => hn (by simp [e]))⟩
  clear hE hO
  go_wp2_with fail
  go_still_tail 8, (by kernel_rfl)
  refine wpList_copy_own rfl _ _ 45 45 rfl 9 Try.underlying45 (by kernel_rfl) y.gk 0 E.kept.length y.ck ⟨y.gn, 0, none⟩ E.kept.length y.cn rfl rfl cur 9 hcur (strs E.now) (by rw [hl2]; simp) hsrc (by omega) hone ?_
  have he : cur.toList.take 0 ++ (strs E.now ++ cur.toList.drop (0 + (strs E.now).length)) = strs E.now ++ List.drop E.kept.length cur.toList := by simp [hl2]
  rw [he] at hcp hO3
  rw [he]
  have z2 := hcp.c2
  dsimp only at z2
  have HCL := Lib.hid hcp.cleared
  have hcl : ∀ ty, (Builtin.clear_ #[32] ty #[.slice (some ⟨y.gp, 0, none⟩) E.now.length y.cp]).run Try.prog (w2.drew.setRow y.gk (strs E.now ++ List.drop E.kept.length cur.toList).toArray) = .ok (.tuple #[]) ((w2.drew.setRow y.gk (strs E.now ++ List.drop E.kept.length cur.toList).toArray).setCells y.gp 0 (List.replicate E.now.length (.bool false))) := fun ty =>
    Lib.run_clear_slice (w2.drew.setRow y.gk (strs E.now ++ List.drop E.kept.length cur.toList).toArray) _ _ ty _ Try.underlying32 (fun _ => rfl) rfl rfl y.gp 0 _ _ hcp.pos.1 (fun j hj => by
      rw [Nat.zero_add, own_cellAt hcp.pend (List.getElem?_eq_getElem (by rw [hcp.pend.1]; simpa using hj))]; rfl) (fun j _ => by rw [Nat.zero_add]; exact ownsRow_free1 hcp.pend j)
  have hO4 : Only [b, y.gk, y.gp] w ((w2.drew.setRow y.gk (strs E.now ++ List.drop E.kept.length cur.toList).toArray).setCells y.gp 0 (List.replicate E.now.length (.bool false))) := hO3.trans (only_setCells (by simp) _ _ _)
  have hEn : E.now.length = E.kept.length := by rw [← hl2]; simp [strs]
  have HFL : Hid (DevAt B ((w2.drew.setRow y.gk (strs E.now ++ List.drop E.kept.length cur.toList).toArray).setCells y.gp 0 (List.replicate E.now.length (.bool false))) b y E.flushed) := Lib.hid (by
    have e : E.flushed = { E with kept := E.now, pend := List.replicate E.now.length false } := by unfold Dev.flushed; rw [hEn]
    rw [e]; exact HCL.out)
  have HO4 := Lib.hid hO4
  clear he
  clear hO4 hO3 hcp hEd hEn HCL HE HO hsrc hone
  go_wp2_with fail
  go_ret
  exact ⟨rfl, HFL.out, HO4.out⟩

def Dev.flushE (D : Dev) : Int := if D.dead then 61 else 0
def Dev.flush (D : Dev) : Dev := if D.dead then D else D.acted.flushed
theorem flush_any (h : DevAt B w b y D) (ha : D.acts < 1000000000000) :
    Calls Try.prog 17 #[.pointer (some ⟨b, 0, none⟩)] w fun e w' => e = .returned (.int .i64 D.flushE) ∧ DevAt B w' b y D.flush ∧ Only [b, y.gk, y.gp] w w' := by
  cases hd : D.dead
  · have e1 : D.flushE = 0 := by unfold Dev.flushE; rw [hd]; rfl
    have e2 : D.flush = D.acted.flushed := by unfold Dev.flush; rw [hd]; rfl
    rw [e1, e2]; exact flush_ok h hd ha
  · have e1 : D.flushE = 61 := by unfold Dev.flushE; rw [hd]; rfl
    have e2 : D.flush = D := by unfold Dev.flush; rw [hd]; rfl
    rw [e1, e2]
    have hask := ask_any h 0
    have hk0 : D.ask 0 = 0 := by unfold Dev.ask; have := h.pos; rw [if_neg (by omega)]
    rw [hk0] at hask
    have hact := act_any h ha
    rw [hd] at hact
    simp only [if_true] at hact
    have HASK := Lib.hid hask
    have HACT := Lib.hid hact
    have HH := Lib.hid h
    clear h hask hact hk0 hd ha e1 e2
    go_enter Try.func17, Try.ntmps17
    go_wp2_with fail
    refine HASK.out.mono ?_
    rintro e w' ⟨rfl, rfl⟩
    go_wp2_with fail
    refine HACT.out.mono ?_
    rintro e w' ⟨rfl, rfl⟩
    go_wp2_with fail
    go_ret
    exact ⟨rfl, HH.out, Only.refl _ _⟩

end Go.Proofs.Ytjoopkdednmllaa
