/- step: is done. -/
import Derived.Test.YtnpdhidliaahbaaGreatG39
import Derived.Test.YtnpdhidliaahbaaGreatG37
set_option linter.unusedSimpArgs false
set_option linter.unusedVariables false
namespace Go.Proofs.YtnpdhidliaahbaaGreat
set_option linter.unusedVariables false
open Go Go.RowKit

/-- A step that went through; a step in which the device failed. -/
def StepOk (Bd wb db lb : Nat) (y : Lay) (g : Geo.G) (D : Dev) (K : Nat) (e : Ending) (w' : World) : Prop :=
  ∃ next : List UInt8, next.length = 12 ∧ e = .returned (.tuple #[.agg (bcells next).toArray, .int .i64 0]) ∧ ∃ D' V' home' want' at_ q l, D'.armed = D.armed ∧ SysAt Bd wb db lb y g D' V' home' want' w' ∧ Sys.Ok g D' V' home' want' at_ q l K
def StepBad (Bd wb db lb : Nat) (y : Lay) (g : Geo.G) (D : Dev) (want : List UInt8) (K : Nat) (e : Ending) (w' : World) : Prop :=
  ∃ next : List UInt8, next.length = 12 ∧ e = .returned (.tuple #[.agg (bcells next).toArray, .int .i64 61]) ∧ D.armed = true ∧ ∃ D' V' home', SysAt Bd wb db lb y g D' V' home' want w' ∧ Sys.Dead g D' want next K
def StepTold (Bd wb db lb : Nat) (y : Lay) (g : Geo.G) (D : Dev) (want : List UInt8) (K : Nat) (w : World) (e : Ending) (w' : World) : Prop :=
  (StepOk Bd wb db lb y g D K e w' ∨ StepBad Bd wb db lb y g D want K e w') ∧ Only (wb :: lb :: devB db y) w w'
theorem settle_E {Bd wb db lb : Nat} {y : Lay} {g : Geo.G} {D : Dev} {V : LogV} {home want : List UInt8} {K : Nat} {e : Ending} {w' : World} (h : SettleOk Bd wb db lb y g D V want K e w' ∨ SettleBad Bd wb db lb y g D home want K e w') :
    ∃ E : Int, e = .returned (.int .i64 E) ∧ ((E = 0 ∧ ∃ D' at_ q, D'.armed = D.armed ∧ SysAt Bd wb db lb y g D' ⟨V.place, 0, V.seq, 0⟩ want want w' ∧ Sys.Ok g D' ⟨V.place, 0, V.seq, 0⟩ want want at_ q [] K) ∨ (E = 61 ∧ D.armed = true ∧ ∃ D' V', SysAt Bd wb db lb y g D' V' home want w' ∧ Sys.Dead g D' want want K)) := by
  rcases h with ⟨h1, h2⟩ | ⟨h1, h2, h3⟩
  · exact ⟨0, h1, .inl ⟨rfl, h2⟩⟩
  · exact ⟨61, h1, .inr ⟨rfl, h2, h3⟩⟩
section
variable {Bd wb db lb : Nat} {y : Lay} {g : Geo.G} {D : Dev} {V : LogV} {home want : List UInt8} {at_ q K : Nat} {l : List Jr.Txn} {w : World}
set_option maxRecDepth 100000 in
set_option maxHeartbeats 16000000 in
theorem step_any {x : Sys.Step} {v : Value} (h : SysAt Bd wb db lb y g D V home want w) (ho : Sys.Ok g D V home want at_ q l K) (hK : K ≤ 10000000000) (w0 : World) (hx0 : StepAt w0 v x) (hb0 : Below w0.heap.size w0 w) (hS0 : ∀ k ∈ wb :: lb :: devB db y, w0.heap.size ≤ k) :
    Calls Tryz.prog 43 #[.pointer (some ⟨wb, 0, none⟩), v] w fun e w' => StepTold Bd wb db lb y g D want (K + 400) w e w' := by
  have hx := hx0.below hb0
  have HX0 : Hid (∀ wz, Only (wb :: lb :: devB db y) w wz → StepAt wz v x) := Lib.hid (fun wz hz => hx0.below (hb0.trans (hz.below hb0.size hS0)))
  clear hx0
  have hg := ho.may
  have hVf := ho.V
  have HS : Hid (∀ k ∈ wb :: lb :: devB db y, k < w.heap.size) := Lib.hid (fun k hk => by
    rcases List.mem_cons.1 hk with rfl | hk
    · exact h.row.lt
    rcases List.mem_cons.1 hk with rfl | hk
    · exact Row.lt h.log
    · have := h.dev.bounds
      simp [devB] at hk
      omega)
  have qS : Hid (∀ (wz : World), SysAt Bd wb db lb y g D V home want wz → Calls Tryz.prog 40 #[.pointer (some ⟨wb, 0, none⟩)] wz fun e w' => SettleTold Bd wb db lb y g D V home want (K + 100) wz e w') := Lib.hid (fun wz hz => settle_any hz ho (by omega))
  have qT : Hid (∀ (D : Dev) (V : LogV) (home : List UInt8) (v : Value) (wz : World), SysAt Bd wb db lb y g D V home want wz → StepAt wz v x → Calls Tryz.prog 39 #[.pointer (some ⟨wb, 0, none⟩), v] wz fun e w' => TxnTold g home want x wz e w') := Lib.hid (fun D V home v wz hz hx => txn_any wz hz.row hz.hl hz.wl hg hx)
  have hsz := Sys.size_txn g x
  have hpl := Jr.plc_of hg
  have qC : Hid (∀ (D : Dev) (V : LogV) (home : List UInt8) (at_ q : Nat) (l : List Jr.Txn) (K : Nat) (vc vr vd : Value) (wz : World) (B1 B2 B3 : Nat), SysAt Bd wb db lb y g D V home want wz → Sys.Ok g D V home want at_ q l K → K ≤ 10000000100 → OwnC B1 wz vc (Sys.txnT g x).ch → OwnInts B2 wz vr (Sys.txnT g x).rv → OwnC B3 wz vd (Sys.dataT g x) → V.used + Jr.size (Sys.txnT g x) ≤ Jr.plc g → Calls Tryz.prog 19 #[.pointer (some ⟨lb, 0, none⟩), .agg #[vc, vr], vd] wz fun e w' => ComTold Bd db lb y g D home want (Sys.nextT home want x) V (Jr.size (Sys.txnT g x)) (K + 100) at_ q (l ++ [Sys.txnT g x]) wz e w') := Lib.hid (fun D V home at_ q l K vc vr vd wz B1 B2 B3 hz hok hK hc hi hx hr => commit_sys hz.dev hz.log hz.ne.2.2 hok (by omega) x hc hi hx hr)
  have qX : Hid (¬ V.used + Jr.size (Sys.txnT g x) ≤ Jr.plc g → ∀ (vc vr vd : Value) (wz : World) (B1 B2 B3 : Nat), SysAt Bd wb db lb y g D V home want wz → OwnC B1 wz vc (Sys.txnT g x).ch → OwnInts B2 wz vr (Sys.txnT g x).rv → OwnC B3 wz vd (Sys.dataT g x) → Calls Tryz.prog 19 #[.pointer (some ⟨lb, 0, none⟩), .agg #[vc, vr], vd] wz fun e w' => e = .returned (.int .i64 90) ∧ Below wz.heap.size wz w') := Lib.hid (fun hr vc vr vd wz B1 B2 B3 hz hc hi hx => commit_fullsys hz.log ho x hc hi hx hr)
  have hfit : Hid (0 + Jr.size (Sys.txnT g x) ≤ Jr.plc g) := Lib.hid (by omega)
  have HG := Lib.hid hg
  have HO := Lib.hid ho
  have hnl : Hid (∀ home : List UInt8, (Sys.nextT home want x).length = 12) := Lib.hid (fun home => Sys.nextT_length.trans h.wl)
  have HK := Lib.hid hK
  have HSA := Lib.hid h
  clear hg hVf ho hsz hpl hK h
  obtain ⟨⟨vc0, vr0, rfl, hc, hv⟩, hlc, hlr⟩ := hx
  obtain ⟨ac, cc, rfl⟩ := hc.form
  obtain ⟨ar, cr, rfl⟩ := hv.form
  have HX : Hid (StepAt w (.agg #[bval x.kind, .slice ac x.change.length cc, .slice ar x.revoke.length cr, bval x.fill, .bool x.data]) x) := Lib.hid ⟨⟨_, _, rfl, hc, hv⟩, hlc, hlr⟩
  clear hc hv
  go_enter Tryz.func43, Tryz.ntmps43
  go_upto_region 1 with fail
  generalize hW : World.alloc _ _ = w1
  have hB1 : Below w.heap.size w w1 := by rw [← hW]; exact below_box (below_box (Below.refl _ _) _) _
  have q0 : Row w1 w.heap.size 96 [bval x.kind, .slice ac x.change.length cc, .slice ar x.revoke.length cr, bval x.fill, .bool x.data] := by rw [← hW]; exact (Row.new w _ _ rfl).alloc _
  have q1 : Row w1 (w.heap.size + 1) 64 (bcells (List.replicate 12 0)) := by rw [← hW]; exact Row.new _ _ _ (by simp)
  clear hW
  have B1 := Lib.hid hB1
  have Q0 := Lib.hid q0
  have Q1 := Lib.hid q1
  have SA1 := Lib.hid (HSA.out.below hB1)
  have HX1 := Lib.hid (HX.out.below hB1)
  clear hB1 q0 q1
  have c0 : w1.cell? ⟨w.heap.size, 0, none⟩ = some (.int .u8 (x.kind.toNat : Int)) := Q0.out.cellAt 0 rfl
  have hk8 := x.kind.toNat_lt
  have hk4 : x.kind.toNat % 4 < 4 := Nat.mod_lt _ (by decide)
  by_cases hk : x.kind.toNat % 4 = 3
  · have hm : ((x.kind.toNat : Int)).tmod 4 = 3 := by rw [Int.tmod_eq_emod_of_nonneg (by omega)]; omega
    have hm2 : ((x.kind.toNat : Int)) % 4 = 3 := by omega
    clear hk hk4
    generalize (x.kind.toNat : Int) = K0 at *
    go_upto_region 2 with fail
    have HSEG : Hid (∀ (D : Dev) (V : LogV) (home : List UInt8) (wz : World), SysAt Bd wb db lb y g D V home want wz → ∀ j v, (bcells want)[j]? = some v → wz.cell? ⟨wb, 23 + j, none⟩ = some v) := Lib.hid (fun D V home wz hz => hz.row.wantSeg hz.hl)
    have HWL := Lib.hid SA1.out.wl
    have SA1d : SysAt Bd wb db lb y g D V home want w1.drew := SA1.out.below (Below.drew (Below.refl _ _))
    refine wp_region_E (S := fun w' => ∀ j v, (bcells want)[j]? = some v → w'.cell? ⟨wb, 23 + j, none⟩ = some v) (E := []) (by kernel_rfl) (HSEG.out _ _ _ _ SA1d) (fun hHeld hCl => ?_)
    refine wpAnyE_take (i := 0) (v := .pointer (some ⟨wb, 0, none⟩)) rfl (by kernel_rfl) (by kernel_rfl) (by kernel_rfl) (by kernel_rfl) hCl (fun _ _ _ h => h) (Or.inl ⟨rfl, fun w hSw => (by (try dsimp only at hSw); go_simp)⟩) hHeld (fun hCl => ?_); (try simp only [List.getElem_toArray, List.getElem_cons_zero, Act.put, List.setIfInBounds_toArray, List.set_cons_zero, List.set_cons_succ])
    refine wpAnyE_take (i := 1) (v := .pointer (some ⟨wb, 0, none⟩)) rfl (by kernel_rfl) (by kernel_rfl) (by kernel_rfl) (by kernel_rfl) hCl (fun _ _ _ h => h) (Or.inl ⟨rfl, fun w hSw => (by (try dsimp only at hSw); go_simp)⟩) hHeld (fun hCl => ?_); (try simp only [List.getElem_toArray, List.getElem_cons_succ, List.getElem_cons_zero, Act.put, List.setIfInBounds_toArray, List.set_cons_zero, List.set_cons_succ])
    refine wpAnyE_take (i := 2) (v := .pointer (some ⟨wb, 23, none⟩)) rfl (by kernel_rfl) (by kernel_rfl) (by kernel_rfl) (by kernel_rfl) hCl (fun _ _ _ h => h) (Or.inl ⟨rfl, fun w hSw => (by (try dsimp only at hSw); go_simp)⟩) hHeld (fun hCl => ?_); (try simp only [List.getElem_toArray, List.getElem_cons_succ, List.getElem_cons_zero, Act.put, List.setIfInBounds_toArray, List.set_cons_zero, List.set_cons_succ])
    refine wpAnyE_take (i := 3) (v := .agg (bcells want).toArray) rfl (by kernel_rfl) (by kernel_rfl) (by kernel_rfl) (by kernel_rfl) hCl (fun _ _ _ h => h) (Or.inl ⟨rfl, fun w hSw => exec_load_seg _ _ rfl wb 23 rfl (bcells want) _ hSw Tryz.underlying64 rfl (by rw [bcells_length, HWL.out]; kernel_rfl)⟩) hHeld (fun hCl => ?_)
    (try simp only [List.getElem_toArray, List.getElem_cons_succ, List.getElem_cons_zero, Act.put, List.setIfInBounds_toArray, List.set_cons_zero, List.set_cons_succ])
    refine wpAnyE_take (i := 4) (v := .pointer (some ⟨wb, 0, none⟩)) rfl (by kernel_rfl) (by kernel_rfl) (by kernel_rfl) (by kernel_rfl) hCl (fun _ _ _ h => h) (Or.inl ⟨rfl, fun w hSw => (by (try dsimp only at hSw); go_simp)⟩) hHeld (fun hCl => ?_); (try simp only [List.getElem_toArray, List.getElem_cons_succ, List.getElem_cons_zero, Act.put, List.setIfInBounds_toArray, List.set_cons_zero, List.set_cons_succ])
    refine wpAnyE_ready (rs := [5]) (by kernel_rfl) (by simp) ?_; refine NextE.cons rfl (fun K hK => ?_) NextE.nil
    go_simp
    go_at_call 40
    (with_reducible refine (qS.out _ SA1d).mono ?_)
    rintro e w5 ⟨hcase, ho5⟩
    have R45 := Lib.hid (ho5.row Q1.out.drew (fun hm => by have := HS.out _ hm; omega))
    have OO5 := Lib.hid ((Only.ofBelow B1.out).trans (show Only (wb :: lb :: devB db y) w1 w5 from ⟨ho5.os, ho5.tape, ho5.output, ho5.size, ho5.block⟩))
    rcases hcase with ⟨rfl, D', a', q', harm, hs5, hok5⟩ | ⟨rfl, harm, D', V', hs5, hdd⟩
    · have SA5 := Lib.hid hs5
      have HARM := Lib.hid harm
      have HOK := Lib.hid hok5
      clear hs5 harm hok5 ho5
      refine hK.out _ _ (fun _ => HSEG.out _ _ _ _ SA5.out) (fun hHeld => ?_); replace hHeld := hHeld rfl; have hCl := hCl.step (j := 5) (by decide +kernel); clear hK K; (try simp only [List.getElem_toArray, List.getElem_cons_succ, List.getElem_cons_zero, Act.put, List.setIfInBounds_toArray, List.set_cons_zero, List.set_cons_succ])
      have SO4 := Lib.hid (R45.out.segSome (off := 0) (n := (bcells want).length) (by rw [bcells_length, bcells_length, HWL.out]; decide))
      have SF4 := Lib.hid (R45.out.segFree (off := 0) (n := (bcells want).length) (by rw [bcells_length, bcells_length, HWL.out]; decide))
      have SAe := Lib.hid (SA5.out.newCells (b := (w.heap.size + 1)) (by have := HS.out wb (by simp); omega) (by have := HS.out lb (by simp); omega) (fun h => by have := HS.out _ (List.mem_cons_of_mem _ (List.mem_cons_of_mem _ h)); omega) (bcells want) 0)
      have OOe := Lib.hid (OO5.out.newCells (g := (w.heap.size + 1)) (by omega) (bcells want) 0)
      have R4e := R45.out.setCells (bcells want) 0
      have eZ : setMany (bcells (List.replicate 12 0)) 0 (bcells (want)) = bcells (want) := by
        have := setMany_mid (bcells (want)) (bcells (List.replicate 12 0)) [] [] (by rw [bcells_length, bcells_length, HWL.out]; rfl)
        simpa using this
      rw [eZ] at R4e
      have R4E := Lib.hid R4e
      clear R4e eZ
      refine wpAnyE_ready (rs := [6]) (by kernel_rfl) (by simp) ?_; refine NextE.cons rfl (fun K hK => ?_) NextE.nil
      refine step_store_seg rfl _ _ _ rfl (w.heap.size + 1) 0 (bcells want) rfl rfl (by rw [bcells_length, HWL.out]; kernel_rfl) SO4.out SF4.out (bcells_one _) ?_
      refine hK.out _ _ (fun _ => HSEG.out _ _ _ _ SAe.out) (fun hHeld => ?_); replace hHeld := hHeld rfl; have hCl := hCl.step (j := 6) (by decide +kernel); clear hK K; (try simp only [List.getElem_toArray, List.getElem_cons_succ, List.getElem_cons_zero, Act.put, List.setIfInBounds_toArray, List.set_cons_zero, List.set_cons_succ])
      refine wpAnyE_ready (rs := [7]) (by kernel_rfl) (by simp) ?_; refine NextE.cons rfl (fun K hK => ?_) NextE.nil
      go_simp
      refine hK.out _ _ (fun _ => HSEG.out _ _ _ _ SAe.out) (fun hHeld => ?_); replace hHeld := hHeld rfl; have hCl := hCl.step (j := 7) (by decide +kernel); clear hK K; (try simp only [List.getElem_toArray, List.getElem_cons_succ, List.getElem_cons_zero, Act.put, List.setIfInBounds_toArray, List.set_cons_zero, List.set_cons_succ])
      refine wpAnyE_done (by kernel_rfl) ?_ _
      clear hHeld hCl
      generalize World.setCells _ _ _ _ = wE at *
      go_wp2_with fail
      have hl4 := run_loadVar_seg (P := Tryz.prog) wE (w.heap.size + 1) 0 64 (bcells (want)) _ (fun j v hv => by rw [Nat.zero_add]; exact R4E.out.cellAt j hv) Tryz.underlying64 rfl (by rw [bcells_length, HWL.out]; kernel_rfl)
      refine bodyPost_ret (v := .tuple #[.agg (bcells (want)).toArray, .int .i64 0]) (by simp [results, Tryz.results43, asAddr, Sem.run_bind, hl4]) rfl ?_
      exact ⟨.inl ⟨_, HWL.out, rfl, _, _, _, _, _, _, _, HARM.out, SAe.out, HOK.out.mono (by omega)⟩, OOe.out⟩
    · have SA5 := Lib.hid hs5
      have HARM := Lib.hid harm
      have HDD := Lib.hid hdd
      clear hs5 harm hdd ho5
      refine hK.out _ _ (fun _ => HSEG.out _ _ _ _ SA5.out) (fun hHeld => ?_); replace hHeld := hHeld rfl; have hCl := hCl.step (j := 5) (by decide +kernel); clear hK K; (try simp only [List.getElem_toArray, List.getElem_cons_succ, List.getElem_cons_zero, Act.put, List.setIfInBounds_toArray, List.set_cons_zero, List.set_cons_succ])
      have SO4 := Lib.hid (R45.out.segSome (off := 0) (n := (bcells want).length) (by rw [bcells_length, bcells_length, HWL.out]; decide))
      have SF4 := Lib.hid (R45.out.segFree (off := 0) (n := (bcells want).length) (by rw [bcells_length, bcells_length, HWL.out]; decide))
      have SAe := Lib.hid (SA5.out.newCells (b := (w.heap.size + 1)) (by have := HS.out wb (by simp); omega) (by have := HS.out lb (by simp); omega) (fun h => by have := HS.out _ (List.mem_cons_of_mem _ (List.mem_cons_of_mem _ h)); omega) (bcells want) 0)
      have OOe := Lib.hid (OO5.out.newCells (g := (w.heap.size + 1)) (by omega) (bcells want) 0)
      have R4e := R45.out.setCells (bcells want) 0
      have eZ : setMany (bcells (List.replicate 12 0)) 0 (bcells (want)) = bcells (want) := by
        have := setMany_mid (bcells (want)) (bcells (List.replicate 12 0)) [] [] (by rw [bcells_length, bcells_length, HWL.out]; rfl)
        simpa using this
      rw [eZ] at R4e
      have R4E := Lib.hid R4e
      clear R4e eZ
      refine wpAnyE_ready (rs := [6]) (by kernel_rfl) (by simp) ?_; refine NextE.cons rfl (fun K hK => ?_) NextE.nil
      refine step_store_seg rfl _ _ _ rfl (w.heap.size + 1) 0 (bcells want) rfl rfl (by rw [bcells_length, HWL.out]; kernel_rfl) SO4.out SF4.out (bcells_one _) ?_
      refine hK.out _ _ (fun _ => HSEG.out _ _ _ _ SAe.out) (fun hHeld => ?_); replace hHeld := hHeld rfl; have hCl := hCl.step (j := 6) (by decide +kernel); clear hK K; (try simp only [List.getElem_toArray, List.getElem_cons_succ, List.getElem_cons_zero, Act.put, List.setIfInBounds_toArray, List.set_cons_zero, List.set_cons_succ])
      refine wpAnyE_ready (rs := [7]) (by kernel_rfl) (by simp) ?_; refine NextE.cons rfl (fun K hK => ?_) NextE.nil
      go_simp
      refine hK.out _ _ (fun _ => HSEG.out _ _ _ _ SAe.out) (fun hHeld => ?_); replace hHeld := hHeld rfl; have hCl := hCl.step (j := 7) (by decide +kernel); clear hK K; (try simp only [List.getElem_toArray, List.getElem_cons_succ, List.getElem_cons_zero, Act.put, List.setIfInBounds_toArray, List.set_cons_zero, List.set_cons_succ])
      refine wpAnyE_done (by kernel_rfl) ?_ _
      clear hHeld hCl
      generalize World.setCells _ _ _ _ = wE at *
      go_wp2_with fail
      have hl4 := run_loadVar_seg (P := Tryz.prog) wE (w.heap.size + 1) 0 64 (bcells (want)) _ (fun j v hv => by rw [Nat.zero_add]; exact R4E.out.cellAt j hv) Tryz.underlying64 rfl (by rw [bcells_length, HWL.out]; kernel_rfl)
      refine bodyPost_ret (v := .tuple #[.agg (bcells (want)).toArray, .int .i64 61]) (by simp [results, Tryz.results43, asAddr, Sem.run_bind, hl4]) rfl ?_
      exact ⟨.inr ⟨_, HWL.out, rfl, HARM.out, _, _, _, SAe.out, HDD.out.mono (by omega)⟩, OOe.out⟩
  · have hm : ((x.kind.toNat : Int)).tmod 4 = ((x.kind.toNat % 4 : Nat) : Int) := by rw [Int.tmod_eq_emod_of_nonneg (by omega)]; omega
    have hm2 : ((x.kind.toNat : Int)) % 4 = ((x.kind.toNat % 4 : Nat) : Int) := by omega
    have hne : ((((x.kind.toNat % 4 : Nat) : Int)) == 3) = false := by rw [beq_eq_false_iff_ne]; omega
    clear hk hk4 hk8
    generalize ((x.kind.toNat % 4 : Nat) : Int) = K1 at *
    generalize (x.kind.toNat : Int) = K0 at *
    go_upto_region 3 with fail
    have c1 := Q0.out.cellAt 1 rfl
    have c2 := Q0.out.cellAt 2 rfl
    have c3 := Q0.out.cellAt 3 rfl
    have c4 := Q0.out.cellAt 4 rfl
    have c0b := Q0.out.cellAt 0 rfl
    clear c0
    have qT1 := Lib.hid (qT.out _ _ _ _ _ SA1.out HX1.out)
    have HNL := Lib.hid (hnl.out home)
    have qZ : Hid (∀ (w2 : World) (vc vr : Value), (∀ j, j < (bcells (Sys.nextT home want x)).length → (((w2.alloc (.cells #[vc, vr] 25)).alloc (.cells #[.int .u8 0, .int .u8 0, .int .u8 0, .int .u8 0, .int .u8 0, .int .u8 0, .int .u8 0, .int .u8 0, .int .u8 0, .int .u8 0, .int .u8 0, .int .u8 0] 64)).cell? ⟨(w2.heap.size + 1), 0 + j, none⟩).isSome = true) ∧ (∀ j, j < (bcells (Sys.nextT home want x)).length → ((w2.alloc (.cells #[vc, vr] 25)).alloc (.cells #[.int .u8 0, .int .u8 0, .int .u8 0, .int .u8 0, .int .u8 0, .int .u8 0, .int .u8 0, .int .u8 0, .int .u8 0, .int .u8 0, .int .u8 0, .int .u8 0] 64)).frozen? ⟨(w2.heap.size + 1), 0 + j, none⟩ = false)) := Lib.hid (fun w2 vc vr => by
      have hR := show Row ((w2.alloc (.cells #[vc, vr] 25)).alloc (.cells #[.int .u8 0, .int .u8 0, .int .u8 0, .int .u8 0, .int .u8 0, .int .u8 0, .int .u8 0, .int .u8 0, .int .u8 0, .int .u8 0, .int .u8 0, .int .u8 0] 64)) (w2.heap.size + 1) 64 (bcells (List.replicate 12 0)) from Row.new _ _ [.int .u8 0, .int .u8 0, .int .u8 0, .int .u8 0, .int .u8 0, .int .u8 0, .int .u8 0, .int .u8 0, .int .u8 0, .int .u8 0, .int .u8 0, .int .u8 0] (by simp)
      exact ⟨hR.segSome (by rw [bcells_length, bcells_length, HNL.out]; decide), hR.segFree (by rw [bcells_length, bcells_length, HNL.out]; decide)⟩)
    go_upto_region 4 with (first | (go_at_call 39; (with_reducible refine qT1.out.mono ?_); rintro e w2 ⟨vc, vr, vd, rfl, hc2, hi2, hd2, hb2⟩; obtain ⟨acx, ccx, rfl⟩ := OwnC.slice hc2; obtain ⟨arx, crx, rfl⟩ := OwnInts.slice hi2; obtain ⟨adx, cdx, rfl⟩ := OwnC.slice hd2; have SZ := Lib.hid (qZ.out w2 (.slice acx (Sys.txnT g x).ch.length ccx) (.slice arx (Sys.txnT g x).rv.length crx))) | refine wpList_store_seg rfl _ _ _ rfl (w2.heap.size + 1) 0 (bcells (Sys.nextT home want x)) rfl rfl (by rw [bcells_length, HNL.out]; kernel_rfl) SZ.out.1 SZ.out.2 (bcells_one _) ?_ | fail "none")
    have RZ : Row ((w2.alloc (.cells #[.slice acx (Sys.txnT g x).ch.length ccx, .slice arx (Sys.txnT g x).rv.length crx] 25)).alloc (.cells #[.int .u8 0, .int .u8 0, .int .u8 0, .int .u8 0, .int .u8 0, .int .u8 0, .int .u8 0, .int .u8 0, .int .u8 0, .int .u8 0, .int .u8 0, .int .u8 0] 64)) (w2.heap.size + 1) 64 (bcells (List.replicate 12 0)) := Row.new _ _ [.int .u8 0, .int .u8 0, .int .u8 0, .int .u8 0, .int .u8 0, .int .u8 0, .int .u8 0, .int .u8 0, .int .u8 0, .int .u8 0, .int .u8 0, .int .u8 0] (by simp)
    have R6 := Lib.hid (((Row.new w2 25 [.slice acx (Sys.txnT g x).ch.length ccx, .slice arx (Sys.txnT g x).rv.length crx] rfl).alloc (.cells #[.int .u8 0, .int .u8 0, .int .u8 0, .int .u8 0, .int .u8 0, .int .u8 0, .int .u8 0, .int .u8 0, .int .u8 0, .int .u8 0, .int .u8 0, .int .u8 0] 64)).setCellsOther (g := (w2.heap.size + 1)) (by omega) (bcells (Sys.nextT home want x)) 0)
    have R8e := RZ.setCells (bcells (Sys.nextT home want x)) 0
    have eZ : setMany (bcells (List.replicate 12 0)) 0 (bcells (Sys.nextT home want x)) = bcells (Sys.nextT home want x) := by
      have := setMany_mid (bcells (Sys.nextT home want x)) (bcells (List.replicate 12 0)) [] [] (by rw [bcells_length, bcells_length, HNL.out]; rfl)
      simpa using this
    rw [eZ] at R8e
    have R8 := Lib.hid R8e
    have hlo := Q1.out.lt
    have hls := hb2.size
    have SA3 := Lib.hid (((SA1.out.below hb2).below (below_box (below_box (Below.refl _ _) (.cells #[.slice acx (Sys.txnT g x).ch.length ccx, .slice arx (Sys.txnT g x).rv.length crx] 25)) (.cells #[.int .u8 0, .int .u8 0, .int .u8 0, .int .u8 0, .int .u8 0, .int .u8 0, .int .u8 0, .int .u8 0, .int .u8 0, .int .u8 0, .int .u8 0, .int .u8 0] 64))).newCells (b := (w2.heap.size + 1)) (by have := HS.out wb (by simp); omega) (by have := HS.out lb (by simp); omega) (fun h => by have := HS.out _ (List.mem_cons_of_mem _ (List.mem_cons_of_mem _ h)); omega) (bcells (Sys.nextT home want x)) 0)
    have R43 := Lib.hid (((((Q1.out.below hb2 Q1.out.lt).alloc (.cells #[.slice acx (Sys.txnT g x).ch.length ccx, .slice arx (Sys.txnT g x).rv.length crx] 25)).alloc (.cells #[.int .u8 0, .int .u8 0, .int .u8 0, .int .u8 0, .int .u8 0, .int .u8 0, .int .u8 0, .int .u8 0, .int .u8 0, .int .u8 0, .int .u8 0, .int .u8 0] 64)).setCellsOther (g := (w2.heap.size + 1)) (by omega) (bcells (Sys.nextT home want x)) 0))
    have Q03 := Lib.hid (((((Q0.out.below hb2 Q0.out.lt).alloc (.cells #[.slice acx (Sys.txnT g x).ch.length ccx, .slice arx (Sys.txnT g x).rv.length crx] 25)).alloc (.cells #[.int .u8 0, .int .u8 0, .int .u8 0, .int .u8 0, .int .u8 0, .int .u8 0, .int .u8 0, .int .u8 0, .int .u8 0, .int .u8 0, .int .u8 0, .int .u8 0] 64)).setCellsOther (g := (w2.heap.size + 1)) (by omega) (bcells (Sys.nextT home want x)) 0))
    have OO3 := Lib.hid ((Only.ofBelow (S := wb :: lb :: devB db y) (below_box (below_box (below_next B1.out hb2) (.cells #[.slice acx (Sys.txnT g x).ch.length ccx, .slice arx (Sys.txnT g x).rv.length crx] 25)) (.cells #[.int .u8 0, .int .u8 0, .int .u8 0, .int .u8 0, .int .u8 0, .int .u8 0, .int .u8 0, .int .u8 0, .int .u8 0, .int .u8 0, .int .u8 0, .int .u8 0] 64))).newCells (g := (w2.heap.size + 1)) (by omega) (bcells (Sys.nextT home want x)) 0)
    have HC3 : Hid (OwnC w1.heap.size (((w2.alloc (.cells #[.slice acx (Sys.txnT g x).ch.length ccx, .slice arx (Sys.txnT g x).rv.length crx] 25)).alloc (.cells #[.int .u8 0, .int .u8 0, .int .u8 0, .int .u8 0, .int .u8 0, .int .u8 0, .int .u8 0, .int .u8 0, .int .u8 0, .int .u8 0, .int .u8 0, .int .u8 0] 64)).setCells (w2.heap.size + 1) 0 (bcells (Sys.nextT home want x))) (.slice acx (Sys.txnT g x).ch.length ccx) (Sys.txnT g x).ch) := Lib.hid (own_setCellsR (by decide) _ _ RZ (own_new1 (own_new1 hc2 _) _))
    have HI3 : Hid (OwnInts w1.heap.size (((w2.alloc (.cells #[.slice acx (Sys.txnT g x).ch.length ccx, .slice arx (Sys.txnT g x).rv.length crx] 25)).alloc (.cells #[.int .u8 0, .int .u8 0, .int .u8 0, .int .u8 0, .int .u8 0, .int .u8 0, .int .u8 0, .int .u8 0, .int .u8 0, .int .u8 0, .int .u8 0, .int .u8 0] 64)).setCells (w2.heap.size + 1) 0 (bcells (Sys.nextT home want x))) (.slice arx (Sys.txnT g x).rv.length crx) (Sys.txnT g x).rv) := Lib.hid (own_setCellsR (by decide) _ _ RZ (own_new1 (own_new1 hi2 _) _))
    have HD3 : Hid (OwnC w1.heap.size (((w2.alloc (.cells #[.slice acx (Sys.txnT g x).ch.length ccx, .slice arx (Sys.txnT g x).rv.length crx] 25)).alloc (.cells #[.int .u8 0, .int .u8 0, .int .u8 0, .int .u8 0, .int .u8 0, .int .u8 0, .int .u8 0, .int .u8 0, .int .u8 0, .int .u8 0, .int .u8 0, .int .u8 0] 64)).setCells (w2.heap.size + 1) 0 (bcells (Sys.nextT home want x))) (.slice adx (Sys.dataT g x).length cdx) (Sys.dataT g x)) := Lib.hid (own_setCellsR (by decide) _ _ RZ (own_new1 (own_new1 hd2 _) _))
    have HX3 := Lib.hid ((((HX1.out.below hb2).below (below_box (below_box (Below.refl _ _) (.cells #[.slice acx (Sys.txnT g x).ch.length ccx, .slice arx (Sys.txnT g x).rv.length crx] 25)) (.cells #[.int .u8 0, .int .u8 0, .int .u8 0, .int .u8 0, .int .u8 0, .int .u8 0, .int .u8 0, .int .u8 0, .int .u8 0, .int .u8 0, .int .u8 0, .int .u8 0] 64)))))
    have HB8 : Hid (w.heap.size + 1 < w2.heap.size ∧ ∀ k ∈ wb :: lb :: devB db y, k < w2.heap.size) := Lib.hid ⟨by omega, fun k hk => by have := HS.out k hk; omega⟩
    have HBW : Hid (Below w2.heap.size w2 (((w2.alloc (.cells #[.slice acx (Sys.txnT g x).ch.length ccx, .slice arx (Sys.txnT g x).rv.length crx] 25)).alloc (.cells #[.int .u8 0, .int .u8 0, .int .u8 0, .int .u8 0, .int .u8 0, .int .u8 0, .int .u8 0, .int .u8 0, .int .u8 0, .int .u8 0, .int .u8 0, .int .u8 0] 64)).setCells (w2.heap.size + 1) 0 (bcells (Sys.nextT home want x)))) := Lib.hid ((below_box (below_box (Below.refl _ _) (.cells #[.slice acx (Sys.txnT g x).ch.length ccx, .slice arx (Sys.txnT g x).rv.length crx] 25)) (.cells #[.int .u8 0, .int .u8 0, .int .u8 0, .int .u8 0, .int .u8 0, .int .u8 0, .int .u8 0, .int .u8 0, .int .u8 0, .int .u8 0, .int .u8 0, .int .u8 0] 64)).trans ((Only.setCells (S := [(w2.heap.size + 1)]) (by simp) (bcells (Sys.nextT home want x)) 0 _).below (by simp; omega) (by intro k hk; have := List.mem_singleton.1 hk; omega)))
    clear RZ R8e eZ hc2 hi2 hd2 hb2 qT1 c0b c1 c2 c3 c4 SZ hlo hls
    generalize World.setCells _ _ _ _ = w3 at *
    have k10 := SA3.out.row.cellAt 10 rfl
    have k0 := R6.out.cellAt 0 rfl
    have k1 := R6.out.cellAt 1 rfl
    have KEEP : Hid (∀ (D : Dev) (V : LogV) (home want : List UInt8) (wz : World), SysAt Bd wb db lb y g D V home want wz → Row wz w2.heap.size 25 [.slice acx (Sys.txnT g x).ch.length ccx, .slice arx (Sys.txnT g x).rv.length crx] → wz.cell? ⟨wb, 10, none⟩ = some (.pointer (some ⟨lb, 0, none⟩)) ∧ wz.cell? ⟨w2.heap.size, 0, none⟩ = some (.slice acx (Sys.txnT g x).ch.length ccx) ∧ wz.cell? ⟨w2.heap.size, 1, none⟩ = some (.slice arx (Sys.txnT g x).rv.length crx)) := Lib.hid (fun D V home want wz h1 h2 => ⟨h1.row.cellAt 10 rfl, h2.cellAt 0 rfl, h2.cellAt 1 rfl⟩)
    have SA3d : Hid (SysAt Bd wb db lb y g D V home want w3.drew) := Lib.hid (SA3.out.below (Below.drew (Below.refl _ _)))
    by_cases hfits : V.used + Jr.size (Sys.txnT g x) ≤ Jr.plc g
    · have qC3 := Lib.hid (qC.out _ _ _ _ _ _ _ _ _ _ w3.drew _ _ _ SA3d.out HO.out (by have := HK.out; omega) HC3.out HI3.out HD3.out hfits)
      clear hfits
      go_region_held3 (fun w' => w'.cell? ⟨wb, 10, none⟩ = some (.pointer (some ⟨lb, 0, none⟩)) ∧ w'.cell? ⟨w2.heap.size, 0, none⟩ = some (.slice acx (Sys.txnT g x).ch.length ccx) ∧ w'.cell? ⟨w2.heap.size, 1, none⟩ = some (.slice arx (Sys.txnT g x).rv.length crx))
        (first | exact ⟨k10, k0, k1⟩ | exact KEEP.out _ _ _ _ _ SA5 R65)
        (first | (go_at_call 19; (with_reducible refine qC3.out.mono ?_); rintro e w5 ⟨E, D', V', ⟨rfl, hd5, hl5, ho5⟩, hcase⟩; have SA5 : SysAt Bd wb db lb y g D' V' home want w5 := ⟨ho5.row SA3d.out.row (by intro k; rcases List.mem_cons.1 k with k | k; exact SA3.out.ne.1 k; exact SA3.out.ne.2.1 k), SA3.out.hl, SA3.out.wl, hd5, hl5, SA3.out.ne⟩; have R65 := ho5.row (Row.drew R6.out) (fun hm => by have := HB8.out.2 _ (List.mem_cons_of_mem _ hm); omega)) | fail "none")
      have SA6 := Lib.hid SA5
      have R86 := Lib.hid (ho5.row (Row.drew R8.out) (fun hm => by have := HB8.out.2 _ (List.mem_cons_of_mem _ hm); omega))
      have R46 := Lib.hid (ho5.row (Row.drew R43.out) (fun hm => by have := HS.out _ (List.mem_cons_of_mem _ hm); omega))
      have OO6 := Lib.hid (OO3.out.trans ((show Only (lb :: devB db y) w3 w5 from ⟨ho5.os, ho5.tape, ho5.output, ho5.size, ho5.block⟩).sub (fun k hk => List.mem_cons_of_mem _ hk)))
      clear SA5 R65 ho5 hd5 hl5 k10 k0 k1
      rcases hcase with ⟨rfl, harm, rfl, hkn, hok⟩ | ⟨rfl, harm, hdd⟩
      · have HARM := Lib.hid harm
        have HOK := Lib.hid hok
        clear harm hok hkn
        have SOw := Lib.hid (SA6.out.row.segSome (off := 23) (n := (bcells (Sys.nextT home want x)).length) (by rw [sysC_len SA6.out.hl SA6.out.wl, bcells_length, HNL.out]; omega))
        have SFw := Lib.hid (SA6.out.row.segFree (off := 23) (n := (bcells (Sys.nextT home want x)).length) (by rw [sysC_len SA6.out.hl SA6.out.wl, bcells_length, HNL.out]; omega))
        have SG8w : Hid (∀ j v, (bcells (Sys.nextT home want x))[j]? = some v → w5.cell? ⟨(w2.heap.size + 1), 0 + j, none⟩ = some v) := Lib.hid (fun j v hv => by rw [Nat.zero_add]; exact R86.out.cellAt j hv)
        have SA2 := Lib.hid (SA6.out.setWant (Sys.nextT home want x) HNL.out)
        have OO2 := Lib.hid (OO6.out.trans (Only.setCells (S := wb :: lb :: devB db y) (g := wb) List.mem_cons_self (bcells (Sys.nextT home want x)) 23 w5))
        have R42 := Lib.hid (R46.out.setCellsOther (g := wb) (by have := HS.out wb (by simp); omega) (bcells (Sys.nextT home want x)) 23)
        have R82 := Lib.hid (R86.out.setCellsOther (g := wb) (by have := HB8.out.2 wb (by simp); omega) (bcells (Sys.nextT home want x)) 23)
        go_upto_region 13 with (first | refine wpList_load_seg rfl _ _ rfl (w2.heap.size + 1) 0 rfl (bcells (Sys.nextT home want x)) _ SG8w.out Tryz.underlying64 rfl (by rw [bcells_length, HNL.out]; kernel_rfl) ?_ | refine wpList_store_seg rfl _ _ _ rfl wb 23 (bcells (Sys.nextT home want x)) rfl rfl (by rw [bcells_length, HNL.out]; kernel_rfl) SOw.out SFw.out (bcells_one _) ?_ | fail "none")
        generalize World.setCells _ _ _ _ = wT at *
        clear SOw SFw SG8w
        have SO4 := Lib.hid (R42.out.segSome (off := 0) (n := (bcells (Sys.nextT home want x)).length) (by rw [bcells_length, bcells_length, HNL.out]; decide))
        have SF4 := Lib.hid (R42.out.segFree (off := 0) (n := (bcells (Sys.nextT home want x)).length) (by rw [bcells_length, bcells_length, HNL.out]; decide))
        have SG8 : Hid (∀ j v, (bcells (Sys.nextT home want x))[j]? = some v → wT.cell? ⟨(w2.heap.size + 1), 0 + j, none⟩ = some v) := Lib.hid (fun j v hv => by rw [Nat.zero_add]; exact R82.out.cellAt j hv)
        have SAe := Lib.hid (SA2.out.newCells (b := (w.heap.size + 1)) (by have := HS.out wb (by simp); omega) (by have := HS.out lb (by simp); omega) (fun h => by have := HS.out _ (List.mem_cons_of_mem _ (List.mem_cons_of_mem _ h)); omega) (bcells (Sys.nextT home want x)) 0)
        have OOe := Lib.hid (OO2.out.newCells (g := (w.heap.size + 1)) (by omega) (bcells (Sys.nextT home want x)) 0)
        have R4e := R42.out.setCells (bcells (Sys.nextT home want x)) 0
        have eZ : setMany (bcells (List.replicate 12 0)) 0 (bcells (Sys.nextT home want x)) = bcells (Sys.nextT home want x) := by
          have := setMany_mid (bcells (Sys.nextT home want x)) (bcells (List.replicate 12 0)) [] [] (by rw [bcells_length, bcells_length, HNL.out]; rfl)
          simpa using this
        rw [eZ] at R4e
        have R4E := Lib.hid R4e
        clear R4e eZ
        go_wp2_with (first | refine wpList_load_seg rfl _ _ rfl (w2.heap.size + 1) 0 rfl (bcells (Sys.nextT home want x)) _ SG8.out Tryz.underlying64 rfl (by rw [bcells_length, HNL.out]; kernel_rfl) ?_ | refine wpList_store_seg rfl _ _ _ rfl (w.heap.size + 1) 0 (bcells (Sys.nextT home want x)) rfl rfl (by rw [bcells_length, HNL.out]; kernel_rfl) SO4.out SF4.out (bcells_one _) ?_ | fail "none")
        generalize World.setCells _ _ _ _ = wE at *
        have hl4 := run_loadVar_seg (P := Tryz.prog) wE (w.heap.size + 1) 0 64 (bcells (Sys.nextT home want x)) _ (fun j v hv => by rw [Nat.zero_add]; exact R4E.out.cellAt j hv) Tryz.underlying64 rfl (by rw [bcells_length, HNL.out]; kernel_rfl)
        refine bodyPost_ret (v := .tuple #[.agg (bcells (Sys.nextT home want x)).toArray, .int .i64 0]) (by simp [results, Tryz.results43, asAddr, Sem.run_bind, hl4]) rfl ?_
        exact ⟨.inl ⟨_, HNL.out, rfl, _, _, _, _, _, _, _, HARM.out, SAe.out, HOK.out.mono (by omega)⟩, OOe.out⟩
      · have HARM := Lib.hid harm
        have HDD := Lib.hid hdd
        clear harm hdd
        have SO4 := Lib.hid (R46.out.segSome (off := 0) (n := (bcells (Sys.nextT home want x)).length) (by rw [bcells_length, bcells_length, HNL.out]; decide))
        have SF4 := Lib.hid (R46.out.segFree (off := 0) (n := (bcells (Sys.nextT home want x)).length) (by rw [bcells_length, bcells_length, HNL.out]; decide))
        have SG8 : Hid (∀ j v, (bcells (Sys.nextT home want x))[j]? = some v → w5.cell? ⟨(w2.heap.size + 1), 0 + j, none⟩ = some v) := Lib.hid (fun j v hv => by rw [Nat.zero_add]; exact R86.out.cellAt j hv)
        have SAe := Lib.hid (SA6.out.newCells (b := (w.heap.size + 1)) (by have := HS.out wb (by simp); omega) (by have := HS.out lb (by simp); omega) (fun h => by have := HS.out _ (List.mem_cons_of_mem _ (List.mem_cons_of_mem _ h)); omega) (bcells (Sys.nextT home want x)) 0)
        have OOe := Lib.hid (OO6.out.newCells (g := (w.heap.size + 1)) (by omega) (bcells (Sys.nextT home want x)) 0)
        have R4e := R46.out.setCells (bcells (Sys.nextT home want x)) 0
        have eZ : setMany (bcells (List.replicate 12 0)) 0 (bcells (Sys.nextT home want x)) = bcells (Sys.nextT home want x) := by
          have := setMany_mid (bcells (Sys.nextT home want x)) (bcells (List.replicate 12 0)) [] [] (by rw [bcells_length, bcells_length, HNL.out]; rfl)
          simpa using this
        rw [eZ] at R4e
        have R4E := Lib.hid R4e
        clear R4e eZ
        go_wp2_with (first | refine wpList_load_seg rfl _ _ rfl (w2.heap.size + 1) 0 rfl (bcells (Sys.nextT home want x)) _ SG8.out Tryz.underlying64 rfl (by rw [bcells_length, HNL.out]; kernel_rfl) ?_ | refine wpList_store_seg rfl _ _ _ rfl (w.heap.size + 1) 0 (bcells (Sys.nextT home want x)) rfl rfl (by rw [bcells_length, HNL.out]; kernel_rfl) SO4.out SF4.out (bcells_one _) ?_ | fail "none")
        generalize World.setCells _ _ _ _ = wE at *
        have hl4 := run_loadVar_seg (P := Tryz.prog) wE (w.heap.size + 1) 0 64 (bcells (Sys.nextT home want x)) _ (fun j v hv => by rw [Nat.zero_add]; exact R4E.out.cellAt j hv) Tryz.underlying64 rfl (by rw [bcells_length, HNL.out]; kernel_rfl)
        refine bodyPost_ret (v := .tuple #[.agg (bcells (Sys.nextT home want x)).toArray, .int .i64 61]) (by simp [results, Tryz.results43, asAddr, Sem.run_bind, hl4]) rfl ?_
        exact ⟨.inr ⟨_, HNL.out, rfl, HARM.out, _, _, _, SAe.out, HDD.out.mono (by omega)⟩, OOe.out⟩
    · have qX3 := Lib.hid (qX.out hfits _ _ _ w3.drew _ _ _ SA3d.out HC3.out HI3.out HD3.out)
      clear hfits
      go_region_held3 (fun w' => w'.cell? ⟨wb, 10, none⟩ = some (.pointer (some ⟨lb, 0, none⟩)) ∧ w'.cell? ⟨w2.heap.size, 0, none⟩ = some (.slice acx (Sys.txnT g x).ch.length ccx) ∧ w'.cell? ⟨w2.heap.size, 1, none⟩ = some (.slice arx (Sys.txnT g x).rv.length crx))
        (first | exact ⟨k10, k0, k1⟩ | exact KEEP.out _ _ _ _ _ SA5 R65)
        (first | (go_at_call 19; (with_reducible refine qX3.out.mono ?_); rintro e w5 ⟨rfl, hb5x⟩; have hb5 : Below w3.heap.size w3 w5 := ⟨hb5x.os, hb5x.tape, hb5x.output, hb5x.size, hb5x.block⟩; have SA5 := SA3.out.below hb5; have R65 := R6.out.below hb5 R6.out.lt) | fail "none")
      have SA6 := Lib.hid SA5
      have R66 := Lib.hid R65
      have R86 := Lib.hid (R8.out.below hb5 R8.out.lt)
      have R46 := Lib.hid (R43.out.below hb5 R43.out.lt)
      have Q06 := Lib.hid (Q03.out.below hb5 Q03.out.lt)
      have OO6 := Lib.hid (OO3.out.trans (Only.ofBelow hb5))
      clear SA5 R65 hb5 hb5x k10 k0 k1 qX3
      go_upto_region 7 with (first | (go_at_call 40; (with_reducible refine (qS.out _ SA6.out).mono ?_); rintro e w7 ⟨hcase0, ho7⟩; obtain ⟨E, rfl, hcase⟩ := settle_E hcase0) | fail "none")
      have OO7 := Lib.hid (OO6.out.trans ho7)
      have R87 := Lib.hid (ho7.row R86.out (fun hm => by have := HB8.out.2 _ hm; omega))
      have R67 := Lib.hid (ho7.row R66.out (fun hm => by have := HB8.out.2 _ hm; omega))
      have R47 := Lib.hid (ho7.row R46.out (fun hm => by have := HS.out _ hm; omega))
      have Q07 := Lib.hid (ho7.row Q06.out (fun hm => by have := HS.out _ hm; omega))
      have HX7 := Lib.hid (HX0.out _ OO7.out)
      rcases hcase with ⟨rfl, D', a', q', harm, hs7, hok7⟩ | ⟨rfl, harm, D', V', hs7, hdd⟩
      · have SA7 := Lib.hid hs7
        have HARM7 := Lib.hid harm
        have HOK7 := Lib.hid hok7
        clear hs7 harm hok7 ho7
        have HNL2 := Lib.hid (hnl.out want)
        have c0 := Q07.out.cellAt 0 rfl
        have c1 := Q07.out.cellAt 1 rfl
        have c2 := Q07.out.cellAt 2 rfl
        have c3 := Q07.out.cellAt 3 rfl
        have c4 := Q07.out.cellAt 4 rfl
        have qT2 := Lib.hid (qT.out _ _ _ _ _ SA7.out HX7.out)
        have L7 := Lib.hid (show w2.heap.size + 1 < w7.heap.size from R87.out.lt)
        go_upto_region 10 with (first | (go_at_call 39; (with_reducible refine qT2.out.mono ?_); rintro e w8 ⟨vc, vr, vd, rfl, hc8, hi8, hd8, hb8⟩; obtain ⟨acy, ccy, rfl⟩ := OwnC.slice hc8; obtain ⟨ary, cry, rfl⟩ := OwnInts.slice hi8; obtain ⟨ady, cdy, rfl⟩ := OwnC.slice hd8; have R68 := R67.out.below hb8 R67.out.lt; have R88 := R87.out.below hb8 R87.out.lt; have k0 := R68.cellAt 0 rfl; have k1 := R68.cellAt 1 rfl; have f0 := R68.free 0 (by simp); have f1 := R68.free 1 (by simp); have R89z := (R88.other (a := ⟨w2.heap.size, 0, none⟩) (by dsimp only; omega) (.slice acy (Sys.txnT g x).ch.length ccy)).other (a := ⟨w2.heap.size, 1, none⟩) (by dsimp only; omega) (.slice ary (Sys.txnT g x).rv.length cry); have SO9 := Lib.hid (R89z.segSome (off := 0) (n := (bcells (Sys.nextT want want x)).length) (by rw [bcells_length, bcells_length, HNL.out, HNL2.out]; decide)); have SF9 := Lib.hid (R89z.segFree (off := 0) (n := (bcells (Sys.nextT want want x)).length) (by rw [bcells_length, bcells_length, HNL.out, HNL2.out]; decide))) | refine wpList_store_seg rfl _ _ _ rfl (w2.heap.size + 1) 0 (bcells (Sys.nextT want want x)) rfl rfl (by rw [bcells_length, HNL2.out]; kernel_rfl) SO9.out SF9.out (bcells_one _) ?_ | fail "none")
        have eY : setMany (bcells (Sys.nextT home want x)) 0 (bcells (Sys.nextT want want x)) = bcells (Sys.nextT want want x) := by
          have := setMany_mid (bcells (Sys.nextT want want x)) (bcells (Sys.nextT home want x)) [] [] (by rw [bcells_length, bcells_length, HNL.out, HNL2.out])
          simpa using this
        have R89e := R89z.setCells (bcells (Sys.nextT want want x)) 0
        rw [eY] at R89e
        have R89 := Lib.hid R89e
        have R69 := Lib.hid (((R68.set 0 (.slice acy (Sys.txnT g x).ch.length ccy)).set 1 (.slice ary (Sys.txnT g x).rv.length cry)).setCellsOther (g := (w2.heap.size + 1)) (by omega) (bcells (Sys.nextT want want x)) 0)
        have hlo7 := L7.out
        have hls8 := hb8.size
        have hOn : Only (wb :: lb :: devB db y) w (((w8.setCell ⟨w2.heap.size, 0, none⟩ (.slice acy (Sys.txnT g x).ch.length ccy)).setCell ⟨w2.heap.size, 1, none⟩ (.slice ary (Sys.txnT g x).rv.length cry)).setCells (w2.heap.size + 1) 0 (bcells (Sys.nextT want want x))) := by
          have h1 := OO7.out.trans (Only.ofBelow (S := wb :: lb :: devB db y) hb8)
          have hw2 : w.heap.size ≤ w2.heap.size := by have := HB8.out.1; omega
          have h2 := h1.newCells (g := w2.heap.size) hw2 [.slice acy (Sys.txnT g x).ch.length ccy, .slice ary (Sys.txnT g x).rv.length cry] 0
          exact h2.newCells (g := (w2.heap.size + 1)) (by omega) (bcells (Sys.nextT want want x)) 0
        have OO9 := Lib.hid hOn
        have SA9x := Lib.hid (((SA7.out.below hb8).newCells (b := w2.heap.size) (by have := HB8.out.2 wb (by simp); omega) (by have := HB8.out.2 lb (by simp); omega) (fun h => by have := HB8.out.2 _ (List.mem_cons_of_mem _ (List.mem_cons_of_mem _ h)); omega) [.slice acy (Sys.txnT g x).ch.length ccy, .slice ary (Sys.txnT g x).rv.length cry] 0).newCells (b := (w2.heap.size + 1)) (by have := HB8.out.2 wb (by simp); omega) (by have := HB8.out.2 lb (by simp); omega) (fun h => by have := HB8.out.2 _ (List.mem_cons_of_mem _ (List.mem_cons_of_mem _ h)); omega) (bcells (Sys.nextT want want x)) 0)
        have SA9 : Hid (SysAt Bd wb db lb y g D' ⟨V.place, 0, V.seq, 0⟩ want want (((w8.setCell ⟨w2.heap.size, 0, none⟩ (.slice acy (Sys.txnT g x).ch.length ccy)).setCell ⟨w2.heap.size, 1, none⟩ (.slice ary (Sys.txnT g x).rv.length cry)).setCells (w2.heap.size + 1) 0 (bcells (Sys.nextT want want x)))) := SA9x
        clear SA9x
        have R49 := Lib.hid ((((R47.out.below hb8 R47.out.lt).other (a := ⟨w2.heap.size, 0, none⟩) (by have := HB8.out.1; dsimp only; omega) (.slice acy (Sys.txnT g x).ch.length ccy)).other (a := ⟨w2.heap.size, 1, none⟩) (by have := HB8.out.1; dsimp only; omega) (.slice ary (Sys.txnT g x).rv.length cry)).setCellsOther (g := (w2.heap.size + 1)) (by have := HB8.out.1; omega) (bcells (Sys.nextT want want x)) 0)
        have HC9 : Hid (OwnC w7.heap.size (((w8.setCell ⟨w2.heap.size, 0, none⟩ (.slice acy (Sys.txnT g x).ch.length ccy)).setCell ⟨w2.heap.size, 1, none⟩ (.slice ary (Sys.txnT g x).rv.length cry)).setCells (w2.heap.size + 1) 0 (bcells (Sys.nextT want want x))) (.slice acy (Sys.txnT g x).ch.length ccy) (Sys.txnT g x).ch) := Lib.hid (own_setCellsR (by decide) _ _ R89z (own_setR (a := ⟨w2.heap.size, 1, none⟩) (R68.set 0 (.slice acy (Sys.txnT g x).ch.length ccy)) (own_setR (a := ⟨w2.heap.size, 0, none⟩) R68 hc8 (by decide)) (by decide)))
        have HI9 : Hid (OwnInts w7.heap.size (((w8.setCell ⟨w2.heap.size, 0, none⟩ (.slice acy (Sys.txnT g x).ch.length ccy)).setCell ⟨w2.heap.size, 1, none⟩ (.slice ary (Sys.txnT g x).rv.length cry)).setCells (w2.heap.size + 1) 0 (bcells (Sys.nextT want want x))) (.slice ary (Sys.txnT g x).rv.length cry) (Sys.txnT g x).rv) := Lib.hid (own_setCellsR (by decide) _ _ R89z (own_setR (a := ⟨w2.heap.size, 1, none⟩) (R68.set 0 (.slice acy (Sys.txnT g x).ch.length ccy)) (own_setR (a := ⟨w2.heap.size, 0, none⟩) R68 hi8 (by decide)) (by decide)))
        have HD9 : Hid (OwnC w7.heap.size (((w8.setCell ⟨w2.heap.size, 0, none⟩ (.slice acy (Sys.txnT g x).ch.length ccy)).setCell ⟨w2.heap.size, 1, none⟩ (.slice ary (Sys.txnT g x).rv.length cry)).setCells (w2.heap.size + 1) 0 (bcells (Sys.nextT want want x))) (.slice ady (Sys.dataT g x).length cdy) (Sys.dataT g x)) := Lib.hid (own_setCellsR (by decide) _ _ R89z (own_setR (a := ⟨w2.heap.size, 1, none⟩) (R68.set 0 (.slice acy (Sys.txnT g x).ch.length ccy)) (own_setR (a := ⟨w2.heap.size, 0, none⟩) R68 hd8 (by decide)) (by decide)))
        clear R68 R88 R89z R89e SO9 SF9 eY hc8 hi8 hd8 hb8 k0 k1 f0 f1 c0 c1 c2 c3 c4 hlo7 hls8 hOn qT2
        generalize World.setCells _ _ _ _ = w9 at *
        have k10 := SA9.out.row.cellAt 10 rfl
        have k0 := R69.out.cellAt 0 rfl
        have k1 := R69.out.cellAt 1 rfl
        have KEEP2 : Hid (∀ (D : Dev) (V : LogV) (home want : List UInt8) (wz : World), SysAt Bd wb db lb y g D V home want wz → Row wz w2.heap.size 25 [.slice acy (Sys.txnT g x).ch.length ccy, .slice ary (Sys.txnT g x).rv.length cry] → wz.cell? ⟨wb, 10, none⟩ = some (.pointer (some ⟨lb, 0, none⟩)) ∧ wz.cell? ⟨w2.heap.size, 0, none⟩ = some (.slice acy (Sys.txnT g x).ch.length ccy) ∧ wz.cell? ⟨w2.heap.size, 1, none⟩ = some (.slice ary (Sys.txnT g x).rv.length cry)) := Lib.hid (fun D V home want wz h1 h2 => ⟨h1.row.cellAt 10 rfl, h2.cellAt 0 rfl, h2.cellAt 1 rfl⟩)
        have SA9d : Hid (SysAt Bd wb db lb y g D' ⟨V.place, 0, V.seq, 0⟩ want want w9.drew) := Lib.hid (SA9.out.below (Below.drew (Below.refl _ _)))
        have qC9 := Lib.hid (qC.out _ _ _ _ _ _ _ _ _ _ w9.drew _ _ _ SA9d.out HOK7.out (by have := HK.out; omega) HC9.out HI9.out HD9.out hfit.out)
        clear KEEP
        clear R46 R86 SA6 OO6 R66 Q06 R47 R87 R67 Q07
        go_region_held3 (fun w' => w'.cell? ⟨wb, 10, none⟩ = some (.pointer (some ⟨lb, 0, none⟩)) ∧ w'.cell? ⟨w2.heap.size, 0, none⟩ = some (.slice acy (Sys.txnT g x).ch.length ccy) ∧ w'.cell? ⟨w2.heap.size, 1, none⟩ = some (.slice ary (Sys.txnT g x).rv.length cry))
          (first | exact ⟨k10, k0, k1⟩ | exact KEEP2.out _ _ _ _ _ SA5 R65)
          (first | (go_at_call 19; (with_reducible refine qC9.out.mono ?_); rintro e w5 ⟨E, D', V', ⟨rfl, hd5, hl5, ho5⟩, hcase⟩; have SA5 : SysAt Bd wb db lb y g D' V' want want w5 := ⟨ho5.row SA9d.out.row (by intro k; rcases List.mem_cons.1 k with k | k; exact SA9.out.ne.1 k; exact SA9.out.ne.2.1 k), SA9.out.hl, SA9.out.wl, hd5, hl5, SA9.out.ne⟩; have R65 := ho5.row (Row.drew R69.out) (fun hm => by have := HB8.out.2 _ (List.mem_cons_of_mem _ hm); omega)) | fail "none")
        have SA6 := Lib.hid SA5
        have R86 := Lib.hid (ho5.row (Row.drew R89.out) (fun hm => by have := HB8.out.2 _ (List.mem_cons_of_mem _ hm); omega))
        have R46 := Lib.hid (ho5.row (Row.drew R49.out) (fun hm => by have := HS.out _ (List.mem_cons_of_mem _ hm); omega))
        have OO6 := Lib.hid (OO9.out.trans ((show Only (lb :: devB db y) w9 w5 from ⟨ho5.os, ho5.tape, ho5.output, ho5.size, ho5.block⟩).sub (fun k hk => List.mem_cons_of_mem _ hk)))
        clear SA5 R65 ho5 hd5 hl5 k10 k0 k1
        rcases hcase with ⟨rfl, harm, rfl, hkn, hok⟩ | ⟨rfl, harm, hdd⟩
        · have HARM := Lib.hid harm
          have HOK := Lib.hid hok
          clear harm hok hkn
          have SOw := Lib.hid (SA6.out.row.segSome (off := 23) (n := (bcells (Sys.nextT want want x)).length) (by rw [sysC_len SA6.out.hl SA6.out.wl, bcells_length, HNL2.out]; omega))
          have SFw := Lib.hid (SA6.out.row.segFree (off := 23) (n := (bcells (Sys.nextT want want x)).length) (by rw [sysC_len SA6.out.hl SA6.out.wl, bcells_length, HNL2.out]; omega))
          have SG8w : Hid (∀ j v, (bcells (Sys.nextT want want x))[j]? = some v → w5.cell? ⟨(w2.heap.size + 1), 0 + j, none⟩ = some v) := Lib.hid (fun j v hv => by rw [Nat.zero_add]; exact R86.out.cellAt j hv)
          have SA2 := Lib.hid (SA6.out.setWant (Sys.nextT want want x) HNL2.out)
          have OO2 := Lib.hid (OO6.out.trans (Only.setCells (S := wb :: lb :: devB db y) (g := wb) List.mem_cons_self (bcells (Sys.nextT want want x)) 23 w5))
          have R42 := Lib.hid (R46.out.setCellsOther (g := wb) (by have := HS.out wb (by simp); omega) (bcells (Sys.nextT want want x)) 23)
          have R82 := Lib.hid (R86.out.setCellsOther (g := wb) (by have := HB8.out.2 wb (by simp); omega) (bcells (Sys.nextT want want x)) 23)
          go_upto_region 13 with (first | refine wpList_load_seg rfl _ _ rfl (w2.heap.size + 1) 0 rfl (bcells (Sys.nextT want want x)) _ SG8w.out Tryz.underlying64 rfl (by rw [bcells_length, HNL2.out]; kernel_rfl) ?_ | refine wpList_store_seg rfl _ _ _ rfl wb 23 (bcells (Sys.nextT want want x)) rfl rfl (by rw [bcells_length, HNL2.out]; kernel_rfl) SOw.out SFw.out (bcells_one _) ?_ | fail "none")
          generalize World.setCells _ _ _ _ = wT at *
          clear SOw SFw SG8w
          have SO4 := Lib.hid (R42.out.segSome (off := 0) (n := (bcells (Sys.nextT want want x)).length) (by rw [bcells_length, bcells_length, HNL2.out]; decide))
          have SF4 := Lib.hid (R42.out.segFree (off := 0) (n := (bcells (Sys.nextT want want x)).length) (by rw [bcells_length, bcells_length, HNL2.out]; decide))
          have SG8 : Hid (∀ j v, (bcells (Sys.nextT want want x))[j]? = some v → wT.cell? ⟨(w2.heap.size + 1), 0 + j, none⟩ = some v) := Lib.hid (fun j v hv => by rw [Nat.zero_add]; exact R82.out.cellAt j hv)
          have SAe := Lib.hid (SA2.out.newCells (b := (w.heap.size + 1)) (by have := HS.out wb (by simp); omega) (by have := HS.out lb (by simp); omega) (fun h => by have := HS.out _ (List.mem_cons_of_mem _ (List.mem_cons_of_mem _ h)); omega) (bcells (Sys.nextT want want x)) 0)
          have OOe := Lib.hid (OO2.out.newCells (g := (w.heap.size + 1)) (by omega) (bcells (Sys.nextT want want x)) 0)
          have R4e := R42.out.setCells (bcells (Sys.nextT want want x)) 0
          have eZ : setMany (bcells (List.replicate 12 0)) 0 (bcells (Sys.nextT want want x)) = bcells (Sys.nextT want want x) := by
            have := setMany_mid (bcells (Sys.nextT want want x)) (bcells (List.replicate 12 0)) [] [] (by rw [bcells_length, bcells_length, HNL2.out]; rfl)
            simpa using this
          rw [eZ] at R4e
          have R4E := Lib.hid R4e
          clear R4e eZ
          go_wp2_with (first | refine wpList_load_seg rfl _ _ rfl (w2.heap.size + 1) 0 rfl (bcells (Sys.nextT want want x)) _ SG8.out Tryz.underlying64 rfl (by rw [bcells_length, HNL2.out]; kernel_rfl) ?_ | refine wpList_store_seg rfl _ _ _ rfl (w.heap.size + 1) 0 (bcells (Sys.nextT want want x)) rfl rfl (by rw [bcells_length, HNL2.out]; kernel_rfl) SO4.out SF4.out (bcells_one _) ?_ | fail "none")
          generalize World.setCells _ _ _ _ = wE at *
          have hl4 := run_loadVar_seg (P := Tryz.prog) wE (w.heap.size + 1) 0 64 (bcells (Sys.nextT want want x)) _ (fun j v hv => by rw [Nat.zero_add]; exact R4E.out.cellAt j hv) Tryz.underlying64 rfl (by rw [bcells_length, HNL2.out]; kernel_rfl)
          refine bodyPost_ret (v := .tuple #[.agg (bcells (Sys.nextT want want x)).toArray, .int .i64 0]) (by simp [results, Tryz.results43, asAddr, Sem.run_bind, hl4]) rfl ?_
          exact ⟨.inl ⟨_, HNL2.out, rfl, _, _, _, _, _, _, _, HARM.out.trans HARM7.out, SAe.out, HOK.out.mono (by omega)⟩, OOe.out⟩
        · have HARM := Lib.hid harm
          have HDD := Lib.hid hdd
          clear harm hdd
          have SO4 := Lib.hid (R46.out.segSome (off := 0) (n := (bcells (Sys.nextT want want x)).length) (by rw [bcells_length, bcells_length, HNL2.out]; decide))
          have SF4 := Lib.hid (R46.out.segFree (off := 0) (n := (bcells (Sys.nextT want want x)).length) (by rw [bcells_length, bcells_length, HNL2.out]; decide))
          have SG8 : Hid (∀ j v, (bcells (Sys.nextT want want x))[j]? = some v → w5.cell? ⟨(w2.heap.size + 1), 0 + j, none⟩ = some v) := Lib.hid (fun j v hv => by rw [Nat.zero_add]; exact R86.out.cellAt j hv)
          have SAe := Lib.hid (SA6.out.newCells (b := (w.heap.size + 1)) (by have := HS.out wb (by simp); omega) (by have := HS.out lb (by simp); omega) (fun h => by have := HS.out _ (List.mem_cons_of_mem _ (List.mem_cons_of_mem _ h)); omega) (bcells (Sys.nextT want want x)) 0)
          have OOe := Lib.hid (OO6.out.newCells (g := (w.heap.size + 1)) (by omega) (bcells (Sys.nextT want want x)) 0)
          have R4e := R46.out.setCells (bcells (Sys.nextT want want x)) 0
          have eZ : setMany (bcells (List.replicate 12 0)) 0 (bcells (Sys.nextT want want x)) = bcells (Sys.nextT want want x) := by
            have := setMany_mid (bcells (Sys.nextT want want x)) (bcells (List.replicate 12 0)) [] [] (by rw [bcells_length, bcells_length, HNL2.out]; rfl)
            simpa using this
          rw [eZ] at R4e
          have R4E := Lib.hid R4e
          clear R4e eZ
          go_wp2_with (first | refine wpList_load_seg rfl _ _ rfl (w2.heap.size + 1) 0 rfl (bcells (Sys.nextT want want x)) _ SG8.out Tryz.underlying64 rfl (by rw [bcells_length, HNL2.out]; kernel_rfl) ?_ | refine wpList_store_seg rfl _ _ _ rfl (w.heap.size + 1) 0 (bcells (Sys.nextT want want x)) rfl rfl (by rw [bcells_length, HNL2.out]; kernel_rfl) SO4.out SF4.out (bcells_one _) ?_ | fail "none")
          generalize World.setCells _ _ _ _ = wE at *
          have hl4 := run_loadVar_seg (P := Tryz.prog) wE (w.heap.size + 1) 0 64 (bcells (Sys.nextT want want x)) _ (fun j v hv => by rw [Nat.zero_add]; exact R4E.out.cellAt j hv) Tryz.underlying64 rfl (by rw [bcells_length, HNL2.out]; kernel_rfl)
          refine bodyPost_ret (v := .tuple #[.agg (bcells (Sys.nextT want want x)).toArray, .int .i64 61]) (by simp [results, Tryz.results43, asAddr, Sem.run_bind, hl4]) rfl ?_
          exact ⟨.inr ⟨_, HNL2.out, rfl, HARM7.out.symm.trans HARM.out, _, _, _, SAe.out, HDD.out.mono (by omega)⟩, OOe.out⟩
      · have SA7 := Lib.hid hs7
        have HARM := Lib.hid harm
        have HDD := Lib.hid hdd
        clear hs7 harm hdd ho7
        have HWL := Lib.hid SA7.out.wl
        have SGw := Lib.hid (SA7.out.row.wantSeg SA7.out.hl)
        have SO4 := Lib.hid (R47.out.segSome (off := 0) (n := (bcells want).length) (by rw [bcells_length, bcells_length, HWL.out]; decide))
        have SF4 := Lib.hid (R47.out.segFree (off := 0) (n := (bcells want).length) (by rw [bcells_length, bcells_length, HWL.out]; decide))
        have SAe := Lib.hid (SA7.out.newCells (b := (w.heap.size + 1)) (by have := HS.out wb (by simp); omega) (by have := HS.out lb (by simp); omega) (fun h => by have := HS.out _ (List.mem_cons_of_mem _ (List.mem_cons_of_mem _ h)); omega) (bcells want) 0)
        have OOe := Lib.hid (OO7.out.newCells (g := (w.heap.size + 1)) (by omega) (bcells want) 0)
        have R4e := R47.out.setCells (bcells want) 0
        have eZ : setMany (bcells (List.replicate 12 0)) 0 (bcells (want)) = bcells (want) := by
          have := setMany_mid (bcells (want)) (bcells (List.replicate 12 0)) [] [] (by rw [bcells_length, bcells_length, HWL.out]; rfl)
          simpa using this
        rw [eZ] at R4e
        have R4E := Lib.hid R4e
        clear R4e eZ
        go_wp2_with (first | refine wpList_load_seg rfl _ _ rfl wb 23 rfl (bcells want) _ SGw.out Tryz.underlying64 rfl (by rw [bcells_length, HWL.out]; kernel_rfl) ?_ | refine wpList_store_seg rfl _ _ _ rfl (w.heap.size + 1) 0 (bcells want) rfl rfl (by rw [bcells_length, HWL.out]; kernel_rfl) SO4.out SF4.out (bcells_one _) ?_ | fail "none")
        generalize World.setCells _ _ _ _ = wE at *
        have hl4 := run_loadVar_seg (P := Tryz.prog) wE (w.heap.size + 1) 0 64 (bcells (want)) _ (fun j v hv => by rw [Nat.zero_add]; exact R4E.out.cellAt j hv) Tryz.underlying64 rfl (by rw [bcells_length, HWL.out]; kernel_rfl)
        refine bodyPost_ret (v := .tuple #[.agg (bcells (want)).toArray, .int .i64 61]) (by simp [results, Tryz.results43, asAddr, Sem.run_bind, hl4]) rfl ?_
        exact ⟨.inr ⟨_, HWL.out, rfl, HARM.out, _, _, _, SAe.out, HDD.out.mono (by omega)⟩, OOe.out⟩
end
end Go.Proofs.YtnpdhidliaahbaaGreat
