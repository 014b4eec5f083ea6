/- txn: a step's transaction, and what the blocks have behind it. A step's transaction is committed. -/
import Derived.Test.YtnpdhidliaahbaaGreatG37
import Derived.Deep.CutBlock
import Derived.Test.YtnpdhidliaahbaaGreatG25
import Derived.Test.YtnpdhidliaahbaaGreatG27
set_option linter.unusedSimpArgs false
set_option linter.unusedVariables false
namespace Go.Proofs.YtnpdhidliaahbaaGreat
set_option linter.unusedVariables false
open Go Go.RowKit

theorem u8_sum (F k : Nat) (hF : F < 256) (hk : k < 12) : IntKind.u8.wrap ((F : Int) + (k : Int)) = (((UInt8.ofNat F) + UInt8.ofNat k).toNat : Int) := by
  rw [UInt8.toNat_add]
  simp [IntKind.wrap, IntKind.signed, IntKind.bits]
theorem own_setCellsR {b : Nat} {S : TypeId} {base size n : Nat} {e : TypeId} {v : Value} {xs : List Value} (hT : e ≠ S) : ∀ (vs : List Value) (o : Nat) {w : World} {cs : List Value}, Row w b S cs → w.ownsRow base e size v n xs → (w.setCells b o vs).ownsRow base e size v n xs
  | [], _, _, _, _, h => h
  | u :: r, o, w, cs, hr, h => by
    unfold World.setCells
    exact own_setCellsR hT r (o + 1) (hr.set o u) (own_setR (a := ⟨b, o, none⟩) hr h hT)
/-- What the call has in memory: the step's box b0, the results' r4 r6, the transaction's bt, the bytes' bn, the flags' bc bk. -/
structure TM (w : World) (wb : Nat) (ss ws : List Value) (b0 r4 r6 bt bn bc bk : Nat) (C K : List Bool) (N : List UInt8) (vc vr : Value) (wr : World) : Prop where
  s : Row wr b0 96 ss
  r4 : Row wr r4 25 [.slice none 0 0, .slice none 0 0]
  r6 : Row wr r6 64 (bcells (List.replicate 12 0))
  t : Row wr bt 25 [vc, vr]
  n : Row wr bn 64 (bcells N)
  c : Row wr bc 160 (fcells C)
  k : Row wr bk 160 (fcells K)
  wd : Row wr wb 66 ws
  bel : Below w.heap.size w wr
structure TN (w : World) (wb b0 r4 r6 bt bn bc bk : Nat) : Prop where
  lo : w.heap.size ≤ b0 ∧ w.heap.size ≤ r4 ∧ w.heap.size ≤ r6 ∧ w.heap.size ≤ bt ∧ w.heap.size ≤ bn ∧ w.heap.size ≤ bc ∧ w.heap.size ≤ bk ∧ wb < w.heap.size
  ne : b0 < r4 ∧ r4 < r6 ∧ r6 < bt ∧ bt < bn ∧ bn < bc ∧ bc < bk
section
variable {w wr w' : World} {wb b0 r4 r6 bt bn bc bk : Nat} {ss ws : List Value} {C K : List Bool} {N : List UInt8} {vc vr : Value}
theorem TM.below (h : TM w wb ss ws b0 r4 r6 bt bn bc bk C K N vc vr wr) (hb : Below wr.heap.size wr w') : TM w wb ss ws b0 r4 r6 bt bn bc bk C K N vc vr w' :=
  ⟨h.s.below hb h.s.lt, h.r4.below hb h.r4.lt, h.r6.below hb h.r6.lt, h.t.below hb h.t.lt, h.n.below hb h.n.lt, h.c.below hb h.c.lt, h.k.below hb h.k.lt, h.wd.below hb h.wd.lt, below_next h.bel hb⟩
theorem TM.drew (h : TM w wb ss ws b0 r4 r6 bt bn bc bk C K N vc vr wr) : TM w wb ss ws b0 r4 r6 bt bn bc bk C K N vc vr wr.drew :=
  ⟨h.s.drew, h.r4.drew, h.r6.drew, h.t.drew, h.n.drew, h.c.drew, h.k.drew, h.wd.drew, h.bel.drew⟩
theorem TM.setC (hn : TN w wb b0 r4 r6 bt bn bc bk) (h : TM w wb ss ws b0 r4 r6 bt bn bc bk C K N vc vr wr) (j : Nat) : TM w wb ss ws b0 r4 r6 bt bn bc bk (C.set j true) K N vc vr (wr.setCell ⟨bc, j, none⟩ (.bool true)) := by
  obtain ⟨⟨l1, l2, l3, l4, l5, l6, l7, l8⟩, n1, n2, n3, n4, n5, n6⟩ := hn
  exact ⟨h.s.other (by dsimp only; omega) _, h.r4.other (by dsimp only; omega) _, h.r6.other (by dsimp only; omega) _, h.t.other (by dsimp only; omega) _, h.n.other (by dsimp only; omega) _, by rw [← fcells_set]; exact h.c.set j _, h.k.other (by dsimp only; omega) _, h.wd.other (by dsimp only; omega) _, h.bel.setCell (p := ⟨bc, j, none⟩) l6 _⟩
theorem TM.setK (hn : TN w wb b0 r4 r6 bt bn bc bk) (h : TM w wb ss ws b0 r4 r6 bt bn bc bk C K N vc vr wr) (j : Nat) : TM w wb ss ws b0 r4 r6 bt bn bc bk C (K.set j true) N vc vr (wr.setCell ⟨bk, j, none⟩ (.bool true)) := by
  obtain ⟨⟨l1, l2, l3, l4, l5, l6, l7, l8⟩, n1, n2, n3, n4, n5, n6⟩ := hn
  exact ⟨h.s.other (by dsimp only; omega) _, h.r4.other (by dsimp only; omega) _, h.r6.other (by dsimp only; omega) _, h.t.other (by dsimp only; omega) _, h.n.other (by dsimp only; omega) _, h.c.other (by dsimp only; omega) _, by rw [← fcells_set]; exact h.k.set j _, h.wd.other (by dsimp only; omega) _, h.bel.setCell (p := ⟨bk, j, none⟩) l7 _⟩
theorem TM.setN (hn : TN w wb b0 r4 r6 bt bn bc bk) (h : TM w wb ss ws b0 r4 r6 bt bn bc bk C K N vc vr wr) (j : Nat) (x : UInt8) : TM w wb ss ws b0 r4 r6 bt bn bc bk C K (N.set j x) vc vr (wr.setCell ⟨bn, j, none⟩ (bval x)) := by
  obtain ⟨⟨l1, l2, l3, l4, l5, l6, l7, l8⟩, n1, n2, n3, n4, n5, n6⟩ := hn
  exact ⟨h.s.other (by dsimp only; omega) _, h.r4.other (by dsimp only; omega) _, h.r6.other (by dsimp only; omega) _, h.t.other (by dsimp only; omega) _, by rw [← bcells_set]; exact h.n.set j _, h.c.other (by dsimp only; omega) _, h.k.other (by dsimp only; omega) _, h.wd.other (by dsimp only; omega) _, h.bel.setCell (p := ⟨bn, j, none⟩) l5 _⟩
theorem TM.grown {w5 : World} {n : Nat} {E : TypeId} {size : Nat} {v : Value} {ys : List Value} {o : Obj} (h : TM w wb ss ws b0 r4 r6 bt bn bc bk C K N vc vr wr) (ho : (wr.alloc o).ownsRow w.heap.size E size v n ys) (hgrow : (wr.alloc o).grownBy w5 v.ownBlock)
    (h1 : 96 ≠ E) (h2 : 25 ≠ E) (h3 : 64 ≠ E) (h4 : 160 ≠ E) (h5 : 66 ≠ E) : TM w wb ss ws b0 r4 r6 bt bn bc bk C K N vc vr w5 := by
  have hB := h.bel
  have B5 : Below w.heap.size w w5 := (hB.alloc hB.size o).grown hgrow (by simp; have := hB.size; omega) (fun j hj => by have := (World.ownsRow.lt ho j hj).1; omega)
  exact ⟨row_grownR (h.s.alloc o) ho hgrow h1, row_grownR (h.r4.alloc o) ho hgrow h2, row_grownR (h.r6.alloc o) ho hgrow h3, row_grownR (h.t.alloc o) ho hgrow h2, row_grownR (h.n.alloc o) ho hgrow h3, row_grownR (h.c.alloc o) ho hgrow h4, row_grownR (h.k.alloc o) ho hgrow h4, row_grownR (h.wd.alloc o) ho hgrow h5, B5⟩
/-- What is behind an append in a field of the transaction. -/
theorem TM.push {w5 : World} {k n n5 : Nat} {E : TypeId} {size : Nat} {v v5 : Value} {ys ys5 : List Value} {o : Obj} {vc' vr' : Value} (hn : TN w wb b0 r4 r6 bt bn bc bk) (h : TM w wb ss ws b0 r4 r6 bt bn bc bk C K N vc vr wr) (ho : (wr.alloc o).ownsRow w.heap.size E size v n ys) (hgrow : (wr.alloc o).grownBy w5 v.ownBlock) (hown : w5.ownsRow w.heap.size E size v5 n5 ys5) (hk : [vc, vr].set k v5 = [vc', vr'])
    (h1 : 96 ≠ E) (h2 : 25 ≠ E) (h3 : 64 ≠ E) (h4 : 160 ≠ E) (h5 : 66 ≠ E) :
    TM w wb ss ws b0 r4 r6 bt bn bc bk C K N vc' vr' (w5.setCell ⟨bt, k, none⟩ v5) ∧ (w5.setCell ⟨bt, k, none⟩ v5).ownsRow w.heap.size E size v5 n5 ys5 := by
  obtain ⟨⟨l1, l2, l3, l4, l5, l6, l7, l8⟩, n1, n2, n3, n4, n5, n6⟩ := hn
  have rT5 := row_grownR (h.t.alloc o) ho hgrow h2
  have hB := h.bel
  have B5 : Below w.heap.size w w5 := (hB.alloc hB.size o).grown hgrow (by simp; have := hB.size; omega) (fun j hj => by have := (World.ownsRow.lt ho j hj).1; omega)
  exact ⟨⟨(row_grownR (h.s.alloc o) ho hgrow h1).other (by dsimp only; omega) _, (row_grownR (h.r4.alloc o) ho hgrow h2).other (by dsimp only; omega) _, (row_grownR (h.r6.alloc o) ho hgrow h3).other (by dsimp only; omega) _, by rw [← hk]; exact rT5.set k v5, (row_grownR (h.n.alloc o) ho hgrow h3).other (by dsimp only; omega) _, (row_grownR (h.c.alloc o) ho hgrow h4).other (by dsimp only; omega) _, (row_grownR (h.k.alloc o) ho hgrow h4).other (by dsimp only; omega) _, (row_grownR (h.wd.alloc o) ho hgrow h5).other (by dsimp only; omega) _, B5.setCell (p := ⟨bt, k, none⟩) l4 _⟩, own_setR (a := ⟨bt, k, none⟩) rT5 hown (Ne.symm h2)⟩
/-- .. and of the other field's row. -/
theorem TM.kept {w5 : World} {k n m : Nat} {E E' : TypeId} {size size' : Nat} {v v5 u : Value} {ys zs : List Value} {o : Obj} (h : TM w wb ss ws b0 r4 r6 bt bn bc bk C K N vc vr wr) (ho : (wr.alloc o).ownsRow w.heap.size E size v n ys) (hgrow : (wr.alloc o).grownBy w5 v.ownBlock) (hu : wr.ownsRow w.heap.size E' size' u m zs) (h1 : E' ≠ E) (h2 : E' ≠ 25) (h3 : 25 ≠ E) : (w5.setCell ⟨bt, k, none⟩ v5).ownsRow w.heap.size E' size' u m zs :=
  own_setR (a := ⟨bt, k, none⟩) (row_grownR (h.t.alloc o) ho hgrow h3) (own_otherR (own_new1 hu o) ho hgrow h1) h2
end
def TxnTold (g : Geo.G) (home want : List UInt8) (x : Sys.Step) (w : World) (e : Ending) (w' : World) : Prop := ∃ vc vr vd, e = .returned (.tuple #[.agg #[vc, vr], vd, .agg (bcells (Sys.nextT home want x)).toArray]) ∧ OwnC w.heap.size w' vc (Sys.txnT g x).ch ∧ OwnInts w.heap.size w' vr (Sys.txnT g x).rv ∧ OwnC w.heap.size w' vd (Sys.dataT g x) ∧ Below w.heap.size w w'
set_option maxRecDepth 100000 in
set_option maxHeartbeats 8000000 in
theorem txn_any {wb db lb : Nat} {g : Geo.G} {home want : List UInt8} {x : Sys.Step} {v : Value} (w : World) (hr : Row w wb 66 (sysC g db lb home want)) (hl : home.length = 12) (wl : want.length = 12) (hg : Geo.May g) (hx : StepAt w v x) :
    Calls Tryz.prog 39 #[.pointer (some ⟨wb, 0, none⟩), v] w fun e w' => TxnTold g home want x w e w' := by
  obtain ⟨⟨vc, vr, rfl, hc, hv⟩, hlc, hlr⟩ := hx
  obtain ⟨ac, cc, rfl⟩ := hc.form
  obtain ⟨ar, cr, rfl⟩ := hv.form
  have HR := Lib.hid hr
  have HHL := Lib.hid hl
  have HWL := Lib.hid wl
  have HG := Lib.hid hg
  have HC := Lib.hid hc
  have HV := Lib.hid hv
  clear hr hl wl hg hc hv
  go_enter Tryz.func39, Tryz.ntmps39
  go_upto_region 2 with fail
  have hSG := HR.out.wantSeg HHL.out
  generalize hW : World.alloc _ _ = w4
  have h4 := Lib.hid (show w4.heap.size = w.heap.size + 1 + 1 + 1 + 1 by rw [← hW]; simp)
  have hB4 : Below w.heap.size w w4 := by rw [← hW]; exact below_box (below_box (below_box (below_box (Below.refl _ _) _) _) _) _
  have q0 : Row w4 w.heap.size 96 [bval x.kind, .slice ac x.change.length cc, .slice ar x.revoke.length cr, bval x.fill, .bool x.data] := by rw [← hW]; exact (((Row.new w _ _ rfl).alloc _).alloc _).alloc _
  have q1 : Row w4 (w.heap.size + 1) 25 [.slice none 0 0, .slice none 0 0] := by rw [← hW]; exact ((Row.new _ _ _ (by simp)).alloc _).alloc _
  have q2 : Row w4 (w.heap.size + 1 + 1) 64 (bcells (List.replicate 12 0)) := by rw [← hW]; exact (Row.new _ _ _ (by simp)).alloc _
  have q3 : Row w4 (w.heap.size + 1 + 1 + 1) 25 [.slice none 0 0, .slice none 0 0] := by rw [← hW]; exact Row.new _ _ _ (by simp)
  clear hW
  have hSG4 : Hid (∀ j v, (bcells want)[j]? = some v → (w4.alloc (.cells (bcells (List.replicate 12 0)).toArray 64)).cell? ⟨wb, 23 + j, none⟩ = some v) := Lib.hid (((HR.out.below hB4 HR.out.lt).alloc _).wantSeg HHL.out)
  have hSG5 : Hid (∀ j v, (bcells want)[j]? = some v → w4.cell? ⟨wb, 23 + j, none⟩ = some v) := Lib.hid ((HR.out.below hB4 HR.out.lt).wantSeg HHL.out)
  have hNew := Row.new w4 64 (bcells (List.replicate 12 0)) rfl
  have hSO : Hid (∀ j, j < (bcells want).length → ((w4.alloc (.cells (bcells (List.replicate 12 0)).toArray 64)).cell? ⟨w4.heap.size, 0 + j, none⟩).isSome = true) := Lib.hid (hNew.segSome (by rw [bcells_length, bcells_length, HWL.out]; decide))
  have hSF : Hid (∀ j, j < (bcells want).length → (w4.alloc (.cells (bcells (List.replicate 12 0)).toArray 64)).frozen? ⟨w4.heap.size, 0 + j, none⟩ = false) := Lib.hid (hNew.segFree (by rw [bcells_length, bcells_length, HWL.out]; decide))
  clear hSG
  go_upto_region 3 with (first | refine wpList_load_seg rfl _ _ rfl wb 23 rfl (bcells want) _ hSG5.out Tryz.underlying64 rfl (by rw [bcells_length, HWL.out]; kernel_rfl) ?_ | refine wpList_load_seg rfl _ _ rfl wb 23 rfl (bcells want) _ hSG4.out Tryz.underlying64 rfl (by rw [bcells_length, HWL.out]; kernel_rfl) ?_ | refine wpList_store_seg rfl _ _ _ rfl w4.heap.size 0 (bcells want) rfl rfl (by rw [bcells_length, HWL.out]; kernel_rfl) hSO.out hSF.out (bcells_one _) ?_ | fail "none")
  generalize hW : World.setCells _ _ _ _ = w5
  have hB5 : Below w.heap.size w w5 := by rw [← hW]; exact (Only.setCells (S := [w4.heap.size]) (by simp) _ _ _).below (by simp; have := h4.out; omega) (by simp; have := h4.out; omega) |> fun (h : Below w.heap.size _ _) => (below_box hB4 _).trans h
  have h5 := Lib.hid (show w5.heap.size = w4.heap.size + 1 by rw [← hW, setCells_size]; simp)
  have p0 : Row w5 w.heap.size 96 [bval x.kind, .slice ac x.change.length cc, .slice ar x.revoke.length cr, bval x.fill, .bool x.data] := by rw [← hW]; exact (q0.alloc _).setCellsOther (by have := h4.out; omega) _ _
  have p1 : Row w5 (w.heap.size + 1) 25 [.slice none 0 0, .slice none 0 0] := by rw [← hW]; exact (q1.alloc _).setCellsOther (by have := h4.out; omega) _ _
  have p2 : Row w5 (w.heap.size + 1 + 1) 64 (bcells (List.replicate 12 0)) := by rw [← hW]; exact (q2.alloc _).setCellsOther (by have := h4.out; omega) _ _
  have p3 : Row w5 (w.heap.size + 1 + 1 + 1) 25 [.slice none 0 0, .slice none 0 0] := by rw [← hW]; exact (q3.alloc _).setCellsOther (by have := h4.out; omega) _ _
  have p4 : Row w5 w4.heap.size 64 (bcells want) := by
    rw [← hW]
    have h9 := hNew.setCells (bcells want) 0
    have e : setMany (bcells (List.replicate 12 0)) 0 (bcells want) = bcells want := by
      have := setMany_mid (bcells want) (bcells (List.replicate 12 0)) [] [] (by rw [bcells_length, bcells_length, HWL.out]; rfl)
      simpa using this
    rw [e] at h9
    exact h9
  clear hW hNew hSO hSF hSG4 hSG5 q0 q1 q2 q3
  have HN : Hid (TN w wb w.heap.size (w.heap.size + 1) (w.heap.size + 1 + 1) (w.heap.size + 1 + 1 + 1) w4.heap.size w5.heap.size (w5.heap.size + 1)) := Lib.hid ⟨by have := h4.out; have := h5.out; have := HR.out.lt; omega, by have := h4.out; have := h5.out; omega⟩
  have M6 : Hid (TM w wb [bval x.kind, .slice ac x.change.length cc, .slice ar x.revoke.length cr, bval x.fill, .bool x.data] (sysC g db lb home want) w.heap.size (w.heap.size + 1) (w.heap.size + 1 + 1) (w.heap.size + 1 + 1 + 1) w4.heap.size w5.heap.size (w5.heap.size + 1) (fl x.change 0) (fl x.revoke 0) want (.slice none 0 0) (.slice none 0 0) ((w5.alloc (.cells #[.bool false, .bool false, .bool false, .bool false, .bool false, .bool false, .bool false, .bool false, .bool false, .bool false, .bool false, .bool false] 160)).alloc (.cells #[.bool false, .bool false, .bool false, .bool false, .bool false, .bool false, .bool false, .bool false, .bool false, .bool false, .bool false, .bool false] 160))) := Lib.hid
    ⟨(p0.alloc _).alloc _, (p1.alloc _).alloc _, (p2.alloc _).alloc _, (p3.alloc _).alloc _, (p4.alloc _).alloc _, by rw [fl_zero]; exact (Row.new w5 160 [.bool false, .bool false, .bool false, .bool false, .bool false, .bool false, .bool false, .bool false, .bool false, .bool false, .bool false, .bool false] rfl).alloc _, by rw [fl_zero]; exact Row.new _ 160 [.bool false, .bool false, .bool false, .bool false, .bool false, .bool false, .bool false, .bool false, .bool false, .bool false, .bool false, .bool false] (by simp), ((HR.out.below hB5 HR.out.lt).alloc _).alloc _, below_box (below_box hB5 _) _⟩
  clear p0 p1 p2 p3 p4 hB4 hB5 h5 h4
  go_upto_region 4 with fail
  generalize World.alloc _ _ = w6 at *
  go_upto_block 0 with fail
  go_cut [11] from 19 to 36 (fun q wx => Hid (TM w wb [bval x.kind, .slice ac x.change.length cc, .slice ar x.revoke.length cr, bval x.fill, .bool x.data] (sysC g db lb home want) w.heap.size (w.heap.size + 1) (w.heap.size + 1 + 1) (w.heap.size + 1 + 1 + 1) w4.heap.size w5.heap.size (w5.heap.size + 1) (fl x.change (min x.change.length 30)) (fl x.revoke 0) (want) (.slice none 0 0) (.slice none 0 0) wx))
  case first =>
    go_wp2_with fail
    go_loopw [11] (fun q wr => ∃ i : Nat, q = .int .i64 (i : Int) ∧ i ≤ x.change.length ∧ i ≤ 30 ∧ Hid (TM w wb [bval x.kind, .slice ac x.change.length cc, .slice ar x.revoke.length cr, bval x.fill, .bool x.data] (sysC g db lb home want) w.heap.size (w.heap.size + 1) (w.heap.size + 1 + 1) (w.heap.size + 1 + 1 + 1) w4.heap.size w5.heap.size (w5.heap.size + 1) (fl x.change i) (fl x.revoke 0) (want) (.slice none 0 0) (.slice none 0 0) wr)) (fun q _ => 30 - (intOf q).toNat)
    case atStart => exact ⟨0, rfl, by omega, by omega, M6⟩
    case round =>
      obtain ⟨i, rfl, hi, hi30, M⟩ := hrel
      have c1 := M.out.s.cellAt 1 rfl
      by_cases hlt : i < x.change.length
      · have i1 : (i : Int) < (x.change.length : Int) := by omega
        by_cases h30 : i < 30
        · have i2 : (i : Int) < 30 := by omega
          obtain ⟨gc, oc, hac, hcell⟩ := (HC.out.below M.out.bel).cells i hlt
          rw [hac] at c1
          clear hac
          have hs := fl_succ x.change i hlt
          obtain ⟨X, hX⟩ : ∃ X, (x.change.getD i 0).toNat = X := ⟨_, rfl⟩
          rw [hX] at hcell hs
          have hX2 : X < 256 := by rw [← hX]; exact (x.change.getD i 0).toNat_lt
          clear hX
          have hm : ((X : Int)).tmod 12 = ((X % 12 : Nat) : Int) := by rw [Int.tmod_eq_emod_of_nonneg (by omega)]; omega
          have hm2 : ((X : Int)) % 12 = ((X % 12 : Nat) : Int) := by omega
          obtain ⟨Y, hY⟩ : ∃ Y, X % 12 = Y := ⟨_, rfl⟩
          have hY2 : Y < 12 := by rw [← hY]; exact Nat.mod_lt _ (by decide)
          rw [hY] at hm hm2 hs
          clear hY
          have cc0 := M.out.c.cellAt Y (fcells_at (fl x.change i) Y (by rw [fl_length]; exact hY2))
          have cf0 := M.out.c.free Y (by rw [fcells_length, fl_length]; exact hY2)
          have iY : (Y : Int) < 12 := by omega
          have MN := Lib.hid (M.out.setC HN.out Y)
          rw [hs] at MN
          clear hs
          generalize (fl x.change i).getD Y false = bo at *
          go_wp2_with fail
          go_roundw
          case rel => exact ⟨i + 1, by go_num, by omega, by omega, MN⟩
          case measure => simp [intOf]; omega
        · have i2 : ¬ (i : Int) < 30 := by omega
          have ME : Hid (TM w wb [bval x.kind, .slice ac x.change.length cc, .slice ar x.revoke.length cr, bval x.fill, .bool x.data] (sysC g db lb home want) w.heap.size (w.heap.size + 1) (w.heap.size + 1 + 1) (w.heap.size + 1 + 1 + 1) w4.heap.size w5.heap.size (w5.heap.size + 1) (fl x.change (min x.change.length 30)) (fl x.revoke 0) (want) (.slice none 0 0) (.slice none 0 0) wr) := Lib.hid (by rw [show min x.change.length 30 = i by omega]; exact M.out)
          go_wp2_with fail
          go_meet
          exact ME
      · have i1 : ¬ (i : Int) < (x.change.length : Int) := by omega
        have ME : Hid (TM w wb [bval x.kind, .slice ac x.change.length cc, .slice ar x.revoke.length cr, bval x.fill, .bool x.data] (sysC g db lb home want) w.heap.size (w.heap.size + 1) (w.heap.size + 1 + 1) (w.heap.size + 1 + 1 + 1) w4.heap.size w5.heap.size (w5.heap.size + 1) (fl x.change (min x.change.length 30)) (fl x.revoke 0) (want) (.slice none 0 0) (.slice none 0 0) wr) := Lib.hid (by rw [show min x.change.length 30 = i by omega]; exact M.out)
        go_wp2_with fail
        go_meet
        exact ME
  case rest =>
  have M7 := hcut
  go_upto_block 2 with fail
  go_cut [12] from 37 to 54 (fun q wx => Hid (TM w wb [bval x.kind, .slice ac x.change.length cc, .slice ar x.revoke.length cr, bval x.fill, .bool x.data] (sysC g db lb home want) w.heap.size (w.heap.size + 1) (w.heap.size + 1 + 1) (w.heap.size + 1 + 1 + 1) w4.heap.size w5.heap.size (w5.heap.size + 1) (fl x.change (min x.change.length 30)) (fl x.revoke (min x.revoke.length 30)) (want) (.slice none 0 0) (.slice none 0 0) wx))
  case first =>
    go_wp2_with fail
    go_loopw [12] (fun q wr => ∃ i : Nat, q = .int .i64 (i : Int) ∧ i ≤ x.revoke.length ∧ i ≤ 30 ∧ Hid (TM w wb [bval x.kind, .slice ac x.change.length cc, .slice ar x.revoke.length cr, bval x.fill, .bool x.data] (sysC g db lb home want) w.heap.size (w.heap.size + 1) (w.heap.size + 1 + 1) (w.heap.size + 1 + 1 + 1) w4.heap.size w5.heap.size (w5.heap.size + 1) (fl x.change (min x.change.length 30)) (fl x.revoke i) (want) (.slice none 0 0) (.slice none 0 0) wr)) (fun q _ => 30 - (intOf q).toNat)
    case atStart => exact ⟨0, rfl, by omega, by omega, M7⟩
    case round =>
      obtain ⟨i, rfl, hi, hi30, M⟩ := hrel
      have c1 := M.out.s.cellAt 2 rfl
      by_cases hlt : i < x.revoke.length
      · have i1 : (i : Int) < (x.revoke.length : Int) := by omega
        by_cases h30 : i < 30
        · have i2 : (i : Int) < 30 := by omega
          obtain ⟨gc, oc, hac, hcell⟩ := (HV.out.below M.out.bel).cells i hlt
          rw [hac] at c1
          clear hac
          have hs := fl_succ x.revoke i hlt
          obtain ⟨X, hX⟩ : ∃ X, (x.revoke.getD i 0).toNat = X := ⟨_, rfl⟩
          rw [hX] at hcell hs
          have hX2 : X < 256 := by rw [← hX]; exact (x.revoke.getD i 0).toNat_lt
          clear hX
          have hm : ((X : Int)).tmod 12 = ((X % 12 : Nat) : Int) := by rw [Int.tmod_eq_emod_of_nonneg (by omega)]; omega
          have hm2 : ((X : Int)) % 12 = ((X % 12 : Nat) : Int) := by omega
          obtain ⟨Y, hY⟩ : ∃ Y, X % 12 = Y := ⟨_, rfl⟩
          have hY2 : Y < 12 := by rw [← hY]; exact Nat.mod_lt _ (by decide)
          rw [hY] at hm hm2 hs
          clear hY
          have cc0 := M.out.k.cellAt Y (fcells_at (fl x.revoke i) Y (by rw [fl_length]; exact hY2))
          have cf0 := M.out.k.free Y (by rw [fcells_length, fl_length]; exact hY2)
          have iY : (Y : Int) < 12 := by omega
          have MN := Lib.hid (M.out.setK HN.out Y)
          rw [hs] at MN
          clear hs
          generalize (fl x.revoke i).getD Y false = bo at *
          go_wp2_with fail
          go_roundw
          case rel => exact ⟨i + 1, by go_num, by omega, by omega, MN⟩
          case measure => simp [intOf]; omega
        · have i2 : ¬ (i : Int) < 30 := by omega
          have ME : Hid (TM w wb [bval x.kind, .slice ac x.change.length cc, .slice ar x.revoke.length cr, bval x.fill, .bool x.data] (sysC g db lb home want) w.heap.size (w.heap.size + 1) (w.heap.size + 1 + 1) (w.heap.size + 1 + 1 + 1) w4.heap.size w5.heap.size (w5.heap.size + 1) (fl x.change (min x.change.length 30)) (fl x.revoke (min x.revoke.length 30)) (want) (.slice none 0 0) (.slice none 0 0) wr) := Lib.hid (by rw [show min x.revoke.length 30 = i by omega]; exact M.out)
          go_wp2_with fail
          go_meet
          exact ME
      · have i1 : ¬ (i : Int) < (x.revoke.length : Int) := by omega
        have ME : Hid (TM w wb [bval x.kind, .slice ac x.change.length cc, .slice ar x.revoke.length cr, bval x.fill, .bool x.data] (sysC g db lb home want) w.heap.size (w.heap.size + 1) (w.heap.size + 1 + 1) (w.heap.size + 1 + 1 + 1) w4.heap.size w5.heap.size (w5.heap.size + 1) (fl x.change (min x.change.length 30)) (fl x.revoke (min x.revoke.length 30)) (want) (.slice none 0 0) (.slice none 0 0) wr) := Lib.hid (by rw [show min x.revoke.length 30 = i by omega]; exact M.out)
        go_wp2_with fail
        go_meet
        exact ME
  case rest =>
  have M8 := hcut
  go_wp2_with fail
  obtain ⟨i0, hi0, hz0, hz1, hz2⟩ := info_parts infoChg
  obtain ⟨k0, hk0, kz0, kz1, kz2⟩ := info_parts infoInt
  have F13 : Hid (∀ k, k < 12 → Sys.has x.change k = (fl x.change (min x.change.length 30)).getD k false ∧ Sys.has x.revoke k = (fl x.revoke (min x.revoke.length 30)).getD k false) := Lib.hid (fun k hk => ⟨(fl_all _ k hk rfl).symm, (fl_all _ k hk rfl).symm⟩)
  obtain ⟨DA, hDA⟩ : ∃ z, g.dataAt = z := ⟨_, rfl⟩
  have hga : Hid (∀ k : Nat, k < 16 → 0 ≤ DA ∧ DA + (k : Int) ≤ 10000 ∧ DA + (k : Int) = ((Sys.hb g k : Nat) : Int)) := Lib.hid (fun k hk => by
    obtain ⟨f1, f2, f3, f4⟩ := Sys.hb_facts HG.out (k := k) hk
    have := HG.out.ok.1
    unfold Geo.asked at this
    omega)
  have KW : Hid (∀ (N : List UInt8) (vc vr : Value) (wz : World), TM w wb [bval x.kind, .slice ac x.change.length cc, .slice ar x.revoke.length cr, bval x.fill, .bool x.data] (sysC g db lb home want) w.heap.size (w.heap.size + 1) (w.heap.size + 1 + 1) (w.heap.size + 1 + 1 + 1) w4.heap.size w5.heap.size (w5.heap.size + 1) (fl x.change (min x.change.length 30)) (fl x.revoke (min x.revoke.length 30)) (N) vc vr wz → wz.cell? ⟨wb, 8, none⟩ = some (.int .i64 DA)) := Lib.hid (fun N vc vr wz h => by rw [← hDA]; exact h.wd.cellAt 8 rfl)
  clear hDA
  go_loopw [13] (fun q wr => ∃ (j : Nat) (vc vr : Value), q = .int .i64 (j : Int) ∧ j ≤ 12 ∧ Hid (TM w wb [bval x.kind, .slice ac x.change.length cc, .slice ar x.revoke.length cr, bval x.fill, .bool x.data] (sysC g db lb home want) w.heap.size (w.heap.size + 1) (w.heap.size + 1 + 1) (w.heap.size + 1 + 1 + 1) w4.heap.size w5.heap.size (w5.heap.size + 1) (fl x.change (min x.change.length 30)) (fl x.revoke (min x.revoke.length 30)) (Sys.nxTo home want x j) vc vr wr) ∧ Hid (OwnC w.heap.size wr vc (Sys.chTo g x j)) ∧ Hid (OwnInts w.heap.size wr vr (Sys.rvTo g x j))) (fun q _ => 12 - (intOf q).toNat)
  case atStart => exact ⟨0, _, _, rfl, by omega, M8, Lib.hid (World.ownsRow_nil _ _ _ _), Lib.hid (World.ownsRow_nil _ _ _ _)⟩
  case round =>
    obtain ⟨j, vc, vr, rfl, hj, M, hC, hI⟩ := hrel
    by_cases hlt : j < 12
    · have i1 : (j : Int) < 12 := by omega
      obtain ⟨hf1, hf2⟩ := F13.out j hlt
      have cj := M.out.c.cellAt j (fcells_at (fl x.change (min x.change.length 30)) j (by rw [fl_length]; exact hlt))
      have ck := M.out.k.cellAt j (fcells_at (fl x.revoke (min x.revoke.length 30)) j (by rw [fl_length]; exact hlt))
      rw [← hf1] at cj
      rw [← hf2] at ck
      clear hf1 hf2
      obtain ⟨hga1, hga2, hga3⟩ := hga.out j (by omega)
      have HGA := Lib.hid hga3
      clear hga3
      have cnl : (Sys.nxTo home want x j).length = 12 := by rw [Sys.nxTo_length]; exact HWL.out
      have cn0 := M.out.n.cellAt j (bcells_at _ j (by rw [cnl]; exact hlt))
      have fn0 := M.out.n.free j (by rw [bcells_length, cnl]; exact hlt)
      generalize (Sys.nxTo home want x j).getD j 0 = old at *
      by_cases hch : Sys.has x.change j = true
      · rw [hch] at cj
        have hnx : Sys.nxTo home want x (j + 1) = (Sys.nxTo home want x j).set j (x.fill + UInt8.ofNat j) := by rw [Sys.nxTo, if_pos hch]
        have hcx : Sys.chTo g x (j + 1) = Sys.chTo g x j ++ [(((Sys.hb g j : Nat) : Int), blk (x.fill + UInt8.ofNat j))] := by rw [Sys.chTo, if_pos hch]
        have hrx : Sys.rvTo g x (j + 1) = Sys.rvTo g x j := by rw [Sys.rvTo, if_pos hch]
        have M1 := Lib.hid (M.out.setN HN.out j (x.fill + UInt8.ofNat j))
        rw [← hnx] at M1
        have hwf := u8_sum x.fill.toNat j x.fill.toNat_lt hlt
        rw [UInt8.ofNat_toNat] at hwf
        have c3 : wr.cell? ⟨w.heap.size, 3, none⟩ = some (.int .u8 (x.fill.toNat : Int)) := M.out.s.cellAt 3 rfl
        have HNX := Lib.hid hnx
        have HCX := Lib.hid hcx
        have HRX := Lib.hid hrx
        clear hnx hcx hrx hch
        obtain ⟨Z, hZ⟩ : ∃ Z, x.fill + UInt8.ofNat j = Z := ⟨_, rfl⟩
        rw [hZ] at hwf M1 HCX
        have HZ := Lib.hid hZ
        clear hZ
        have hC1 : Hid (OwnC w.heap.size (wr.setCell ⟨w4.heap.size, j, none⟩ (bval Z)) vc (Sys.chTo g x j)) := Lib.hid (own_setR (a := ⟨w4.heap.size, j, none⟩) M.out.n hC.out (by decide))
        have hI1 : Hid (OwnInts w.heap.size (wr.setCell ⟨w4.heap.size, j, none⟩ (bval Z)) vr (Sys.rvTo g x j)) := Lib.hid (own_setR (a := ⟨w4.heap.size, j, none⟩) M.out.n hI.out (by decide))
        unfold bval at hC1 hI1 M1
        obtain ⟨ZN, hZN⟩ : ∃ z : Int, (Z.toNat : Int) = z := ⟨_, rfl⟩
        rw [hZN] at hwf hC1 hI1 M1
        have hcv : IntKind.u8.wrap (j : Int) = (j : Int) := by simp [IntKind.wrap, IntKind.signed, IntKind.bits]; omega
        go_upto_region 17 with fail
        have MA : Hid (TM w wb [bval x.kind, .slice ac x.change.length cc, .slice ar x.revoke.length cr, bval x.fill, .bool x.data] (sysC g db lb home want) w.heap.size (w.heap.size + 1) (w.heap.size + 1 + 1) (w.heap.size + 1 + 1 + 1) w4.heap.size w5.heap.size (w5.heap.size + 1) (fl x.change (min x.change.length 30)) (fl x.revoke (min x.revoke.length 30)) (Sys.nxTo home want x (j + 1)) vc vr (wr.setCell ⟨w4.heap.size, j, none⟩ (.int .u8 ZN))) := M1
        have K2 : Hid (∀ (wz : World), TM w wb [bval x.kind, .slice ac x.change.length cc, .slice ar x.revoke.length cr, bval x.fill, .bool x.data] (sysC g db lb home want) w.heap.size (w.heap.size + 1) (w.heap.size + 1 + 1) (w.heap.size + 1 + 1 + 1) w4.heap.size w5.heap.size (w5.heap.size + 1) (fl x.change (min x.change.length 30)) (fl x.revoke (min x.revoke.length 30)) (Sys.nxTo home want x (j + 1)) vc vr wz → wz.cell? ⟨w.heap.size + 1 + 1 + 1, 0, none⟩ = some vc ∧ wz.cell? ⟨wb, 8, none⟩ = some (.int .i64 DA) ∧ wz.cell? ⟨w4.heap.size, j, none⟩ = some (.int .u8 ZN)) := Lib.hid (fun wz h => ⟨h.t.cellAt 0 rfl, KW.out _ _ _ _ h, by
          have := h.n.cellAt j (bcells_at _ j (by rw [Sys.nxTo_length, HWL.out]; exact hlt))
          rw [HNX.out, HZ.out, List.getD_eq_getElem?_getD, List.getElem?_set_self (by rw [Sys.nxTo_length, HWL.out]; exact hlt)] at this
          rw [← hZN]; exact this⟩)
        have qf : Hid (∀ wz, Calls Tryz.prog 45 #[.int .u8 ZN] wz fun e w' => e = .returned (.string (blk Z)) ∧ Below wz.heap.size wz w') := Lib.hid (fun wz => by rw [← hZN]; exact fill_any Z wz)
        have hcl : (Sys.chTo g x j).length ≤ j := (Sys.chTo_length g x j).1
        obtain ⟨ah, ch, rfl⟩ := OwnC.slice hC1.out
        generalize wr.setCell _ _ = wA at *
        have h17 : IntKind.i64.wrap (DA + (j : Int)) = DA + (j : Int) := IntWalk.i64_in _ (by omega)
        have hone : ∀ u ∈ [Value.int .i64 (DA + (j : Int)), .string (blk Z)], u.oneCell' = true := by intro u hu; simp at hu; rcases hu with rfl | rfl <;> rfl
        obtain ⟨x0, y0, z0⟩ := K2.out _ MA.out
        have f0 := MA.out.t.free 0 (by simp)
        obtain ⟨n, hn⟩ : ∃ n, (Sys.chTo g x j).length = n := ⟨_, rfl⟩
        have HN17 := Lib.hid hn
        rw [hn] at hcl hC1 x0 K2 MA M1
        have hC2 : Hid (wA.ownsRow w.heap.size 68 2 (.slice ah n ch) n (chgC (Sys.chTo g x j))) := Lib.hid (by have := hC1.out; unfold OwnC at this; rwa [hn] at this)
        have HI1 := hI1
        clear hn cj ck cn0 fn0 c3 hwf hcv hZN M1 hC1 M hC hI hI1
        obtain ⟨NX, hNX⟩ : ∃ NX, Sys.nxTo home want x (j + 1) = NX := ⟨_, rfl⟩
        rw [hNX] at K2 MA
        have HNX2 := Lib.hid hNX
        clear hNX
        refine wp_region_E (S := fun w' => w'.cell? ⟨w.heap.size + 1 + 1 + 1, 0, none⟩ = some (.slice ah n ch) ∧ w'.cell? ⟨wb, 8, none⟩ = some (.int .i64 DA) ∧ w'.cell? ⟨w4.heap.size, j, none⟩ = some (.int .u8 ZN)) (E := [17]) (by kernel_rfl) ⟨x0, y0, z0⟩ (fun hHeld hCl => ?_)
        refine wpAnyE_take (i := 0) (v := .pointer (some ⟨w.heap.size + 1 + 1 + 1, 0, none⟩)) rfl (by kernel_rfl) (by kernel_rfl) (by kernel_rfl) (by kernel_rfl) hCl (fun _ _ _ h => h) (Or.inl ⟨rfl, fun w hSw => (by (try dsimp only at hSw); go_simp)⟩) hHeld (fun hCl => ?_); (try simp only [List.getElem_toArray, List.getElem_cons_zero, Act.put, List.setIfInBounds_toArray, List.set_cons_zero, List.set_cons_succ])
        refine wpAnyE_take (i := 1) (v := .slice ah n ch) rfl (by kernel_rfl) (by kernel_rfl) (by kernel_rfl) (by kernel_rfl) hCl (fun _ _ _ h => h) (Or.inl ⟨rfl, fun w hSw => (by (try dsimp only at hSw); go_simp)⟩) hHeld (fun hCl => ?_); (try simp only [List.getElem_toArray, List.getElem_cons_succ, List.getElem_cons_zero, Act.put, List.setIfInBounds_toArray, List.set_cons_zero, List.set_cons_succ])
        refine wpAnyE_take (i := 2) (v := .pointer (some ⟨wb, 0, none⟩)) rfl (by kernel_rfl) (by kernel_rfl) (by kernel_rfl) (by kernel_rfl) hCl (fun _ _ _ h => h) (Or.inl ⟨rfl, fun w hSw => (by (try dsimp only at hSw); go_simp)⟩) hHeld (fun hCl => ?_); (try simp only [List.getElem_toArray, List.getElem_cons_succ, List.getElem_cons_zero, Act.put, List.setIfInBounds_toArray, List.set_cons_zero, List.set_cons_succ])
        refine wpAnyE_take (i := 3) (v := .pointer (some ⟨wb, 0, none⟩)) rfl (by kernel_rfl) (by kernel_rfl) (by kernel_rfl) (by kernel_rfl) hCl (fun _ _ _ h => h) (Or.inl ⟨rfl, fun w hSw => (by (try dsimp only at hSw); go_simp)⟩) hHeld (fun hCl => ?_); (try simp only [List.getElem_toArray, List.getElem_cons_succ, List.getElem_cons_zero, Act.put, List.setIfInBounds_toArray, List.set_cons_zero, List.set_cons_succ])
        refine wpAnyE_take (i := 4) (v := .pointer (some ⟨wb, 0, none⟩)) rfl (by kernel_rfl) (by kernel_rfl) (by kernel_rfl) (by kernel_rfl) hCl (fun _ _ _ h => h) (Or.inl ⟨rfl, fun w hSw => (by (try dsimp only at hSw); go_simp)⟩) hHeld (fun hCl => ?_); (try simp only [List.getElem_toArray, List.getElem_cons_succ, List.getElem_cons_zero, Act.put, List.setIfInBounds_toArray, List.set_cons_zero, List.set_cons_succ])
        refine wpAnyE_take (i := 5) (v := .pointer (some ⟨wb, 8, none⟩)) rfl (by kernel_rfl) (by kernel_rfl) (by kernel_rfl) (by kernel_rfl) hCl (fun _ _ _ h => h) (Or.inl ⟨rfl, fun w hSw => (by (try dsimp only at hSw); go_simp)⟩) hHeld (fun hCl => ?_); (try simp only [List.getElem_toArray, List.getElem_cons_succ, List.getElem_cons_zero, Act.put, List.setIfInBounds_toArray, List.set_cons_zero, List.set_cons_succ])
        refine wpAnyE_take (i := 6) (v := .int .i64 DA) rfl (by kernel_rfl) (by kernel_rfl) (by kernel_rfl) (by kernel_rfl) hCl (fun _ _ _ h => h) (Or.inl ⟨rfl, fun w hSw => (by (try dsimp only at hSw); go_simp)⟩) hHeld (fun hCl => ?_); (try simp only [List.getElem_toArray, List.getElem_cons_succ, List.getElem_cons_zero, Act.put, List.setIfInBounds_toArray, List.set_cons_zero, List.set_cons_succ])
        refine wpAnyE_take (i := 7) (v := .int .i64 (j : Int)) rfl (by kernel_rfl) (by kernel_rfl) (by kernel_rfl) (by kernel_rfl) hCl (fun _ _ _ h => h) (Or.inl ⟨rfl, fun w hSw => (by (try dsimp only at hSw); go_simp)⟩) hHeld (fun hCl => ?_); (try simp only [List.getElem_toArray, List.getElem_cons_succ, List.getElem_cons_zero, Act.put, List.setIfInBounds_toArray, List.set_cons_zero, List.set_cons_succ])
        refine wpAnyE_take (i := 8) (v := .int .i64 (DA + (j : Int))) rfl (by kernel_rfl) (by kernel_rfl) (by kernel_rfl) (by kernel_rfl) hCl (fun _ _ _ h => h) (Or.inl ⟨rfl, fun w hSw => (by (try dsimp only at hSw); go_simp)⟩) hHeld (fun hCl => ?_); (try simp only [List.getElem_toArray, List.getElem_cons_succ, List.getElem_cons_zero, Act.put, List.setIfInBounds_toArray, List.set_cons_zero, List.set_cons_succ])
        refine wpAnyE_take (i := 9) (v := .int .i64 (j : Int)) rfl (by kernel_rfl) (by kernel_rfl) (by kernel_rfl) (by kernel_rfl) hCl (fun _ _ _ h => h) (Or.inl ⟨rfl, fun w hSw => (by (try dsimp only at hSw); go_simp)⟩) hHeld (fun hCl => ?_); (try simp only [List.getElem_toArray, List.getElem_cons_succ, List.getElem_cons_zero, Act.put, List.setIfInBounds_toArray, List.set_cons_zero, List.set_cons_succ])
        refine wpAnyE_take (i := 10) (v := .pointer (some ⟨w4.heap.size, j, none⟩)) rfl (by kernel_rfl) (by kernel_rfl) (by kernel_rfl) (by kernel_rfl) hCl (fun _ _ _ h => h) (Or.inl ⟨rfl, fun w hSw => (by (try dsimp only at hSw); go_simp)⟩) hHeld (fun hCl => ?_); (try simp only [List.getElem_toArray, List.getElem_cons_succ, List.getElem_cons_zero, Act.put, List.setIfInBounds_toArray, List.set_cons_zero, List.set_cons_succ])
        refine wpAnyE_take (i := 11) (v := .int .u8 ZN) rfl (by kernel_rfl) (by kernel_rfl) (by kernel_rfl) (by kernel_rfl) hCl (fun _ _ _ h => h) (Or.inl ⟨rfl, fun w hSw => (by (try dsimp only at hSw); go_simp)⟩) hHeld (fun hCl => ?_); (try simp only [List.getElem_toArray, List.getElem_cons_succ, List.getElem_cons_zero, Act.put, List.setIfInBounds_toArray, List.set_cons_zero, List.set_cons_succ])
        refine wpAnyE_ready (rs := [12]) (by kernel_rfl) (by simp) ?_; refine NextE.cons rfl (fun K hK => ?_) NextE.nil
        go_simp
        go_at_call 45
        (with_reducible refine (qf.out _).mono ?_)
        rintro e w9 ⟨rfl, hb9⟩
        have M9 := MA.out.drew.below hb9
        refine hK.out _ _ (fun _ => K2.out _ M9) (fun hHeld => ?_); replace hHeld := hHeld rfl; have hCl := hCl.step (j := 12) (by decide +kernel); clear hK K; (try simp only [List.getElem_toArray, List.getElem_cons_succ, List.getElem_cons_zero, Act.put, List.setIfInBounds_toArray, List.set_cons_zero, List.set_cons_succ])
        refine wpAnyE_ready (rs := [13]) (by kernel_rfl) (by simp) ?_; refine NextE.cons rfl (fun K hK => ?_) NextE.nil
        go_simp
        refine hK.out _ _ (fun _ => K2.out _ M9) (fun hHeld => ?_); replace hHeld := hHeld rfl; have hCl := hCl.step (j := 13) (by decide +kernel); clear hK K; (try simp only [List.getElem_toArray, List.getElem_cons_succ, List.getElem_cons_zero, Act.put, List.setIfInBounds_toArray, List.set_cons_zero, List.set_cons_succ])
        refine wpAnyE_ready (rs := [14]) (by kernel_rfl) (by simp) ?_; refine NextE.cons rfl (fun K hK => ?_) NextE.nil
        go_simp
        have M9b := M9.below (below_box (Below.refl _ _) (.cells #[.int .i64 (DA + (j : Int)), .string (blk Z)] 68))
        refine hK.out _ _ (fun _ => K2.out _ M9b) (fun hHeld => ?_); replace hHeld := hHeld rfl; have hCl := hCl.step (j := 14) (by decide +kernel); clear hK K; (try simp only [List.getElem_toArray, List.getElem_cons_succ, List.getElem_cons_zero, Act.put, List.setIfInBounds_toArray, List.set_cons_zero, List.set_cons_succ])
        have O9 := Lib.hid (own_new1 (own_below (w := wA.drew) hC2.out hb9) (.cells #[.int .i64 (DA + (j : Int)), .string (blk Z)] 68))
        have I9 := Lib.hid (own_below (w := wA.drew) HI1.out hb9)
        have NN9 := Lib.hid (World.news_of_block (heap_alloc_new w9 (.cells #[.int .i64 (DA + (j : Int)), .string (blk Z)] 68)))
        have hs9 : w.heap.size ≤ (w9.alloc (.cells #[.int .i64 (DA + (j : Int)), .string (blk Z)] 68)).heap.size := M9b.bel.size
        refine wpAnyE_ready (rs := [15]) (by kernel_rfl) (by simp) ?_; refine NextE.cons rfl (fun K hK => ?_) NextE.nil
        refine step_append_lies _ rfl (.tmp 70) (.tmp 83) 22 rfl w.heap.size 68 i0 (.agg #[.int .i64 0, .string ⟨#[]⟩]) 2 24 Tryz.underlying22 hi0 hz0 hz1 hz2 rfl (by decide) (.slice ah n ch) n (chgC (Sys.chTo g x j)) (by simp [Act.eval, Act.put]; done) O9.out ⟨w9.heap.size, 0, none⟩ 1 1 [.int .i64 (DA + (j : Int)), .string (blk Z)] (by simp [Act.eval, Act.put]; done) rfl NN9.out hone (by decide) (by unfold maxLen; omega) (by omega) hs9 _ rfl ?_
        intro g5 c5 w5' hown hgrow hat hlt5
        have M5 := M9.grown O9.out hgrow (by decide) (by decide) (by decide) (by decide) (by decide)
        have P5 := Lib.hid (M9.push (k := 0) (v5 := .slice (some ⟨g5, 0, none⟩) (n + 1) c5) (vc' := .slice (some ⟨g5, 0, none⟩) (n + 1) c5) (vr' := vr) HN.out O9.out hgrow hown rfl (by decide) (by decide) (by decide) (by decide) (by decide))
        have Q5 := Lib.hid (M9.kept (k := 0) (v5 := .slice (some ⟨g5, 0, none⟩) (n + 1) c5) O9.out hgrow I9.out (by decide) (by decide) (by decide))
        refine hK.out _ _ (fun _ => K2.out _ M5) (fun hHeld => ?_); replace hHeld := hHeld rfl; have hCl := hCl.step (j := 15) (by decide +kernel); clear hK K; (try simp only [List.getElem_toArray, List.getElem_cons_succ, List.getElem_cons_zero, Act.put, List.setIfInBounds_toArray, List.set_cons_zero, List.set_cons_succ])
        refine wpAnyE_ready (rs := [16]) (by kernel_rfl) (by simp) ?_; refine NextE.cons rfl (fun K hK => ?_) NextE.nil
        go_simp
        refine hK.out _ _ (fun _ => K2.out _ M5) (fun hHeld => ?_); replace hHeld := hHeld rfl; have hCl := hCl.step (j := 16) (by decide +kernel); clear hK K; (try simp only [List.getElem_toArray, List.getElem_cons_succ, List.getElem_cons_zero, Act.put, List.setIfInBounds_toArray, List.set_cons_zero, List.set_cons_succ])
        have cX5 := M5.t.cellAt 0 rfl
        have fX5 := M5.t.free 0 (by simp)
        refine wpAnyE_ready (rs := [17]) (by kernel_rfl) (by simp) ?_; refine NextE.cons rfl (fun K hK => ?_) NextE.nil
        go_simp
        refine hK.out _ _ (fun h => by cases h) (fun _ => ?_); clear hK K; (try simp only [List.getElem_toArray, List.getElem_cons_succ, List.getElem_cons_zero, Act.put, List.setIfInBounds_toArray, List.set_cons_zero, List.set_cons_succ])
        refine wpAnyE_done (by kernel_rfl) ?_ _
        clear hHeld hCl M9 M9b M5 hgrow hown hat hlt5 cX5 fX5 hs9 O9 I9 NN9 hone K2 qf MA HI1 hC2 x0 y0 z0 f0 hb9 h17
        generalize World.setCell _ _ _ = wB at *
        go_wp2_with fail
        go_roundw
        case rel => exact ⟨j + 1, _, _, by go_num, by omega, Lib.hid (by rw [HNX2.out]; exact P5.out.1), Lib.hid (by unfold OwnC; rw [HCX.out, List.length_append, HN17.out, chgC_append, ← HGA.out]; exact P5.out.2), Lib.hid (by unfold OwnInts; rw [HRX.out]; exact Q5.out)⟩
        case measure => simp [intOf]; omega
      · have hch' : Sys.has x.change j = false := by simpa using hch
        rw [hch'] at cj
        by_cases hrv : Sys.has x.revoke j = true
        · rw [hrv] at ck
          have hnx : Sys.nxTo home want x (j + 1) = (Sys.nxTo home want x j).set j (home.getD j 0) := by rw [Sys.nxTo, if_neg hch, if_pos hrv]
          have hcx : Sys.chTo g x (j + 1) = Sys.chTo g x j := by rw [Sys.chTo, if_neg hch]
          have hrx : Sys.rvTo g x (j + 1) = Sys.rvTo g x j ++ [((Sys.hb g j : Nat) : Int)] := by rw [Sys.rvTo, if_neg hch, if_pos hrv]
          have M1 := Lib.hid (M.out.setN HN.out j (home.getD j 0))
          rw [← hnx] at M1
          have ch0 := M.out.wd.homeAt HHL.out HWL.out j hlt
          have HNX := Lib.hid hnx
          have HCX := Lib.hid hcx
          have HRX := Lib.hid hrx
          clear hnx hcx hrx hch hch' hrv
          have hC1 : Hid (OwnC w.heap.size (wr.setCell ⟨w4.heap.size, j, none⟩ (bval (home.getD j 0))) vc (Sys.chTo g x j)) := Lib.hid (own_setR (a := ⟨w4.heap.size, j, none⟩) M.out.n hC.out (by decide))
          have hI1 : Hid (OwnInts w.heap.size (wr.setCell ⟨w4.heap.size, j, none⟩ (bval (home.getD j 0))) vr (Sys.rvTo g x j)) := Lib.hid (own_setR (a := ⟨w4.heap.size, j, none⟩) M.out.n hI.out (by decide))
          unfold bval at ch0 M1 hC1 hI1
          obtain ⟨ZN, hZN⟩ : ∃ z : Int, ((home.getD j 0).toNat : Int) = z := ⟨_, rfl⟩
          rw [hZN] at ch0 M1 hC1 hI1
          clear hZN
          go_upto_region 20 with fail
          have MA : Hid (TM w wb [bval x.kind, .slice ac x.change.length cc, .slice ar x.revoke.length cr, bval x.fill, .bool x.data] (sysC g db lb home want) w.heap.size (w.heap.size + 1) (w.heap.size + 1 + 1) (w.heap.size + 1 + 1 + 1) w4.heap.size w5.heap.size (w5.heap.size + 1) (fl x.change (min x.change.length 30)) (fl x.revoke (min x.revoke.length 30)) (Sys.nxTo home want x (j + 1)) vc vr (wr.setCell ⟨w4.heap.size, j, none⟩ (.int .u8 ZN))) := M1
          have hrl : (Sys.rvTo g x j).length ≤ j := (Sys.chTo_length g x j).2
          obtain ⟨ar', cr', rfl⟩ := OwnInts.slice hI1.out
          have K2 : Hid (∀ (wz : World), TM w wb [bval x.kind, .slice ac x.change.length cc, .slice ar x.revoke.length cr, bval x.fill, .bool x.data] (sysC g db lb home want) w.heap.size (w.heap.size + 1) (w.heap.size + 1 + 1) (w.heap.size + 1 + 1 + 1) w4.heap.size w5.heap.size (w5.heap.size + 1) (fl x.change (min x.change.length 30)) (fl x.revoke (min x.revoke.length 30)) (Sys.nxTo home want x (j + 1)) vc (.slice ar' (Sys.rvTo g x j).length cr') wz → wz.cell? ⟨w.heap.size + 1 + 1 + 1, 1, none⟩ = some (.slice ar' (Sys.rvTo g x j).length cr') ∧ wz.cell? ⟨wb, 8, none⟩ = some (.int .i64 DA)) := Lib.hid (fun wz h => ⟨h.t.cellAt 1 rfl, KW.out _ _ _ _ h⟩)
          generalize wr.setCell _ _ = wA at *
          have h17 : IntKind.i64.wrap (DA + (j : Int)) = DA + (j : Int) := IntWalk.i64_in _ (by omega)
          have hone : ∀ u ∈ [Value.int .i64 (DA + (j : Int))], u.oneCell' = true := by intro u hu; rw [List.mem_singleton.1 hu]; rfl
          obtain ⟨x0, y0⟩ := K2.out _ MA.out
          obtain ⟨n, hn⟩ : ∃ n, (Sys.rvTo g x j).length = n := ⟨_, rfl⟩
          have HN17 := Lib.hid hn
          rw [hn] at hrl hI1 x0 K2 MA M1
          have hI2 : Hid (wA.ownsRow w.heap.size 3 1 (.slice ar' n cr') n (icells (Sys.rvTo g x j))) := Lib.hid (by have := hI1.out; unfold OwnInts at this; rwa [hn] at this)
          have HC1 := hC1
          clear hn cj ck cn0 fn0 M1 hC1 M hC hI hI1 ch0
          obtain ⟨NX, hNX⟩ : ∃ NX, Sys.nxTo home want x (j + 1) = NX := ⟨_, rfl⟩
          rw [hNX] at K2 MA
          have HNX2 := Lib.hid hNX
          clear hNX
          refine wp_region_E (S := fun w' => w'.cell? ⟨w.heap.size + 1 + 1 + 1, 1, none⟩ = some (.slice ar' n cr') ∧ w'.cell? ⟨wb, 8, none⟩ = some (.int .i64 DA)) (E := [12]) (by kernel_rfl) ⟨x0, y0⟩ (fun hHeld hCl => ?_)
          refine wpAnyE_take (i := 0) (v := .pointer (some ⟨w.heap.size + 1 + 1 + 1, 1, none⟩)) rfl (by kernel_rfl) (by kernel_rfl) (by kernel_rfl) (by kernel_rfl) hCl (fun _ _ _ h => h) (Or.inl ⟨rfl, fun w hSw => (by (try dsimp only at hSw); go_simp)⟩) hHeld (fun hCl => ?_); (try simp only [List.getElem_toArray, List.getElem_cons_zero, Act.put, List.setIfInBounds_toArray, List.set_cons_zero, List.set_cons_succ])
          refine wpAnyE_take (i := 1) (v := .slice ar' n cr') rfl (by kernel_rfl) (by kernel_rfl) (by kernel_rfl) (by kernel_rfl) hCl (fun _ _ _ h => h) (Or.inl ⟨rfl, fun w hSw => (by (try dsimp only at hSw); go_simp)⟩) hHeld (fun hCl => ?_); (try simp only [List.getElem_toArray, List.getElem_cons_succ, List.getElem_cons_zero, Act.put, List.setIfInBounds_toArray, List.set_cons_zero, List.set_cons_succ])
          refine wpAnyE_take (i := 2) (v := .pointer (some ⟨wb, 0, none⟩)) rfl (by kernel_rfl) (by kernel_rfl) (by kernel_rfl) (by kernel_rfl) hCl (fun _ _ _ h => h) (Or.inl ⟨rfl, fun w hSw => (by (try dsimp only at hSw); go_simp)⟩) hHeld (fun hCl => ?_); (try simp only [List.getElem_toArray, List.getElem_cons_succ, List.getElem_cons_zero, Act.put, List.setIfInBounds_toArray, List.set_cons_zero, List.set_cons_succ])
          refine wpAnyE_take (i := 3) (v := .pointer (some ⟨wb, 0, none⟩)) rfl (by kernel_rfl) (by kernel_rfl) (by kernel_rfl) (by kernel_rfl) hCl (fun _ _ _ h => h) (Or.inl ⟨rfl, fun w hSw => (by (try dsimp only at hSw); go_simp)⟩) hHeld (fun hCl => ?_); (try simp only [List.getElem_toArray, List.getElem_cons_succ, List.getElem_cons_zero, Act.put, List.setIfInBounds_toArray, List.set_cons_zero, List.set_cons_succ])
          refine wpAnyE_take (i := 4) (v := .pointer (some ⟨wb, 0, none⟩)) rfl (by kernel_rfl) (by kernel_rfl) (by kernel_rfl) (by kernel_rfl) hCl (fun _ _ _ h => h) (Or.inl ⟨rfl, fun w hSw => (by (try dsimp only at hSw); go_simp)⟩) hHeld (fun hCl => ?_); (try simp only [List.getElem_toArray, List.getElem_cons_succ, List.getElem_cons_zero, Act.put, List.setIfInBounds_toArray, List.set_cons_zero, List.set_cons_succ])
          refine wpAnyE_take (i := 5) (v := .pointer (some ⟨wb, 8, none⟩)) rfl (by kernel_rfl) (by kernel_rfl) (by kernel_rfl) (by kernel_rfl) hCl (fun _ _ _ h => h) (Or.inl ⟨rfl, fun w hSw => (by (try dsimp only at hSw); go_simp)⟩) hHeld (fun hCl => ?_); (try simp only [List.getElem_toArray, List.getElem_cons_succ, List.getElem_cons_zero, Act.put, List.setIfInBounds_toArray, List.set_cons_zero, List.set_cons_succ])
          refine wpAnyE_take (i := 6) (v := .int .i64 DA) rfl (by kernel_rfl) (by kernel_rfl) (by kernel_rfl) (by kernel_rfl) hCl (fun _ _ _ h => h) (Or.inl ⟨rfl, fun w hSw => (by (try dsimp only at hSw); go_simp)⟩) hHeld (fun hCl => ?_); (try simp only [List.getElem_toArray, List.getElem_cons_succ, List.getElem_cons_zero, Act.put, List.setIfInBounds_toArray, List.set_cons_zero, List.set_cons_succ])
          refine wpAnyE_take (i := 7) (v := .int .i64 (j : Int)) rfl (by kernel_rfl) (by kernel_rfl) (by kernel_rfl) (by kernel_rfl) hCl (fun _ _ _ h => h) (Or.inl ⟨rfl, fun w hSw => (by (try dsimp only at hSw); go_simp)⟩) hHeld (fun hCl => ?_); (try simp only [List.getElem_toArray, List.getElem_cons_succ, List.getElem_cons_zero, Act.put, List.setIfInBounds_toArray, List.set_cons_zero, List.set_cons_succ])
          refine wpAnyE_take (i := 8) (v := .int .i64 (DA + (j : Int))) rfl (by kernel_rfl) (by kernel_rfl) (by kernel_rfl) (by kernel_rfl) hCl (fun _ _ _ h => h) (Or.inl ⟨rfl, fun w hSw => (by (try dsimp only at hSw); go_simp)⟩) hHeld (fun hCl => ?_); (try simp only [List.getElem_toArray, List.getElem_cons_succ, List.getElem_cons_zero, Act.put, List.setIfInBounds_toArray, List.set_cons_zero, List.set_cons_succ])
          refine wpAnyE_ready (rs := [9]) (by kernel_rfl) (by simp) ?_; refine NextE.cons rfl (fun K hK => ?_) NextE.nil
          go_simp
          have M9b := MA.out.drew.below (below_box (Below.refl _ _) (.cells #[.int .i64 (DA + (j : Int))] 3))
          refine hK.out _ _ (fun _ => K2.out _ M9b) (fun hHeld => ?_); replace hHeld := hHeld rfl; have hCl := hCl.step (j := 9) (by decide +kernel); clear hK K; (try simp only [List.getElem_toArray, List.getElem_cons_succ, List.getElem_cons_zero, Act.put, List.setIfInBounds_toArray, List.set_cons_zero, List.set_cons_succ])
          have O9 := Lib.hid (own_new1 (w := wA.drew) hI2.out (.cells #[.int .i64 (DA + (j : Int))] 3))
          have I9 := Lib.hid (show wA.drew.ownsRow w.heap.size 68 2 vc _ _ from HC1.out)
          have NN9 := Lib.hid (World.news_of_block (heap_alloc_new wA.drew (.cells #[.int .i64 (DA + (j : Int))] 3)))
          have hs9 : w.heap.size ≤ (wA.drew.alloc (.cells #[.int .i64 (DA + (j : Int))] 3)).heap.size := M9b.bel.size
          refine wpAnyE_ready (rs := [10]) (by kernel_rfl) (by simp) ?_; refine NextE.cons rfl (fun K hK => ?_) NextE.nil
          refine step_append_lies _ rfl (.tmp 98) (.tmp 106) 23 rfl w.heap.size 3 k0 (.int .i64 0) 1 8 Tryz.underlying23 hk0 kz0 kz1 kz2 rfl (by decide) (.slice ar' n cr') n (icells (Sys.rvTo g x j)) (by simp [Act.eval, Act.put]; done) O9.out ⟨wA.heap.size, 0, none⟩ 1 1 [.int .i64 (DA + (j : Int))] (by simp [Act.eval, Act.put]; done) rfl NN9.out hone (by decide) (by unfold maxLen; omega) (by omega) hs9 _ rfl ?_
          intro g5 c5 w5' hown hgrow hat hlt5
          have M5 := MA.out.drew.grown O9.out hgrow (by decide) (by decide) (by decide) (by decide) (by decide)
          have P5 := Lib.hid (MA.out.drew.push (k := 1) (v5 := .slice (some ⟨g5, 0, none⟩) (n + 1) c5) (vc' := vc) (vr' := .slice (some ⟨g5, 0, none⟩) (n + 1) c5) HN.out O9.out hgrow hown rfl (by decide) (by decide) (by decide) (by decide) (by decide))
          have Q5 := Lib.hid (MA.out.drew.kept (k := 1) (v5 := .slice (some ⟨g5, 0, none⟩) (n + 1) c5) O9.out hgrow I9.out (by decide) (by decide) (by decide))
          refine hK.out _ _ (fun _ => K2.out _ M5) (fun hHeld => ?_); replace hHeld := hHeld rfl; have hCl := hCl.step (j := 10) (by decide +kernel); clear hK K; (try simp only [List.getElem_toArray, List.getElem_cons_succ, List.getElem_cons_zero, Act.put, List.setIfInBounds_toArray, List.set_cons_zero, List.set_cons_succ])
          refine wpAnyE_ready (rs := [11]) (by kernel_rfl) (by simp) ?_; refine NextE.cons rfl (fun K hK => ?_) NextE.nil
          go_simp
          refine hK.out _ _ (fun _ => K2.out _ M5) (fun hHeld => ?_); replace hHeld := hHeld rfl; have hCl := hCl.step (j := 11) (by decide +kernel); clear hK K; (try simp only [List.getElem_toArray, List.getElem_cons_succ, List.getElem_cons_zero, Act.put, List.setIfInBounds_toArray, List.set_cons_zero, List.set_cons_succ])
          have cX5 := M5.t.cellAt 1 rfl
          have fX5 := M5.t.free 1 (by simp)
          refine wpAnyE_ready (rs := [12]) (by kernel_rfl) (by simp) ?_; refine NextE.cons rfl (fun K hK => ?_) NextE.nil
          go_simp
          refine hK.out _ _ (fun h => by cases h) (fun _ => ?_); clear hK K; (try simp only [List.getElem_toArray, List.getElem_cons_succ, List.getElem_cons_zero, Act.put, List.setIfInBounds_toArray, List.set_cons_zero, List.set_cons_succ])
          refine wpAnyE_done (by kernel_rfl) ?_ _
          clear hHeld hCl M9b M5 hgrow hown hat hlt5 cX5 fX5 hs9 O9 I9 NN9 hone K2 MA HC1 hI2 x0 y0 h17
          generalize World.setCell _ _ _ = wB at *
          go_wp2_with fail
          go_roundw
          case rel => exact ⟨j + 1, _, _, by go_num, by omega, Lib.hid (by rw [HNX2.out]; exact P5.out.1), Lib.hid (by unfold OwnC; rw [HCX.out]; exact Q5.out), Lib.hid (by unfold OwnInts; rw [HRX.out, List.length_append, HN17.out, icells_append, ← HGA.out]; exact P5.out.2)⟩
          case measure => simp [intOf]; omega
        · have hrv' : Sys.has x.revoke j = false := by simpa using hrv
          rw [hrv'] at ck
          have hnx : Sys.nxTo home want x (j + 1) = Sys.nxTo home want x j := by rw [Sys.nxTo, if_neg hch, if_neg hrv]
          have hcx : Sys.chTo g x (j + 1) = Sys.chTo g x j := by rw [Sys.chTo, if_neg hch]
          have hrx : Sys.rvTo g x (j + 1) = Sys.rvTo g x j := by rw [Sys.rvTo, if_neg hch, if_neg hrv]
          have HNX := Lib.hid hnx
          have HCX := Lib.hid hcx
          have HRX := Lib.hid hrx
          clear hnx hcx hrx hch hch' hrv hrv' cn0 fn0
          go_wp2_with fail
          go_roundw
          case rel => exact ⟨j + 1, _, _, by go_num, by omega, Lib.hid (by rw [HNX.out]; exact M.out), Lib.hid (by rw [HCX.out]; exact hC.out), Lib.hid (by rw [HRX.out]; exact hI.out)⟩
          case measure => simp [intOf]; omega
    · have hje : j = 12 := by omega
      subst hje
      have i1 : ¬ (((12 : Nat) : Int)) < 12 := by omega
      obtain ⟨acx, ccx, rfl⟩ := OwnC.slice hC.out
      obtain ⟨arx, crx, rfl⟩ := OwnInts.slice hI.out
      have c4 : wr.cell? ⟨w.heap.size, 4, none⟩ = some (.bool x.data) := M.out.s.cellAt 4 rfl
      by_cases hd : x.data = true
      · have HDX := Lib.hid hd
        rw [hd] at c4
        clear hd
        go_upto_region 23 with fail
        have qf1 : Hid (∀ wz, Calls Tryz.prog 45 #[.int .u8 (x.fill.toNat : Int)] wz fun e w' => e = .returned (.string (blk x.fill)) ∧ Below wz.heap.size wz w') := Lib.hid (fun wz => fill_any x.fill wz)
        have qf2 : Hid (∀ wz, Calls Tryz.prog 45 #[.int .u8 ((x.fill + 1).toNat : Int)] wz fun e w' => e = .returned (.string (blk (x.fill + 1))) ∧ Below wz.heap.size wz w') := Lib.hid (fun wz => fill_any (x.fill + 1) wz)
        have hw1 : IntKind.u8.wrap ((x.fill.toNat : Int) + 1) = ((x.fill + 1).toNat : Int) := by
          have := u8_sum x.fill.toNat 1 x.fill.toNat_lt (by decide)
          rw [UInt8.ofNat_toNat] at this
          exact this
        obtain ⟨g1, g2, g3⟩ := hga.out 12 (by decide)
        obtain ⟨g4, g5, g6⟩ := hga.out 13 (by decide)
        have HD12 := Lib.hid g3
        have HD13 := Lib.hid g6
        have hwd1 : IntKind.i64.wrap (DA + 12) = DA + 12 := IntWalk.i64_in _ (by omega)
        have hwd2 : IntKind.i64.wrap (DA + 12 + 1) = DA + 12 + 1 := IntWalk.i64_in _ (by omega)
        have K3 : Hid (∀ (wz : World), TM w wb [bval x.kind, .slice ac x.change.length cc, .slice ar x.revoke.length cr, bval x.fill, .bool x.data] (sysC g db lb home want) w.heap.size (w.heap.size + 1) (w.heap.size + 1 + 1) (w.heap.size + 1 + 1 + 1) w4.heap.size w5.heap.size (w5.heap.size + 1) (fl x.change (min x.change.length 30)) (fl x.revoke (min x.revoke.length 30)) (Sys.nxTo home want x 12) (.slice acx (Sys.chTo g x 12).length ccx) (.slice arx (Sys.rvTo g x 12).length crx) wz → wz.cell? ⟨wb, 8, none⟩ = some (.int .i64 DA) ∧ wz.cell? ⟨w.heap.size, 3, none⟩ = some (.int .u8 (x.fill.toNat : Int))) := Lib.hid (fun wz h => ⟨KW.out _ _ _ _ h, h.s.cellAt 3 rfl⟩)
        obtain ⟨x0, y0⟩ := K3.out _ M.out
        clear g1 g2 g3 g4 g5 g6
        generalize (x.fill.toNat : Int) = FN at *
        generalize ((x.fill + 1).toNat : Int) = FM at *
        go_region_held3 (fun w' => w'.cell? ⟨wb, 8, none⟩ = some (.int .i64 DA) ∧ w'.cell? ⟨w.heap.size, 3, none⟩ = some (.int .u8 FN))
          (first | exact ⟨x0, y0⟩ | exact K3.out _ (M8.below (below_box (Below.refl _ _) _)) | exact K3.out _ M8 | exact K3.out _ M7)
          (first | (go_at_call 45; (with_reducible refine (qf1.out _).mono ?_); rintro e w7 ⟨rfl, hb7'⟩; have M7 := M.out.drew.below hb7') | (go_at_call 45; (with_reducible refine (qf2.out _).mono ?_); rintro e w8 ⟨rfl, hb8'⟩; have M8 := M7.below hb8') | fail "none")
        go_upto_region 24 with fail
        have M9 := M8.below (below_box (Below.refl _ _) (.cells #[.int .i64 (DA + 12), .string (blk x.fill), .int .i64 (DA + 12 + 1), .string (blk (x.fill + 1))] 68))
        have MF := Lib.hid M9
        have CF : Hid (OwnC w.heap.size (w8.alloc (.cells #[.int .i64 (DA + 12), .string (blk x.fill), .int .i64 (DA + 12 + 1), .string (blk (x.fill + 1))] 68)) _ (Sys.chTo g x 12)) := Lib.hid (own_new1 (own_below (own_below (w := wr.drew) hC.out hb7') hb8') _)
        have IF : Hid (OwnInts w.heap.size (w8.alloc (.cells #[.int .i64 (DA + 12), .string (blk x.fill), .int .i64 (DA + 12 + 1), .string (blk (x.fill + 1))] 68)) _ (Sys.rvTo g x 12)) := Lib.hid (own_new1 (own_below (own_below (w := wr.drew) hI.out hb7') hb8') _)
        have DF : Hid (OwnC w.heap.size (w8.alloc (.cells #[.int .i64 (DA + 12), .string (blk x.fill), .int .i64 (DA + 12 + 1), .string (blk (x.fill + 1))] 68)) (.slice (some ⟨w8.heap.size, 0, none⟩) 2 2) (Sys.dataT g x)) := Lib.hid (by
          have e : Sys.dataT g x = [(DA + 12, blk x.fill), (DA + 12 + 1, blk (x.fill + 1))] := by
            unfold Sys.dataT
            rw [if_pos HDX.out, ← HD12.out, ← HD13.out]
            rw [show DA + 12 + 1 = DA + ((13 : Nat) : Int) by omega]
            rfl
          rw [e]
          exact World.ownsRow.mono (ownC_lit w8 (DA + 12) (DA + 12 + 1) (blk x.fill) (blk (x.fill + 1))) M8.bel.size)
        have HBS := Lib.hid M8.bel.size
        generalize World.alloc w8 _ = wf at *
        clear M7 M8 M9 hb7' hb8' c4 x0 y0 K3 qf1 qf2 hw1 hwd1 hwd2 M hC hI i1
        have L4 : w.heap.size + 1 ≠ w.heap.size + 1 + 1 + 1 := by omega
        have L5 : w.heap.size + 1 ≠ w4.heap.size := by have := HN.out.ne; omega
        have L6 : w.heap.size + 1 ≠ w.heap.size + 1 + 1 := by omega
        have T1 := ((MF.out.t.other (a := ⟨w.heap.size + 1, 0, none⟩) L4 (.slice acx (Sys.chTo g x 12).length ccx)).other (a := ⟨w.heap.size + 1, 1, none⟩) L4 (.slice arx (Sys.rvTo g x 12).length crx)).drew
        have N1 := ((MF.out.n.other (a := ⟨w.heap.size + 1, 0, none⟩) L5 (.slice acx (Sys.chTo g x 12).length ccx)).other (a := ⟨w.heap.size + 1, 1, none⟩) L5 (.slice arx (Sys.rvTo g x 12).length crx)).drew
        have R61 := ((MF.out.r6.other (a := ⟨w.heap.size + 1, 0, none⟩) L6 (.slice acx (Sys.chTo g x 12).length ccx)).other (a := ⟨w.heap.size + 1, 1, none⟩) L6 (.slice arx (Sys.rvTo g x 12).length crx)).drew
        have R41 := ((MF.out.r4.set 0 (.slice acx (Sys.chTo g x 12).length ccx)).set 1 (.slice arx (Sys.rvTo g x 12).length crx)).drew
        have d0 := MF.out.r4.cellAt 0 rfl
        have d1 := MF.out.r4.cellAt 1 rfl
        have e0 := MF.out.r4.free 0 (by simp)
        have e1 := MF.out.r4.free 1 (by simp)
        have hlN : (Sys.nxTo home want x 12).length = 12 := by rw [Sys.nxTo_length]; exact HWL.out
        have HLN := Lib.hid hlN
        clear hlN
        have SO := Lib.hid (R61.segSome (off := 0) (n := (bcells (Sys.nxTo home want x 12)).length) (by rw [bcells_length, bcells_length, HLN.out]; decide))
        have SF := Lib.hid (R61.segFree (off := 0) (n := (bcells (Sys.nxTo home want x 12)).length) (by rw [bcells_length, bcells_length, HLN.out]; decide))
        have hs1 : Hid ((((wf.setCell ⟨w.heap.size + 1, 0, none⟩ (.slice acx (Sys.chTo g x 12).length ccx)).setCell ⟨w.heap.size + 1, 1, none⟩ (.slice arx (Sys.rvTo g x 12).length crx)).drew).cell? ⟨w.heap.size + 1 + 1 + 1, 0, none⟩ = some (.slice acx (Sys.chTo g x 12).length ccx) ∧ (((wf.setCell ⟨w.heap.size + 1, 0, none⟩ (.slice acx (Sys.chTo g x 12).length ccx)).setCell ⟨w.heap.size + 1, 1, none⟩ (.slice arx (Sys.rvTo g x 12).length crx)).drew).cell? ⟨w.heap.size + 1 + 1 + 1, 1, none⟩ = some (.slice arx (Sys.rvTo g x 12).length crx) ∧ ∀ j v, (bcells (Sys.nxTo home want x 12))[j]? = some v → (((wf.setCell ⟨w.heap.size + 1, 0, none⟩ (.slice acx (Sys.chTo g x 12).length ccx)).setCell ⟨w.heap.size + 1, 1, none⟩ (.slice arx (Sys.rvTo g x 12).length crx)).drew).cell? ⟨w4.heap.size, 0 + j, none⟩ = some v) := Lib.hid ⟨T1.cellAt 0 rfl, T1.cellAt 1 rfl, fun j v hv => by rw [Nat.zero_add]; exact N1.cellAt j hv⟩
        have R42 := Lib.hid (R41.setCellsOther (Ne.symm L6) (bcells (Sys.nxTo home want x 12)) 0)
        have R62 := Lib.hid (R61.setCells (bcells (Sys.nxTo home want x 12)) 0)
        have B62 : Hid (Below w.heap.size w (((wf.setCell ⟨w.heap.size + 1, 0, none⟩ (.slice acx (Sys.chTo g x 12).length ccx)).setCell ⟨w.heap.size + 1, 1, none⟩ (.slice arx (Sys.rvTo g x 12).length crx)).drew.setCells (w.heap.size + 1 + 1) 0 (bcells (Sys.nxTo home want x 12)))) := Lib.hid (((MF.out.bel.setCell (p := ⟨w.heap.size + 1, 0, none⟩) (by simp) _).setCell (p := ⟨w.heap.size + 1, 1, none⟩) (by simp) _).drew.trans ((Only.setCells (S := [w.heap.size + 1 + 1]) (by simp) _ _ _).below (by have := HN.out.lo; have := MF.out.r6.lt; simp; omega) (by intro k hk; have := List.mem_singleton.1 hk; omega)))
        have C62 : Hid (OwnC w.heap.size (((wf.setCell ⟨w.heap.size + 1, 0, none⟩ (.slice acx (Sys.chTo g x 12).length ccx)).setCell ⟨w.heap.size + 1, 1, none⟩ (.slice arx (Sys.rvTo g x 12).length crx)).drew.setCells (w.heap.size + 1 + 1) 0 (bcells (Sys.nxTo home want x 12))) (.slice acx (Sys.chTo g x 12).length ccx) (Sys.chTo g x 12)) := Lib.hid (own_setCellsR (by decide) _ _ R61 (own_setR (a := ⟨w.heap.size + 1, 1, none⟩) (MF.out.r4.set 0 (.slice acx (Sys.chTo g x 12).length ccx)) (own_setR (a := ⟨w.heap.size + 1, 0, none⟩) MF.out.r4 CF.out (by decide)) (by decide)))
        have I62 : Hid (OwnInts w.heap.size (((wf.setCell ⟨w.heap.size + 1, 0, none⟩ (.slice acx (Sys.chTo g x 12).length ccx)).setCell ⟨w.heap.size + 1, 1, none⟩ (.slice arx (Sys.rvTo g x 12).length crx)).drew.setCells (w.heap.size + 1 + 1) 0 (bcells (Sys.nxTo home want x 12))) (.slice arx (Sys.rvTo g x 12).length crx) (Sys.rvTo g x 12)) := Lib.hid (own_setCellsR (by decide) _ _ R61 (own_setR (a := ⟨w.heap.size + 1, 1, none⟩) (MF.out.r4.set 0 (.slice acx (Sys.chTo g x 12).length ccx)) (own_setR (a := ⟨w.heap.size + 1, 0, none⟩) MF.out.r4 IF.out (by decide)) (by decide)))
        have D62 : Hid (OwnC w.heap.size (((wf.setCell ⟨w.heap.size + 1, 0, none⟩ (.slice acx (Sys.chTo g x 12).length ccx)).setCell ⟨w.heap.size + 1, 1, none⟩ (.slice arx (Sys.rvTo g x 12).length crx)).drew.setCells (w.heap.size + 1 + 1) 0 (bcells (Sys.nxTo home want x 12))) (.slice (some ⟨w8.heap.size, 0, none⟩) 2 2) (Sys.dataT g x)) := Lib.hid (own_setCellsR (by decide) _ _ R61 (own_setR (a := ⟨w.heap.size + 1, 1, none⟩) (MF.out.r4.set 0 (.slice acx (Sys.chTo g x 12).length ccx)) (own_setR (a := ⟨w.heap.size + 1, 0, none⟩) MF.out.r4 DF.out (by decide)) (by decide)))
        clear T1 N1 R61 R41 L4 L5 L6
        refine wp_region_E (S := fun w' => w'.cell? ⟨w.heap.size + 1 + 1 + 1, 0, none⟩ = some (.slice acx (Sys.chTo g x 12).length ccx) ∧ w'.cell? ⟨w.heap.size + 1 + 1 + 1, 1, none⟩ = some (.slice arx (Sys.rvTo g x 12).length crx) ∧ ∀ j v, (bcells (Sys.nxTo home want x 12))[j]? = some v → w'.cell? ⟨w4.heap.size, 0 + j, none⟩ = some v) (E := [5]) (by kernel_rfl) ⟨MF.out.t.cellAt 0 rfl, MF.out.t.cellAt 1 rfl, fun j v hv => by rw [Nat.zero_add]; exact MF.out.n.cellAt j hv⟩ (fun hHeld hCl => ?_)
        refine wpAnyE_take (i := 0) (v := .agg #[.slice acx (Sys.chTo g x 12).length ccx, .slice arx (Sys.rvTo g x 12).length crx]) rfl (by kernel_rfl) (by kernel_rfl) (by kernel_rfl) (by kernel_rfl) hCl (fun _ _ _ h => h) (Or.inl ⟨rfl, fun w hSw => (by (try dsimp only at hSw); go_simp)⟩) hHeld (fun hCl => ?_); (try simp only [List.getElem_toArray, List.getElem_cons_zero, Act.put, List.setIfInBounds_toArray, List.set_cons_zero, List.set_cons_succ])
        refine wpAnyE_take (i := 1) (v := .slice (some ⟨w8.heap.size, 0, none⟩) 2 2) rfl (by kernel_rfl) (by kernel_rfl) (by kernel_rfl) (by kernel_rfl) hCl (fun _ _ _ h => h) (Or.inl ⟨rfl, fun w hSw => (by (try dsimp only at hSw); go_simp)⟩) hHeld (fun hCl => ?_); (try simp only [List.getElem_toArray, List.getElem_cons_succ, List.getElem_cons_zero, Act.put, List.setIfInBounds_toArray, List.set_cons_zero, List.set_cons_succ])
        refine wpAnyE_take (i := 2) (v := .agg (bcells (Sys.nxTo home want x 12)).toArray) rfl (by kernel_rfl) (by kernel_rfl) (by kernel_rfl) (by kernel_rfl) hCl (fun _ _ _ h => h) (Or.inl ⟨rfl, fun w hSw => exec_load_seg _ _ rfl w4.heap.size 0 rfl (bcells (Sys.nxTo home want x 12)) _ hSw.2.2 Tryz.underlying64 rfl (by rw [bcells_length, HLN.out]; kernel_rfl)⟩) hHeld (fun hCl => ?_)
        (try simp only [List.getElem_toArray, List.getElem_cons_succ, List.getElem_cons_zero, Act.put, List.setIfInBounds_toArray, List.set_cons_zero, List.set_cons_succ])
        refine wpAnyE_ready (rs := [3]) (by kernel_rfl) (by simp) ?_; refine NextE.cons rfl (fun K hK => ?_) NextE.nil
        go_simp
        refine hK.out _ _ (fun _ => hs1.out) (fun hHeld => ?_); replace hHeld := hHeld rfl; have hCl := hCl.step (j := 3) (by decide +kernel); clear hK K; (try simp only [List.getElem_toArray, List.getElem_cons_succ, List.getElem_cons_zero, Act.put, List.setIfInBounds_toArray, List.set_cons_zero, List.set_cons_succ])
        refine wpAnyE_ready (rs := [4]) (by kernel_rfl) (by simp) ?_; refine NextE.cons rfl (fun K hK => ?_) NextE.nil
        go_simp
        refine hK.out _ _ (fun _ => hs1.out) (fun hHeld => ?_); replace hHeld := hHeld rfl; have hCl := hCl.step (j := 4) (by decide +kernel); clear hK K; (try simp only [List.getElem_toArray, List.getElem_cons_succ, List.getElem_cons_zero, Act.put, List.setIfInBounds_toArray, List.set_cons_zero, List.set_cons_succ])
        refine wpAnyE_ready (rs := [5]) (by kernel_rfl) (by simp) ?_; refine NextE.cons rfl (fun K hK => ?_) NextE.nil
        refine step_store_seg rfl _ _ _ rfl (w.heap.size + 1 + 1) 0 (bcells (Sys.nxTo home want x 12)) rfl rfl (by rw [bcells_length, HLN.out]; kernel_rfl) SO.out SF.out (bcells_one _) ?_
        refine hK.out _ _ (fun h => by cases h) (fun _ => ?_); clear hK K; (try simp only [List.getElem_toArray, List.getElem_cons_succ, List.getElem_cons_zero, Act.put, List.setIfInBounds_toArray, List.set_cons_zero, List.set_cons_succ])
        refine wpAnyE_done (by kernel_rfl) ?_ _
        clear hHeld hCl d0 d1 e0 e1 SO SF hs1
        generalize World.setCells _ _ _ _ = wE at *
        go_wp2_with fail
        have e62 : setMany (bcells (List.replicate 12 0)) 0 (bcells (Sys.nxTo home want x 12)) = bcells (Sys.nxTo home want x 12) := by
          have := setMany_mid (bcells (Sys.nxTo home want x 12)) (bcells (List.replicate 12 0)) [] [] (by rw [bcells_length, bcells_length, HLN.out]; rfl)
          simpa using this
        rw [e62] at R62
        have hl4 := run_loadVar_seg (P := Tryz.prog) wE (w.heap.size + 1) 0 25 [.slice acx (Sys.chTo g x 12).length ccx, .slice arx (Sys.rvTo g x 12).length crx] _ (fun j v hv => by rw [Nat.zero_add]; exact R42.out.cellAt j hv) Tryz.underlying25 rfl (by kernel_rfl)
        have hl6 := run_loadVar_seg (P := Tryz.prog) wE (w.heap.size + 1 + 1) 0 64 (bcells (Sys.nxTo home want x 12)) _ (fun j v hv => by rw [Nat.zero_add]; exact R62.out.cellAt j hv) Tryz.underlying64 rfl (by rw [bcells_length, HLN.out]; kernel_rfl)
        refine bodyPost_ret (v := .tuple #[.agg #[.slice acx (Sys.chTo g x 12).length ccx, .slice arx (Sys.rvTo g x 12).length crx], .slice (some ⟨w8.heap.size, 0, none⟩) 2 2, .agg (bcells (Sys.nxTo home want x 12)).toArray]) (by simp [results, Tryz.results39, asAddr, Sem.run_bind, hl4, hl6]) rfl ?_
        exact ⟨_, _, _, rfl, C62.out, I62.out, D62.out, B62.out⟩
      · have hd' : x.data = false := by simpa using hd
        rw [hd'] at c4
        go_upto_region 24 with fail
        have HDX := Lib.hid hd'
        have MF := M
        have CF := hC
        have IF := hI
        have DF : Hid (OwnC w.heap.size wr (.slice none 0 0) (Sys.dataT g x)) := Lib.hid (by rw [show Sys.dataT g x = [] by unfold Sys.dataT; rw [HDX.out]; rfl]; exact World.ownsRow_nil _ _ _ _)
        clear hd hd' c4 i1
        have L4 : w.heap.size + 1 ≠ w.heap.size + 1 + 1 + 1 := by omega
        have L5 : w.heap.size + 1 ≠ w4.heap.size := by have := HN.out.ne; omega
        have L6 : w.heap.size + 1 ≠ w.heap.size + 1 + 1 := by omega
        have T1 := ((MF.out.t.other (a := ⟨w.heap.size + 1, 0, none⟩) L4 (.slice acx (Sys.chTo g x 12).length ccx)).other (a := ⟨w.heap.size + 1, 1, none⟩) L4 (.slice arx (Sys.rvTo g x 12).length crx)).drew
        have N1 := ((MF.out.n.other (a := ⟨w.heap.size + 1, 0, none⟩) L5 (.slice acx (Sys.chTo g x 12).length ccx)).other (a := ⟨w.heap.size + 1, 1, none⟩) L5 (.slice arx (Sys.rvTo g x 12).length crx)).drew
        have R61 := ((MF.out.r6.other (a := ⟨w.heap.size + 1, 0, none⟩) L6 (.slice acx (Sys.chTo g x 12).length ccx)).other (a := ⟨w.heap.size + 1, 1, none⟩) L6 (.slice arx (Sys.rvTo g x 12).length crx)).drew
        have R41 := ((MF.out.r4.set 0 (.slice acx (Sys.chTo g x 12).length ccx)).set 1 (.slice arx (Sys.rvTo g x 12).length crx)).drew
        have d0 := MF.out.r4.cellAt 0 rfl
        have d1 := MF.out.r4.cellAt 1 rfl
        have e0 := MF.out.r4.free 0 (by simp)
        have e1 := MF.out.r4.free 1 (by simp)
        have hlN : (Sys.nxTo home want x 12).length = 12 := by rw [Sys.nxTo_length]; exact HWL.out
        have HLN := Lib.hid hlN
        clear hlN
        have SO := Lib.hid (R61.segSome (off := 0) (n := (bcells (Sys.nxTo home want x 12)).length) (by rw [bcells_length, bcells_length, HLN.out]; decide))
        have SF := Lib.hid (R61.segFree (off := 0) (n := (bcells (Sys.nxTo home want x 12)).length) (by rw [bcells_length, bcells_length, HLN.out]; decide))
        have hs1 : Hid ((((wr.setCell ⟨w.heap.size + 1, 0, none⟩ (.slice acx (Sys.chTo g x 12).length ccx)).setCell ⟨w.heap.size + 1, 1, none⟩ (.slice arx (Sys.rvTo g x 12).length crx)).drew).cell? ⟨w.heap.size + 1 + 1 + 1, 0, none⟩ = some (.slice acx (Sys.chTo g x 12).length ccx) ∧ (((wr.setCell ⟨w.heap.size + 1, 0, none⟩ (.slice acx (Sys.chTo g x 12).length ccx)).setCell ⟨w.heap.size + 1, 1, none⟩ (.slice arx (Sys.rvTo g x 12).length crx)).drew).cell? ⟨w.heap.size + 1 + 1 + 1, 1, none⟩ = some (.slice arx (Sys.rvTo g x 12).length crx) ∧ ∀ j v, (bcells (Sys.nxTo home want x 12))[j]? = some v → (((wr.setCell ⟨w.heap.size + 1, 0, none⟩ (.slice acx (Sys.chTo g x 12).length ccx)).setCell ⟨w.heap.size + 1, 1, none⟩ (.slice arx (Sys.rvTo g x 12).length crx)).drew).cell? ⟨w4.heap.size, 0 + j, none⟩ = some v) := Lib.hid ⟨T1.cellAt 0 rfl, T1.cellAt 1 rfl, fun j v hv => by rw [Nat.zero_add]; exact N1.cellAt j hv⟩
        have R42 := Lib.hid (R41.setCellsOther (Ne.symm L6) (bcells (Sys.nxTo home want x 12)) 0)
        have R62 := Lib.hid (R61.setCells (bcells (Sys.nxTo home want x 12)) 0)
        have B62 : Hid (Below w.heap.size w (((wr.setCell ⟨w.heap.size + 1, 0, none⟩ (.slice acx (Sys.chTo g x 12).length ccx)).setCell ⟨w.heap.size + 1, 1, none⟩ (.slice arx (Sys.rvTo g x 12).length crx)).drew.setCells (w.heap.size + 1 + 1) 0 (bcells (Sys.nxTo home want x 12)))) := Lib.hid (((MF.out.bel.setCell (p := ⟨w.heap.size + 1, 0, none⟩) (by simp) _).setCell (p := ⟨w.heap.size + 1, 1, none⟩) (by simp) _).drew.trans ((Only.setCells (S := [w.heap.size + 1 + 1]) (by simp) _ _ _).below (by have := HN.out.lo; have := MF.out.r6.lt; simp; omega) (by intro k hk; have := List.mem_singleton.1 hk; omega)))
        have C62 : Hid (OwnC w.heap.size (((wr.setCell ⟨w.heap.size + 1, 0, none⟩ (.slice acx (Sys.chTo g x 12).length ccx)).setCell ⟨w.heap.size + 1, 1, none⟩ (.slice arx (Sys.rvTo g x 12).length crx)).drew.setCells (w.heap.size + 1 + 1) 0 (bcells (Sys.nxTo home want x 12))) (.slice acx (Sys.chTo g x 12).length ccx) (Sys.chTo g x 12)) := Lib.hid (own_setCellsR (by decide) _ _ R61 (own_setR (a := ⟨w.heap.size + 1, 1, none⟩) (MF.out.r4.set 0 (.slice acx (Sys.chTo g x 12).length ccx)) (own_setR (a := ⟨w.heap.size + 1, 0, none⟩) MF.out.r4 CF.out (by decide)) (by decide)))
        have I62 : Hid (OwnInts w.heap.size (((wr.setCell ⟨w.heap.size + 1, 0, none⟩ (.slice acx (Sys.chTo g x 12).length ccx)).setCell ⟨w.heap.size + 1, 1, none⟩ (.slice arx (Sys.rvTo g x 12).length crx)).drew.setCells (w.heap.size + 1 + 1) 0 (bcells (Sys.nxTo home want x 12))) (.slice arx (Sys.rvTo g x 12).length crx) (Sys.rvTo g x 12)) := Lib.hid (own_setCellsR (by decide) _ _ R61 (own_setR (a := ⟨w.heap.size + 1, 1, none⟩) (MF.out.r4.set 0 (.slice acx (Sys.chTo g x 12).length ccx)) (own_setR (a := ⟨w.heap.size + 1, 0, none⟩) MF.out.r4 IF.out (by decide)) (by decide)))
        have D62 : Hid (OwnC w.heap.size (((wr.setCell ⟨w.heap.size + 1, 0, none⟩ (.slice acx (Sys.chTo g x 12).length ccx)).setCell ⟨w.heap.size + 1, 1, none⟩ (.slice arx (Sys.rvTo g x 12).length crx)).drew.setCells (w.heap.size + 1 + 1) 0 (bcells (Sys.nxTo home want x 12))) (.slice none 0 0) (Sys.dataT g x)) := Lib.hid (own_setCellsR (by decide) _ _ R61 (own_setR (a := ⟨w.heap.size + 1, 1, none⟩) (MF.out.r4.set 0 (.slice acx (Sys.chTo g x 12).length ccx)) (own_setR (a := ⟨w.heap.size + 1, 0, none⟩) MF.out.r4 DF.out (by decide)) (by decide)))
        clear T1 N1 R61 R41 L4 L5 L6
        refine wp_region_E (S := fun w' => w'.cell? ⟨w.heap.size + 1 + 1 + 1, 0, none⟩ = some (.slice acx (Sys.chTo g x 12).length ccx) ∧ w'.cell? ⟨w.heap.size + 1 + 1 + 1, 1, none⟩ = some (.slice arx (Sys.rvTo g x 12).length crx) ∧ ∀ j v, (bcells (Sys.nxTo home want x 12))[j]? = some v → w'.cell? ⟨w4.heap.size, 0 + j, none⟩ = some v) (E := [5]) (by kernel_rfl) ⟨MF.out.t.cellAt 0 rfl, MF.out.t.cellAt 1 rfl, fun j v hv => by rw [Nat.zero_add]; exact MF.out.n.cellAt j hv⟩ (fun hHeld hCl => ?_)
        refine wpAnyE_take (i := 0) (v := .agg #[.slice acx (Sys.chTo g x 12).length ccx, .slice arx (Sys.rvTo g x 12).length crx]) rfl (by kernel_rfl) (by kernel_rfl) (by kernel_rfl) (by kernel_rfl) hCl (fun _ _ _ h => h) (Or.inl ⟨rfl, fun w hSw => (by (try dsimp only at hSw); go_simp)⟩) hHeld (fun hCl => ?_); (try simp only [List.getElem_toArray, List.getElem_cons_zero, Act.put, List.setIfInBounds_toArray, List.set_cons_zero, List.set_cons_succ])
        refine wpAnyE_take (i := 1) (v := .slice none 0 0) rfl (by kernel_rfl) (by kernel_rfl) (by kernel_rfl) (by kernel_rfl) hCl (fun _ _ _ h => h) (Or.inl ⟨rfl, fun w hSw => (by (try dsimp only at hSw); go_simp)⟩) hHeld (fun hCl => ?_); (try simp only [List.getElem_toArray, List.getElem_cons_succ, List.getElem_cons_zero, Act.put, List.setIfInBounds_toArray, List.set_cons_zero, List.set_cons_succ])
        refine wpAnyE_take (i := 2) (v := .agg (bcells (Sys.nxTo home want x 12)).toArray) rfl (by kernel_rfl) (by kernel_rfl) (by kernel_rfl) (by kernel_rfl) hCl (fun _ _ _ h => h) (Or.inl ⟨rfl, fun w hSw => exec_load_seg _ _ rfl w4.heap.size 0 rfl (bcells (Sys.nxTo home want x 12)) _ hSw.2.2 Tryz.underlying64 rfl (by rw [bcells_length, HLN.out]; kernel_rfl)⟩) hHeld (fun hCl => ?_)
        (try simp only [List.getElem_toArray, List.getElem_cons_succ, List.getElem_cons_zero, Act.put, List.setIfInBounds_toArray, List.set_cons_zero, List.set_cons_succ])
        refine wpAnyE_ready (rs := [3]) (by kernel_rfl) (by simp) ?_; refine NextE.cons rfl (fun K hK => ?_) NextE.nil
        go_simp
        refine hK.out _ _ (fun _ => hs1.out) (fun hHeld => ?_); replace hHeld := hHeld rfl; have hCl := hCl.step (j := 3) (by decide +kernel); clear hK K; (try simp only [List.getElem_toArray, List.getElem_cons_succ, List.getElem_cons_zero, Act.put, List.setIfInBounds_toArray, List.set_cons_zero, List.set_cons_succ])
        refine wpAnyE_ready (rs := [4]) (by kernel_rfl) (by simp) ?_; refine NextE.cons rfl (fun K hK => ?_) NextE.nil
        go_simp
        refine hK.out _ _ (fun _ => hs1.out) (fun hHeld => ?_); replace hHeld := hHeld rfl; have hCl := hCl.step (j := 4) (by decide +kernel); clear hK K; (try simp only [List.getElem_toArray, List.getElem_cons_succ, List.getElem_cons_zero, Act.put, List.setIfInBounds_toArray, List.set_cons_zero, List.set_cons_succ])
        refine wpAnyE_ready (rs := [5]) (by kernel_rfl) (by simp) ?_; refine NextE.cons rfl (fun K hK => ?_) NextE.nil
        refine step_store_seg rfl _ _ _ rfl (w.heap.size + 1 + 1) 0 (bcells (Sys.nxTo home want x 12)) rfl rfl (by rw [bcells_length, HLN.out]; kernel_rfl) SO.out SF.out (bcells_one _) ?_
        refine hK.out _ _ (fun h => by cases h) (fun _ => ?_); clear hK K; (try simp only [List.getElem_toArray, List.getElem_cons_succ, List.getElem_cons_zero, Act.put, List.setIfInBounds_toArray, List.set_cons_zero, List.set_cons_succ])
        refine wpAnyE_done (by kernel_rfl) ?_ _
        clear hHeld hCl d0 d1 e0 e1 SO SF hs1
        generalize World.setCells _ _ _ _ = wE at *
        go_wp2_with fail
        have e62 : setMany (bcells (List.replicate 12 0)) 0 (bcells (Sys.nxTo home want x 12)) = bcells (Sys.nxTo home want x 12) := by
          have := setMany_mid (bcells (Sys.nxTo home want x 12)) (bcells (List.replicate 12 0)) [] [] (by rw [bcells_length, bcells_length, HLN.out]; rfl)
          simpa using this
        rw [e62] at R62
        have hl4 := run_loadVar_seg (P := Tryz.prog) wE (w.heap.size + 1) 0 25 [.slice acx (Sys.chTo g x 12).length ccx, .slice arx (Sys.rvTo g x 12).length crx] _ (fun j v hv => by rw [Nat.zero_add]; exact R42.out.cellAt j hv) Tryz.underlying25 rfl (by kernel_rfl)
        have hl6 := run_loadVar_seg (P := Tryz.prog) wE (w.heap.size + 1 + 1) 0 64 (bcells (Sys.nxTo home want x 12)) _ (fun j v hv => by rw [Nat.zero_add]; exact R62.out.cellAt j hv) Tryz.underlying64 rfl (by rw [bcells_length, HLN.out]; kernel_rfl)
        refine bodyPost_ret (v := .tuple #[.agg #[.slice acx (Sys.chTo g x 12).length ccx, .slice arx (Sys.rvTo g x 12).length crx], .slice none 0 0, .agg (bcells (Sys.nxTo home want x 12)).toArray]) (by simp [results, Tryz.results39, asAddr, Sem.run_bind, hl4, hl6]) rfl ?_
        exact ⟨_, _, _, rfl, C62.out, I62.out, D62.out, B62.out⟩
end Go.Proofs.YtnpdhidliaahbaaGreat

namespace Go.Proofs.YtnpdhidliaahbaaGreat
set_option linter.unusedVariables false
open Go Go.RowKit

theorem data_ok {g : Geo.G} (hg : Geo.May g) (x : Sys.Step) : Jr.Ok (Geo.home g) ⟨Sys.dataT g x, []⟩ := by
  refine ⟨⟨fun b hb => ?_, ?_⟩, ⟨fun b hb => (by cases hb), List.Pairwise.nil⟩, fun c hc => (Sys.data_home hg x c hc).2.1, fun b hb => (by cases hb)⟩
  · obtain ⟨c, hc, rfl⟩ := List.mem_map.1 hb
    exact (Sys.data_home hg x c hc).1
  · show ((Sys.dataT g x).map (·.1)).Pairwise (· < ·)
    unfold Sys.dataT
    split
    · refine List.Pairwise.cons (fun a ha => ?_) (List.pairwise_singleton _ _)
      rw [List.map_singleton, List.mem_singleton] at ha
      subst ha
      show ((Sys.hb g 12 : Nat) : Int) < ((Sys.hb g 13 : Nat) : Int)
      unfold Sys.hb
      omega
    · exact List.Pairwise.nil
theorem Only.newCells {S : List Nat} {w w' : World} (h : Only S w w') {g : Nat} (hg : w.heap.size ≤ g) (vs : List Value) (o : Nat) : Only S w (w'.setCells g o vs) := by
  have h2 := Only.setCells (S := [g]) (g := g) (by simp) vs o w'
  refine ⟨h2.os.trans h.os, h2.tape.trans h.tape, h2.output.trans h.output, Nat.le_trans h.size h2.size, fun k hk hS => ?_⟩
  rw [h2.block k (Nat.lt_of_lt_of_le hk h.size) (by simp; omega)]
  exact h.block k hk hS
section
variable {Bd wb db lb : Nat} {y : Lay} {g : Geo.G} {D : Dev} {V : LogV} {home want : List UInt8} {at_ q K : Nat} {l : List Jr.Txn} {w : World}
theorem SysAt.newCells (h : SysAt Bd wb db lb y g D V home want w) {b : Nat} (h1 : b ≠ wb) (h2 : b ≠ lb) (h3 : b ∉ devB db y) (vs : List Value) (o : Nat) : SysAt Bd wb db lb y g D V home want (w.setCells b o vs) :=
  ⟨h.row.setCellsOther h1 vs o, h.hl, h.wl, h.dev.setCells h3 vs o, Row.setCellsOther h2 vs o h.log, h.ne⟩
theorem SysAt.setWant (h : SysAt Bd wb db lb y g D V home want w) (x : List UInt8) (hx : x.length = 12) : SysAt Bd wb db lb y g D V home x (w.setCells wb 23 (bcells x)) :=
  ⟨h.row.setWant h.hl h.wl x hx, h.hl, hx, h.dev.setCells h.ne.2.1 _ _, Row.setCellsOther h.ne.1 _ _ h.log, h.ne⟩
theorem small_facts {g : Geo.G} (hg : Geo.May g) (x : Sys.Step) : (∀ c ∈ (Sys.txnT g x).ch, In64 c.1 ∧ c.2.size ≤ 9223372036854775807) ∧ (∀ b ∈ (Sys.txnT g x).rv, In64 b) ∧ (∀ c ∈ Sys.dataT g x, In64 c.1 ∧ c.2.size ≤ 9223372036854775807) := by
  have h0 := hg.ok.1
  unfold Geo.asked at h0
  have ht := Sys.txn_ok hg x
  refine ⟨fun c hc => ?_, fun b hb => ?_, fun c hc => ?_⟩
  · have h1 := Jr.home_iff.1 (ht.ch.1 c.1 (List.mem_map_of_mem hc))
    have h2 := ht.data c hc
    exact ⟨⟨by omega, by omega⟩, by omega⟩
  · have h1 := Jr.home_iff.1 (ht.rv.1 b hb)
    exact ⟨by omega, by omega⟩
  · obtain ⟨h1, h2, _⟩ := Sys.data_home hg x c hc
    have h1 := Jr.home_iff.1 h1
    exact ⟨⟨by omega, by omega⟩, by omega⟩
/-- What a commit tells. -/
def ComTold (Bd db lb : Nat) (y : Lay) (g : Geo.G) (D : Dev) (home want next : List UInt8) (V : LogV) (sz K at_ q : Nat) (l : List Jr.Txn) (w : World) (e : Ending) (w' : World) : Prop :=
  ∃ E D' V', LogTold Bd db lb y g E D' V' w e w' ∧ ((E = 0 ∧ D'.armed = D.armed ∧ V' = ⟨(V.place + sz) % Jr.plc g, V.used + sz, V.seq + 1, 0⟩ ∧ D'.kept = D'.now ∧ Sys.Ok g D' V' home next at_ q l K) ∨ (E = 61 ∧ D.armed = true ∧ Sys.Dead g D' want next K))
theorem commit_sys {B B2 B3 : Nat} {vc vr vd : Value} (hD : DevAt Bd w db y D) (hL : LogAt lb db g V w) (hlb : lb ∉ devB db y) (ho : Sys.Ok g D V home want at_ q l K) (hK : K ≤ 100000000000) (x : Sys.Step) (hC : OwnC B w vc (Sys.txnT g x).ch) (hI : OwnInts B2 w vr (Sys.txnT g x).rv) (hX : OwnC B3 w vd (Sys.dataT g x)) (hroom : V.used + Jr.size (Sys.txnT g x) ≤ Jr.plc g) :
    Calls Tryz.prog 19 #[.pointer (some ⟨lb, 0, none⟩), .agg #[vc, vr], vd] w fun e w' => ComTold Bd db lb y g D home want (Sys.nextT home want x) V (Jr.size (Sys.txnT g x)) (K + 100) at_ q (l ++ [Sys.txnT g x]) w e w' := by
  have hac := ho.dok.acts
  have hg := ho.may
  have hVf := ho.V
  have hpl := Jr.plc_of hg
  have hnum := ho.num
  have hlt0 : (at_ + Jr.sizes l) % Jr.plc g < Jr.plc g := Nat.mod_lt _ (by omega)
  have hV0 : V.place ≤ 1000000 ∧ V.seq < 2 ^ 62 ∧ V.bad = 0 := by
    rw [hVf]
    exact ⟨by show (at_ + Jr.sizes l) % Jr.plc g ≤ _; omega, by show q + l.length < _; omega, rfl⟩
  have hl := Sys.chTo_length g x 12
  have hd := Sys.data_len g x
  obtain ⟨s1, s2, s3⟩ := small_facts hg x
  have h := commit_any w vc vr vd (Sys.txnT g x) (Sys.dataT g x) hD hL hlb hg hV0.2.2 hV0.1 (by omega) (by omega) hC.at hI.at hC.cap hI.cap hX.at (by show (Sys.chTo g x 12).length ≤ _; omega) (by show (Sys.rvTo g x 12).length ≤ _; omega) (by omega) s1 s2 s3 (Sys.txn_ok hg x) (may_of (data_ok hg x)) hroom
  refine h.mono ?_
  intro e w' h2
  refine ⟨_, _, _, h2, ?_⟩
  rcases ho.commit x (by omega) hroom with ⟨k1, k2, k3⟩ | ⟨k1, k2⟩
  · left
    rw [if_pos k1]
    rw [Nat.mod_eq_of_lt (show V.seq + 1 < 18446744073709551616 by omega)] at k2 ⊢
    exact ⟨k1, doA_armed _ _, rfl, k3, k2⟩
  · exact .inr ⟨k1, armed_of k1, k2⟩
theorem commit_fullsys {B B2 B3 : Nat} {vc vr vd : Value} (hL : LogAt lb db g V w) (ho : Sys.Ok g D V home want at_ q l K) (x : Sys.Step) (hC : OwnC B w vc (Sys.txnT g x).ch) (hI : OwnInts B2 w vr (Sys.txnT g x).rv) (hX : OwnC B3 w vd (Sys.dataT g x)) (hroom : ¬ V.used + Jr.size (Sys.txnT g x) ≤ Jr.plc g) :
    Calls Tryz.prog 19 #[.pointer (some ⟨lb, 0, none⟩), .agg #[vc, vr], vd] w fun e w' => e = .returned (.int .i64 90) ∧ Below w.heap.size w w' := by
  have hg := ho.may
  have hVf := ho.V
  have hpl := Jr.plc_of hg
  have hl := Sys.chTo_length g x 12
  have hd := Sys.data_len g x
  obtain ⟨s1, s2, s3⟩ := small_facts hg x
  have hst := (ho.all.atNow ho.dok.len).2
  exact commit_full w vc vr vd (Sys.txnT g x) (Sys.dataT g x) hL hg (by rw [hVf]) (by rw [hVf]; have := hst.fit; show Jr.sizes l ≤ _; omega) hC.at hI.at hX.at (by show (Sys.chTo g x 12).length ≤ _; omega) (by show (Sys.rvTo g x 12).length ≤ _; omega) (by omega) s1 s2 s3 (may_of (Sys.txn_ok hg x)) (may_of (data_ok hg x)) hroom
end
end Go.Proofs.YtnpdhidliaahbaaGreat
