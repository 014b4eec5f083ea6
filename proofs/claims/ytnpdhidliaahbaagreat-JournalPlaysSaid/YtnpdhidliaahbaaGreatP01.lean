/- Rows of cells that a call has made: what is known of a block, and how it goes on. No program. -/
import Derived.WalkKit
import Derived.WalkSpells
import Derived.WalkLawsBesides
import Derived.Lib.Hide
import Derived.Laws.CopyOwn
import Derived.Deep.AppendLies
set_option maxRecDepth 100000
set_option maxHeartbeats 32000000
set_option linter.unusedSimpArgs false
set_option linter.unusedVariables false
namespace Go.Proofs.YtnpdhidliaahbaaGreat
open Go Go.RowKit
def Row (w:World) (b:Nat) (E:TypeId) (cs:List Value):Prop:=
 ∃ fr:Nat × Nat,w.heap[b]?=some (.cells cs.toArray E fr)/\∀ k,k < cs.length->¬ (fr.1<=k/\k < fr.2)
theorem Row.lt {w:World} {b:Nat} {E:TypeId} {cs:List Value} (h:Row w b E cs):b < w.heap.size:=by
 obtain ⟨_,h,_⟩:=h;exact lt_of_block h
theorem Row.cell {w:World} {b:Nat} {E:TypeId} {cs:List Value} (h:Row w b E cs) (k:Nat):w.cell? ⟨b,k,none⟩=cs[k]?:=by
 obtain ⟨fr,h,_⟩:=h;rw [cell_of_row w b k _ _ _ h];simp
theorem Row.cellAt {w:World} {b:Nat} {E:TypeId} {cs:List Value} (h:Row w b E cs) (k:Nat) {v:Value} (hv:cs[k]?=some v):w.cell? ⟨b,k,none⟩=some v:=by
 rw [h.cell,hv]
theorem Row.free {w:World} {b:Nat} {E:TypeId} {cs:List Value} (h:Row w b E cs) (k:Nat) (hk:k < cs.length):w.frozen? ⟨b,k,none⟩=false:=by
 obtain ⟨fr,h,hf⟩:=h;have:=hf k hk;simp only [World.frozen?,h];obtain ⟨lo,hi⟩:=fr;simp only [Bool.and_eq_false_iff,decide_eq_false_iff_not];rcases Decidable.em (lo<=k) with h1 | h1
 ·right;intro h2;exact this ⟨h1,h2⟩
 ·left;exact h1
theorem Row.c4 {w : World} {b : Nat} {E : TypeId} {x0 x1 x2 x3 : Value} {r : List Value} (h : Row w b E (x0 :: x1 :: x2 :: x3 :: r)) : w.cell? ⟨b, 0, none⟩ = some x0 ∧ w.cell? ⟨b, 1, none⟩ = some x1 ∧ w.cell? ⟨b, 2, none⟩ = some x2 ∧ w.cell? ⟨b, 3, none⟩ = some x3 := ⟨h.cellAt 0 rfl, h.cellAt 1 rfl, h.cellAt 2 rfl, h.cellAt 3 rfl⟩
theorem Row.c6 {w : World} {b : Nat} {E : TypeId} {x0 x1 x2 x3 x4 x5 : Value} {r : List Value} (h : Row w b E (x0 :: x1 :: x2 :: x3 :: x4 :: x5 :: r)) : w.cell? ⟨b, 0, none⟩ = some x0 ∧ w.cell? ⟨b, 1, none⟩ = some x1 ∧ w.cell? ⟨b, 2, none⟩ = some x2 ∧ w.cell? ⟨b, 3, none⟩ = some x3 ∧ w.cell? ⟨b, 4, none⟩ = some x4 ∧ w.cell? ⟨b, 5, none⟩ = some x5 := ⟨h.cellAt 0 rfl, h.cellAt 1 rfl, h.cellAt 2 rfl, h.cellAt 3 rfl, h.cellAt 4 rfl, h.cellAt 5 rfl⟩
theorem Row.c8 {w : World} {b : Nat} {E : TypeId} {x0 x1 x2 x3 x4 x5 x6 x7 : Value} {r : List Value} (h : Row w b E (x0 :: x1 :: x2 :: x3 :: x4 :: x5 :: x6 :: x7 :: r)) : w.cell? ⟨b, 0, none⟩ = some x0 ∧ w.cell? ⟨b, 1, none⟩ = some x1 ∧ w.cell? ⟨b, 2, none⟩ = some x2 ∧ w.cell? ⟨b, 3, none⟩ = some x3 ∧ w.cell? ⟨b, 4, none⟩ = some x4 ∧ w.cell? ⟨b, 5, none⟩ = some x5 ∧ w.cell? ⟨b, 6, none⟩ = some x6 ∧ w.cell? ⟨b, 7, none⟩ = some x7 := ⟨h.cellAt 0 rfl, h.cellAt 1 rfl, h.cellAt 2 rfl, h.cellAt 3 rfl, h.cellAt 4 rfl, h.cellAt 5 rfl, h.cellAt 6 rfl, h.cellAt 7 rfl⟩
theorem Row.c9 {w : World} {b : Nat} {E : TypeId} {x0 x1 x2 x3 x4 x5 x6 x7 x8 : Value} {r : List Value} (h : Row w b E (x0 :: x1 :: x2 :: x3 :: x4 :: x5 :: x6 :: x7 :: x8 :: r)) : w.cell? ⟨b, 0, none⟩ = some x0 ∧ w.cell? ⟨b, 1, none⟩ = some x1 ∧ w.cell? ⟨b, 2, none⟩ = some x2 ∧ w.cell? ⟨b, 3, none⟩ = some x3 ∧ w.cell? ⟨b, 4, none⟩ = some x4 ∧ w.cell? ⟨b, 5, none⟩ = some x5 ∧ w.cell? ⟨b, 6, none⟩ = some x6 ∧ w.cell? ⟨b, 7, none⟩ = some x7 ∧ w.cell? ⟨b, 8, none⟩ = some x8 := ⟨h.cellAt 0 rfl, h.cellAt 1 rfl, h.cellAt 2 rfl, h.cellAt 3 rfl, h.cellAt 4 rfl, h.cellAt 5 rfl, h.cellAt 6 rfl, h.cellAt 7 rfl, h.cellAt 8 rfl⟩
theorem Row.c10 {w : World} {b : Nat} {E : TypeId} {x0 x1 x2 x3 x4 x5 x6 x7 x8 x9 : Value} {r : List Value} (h : Row w b E (x0 :: x1 :: x2 :: x3 :: x4 :: x5 :: x6 :: x7 :: x8 :: x9 :: r)) : w.cell? ⟨b, 0, none⟩ = some x0 ∧ w.cell? ⟨b, 1, none⟩ = some x1 ∧ w.cell? ⟨b, 2, none⟩ = some x2 ∧ w.cell? ⟨b, 3, none⟩ = some x3 ∧ w.cell? ⟨b, 4, none⟩ = some x4 ∧ w.cell? ⟨b, 5, none⟩ = some x5 ∧ w.cell? ⟨b, 6, none⟩ = some x6 ∧ w.cell? ⟨b, 7, none⟩ = some x7 ∧ w.cell? ⟨b, 8, none⟩ = some x8 ∧ w.cell? ⟨b, 9, none⟩ = some x9 := ⟨h.cellAt 0 rfl, h.cellAt 1 rfl, h.cellAt 2 rfl, h.cellAt 3 rfl, h.cellAt 4 rfl, h.cellAt 5 rfl, h.cellAt 6 rfl, h.cellAt 7 rfl, h.cellAt 8 rfl, h.cellAt 9 rfl⟩
theorem Row.c12 {w : World} {b : Nat} {E : TypeId} {x0 x1 x2 x3 x4 x5 x6 x7 x8 x9 x10 x11 : Value} {r : List Value} (h : Row w b E (x0 :: x1 :: x2 :: x3 :: x4 :: x5 :: x6 :: x7 :: x8 :: x9 :: x10 :: x11 :: r)) : w.cell? ⟨b, 0, none⟩ = some x0 ∧ w.cell? ⟨b, 1, none⟩ = some x1 ∧ w.cell? ⟨b, 2, none⟩ = some x2 ∧ w.cell? ⟨b, 3, none⟩ = some x3 ∧ w.cell? ⟨b, 4, none⟩ = some x4 ∧ w.cell? ⟨b, 5, none⟩ = some x5 ∧ w.cell? ⟨b, 6, none⟩ = some x6 ∧ w.cell? ⟨b, 7, none⟩ = some x7 ∧ w.cell? ⟨b, 8, none⟩ = some x8 ∧ w.cell? ⟨b, 9, none⟩ = some x9 ∧ w.cell? ⟨b, 10, none⟩ = some x10 ∧ w.cell? ⟨b, 11, none⟩ = some x11 := ⟨h.cellAt 0 rfl, h.cellAt 1 rfl, h.cellAt 2 rfl, h.cellAt 3 rfl, h.cellAt 4 rfl, h.cellAt 5 rfl, h.cellAt 6 rfl, h.cellAt 7 rfl, h.cellAt 8 rfl, h.cellAt 9 rfl, h.cellAt 10 rfl, h.cellAt 11 rfl⟩
theorem Row.c14 {w : World} {b : Nat} {E : TypeId} {x0 x1 x2 x3 x4 x5 x6 x7 x8 x9 x10 x11 x12 x13 : Value} {r : List Value} (h : Row w b E (x0 :: x1 :: x2 :: x3 :: x4 :: x5 :: x6 :: x7 :: x8 :: x9 :: x10 :: x11 :: x12 :: x13 :: r)) : w.cell? ⟨b, 0, none⟩ = some x0 ∧ w.cell? ⟨b, 1, none⟩ = some x1 ∧ w.cell? ⟨b, 2, none⟩ = some x2 ∧ w.cell? ⟨b, 3, none⟩ = some x3 ∧ w.cell? ⟨b, 4, none⟩ = some x4 ∧ w.cell? ⟨b, 5, none⟩ = some x5 ∧ w.cell? ⟨b, 6, none⟩ = some x6 ∧ w.cell? ⟨b, 7, none⟩ = some x7 ∧ w.cell? ⟨b, 8, none⟩ = some x8 ∧ w.cell? ⟨b, 9, none⟩ = some x9 ∧ w.cell? ⟨b, 10, none⟩ = some x10 ∧ w.cell? ⟨b, 11, none⟩ = some x11 ∧ w.cell? ⟨b, 12, none⟩ = some x12 ∧ w.cell? ⟨b, 13, none⟩ = some x13 := ⟨h.cellAt 0 rfl, h.cellAt 1 rfl, h.cellAt 2 rfl, h.cellAt 3 rfl, h.cellAt 4 rfl, h.cellAt 5 rfl, h.cellAt 6 rfl, h.cellAt 7 rfl, h.cellAt 8 rfl, h.cellAt 9 rfl, h.cellAt 10 rfl, h.cellAt 11 rfl, h.cellAt 12 rfl, h.cellAt 13 rfl⟩
theorem Row.f6 {w : World} {b : Nat} {E : TypeId} {x0 x1 x2 x3 x4 x5 : Value} {r : List Value} (h : Row w b E (x0 :: x1 :: x2 :: x3 :: x4 :: x5 :: r)) : w.cell? ⟨b, 0, none⟩ = some x0 /\ w.frozen? ⟨b, 0, none⟩ = false /\ w.cell? ⟨b, 1, none⟩ = some x1 /\ w.frozen? ⟨b, 1, none⟩ = false /\ w.cell? ⟨b, 2, none⟩ = some x2 /\ w.frozen? ⟨b, 2, none⟩ = false /\ w.cell? ⟨b, 3, none⟩ = some x3 /\ w.frozen? ⟨b, 3, none⟩ = false /\ w.cell? ⟨b, 4, none⟩ = some x4 /\ w.frozen? ⟨b, 4, none⟩ = false /\ w.cell? ⟨b, 5, none⟩ = some x5 /\ w.frozen? ⟨b, 5, none⟩ = false := ⟨h.cellAt 0 rfl, h.free 0 (by simp), h.cellAt 1 rfl, h.free 1 (by simp), h.cellAt 2 rfl, h.free 2 (by simp), h.cellAt 3 rfl, h.free 3 (by simp), h.cellAt 4 rfl, h.free 4 (by simp), h.cellAt 5 rfl, h.free 5 (by simp)⟩
theorem Row.f10 {w : World} {b : Nat} {E : TypeId} {x0 x1 x2 x3 x4 x5 x6 x7 x8 x9 : Value} {r : List Value} (h : Row w b E (x0 :: x1 :: x2 :: x3 :: x4 :: x5 :: x6 :: x7 :: x8 :: x9 :: r)) : w.cell? ⟨b, 0, none⟩ = some x0 /\ w.frozen? ⟨b, 0, none⟩ = false /\ w.cell? ⟨b, 1, none⟩ = some x1 /\ w.frozen? ⟨b, 1, none⟩ = false /\ w.cell? ⟨b, 2, none⟩ = some x2 /\ w.frozen? ⟨b, 2, none⟩ = false /\ w.cell? ⟨b, 3, none⟩ = some x3 /\ w.frozen? ⟨b, 3, none⟩ = false /\ w.cell? ⟨b, 4, none⟩ = some x4 /\ w.frozen? ⟨b, 4, none⟩ = false /\ w.cell? ⟨b, 5, none⟩ = some x5 /\ w.frozen? ⟨b, 5, none⟩ = false /\ w.cell? ⟨b, 6, none⟩ = some x6 /\ w.frozen? ⟨b, 6, none⟩ = false /\ w.cell? ⟨b, 7, none⟩ = some x7 /\ w.frozen? ⟨b, 7, none⟩ = false /\ w.cell? ⟨b, 8, none⟩ = some x8 /\ w.frozen? ⟨b, 8, none⟩ = false /\ w.cell? ⟨b, 9, none⟩ = some x9 /\ w.frozen? ⟨b, 9, none⟩ = false := ⟨h.cellAt 0 rfl, h.free 0 (by simp), h.cellAt 1 rfl, h.free 1 (by simp), h.cellAt 2 rfl, h.free 2 (by simp), h.cellAt 3 rfl, h.free 3 (by simp), h.cellAt 4 rfl, h.free 4 (by simp), h.cellAt 5 rfl, h.free 5 (by simp), h.cellAt 6 rfl, h.free 6 (by simp), h.cellAt 7 rfl, h.free 7 (by simp), h.cellAt 8 rfl, h.free 8 (by simp), h.cellAt 9 rfl, h.free 9 (by simp)⟩
theorem lL : type_of% @List.getElem_toArray.{0} ∧ type_of% @List.getElem_cons_succ.{0} ∧ type_of% @List.getElem_cons_zero.{0} ∧ type_of% @List.setIfInBounds_toArray.{0} ∧ type_of% @List.set_cons_zero.{0} ∧ type_of% @List.set_cons_succ.{0} := ⟨@List.getElem_toArray, @List.getElem_cons_succ, @List.getElem_cons_zero, @List.setIfInBounds_toArray, @List.set_cons_zero, @List.set_cons_succ⟩
theorem _root_.Go.RowKit.Below.sC {n : Nat} {w w' : World} (h : Below n w w') (k : Nat) (v : Value) : Below n w (w'.setCell ⟨n, k, none⟩ v) := h.setCell (Nat.le_refl _) v
theorem Row.set {w:World} {b:Nat} {E:TypeId} {cs:List Value} (h:Row w b E cs) (k:Nat) (v:Value):Row (w.setCell ⟨b,k,none⟩ v) b E (cs.set k v):=by
 obtain ⟨fr,h,hf⟩:=h;refine ⟨fr,?_,fun j hj=>hf j (by simpa using hj)⟩;have hlt:=lt_of_block h;have h':w.heap[b]=.cells cs.toArray E fr:=(by simpa [Array.getElem?_eq_getElem hlt] using h);show (w.heap.modify b _)[b]?=_;rw [Array.getElem?_eq_getElem (by simpa using hlt),Array.getElem_modify_self,h'];simp
theorem Row.other {w:World} {b:Nat} {E:TypeId} {cs:List Value} (h:Row w b E cs) {a:Addr} (ha:a.block ≠ b) (v:Value):Row (w.setCell a v) b E cs:=by
 obtain ⟨fr,h,hf⟩:=h;exact ⟨fr,by rw [Below.heap_setCell _ _ _ _ (Ne.symm ha)];exact h,hf⟩
theorem Row.below {w w':World} {b B:Nat} {E:TypeId} {cs:List Value} (h:Row w b E cs) (hb:Below B w w') (hB:b < B):Row w' b E cs:=by
 obtain ⟨fr,h,hf⟩:=h;exact ⟨fr,by rw [hb.block b hB];exact h,hf⟩
theorem Row.drew {w:World} {b:Nat} {E:TypeId} {cs:List Value} (h:Row w b E cs):Row w.drew b E cs:=h
theorem Row.drewN {w:World} {b:Nat} {E:TypeId} {cs:List Value} (h:Row w b E cs) (n:Nat):Row (w.drewN n) b E cs:=h
theorem Row.alloc {w:World} {b:Nat} {E:TypeId} {cs:List Value} (h:Row w b E cs) (o:Obj):Row (w.alloc o) b E cs:=by
 have hl:=h.lt;obtain ⟨fr,h,hf⟩:=h;exact ⟨fr,by rw [Below.heap_alloc _ _ _ hl];exact h,hf⟩
theorem Row.new (w:World) (E:TypeId) (cs:List Value) {b:Nat} (hb:b=w.heap.size):Row (w.alloc (.cells cs.toArray E)) b E cs:=by
 subst hb;exact ⟨(0,0),heap_alloc_new w _,fun k _ h=>by omega⟩
theorem Row.grown {w w':World} {b:Nat} {row:Option Nat} {E:TypeId} {cs:List Value} (h:Row w b E cs) (hg:w.grownBy w' row) (hne:some b ≠ row):Row w' b E cs:=by
 have hl:=h.lt;obtain ⟨fr,h,hf⟩:=h;exact ⟨fr,by rw [hg.block b hl hne];exact h,hf⟩
theorem madeCells_one (z:Value) (n:Nat):(madeCells #[z] n)=(List.replicate n z).toArray:=by
 apply Array.ext';rw [toList_madeCells_one]
def bval (b:UInt8):Value:=.int .u8 (b.toNat:Int)
def bcells (l:List UInt8):List Value:=l.map bval
theorem bcells_length (l:List UInt8):(bcells l).length=l.length:=by simp [bcells]
theorem bcells_at (l:List UInt8) (k:Nat) (h:k < l.length):(bcells l)[k]?=some (bval (l.getD k 0)):=by simp [bcells,List.getD,h]
theorem bcells_set (l:List UInt8) (k:Nat) (b:UInt8):(bcells l).set k (bval b)=bcells (l.set k b):=by simp [bcells,List.map_set]
theorem bcells_zero (n:Nat):List.replicate n (.int .u8 0:Value)=bcells (List.replicate n 0):=by simp [bcells,bval]
theorem run_string_of_row {P:Program} {w:World} {b:Nat} {E:TypeId} {l:List UInt8} (src dst e:TypeId) (n cap:Nat) (hn:n=l.length) (hs:P.underlying src=some (.slice e)) (he:P.underlying e=some (.int .u8)) (hd:P.underlying dst=some .string)
  (h:Row w b E (bcells l)):(convert src dst (.slice (some ⟨b,0,none⟩) n cap)).run P w=.ok (.string ⟨l.toArray⟩) w:=by
 subst hn
 refine run_convert_bytes_back w src dst e _ cap l hs he hd fun j hj=>?_
 have e1:(⟨b,0,none⟩:Addr).add j=⟨b,j,none⟩:=by unfold Addr.add;split <;> simp_all
 rw [e1,h.cell,bcells_at l j hj]
 simp [bval,List.getD,hj]
theorem run_bytes_row {P:Program} (w:World) (src dst e:TypeId) (s:ByteArray) (hs:P.underlying src=some .string) (hd:P.underlying dst=some (.slice e)) (he:P.underlying e=some (.int .u8)) :
  ∃ (cap:Nat) (w1:World) (spare:List UInt8),(convert src dst (.string s)).run P w=.ok (.slice (some ⟨w.heap.size,0,none⟩) s.size cap) w1/\Row w1 w.heap.size e (bcells (s.data.toList ++ spare))/\Below w.heap.size w w1/\w1.heap.size=w.heap.size+1:=by
 refine ⟨_,_,List.replicate (grownCap w s.size 0 e - s.size) 0,run_bytes_of_string w src dst e s hs hd he,⟨((bytesRow s (grownCap w s.size 0 e)).size,(bytesRow s (grownCap w s.size 0 e)).size+1),?_,?_⟩,?_,by simp⟩
 ·have h:(bcells (s.data.toList ++ List.replicate (grownCap w s.size 0 e - s.size) 0)).toArray=bytesRow s (grownCap w s.size 0 e):=by
   apply Array.ext';simp [bcells,bytesRow,bval]
  rw [h];exact heap_alloc_new w.drew _
 ·intro k hk;have h:(bytesRow s (grownCap w s.size 0 e)).size=(bcells (s.data.toList ++ List.replicate (grownCap w s.size 0 e - s.size) 0)).length:=by
   simp [bcells,bytesRow]
  rw [<- h] at hk;dsimp only;omega
 ·exact (Below.refl _ _).drew.alloc (by simp) _
theorem run_string_of_head {P:Program} {w:World} {b:Nat} {E:TypeId} {l rest:List UInt8} (src dst e:TypeId) (n cap:Nat) (hn:n=l.length) (hs:P.underlying src=some (.slice e)) (he:P.underlying e=some (.int .u8)) (hd:P.underlying dst=some .string)
  (h:Row w b E (bcells (l ++ rest))):(convert src dst (.slice (some ⟨b,0,none⟩) n cap)).run P w=.ok (.string ⟨l.toArray⟩) w:=by
 subst hn
 refine run_convert_bytes_back w src dst e _ cap l hs he hd fun j hj=>?_
 have e1:(⟨b,0,none⟩:Addr).add j=⟨b,j,none⟩:=by unfold Addr.add;split <;> simp_all
 rw [e1,h.cell,bcells_at (l ++ rest) j (by simp;omega)]
 simp [bval,List.getD,hj,List.getElem?_append_left]
end Go.Proofs.YtnpdhidliaahbaaGreat
