/- What a device is asked to do, one behind the other. -/
import Derived.Test.YtnpdhidliaahbaaGreatP07
import Derived.Test.YtnpdhidliaahbaaGreatP09
set_option maxRecDepth 100000
set_option maxHeartbeats 32000000
set_option linter.unusedSimpArgs false
set_option linter.unusedVariables false
namespace Go.Proofs.YtnpdhidliaahbaaGreat
open Go Go.RowKit
namespace Jr
inductive Act where
 | write (b:Int) (s:ByteArray)
 | flush
def Act.run:Act->Dev->Dev × Int
 | .write b s,D=>(D.write b s,D.writeE b s)
 | .flush,D=>(D.flush,D.flushE)
def doA:List Act->Dev->Dev × Int
 | [],D=>(D,0)
 | a :: l,D=>if (a.run D).2=0 then doA l (a.run D).1 else a.run D
theorem doA_append:∀ (l m:List Act) (D:Dev),doA (l ++ m) D=if (doA l D).2=0 then doA m (doA l D).1 else doA l D
 | [],m,D=>rfl
 | a :: l,m,D=>by
  show (if (a.run D).2=0 then doA (l ++ m) (a.run D).1 else a.run D)=if (if (a.run D).2=0 then doA l (a.run D).1 else a.run D).2=0 then doA m (if (a.run D).2=0 then doA l (a.run D).1 else a.run D).1 else (if (a.run D).2=0 then doA l (a.run D).1 else a.run D)
  by_cases h:(a.run D).2=0
  ·simp only [if_pos h];exact doA_append l m _
  ·simp only [if_neg h]
theorem doA_one (a:Act) (D:Dev):doA [a] D=a.run D:=by
 show (if (a.run D).2=0 then ((a.run D).1,0) else a.run D)=_;split
 ·rename_i h;rw [<- h]
 ·rfl
theorem doA_take {l:List Act} {D:Dev} {i:Nat} {a:Act} (h:l[i]?=some a) (h0:(doA (l.take i) D).2=0):doA (l.take (i+1)) D=a.run (doA (l.take i) D).1:=by
 obtain ⟨hi,rfl⟩:=List.getElem?_eq_some_iff.1 h;rw [List.take_succ_eq_append_getElem hi,doA_append,if_pos h0,doA_one]
theorem doA_stop {l:List Act} {D:Dev} {i:Nat} (h:(doA (l.take i) D).2 ≠ 0):doA l D=doA (l.take i) D:=by
 conv=>lhs;rw [<- List.take_append_drop i l]
 rw [doA_append,if_neg h]
theorem run_acts (a:Act) (D:Dev):(a.run D).1.acts<=D.acts+1/\D.acts<=(a.run D).1.acts:=by
 cases a with
 | write b s =>
  show (D.write b s).acts<=_/\_<=(D.write b s).acts;unfold Dev.write;split
  ·exact ⟨Int.le_refl _,by show D.acts<=D.acts+1;omega⟩
  omega
 | flush =>
  show D.flush.acts<=_/\_<=D.flush.acts;unfold Dev.flush;split
  ·omega
  exact ⟨Int.le_refl _,by show D.acts<=D.acts+1;omega⟩
theorem doA_acts:∀ (l:List Act) (D:Dev),(doA l D).1.acts<=D.acts+l.length/\D.acts<=(doA l D).1.acts
 | [],D=>⟨by show D.acts<=D.acts+0;omega,Int.le_refl _⟩
 | a :: l,D=>by
  have h1:=run_acts a D;have h2:=doA_acts l (a.run D).1;show (if (a.run D).2=0 then doA l (a.run D).1 else a.run D).1.acts<=_/\_<=(if (a.run D).2=0 then doA l (a.run D).1 else a.run D).1.acts;rw [List.length_cons];split <;> omega
end Jr
def ActAt (M db:Nat) (w:World) (v:Value):Jr.Act->Prop
 | .flush=>v=.func (.func 70) #[.pointer (some ⟨db,0,none⟩)] #[]
 | .write b s=>∃ x y z,v=.func (.func 102) #[] #[.pointer (some ⟨x,0,none⟩),.pointer (some ⟨y,0,none⟩),.pointer (some ⟨z,0,none⟩)]/\M<=x/\M<=y/\M<=z/\w.cell? ⟨x,0,none⟩=some (.pointer (some ⟨db,0,none⟩))/\w.cell? ⟨y,0,none⟩=some (.int .i64 b)/\w.cell? ⟨z,0,none⟩=some (.string s)/\s.size<=9223372036854775807
def ActsAt (M db:Nat) (w:World) (v:Value) (l:List Jr.Act):Prop:=
 (v=.slice none 0 0/\l = []) ∨ ∃ g off cap,v=.slice (some ⟨g,off,none⟩) l.length cap/\M<=g/\∀ i a,l[i]?=some a->∃ u,w.cell? ⟨g,off+i,none⟩=some u/\ActAt M db w u a
def Above (M:Nat) (w w':World):Prop:=∀ k,M<=k->k < w.heap.size->w'.heap[k]?=w.heap[k]?
theorem Above.cell {M:Nat} {w w':World} (h:Above M w w') {a:Addr} {v:Value} (hc:w.cell? a=some v) (hM:M<=a.block):w'.cell? a=some v:=by
 have hl:=World.block_lt_of_cell? w a hc;have:=h a.block hM hl;simp only [World.cell?] at hc ⊢;rw [this];exact hc
theorem Above.ofOnly {M:Nat} {S:List Nat} {w w':World} (h:Only S w w') (hS:∀ k ∈ S,k < M):Above M w w':=fun k hk hl=>h.block k hl (fun hm=>by have:=hS k hm;omega)
theorem Above.ofBelow {M:Nat} {w w':World} (h:Below w.heap.size w w'):Above M w w':=fun k _ hl=>h.block k hl
theorem ActAt.above {M db:Nat} {w w':World} {v:Value} {a:Jr.Act} (h:ActAt M db w v a) (ha:Above M w w'):ActAt M db w' v a:=by
 cases a with
 | flush=>exact h
 | write b s =>
  obtain ⟨x,y,z,e,hx,hy,hz,c1,c2,c3,r⟩:=h;exact ⟨x,y,z,e,hx,hy,hz,ha.cell c1 hx,ha.cell c2 hy,ha.cell c3 hz,r⟩
theorem ActsAt.above {M db:Nat} {w w':World} {v:Value} {l:List Jr.Act} (h:ActsAt M db w v l) (ha:Above M w w'):ActsAt M db w' v l:=by
 rcases h with h | ⟨g,off,cap,e,hg,hc⟩
 ·exact .inl h
 ·refine .inr ⟨g,off,cap,e,hg,fun i a hi=>?_⟩;obtain ⟨u,h1,h2⟩:=hc i a hi;exact ⟨u,ha.cell h1 hg,h2.above ha⟩
theorem ActAt.mono {M M' db:Nat} {w:World} {v:Value} {a:Jr.Act} (h:ActAt M db w v a) (hM:M'<=M):ActAt M' db w v a:=by
 cases a with
 | flush=>exact h
 | write b s =>
  obtain ⟨x,y,z,e,hx,hy,hz,r⟩:=h;exact ⟨x,y,z,e,by omega,by omega,by omega,r⟩
theorem ActsAt.mono {M M' db:Nat} {w:World} {v:Value} {l:List Jr.Act} (h:ActsAt M db w v l) (hM:M'<=M):ActsAt M' db w v l:=by
 rcases h with h | ⟨g,off,cap,e,hg,hc⟩
 ·exact .inl h
 ·refine .inr ⟨g,off,cap,e,by omega,fun i a hi=>?_⟩;obtain ⟨u,h1,h2⟩:=hc i a hi;exact ⟨u,h1,h2.mono hM⟩
theorem ActsAt.form {M db:Nat} {w:World} {v:Value} {l:List Jr.Act} (h:ActsAt M db w v l):∃ ad cap,v=.slice ad l.length cap:=by
 rcases h with ⟨rfl,rfl⟩ | ⟨g,off,cap,rfl,_⟩
 ·exact ⟨_,_,rfl⟩
 ·exact ⟨_,_,rfl⟩
def devB (b:Nat) (y:Lay):List Nat:=[b,y.gk,y.gn,y.gp]
end Go.Proofs.YtnpdhidliaahbaaGreat
