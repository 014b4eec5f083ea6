/- Small laws for the step from a law's walk to its row: what a parameter of each kind is. -/
import Derived.Test.YtnpdhidliaahbaaGreatRows
import Derived.WalkKit
import Derived.ProofKit
import Derived.OpenShut
import Derived.ShutString
import Derived.ChangeOld
import Derived.Below
import Derived.Lib.SmallJoins
import Derived.Laws.IdiomArrays
import Derived.Deep.Slices
set_option maxRecDepth 100000
set_option maxHeartbeats 32000000
set_option linter.unusedSimpArgs false
set_option linter.unusedVariables false
namespace Go.Proofs.YtnpdhidliaahbaaGreat
open Go Go.ChangeShapes Go.WideShapes Go.ChangeAt Go.RowKit
open Go.ChangeMaps (open_string shut_string)
theorem own:ownKnob Tryz.prog.godebug=none:=by kernel_rfl
theorem laidOut:laidOutB Tryz.prog=true:=by kernel_rfl
section
variable {H:Type} {enc:TypeId × Value->H} {P:Program} {w:World} {base:Nat} {spare:Nat->Bool} {held:Bool}
theorem okWide_array {r:Reach} {b0 n:Nat} {t e:TypeId} {v:Value} (ht:P.underlying t=some (.array n e)) (h:Value.okWide P w r b0 t v):∃ cs,v=.agg cs/\cs.size=P.cellsOf t:=by
 simp only [Value.okWide,ht] at h;obtain ⟨cs,h1,h2,_⟩:=h;exact ⟨cs,h1,h2⟩
theorem open_arr3 {r:Reach} {b0:Nat} {t e:TypeId} {v:Value} {d:DataW H} {p:List MemPlace} (ht:P.underlying t=some (.array 3 e)) (hce:P.cellsOf e=1) (hC:P.cellsOf t=3)
  (hv:Value.okWide P w r b0 t v) (h:DataW.Trod enc P w base spare held t v d p) :
  ∃ (v0 v1 v2:Value) (y0 y1 y2:DataW H × List MemPlace) (n:Nat),v=.agg #[v0,v1,v2]/\DataW.trod enc P w base spare held n e [v0]=some y0/\DataW.trod enc P w base spare held n e [v1]=some y1 /\
   DataW.trod enc P w base spare held n e [v2]=some y2:=by
 obtain ⟨cs,rfl,hsz⟩:=okWide_array ht hv
 obtain ⟨c0,c1,c2,rfl⟩:=Joins.array3 (hsz.trans hC)
 obtain ⟨fuel,hf⟩:=h
 obtain ⟨y0,y1,y2,n,_,h0,h1,h2⟩:=trod_array3 ht hce hf
 exact ⟨c0,c1,c2,y0,y1,y2,n,rfl,h0,h1,h2⟩
theorem trod_int1 {t:TypeId} {k:IntKind} {fuel:Nat} {v:Value} {x:DataW H × List MemPlace} (ht:P.underlying t=some (.int k)) (h:DataW.trod enc P w base spare held fuel t [v]=some x) :
  ∃ n,v=.int k n/\(Lit.int k n).wf=true:=by
 obtain ⟨n,h1,_,hw⟩:=DataW.trod_int ht h
 exact ⟨n,by simpa using h1,hw⟩
theorem trod_string1 {t:TypeId} {fuel:Nat} {v:Value} {x:DataW H × List MemPlace} (ht:P.underlying t=some .string) (h:DataW.trod enc P w base spare held fuel t [v]=some x) :
  ∃ s:ByteArray,v=.string s/\s.size<=maxLen:=by
 obtain ⟨s,h1,_,hw⟩:=DataW.trod_string ht h
 exact ⟨s,by simpa using h1,hw⟩
end
theorem strLen {s:ByteArray} (h:s.size<=maxLen):s.size<=9223372036854775807:=by unfold maxLen at h;exact h
theorem wf_lo64 {n:Int} (h:(Lit.int .i64 n).wf=true) : -9223372036854775808<=n/\n<=9223372036854775807:=by
 simp [Lit.wf,IntKind.min,IntKind.max,IntKind.signed,IntKind.bits] at h;omega
theorem wf_u8 {n:Int} (h:(Lit.int .u8 n).wf=true):∃ b:UInt8,n=(b.toNat:Int):=by
 simp [Lit.wf,IntKind.min,IntKind.max,IntKind.signed,IntKind.bits] at h;refine ⟨UInt8.ofNat n.toNat,?_⟩;simp;omega
end Go.Proofs.YtnpdhidliaahbaaGreat
namespace Go.Proofs.YtnpdhidliaahbaaGreat
open Go Go.ChangeShapes Go.WideShapes Go.ChangeAt Go.RowKit
def CellsIn (w:World) (ad:Option Addr) (cs:List Value):Prop:=∀ j v,cs[j]?=some v->∃ g off,ad=some ⟨g,off,none⟩/\w.cell? ⟨g,off+j,none⟩=some v
theorem below_drewN {B:Nat} {w w':World} (h:Below B w w') (k:Nat):Below B w (w'.drewN k):=⟨h.os,h.tape,h.output,h.size,h.block⟩
theorem CellsIn.below {w w':World} {ad:Option Addr} {cs:List Value} (h:CellsIn w ad cs) (hb:Below w.heap.size w w'):CellsIn w' ad cs:=by
 intro j v hj;obtain ⟨g,off,e,hc⟩:=h j v hj;exact ⟨g,off,e,(hb.cell (p:=⟨g,off+j,none⟩) (World.block_lt_of_cell? w _ hc)).trans hc⟩
section
variable {H:Type} {enc:TypeId × Value->H} {P:Program} {w:World} {base:Nat} {spare:Nat->Bool} {held:Bool}
theorem read_slice {t e:TypeId} {c fuel:Nat} {v:Value} {x:DataW H × List MemPlace} (ht:P.underlying t=some (.slice e)) (hc:P.cellsOf e=c) (h0:0 < c)
  (h:DataW.trod enc P w base spare held fuel t [v]=some x) :
  ∃ (ad:Option Addr) (len cap:Nat) (E:Nat->List Value),v=.slice ad len cap/\len<=cap/\cap<=maxLen/\∀ i,i < len->(E i).length=c/\(∀ k u,(E i)[k]?=some u->∃ g off,ad=some ⟨g,off,none⟩/\w.cell? ⟨g,off+(i * c+k),none⟩=some u) /\
   ∃ n y,DataW.trod enc P w base spare held n e (E i)=some y:=by
 rcases Deep.open_slice ht h with ⟨h1,_⟩ | ⟨a,len,cap,m,n,D,Pl,h1,hb,hl,hm,hmm,_,hx⟩
 ·cases h1;exact ⟨none,0,0,fun _=>[],rfl,Nat.le_refl _,Nat.zero_le _,fun i hi=>absurd hi (Nat.not_lt_zero _)⟩
 ·cases h1;have hlm:len<=m:=by rw [hmm];split <;> omega
  obtain ⟨E,hE⟩:=Deep.choose_lt (α:=List Value) (p:=fun i cs'=>w.cells? base (a.add (i * P.cellsOf e)) (P.cellsOf e)=some cs'/\∃ n y,DataW.trod enc P w base spare held n e cs'=some y) (fun i hi=>by
   obtain ⟨cs',h1,h2⟩:=hx i hi;exact ⟨cs',h1,n,_,h2⟩)
  refine ⟨some a,len,cap,E,rfl,hl,hm,fun i hi=>?_⟩;obtain ⟨h1,h2⟩:=hE i (by omega);rw [hc] at h1;obtain ⟨_,h3,h4⟩:=World.cells?_some h1;refine ⟨h3,fun k u hk=>?_,h2⟩;have hkl:k < c:=by rw [<- h3];exact (List.getElem?_eq_some_iff.1 hk).1
  have h5:=h4 k hkl;rw [hk,Deep.add_add] at h5;have hsp:a.spot=none:=by
   obtain ⟨_,_,h4'⟩:=World.cells?_some (hE 0 (by omega)).1;have h6:=h4' 0 (by omega);rw [Deep.add_add] at h6;simp only [Nat.zero_mul,Nat.add_zero] at h6;have h7:((E 0)[0]?).isSome=true:=by
    obtain ⟨h8,_⟩:=hE 0 (by omega);rw [hc] at h8;obtain ⟨_,h9,_⟩:=World.cells?_some h8;simp [h9,h0]
   rw [<- h6] at h7;obtain ⟨b,off,sp⟩:=a;cases sp with
   | none=>rfl
   | some s =>
    simp only [Addr.add,if_pos,World.cell?] at h7;split at h7 <;> simp at h7
  refine ⟨a.block,a.off,?_,?_⟩
  ·obtain ⟨b,off,sp⟩:=a;simp only at hsp;subst hsp;rfl
  have e1:a.add (i * c+k)=⟨a.block,a.off+(i * c+k),none⟩:=by
   unfold Addr.add;split
   ·rename_i h;obtain ⟨b,off,sp⟩:=a;simp only at hsp;subst hsp;simp only [Addr.mk.injEq,true_and,and_true];omega
   rfl
  rw [<- e1];exact h5
theorem read_field {fs:Array Field} {t:TypeId} {cs:List Value} {fuel:Nat} {x:DataW H × List MemPlace} (ht:P.underlying t=some (.struct fs)) (h:DataW.trod enc P w base spare held fuel t cs=some x) (i:Nat) (f:Field) (hf:fs[i]?=some f)
  (o c:Nat) (ho:f.offset=o) (hc:P.cellsOf f.type=c):∃ n y,DataW.trod enc P w base spare held n f.type ((cs.drop o).take c)=some y:=by
 obtain ⟨xs,n,_,_,_,hl,hx⟩:=DataW.trod_struct ht h
 subst ho;subst hc
 have h1:=hx i f hf
 have h2:i < fs.size:=(Array.getElem?_eq_some_iff.1 hf).1
 rw [List.getElem?_eq_getElem (by omega)] at h1
 exact ⟨n,_,h1⟩
def BoolsIn (w:World) (ad:Option Addr) (cap:Nat) (l:List Bool):Prop:=CellsIn w ad (l.map Value.bool)/\l.length<=cap/\cap<=9223372036854775807
theorem read_bools {t e:TypeId} {fuel:Nat} {v:Value} {x:DataW H × List MemPlace} (ht:P.underlying t=some (.slice e)) (he:P.underlying e=some .bool) (hc:P.cellsOf e=1) (h:DataW.trod enc P w base spare held fuel t [v]=some x) :
  ∃ ad cap l,v=.slice ad (List.length l) cap/\BoolsIn w ad cap l:=by
 obtain ⟨ad,len,cap,E,rfl,h1,h2,h3⟩:=read_slice ht hc Nat.one_pos h
 obtain ⟨B,hB⟩:=Deep.choose_lt (α:=Bool) (p:=fun i b=>E i = [.bool b]) (fun i hi=>by
  obtain ⟨_,_,n,y,h4⟩:=h3 i hi;obtain ⟨b,h5,_⟩:=DataW.trod_bool he h4;exact ⟨b,h5⟩)
 refine ⟨ad,cap,(List.range len).map B,by simp,?_,by simpa using h1,h2⟩
 intro j u hj
 have hjl:j < len:=by have:=(List.getElem?_eq_some_iff.1 hj).1;simpa using this
 have hu:u=.bool (B j):=by simp [hjl] at hj;exact hj.symm
 obtain ⟨_,h4,_⟩:=h3 j hjl
 have h5:=h4 0 u (by rw [hB j hjl,hu];rfl)
 simpa using h5
end
end Go.Proofs.YtnpdhidliaahbaaGreat
