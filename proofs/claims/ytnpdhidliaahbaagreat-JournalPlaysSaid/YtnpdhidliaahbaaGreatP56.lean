/- Both journals over a device: their answers in one form. -/
import Derived.Test.YtnpdhidliaahbaaGreatP55
import Derived.Test.YtnpdhidliaahbaaGreatP32
import Derived.Test.YtnpdhidliaahbaaGreatP31
import Derived.Test.YtnpdhidliaahbaaGreatP27
import Derived.Test.YtnpdhidliaahbaaGreatP49
set_option maxRecDepth 100000
set_option maxHeartbeats 32000000
set_option linter.unusedSimpArgs false
set_option linter.unusedVariables false
namespace Go.Proofs.YtnpdhidliaahbaaGreat
open Go Go.RowKit
namespace Jr
def fits (g:Geo.G) (D:Dev):Prop:=Geo.May g/\(D.kept.length:Int)=g.blocks
instance (g:Geo.G) (D:Dev):Decidable (fits g D):=by unfold fits;infer_instance
def fmtS (g:Geo.G) (D:Dev):Dev × Int:=if fits g D then doA (fmtA g) D else (D,2)
def repS (g:Geo.G) (D:Dev):Dev × Int × List Txn:=if fits g D then (match readL g D.now with
 | none=>(D,80,[])
 | some L=>if L.txns = [] then (D,0,[]) else ((doA (replayA g L.txns (L.place g) L.next) D).1,(doA (replayA g L.txns (L.place g) L.next) D).2,if (doA (replayA g L.txns (L.place g) L.next) D).2=0 then L.txns else [])) else (D,2,[])
end Jr
theorem own_onlyN {S:List Nat} {w w':World} {B:Nat} {E:TypeId} {size n:Nat} {v:Value} {xs:List Value} (h:w.ownsRow B E size v n xs) (ho:Only S w w') (hS:∀ k,v.ownBlock=some k->k ∉ S):w'.ownsRow B E size v n xs:=by
 refine ⟨h.1,h.2.imp id ?_⟩;rintro ⟨g,cap,cur,rfl,hg,hh,r⟩;exact ⟨g,cap,cur,rfl,hg,by rw [ho.block g (lt_of_block hh) (hS g rfl)];exact hh,r⟩
theorem RefAt.onlyB {S:List Nat} {B b:Nat} {w w':World} {z:RLay} {D:Dev} (h:RefAt B w b z D) (ho:Only S w w') (hS:∀ k ∈ S,k < B):RefAt B w' b z D:=
 ⟨h.own,ho.row h.cells (fun hk=>by have:=hS _ hk;have:=h.own;omega),own_onlyB h.now ho hS,own_onlyB h.was ho hS,own_onlyB h.pend ho hS,h.ne,h.pos,h.left,h.acts⟩
theorem DevAt.onlyN {S:List Nat} {B b:Nat} {w w':World} {y:Lay} {D:Dev} (h:DevAt B w b y D) (ho:Only S w w') (hS:∀ k ∈ devB b y,k ∉ S):DevAt B w' b y D:=by
 refine ⟨h.own,ho.row h.cells (hS b (by simp [devB])),own_onlyN h.kept ho ?_,own_onlyN h.now ho ?_,own_onlyN h.pend ho ?_,h.ne,h.pos,h.left,h.acts⟩
 all_goals
  intro k hk;simp only [Value.ownBlock,Option.some.injEq] at hk;exact hS k (by simp [devB];omega)
theorem refB_ge {B b:Nat} {w:World} {z:RLay} {D:Dev} (h:RefAt B w b z D):∀ k ∈ refB b z,B<=k:=by
 have:=h.bounds;unfold refB;simp;omega
section
variable {B0 B1:Nat} {w:World} {db:Nat} {y:Lay} {sb:Nat} {z:RLay} {D:Dev}
theorem pfmt_any (g:Geo.G) (hd:DevAt B0 w db y D) (ha:D.acts+6000 < 1000000000000) :
  Calls Tryz.prog 21 #[.pointer (some ⟨db,0,none⟩),.agg (Geo.cells g)] w fun e w'=>ActTold B0 db y (Jr.fmtS g D).2 (Jr.fmtS g D).1 w e w':=by
 unfold Jr.fmtS
 by_cases h:Jr.fits g D
 ·rw [if_pos h];exact format_ok g w hd h.1 h.2 (by omega)
 ·rw [if_neg h];exact format_bad g w hd h
theorem rref_bad (g:Geo.G) (hi:GeoIn g) (hs:RefAt B1 w sb z D) (h:¬ Jr.fits g D):∀ wz,Below w.heap.size w wz->Calls Tryz.prog 80 #[.pointer (some ⟨sb,0,none⟩),.agg (Geo.cells g)] wz fun e w'=>e=.returned (.int .i64 2)/\Below wz.heap.size wz w':=fun wz hz=>by
 by_cases hm:Geo.May g
 ·have:=rrefuses_may g hm wz (hs.below hz);rwa [if_neg (fun hn=>h ⟨hm,hn⟩)] at this
 ·exact rrefuses_not g hi.2.2.1 hm wz (hs.below hz)
theorem rfmt_any (g:Geo.G) (hi:GeoIn g) (hs:RefAt B1 w sb z D) (ha:D.acts+6000 < 1000000000000) :
  Calls Tryz.prog 29 #[.pointer (some ⟨sb,0,none⟩),.agg (Geo.cells g)] w fun e w'=>RTold B1 sb z (Jr.fmtS g D).2 (Jr.fmtS g D).1 w e w':=by
 unfold Jr.fmtS
 by_cases h:Jr.fits g D
 ·rw [if_pos h];exact rformat_ok g h.1 w hs h.2 ha
 ·rw [if_neg h];exact (rformat_bad (some ⟨sb,0,none⟩) 2 (by decide) g w (rref_bad g hi hs h)).mono fun e w' ⟨h1,h2⟩=>⟨h1,hs.below h2,Only.ofBelow h2⟩
theorem ownT_nil (B:Nat) (w:World):OwnT B w (.slice none 0 0) []:=⟨[],World.ownsRow_nil _ _ _ _,trivial⟩
theorem prep_any (g:Geo.G) {k:Nat} (hok:D.Ok k) (hd:DevAt B0 w db y D) (ha:D.acts+6000 < 1000000000000) :
  Calls Tryz.prog 15 #[.pointer (some ⟨db,0,none⟩),.agg (Geo.cells g)] w fun e w'=>∃ v,e=.returned (.tuple #[v,.int .i64 (Jr.repS g D).2.1])/\DevAt B0 w' db y (Jr.repS g D).1/\Only (devB db y) w w'/\OwnT w.heap.size w' v (Jr.repS g D).2.2:=by
 unfold Jr.repS
 by_cases h:Jr.fits g D
 ·rw [if_pos h];refine (replay_ok g w hd h.1 h.2 hok.now hok.len (by omega)).mono fun e w' ht=>?_;rcases ht with ⟨h1,h2,h3,h4⟩ | ⟨L,h1,h2,h3,h4,h5⟩ | ⟨L,h1,h2,h3,h4,h5,h6⟩ | ⟨L,v,h1,h2,h3,h4,h5,h6,h7⟩
  ·rw [h1];exact ⟨_,h2,h3,h4,ownT_nil _ _⟩
  ·rw [h1];dsimp only;rw [if_pos h2];exact ⟨_,h3,h4,h5,ownT_nil _ _⟩
  ·rw [h1];dsimp only;rw [if_neg h2,if_neg h3];exact ⟨_,h4,h5,h6,ownT_nil _ _⟩
  rw [h1];dsimp only;rw [if_neg h2,if_pos h3];exact ⟨v,by rw [h3];exact h4,h6,h7,h5⟩
 ·rw [if_neg h];exact (replay_bad g w hd h).mono fun e w' ⟨h1,h2⟩=>⟨_,h1,hd.below h2,Only.ofBelow h2,ownT_nil _ _⟩
theorem rrep_any (g:Geo.G) (hi:GeoIn g) {k:Nat} (hok:D.Ok k) (hs:RefAt B1 w sb z D) (ha:D.acts+6000 < 1000000000000) :
  Calls Tryz.prog 32 #[.pointer (some ⟨sb,0,none⟩),.agg (Geo.cells g)] w fun e w'=>∃ v,e=.returned (.tuple #[v,.int .i64 (Jr.repS g D).2.1])/\RefAt B1 w' sb z (Jr.repS g D).1/\Only (refB sb z) w w'/\OwnT w.heap.size w' v (Jr.repS g D).2.2:=by
 unfold Jr.repS
 by_cases h:Jr.fits g D
 ·rw [if_pos h];refine (rreplay_ok g h.1 w hs h.2 hok.now hok.len ha).mono fun e w' ht=>?_;rcases ht with ⟨h1,h2,h3,h4⟩ | ⟨L,h1,h2,h3,h4,h5⟩ | ⟨L,h1,h2,h3,h4,h5,h6⟩ | ⟨L,v,h1,h2,h3,h4,h5,h6,h7⟩
  ·rw [h1];exact ⟨_,h2,h3,h4,ownT_nil _ _⟩
  ·rw [h1];dsimp only;rw [if_pos h2];exact ⟨_,h3,h4,h5,ownT_nil _ _⟩
  ·rw [h1];dsimp only;rw [if_neg h2,if_neg h3];exact ⟨_,h4,h5,h6,ownT_nil _ _⟩
  rw [h1];dsimp only;rw [if_neg h2,if_pos h3];exact ⟨v,by rw [h3];exact h4,h6,h7,h5⟩
 ·rw [if_neg h];exact (rreplay_bad (some ⟨sb,0,none⟩) 2 (by decide) g w (rref_bad g hi hs h)).mono fun e w' ⟨h1,h2⟩=>⟨_,h1,hs.below h2,Only.ofBelow h2,ownT_nil _ _⟩
end
namespace Jr
theorem doA_ok:∀ (l:List Act) (D:Dev) (k:Nat),D.Ok k->(doA l D).1.Ok (k+l.length)
 | [],D,k,h=>h
 | a :: l,D,k,h=>by
  have h1:(a.run D).1.Ok (k+1):=by
   cases a with
   | write b s=>exact h.write b s
   | flush=>exact h.flush
  show (if (a.run D).2=0 then doA l (a.run D).1 else a.run D).1.Ok _;split
  ·have:=doA_ok l _ _ h1;rw [List.length_cons];exact this.mono (by omega)
  ·exact h1.mono (by rw [List.length_cons];omega)
theorem fmtA_length (g:Geo.G):(fmtA g).length=plc g+3:=by
 unfold fmtA headA;rw [List.length_append,ringW_length];simp
theorem fmtS_ok {g:Geo.G} {D:Dev} {k:Nat} (h:D.Ok k):(fmtS g D).1.Ok (k+520):=by
 unfold fmtS;by_cases hf:fits g D
 ·rw [if_pos hf];have:=doA_ok (fmtA g) D k h;have hp:=(plc_of hf.1).2.1;rw [fmtA_length] at this;exact this.mono (by omega)
 ·rw [if_neg hf];exact h.mono (by omega)
theorem repS_ok {g:Geo.G} {D:Dev} {k:Nat} (h:D.Ok k):(repS g D).1.Ok (k+5000):=by
 unfold repS;by_cases hf:fits g D
 ·rw [if_pos hf];cases e:readL g D.now with
  | none=>exact h.mono (by omega)
  | some L =>
   dsimp only;split
   ·exact h.mono (by omega)
   have:=doA_ok (replayA g L.txns (L.place g) L.next) D k h;have hb:=hf.1.ok.1;unfold Geo.asked at hb;have hl:(replayA g L.txns (L.place g) L.next).length<=4200:=by
    unfold replayA headA;rw [List.length_append,List.length_map];have:=comes_length g.blocks.toNat L.txns;simp;omega
   exact this.mono (by omega)
 ·rw [if_neg hf];exact h.mono (by omega)
end Jr
theorem repS_txns {g:Geo.G} {D:Dev} {k:Nat} (h:D.Ok k):(Jr.repS g D).2.2.length<=600/\∀ t ∈ (Jr.repS g D).2.2,t.ch.length<=600/\t.rv.length<=20000:=by
 have nil:([]:List Jr.Txn).length<=600/\∀ t ∈ ([]:List Jr.Txn),t.ch.length<=600/\t.rv.length<=20000:=⟨by simp,fun t ht=>by cases ht⟩;unfold Jr.repS;by_cases hf:Jr.fits g D
 ·rw [if_pos hf];cases e:Jr.readL g D.now with
  | none=>exact nil
  | some L =>
   obtain ⟨f1,-,f2,-⟩:=readL_fits hf.1 h.now (by have:=hf.2;have:=h.len;omega) e;dsimp only;split
   ·exact nil
   dsimp only;split
   ·exact ⟨f2,fun t ht=>(f1 t ht).2⟩
   exact nil
 ·rw [if_neg hf];exact nil
end Go.Proofs.YtnpdhidliaahbaaGreat
namespace Go.Proofs.YtnpdhidliaahbaaGreat
open Go Go.RowKit
theorem below_dn (w:World) (n:Nat):Below w.heap.size w (w.drewN n):=⟨rfl,rfl,rfl,Nat.le_refl _,fun _ _=>rfl⟩
theorem OwnTs.get {B:Nat} {w:World}:∀ {xs:List (Value × Value)} {ts:List Jr.Txn} {i:Nat} {x:Value × Value},OwnTs B w xs ts->xs[i]?=some x->∃ t ∈ ts,OwnC B w x.1 t.ch/\OwnInts B w x.2 t.rv
 | x :: xs,t :: ts,0,y,h,e=>by injection e with e;subst e;exact ⟨t,by simp,h.1⟩
 | x :: xs,t :: ts,i+1,y,h,e=>by
  obtain ⟨t',ht,r⟩:=OwnTs.get h.2 e;exact ⟨t',by simp [ht],r⟩
 | [],[],i,y,h,e=>by cases e
 | [],_ :: _,_,_,h,_=>h.elim
 | _ :: _,[],_,_,h,_=>h.elim
end Go.Proofs.YtnpdhidliaahbaaGreat
namespace Go.Proofs.YtnpdhidliaahbaaGreat
open Go Go.RowKit
structure RdS (w:World) (GL:List Value) (B0 B1 db:Nat) (y:Lay) (sb:Nat) (z:RLay) (D E:Dev) (wx:World):Prop where
 lo:w.heap.size < B0
 le:B0<=B1
 geo:Row wx w.heap.size 30 GL
 bel:Below w.heap.size w wx
 d:DevAt B0 wx db y D
 s:RefAt B1 wx sb z E
 lt:∀ k ∈ devB db y,k < B1
section
variable {w wx w':World} {GL:List Value} {B0 B1 db:Nat} {y:Lay} {sb:Nat} {z:RLay} {D E D' E':Dev}
theorem RdS.below (h:RdS w GL B0 B1 db y sb z D E wx) (hb:Below wx.heap.size wx w'):RdS w GL B0 B1 db y sb z D E w':=
 ⟨h.lo,h.le,h.geo.below hb h.geo.lt,below_next h.bel hb,h.d.below hb,h.s.below hb,h.lt⟩
theorem RdS.dev_ge (h:RdS w GL B0 B1 db y sb z D E wx):∀ k ∈ devB db y,B0<=k:=by
 have:=h.d.bounds;unfold devB;simp;omega
theorem RdS.dev (h:RdS w GL B0 B1 db y sb z D E wx) (hd:DevAt B0 w' db y D') (ho:Only (devB db y) wx w'):RdS w GL B0 B1 db y sb z D' E w':=by
 have hge:=h.dev_ge;have hlo:=h.lo;refine ⟨h.lo,h.le,ho.row h.geo (fun hk=>by have:=hge _ hk;omega),h.bel.trans ?_,hd,h.s.onlyB ho h.lt,h.lt⟩;have hz:w.heap.size<=wx.heap.size:=h.bel.size;exact ho.below hz (fun k hk=>by have:=hge k hk;omega)
theorem RdS.ref (h:RdS w GL B0 B1 db y sb z D E wx) (hs:RefAt B1 w' sb z E') (ho:Only (refB sb z) wx w'):RdS w GL B0 B1 db y sb z D E' w':=by
 have hge:=refB_ge h.s;have hlo:=h.lo;have hle:=h.le;refine ⟨h.lo,h.le,ho.row h.geo (fun hk=>by have:=hge _ hk;omega),h.bel.trans ?_,h.d.onlyN ho (fun k hk hn=>by have:=hge k hn;have:=h.lt k hk;omega),hs,h.lt⟩;have hz:w.heap.size<=wx.heap.size:=h.bel.size;exact ho.below hz (fun k hk=>by have:=hge k hk;omega)
theorem RdS.first {wa wb:World} (hg:Row wa w.heap.size 30 GL) (hb:Below w.heap.size w wa) (hB:w.heap.size < B0) (hle:B0<=wa.heap.size) (hd:DevAt B0 wa db y D) (hs:RefAt wa.heap.size wb sb z E) (hbb:Below wa.heap.size wa wb):RdS w GL B0 wa.heap.size db y sb z D E wb:=
 ⟨hB,hle,hg.below hbb hg.lt,below_next hb hbb,hd.below hbb,hs,by
  have:=hd.bounds
  unfold devB
  simp
  omega⟩
end
def pendI (D:Dev):IL:=(pendTo D.pend D.pend.length).map fun (n:Nat)=>(n:Int)
theorem pend_ints {B:Nat} {w:World} {v:Value} {D:Dev} (h:w.ownsRow B 3 1 v (pendTo D.pend D.pend.length).length (natVs (pendTo D.pend D.pend.length))):OwnInts B w v (pendI D):=by
 have e:icells (pendI D)=natVs (pendTo D.pend D.pend.length):=(by simp [icells,pendI,natVs]);unfold OwnInts;rw [e,show (pendI D).length=(pendTo D.pend D.pend.length).length by simp [pendI]];exact h
theorem pendI_length {D:Dev} {k:Nat} (h:D.Ok k) (hn:D.kept.length<=4096):(pendI D).length<=4096:=by
 have:=pendTo_length D.pend D.pend.length;have:=h.plen;simp only [pendI,List.length_map];omega
end Go.Proofs.YtnpdhidliaahbaaGreat
