/- Acts that a law is handed. -/
import Derived.Test.YtnpdhidliaahbaaGreatP31
import Derived.Test.YtnpdhidliaahbaaGreatP23
import Derived.Test.YtnpdhidliaahbaaGreatP07
set_option maxRecDepth 100000
set_option maxHeartbeats 32000000
set_option linter.unusedSimpArgs false
set_option linter.unusedVariables false
namespace Go.Proofs.YtnpdhidliaahbaaGreat
open Go.Lib (hid)
open Go Go.ChangeShapes Go.WideShapes Go.ChangeAt Go.RowKit
structure PAct where
 kind:Nat
 t:Jr.Txn
 data:List Jr.Chg
 b:Int
 n:Int
 fill:Nat
 keep:List Bool
def pact0:PAct:=⟨0,⟨[],[]⟩,[],0,0,0,[]⟩
instance:Inhabited PAct:=⟨pact0⟩
def capOk (v:Value):Prop:=∀ ad n cap,v=.slice (some ad) n cap->n<=cap
structure ActV (w:World) (vc vr vd:Value) (ak:Option Addr) (a:PAct):Prop where
 ch:ChgsV w vc a.t.ch
 rv:IntsV w vr a.t.rv
 data:ChgsV w vd a.data
 keep:BoolsAt w ak a.keep
 cc:capOk vc
 cr:capOk vr
 cd:capOk vd
 chx:∀ x ∈ a.t.ch,In64 x.1/\x.2.size<=9223372036854775807
 rvx:∀ x ∈ a.t.rv,In64 x
 dx:∀ x ∈ a.data,In64 x.1/\x.2.size<=9223372036854775807
 len:a.t.ch.length<=9223372036854775807/\a.t.rv.length<=9223372036854775807/\a.data.length<=9223372036854775807/\a.keep.length<=9223372036854775807
 ints:In64 a.b/\In64 a.n
 small:a.kind < 256/\a.fill < 256
def actCs (a:PAct) (vc vr vd:Value) (ak:Option Addr) (ck:Nat):List Value:=[.int .u8 (a.kind:Int),vc,vr,vd,.int .i64 a.b,.int .i64 a.n,.int .u8 (a.fill:Int),.slice ak a.keep.length ck]
structure PActsIn (w:World) (v:Value) (l:List PAct):Prop where
 form:∃ ad cap,v=.slice ad l.length cap/\∀ i,i < l.length->∃ g off vc vr vd ak ck,ad=some ⟨g,off,none⟩/\(∀ k u,(actCs (l.getD i pact0) vc vr vd ak ck)[k]?=some u->w.cell? ⟨g,off+(i * 8+k),none⟩=some u)/\ActV w vc vr vd ak (l.getD i pact0)
 len:l.length<=9223372036854775807
section
variable {H:Type} {enc:TypeId × Value->H} {w:World} {base:Nat} {spare:Nat->Bool} {held:Bool}
theorem wf_n8 {n:Int} (h:(Lit.int .u8 n).wf=true):∃ b:Nat,n=(b:Int)/\b < 256:=by
 simp [Lit.wf,IntKind.min,IntKind.max,IntKind.signed,IntKind.bits] at h;exact ⟨n.toNat,by omega,by omega⟩
theorem cap_of {ad:Option Addr} {len cap:Nat} (h:len<=cap):capOk (.slice ad len cap):=fun a n c e=>by cases e;exact h
theorem read_iv {fuel:Nat} {v:Value} {x:DataW H × List MemPlace} (h:DataW.trod enc Tryz.prog w base spare held fuel 23 [v]=some x):∃ l:List Int,IntsV w v l/\(∀ x ∈ l,In64 x)/\l.length<=9223372036854775807/\capOk v:=by
 obtain ⟨ad,len,cap,E,rfl,h1,h2,h3⟩:=read_slice (c:=1) Tryz.underlying23 (by kernel_rfl) (by decide) h;obtain ⟨R,hR⟩:=Deep.choose_lt (α:=Int) (p:=fun i b=>E i = [.int .i64 b]/\In64 b) (fun i hi=>by
  obtain ⟨hE,_,n,y,h4⟩:=h3 i hi;match hEi:E i,hE with
  | [u],_ =>
   rw [hEi] at h4;obtain ⟨z,rfl,w0⟩:=trod_int1 Tryz.underlying3 h4;exact ⟨z,rfl,wf_lo64 w0⟩)
 have hlen:((List.range len).map R).length=len:=(by simp);refine ⟨(List.range len).map R,⟨ad,cap,by rw [hlen],fun hn=>?_⟩,?_,by rw [hlen];unfold maxLen at h2;omega,cap_of h1⟩
 ·rw [hlen] at hn ⊢;obtain ⟨_,h4,_⟩:=h3 0 hn;obtain ⟨g,o,rfl,_⟩:=h4 0 _ (by rw [(hR 0 hn).1];rfl);refine ⟨g,o,rfl,fun j u hj hu=>?_⟩;have hj':j < len:=by omega
  have e:u=.int .i64 (R j):=by
   unfold icells at hu;simp [hj'] at hu;exact hu.symm
  subst e;obtain ⟨_,h4,_⟩:=h3 j hj';obtain ⟨g',o',e1,h6⟩:=h4 0 _ (by rw [(hR j hj').1];rfl);cases e1;simpa using h6
 ·intro y hy;obtain ⟨i,hi,rfl⟩:=List.mem_map.1 hy;exact (hR i (by simpa using hi)).2
theorem read_cv {fuel:Nat} {v:Value} {x:DataW H × List MemPlace} (h:DataW.trod enc Tryz.prog w base spare held fuel 22 [v]=some x):∃ l:List Jr.Chg,ChgsV w v l/\(∀ x ∈ l,In64 x.1/\x.2.size<=9223372036854775807)/\l.length<=9223372036854775807/\capOk v:=by
 obtain ⟨ad,len,cap,E,rfl,h1,h2,h3⟩:=read_slice (c:=2) Tryz.underlying22 (by kernel_rfl) (by decide) h;obtain ⟨R,hR⟩:=Deep.choose_lt (α:=Int × ByteArray) (p:=fun i a=>E i = [.int .i64 a.1,.string a.2]/\In64 a.1/\a.2.size<=9223372036854775807) (fun i hi=>by
  obtain ⟨h4,_,n,y,h5⟩:=h3 i hi;exact read_change h4 h5)
 have hlen:((List.range len).map R).length=len:=(by simp);refine ⟨(List.range len).map R,⟨ad,cap,by rw [hlen],fun hn=>?_⟩,?_,by rw [hlen];unfold maxLen at h2;omega,cap_of h1⟩
 ·rw [hlen] at hn ⊢;obtain ⟨_,h4,_⟩:=h3 0 hn;obtain ⟨g,o,rfl,_⟩:=h4 0 _ (by rw [(hR 0 hn).1];rfl);refine ⟨g,o,rfl,fun j u hjl hj=>?_⟩;have hi:j / 2 < len:=by omega
  have hc:=chgC_at ((List.range len).map R) (j / 2) (by rw [hlen];exact hi);have hg:((List.range len).map R).getD (j / 2) (0,⟨#[]⟩)=R (j / 2):=(by simp [List.getD,hi]);rw [hg] at hc;obtain ⟨_,h4,_⟩:=h3 (j / 2) hi;rcases (show j % 2=0 ∨ j % 2=1 by omega) with h5 | h5
  ·have e:j / 2 * 2=j:=(by omega);rw [e,hj] at hc;obtain ⟨g',o',e1,h6⟩:=h4 0 u (by rw [(hR _ hi).1,hc.1];rfl);cases e1;rwa [show j / 2 * 2+0=j by omega] at h6
  have e:j / 2 * 2+1=j:=(by omega);rw [e,hj] at hc;obtain ⟨g',o',e1,h6⟩:=h4 1 u (by rw [(hR _ hi).1,hc.2];rfl);cases e1;rwa [show j / 2 * 2+1=j by omega] at h6
 ·intro y hy;obtain ⟨i,hi,rfl⟩:=List.mem_map.1 hy;exact (hR i (by simpa using hi)).2
theorem read_bv {fuel:Nat} {v:Value} {x:DataW H × List MemPlace} (h:DataW.trod enc Tryz.prog w base spare held fuel 40 [v]=some x):∃ (l:List Bool) (ad:Option Addr) (cap:Nat),v=.slice ad l.length cap/\BoolsAt w ad l/\l.length<=9223372036854775807:=by
 obtain ⟨ad,cap,l,rfl,hc,h1,h2⟩:=read_bools Tryz.underlying40 Tryz.underlying4 (by kernel_rfl) h;refine ⟨l,ad,cap,rfl,fun i hi=>?_,by omega⟩;obtain ⟨g,off,e,h3⟩:=hc i (.bool (l.getD i false)) (by simp [List.getD,hi]);exact ⟨g,off,e,h3⟩
theorem read_act09 {fuel:Nat} {cs:List Value} {x:DataW H × List MemPlace} (hl:cs.length=8) (h:DataW.trod enc Tryz.prog w base spare held fuel 116 cs=some x) :
  ∃ q:PAct × Value × Value × Value × Option Addr × Nat,cs=actCs q.1 q.2.1 q.2.2.1 q.2.2.2.1 q.2.2.2.2.1 q.2.2.2.2.2/\ActV w q.2.1 q.2.2.1 q.2.2.2.1 q.2.2.2.2.1 q.1:=by
 match cs,hl with
 | [c0,c1,c2,c3,c4,c5,c6,c7],_ =>
  obtain ⟨n0,y0,h0⟩:=read_field Tryz.underlying116 h 0 _ rfl 0 1 rfl (by kernel_rfl);obtain ⟨n1,y1,h1⟩:=read_field Tryz.underlying116 h 1 _ rfl 1 2 rfl (by kernel_rfl);obtain ⟨n3,y3,h3⟩:=read_field Tryz.underlying116 h 2 _ rfl 3 1 rfl (by kernel_rfl);obtain ⟨n4,y4,h4⟩:=read_field Tryz.underlying116 h 3 _ rfl 4 1 rfl (by kernel_rfl);obtain ⟨n5,y5,h5⟩:=read_field Tryz.underlying116 h 4 _ rfl 5 1 rfl (by kernel_rfl);obtain ⟨n6,y6,h6⟩:=read_field Tryz.underlying116 h 5 _ rfl 6 1 rfl (by kernel_rfl);obtain ⟨n7,y7,h7⟩:=read_field Tryz.underlying116 h 6 _ rfl 7 1 rfl (by kernel_rfl);have h1':DataW.trod enc Tryz.prog w base spare held n1 25 [c1,c2]=some y1:=h1;obtain ⟨m1,z1,k1⟩:=read_field Tryz.underlying25 h1' 0 _ rfl 0 1 rfl (by kernel_rfl);obtain ⟨m2,z2,k2⟩:=read_field Tryz.underlying25 h1' 1 _ rfl 1 1 rfl (by kernel_rfl);obtain ⟨z0,rfl,w0⟩:=trod_int1 Tryz.underlying5 h0;obtain ⟨z4,rfl,w4⟩:=trod_int1 Tryz.underlying3 h4;obtain ⟨z5,rfl,w5⟩:=trod_int1 Tryz.underlying3 h5;obtain ⟨z6,rfl,w6⟩:=trod_int1 Tryz.underlying5 h6;obtain ⟨b0,rfl,l0⟩:=wf_n8 w0;obtain ⟨b6,rfl,l6⟩:=wf_n8 w6;obtain ⟨lc,a1,a2,a3,a4⟩:=read_cv k1;obtain ⟨lr,r1,r2,r3,r4⟩:=read_iv k2;obtain ⟨ld,d1,d2,d3,d4⟩:=read_cv h3;obtain ⟨lk,ak,ck,rfl,e1,e2⟩:=read_bv h7;exact ⟨(⟨b0,⟨lc,lr⟩,ld,z4,z5,b6,lk⟩,c1,c2,c3,ak,ck),rfl,⟨a1,r1,d1,e1,a4,r4,d4,a2,r2,d2,⟨a3,r3,d3,e2⟩,⟨wf_lo64 w4,wf_lo64 w5⟩,⟨l0,l6⟩⟩⟩
theorem read_acts {fuel:Nat} {v:Value} {x:DataW H × List MemPlace} {r:Reach} {b0:Nat} (_hv:Value.okWide Tryz.prog w r b0 110 v) (h:DataW.trod enc Tryz.prog w base spare held fuel 110 [v]=some x) :
  ∃ ad cap l,v=.slice ad (List.length l) cap/\PActsIn w (.slice ad (List.length l) cap) l:=by
 obtain ⟨ad,len,cap,E,rfl,h1,h2,h3⟩:=read_slice (c:=8) Tryz.underlying110 (by kernel_rfl) (by decide) h
 obtain ⟨R,hR⟩:=Deep.choose_lt (α:=PAct × Value × Value × Value × Option Addr × Nat) (p:=fun i q=>E i=actCs q.1 q.2.1 q.2.2.1 q.2.2.2.1 q.2.2.2.2.1 q.2.2.2.2.2/\ActV w q.2.1 q.2.2.1 q.2.2.2.1 q.2.2.2.2.1 q.1) (fun i hi=>by
  obtain ⟨h4,_,n,y,h5⟩:=h3 i hi;exact read_act09 h4 h5)
 have hlen:((List.range len).map fun i=>(R i).1).length=len:=by simp
 refine ⟨ad,cap,(List.range len).map fun i=>(R i).1,by rw [hlen],⟨ad,cap,rfl,fun i hi=>?_⟩,by rw [hlen];unfold maxLen at h2;omega⟩
 rw [hlen] at hi
 have hg:((List.range len).map fun i=>(R i).1).getD i pact0=(R i).1:=by simp [List.getD,hi]
 rw [hg]
 obtain ⟨_,h4,_⟩:=h3 i hi
 obtain ⟨e,hs⟩:=hR i hi
 rw [e] at h4
 obtain ⟨g,o,rfl,_⟩:=h4 0 _ rfl
 refine ⟨g,o,(R i).2.1,(R i).2.2.1,(R i).2.2.2.1,(R i).2.2.2.2.1,(R i).2.2.2.2.2,rfl,fun k u hu=>?_,hs⟩
 obtain ⟨g',o',e1,h6⟩:=h4 k u hu
 cases e1
 exact h6
end
end Go.Proofs.YtnpdhidliaahbaaGreat
namespace Go.Proofs.YtnpdhidliaahbaaGreat
open Go.Lib (hid)
open Go Go.RowKit
def Fine (l:List PAct):Prop:=∀ a ∈ l,a.t.ch.length<=400/\a.data.length<=400/\a.t.rv.length<=400/\a.keep.length<=1000
structure GreatTold (l:List PAct) (w:World) (e:Ending) (w':World):Prop where
 is:∃ b,e=.returned (.bool b)/\(b=false->l.length<=40/\Fine l)/\Below w.heap.size w w'
theorem ActV.below {w w':World} {vc vr vd:Value} {ak:Option Addr} {a:PAct} (h:ActV w vc vr vd ak a) (hb:Below w.heap.size w w'):ActV w' vc vr vd ak a:=
 ⟨h.ch.below hb,h.rv.below hb,h.data.below hb,h.keep.below hb,h.cc,h.cr,h.cd,h.chx,h.rvx,h.dx,h.len,h.ints,h.small⟩
theorem PActsIn.at {w w':World} {ax:Option Addr} {cx:Nat} {l:List PAct} (h:PActsIn w (.slice ax l.length cx) l) (hb:Below w.heap.size w w') {i:Nat} {a:PAct} (ha:l[i]?=some a) :
  ∃ g off vc vr vd ak ck,ax=some ⟨g,off,none⟩/\(∀ k u,(actCs a vc vr vd ak ck)[k]?=some u->w'.cell? ⟨g,off+(i * 8+k),none⟩=some u)/\ActV w' vc vr vd ak a:=by
 obtain ⟨ad,cap,e,hf⟩:=h.form
 cases e
 obtain ⟨hi,rfl⟩:=List.getElem?_eq_some_iff.1 ha
 obtain ⟨g,off,vc,vr,vd,ak,ck,e1,hc,hv⟩:=hf i hi
 have hg:l.getD i pact0=l[i]:=by simp [List.getD,hi]
 rw [hg] at hc hv
 exact ⟨g,off,vc,vr,vd,ak,ck,e1,fun k u hu=>(hb.cell (p:=⟨g,off+(i * 8+k),none⟩) (World.block_lt_of_cell? w _ (hc k u hu))).trans (hc k u hu),hv.below hb⟩
theorem great_any (ax:Option Addr) (cx:Nat) (l:List PAct) (w:World) (h:PActsIn w (.slice ax l.length cx) l) :
  Calls Tryz.prog 46 #[.slice ax l.length cx] w fun e w'=>GreatTold l w e w':=by
 have H:=hid h
 have hlen:=h.len
 clear h
 go_enter Tryz.func46,Tryz.ntmps46
 go_wp2_with fail
 go_loopw [3,4] (fun q3 q4 wr=>∃ (i:Nat) (N:Int),i<=l.length/\q3=.int .i64 N/\(i:Int)<=N/\N<=1500/\q4=.int .i64 (i:Int)/\Hid (Fine (l.take i))/\Hid (Below w.heap.size w wr)) (fun _ q4 _=>l.length - (intOf q4).toNat)
 case atStart=>exact ⟨0,0,Nat.zero_le _,rfl,by omega,by omega,rfl,hid (fun a ha=>by simp at ha),hid (Below.refl _ _)⟩
 case round =>
  obtain ⟨i,N,hi,rfl,hN1,hN2,rfl,hF,hB⟩:=hrel;have i0:(0:Int)<=(i:Int):=(by omega);by_cases hlt:i < l.length
  ·have i1:(i:Int) < (l.length:Int):=(by omega);obtain ⟨a,ha⟩:∃ a,l[i]?=some a:=⟨_,List.getElem?_eq_getElem hlt⟩;obtain ⟨g,off,vc,vr,vd,ak,ck,rfl,hc,hv⟩:=H.out.at hB.out ha;obtain ⟨ac,cc,rfl⟩:=hv.ch.form;obtain ⟨ar,cr,rfl⟩:=hv.rv.form;obtain ⟨ad,cd,rfl⟩:=hv.data.form;have d0:wr.cell? ⟨g,off+i * 8,none⟩=some (.int .u8 (a.kind:Int)):=hc 0 _ rfl;have d1:wr.cell? ⟨g,off+(i * 8+1),none⟩=some (.slice ac a.t.ch.length cc):=hc 1 _ rfl;have D1:wr.cell? ⟨g,off+i * 8+1,none⟩=some (.slice ac a.t.ch.length cc):=(by rw [Nat.add_assoc];exact d1);have d2:wr.cell? ⟨g,off+(i * 8+2),none⟩=some (.slice ar a.t.rv.length cr):=hc 2 _ rfl;have D2:wr.cell? ⟨g,off+i * 8+2,none⟩=some (.slice ar a.t.rv.length cr):=(by rw [Nat.add_assoc];exact d2);have d3:wr.cell? ⟨g,off+(i * 8+3),none⟩=some (.slice ad a.data.length cd):=hc 3 _ rfl;have D3:wr.cell? ⟨g,off+i * 8+3,none⟩=some (.slice ad a.data.length cd):=(by rw [Nat.add_assoc];exact d3);have d4:wr.cell? ⟨g,off+(i * 8+4),none⟩=some (.int .i64 a.b):=hc 4 _ rfl;have D4:wr.cell? ⟨g,off+i * 8+4,none⟩=some (.int .i64 a.b):=(by rw [Nat.add_assoc];exact d4);have d5:wr.cell? ⟨g,off+(i * 8+5),none⟩=some (.int .i64 a.n):=hc 5 _ rfl;have D5:wr.cell? ⟨g,off+i * 8+5,none⟩=some (.int .i64 a.n):=(by rw [Nat.add_assoc];exact d5);have d6:wr.cell? ⟨g,off+(i * 8+6),none⟩=some (.int .u8 (a.fill:Int)):=hc 6 _ rfl;have D6:wr.cell? ⟨g,off+i * 8+6,none⟩=some (.int .u8 (a.fill:Int)):=(by rw [Nat.add_assoc];exact d6);have d7:wr.cell? ⟨g,off+(i * 8+7),none⟩=some (.slice ak a.keep.length ck):=hc 7 _ rfl;have D7:wr.cell? ⟨g,off+i * 8+7,none⟩=some (.slice ak a.keep.length ck):=(by rw [Nat.add_assoc];exact d7);have hFn:Hid (a.t.ch.length<=400/\a.data.length<=400/\a.t.rv.length<=400/\a.keep.length<=1000->Fine (l.take (i+1))):=hid (fun hh b hb=>by
    rw [List.take_add_one,ha] at hb;rcases List.mem_append.1 hb with hb | hb
    ·exact hF.out b hb
    simp at hb;subst hb;exact hh)
   have hBA:=hid (hB.out.alloc hB.out.size (.cells #[.int .u8 (a.kind:Int),.slice ac a.t.ch.length cc,.slice ar a.t.rv.length cr,.slice ad a.data.length cd,.int .i64 a.b,.int .i64 a.n,.int .u8 (a.fill:Int),.slice ak a.keep.length ck] 116));have hbA:Below wr.heap.size wr (wr.alloc (.cells #[.int .u8 (a.kind:Int),.slice ac a.t.ch.length cc,.slice ar a.t.rv.length cr,.slice ad a.data.length cd,.int .i64 a.b,.int .i64 a.n,.int .u8 (a.fill:Int),.slice ak a.keep.length ck] 116)):=(Below.refl _ _).alloc (Nat.le_refl _) _;have HCH:=hid (hv.ch.below hbA);have HDT:=hid (hv.data.below hbA);have RX:=Row.new wr 116 [.int .u8 (a.kind:Int),.slice ac a.t.ch.length cc,.slice ar a.t.rv.length cr,.slice ad a.data.length cd,.int .i64 a.b,.int .i64 a.n,.int .u8 (a.fill:Int),.slice ak a.keep.length ck] rfl;obtain ⟨x0,x1,x2,x3,x4,x5,x6,x7⟩:=RX.c8;clear hc hv ha hbA RX hF;go_upto_region 6 with fail
   generalize wr.alloc _=wa at *;clear hB;generalize wr.heap.size=XB at *;clear d0 d1 D1 d2 D2 d3 D3 d4 D4 d5 D5 d6 D6 d7 D7;by_cases b0:(400:Int) < (a.t.ch.length:Int)
   ·have e0:decide ((400:Int) < (a.t.ch.length:Int))=true:=decide_eq_true b0;go_wp2_with fail;go_ret;exact ⟨true,rfl,(fun h=>by cases h),hBA.out⟩
   have e0:decide ((400:Int) < (a.t.ch.length:Int))=false:=decide_eq_false b0;by_cases b1:(400:Int) < (a.data.length:Int)
   ·have e1:decide ((400:Int) < (a.data.length:Int))=true:=decide_eq_true b1;go_wp2_with fail;go_ret;exact ⟨true,rfl,(fun h=>by cases h),hBA.out⟩
   have e1:decide ((400:Int) < (a.data.length:Int))=false:=decide_eq_false b1;by_cases b2:(400:Int) < (a.t.rv.length:Int)
   ·have e2:decide ((400:Int) < (a.t.rv.length:Int))=true:=decide_eq_true b2;go_wp2_with fail;go_ret;exact ⟨true,rfl,(fun h=>by cases h),hBA.out⟩
   have e2:decide ((400:Int) < (a.t.rv.length:Int))=false:=decide_eq_false b2;by_cases b3:(1000:Int) < (a.keep.length:Int)
   ·have e3:decide ((1000:Int) < (a.keep.length:Int))=true:=decide_eq_true b3;go_wp2_with fail;go_ret;exact ⟨true,rfl,(fun h=>by cases h),hBA.out⟩
   have e3:decide ((1000:Int) < (a.keep.length:Int))=false:=decide_eq_false b3;have hfine:=hid (hFn.out ⟨by omega,by omega,by omega,by omega⟩);have q1:((a.t.rv.length:Int)).tdiv 10=(a.t.rv.length:Int) / 10:=Int.tdiv_eq_ediv_of_nonneg (by omega);obtain ⟨U,hU⟩:∃ U:Int,(a.t.rv.length:Int) / 10=U:=⟨_,rfl⟩;have hU2:0<=U/\U<=40:=(by omega);rw [hU] at q1;have w0:IntKind.i64.wrap U=U:=IntWalk.i64_in _ (by omega);have w1:IntKind.i64.wrap (N+1)=N+1:=IntWalk.i64_in _ (by omega);have w2:IntKind.i64.wrap (N+1+(a.t.ch.length:Int))=N+1+(a.t.ch.length:Int):=IntWalk.i64_in _ (by omega);have w3:IntKind.i64.wrap (N+1+(a.t.ch.length:Int)+(a.data.length:Int))=N+1+(a.t.ch.length:Int)+(a.data.length:Int):=IntWalk.i64_in _ (by omega);have w4:IntKind.i64.wrap (N+1+(a.t.ch.length:Int)+(a.data.length:Int)+U)=N+1+(a.t.ch.length:Int)+(a.data.length:Int)+U:=IntWalk.i64_in _ (by omega);obtain ⟨N0,hN0⟩:∃ N0:Int,N+1+(a.t.ch.length:Int)+(a.data.length:Int)+U=N0:=⟨_,rfl⟩;have hN3:N+1<=N0/\N0<=3000:=(by omega);have HN0:=hid hN0;rw [hN0] at w4;have hc4:a.t.ch.length<=400:=(by omega);have hd4:a.data.length<=400:=(by omega);clear hU hFn;go_wp2_with fail;try rw [HN0.out]
   clear hN0 w1 w2 w3 w4 e0 e1 e2 e3 b0 b1 b2 b3 q1 w0;go_loopw [3,6] (fun q3 qk wx=>∃ (k:Nat) (M:Int),k<=a.t.ch.length/\q3=.int .i64 M/\N0<=M/\M<=N0+3334 * (k:Int)/\qk=.int .i64 (k:Int)/\wa=wx) (fun _ qk _=>a.t.ch.length - (intOf qk).toNat);case atStart=>exact ⟨0,N0,Nat.zero_le _,rfl,Int.le_refl _,by omega,rfl,rfl⟩
   case round =>
    obtain ⟨k,M,hk,rfl,hM1,hM2,rfl,rfl⟩:=hrel;have k0:(0:Int)<=(k:Int):=(by omega);by_cases hkl:k < a.t.ch.length
    ·have k1:(k:Int) < (a.t.ch.length:Int):=(by omega);obtain ⟨c,hc⟩:∃ c,a.t.ch[k]?=some c:=⟨_,List.getElem?_eq_getElem hkl⟩;obtain ⟨xb,xo,e,-,d1⟩:=HCH.out.cells hc;obtain rfl:ac=some ⟨xb,xo,none⟩:=(by simpa using e);obtain ⟨Z,hZ⟩:∃ Z:Nat,c.2.size=Z:=⟨_,rfl⟩;have z0:(0:Int)<=(Z:Int):=(by omega);obtain ⟨Y,hY⟩:∃ Y:Int,min (Z:Int) 1000000=Y:=⟨_,rfl⟩;have hY2:0<=Y/\Y<=1000000:=(by omega);have hq1:Y.tdiv 300=Y / 300:=Int.tdiv_eq_ediv_of_nonneg hY2.1;obtain ⟨U,hU⟩:∃ U:Int,Y / 300=U:=⟨_,rfl⟩;have hU2:0<=U/\U<=3334:=(by omega);rw [hU] at hq1;have w1:IntKind.i64.wrap U=U:=IntWalk.i64_in _ (by omega);have w2:IntKind.i64.wrap (M+U)=M+U:=IntWalk.i64_in _ (by omega);have HU:=hid hU2;clear hc e hU;go_wp2_with fail;go_roundw;case rel=>exact ⟨k+1,M+U,hkl,rfl,by have:=HU.out;omega,by have:=HU.out;omega,by go_num,by first | rfl | trivial⟩
     case measure=>simp [intOf];omega
    have k1:¬ (k:Int) < (a.t.ch.length:Int):=(by omega);have hM3:M<=N0+3334 * 400:=(by omega);go_wp2_with fail;obtain ⟨N1,hN1e⟩:∃ N1:Int,M=N1:=⟨_,rfl⟩;have hN4:N0<=N1/\N1<=N0+3334 * 400:=(by omega);rw [hN1e];clear hN1e;go_loopw [3,7] (fun q3 qk wx=>∃ (k:Nat) (M:Int),k<=a.data.length/\q3=.int .i64 M/\N1<=M/\M<=N1+3334 * (k:Int)/\qk=.int .i64 (k:Int)/\wa=wx) (fun _ qk _=>a.data.length - (intOf qk).toNat);case atStart=>exact ⟨0,N1,Nat.zero_le _,rfl,Int.le_refl _,by omega,rfl,rfl⟩
    case round =>
     obtain ⟨k,M,hk,rfl,hM1,hM2,rfl,rfl⟩:=hrel;have k0:(0:Int)<=(k:Int):=(by omega);by_cases hkl:k < a.data.length
     ·have k1:(k:Int) < (a.data.length:Int):=(by omega);obtain ⟨c,hc⟩:∃ c,a.data[k]?=some c:=⟨_,List.getElem?_eq_getElem hkl⟩;obtain ⟨xb,xo,e,-,d1⟩:=HDT.out.cells hc;obtain rfl:ad=some ⟨xb,xo,none⟩:=(by simpa using e);obtain ⟨Z,hZ⟩:∃ Z:Nat,c.2.size=Z:=⟨_,rfl⟩;have z0:(0:Int)<=(Z:Int):=(by omega);obtain ⟨Y,hY⟩:∃ Y:Int,min (Z:Int) 1000000=Y:=⟨_,rfl⟩;have hY2:0<=Y/\Y<=1000000:=(by omega);have hq1:Y.tdiv 300=Y / 300:=Int.tdiv_eq_ediv_of_nonneg hY2.1;obtain ⟨U,hU⟩:∃ U:Int,Y / 300=U:=⟨_,rfl⟩;have hU2:0<=U/\U<=3334:=(by omega);rw [hU] at hq1;have w1:IntKind.i64.wrap U=U:=IntWalk.i64_in _ (by omega);have w2:IntKind.i64.wrap (M+U)=M+U:=IntWalk.i64_in _ (by omega);have HU:=hid hU2;clear hc e hU;go_wp2_with fail;go_roundw;case rel=>exact ⟨k+1,M+U,hkl,rfl,by have:=HU.out;omega,by have:=HU.out;omega,by go_num,by first | rfl | trivial⟩
      case measure=>simp [intOf];omega
     have k1:¬ (k:Int) < (a.data.length:Int):=(by omega);have hM3:M<=N1+3334 * 400:=(by omega);by_cases big:(1500:Int) < M
     ·go_wp2_with fail;go_ret;exact ⟨true,rfl,(fun h=>by cases h),hBA.out⟩
     go_wp2_with fail;go_roundw;case rel=>exact ⟨i+1,M,hlt,rfl,by omega,by omega,by go_num,hfine,hBA⟩
     case measure=>simp [intOf];omega
  have i1:¬ (i:Int) < (l.length:Int):=(by omega);obtain rfl:i=l.length:=(by omega);have hF2:=hid (show Fine l by have:=hF.out;rwa [List.take_length] at this);by_cases h40:(40:Int) < (l.length:Int)
  ·go_wp2_with fail;go_ret;exact ⟨_,rfl,(fun h=>by first | cases h | (simp at h;omega)),hB.out⟩
  go_wp2_with fail;go_ret;exact ⟨_,rfl,fun h=>⟨by omega,hF2.out⟩,hB.out⟩
end Go.Proofs.YtnpdhidliaahbaaGreat
