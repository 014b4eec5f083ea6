/- Lists of numbers in memory; whether two are the same. -/
import Derived.Test.YtnpdhidliaahbaaGreatP01
import Derived.Test.YtnpdhidliaahbaaGreatProg
import Derived.StillTailTactics
import Derived.BigQuiet
import Derived.Deep.QuietTactic
import Derived.Deep.Onto
import Derived.Test.YtnpdhidliaahbaaGreatP29
import Derived.Test.YtnpdhidliaahbaaGreatP30
set_option maxRecDepth 100000
set_option maxHeartbeats 32000000
set_option linter.unusedSimpArgs false
set_option linter.unusedVariables false
namespace Go.Proofs.YtnpdhidliaahbaaGreat
open Go.Lib (hid)
open Go Go.RowKit
abbrev IL:=List Int
def icells (l:IL):List Value:=l.map (Value.int .i64)
theorem icells_length (l:IL):(icells l).length=l.length:=by simp [icells]
theorem icells_append (a b:IL):icells (a ++ b)=icells a ++ icells b:=by simp [icells]
theorem icells_at (l:IL) (i:Nat) (h:i < l.length):(icells l)[i]?=some (.int .i64 (l.getD i 0)):=by simp [icells,List.getD,h]
def IntsAt (w:World) (v:Value) (l:IL):Prop:=
 (v=.slice none 0 0/\l = []) ∨ ∃ b off cap,v=.slice (some ⟨b,off,none⟩) l.length cap/\∀ j u,(icells l)[j]?=some u->w.cell? ⟨b,off+j,none⟩=some u
theorem IntsAt.below {w w':World} {v:Value} {l:IL} (h:IntsAt w v l) (hb:Below w.heap.size w w'):IntsAt w' v l:=by
 rcases h with h | ⟨b,off,cap,rfl,hc⟩
 ·exact .inl h
 ·exact .inr ⟨b,off,cap,rfl,fun j u hu=>(hb.cell (p:=⟨b,off+j,none⟩) (World.block_lt_of_cell? w _ (hc j u hu))).trans (hc j u hu)⟩
theorem IntsAt.form {w:World} {v:Value} {l:IL} (h:IntsAt w v l):∃ ad cap,v=.slice ad l.length cap:=by
 rcases h with ⟨rfl,rfl⟩ | ⟨b,off,cap,rfl,_⟩
 ·exact ⟨_,_,rfl⟩
 ·exact ⟨_,_,rfl⟩
theorem IntsAt.cells {w:World} {ad:Option Addr} {n cap:Nat} {l:IL} (h:IntsAt w (.slice ad n cap) l) (i:Nat) (hi:i < l.length):∃ g off,ad=some ⟨g,off,none⟩/\w.cell? ⟨g,off+i,none⟩=some (.int .i64 (l.getD i 0)):=by
 rcases h with ⟨h,rfl⟩ | ⟨b,off,c,h,hc⟩
 ·simp at hi
 ·cases h;exact ⟨b,off,rfl,hc i _ (icells_at l i hi)⟩
def OwnInts (B:Nat) (w:World) (v:Value) (l:IL):Prop:=w.ownsRow B 3 1 v l.length (icells l)
theorem OwnInts.at {B:Nat} {w:World} {v:Value} {l:IL} (h:OwnInts B w v l):IntsAt w v l:=by
 rcases h.2 with ⟨rfl,hn⟩ | ⟨g,cap,cur,rfl,hg,hh,h1,h2,h3,h4⟩
 ·exact .inl ⟨rfl,List.eq_nil_of_length_eq_zero hn⟩
 ·refine .inr ⟨g,0,cap,rfl,fun j u hu=>?_⟩;have hj:j < l.length * 1:=by
   have:=(List.getElem?_eq_some_iff.1 hu).1;rw [icells_length] at this;omega
  rw [Nat.zero_add];have e:(cur.toList.take (l.length * 1))[j]?=some u:=by rw [h4];exact hu
  rw [List.getElem?_take,if_pos hj,Array.getElem?_toList] at e;simp [World.cell?,hh,e]
theorem OwnInts.below {B:Nat} {w w':World} {v:Value} {l:IL} (h:OwnInts B w v l) (hb:Below w.heap.size w w'):OwnInts B w' v l:=
 ⟨h.1,h.2.imp id (fun ⟨g,cap,cur,hv,hg,hh,r⟩=>⟨g,cap,cur,hv,hg,by rw [hb.block g (lt_of_block hh)];exact hh,r⟩)⟩
theorem OwnInts.mono {B B':Nat} {w:World} {v:Value} {l:IL} (h:OwnInts B w v l) (hb:B'<=B):OwnInts B' w v l:=World.ownsRow.mono h hb
theorem OwnInts.slice {B:Nat} {w:World} {v:Value} {l:IL} (h:OwnInts B w v l):∃ ad c,v=.slice ad l.length c:=h.at.form
theorem infoInt:(Tryz.prog.info? 3).map (fun i=>(i.zero,i.size,i.bytes))=some (some (.int .i64 0),1,8):=by kernel_rfl
theorem isame_no (a1 a2:Option Addr) (n1 n2 c1 c2:Nat) (h:n1 ≠ n2) (h1:n1<=9223372036854775807) (h2:n2<=9223372036854775807) (w:World) :
  Calls Tryz.prog 35 #[.slice a1 n1 c1,.slice a2 n2 c2] w fun e w'=>e=.returned (.bool false)/\∃ n,w'=w.drewN n:=by
 have hb:((n1:Int) != (n2:Int))=true:=by rw [bne_iff_ne];omega
 go_enter Tryz.func35,Tryz.ntmps35
 go_wp2_with fail
 go_ret
 exact ⟨rfl,0,rfl⟩
theorem isame_zero (a1 a2:Option Addr) (c1 c2:Nat) (w:World) :
  Calls Tryz.prog 35 #[.slice a1 0 c1,.slice a2 0 c2] w fun e w'=>e=.returned (.bool true)/\∃ n,w'=w.drewN n:=by
 go_enter Tryz.func35,Tryz.ntmps35
 go_wp2_with fail
 refine wp_loop_rounds 1 ?_
 rw [rounds_succ]
 go_wp2_with fail
 go_ret
 exact ⟨rfl,0,rfl⟩
theorem isame_some (w:World) (b1 o1 c1 b2 o2 c2:Nat) (l1 l2:IL) (hn:l2.length=l1.length) (hb:l1.length<=9223372036854775807)
  (h1:∀ j u,(icells l1)[j]?=some u->w.cell? ⟨b1,o1+j,none⟩=some u) (h2:∀ j u,(icells l2)[j]?=some u->w.cell? ⟨b2,o2+j,none⟩=some u) :
  Calls Tryz.prog 35 #[.slice (some ⟨b1,o1,none⟩) l1.length c1,.slice (some ⟨b2,o2,none⟩) l1.length c2] w fun e w'=>e=.returned (.bool (l1 == l2))/\∃ n,w'=w.drewN n:=by
 have H1:=hid h1
 have H2:=hid h2
 have HN:=hid hn
 clear h1 h2 hn
 go_enter Tryz.func35,Tryz.ntmps35
 go_wp2_with fail
 go_loopw [5] (fun q wr=>∃ i:Nat,i<=l1.length/\q=.int .i64 i/\Hid (l1.take i=l2.take i)/\Hid (∃ n,wr=w.drewN n)) (fun q _=>l1.length - (intOf q).toNat)
 case atStart=>exact ⟨0,by omega,rfl,hid (by simp),hid ⟨0,rfl⟩⟩
 case round =>
  obtain ⟨i,hi,rfl,hp,hw⟩:=hrel;by_cases hlt:i < l1.length
  ·have hlt2:i < l2.length:=(by rw [HN.out];exact hlt);obtain ⟨m,hm⟩:=hw.out;have c1a:=H1.out i _ (icells_at l1 i hlt);have c2a:=H2.out i _ (icells_at l2 i hlt2);generalize hx:l1.getD i 0=x at c1a;generalize hy:l2.getD i 0=y at c2a;have HX:=hid hx;have HY:=hid hy;have e1:wr.cell?=w.cell?:=(by rw [hm];rfl);rw [<- e1] at c1a c2a;clear hx hy hm e1;have i0:(0:Int)<=(i:Int):=(by omega);have i1:(i:Int) < l1.length:=(by omega);by_cases he:x=y
   ·subst he;go_wp2_with fail;go_quiet (fail);go_wp2_with fail;go_roundw;case rel =>
     refine ⟨i+1,by omega,by go_num,?_,?_⟩
     ·refine hid ?_;rw [List.take_succ_eq_append_getElem hlt,List.take_succ_eq_append_getElem hlt2,hp.out];have:=HX.out;have h2:=HY.out;simp only [List.getD,List.getElem?_eq_getElem hlt,List.getElem?_eq_getElem hlt2,Option.getD_some] at this h2;rw [this,h2]
     obtain ⟨m,rfl⟩:=hw.out;exact hid ⟨m+nq,World.drewN_drewN _ _ _⟩
    case measure=>simp [intOf];omega
   have hne:Hid ((l1 == l2)=false):=by
    refine hid ?_;rw [beq_eq_false_iff_ne];intro h;rw [h] at HX;exact he (HX.out.symm.trans HY.out)
   have hb:(x != y)=true:=(by rw [bne_iff_ne];exact he);have hb2:(x == y)=false:=(by rw [beq_eq_false_iff_ne];exact he);clear he;go_wp2_with fail;go_quiet (fail);go_wp2_with fail;go_ret;refine ⟨by rw [hne.out];rfl,?_⟩;obtain ⟨m,rfl⟩:=hw.out;exact ⟨m+nq,World.drewN_drewN _ _ _⟩
  have heq:Hid ((l1 == l2)=true):=by
   refine hid ?_;rw [beq_iff_eq];have:=hp.out;rwa [List.take_of_length_le (by omega),List.take_of_length_le (by rw [HN.out];omega)] at this
  go_wp2_with fail;go_ret;exact ⟨by rw [heq.out];rfl,hw.out⟩
theorem isame_any (w:World) (v1 v2:Value) (l1 l2:IL) (h1:IntsAt w v1 l1) (h2:IntsAt w v2 l2) (hn1:l1.length<=9223372036854775807) (hn2:l2.length<=9223372036854775807) :
  Calls Tryz.prog 35 #[v1,v2] w fun e w'=>e=.returned (.bool (l1 == l2))/\∃ n,w'=w.drewN n:=by
 by_cases hn:l1.length=l2.length
 ·by_cases h0:l1.length=0
  ·obtain ⟨a1,c1,rfl⟩:=h1.form;obtain ⟨a2,c2,rfl⟩:=h2.form;have e1:=List.eq_nil_of_length_eq_zero h0;have e2:=List.eq_nil_of_length_eq_zero (hn ▸ h0);subst e1;subst e2;exact (isame_zero a1 a2 c1 c2 w).mono fun e w' ⟨he,hw⟩=>⟨by rw [he];rfl,hw⟩
  rcases h1 with ⟨_,rfl⟩ | ⟨b1,o1,c1,rfl,g1⟩
  ·simp at h0
  rcases h2 with ⟨_,rfl⟩ | ⟨b2,o2,c2,rfl,g2⟩
  ·simp at hn;simp [hn] at h0
  rw [<- hn];exact isame_some w b1 o1 c1 b2 o2 c2 l1 l2 hn.symm hn1 g1 g2
 ·obtain ⟨a1,c1,rfl⟩:=h1.form;obtain ⟨a2,c2,rfl⟩:=h2.form;refine (isame_no a1 a2 _ _ c1 c2 hn hn1 hn2 w).mono fun e w' ⟨he,hw⟩=>⟨?_,hw⟩;have:(l1 == l2)=false:=by rw [beq_eq_false_iff_ne];intro h;exact hn (by rw [h])
  rw [he,this]
def fcells (l:List Bool):List Value:=l.map Value.bool
theorem fcells_length (l:List Bool):(fcells l).length=l.length:=by simp [fcells]
theorem fcells_append (a b:List Bool):fcells (a ++ b)=fcells a ++ fcells b:=by simp [fcells]
theorem fcells_at (l:List Bool) (i:Nat) (h:i < l.length):(fcells l)[i]?=some (.bool (l.getD i false)):=by simp [fcells,List.getD,h]
def FlagsAt (w:World) (v:Value) (l:List Bool):Prop:=
 (v=.slice none 0 0/\l = []) ∨ ∃ b off cap,v=.slice (some ⟨b,off,none⟩) l.length cap/\∀ j u,(fcells l)[j]?=some u->w.cell? ⟨b,off+j,none⟩=some u
theorem FlagsAt.below {w w':World} {v:Value} {l:List Bool} (h:FlagsAt w v l) (hb:Below w.heap.size w w'):FlagsAt w' v l:=by
 rcases h with h | ⟨b,off,cap,rfl,hc⟩
 ·exact .inl h
 ·exact .inr ⟨b,off,cap,rfl,fun j u hu=>(hb.cell (p:=⟨b,off+j,none⟩) (World.block_lt_of_cell? w _ (hc j u hu))).trans (hc j u hu)⟩
theorem FlagsAt.form {w:World} {v:Value} {l:List Bool} (h:FlagsAt w v l):∃ ad cap,v=.slice ad l.length cap:=by
 rcases h with ⟨rfl,rfl⟩ | ⟨b,off,cap,rfl,_⟩
 ·exact ⟨_,_,rfl⟩
 ·exact ⟨_,_,rfl⟩
theorem FlagsAt.cells {w:World} {ad:Option Addr} {n cap:Nat} {l:List Bool} (h:FlagsAt w (.slice ad n cap) l) (i:Nat) (hi:i < l.length):∃ g off,ad=some ⟨g,off,none⟩/\w.cell? ⟨g,off+i,none⟩=some (.bool (l.getD i false)):=by
 rcases h with ⟨h,rfl⟩ | ⟨b,off,c,h,hc⟩
 ·simp at hi
 ·cases h;exact ⟨b,off,rfl,hc i _ (fcells_at l i hi)⟩
def OwnFlags (B:Nat) (w:World) (v:Value) (l:List Bool):Prop:=w.ownsRow B 4 1 v l.length (fcells l)
theorem OwnFlags.at {B:Nat} {w:World} {v:Value} {l:List Bool} (h:OwnFlags B w v l):FlagsAt w v l:=by
 rcases h.2 with ⟨rfl,hn⟩ | ⟨g,cap,cur,rfl,hg,hh,h1,h2,h3,h4⟩
 ·exact .inl ⟨rfl,List.eq_nil_of_length_eq_zero hn⟩
 ·refine .inr ⟨g,0,cap,rfl,fun j u hu=>?_⟩;have hj:j < l.length * 1:=by
   have:=(List.getElem?_eq_some_iff.1 hu).1;rw [fcells_length] at this;omega
  rw [Nat.zero_add];have e:(cur.toList.take (l.length * 1))[j]?=some u:=by rw [h4];exact hu
  rw [List.getElem?_take,if_pos hj,Array.getElem?_toList] at e;simp [World.cell?,hh,e]
theorem OwnFlags.slice {B:Nat} {w:World} {v:Value} {l:List Bool} (h:OwnFlags B w v l):∃ ad c,v=.slice ad l.length c:=h.at.form
structure RecAt (w:World) (v:Value) (x:Rec.V):Prop where
 is:∃ h m,v=.agg #[.int .i64 x.kind,.int .u64 x.seq,.int .i64 x.at_,h,m,.int .u32 x.sum]/\IntsAt w h x.homes/\FlagsAt w m x.masked
 seq:x.seq < 2 ^ 64
 sum:x.sum < 2 ^ 32
 kind : -9223372036854775808<=x.kind/\x.kind<=9223372036854775807
 at_ : -9223372036854775808<=x.at_/\x.at_<=9223372036854775807
 len:x.homes.length<=1000000000/\x.masked.length<=1000000000
theorem RecAt.below {w w':World} {v:Value} {x:Rec.V} (h:RecAt w v x) (hb:Below w.heap.size w w'):RecAt w' v x:=by
 obtain ⟨⟨a,m,e,h1,h2⟩,r1,r2,r3,r4,r5⟩:=h;exact ⟨⟨a,m,e,h1.below hb,h2.below hb⟩,r1,r2,r3,r4,r5⟩
theorem homes_any (v:Value) (l:List Int) (w:World) (most:Nat) (hmost:most<=100) (h:IntsAt w v l) (hl:l.length<=1000000000) :
  Calls Tryz.prog 119 #[v,.int .i64 (most:Int)] w fun e w'=>e=.returned (.bool (Rec.homesOk l most))/\w=w':=by
 have H:=hid h
 obtain ⟨ad,cap,rfl⟩:=h.form
 clear h
 unfold Rec.homesOk Rec.rises
 go_enter Tryz.func119,Tryz.ntmps119
 go_wp2_with fail
 go_loop [5,6,9] (fun a b q=>∃ j:Nat,j<=l.length/\q=.int .i64 j/\Hid (Rec.risesTo Rec.blockOk l j=true)  ) (fun _ _ q=>l.length - (intOf q).toNat)
 case atStart=>exact ⟨0,by omega,rfl,hid rfl⟩
 case round =>
  obtain ⟨j,hj,rfl,hok⟩:=hrel;by_cases hlt:j < l.length
  ·have i0:(0:Int)<=(j:Int):=(by omega);have i1:(j:Int) < (l.length:Int):=(by omega);obtain ⟨g,off,rfl,c0⟩:=H.out.cells j hlt;have hnext:Hid (Rec.risesTo Rec.blockOk l (j+1)=(Rec.blockOk (l.getD j 0) && (decide (j=0) || decide (l.getD (j - 1) 0 < l.getD j 0)))):=hid (by
    show (Rec.risesTo _ l j && _)=_;rw [hok.out];rfl)
   have hfalse:Hid (Rec.risesTo Rec.blockOk l (j+1)=false->Rec.risesTo Rec.blockOk l l.length=false):=hid (fun h=>Rec.risesTo_false h (by omega));by_cases k0:j=0
   ·have kd:decide ((0:Int) < (j:Int))=false:=decide_eq_false (by omega);have c0':w.cell? ⟨g,off,none⟩=some (.int .i64 (l.getD j 0)):=(by have:=c0;rwa [k0,Nat.add_zero,<- k0] at this);clear c0;generalize hx:l.getD j 0=x at c0';have HX:=hid hx;clear hx;by_cases k1:x < 0
    ·go_wp2_with fail;go_ret;exact ⟨by rw [hfalse.out (by rw [hnext.out,HX.out];simp [Rec.blockOk];omega)];rfl,by trivial⟩
    by_cases k2:4096<=x
    ·go_wp2_with fail;go_ret;exact ⟨by rw [hfalse.out (by rw [hnext.out,HX.out];simp [Rec.blockOk];omega)];rfl,by trivial⟩
    go_wp2_with fail;go_round;case rel=>exact ⟨j+1,by omega,by go_num,hid (by rw [hnext.out,HX.out];simp [Rec.blockOk,k0];omega)⟩
    case measure=>simp [intOf];omega
   have kd:(0:Int) < (j:Int):=(by omega);obtain ⟨g',off',e,c1⟩:=H.out.cells (j - 1) (by omega);cases e;generalize hx:l.getD j 0=x at c0;generalize hy:l.getD (j - 1) 0=y at c1;have HX:=hid hx;have HY:=hid hy;clear hx hy;have u1:IntKind.i64.wrap ((j:Int) - 1)=(j:Int) - 1:=IntWalk.i64_in _ (by omega);have u2:((j:Int) - 1).toNat=j - 1:=(by omega);have u3:(0:Int)<=(j:Int) - 1:=(by omega);have u4:(j:Int) - 1 < (l.length:Int):=(by omega);by_cases k1:x < 0
   ·go_wp2_with fail;go_ret;exact ⟨by rw [hfalse.out (by rw [hnext.out,HX.out];simp [Rec.blockOk];omega)];rfl,by trivial⟩
   by_cases k2:4096<=x
   ·go_wp2_with fail;go_ret;exact ⟨by rw [hfalse.out (by rw [hnext.out,HX.out];simp [Rec.blockOk];omega)];rfl,by trivial⟩
   by_cases k3:x<=y
   ·go_wp2_with fail;go_ret;exact ⟨by rw [hfalse.out (by rw [hnext.out,HX.out,HY.out];simp [Rec.blockOk,k0];omega)];rfl,by trivial⟩
   go_wp2_with fail;go_round;case rel=>exact ⟨j+1,by omega,by go_num,hid (by rw [hnext.out,HX.out,HY.out];simp [Rec.blockOk,k0];omega)⟩
   case measure=>simp [intOf];omega
  obtain rfl:j=l.length:=(by omega);by_cases k1:1<=(l.length:Int)
  ·go_wp2_with fail;go_ret;exact ⟨by rw [hok.out];simp;omega,by trivial⟩
  go_wp2_with fail;go_ret;exact ⟨by rw [hok.out];simp;omega,by trivial⟩
theorem recmay_other {x:Rec.V} (h1:x.kind ≠ 1) (h2:x.kind ≠ 2) (h3:x.kind ≠ 3) (h4:x.kind ≠ 4):Rec.may x=false:=by
 unfold Rec.may;rw [if_neg h1,if_neg h2,if_neg h3,if_neg h4]
theorem recmay1 {x:Rec.V} (h:x.kind=1):Rec.may x=decide (0<=x.at_/\x.at_<=510/\x.sum=0/\x.homes.length=0/\x.masked.length=0):=by unfold Rec.may;rw [if_pos h]
theorem recmay2 {x:Rec.V} (h:x.kind=2):Rec.may x=(decide (x.at_=0/\x.sum=0) && (Rec.homesOk x.homes 24 && decide (x.masked.length=x.homes.length))):=by unfold Rec.may;rw [if_neg (by omega),if_pos h]
theorem recmay3 {x:Rec.V} (h:x.kind=3):Rec.may x=(decide (x.at_=0/\x.sum=0) && (Rec.homesOk x.homes 28 && decide (x.masked.length=0))):=by unfold Rec.may;rw [if_neg (by omega),if_neg (by omega),if_pos h]
theorem recmay4 {x:Rec.V} (h:x.kind=4):Rec.may x=decide (x.at_=0/\x.homes.length=0/\x.masked.length=0):=by unfold Rec.may;rw [if_neg (by omega),if_neg (by omega),if_neg (by omega),if_pos h]
theorem recmay_any (v:Value) (x:Rec.V) (w:World) (h:RecAt w v x) :
  Calls Tryz.prog 73 #[v] w fun e w'=>e=.returned (.bool (Rec.may x))/\Below w.heap.size w w':=by
 obtain ⟨⟨hv,mv,rfl,hh,hm⟩,hq,hs,hk,ha,hl1,hl2⟩:=h
 obtain ⟨a1,c1,rfl⟩:=hh.form
 obtain ⟨a2,c2,rfl⟩:=hm.form
 obtain ⟨kind,seq,at_,homes,masked,sum⟩:=x
 have m1:=@recmay1 ⟨kind,seq,at_,homes,masked,sum⟩
 have m2:=@recmay2 ⟨kind,seq,at_,homes,masked,sum⟩
 have m3:=@recmay3 ⟨kind,seq,at_,homes,masked,sum⟩
 have m4:=@recmay4 ⟨kind,seq,at_,homes,masked,sum⟩
 have m5:=@recmay_other ⟨kind,seq,at_,homes,masked,sum⟩
 dsimp only at hh hm hq hs hk ha hl1 hl2 m1 m2 m3 m4 m5 ⊢
 generalize Rec.may ⟨kind,seq,at_,homes,masked,sum⟩=r at *
 have q24:=hid (fun w h=>homes_any (.slice a1 homes.length c1) homes w 24 (by decide) h hl1)
 have q28:=hid (fun w h=>homes_any (.slice a1 homes.length c1) homes w 28 (by decide) h hl1)
 have H:=hid hh
 clear hh hm
 generalize hnh:homes.length=nh at *
 generalize hnm:masked.length=nm at *
 clear hnh hnm
 replace m1:=hid m1
 replace m2:=hid m2
 replace m3:=hid m3
 replace m4:=hid m4
 replace m5:=hid m5
 by_cases e1:kind=1
 ·subst e1;by_cases c_sum:sum=0
  ·subst c_sum;by_cases c_nh:nh=0
   ·subst c_nh;by_cases c_nm:nm=0
    ·subst c_nm;by_cases c_at:0<=at_/\at_<=510
     ·obtain rfl:r=true:=(by rw [m1.out rfl];exact decide_eq_true (by omega));have R0:=Row.new w 61 [.int .i64 1,.int .u64 (seq:Int),.int .i64 at_,.slice a1 0 c1,.slice a2 0 c2,.int .u32 0] rfl;have BA:=hid ((Below.refl w.heap.size w).alloc (Nat.le_refl _) (.cells #[.int .i64 1,.int .u64 (seq:Int),.int .i64 at_,.slice a1 0 c1,.slice a2 0 c2,.int .u32 0] 61));have k0:=R0.cellAt 0 rfl;have k2:=R0.cellAt 2 rfl;have k3:=R0.cellAt 3 rfl;have k4:=R0.cellAt 4 rfl;have k5:=R0.cellAt 5 rfl;clear R0;clear m1 m2 m3 m4 m5 q24 q28 H;go_enter Tryz.func73,Tryz.ntmps73;go_wp2_with fail;all_goals go_ret
      all_goals first | exact ⟨rfl,BA.out⟩ | exact ⟨by simp;omega,BA.out⟩ | (exfalso;omega)
     obtain rfl:r=false:=(by rw [m1.out rfl];exact decide_eq_false (by omega));have R0:=Row.new w 61 [.int .i64 1,.int .u64 (seq:Int),.int .i64 at_,.slice a1 0 c1,.slice a2 0 c2,.int .u32 0] rfl;have BA:=hid ((Below.refl w.heap.size w).alloc (Nat.le_refl _) (.cells #[.int .i64 1,.int .u64 (seq:Int),.int .i64 at_,.slice a1 0 c1,.slice a2 0 c2,.int .u32 0] 61));have k0:=R0.cellAt 0 rfl;have k2:=R0.cellAt 2 rfl;have k3:=R0.cellAt 3 rfl;have k4:=R0.cellAt 4 rfl;have k5:=R0.cellAt 5 rfl;clear R0;clear m1 m2 m3 m4 m5 q24 q28 H;go_enter Tryz.func73,Tryz.ntmps73;go_wp2_with fail;all_goals go_ret
     all_goals first | exact ⟨rfl,BA.out⟩ | exact ⟨by simp;omega,BA.out⟩ | (exfalso;omega)
    obtain rfl:r=false:=(by rw [m1.out rfl];exact decide_eq_false (by omega));have R0:=Row.new w 61 [.int .i64 1,.int .u64 (seq:Int),.int .i64 at_,.slice a1 0 c1,.slice a2 nm c2,.int .u32 0] rfl;have BA:=hid ((Below.refl w.heap.size w).alloc (Nat.le_refl _) (.cells #[.int .i64 1,.int .u64 (seq:Int),.int .i64 at_,.slice a1 0 c1,.slice a2 nm c2,.int .u32 0] 61));have k0:=R0.cellAt 0 rfl;have k2:=R0.cellAt 2 rfl;have k3:=R0.cellAt 3 rfl;have k4:=R0.cellAt 4 rfl;have k5:=R0.cellAt 5 rfl;clear R0;clear m1 m2 m3 m4 m5 q24 q28 H;go_enter Tryz.func73,Tryz.ntmps73;go_wp2_with fail;all_goals go_ret
    all_goals first | exact ⟨rfl,BA.out⟩ | exact ⟨by simp;omega,BA.out⟩ | (exfalso;omega)
   obtain rfl:r=false:=(by rw [m1.out rfl];exact decide_eq_false (by omega));have R0:=Row.new w 61 [.int .i64 1,.int .u64 (seq:Int),.int .i64 at_,.slice a1 nh c1,.slice a2 nm c2,.int .u32 0] rfl;have BA:=hid ((Below.refl w.heap.size w).alloc (Nat.le_refl _) (.cells #[.int .i64 1,.int .u64 (seq:Int),.int .i64 at_,.slice a1 nh c1,.slice a2 nm c2,.int .u32 0] 61));have k0:=R0.cellAt 0 rfl;have k2:=R0.cellAt 2 rfl;have k3:=R0.cellAt 3 rfl;have k4:=R0.cellAt 4 rfl;have k5:=R0.cellAt 5 rfl;clear R0;clear m1 m2 m3 m4 m5 q24 q28 H;go_enter Tryz.func73,Tryz.ntmps73;go_wp2_with fail;all_goals go_ret
   all_goals first | exact ⟨rfl,BA.out⟩ | exact ⟨by simp;omega,BA.out⟩ | (exfalso;omega)
  obtain rfl:r=false:=(by rw [m1.out rfl];exact decide_eq_false (by omega));have R0:=Row.new w 61 [.int .i64 1,.int .u64 (seq:Int),.int .i64 at_,.slice a1 nh c1,.slice a2 nm c2,.int .u32 (sum:Int)] rfl;have BA:=hid ((Below.refl w.heap.size w).alloc (Nat.le_refl _) (.cells #[.int .i64 1,.int .u64 (seq:Int),.int .i64 at_,.slice a1 nh c1,.slice a2 nm c2,.int .u32 (sum:Int)] 61));have k0:=R0.cellAt 0 rfl;have k2:=R0.cellAt 2 rfl;have k3:=R0.cellAt 3 rfl;have k4:=R0.cellAt 4 rfl;have k5:=R0.cellAt 5 rfl;clear R0;clear m1 m2 m3 m4 m5 q24 q28 H;go_enter Tryz.func73,Tryz.ntmps73;go_wp2_with fail;all_goals go_ret
  all_goals first | exact ⟨rfl,BA.out⟩ | exact ⟨by simp;omega,BA.out⟩ | (exfalso;omega)
 by_cases e2:kind=2
 ·subst e2;by_cases c_at:at_=0
  ·subst c_at;by_cases c_sum:sum=0
   ·subst c_sum;cases hR:Rec.homesOk homes 24
    ·rw [hR] at q24;obtain rfl:r=false:=by rw [m2.out rfl,decide_eq_true (by omega),hR];rfl
     have R0:=Row.new w 61 [.int .i64 2,.int .u64 (seq:Int),.int .i64 0,.slice a1 nh c1,.slice a2 nm c2,.int .u32 0] rfl;have BA:=hid ((Below.refl w.heap.size w).alloc (Nat.le_refl _) (.cells #[.int .i64 2,.int .u64 (seq:Int),.int .i64 0,.slice a1 nh c1,.slice a2 nm c2,.int .u32 0] 61));have k0:=R0.cellAt 0 rfl;have k2:=R0.cellAt 2 rfl;have k3:=R0.cellAt 3 rfl;have k4:=R0.cellAt 4 rfl;have k5:=R0.cellAt 5 rfl;have Q:=hid (q24.out _ (H.out.below BA.out));clear R0;clear m1 m2 m3 m4 m5 q24 q28 H;go_enter Tryz.func73,Tryz.ntmps73;go_wp2_with (refine Q.out.mono ?_;rintro e w1 ⟨rfl,rfl⟩);all_goals go_ret
     all_goals first | exact ⟨rfl,BA.out⟩ | exact ⟨by simp;omega,BA.out⟩ | (exfalso;omega)
    rw [hR] at q24;by_cases c_nm:nm=nh
    ·subst c_nm;obtain rfl:r=true:=by rw [m2.out rfl,decide_eq_true (by omega),hR,decide_eq_true rfl];rfl
     have R0:=Row.new w 61 [.int .i64 2,.int .u64 (seq:Int),.int .i64 0,.slice a1 nm c1,.slice a2 nm c2,.int .u32 0] rfl;have BA:=hid ((Below.refl w.heap.size w).alloc (Nat.le_refl _) (.cells #[.int .i64 2,.int .u64 (seq:Int),.int .i64 0,.slice a1 nm c1,.slice a2 nm c2,.int .u32 0] 61));have k0:=R0.cellAt 0 rfl;have k2:=R0.cellAt 2 rfl;have k3:=R0.cellAt 3 rfl;have k4:=R0.cellAt 4 rfl;have k5:=R0.cellAt 5 rfl;have Q:=hid (q24.out _ (H.out.below BA.out));clear R0;clear m1 m2 m3 m4 m5 q24 q28 H;go_enter Tryz.func73,Tryz.ntmps73;go_wp2_with (refine Q.out.mono ?_;rintro e w1 ⟨rfl,rfl⟩);all_goals go_ret
     all_goals first | exact ⟨rfl,BA.out⟩ | exact ⟨by simp;omega,BA.out⟩ | (exfalso;omega)
    obtain rfl:r=false:=(by rw [m2.out rfl,decide_eq_true (by omega),hR,decide_eq_false (by omega)];rfl);have R0:=Row.new w 61 [.int .i64 2,.int .u64 (seq:Int),.int .i64 0,.slice a1 nh c1,.slice a2 nm c2,.int .u32 0] rfl;have BA:=hid ((Below.refl w.heap.size w).alloc (Nat.le_refl _) (.cells #[.int .i64 2,.int .u64 (seq:Int),.int .i64 0,.slice a1 nh c1,.slice a2 nm c2,.int .u32 0] 61));have k0:=R0.cellAt 0 rfl;have k2:=R0.cellAt 2 rfl;have k3:=R0.cellAt 3 rfl;have k4:=R0.cellAt 4 rfl;have k5:=R0.cellAt 5 rfl;have Q:=hid (q24.out _ (H.out.below BA.out));clear R0;clear m1 m2 m3 m4 m5 q24 q28 H;go_enter Tryz.func73,Tryz.ntmps73;go_wp2_with (refine Q.out.mono ?_;rintro e w1 ⟨rfl,rfl⟩);all_goals go_ret
    all_goals first | exact ⟨rfl,BA.out⟩ | exact ⟨by simp;omega,BA.out⟩ | (exfalso;omega)
   obtain rfl:r=false:=(by rw [m2.out rfl,decide_eq_false (by omega)];rfl);have R0:=Row.new w 61 [.int .i64 2,.int .u64 (seq:Int),.int .i64 0,.slice a1 nh c1,.slice a2 nm c2,.int .u32 (sum:Int)] rfl;have BA:=hid ((Below.refl w.heap.size w).alloc (Nat.le_refl _) (.cells #[.int .i64 2,.int .u64 (seq:Int),.int .i64 0,.slice a1 nh c1,.slice a2 nm c2,.int .u32 (sum:Int)] 61));have k0:=R0.cellAt 0 rfl;have k2:=R0.cellAt 2 rfl;have k3:=R0.cellAt 3 rfl;have k4:=R0.cellAt 4 rfl;have k5:=R0.cellAt 5 rfl;clear R0;clear m1 m2 m3 m4 m5 q24 q28 H;go_enter Tryz.func73,Tryz.ntmps73;go_wp2_with fail;all_goals go_ret
   all_goals first | exact ⟨rfl,BA.out⟩ | exact ⟨by simp;omega,BA.out⟩ | (exfalso;omega)
  obtain rfl:r=false:=(by rw [m2.out rfl,decide_eq_false (by omega)];rfl);have R0:=Row.new w 61 [.int .i64 2,.int .u64 (seq:Int),.int .i64 at_,.slice a1 nh c1,.slice a2 nm c2,.int .u32 (sum:Int)] rfl;have BA:=hid ((Below.refl w.heap.size w).alloc (Nat.le_refl _) (.cells #[.int .i64 2,.int .u64 (seq:Int),.int .i64 at_,.slice a1 nh c1,.slice a2 nm c2,.int .u32 (sum:Int)] 61));have k0:=R0.cellAt 0 rfl;have k2:=R0.cellAt 2 rfl;have k3:=R0.cellAt 3 rfl;have k4:=R0.cellAt 4 rfl;have k5:=R0.cellAt 5 rfl;clear R0;clear m1 m2 m3 m4 m5 q24 q28 H;go_enter Tryz.func73,Tryz.ntmps73;go_wp2_with fail;all_goals go_ret
  all_goals first | exact ⟨rfl,BA.out⟩ | exact ⟨by simp;omega,BA.out⟩ | (exfalso;omega)
 by_cases e3:kind=3
 ·subst e3;by_cases c_at:at_=0
  ·subst c_at;by_cases c_sum:sum=0
   ·subst c_sum;cases hR:Rec.homesOk homes 28
    ·rw [hR] at q28;obtain rfl:r=false:=by rw [m3.out rfl,decide_eq_true (by omega),hR];rfl
     have R0:=Row.new w 61 [.int .i64 3,.int .u64 (seq:Int),.int .i64 0,.slice a1 nh c1,.slice a2 nm c2,.int .u32 0] rfl;have BA:=hid ((Below.refl w.heap.size w).alloc (Nat.le_refl _) (.cells #[.int .i64 3,.int .u64 (seq:Int),.int .i64 0,.slice a1 nh c1,.slice a2 nm c2,.int .u32 0] 61));have k0:=R0.cellAt 0 rfl;have k2:=R0.cellAt 2 rfl;have k3:=R0.cellAt 3 rfl;have k4:=R0.cellAt 4 rfl;have k5:=R0.cellAt 5 rfl;have Q:=hid (q28.out _ (H.out.below BA.out));clear R0;clear m1 m2 m3 m4 m5 q24 q28 H;go_enter Tryz.func73,Tryz.ntmps73;go_wp2_with (refine Q.out.mono ?_;rintro e w1 ⟨rfl,rfl⟩);all_goals go_ret
     all_goals first | exact ⟨rfl,BA.out⟩ | exact ⟨by simp;omega,BA.out⟩ | (exfalso;omega)
    rw [hR] at q28;by_cases c_nm:nm=0
    ·subst c_nm;obtain rfl:r=true:=by rw [m3.out rfl,decide_eq_true (by omega),hR,decide_eq_true rfl];rfl
     have R0:=Row.new w 61 [.int .i64 3,.int .u64 (seq:Int),.int .i64 0,.slice a1 nh c1,.slice a2 0 c2,.int .u32 0] rfl;have BA:=hid ((Below.refl w.heap.size w).alloc (Nat.le_refl _) (.cells #[.int .i64 3,.int .u64 (seq:Int),.int .i64 0,.slice a1 nh c1,.slice a2 0 c2,.int .u32 0] 61));have k0:=R0.cellAt 0 rfl;have k2:=R0.cellAt 2 rfl;have k3:=R0.cellAt 3 rfl;have k4:=R0.cellAt 4 rfl;have k5:=R0.cellAt 5 rfl;have Q:=hid (q28.out _ (H.out.below BA.out));clear R0;clear m1 m2 m3 m4 m5 q24 q28 H;go_enter Tryz.func73,Tryz.ntmps73;go_wp2_with (refine Q.out.mono ?_;rintro e w1 ⟨rfl,rfl⟩);all_goals go_ret
     all_goals first | exact ⟨rfl,BA.out⟩ | exact ⟨by simp;omega,BA.out⟩ | (exfalso;omega)
    obtain rfl:r=false:=(by rw [m3.out rfl,decide_eq_true (by omega),hR,decide_eq_false (by omega)];rfl);have R0:=Row.new w 61 [.int .i64 3,.int .u64 (seq:Int),.int .i64 0,.slice a1 nh c1,.slice a2 nm c2,.int .u32 0] rfl;have BA:=hid ((Below.refl w.heap.size w).alloc (Nat.le_refl _) (.cells #[.int .i64 3,.int .u64 (seq:Int),.int .i64 0,.slice a1 nh c1,.slice a2 nm c2,.int .u32 0] 61));have k0:=R0.cellAt 0 rfl;have k2:=R0.cellAt 2 rfl;have k3:=R0.cellAt 3 rfl;have k4:=R0.cellAt 4 rfl;have k5:=R0.cellAt 5 rfl;have Q:=hid (q28.out _ (H.out.below BA.out));clear R0;clear m1 m2 m3 m4 m5 q24 q28 H;go_enter Tryz.func73,Tryz.ntmps73;go_wp2_with (refine Q.out.mono ?_;rintro e w1 ⟨rfl,rfl⟩);all_goals go_ret
    all_goals first | exact ⟨rfl,BA.out⟩ | exact ⟨by simp;omega,BA.out⟩ | (exfalso;omega)
   obtain rfl:r=false:=(by rw [m3.out rfl,decide_eq_false (by omega)];rfl);have R0:=Row.new w 61 [.int .i64 3,.int .u64 (seq:Int),.int .i64 0,.slice a1 nh c1,.slice a2 nm c2,.int .u32 (sum:Int)] rfl;have BA:=hid ((Below.refl w.heap.size w).alloc (Nat.le_refl _) (.cells #[.int .i64 3,.int .u64 (seq:Int),.int .i64 0,.slice a1 nh c1,.slice a2 nm c2,.int .u32 (sum:Int)] 61));have k0:=R0.cellAt 0 rfl;have k2:=R0.cellAt 2 rfl;have k3:=R0.cellAt 3 rfl;have k4:=R0.cellAt 4 rfl;have k5:=R0.cellAt 5 rfl;clear R0;clear m1 m2 m3 m4 m5 q24 q28 H;go_enter Tryz.func73,Tryz.ntmps73;go_wp2_with fail;all_goals go_ret
   all_goals first | exact ⟨rfl,BA.out⟩ | exact ⟨by simp;omega,BA.out⟩ | (exfalso;omega)
  obtain rfl:r=false:=(by rw [m3.out rfl,decide_eq_false (by omega)];rfl);have R0:=Row.new w 61 [.int .i64 3,.int .u64 (seq:Int),.int .i64 at_,.slice a1 nh c1,.slice a2 nm c2,.int .u32 (sum:Int)] rfl;have BA:=hid ((Below.refl w.heap.size w).alloc (Nat.le_refl _) (.cells #[.int .i64 3,.int .u64 (seq:Int),.int .i64 at_,.slice a1 nh c1,.slice a2 nm c2,.int .u32 (sum:Int)] 61));have k0:=R0.cellAt 0 rfl;have k2:=R0.cellAt 2 rfl;have k3:=R0.cellAt 3 rfl;have k4:=R0.cellAt 4 rfl;have k5:=R0.cellAt 5 rfl;clear R0;clear m1 m2 m3 m4 m5 q24 q28 H;go_enter Tryz.func73,Tryz.ntmps73;go_wp2_with fail;all_goals go_ret
  all_goals first | exact ⟨rfl,BA.out⟩ | exact ⟨by simp;omega,BA.out⟩ | (exfalso;omega)
 by_cases e4:kind=4
 ·subst e4;by_cases c_at:at_=0
  ·subst c_at;by_cases c_nh:nh=0
   ·subst c_nh;by_cases c_nm:nm=0
    ·subst c_nm;obtain rfl:r=true:=by rw [m4.out rfl];exact decide_eq_true (by omega)
     have R0:=Row.new w 61 [.int .i64 4,.int .u64 (seq:Int),.int .i64 0,.slice a1 0 c1,.slice a2 0 c2,.int .u32 (sum:Int)] rfl;have BA:=hid ((Below.refl w.heap.size w).alloc (Nat.le_refl _) (.cells #[.int .i64 4,.int .u64 (seq:Int),.int .i64 0,.slice a1 0 c1,.slice a2 0 c2,.int .u32 (sum:Int)] 61));have k0:=R0.cellAt 0 rfl;have k2:=R0.cellAt 2 rfl;have k3:=R0.cellAt 3 rfl;have k4:=R0.cellAt 4 rfl;have k5:=R0.cellAt 5 rfl;clear R0;clear m1 m2 m3 m4 m5 q24 q28 H;go_enter Tryz.func73,Tryz.ntmps73;go_wp2_with fail;all_goals go_ret
     all_goals first | exact ⟨rfl,BA.out⟩ | exact ⟨by simp;omega,BA.out⟩ | (exfalso;omega)
    obtain rfl:r=false:=(by rw [m4.out rfl];exact decide_eq_false (by omega));have R0:=Row.new w 61 [.int .i64 4,.int .u64 (seq:Int),.int .i64 0,.slice a1 0 c1,.slice a2 nm c2,.int .u32 (sum:Int)] rfl;have BA:=hid ((Below.refl w.heap.size w).alloc (Nat.le_refl _) (.cells #[.int .i64 4,.int .u64 (seq:Int),.int .i64 0,.slice a1 0 c1,.slice a2 nm c2,.int .u32 (sum:Int)] 61));have k0:=R0.cellAt 0 rfl;have k2:=R0.cellAt 2 rfl;have k3:=R0.cellAt 3 rfl;have k4:=R0.cellAt 4 rfl;have k5:=R0.cellAt 5 rfl;clear R0;clear m1 m2 m3 m4 m5 q24 q28 H;go_enter Tryz.func73,Tryz.ntmps73;go_wp2_with fail;all_goals go_ret
    all_goals first | exact ⟨rfl,BA.out⟩ | exact ⟨by simp;omega,BA.out⟩ | (exfalso;omega)
   obtain rfl:r=false:=(by rw [m4.out rfl];exact decide_eq_false (by omega));have R0:=Row.new w 61 [.int .i64 4,.int .u64 (seq:Int),.int .i64 0,.slice a1 nh c1,.slice a2 nm c2,.int .u32 (sum:Int)] rfl;have BA:=hid ((Below.refl w.heap.size w).alloc (Nat.le_refl _) (.cells #[.int .i64 4,.int .u64 (seq:Int),.int .i64 0,.slice a1 nh c1,.slice a2 nm c2,.int .u32 (sum:Int)] 61));have k0:=R0.cellAt 0 rfl;have k2:=R0.cellAt 2 rfl;have k3:=R0.cellAt 3 rfl;have k4:=R0.cellAt 4 rfl;have k5:=R0.cellAt 5 rfl;clear R0;clear m1 m2 m3 m4 m5 q24 q28 H;go_enter Tryz.func73,Tryz.ntmps73;go_wp2_with fail;all_goals go_ret
   all_goals first | exact ⟨rfl,BA.out⟩ | exact ⟨by simp;omega,BA.out⟩ | (exfalso;omega)
  obtain rfl:r=false:=(by rw [m4.out rfl];exact decide_eq_false (by omega));have R0:=Row.new w 61 [.int .i64 4,.int .u64 (seq:Int),.int .i64 at_,.slice a1 nh c1,.slice a2 nm c2,.int .u32 (sum:Int)] rfl;have BA:=hid ((Below.refl w.heap.size w).alloc (Nat.le_refl _) (.cells #[.int .i64 4,.int .u64 (seq:Int),.int .i64 at_,.slice a1 nh c1,.slice a2 nm c2,.int .u32 (sum:Int)] 61));have k0:=R0.cellAt 0 rfl;have k2:=R0.cellAt 2 rfl;have k3:=R0.cellAt 3 rfl;have k4:=R0.cellAt 4 rfl;have k5:=R0.cellAt 5 rfl;clear R0;clear m1 m2 m3 m4 m5 q24 q28 H;go_enter Tryz.func73,Tryz.ntmps73;go_wp2_with fail;all_goals go_ret
  all_goals first | exact ⟨rfl,BA.out⟩ | exact ⟨by simp;omega,BA.out⟩ | (exfalso;omega)
 obtain rfl:r=false:=m5.out e1 e2 e3 e4
 have R0:=Row.new w 61 [.int .i64 kind,.int .u64 (seq:Int),.int .i64 at_,.slice a1 nh c1,.slice a2 nm c2,.int .u32 (sum:Int)] rfl
 have BA:=hid ((Below.refl w.heap.size w).alloc (Nat.le_refl _) (.cells #[.int .i64 kind,.int .u64 (seq:Int),.int .i64 at_,.slice a1 nh c1,.slice a2 nm c2,.int .u32 (sum:Int)] 61))
 have k0:=R0.cellAt 0 rfl
 have k2:=R0.cellAt 2 rfl
 have k3:=R0.cellAt 3 rfl
 have k4:=R0.cellAt 4 rfl
 have k5:=R0.cellAt 5 rfl
 clear R0
 clear m1 m2 m3 m4 m5 q24 q28 H
 go_enter Tryz.func73,Tryz.ntmps73
 go_wp2_with fail
 all_goals go_ret
 all_goals first | exact ⟨rfl,BA.out⟩ | exact ⟨by simp;omega,BA.out⟩ | (exfalso;omega)
end Go.Proofs.YtnpdhidliaahbaaGreat
