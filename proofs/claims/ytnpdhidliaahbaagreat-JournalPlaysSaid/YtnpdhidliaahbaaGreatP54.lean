/- The document's journal: Read. -/
import Derived.Test.YtnpdhidliaahbaaGreatP53
import Derived.Deep.CutRange
import Derived.Laws.AppendOwnNone
import Derived.Test.YtnpdhidliaahbaaGreatP23
set_option maxRecDepth 100000
set_option maxHeartbeats 32000000
set_option linter.unusedSimpArgs false
set_option linter.unusedVariables false
namespace Go.Proofs.YtnpdhidliaahbaaGreat
open Go.Lib (hid)
open Go Go.RowKit
def RReadTold (RES:Option Jr.Log) (w:World) (e:Ending) (w':World):Prop:=
 (RES=none/\e=.returned (.tuple #[.int .i64 0,.int .u64 0,.slice none 0 0,.int .i64 0,.bool false])/\Below w.heap.size w w') ∨
 ∃ L v,RES=some L/\e=.returned (.tuple #[.int .i64 (L.at_:Int),.int .u64 (L.seq:Int),v,.int .i64 (L.used:Int),.bool true])/\Below w.heap.size w w'/\OwnT w.heap.size w' v L.txns
structure Stood (RES2:Option (Jr.Txn × List ByteArray)) (left B:Nat) (w:World) (cv rv:Value) (n:Nat):Prop where
 c:∃ a k m,cv=.slice a k m
 r:∃ a k m,rv=.slice a k m
 is:(RES2=none/\n=0) ∨ ∃ t rest,RES2=some (t,rest)/\rest.length<=left/\n=left - rest.length/\OwnC B w cv t.ch/\OwnInts B w rv t.rv
theorem Stood.new {RES2:Option (Jr.Txn × List ByteArray)} {left B n:Nat} {w:World} {cv rv:Value} (h:Stood RES2 left B w cv rv n) (o:Obj):Stood RES2 left B (w.alloc o) cv rv n:=
 ⟨h.c,h.r,h.is.imp id (fun ⟨t,rest,h1,h2,h3,h4,h5⟩=>⟨t,rest,h1,h2,h3,own_new1 h4 o,own_new1 h5 o⟩)⟩
theorem stood_of {RES2:Option (Jr.Txn × List ByteArray)} {left B:Nat} {w w':World} {e:Ending} (h:StandTold left RES2 w e w') (hB:B<=w.heap.size):∃ (cv rv:Value) (n:Nat),e=.returned (.tuple #[.agg #[cv,rv],.int .i64 (n:Int)])/\Below w.heap.size w w'/\Hid (Stood RES2 left B w' cv rv n):=by
 rcases h with ⟨h1,h2,h3⟩ | ⟨t,rest,cv,rv,h1,h2,h3,h4,h5,h6⟩
 ·exact ⟨_,_,0,h2,h3,hid ⟨⟨_,_,_,rfl⟩,⟨_,_,_,rfl⟩,.inl ⟨h1,rfl⟩⟩⟩
 ·obtain ⟨ac,cc,rfl⟩:=OwnC.slice h4;obtain ⟨ar,cr,rfl⟩:=OwnInts.slice h5;exact ⟨_,_,_,h3,h6,hid ⟨⟨_,_,_,rfl⟩,⟨_,_,_,rfl⟩,.inr ⟨t,rest,h1,h2,rfl,World.ownsRow.mono h4 hB,World.ownsRow.mono h5 hB⟩⟩⟩
def ReadCut (RES2:Option (Jr.Txn × List ByteArray)) (left:Nat) (wr wx:World) (tb n:Nat):Prop:=
 Below wr.heap.size wr wx/\∃ cv rv,Row wx tb 25 [cv,rv]/\Stood RES2 left wr.heap.size wx cv rv n
theorem readcut_of {RES2:Option (Jr.Txn × List ByteArray)} {left tb n:Nat} {wr wx:World} {cv rv:Value} (h:Stood RES2 left wr.heap.size wx cv rv n) (hr:Row wx tb 25 [.slice none 0 0,.slice none 0 0]) (hb:Below wr.heap.size wr wx) (ht:wr.heap.size<=tb):ReadCut RES2 left wr ((wx.setCell ⟨tb,0,none⟩ cv).setCell ⟨tb,1,none⟩ rv) tb n:=
 ⟨(hb.setCell ht _).setCell ht _,cv,rv,(hr.set 0 cv).set 1 rv,h.c,h.r,h.is.imp id (fun ⟨t,rest,h1,h2,h3,h4,h5⟩=>⟨t,rest,h1,h2,h3,own_setR (a:=⟨tb,1,none⟩) (hr.set 0 cv) (own_setR (a:=⟨tb,0,none⟩) hr h4 (by decide)) (by decide),own_setR (a:=⟨tb,1,none⟩) (hr.set 0 cv) (own_setR (a:=⟨tb,0,none⟩) hr h5 (by decide)) (by decide)⟩)⟩
theorem rread_log {Bd sb:Nat} {z:RLay} {D:Dev} (g:Geo.G) (hg:Geo.May g) (w:World) (hD:RefAt Bd w sb z D) (hk:(D.kept.length:Int)=g.blocks) (hsz:sized D.now) (hlen:D.now.length=D.kept.length) :
    Calls Tryz.prog 84 #[.pointer (some ⟨sb,0,none⟩),.agg (Geo.cells g)] w fun e w'=>RReadTold (Jr.readL g D.now) w e w':=by
  obtain ⟨i0,hi0,hz0,hz1,hz2⟩:=info_parts infoTxn
  obtain ⟨RES,hRES⟩:∃ RES,Jr.readL g D.now=RES:=⟨_,rfl⟩
  rw [hRES]
  have HRES:=hid hRES
  have q:=hid (rplaces_any g hg)
  have hlog:g.logAt=1:=hg.ok.2.1
  have h1k:1 < D.kept.length:=by have h0:=hg.ok;unfold Geo.asked at h0;omega
  obtain ⟨T,hT⟩:∃ T,Jr.blk D.now 1=T:=⟨_,rfl⟩
  have hTs:T.size=128:=by
    have hlt3:1 < D.now.length:=(by omega);rw [<- hT];unfold Jr.blk;rw [show D.now.getD 1 ⟨#[]⟩=D.now[1] by simp [List.getD,hlt3]];exact hsz _ (List.getElem_mem hlt3)
  have QR:Hid (∀ wx,Below w.heap.size w wx->Calls Tryz.prog 126 #[.pointer (some ⟨sb,0,none⟩),.int .i64 1] wx fun e w'=>e=.returned (.tuple #[.string T,.int .i64 0])/\wx=w'):=hid (fun wx hb=>by
    have:=rread_any (hD.below hb) 1;obtain ⟨e1,e2⟩:=readS_blk h1k;rw [show ((1:Nat):Int)=1 from rfl] at e1 e2;rw [e1,e2,hT] at this;exact this)
  have hdc:=hid (fun w=>ddecode_any T w (by omega))
  have QS:=hid (fun wz (hz:Below w.heap.size w wz) place seq left h1 h2 h3=>rstand_any g hg place seq left wz (hD.below hz) hk hsz hlen h1 h2 h3)
  unfold Jr.readL at HRES
  rw [hT] at HRES
  have TN:Hid (∀ w',RES=none->Below w.heap.size w w'->RReadTold RES w (.returned (.tuple #[.int .i64 0,.int .u64 0,.slice none 0 0,.int .i64 0,.bool false])) w'):=hid (fun w' h1 h2=>.inl ⟨h1,rfl,h2⟩)
  have TS:Hid (∀ (w':World) (L:Jr.Log) (v:Value),RES=some L->Below w.heap.size w w'->OwnT w.heap.size w' v L.txns->RReadTold RES w (.returned (.tuple #[.int .i64 (L.at_:Int),.int .u64 (L.seq:Int),v,.int .i64 (L.used:Int),.bool true])) w'):=hid (fun w' L v h1 h2 h3=>.inr ⟨L,v,h1,rfl,h2,h3⟩)
  generalize RReadTold RES w=P at *
  obtain ⟨PLN,hPL⟩:∃ PLN,Jr.plc g=PLN:=⟨_,rfl⟩
  have hPB:0 < PLN/\PLN<=511:=by have:=Jr.plc_of hg;omega
  rw [hPL] at HRES q
  clear hRES hD hk hsz hlen hT hg hPL
  obtain ⟨G,hG⟩:∃ G,G=g:=⟨_,rfl⟩
  replace QS:Hid (∀ wz,Below w.heap.size w wz->∀ (place seq left:Nat),place<=10000->left<=600->seq < 2 ^ 64->Calls Tryz.prog 128 #[.pointer (some ⟨sb,0,none⟩),.agg (Geo.cells g),.int .i64 (place:Int),.int .u64 (seq:Int),.int .i64 (left:Int)] wz fun e w'=>StandTold left (Jr.parseA (Geo.home G) seq (Jr.ring G D.now place left) [] Jr.none_) wz e w'):=hid (by rw [hG];exact QS.out)
  rw [<- hG] at HRES
  clear hG
  unfold Geo.cells at *
  obtain ⟨g1,g2,g3,g4,g5,g6,g7,g8,g9⟩:=g
  dsimp only at *
  subst hlog
  have R0:=Row.new w 30 [.int .i64 g1,.int .i64 g2,.int .i64 g3,.int .i64 1,.int .i64 g5,.int .i64 g6,.int .i64 g7,.int .i64 g8,.int .i64 g9] rfl
  have HR0:=hid R0
  have BA:=hid ((Below.refl w.heap.size w).alloc (Nat.le_refl _) (.cells #[.int .i64 g1,.int .i64 g2,.int .i64 g3,.int .i64 1,.int .i64 g5,.int .i64 g6,.int .i64 g7,.int .i64 g8,.int .i64 g9] 30))
  obtain ⟨k0,k1,k2,k3,k4,k5,k6,k7,k8⟩:=R0.c9
  clear R0
  go_enter Tryz.func84,Tryz.ntmps84
  go_wp2_with fail
  generalize w.alloc _=w1 at *
  (with_reducible refine (QR.out _ BA.out).mono ?_)
  rintro e w1' ⟨rfl,rfl⟩
  go_wp2_with fail
  (with_reducible refine (hdc.out _).mono ?_)
  rintro e w2 ⟨v,rfl,hra,hro,hb2⟩
  clear hdc QR k0 k1 k2 k3 k4 k5 k6 k7 k8
  have HR2:=hid (HR0.out.below hb2 HR0.out.lt)
  have B2:=hid (below_next BA.out hb2)
  obtain ⟨hv,mv,rfl,oH,oM⟩:=hro
  obtain ⟨a1,c1,rfl⟩:=OwnInts.slice oH
  obtain ⟨a2,c2,rfl⟩:=OwnFlags.slice oM
  have hV:Hid ((∃ x,Rec.dec T.data.toList=some x/\Rec.decV T.data.toList=x/\Rec.decE T.data.toList=0) ∨ (Rec.dec T.data.toList=none/\Rec.decE T.data.toList=80)):=hid (by
    cases hdec:Rec.dec T.data.toList with
    | none=>exact .inr ⟨rfl,(Rec.dec_no hdec).2⟩
    | some x=>exact .inl ⟨x,rfl,(Rec.dec_yes hdec).1,(Rec.dec_yes hdec).2⟩)
  generalize Rec.decV T.data.toList=x at *
  generalize Rec.decE T.data.toList=ev at *
  have HRA:=hid hra
  clear oH oM hra hb2 HR0 BA
  go_upto_region 3 with fail
  generalize hw3:w2.alloc _=w3 at *
  have b23:Below w2.heap.size w2 w3:=by rw [<- hw3];exact (Below.refl w2.heap.size w2).alloc (Nat.le_refl _) _
  have HX:Hid (Row w3 w2.heap.size 61 [.int .i64 x.kind,.int .u64 (x.seq:Int),.int .i64 x.at_,.slice a1 x.homes.length c1,.slice a2 x.masked.length c2,.int .u32 (x.sum:Int)]):=hid (by rw [<- hw3];exact Row.new w2 _ _ rfl)
  have HR3:=hid (HR2.out.below b23 HR2.out.lt)
  have B3:=hid (below_next B2.out b23)
  have x0:=HX.out.cellAt 0 rfl
  have x1:=HX.out.cellAt 1 rfl
  have x2:=HX.out.cellAt 2 rfl
  have hx2:=HX.out.lt
  have hw2:w.heap.size < w2.heap.size:=HR2.out.lt
  clear HR2 b23 hw3 B2
  rcases hV.out with ⟨x0',hd1,hd2,hd3⟩ | ⟨hd1,hd3⟩
  case inr =>
    subst hd3;have hnone:Hid (RES=none):=hid (by rw [<- HRES.out,hd1]);clear hd1 HRES;go_quiet (fail);go_wp2_with fail;exact bodyPost_ret (v:=.tuple #[.int .i64 0,.int .u64 0,.slice none 0 0,.int .i64 0,.bool false]) (by simp [results,Tryz.results84,go_sem]) rfl (TN.out _ hnone.out (below_drewN B3.out _))
  subst hd3
  subst hd2
  have hmay:=hid (Rec.may_cases (Rec.dec_some hd1).2.1)
  have hxq:=HRA.out.seq
  have hxa:=HRA.out.at_
  rw [hd1] at HRES
  dsimp only at HRES
  clear hd1 HRA hV
  by_cases hk1:x.kind=1
  case neg =>
    have hkf:(x.kind != 1)=true:=(by rw [bne_iff_ne];exact hk1);have hnone:Hid (RES=none):=hid (by rw [<- HRES.out,if_neg (fun h=>hk1 h.1)]);clear HRES;go_quiet (fail);go_wp2_with fail;exact bodyPost_ret (v:=.tuple #[.int .i64 0,.int .u64 0,.slice none 0 0,.int .i64 0,.bool false]) (by simp [results,Tryz.results84,go_sem]) rfl (TN.out _ hnone.out (below_drewN B3.out _))
  have hkf:(x.kind != 1)=false:=by rw [bne_eq_false_iff_eq];exact hk1
  have HK1:=hid hk1
  clear hk1
  obtain ⟨k0,k1,k2,k3,k4,k5,k6,k7,k8⟩:=HR3.out.c9
  go_region_held3 (fun w'=>w'.cell? ⟨w.heap.size,0,none⟩=some (.int .i64 g1)/\w'.cell? ⟨w.heap.size,1,none⟩=some (.int .i64 g2)/\w'.cell? ⟨w.heap.size,2,none⟩=some (.int .i64 g3)/\w'.cell? ⟨w.heap.size,3,none⟩=some (.int .i64 1)/\w'.cell? ⟨w.heap.size,4,none⟩=some (.int .i64 g5)/\w'.cell? ⟨w.heap.size,5,none⟩=some (.int .i64 g6)/\w'.cell? ⟨w.heap.size,6,none⟩=some (.int .i64 g7)/\w'.cell? ⟨w.heap.size,7,none⟩=some (.int .i64 g8)/\w'.cell? ⟨w.heap.size,8,none⟩=some (.int .i64 g9)/\w'.cell? ⟨w2.heap.size,0,none⟩=some (.int .i64 x.kind)/\w'.cell? ⟨w2.heap.size,2,none⟩=some (.int .i64 x.at_))
    (first | exact ⟨k0,k1,k2,k3,k4,k5,k6,k7,k8,x0,x2⟩ | exact ⟨z0,z1,z2,z3,z4,z5,z6,z7,z8,y0,y2⟩)
    (first | (go_at_call 81;(with_reducible refine (q.out _).mono ?_);rintro e w4 ⟨rfl,hb4'⟩;have hb4:Below w3.heap.size w3 w4:=⟨hb4'.os,hb4'.tape,hb4'.output,hb4'.size,hb4'.block⟩;have HR4:=hid (HR3.out.below hb4 HR3.out.lt);have X4:=HX.out.below hb4 HX.out.lt;obtain ⟨z0,z1,z2,z3,z4,z5,z6,z7,z8⟩:=HR4.out.c9;have y0:=X4.cellAt 0 rfl;have y2:=X4.cellAt 2 rfl) | fail "none")
  have HX4:=hid X4
  have B4:=hid (below_next B3.out hb4)
  have hs4:w3.heap.size<=w4.heap.size:=hb4.size
  clear k0 k1 k2 k3 k4 k5 k6 k7 k8 x0 x1 x2 z0 z1 z2 z3 z4 z5 z6 z7 z8 y0 y2 hb4' hb4 X4 HR3 HX B3
  by_cases hlt:x.at_ < (PLN:Int)
  case neg =>
    have hge:(PLN:Int)<=x.at_:=(by omega);have hnone:Hid (RES=none):=hid (by rw [<- HRES.out,if_neg (fun h=>hlt h.2)]);clear HRES;go_wp2_with fail;exact bodyPost_ret (v:=.tuple #[.int .i64 0,.int .u64 0,.slice none 0 0,.int .i64 0,.bool false]) (by simp [results,Tryz.results84,go_sem]) rfl (TN.out _ hnone.out B4.out)
  have hge:¬ (PLN:Int)<=x.at_:=by omega
  have hnn:0<=x.at_:=by
    rcases hmay.out with ⟨-,k,-⟩ | ⟨k,-⟩ | ⟨k,-⟩ | ⟨k,-⟩
    · exact k
    all_goals (have:=HK1.out;omega)
  obtain ⟨a0,ha0⟩:∃ a:Nat,x.at_=(a:Int):=⟨x.at_.toNat,by omega⟩
  have hsome:=HRES.out.symm
  rw [if_pos ⟨HK1.out,hlt⟩,show x.at_.toNat=a0 by omega] at hsome
  obtain ⟨RT,hRT⟩:∃ R,Jr.readR (Geo.home G) x.seq (Jr.ring G D.now a0 PLN)=R:=⟨_,rfl⟩
  rw [hRT] at hsome
  have HS:=hid hsome
  have HRT':=hid hRT
  have ha0':a0 < PLN:=by omega
  replace HX4:Hid (Row w4 w2.heap.size 61 [.int .i64 x.kind,.int .u64 (x.seq:Int),.int .i64 (a0:Int),.slice a1 x.homes.length c1,.slice a2 x.masked.length c2,.int .u32 (x.sum:Int)]):=hid (by rw [<- ha0];exact HX4.out)
  clear HRES hsome hRT hmay
  go_wp2_with fail
  clear hlt hge hnn ha0 hxa
  go_loopw [13,14] (fun l q wr=>∃ (u:Nat) (ts:List Jr.Txn) (v:Value),u<=PLN/\ts.length<=u/\v=l/\q=.int .i64 u/\Hid (ts ++ (Jr.readR (Geo.home G) ((x.seq+ts.length) % 18446744073709551616) (Jr.ring G D.now (a0+u) (PLN - u))).1=RT.1/\(Jr.readR (Geo.home G) ((x.seq+ts.length) % 18446744073709551616) (Jr.ring G D.now (a0+u) (PLN - u))).2=RT.2)/\Hid (OwnT w4.heap.size wr v ts)/\Hid (Below w4.heap.size w4 wr)) (fun _ q _=>PLN - (intOf q).toNat)
  case atStart =>
    refine ⟨0,[],.slice none 0 0,Nat.zero_le _,Nat.le_refl _,rfl,rfl,hid ?_,hid ⟨[],World.ownsRow_nil _ _ _ _,trivial⟩,hid (Below.refl _ _)⟩;rw [List.length_nil,Nat.add_zero,Nat.mod_eq_of_lt hxq,Nat.add_zero,Nat.sub_zero,HRT'.out];exact ⟨rfl,rfl⟩
  case round =>
    obtain ⟨u,ts,v,hu,htu,hlv,rfl,hre,hT,hB⟩:=hrel;subst hlv;obtain ⟨av,cvp,rfl⟩:∃ ad cp,v=.slice ad ts.length cp:=by
      obtain ⟨_,h,_⟩:=hT.out;obtain ⟨ad,cp,h,_⟩:=own_opens h;exact ⟨ad,cp,h⟩
    obtain ⟨sq,hsq⟩:∃ sq,(x.seq+ts.length) % 18446744073709551616=sq:=⟨_,rfl⟩;have hsq2:sq < 2 ^ 64:=(by rw [<- hsq];exact Nat.mod_lt _ (by decide));rw [hsq] at hre;have HSQ:=hid hsq;have hwl:IntKind.u64.wrap (ts.length:Int)=(ts.length:Int):=u64_wrap_lo (by omega) (by omega);have hws:IntKind.u64.wrap ((x.seq:Int)+(ts.length:Int))=(sq:Int):=by
      rw [<- hsq];simp only [IntKind.wrap,IntKind.bits,IntKind.signed];show ((x.seq:Int)+(ts.length:Int)) % 18446744073709551616=_;omega
    have hw1:IntKind.i64.wrap ((a0:Int)+(u:Int))=(a0:Int)+(u:Int):=IntWalk.i64_in _ (by omega);have hw2':IntKind.i64.wrap ((PLN:Int) - (u:Int))=(PLN:Int) - (u:Int):=IntWalk.i64_in _ (by omega);obtain ⟨RES2,hRES2⟩:∃ R,Jr.parseA (Geo.home G) sq (Jr.ring G D.now (a0+u) (PLN - u)) [] Jr.none_=R:=⟨_,rfl⟩;have HRES2:=hid hRES2;have Bw:=hid (below_next B4.out hB.out);have qS:Hid (∀ wz,Below wr.heap.size wr wz->Calls Tryz.prog 128 #[.pointer (some ⟨sb,0,none⟩),.agg #[.int .i64 g1,.int .i64 g2,.int .i64 g3,.int .i64 1,.int .i64 g5,.int .i64 g6,.int .i64 g7,.int .i64 g8,.int .i64 g9],.int .i64 ((a0:Int)+(u:Int)),.int .u64 (sq:Int),.int .i64 ((PLN:Int) - (u:Int))] wz fun e w'=>StandTold (PLN - u) RES2 wz e w'):=hid (fun wz hz=>by
      have:=QS.out wz (Bw.out.trans (hz.mono Bw.out.size)) (a0+u) sq (PLN - u) (by omega) (by omega) hsq2;rw [hRES2] at this;rwa [show ((a0+u:Nat):Int)=(a0:Int)+(u:Int) by omega,show ((PLN - u:Nat):Int)=(PLN:Int) - (u:Int) by omega] at this)
    have KEEP:Hid (∀ wz,Below wr.heap.size wr wz->wz.cell? ⟨w.heap.size,0,none⟩=some (.int .i64 g1)/\wz.cell? ⟨w.heap.size,1,none⟩=some (.int .i64 g2)/\wz.cell? ⟨w.heap.size,2,none⟩=some (.int .i64 g3)/\wz.cell? ⟨w.heap.size,3,none⟩=some (.int .i64 1)/\wz.cell? ⟨w.heap.size,4,none⟩=some (.int .i64 g5)/\wz.cell? ⟨w.heap.size,5,none⟩=some (.int .i64 g6)/\wz.cell? ⟨w.heap.size,6,none⟩=some (.int .i64 g7)/\wz.cell? ⟨w.heap.size,7,none⟩=some (.int .i64 g8)/\wz.cell? ⟨w.heap.size,8,none⟩=some (.int .i64 g9)/\wz.cell? ⟨w2.heap.size,2,none⟩=some (.int .i64 (a0:Int))/\wz.cell? ⟨w2.heap.size,1,none⟩=some (.int .u64 (x.seq:Int))):=hid (fun wz hz=>by
      have RG:=(HR4.out.below hB.out HR4.out.lt).below hz (HR4.out.below hB.out HR4.out.lt).lt;have RX:=(HX4.out.below hB.out HX4.out.lt).below hz (HX4.out.below hB.out HX4.out.lt).lt;exact ⟨RG.cellAt 0 rfl,RG.cellAt 1 rfl,RG.cellAt 2 rfl,RG.cellAt 3 rfl,RG.cellAt 4 rfl,RG.cellAt 5 rfl,RG.cellAt 6 rfl,RG.cellAt 7 rfl,RG.cellAt 8 rfl,RX.cellAt 2 rfl,RX.cellAt 1 rfl⟩)
    have b0:Hid (Below wr.heap.size wr wr.drew):=hid (Below.refl _ _).drew;clear hRES2 hsq;go_upto_region 7 with fail
    go_cut [15,16] from 43 to 62 (fun p q wx=>∃ tb n:Nat,p=.pointer (some ⟨tb,0,none⟩)/\q=.int .i64 (n:Int)/\Hid (ReadCut RES2 (PLN - u) wr wx tb n));case first =>
            refine wp_region_E (S:=fun w'=>w'.cell? ⟨w.heap.size,0,none⟩=some (.int .i64 g1)/\w'.cell? ⟨w.heap.size,1,none⟩=some (.int .i64 g2)/\w'.cell? ⟨w.heap.size,2,none⟩=some (.int .i64 g3)/\w'.cell? ⟨w.heap.size,3,none⟩=some (.int .i64 1)/\w'.cell? ⟨w.heap.size,4,none⟩=some (.int .i64 g5)/\w'.cell? ⟨w.heap.size,5,none⟩=some (.int .i64 g6)/\w'.cell? ⟨w.heap.size,6,none⟩=some (.int .i64 g7)/\w'.cell? ⟨w.heap.size,7,none⟩=some (.int .i64 g8)/\w'.cell? ⟨w.heap.size,8,none⟩=some (.int .i64 g9)/\w'.cell? ⟨w2.heap.size,2,none⟩=some (.int .i64 (a0:Int))/\w'.cell? ⟨w2.heap.size,1,none⟩=some (.int .u64 (x.seq:Int))) (E:=[]) (by kernel_rfl) (KEEP.out _ b0.out) (fun hHeld hCl=>?_);refine tk6 hCl hHeld 0 (.pointer (some ⟨sb,0,none⟩)) 1 (.agg #[.int .i64 g1,.int .i64 g2,.int .i64 g3,.int .i64 1,.int .i64 g5,.int .i64 g6,.int .i64 g7,.int .i64 g8,.int .i64 g9]) 2 (.pointer (some ⟨w2.heap.size,2,none⟩)) 3 (.int .i64 (a0:Int)) 4 (.int .i64 (u:Int)) 5 (.int .i64 ((a0:Int)+(u:Int))) fun hCl=>?_;(try simp only [lL,Act.put]);refine tk6 hCl hHeld 6 (.pointer (some ⟨w2.heap.size,1,none⟩)) 7 (.int .u64 (x.seq:Int)) 8 (.slice av ts.length cvp) 9 (.int .i64 (ts.length:Int)) 10 (.int .u64 (ts.length:Int)) 11 (.int .u64 (sq:Int)) fun hCl=>?_;(try simp only [lL,Act.put]);refine tk2 hCl hHeld 12 (.agg #[.int .i64 g1,.int .i64 g2,.int .i64 g3,.int .i64 1,.int .i64 g5,.int .i64 g6,.int .i64 g7,.int .i64 g8,.int .i64 g9]) 14 (.int .i64 (u:Int)) fun hCl=>?_;(try simp only [lL,Act.put]);refine wpAnyE_ready (rs:=[13,20]) (by kernel_rfl) (by simp) ?_;refine NextE.cons rfl (fun K hK=>?_) (NextE.cons rfl (fun K hK=>?_) NextE.nil)
            · go_simp;go_at_call 81;(with_reducible refine (q.out _).mono ?_);rintro e w6 ⟨rfl,hb6'⟩;have b6:=hid (b0.out.trans (hb6'.mono b0.out.size));clear hb6';refine dn hK hCl (KEEP.out _ b6.out) ?_;clear hK K hHeld hCl;intro hHeld hCl;(try simp only [lL,Act.put]);refine tk1 hCl hHeld 15 (.int .i64 ((PLN:Int) - (u:Int))) fun hCl=>?_;(try simp only [lL,Act.put]);refine wpAnyE_ready (rs:=[16,20]) (by kernel_rfl) (by simp) ?_;refine NextE.cons rfl (fun K hK=>?_) (NextE.cons rfl (fun K hK=>?_) NextE.nil)
              · go_simp;go_at_call 128;(with_reducible refine (qS.out _ b6.out).mono ?_);rintro e w8 hT8;have hT9:∃ (cv rv:Value) (n:Nat),e=.returned (.tuple #[.agg #[cv,rv],.int .i64 (n:Int)])/\Below w6.heap.size w6 w8/\Hid (Stood RES2 (PLN - u) wr.heap.size w8 cv rv n):=stood_of hT8 b6.out.size;obtain ⟨cv,rv,n,rfl,hb8,hSt⟩:=hT9;have b8:=hid (b6.out.trans (hb8.mono b6.out.size));clear hb8 hT8;refine dn hK hCl (KEEP.out _ b8.out) ?_;clear hK K hHeld hCl;intro hHeld hCl;(try simp only [lL,Act.put]);refine tk3 hCl hHeld 17 (.tuple #[.agg #[cv,rv],.int .i64 (n:Int)]) 18 (.agg #[cv,rv]) 19 (.int .i64 (n:Int)) fun hCl=>?_;(try simp only [lL,Act.put]);refine rd1 20 fun K hK=>?_;go_simp;have RT:=Row.new (b:=w8.heap.size) w8 25 [.slice none 0 0,.slice none 0 0] rfl;have b9:=hid (b8.out.alloc b8.out.size (.cells #[.slice none 0 0,.slice none 0 0] 25));have HRT:=hid RT;clear RT;refine dn hK hCl (KEEP.out _ b9.out) ?_;clear hK K hHeld hCl;intro hHeld hCl;(try simp only [lL,Act.put]);obtain ⟨acv,ncv,ccv,rfl⟩:=hSt.out.c;obtain ⟨arv,nrv,crv,rfl⟩:=hSt.out.r;have t0:=HRT.out.cellAt 0 rfl;have t1:=HRT.out.cellAt 1 rfl;have ft0:=HRT.out.free 0 (by simp);have ft1:=HRT.out.free 1 (by simp);have t1b:=(HRT.out.set 0 (.slice acv ncv ccv)).cellAt 1 rfl;have BF:=hid (b8.out.alloc b8.out.size (.cells #[.slice acv ncv ccv,.slice arv nrv crv] 25));have CF:Hid (ReadCut RES2 (PLN - u) wr (w8.alloc (.cells #[.slice acv ncv ccv,.slice arv nrv crv] 25)) w8.heap.size n):=hid ⟨BF.out,_,_,Row.new w8 25 [.slice acv ncv ccv,.slice arv nrv crv] rfl,hSt.out.new _⟩;refine rd1 21 fun K hK=>?_;go_simp;refine dn hK hCl (KEEP.out _ BF.out) ?_;clear hK K hHeld hCl;intro hHeld hCl;(try simp only [lL,Act.put]);refine rd1 22 fun K hK=>?_;go_simp;refine dn hK hCl (KEEP.out _ BF.out) ?_;clear hK K hHeld hCl;intro hHeld hCl;(try simp only [lL,Act.put]);refine wpAnyE_done (by kernel_rfl) ?_ _;go_step;go_step;go_meet;exact ⟨_,_,rfl,rfl,CF⟩
              go_simp;have RT:=Row.new (b:=w6.heap.size) w6 25 [.slice none 0 0,.slice none 0 0] rfl;have b7:=hid (b6.out.alloc b6.out.size (.cells #[.slice none 0 0,.slice none 0 0] 25));have HRT:=hid RT;clear RT;refine dn hK hCl (KEEP.out _ b7.out) ?_;clear hK K hHeld hCl;intro hHeld hCl;(try simp only [lL,Act.put]);refine rd1 16 fun K hK=>?_;go_simp;go_at_call 128;(with_reducible refine (qS.out _ b7.out).mono ?_);rintro e w8 hT8;have hT9:∃ (cv rv:Value) (n:Nat),e=.returned (.tuple #[.agg #[cv,rv],.int .i64 (n:Int)])/\Below (w6.alloc (.cells #[.slice none 0 0,.slice none 0 0] 25)).heap.size (w6.alloc (.cells #[.slice none 0 0,.slice none 0 0] 25)) w8/\Hid (Stood RES2 (PLN - u) wr.heap.size w8 cv rv n):=stood_of hT8 b7.out.size;obtain ⟨cv,rv,n,rfl,hb8,hSt⟩:=hT9;have b8:=hid (b7.out.trans (hb8.mono b7.out.size));replace HRT:=hid (HRT.out.below hb8 HRT.out.lt);clear hb8 hT8;refine dn hK hCl (KEEP.out _ b8.out) ?_;clear hK K hHeld hCl;intro hHeld hCl;(try simp only [lL,Act.put]);refine tk3 hCl hHeld 17 (.tuple #[.agg #[cv,rv],.int .i64 (n:Int)]) 18 (.agg #[cv,rv]) 19 (.int .i64 (n:Int)) fun hCl=>?_;(try simp only [lL,Act.put]);obtain ⟨acv,ncv,ccv,rfl⟩:=hSt.out.c;obtain ⟨arv,nrv,crv,rfl⟩:=hSt.out.r;have t0:=HRT.out.cellAt 0 rfl;have t1:=HRT.out.cellAt 1 rfl;have ft0:=HRT.out.free 0 (by simp);have ft1:=HRT.out.free 1 (by simp);have t1b:=(HRT.out.set 0 (.slice acv ncv ccv)).cellAt 1 rfl;have CF:=hid (readcut_of (tb:=w6.heap.size) hSt.out HRT.out b8.out (b6.out.size));have BF:=hid ((b8.out.setCell (p:=⟨w6.heap.size,0,none⟩) (b6.out.size) (.slice acv ncv ccv)).setCell (p:=⟨w6.heap.size,1,none⟩) (b6.out.size) (.slice arv nrv crv));refine rd1 21 fun K hK=>?_;go_simp;refine dn hK hCl (KEEP.out _ BF.out) ?_;clear hK K hHeld hCl;intro hHeld hCl;(try simp only [lL,Act.put]);refine rd1 22 fun K hK=>?_;go_simp;refine dn hK hCl (KEEP.out _ BF.out) ?_;clear hK K hHeld hCl;intro hHeld hCl;(try simp only [lL,Act.put]);refine wpAnyE_done (by kernel_rfl) ?_ _;go_step;go_step;go_meet;exact ⟨_,_,rfl,rfl,CF⟩
            go_simp;have RT:=Row.new (b:=wr.heap.size) wr.drew 25 [.slice none 0 0,.slice none 0 0] rfl;have b1:=hid (b0.out.alloc b0.out.size (.cells #[.slice none 0 0,.slice none 0 0] 25));have HRT:=hid RT;clear RT;refine dn hK hCl (KEEP.out _ b1.out) ?_;clear hK K hHeld hCl;intro hHeld hCl;(try simp only [lL,Act.put]);refine rd1 13 fun K hK=>?_;go_simp;go_at_call 81;(with_reducible refine (q.out _).mono ?_);rintro e w6 ⟨rfl,hb6'⟩;have b6:=hid (b1.out.trans (hb6'.mono b1.out.size));replace HRT:=hid (HRT.out.below hb6' HRT.out.lt);clear hb6';refine dn hK hCl (KEEP.out _ b6.out) ?_;clear hK K hHeld hCl;intro hHeld hCl;(try simp only [lL,Act.put]);refine tk1 hCl hHeld 15 (.int .i64 ((PLN:Int) - (u:Int))) fun hCl=>?_;(try simp only [lL,Act.put]);refine rd1 16 fun K hK=>?_;go_simp;go_at_call 128;(with_reducible refine (qS.out _ b6.out).mono ?_);rintro e w8 hT8;have hT9:∃ (cv rv:Value) (n:Nat),e=.returned (.tuple #[.agg #[cv,rv],.int .i64 (n:Int)])/\Below w6.heap.size w6 w8/\Hid (Stood RES2 (PLN - u) wr.heap.size w8 cv rv n):=stood_of hT8 b6.out.size;obtain ⟨cv,rv,n,rfl,hb8,hSt⟩:=hT9;have b8:=hid (b6.out.trans (hb8.mono b6.out.size));replace HRT:=hid (HRT.out.below hb8 HRT.out.lt);clear hb8 hT8;refine dn hK hCl (KEEP.out _ b8.out) ?_;clear hK K hHeld hCl;intro hHeld hCl;(try simp only [lL,Act.put]);refine tk3 hCl hHeld 17 (.tuple #[.agg #[cv,rv],.int .i64 (n:Int)]) 18 (.agg #[cv,rv]) 19 (.int .i64 (n:Int)) fun hCl=>?_;(try simp only [lL,Act.put]);obtain ⟨acv,ncv,ccv,rfl⟩:=hSt.out.c;obtain ⟨arv,nrv,crv,rfl⟩:=hSt.out.r;have t0:=HRT.out.cellAt 0 rfl;have t1:=HRT.out.cellAt 1 rfl;have ft0:=HRT.out.free 0 (by simp);have ft1:=HRT.out.free 1 (by simp);have t1b:=(HRT.out.set 0 (.slice acv ncv ccv)).cellAt 1 rfl;have CF:=hid (readcut_of (tb:=wr.heap.size) hSt.out HRT.out b8.out (Nat.le_refl _));have BF:=hid ((b8.out.setCell (p:=⟨wr.heap.size,0,none⟩) (Nat.le_refl _) (.slice acv ncv ccv)).setCell (p:=⟨wr.heap.size,1,none⟩) (Nat.le_refl _) (.slice arv nrv crv));refine rd1 21 fun K hK=>?_;go_simp;refine dn hK hCl (KEEP.out _ BF.out) ?_;clear hK K hHeld hCl;intro hHeld hCl;(try simp only [lL,Act.put]);refine rd1 22 fun K hK=>?_;go_simp;refine dn hK hCl (KEEP.out _ BF.out) ?_;clear hK K hHeld hCl;intro hHeld hCl;(try simp only [lL,Act.put]);refine wpAnyE_done (by kernel_rfl) ?_ _;go_step;go_step;go_meet;exact ⟨_,_,rfl,rfl,CF⟩
    case rest =>
      obtain ⟨tb,n,rfl,rfl,hCC⟩:=hcut;obtain ⟨hbc,cv,rv,rT,hSt⟩:=hCC.out;obtain ⟨acv,ncv,ccv,rfl⟩:=hSt.c;obtain ⟨arv,nrv,crv,rfl⟩:=hSt.r;have K1:=KEEP.out wc hbc;have xa:=K1.2.2.2.2.2.2.2.2.2.1;have xs:=K1.2.2.2.2.2.2.2.2.2.2;have Tc:=hid (show OwnT w4.heap.size wc (.slice av ts.length cvp) ts from hT.out.below hbc);have Bc:=hid (below_next Bw.out hbc);have HIS:=hid hSt.is;have Bc4:=hid (hB.out.trans (hbc.mono hB.out.size));have t0:=rT.cellAt 0 rfl;have t1:=rT.cellAt 1 rfl;have hwc:wr.heap.size<=wc.heap.size:=hbc.size;have hwr0:w4.heap.size<=wr.heap.size:=hB.out.size;have hw40:w.heap.size<=w4.heap.size:=B4.out.size;clear KEEP b0 hCC K1 hbc hSt hT hB Bw qS hwl hws hw1 hw2' rT;rcases HIS.out with ⟨h1,h2⟩ | ⟨t,rest,h1,h2,h3,h4,h5⟩
      · have bn:((n:Int) == 0)=true:=(by rw [beq_iff_eq];omega);have hn:=Jr.readR_none (HRES2.out.trans h1);rw [hn,List.append_nil] at hre;obtain ⟨e1,e2⟩:=hre.out;have hlen2:RT.2.length=PLN - u:=(by rw [<- e2];exact Jr.ring_length _ _ _ _);have hP:=hid (fun w' (hb:Below w.heap.size w w') (ho:OwnT w.heap.size w' (.slice av ts.length cvp) ts)=>by
          have:=TS.out w' ⟨a0,x.seq,RT.1,PLN - RT.2.length⟩ (.slice av ts.length cvp) HS.out hb (by rw [<- e1];exact ho);dsimp only at this;rw [hlen2,show PLN - (PLN - u)=u by omega] at this;exact this)
        clear h1 h2 hn hre e1 e2 hlen2 HIS HRES2 t0 t1;go_wp2_with fail;go_quiet (fail);go_wp2_with fail;exact bodyPost_ret (v:=.tuple #[.int .i64 (a0:Int),.int .u64 (x.seq:Int),.slice av ts.length cvp,.int .i64 (u:Int),.bool true]) (by simp [results,Tryz.results84,go_sem]) rfl (hP.out _ (below_drewN Bc.out _) ((Tc.out.drewN _).mono hw40))
      obtain ⟨k,hk1',hk2,hk3⟩:=Jr.parseA_rest (HRES2.out.trans h1);have hrs:=Jr.readR_some (HRES2.out.trans h1);rw [Jr.ring_length] at hk2;rw [Jr.ring_drop] at hk3;have hrl:rest.length=PLN - u - k:=(by rw [hk3,Jr.ring_length]);have hnk:n=k:=(by omega);have bn:((n:Int) == 0)=false:=(by rw [beq_eq_false_iff_ne];omega);have HN:Hid ((ts ++ [t]) ++ (Jr.readR (Geo.home G) ((x.seq+(ts ++ [t]).length) % 18446744073709551616) (Jr.ring G D.now (a0+(u+n)) (PLN - (u+n)))).1=RT.1/\(Jr.readR (Geo.home G) ((x.seq+(ts ++ [t]).length) % 18446744073709551616) (Jr.ring G D.now (a0+(u+n)) (PLN - (u+n)))).2=RT.2):=hid (by
        have h:=hre.out;rw [hrs] at h;have e:(x.seq+(ts ++ [t]).length) % 18446744073709551616=Jr.nx sq:=by
          rw [List.length_append,List.length_singleton];have:=HSQ.out;unfold Jr.nx;omega
        rw [e,hnk,show a0+(u+k)=a0+u+k by omega,show PLN - (u+k)=PLN - u - k by omega,List.append_assoc,<- hk3];exact h)
      obtain ⟨pq,oT,hTs⟩:=Tc.out;have OT:=hid oT;have HTS:=hid hTs;have H4:=hid (World.ownsRow.mono h4 hwr0);have H5:=hid (World.ownsRow.mono h5 hwr0);have hone:Hid (∀ v ∈ [Value.slice acv ncv ccv,Value.slice arv nrv crv],v.oneCell'=true):=hid (by intro v hv;simp at hv;rcases hv with rfl | rfl <;> rfl);have htl:ts.length<=1000000:=(by omega);have hun:u+n<=PLN:=(by omega);have hn1:1<=n:=(by omega);have hwcs:w4.heap.size<=wc.heap.size:=(by omega);clear h1 h2 h3 h4 h5 hk1' hk2 hk3 hrs hrl hnk hre oT hTs Tc HIS HRES2 xa xs;go_wp2_with (at_builtin;refine wpList_append_lies _ rfl _ _ 43 rfl w4.heap.size 25 i0 (.agg #[.slice none 0 0,.slice none 0 0]) 2 48 Tryz.underlying43 hi0 hz0 hz1 hz2 rfl (by decide) (.slice av ts.length cvp) ts.length (txC pq) rfl (own_new1 OT.out _) ⟨wc.heap.size,0,none⟩ 1 1 [.slice acv ncv ccv,.slice arv nrv crv] rfl rfl (World.news_of_block (heap_alloc_new _ _)) hone.out (by decide) (by unfold maxLen;omega) (by omega) (by simp;omega) _ rfl ?_);intro g5' c5 w6 hown hgrow hat hlt5;have gC:∀ v l,OwnC w4.heap.size wc v l->OwnC w4.heap.size w6 v l:=fun v l h=>own_otherR (own_new1 h _) (own_new1 OT.out _) hgrow (by decide);have gI:∀ v l,OwnInts w4.heap.size wc v l->OwnInts w4.heap.size w6 v l:=fun v l h=>own_otherR (own_new1 h _) (own_new1 OT.out _) hgrow (by decide);have T6:Hid (OwnT w4.heap.size w6 (.slice (some ⟨g5',0,none⟩) (ts.length+1) c5) (ts ++ [t])):=hid ⟨pq ++ [(.slice acv ncv ccv,.slice arv nrv crv)],by rw [List.length_append,txC_append];exact hown,(HTS.out.map gC gI).snoc (gC _ _ H4.out) (gI _ _ H5.out)⟩;have B6:=hid ((Bc4.out.alloc Bc4.out.size (.cells #[.slice acv ncv ccv,.slice arv nrv crv] 25)).grown hgrow (by have:=Bc4.out.size;simp;omega) (fun j hj=>(World.ownsRow.lt OT.out j hj).1));clear hown hgrow hat hlt5 gC gI OT HTS H4 H5 t0 t1 hone;go_wp2_with fail;go_roundw;case rel=>exact ⟨u+n,ts ++ [t],_,by omega,by rw [List.length_append,List.length_singleton];omega,rfl,by go_num,HN,T6,B6⟩
      case measure=>simp [intOf];omega
end Go.Proofs.YtnpdhidliaahbaaGreat
namespace Go.Proofs.YtnpdhidliaahbaaGreat
open Go.Lib (hid)
open Go Go.RowKit
namespace Jr
open Go.Lib (hid)
def lookC (cs:List Chg) (b:Int) (o:Option ByteArray):Option ByteArray:=match cs.reverse.find? (fun c=>c.1 == b) with | some c=>some c.2 | none=>o
theorem lookC_snoc (cs:List Chg) (c:Chg) (b:Int) (o:Option ByteArray):lookC (cs ++ [c]) b o=if c.1 == b then some c.2 else lookC cs b o:=by
 unfold lookC;rw [List.reverse_append,List.reverse_cons,List.reverse_nil,List.nil_append,List.singleton_append,List.find?_cons];cases h:c.1 == b <;> simp
theorem look1_C (t:Txn) (b:Int) (o:Option ByteArray):look1 t b o=if b ∈ t.rv then none else lookC t.ch b o:=rfl
theorem comes_succ (n:Nat) (l:List Txn):comes (n+1) l=comes n l ++ (match look l (n:Int) with | some s=>[((n:Int),s)] | none=>[]):=by
 unfold comes;rw [List.range_succ,List.filterMap_append];congr 1;cases h:look l (n:Int) <;> simp [h]
theorem comes_length (n:Nat) (l:List Txn):(comes n l).length<=n:=by
 unfold comes;exact Nat.le_trans (List.length_filterMap_le _ _) (by simp)
end Jr
theorem rv_take (l:List Int) (k:Nat) (h:k < l.length) (b:Int):decide (b ∈ l.take (k+1))=(decide (b ∈ l.take k) || (l.getD k 0 == b)):=by
 rw [List.take_succ_eq_append_getElem h,Bool.eq_iff_iff];simp only [decide_eq_true_eq,Bool.or_eq_true,List.mem_append,List.mem_singleton,beq_iff_eq];rw [show l.getD k 0=l[k] by simp [List.getD,h]];exact ⟨fun h=>h.imp id Eq.symm,fun h=>h.imp id Eq.symm⟩
theorem rcomes_any (g:Geo.G) (nb:Nat) (hnb:g.blocks=(nb:Int)) (hb:nb<=4096) (v:Value) (l:List Jr.Txn) (w:World) (hT:TxnsAt w v l) (hl:l.length<=1000000) (hfit:∀ t ∈ l,t.ch.length<=1000000/\t.rv.length<=1000000) :
  Calls Tryz.prog 85 #[.agg (Geo.cells g),v] w fun e w'=>∃ v',e=.returned v'/\OwnC w.heap.size w' v' (Jr.comes nb l)/\Below w.heap.size w w':=by
 obtain ⟨k0',hk0,kz0,kz1,kz2⟩:=info_parts infoChg
 obtain ⟨ad,cap,rfl⟩:=hT.form
 have HT:=hid hT
 have HF:=hid hfit
 clear hT hfit
 unfold Geo.cells at *
 obtain ⟨g1,g2,g3,g4,g5,g6,g7,g8,g9⟩:=g
 dsimp only at *
 subst hnb
 have R0:=hid (Row.new w 30 [.int .i64 (nb:Int),.int .i64 g2,.int .i64 g3,.int .i64 g4,.int .i64 g5,.int .i64 g6,.int .i64 g7,.int .i64 g8,.int .i64 g9] rfl)
 have BA:=hid ((Below.refl w.heap.size w).alloc (Nat.le_refl _) (.cells #[.int .i64 (nb:Int),.int .i64 g2,.int .i64 g3,.int .i64 g4,.int .i64 g5,.int .i64 g6,.int .i64 g7,.int .i64 g8,.int .i64 g9] 30))
 go_enter Tryz.func85,Tryz.ntmps85
 go_wp2_with fail
 generalize w.alloc _=w0 at *
 go_loopw [5,6] (fun u q wr=>∃ (b:Nat) (v':Value),b<=nb/\u=v'/\q=.int .i64 b/\Hid (OwnC w.heap.size wr v' (Jr.comes b l))/\Hid (Row wr w.heap.size 30 [.int .i64 (nb:Int),.int .i64 g2,.int .i64 g3,.int .i64 g4,.int .i64 g5,.int .i64 g6,.int .i64 g7,.int .i64 g8,.int .i64 g9])/\Hid (Below w.heap.size w wr)) (fun _ q _=>nb - (intOf q).toNat)
 case atStart=>exact ⟨0,.slice none 0 0,Nat.zero_le _,rfl,rfl,hid (World.ownsRow_nil _ _ _ _),R0,BA⟩
 case round =>
  clear R0 BA;obtain ⟨b,v',hbn,rfl,rfl,hO,hR,hB⟩:=hrel;have r0:=hR.out.cellAt 0 rfl;by_cases hlt:b < nb;case neg =>
   obtain rfl:b=nb:=(by omega);have HO:=hO;obtain ⟨ao,co,rfl⟩:=OwnC.slice hO.out;clear hO hlt;go_wp2_with fail;go_ret;exact ⟨_,rfl,HO.out,hB.out⟩
  have b1:(b:Int) < (nb:Int):=(by omega);have HTr:=hid (HT.out.below hB.out);go_wp2_with fail;go_loop [7,8,9] (fun u q i=>∃ (n:Nat) (o:Option ByteArray) (d:ByteArray) (bb:Bool),n<=l.length/\u=.string d/\q=.bool bb/\i=.int .i64 n/\Hid (Jr.look (l.take n) (b:Int)=o)/\Hid (bb=o.isSome)/\Hid (∀ s,o=some s->d=s)) (fun _ _ i=>l.length - (intOf i).toNat);case atStart=>exact ⟨0,none,⟨#[]⟩,false,Nat.zero_le _,rfl,rfl,rfl,hid (by rw [List.take_zero];rfl),hid rfl,hid (fun s h=>by cases h)⟩
  case round =>
   obtain ⟨n,o,d,bb,hn,rfl,rfl,rfl,hlk,hbb,hd⟩:=hrel;by_cases hlt2:n < l.length
   ·have i0:(0:Int)<=(n:Int):=(by omega);have i1:(n:Int) < (l.length:Int):=(by omega);obtain ⟨t,ht⟩:∃ t,l[n]?=some t:=⟨_,List.getElem?_eq_getElem hlt2⟩;have htm:=hid (List.mem_of_getElem? ht);obtain ⟨gt,ot,cv,rv,rfl,cT0,cT1,hC,hI⟩:=HTr.out.cells ht;obtain ⟨ac,cc,rfl⟩:=hC.form;obtain ⟨ar,cr,rfl⟩:=hI.form;have HC:=hid hC;have HI:=hid hI;have hfc:=(HF.out t htm.out).1;have hfr:=(HF.out t htm.out).2;have hnext:=hid (show Jr.look (l.take (n+1)) (b:Int)=Jr.look1 t (b:Int) o by
     obtain ⟨h1,h2⟩:=List.getElem?_eq_some_iff.1 ht;rw [List.take_succ_eq_append_getElem h1,h2,Jr.look_snoc,hlk.out])
    clear hC hI ht;go_wp2_with fail;go_loop [7,8,10] (fun u q i=>∃ (k:Nat) (o2:Option ByteArray) (d2:ByteArray) (b2:Bool),k<=t.ch.length/\u=.string d2/\q=.bool b2/\i=.int .i64 k/\Hid (Jr.lookC (t.ch.take k) (b:Int) o=o2)/\Hid (b2=o2.isSome)/\Hid (∀ s,o2=some s->d2=s)) (fun _ _ i=>t.ch.length - (intOf i).toNat);case atStart=>exact ⟨0,o,d,bb,Nat.zero_le _,rfl,rfl,rfl,hid (by rw [List.take_zero];rfl),hbb,hd⟩
    case round =>
     obtain ⟨k,o2,d2,b2,hk,rfl,rfl,rfl,hlk2,hbb2,hd2⟩:=hrel;by_cases hlt3:k < t.ch.length
     ·have j0:(0:Int)<=(k:Int):=(by omega);have j1:(k:Int) < (t.ch.length:Int):=(by omega);obtain ⟨c,hc⟩:∃ c,t.ch[k]?=some c:=⟨_,List.getElem?_eq_getElem hlt3⟩;obtain ⟨gc,oc,rfl,cC0,cC1⟩:=HC.out.cells hc;have hsn:=hid (show Jr.lookC (t.ch.take (k+1)) (b:Int) o=if c.1 == (b:Int) then some c.2 else o2 by
       obtain ⟨h1,h2⟩:=List.getElem?_eq_some_iff.1 hc;rw [List.take_succ_eq_append_getElem h1,h2,Jr.lookC_snoc,hlk2.out])
      clear hc;obtain ⟨c1,c2⟩:=c;dsimp only at *;by_cases hcb:c1=(b:Int)
      ·have e1:(c1 == (b:Int))=true:=(by rw [beq_iff_eq];exact hcb);have HS:=hid (show Jr.lookC (t.ch.take (k+1)) (b:Int) o=some c2 by rw [hsn.out,if_pos e1]);clear hcb hsn;go_wp2_with fail;go_round;case rel=>exact ⟨k+1,some c2,c2,true,by omega,rfl,rfl,by go_num,HS,hid rfl,hid (fun s h=>by injection h)⟩
       case measure=>simp [intOf];omega
      have e1:(c1 == (b:Int))=false:=(by rw [beq_eq_false_iff_ne];exact hcb);have HS:=hid (show Jr.lookC (t.ch.take (k+1)) (b:Int) o=o2 by rw [hsn.out,e1];rfl);clear hcb hsn;go_wp2_with fail;go_round;case rel=>exact ⟨k+1,o2,d2,b2,by omega,rfl,rfl,by go_num,HS,hbb2,hd2⟩
      case measure=>simp [intOf];omega
     obtain rfl:k=t.ch.length:=(by omega);have HLC:=hid (show Jr.lookC t.ch (b:Int) o=o2 by rw [<- hlk2.out,List.take_length]);clear hlk2 hk hlt3;go_wp2_with fail;go_loop [8,11] (fun q i=>∃ (k:Nat),k<=t.rv.length/\q=.bool (if decide ((b:Int) ∈ t.rv.take k)=true then false else b2)/\i=.int .i64 k) (fun _ i=>t.rv.length - (intOf i).toNat);case atStart=>exact ⟨0,Nat.zero_le _,by rw [List.take_zero];rfl,rfl⟩
     case round =>
      obtain ⟨k,hk,rfl,rfl⟩:=hrel;by_cases hlt3:k < t.rv.length
      ·have j0:(0:Int)<=(k:Int):=(by omega);have j1:(k:Int) < (t.rv.length:Int):=(by omega);obtain ⟨gr,or,rfl,cR⟩:=HI.out.cells k hlt3;have htk:=hid (rv_take t.rv k hlt3 (b:Int));obtain ⟨B1,hB1⟩:∃ B1,(if decide ((b:Int) ∈ t.rv.take k)=true then false else b2)=B1:=⟨_,rfl⟩;obtain ⟨B2,hB2⟩:∃ B2,(if decide ((b:Int) ∈ t.rv.take (k+1))=true then false else b2)=B2:=⟨_,rfl⟩;rw [hB1];have HB2:=hid hB2;generalize hrk:t.rv.getD k 0=rk at *;by_cases hcb:rk=(b:Int)
       ·have e1:(rk == (b:Int))=true:=(by rw [beq_iff_eq];exact hcb);obtain rfl:B2=false:=(by rw [<- HB2.out,htk.out,e1,Bool.or_true];rfl);clear hcb htk hB1 hB2 hrk;go_wp2_with fail;go_round;case rel=>exact ⟨k+1,by omega,by rw [HB2.out],by go_num⟩
        case measure=>simp [intOf];omega
       have e1:(rk == (b:Int))=false:=(by rw [beq_eq_false_iff_ne];exact hcb);obtain rfl:B2=B1:=(by rw [<- HB2.out,<- hB1,htk.out,e1,Bool.or_false]);clear hcb htk hB1 hB2 hrk;go_wp2_with fail;go_round;case rel=>exact ⟨k+1,by omega,by rw [HB2.out],by go_num⟩
       case measure=>simp [intOf];omega
      obtain rfl:k=t.rv.length:=(by omega);rw [List.take_length];have hN:∃ (o3:Option ByteArray) (d3:ByteArray) (b3:Bool),(if decide ((b:Int) ∈ t.rv)=true then false else b2)=b3/\Jr.look (l.take (n+1)) (b:Int)=o3/\b3=o3.isSome/\∀ s,o3=some s->d2=s:=by
       by_cases hm:(b:Int) ∈ t.rv
       ·exact ⟨none,d2,false,by rw [decide_eq_true hm];rfl,by rw [hnext.out,Jr.look1_C,if_pos hm],rfl,fun s h=>by cases h⟩
       exact ⟨o2,d2,b2,by rw [decide_eq_false hm];rfl,by rw [hnext.out,Jr.look1_C,if_neg hm,HLC.out],hbb2.out,hd2.out⟩
      obtain ⟨o3,d3,b3,e1,e2,e3,e4⟩:=hN;rw [e1];have H2:=hid e2;have H3:=hid e3;have H4:=hid e4;clear e1 e2 e3 e4 hk hlt3;go_wp2_with fail;go_round;case rel=>exact ⟨n+1,o3,d2,b3,by omega,rfl,rfl,by go_num,H2,H3,H4⟩
      case measure=>simp [intOf];omega
   obtain rfl:n=l.length:=(by omega);rw [List.take_length] at hlk;have hsn:=Jr.comes_succ b l;rw [hlk.out] at hsn;have hcl:=Jr.comes_length b l;generalize Jr.comes b l=L at *;generalize hL2:Jr.comes (b+1) l=L2 at *;have HL2:=hid hL2;clear hL2;obtain ⟨ao,co,rfl⟩:=OwnC.slice hO.out;cases o with
   | none =>
    obtain rfl:bb=false:=hbb.out;obtain rfl:L2=L:=(by rw [hsn,List.append_nil]);clear hsn hlk hbb hd hn hlt2;go_wp2_with fail;go_roundw;case rel=>exact ⟨b+1,_,by omega,rfl,by go_num,hid (by rw [HL2.out];exact hO.out),hR,hB⟩
    case measure=>simp [intOf];omega
   | some s =>
    obtain rfl:bb=true:=hbb.out;obtain rfl:d=s:=hd.out s rfl;have HSN:=hid hsn;have hone:Hid (∀ u ∈ [Value.int .i64 (b:Int),Value.string d],u.oneCell'=true):=hid (by intro u hu;simp at hu;rcases hu with rfl | rfl <;> rfl);have hBs:=hB.out.size;clear hsn hlk hbb hd hn hlt2;go_wp2_with (at_builtin;refine wpList_append_lies _ rfl _ _ 22 rfl w.heap.size 68 k0' (.agg #[.int .i64 0,.string ⟨#[]⟩]) 2 24 Tryz.underlying22 hk0 kz0 kz1 kz2 rfl (by decide) (.slice ao L.length co) L.length (chgC L) rfl (own_new1 hO.out _) ⟨wr.heap.size,0,none⟩ 1 1 [.int .i64 (b:Int),.string d] rfl rfl (World.news_of_block (heap_alloc_new _ _)) hone.out (by decide) (by unfold maxLen;omega) (by omega) (by simp;omega) _ rfl ?_);intro g5' c5 w6 hown hgrow hat hlt5;have hR6:=hid (row_grownR (hR.out.alloc (.cells #[.int .i64 (b:Int),.string d] 68)) (own_new1 hO.out _) hgrow (by decide));have hB6:=hid ((hB.out.alloc hB.out.size (.cells #[.int .i64 (b:Int),.string d] 68)).grown hgrow (by simp;omega) (fun j hj=>(World.ownsRow.lt hO.out j hj).1));have HO6:Hid (OwnC w.heap.size w6 (.slice (some ⟨g5',0,none⟩) (L.length+1) c5) (Jr.comes (b+1) l)):=hid (by rw [HL2.out,HSN.out];unfold OwnC;rw [List.length_append,chgC_append];exact hown);clear hown hgrow hat hlt5 hR hB hO hone;go_wp2_with fail;go_roundw;case rel=>exact ⟨b+1,_,by omega,rfl,by go_num,HO6,hR6,hB6⟩
    case measure=>simp [intOf];omega
end Go.Proofs.YtnpdhidliaahbaaGreat
namespace Go.Proofs.YtnpdhidliaahbaaGreat
open Go.Lib (hid)
open Go Go.RowKit
theorem own_onlyB {S:List Nat} {w w':World} {B:Nat} {E:TypeId} {size n:Nat} {v:Value} {xs:List Value} (h:w.ownsRow B E size v n xs) (ho:Only S w w') (hS:∀ k ∈ S,k < B):w'.ownsRow B E size v n xs:=by
 refine ⟨h.1,h.2.imp id ?_⟩;rintro ⟨g,cap,cur,rfl,hg,hh,r⟩;exact ⟨g,cap,cur,rfl,hg,by rw [ho.block g (lt_of_block hh) (fun hk=>by have:=hS g hk;omega)];exact hh,r⟩
theorem OwnC.onlyB {S:List Nat} {w w':World} {B:Nat} {v:Value} {l:List Jr.Chg} (h:OwnC B w v l) (ho:Only S w w') (hS:∀ k ∈ S,k < B):OwnC B w' v l:=own_onlyB h ho hS
theorem OwnT.onlyB {S:List Nat} {w w':World} {B:Nat} {v:Value} {ts:List Jr.Txn} (h:OwnT B w v ts) (ho:Only S w w') (hS:∀ k ∈ S,k < B):OwnT B w' v ts:=by
 obtain ⟨xs,h1,h2⟩:=h;exact ⟨xs,own_onlyB h1 ho hS,h2.map (fun _ _ h=>own_onlyB h ho hS) (fun _ _ h=>own_onlyB h ho hS)⟩
theorem comes_size {hm:Int->Bool} {l:List Jr.Txn} {nb:Nat} (hl:∀ t ∈ l,Fits hm t) {c:Jr.Chg} (hc:c ∈ Jr.comes nb l):c.2.size<=9223372036854775807:=by
 obtain ⟨b,h1,h2,h3⟩:=Jr.comes_mem.1 hc;have:=(look_fits l.length l rfl hl h3).2;omega
theorem rreplay_bad (pa:Option Addr) (E:Int) (hE:E ≠ 0) (g:Geo.G) (w:World) (q:∀ wz,Below w.heap.size w wz->Calls Tryz.prog 80 #[.pointer pa,.agg (Geo.cells g)] wz fun e w'=>e=.returned (.int .i64 E)/\Below wz.heap.size wz w') :
  Calls Tryz.prog 32 #[.pointer pa,.agg (Geo.cells g)] w fun e w'=>e=.returned (.tuple #[.slice none 0 0,.int .i64 E])/\Below w.heap.size w w':=by
 have Q:=hid q
 clear q
 have hE1:(E == 0)=false:=by rw [beq_eq_false_iff_ne];exact hE
 have hE2:(E != 0)=true:=by rw [bne_iff_ne];exact hE
 unfold Geo.cells at *
 obtain ⟨g1,g2,g3,g4,g5,g6,g7,g8,g9⟩:=g
 dsimp only at *
 have R0:=Row.new w 30 [.int .i64 g1,.int .i64 g2,.int .i64 g3,.int .i64 g4,.int .i64 g5,.int .i64 g6,.int .i64 g7,.int .i64 g8,.int .i64 g9] rfl
 have BA:=hid ((Below.refl w.heap.size w).alloc (Nat.le_refl _) (.cells #[.int .i64 g1,.int .i64 g2,.int .i64 g3,.int .i64 g4,.int .i64 g5,.int .i64 g6,.int .i64 g7,.int .i64 g8,.int .i64 g9] 30))
 obtain ⟨k0,k1,k2,k3,k4,k5,k6,k7,k8⟩:=R0.c9
 clear R0
 go_enter Tryz.func32,Tryz.ntmps32
 go_wp2_with fail
 generalize w.alloc _=w1 at *
 (with_reducible refine (Q.out _ BA.out).mono ?_)
 rintro e w2 ⟨rfl,hb2⟩
 have B2:=hid (below_next BA.out hb2)
 clear hb2 k0 k1 k2 k3 k4 k5 k6 k7 k8
 go_wp2_with fail
 go_ret2
 exact ⟨rfl,B2.out⟩
theorem rformat_bad (pa:Option Addr) (E:Int) (hE:E ≠ 0) (g:Geo.G) (w:World) (q:∀ wz,Below w.heap.size w wz->Calls Tryz.prog 80 #[.pointer pa,.agg (Geo.cells g)] wz fun e w'=>e=.returned (.int .i64 E)/\Below wz.heap.size wz w') :
  Calls Tryz.prog 29 #[.pointer pa,.agg (Geo.cells g)] w fun e w'=>e=.returned (.int .i64 E)/\Below w.heap.size w w':=by
 have Q:=hid q
 clear q
 have hE1:(E == 0)=false:=by rw [beq_eq_false_iff_ne];exact hE
 have hE2:(E != 0)=true:=by rw [bne_iff_ne];exact hE
 unfold Geo.cells at *
 obtain ⟨g1,g2,g3,g4,g5,g6,g7,g8,g9⟩:=g
 dsimp only at *
 have R0:=Row.new w 30 [.int .i64 g1,.int .i64 g2,.int .i64 g3,.int .i64 g4,.int .i64 g5,.int .i64 g6,.int .i64 g7,.int .i64 g8,.int .i64 g9] rfl
 have BA:=hid ((Below.refl w.heap.size w).alloc (Nat.le_refl _) (.cells #[.int .i64 g1,.int .i64 g2,.int .i64 g3,.int .i64 g4,.int .i64 g5,.int .i64 g6,.int .i64 g7,.int .i64 g8,.int .i64 g9] 30))
 obtain ⟨k0,k1,k2,k3,k4,k5,k6,k7,k8⟩:=R0.c9
 clear R0
 go_enter Tryz.func29,Tryz.ntmps29
 go_wp2_with fail
 generalize w.alloc _=w1 at *
 (with_reducible refine (Q.out _ BA.out).mono ?_)
 rintro e w2 ⟨rfl,hb2⟩
 have B2:=hid (below_next BA.out hb2)
 clear hb2 k0 k1 k2 k3 k4 k5 k6 k7 k8
 go_wp2_with fail
 refine wp_loop_rounds 1 ?_
 rw [rounds_succ]
 go_wp2_with fail
 go_ret
 exact ⟨rfl,B2.out⟩
def ROpenTold (sb:Nat) (g:Geo.G) (RES:Option Jr.Log) (w:World) (e:Ending) (w':World):Prop:=
 (RES=none/\e=.returned (.tuple #[.pointer none,.int .i64 80])/\Below w.heap.size w w') ∨
 (∃ L lb,RES=some L/\e=.returned (.tuple #[.pointer (some ⟨lb,0,none⟩),.int .i64 0])/\RLogAt lb sb g (L.v g) w'/\w.heap.size<=lb/\Below w.heap.size w w')
theorem ropen_ok {Bd sb:Nat} {z:RLay} {D:Dev} (g:Geo.G) (hg:Geo.May g) (w:World) (hD:RefAt Bd w sb z D) (hn:(D.kept.length:Int)=g.blocks) (hsz:sized D.now) (hlen:D.now.length=D.kept.length) :
  Calls Tryz.prog 30 #[.pointer (some ⟨sb,0,none⟩),.agg (Geo.cells g)] w fun e w'=>ROpenTold sb g (Jr.readL g D.now) w e w':=by
 obtain ⟨RES,hRES⟩:∃ RES,Jr.readL g D.now=RES:=⟨_,rfl⟩
 rw [hRES]
 have hfits:Hid (∀ L,RES=some L->L.used<=Jr.plc g/\L.at_ < Jr.plc g/\L.seq < 2 ^ 64/\L.txns.length<=L.used):=hid (fun L h=>(readL_fits hg hsz (by omega) (hRES.trans h)).2.2.2)
 have qF:Hid (∀ wz,Below w.heap.size w wz->Calls Tryz.prog 80 #[.pointer (some ⟨sb,0,none⟩),.agg (Geo.cells g)] wz fun e w'=>e=.returned (.int .i64 0)/\Below wz.heap.size wz w'):=hid (fun wz hz=>by
  have:=rrefuses_may g hg wz (hD.below hz);rwa [if_pos hn] at this)
 have qR:=hid (fun wz (hz:Below w.heap.size w wz)=>rread_log g hg wz (hD.below hz) hn hsz hlen)
 rw [hRES] at qR
 have q:=hid (rplaces_any g hg)
 have hpl:=(Jr.plc_of hg)
 have hlog:=hg.ok.2.1
 have TN:Hid (∀ w',RES=none->Below w.heap.size w w'->ROpenTold sb g RES w (.returned (.tuple #[.pointer none,.int .i64 80])) w'):=hid (fun w' h hb=>.inl ⟨h,rfl,hb⟩)
 have TS:Hid (∀ w' L lb,RES=some L->RLogAt lb sb g (L.v g) w'->w.heap.size<=lb->Below w.heap.size w w'->ROpenTold sb g RES w (.returned (.tuple #[.pointer (some ⟨lb,0,none⟩),.int .i64 0])) w'):=hid (fun w' L lb h h2 h3 h4=>.inr ⟨L,lb,h,rfl,h2,h3,h4⟩)
 unfold RLogAt rlogC Jr.Log.v Jr.Log.place Jr.Log.next at TS
 dsimp only at TS
 generalize ROpenTold sb g RES w=P at *
 obtain ⟨PLN,hPL⟩:∃ PLN,Jr.plc g=PLN:=⟨_,rfl⟩
 rw [hPL] at hfits q TS hpl
 have hP2:0 < PLN/\PLN<=511:=by omega
 clear hRES hD hn hsz hlen hg hPL hpl
 unfold Geo.cells at *
 obtain ⟨g1,g2,g3,g4,g5,g6,g7,g8,g9⟩:=g
 dsimp only at *
 subst hlog
 have R0:=Row.new w 30 [.int .i64 g1,.int .i64 g2,.int .i64 g3,.int .i64 1,.int .i64 g5,.int .i64 g6,.int .i64 g7,.int .i64 g8,.int .i64 g9] rfl
 have HR0:=hid R0
 have BA:=hid ((Below.refl w.heap.size w).alloc (Nat.le_refl _) (.cells #[.int .i64 g1,.int .i64 g2,.int .i64 g3,.int .i64 1,.int .i64 g5,.int .i64 g6,.int .i64 g7,.int .i64 g8,.int .i64 g9] 30))
 obtain ⟨k0,k1,k2,k3,k4,k5,k6,k7,k8⟩:=R0.c9
 clear R0
 go_enter Tryz.func30,Tryz.ntmps30
 go_wp2_with fail
 generalize w.alloc _=w1 at *
 (with_reducible refine (qF.out _ BA.out).mono ?_)
 rintro e w2 ⟨rfl,hb2⟩
 have B2:=hid (below_next BA.out hb2)
 have HR2:=hid (HR0.out.below hb2 HR0.out.lt)
 clear hb2 k0 k1 k2 k3 k4 k5 k6 k7 k8 HR0 BA qF
 obtain ⟨k0,k1,k2,k3,k4,k5,k6,k7,k8⟩:=HR2.out.c9
 have qR2:=hid (qR.out _ B2.out)
 clear qR
 go_wp2_with fail
 (with_reducible refine qR2.out.mono ?_)
 rintro e w3 (⟨h1,rfl,hb3⟩ | ⟨L,v,h1,rfl,hb3,hT⟩)
 ·have TN1:=hid (TN.out _ h1 (below_next B2.out hb3));clear h1 hb3 TN TS qR2 k0 k1 k2 k3 k4 k5 k6 k7 k8;go_wp2_with fail;exact TN1.out
 ·obtain ⟨av,cvp,rfl⟩:∃ ad cp,v=.slice ad L.txns.length cp:=by
   obtain ⟨_,h,_⟩:=hT;obtain ⟨ad,cp,h,_⟩:=own_opens h;exact ⟨ad,cp,h⟩
  obtain ⟨f1,f2,f3,f4⟩:=hfits.out L h1;have B3:=hid (below_next B2.out hb3);have HR3:=hid (HR2.out.below hb3 HR2.out.lt);have TS1:=hid (fun w' lb h2 h3 h4=>TS.out w' L lb h1 h2 h3 h4);have hmod:((L.at_:Int)+(L.used:Int)).tmod (PLN:Int)=(((L.at_+L.used) % PLN:Nat):Int):=(by rw [Int.tmod_eq_emod_of_nonneg (by omega)];simp);have hmod2:((L.at_:Int)+(L.used:Int)) % (PLN:Int)=(((L.at_+L.used) % PLN:Nat):Int):=(by simp);have hwl:IntKind.u64.wrap (L.txns.length:Int)=(L.txns.length:Int):=u64_wrap_lo (by omega) (by omega);have hws:IntKind.u64.wrap ((L.seq:Int)+(L.txns.length:Int))=(((L.seq+L.txns.length) % 18446744073709551616:Nat):Int):=by
   simp only [IntKind.wrap,IntKind.bits,IntKind.signed];show ((L.seq:Int)+(L.txns.length:Int)) % 18446744073709551616=_;omega
  have hlt:=Nat.mod_lt (L.at_+L.used) hP2.1;have hw1:IntKind.i64.wrap ((L.at_:Int)+(L.used:Int))=(L.at_:Int)+(L.used:Int):=IntWalk.i64_in _ (by omega);generalize (L.seq+L.txns.length) % 18446744073709551616=NS at *;generalize (L.at_+L.used) % PLN=NP at *;have hw3:IntKind.i64.wrap ((NP:Nat):Int)=(NP:Int):=IntWalk.i64_in _ (by omega);have hP0:¬ (PLN:Int)=0:=(by omega);have hP1:¬ PLN=0:=(by omega);clear h1 hb3 TN TS qR2 k0 k1 k2 k3 k4 k5 k6 k7 k8 hT HR2 B2 hfits;obtain ⟨k0,k1,k2,k3,k4,k5,k6,k7,k8⟩:=HR3.out.c9;go_upto_region 7 with fail
  go_region_held3 (fun w'=>w'.cell? ⟨w.heap.size,0,none⟩=some (.int .i64 g1)/\w'.cell? ⟨w.heap.size,1,none⟩=some (.int .i64 g2)/\w'.cell? ⟨w.heap.size,2,none⟩=some (.int .i64 g3)/\w'.cell? ⟨w.heap.size,3,none⟩=some (.int .i64 1)/\w'.cell? ⟨w.heap.size,4,none⟩=some (.int .i64 g5)/\w'.cell? ⟨w.heap.size,5,none⟩=some (.int .i64 g6)/\w'.cell? ⟨w.heap.size,6,none⟩=some (.int .i64 g7)/\w'.cell? ⟨w.heap.size,7,none⟩=some (.int .i64 g8)/\w'.cell? ⟨w.heap.size,8,none⟩=some (.int .i64 g9))
   (first | exact ⟨k0,k1,k2,k3,k4,k5,k6,k7,k8⟩ | exact ⟨z0,z1,z2,z3,z4,z5,z6,z7,z8⟩ | exact ⟨y0 _,y1 _,y2 _,y3 _,y4 _,y5 _,y6 _,y7 _,y8 _⟩)
   (first | (go_at_call 81;(with_reducible refine (q.out _).mono ?_);rintro e w6 ⟨rfl,hb6'⟩;have hb6:Below w3.heap.size w3 w6:=⟨hb6'.os,hb6'.tape,hb6'.output,hb6'.size,hb6'.block⟩;have R6:=HR3.out.below hb6 HR3.out.lt;obtain ⟨z0,z1,z2,z3,z4,z5,z6,z7,z8⟩:=R6.c9;have y0:=fun o=>(R6.alloc o).cellAt 0 rfl;have y1:=fun o=>(R6.alloc o).cellAt 1 rfl;have y2:=fun o=>(R6.alloc o).cellAt 2 rfl;have y3:=fun o=>(R6.alloc o).cellAt 3 rfl;have y4:=fun o=>(R6.alloc o).cellAt 4 rfl;have y5:=fun o=>(R6.alloc o).cellAt 5 rfl;have y6:=fun o=>(R6.alloc o).cellAt 6 rfl;have y7:=fun o=>(R6.alloc o).cellAt 7 rfl;have y8:=fun o=>(R6.alloc o).cellAt 8 rfl) | fail "none")
  have hL:=Row.new w6 83 [.pointer (some ⟨sb,0,none⟩),.int .i64 g1,.int .i64 g2,.int .i64 g3,.int .i64 1,.int .i64 g5,.int .i64 g6,.int .i64 g7,.int .i64 g8,.int .i64 g9,.int .i64 (NP:Int),.int .u64 (NS:Int),.int .i64 (L.used:Int),.int .i64 0] rfl;have B6:=below_next B3.out hb6;go_wp2_with fail;exact TS1.out _ _ hL B6.size (B6.alloc B6.size _)
end Go.Proofs.YtnpdhidliaahbaaGreat
