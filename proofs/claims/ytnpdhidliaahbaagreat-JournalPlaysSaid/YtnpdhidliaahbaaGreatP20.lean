/- The journal: Format. -/
import Derived.Test.YtnpdhidliaahbaaGreatP18
import Derived.Test.YtnpdhidliaahbaaGreatP13
import Derived.Test.YtnpdhidliaahbaaGreatP19
set_option maxRecDepth 100000
set_option maxHeartbeats 32000000
set_option linter.unusedSimpArgs false
set_option linter.unusedVariables false
namespace Go.Proofs.YtnpdhidliaahbaaGreat
open Go.Lib (hid)
open Go Go.RowKit
theorem infoAct:(Tryz.prog.info? 135).map (fun i=>(i.zero,i.size,i.bytes))=some (some .nilFunc,1,8):=by kernel_rfl
theorem zeros128 (w:World):Calls Tryz.prog 72 #[.string ⟨#[0]⟩,.int .i64 128] w fun e w'=>e=.returned (.string zblock)/\Below w.heap.size w w':=by
 have q:=Tryz.strings_Repeat ⟨#[0]⟩ 128 w (by decide) (by decide);rw [repeat_zero] at q;exact q
theorem ringof_ok {Bd db:Nat} {y:Lay} {D:Dev} (g:Geo.G) (w:World) (hD:DevAt Bd w db y D) (hg:Geo.May g) (hn:(D.kept.length:Int)=g.blocks) :
  Calls Tryz.prog 58 #[.pointer (some ⟨db,0,none⟩),.agg (Geo.cells g)] w fun e w'=>e=.returned (.tuple #[ringV (some ⟨db,0,none⟩) g,.int .i64 0])/\Below w.heap.size w w':=by
 have:=ringof_any g w hD
 rwa [if_pos ⟨hg,hn⟩] at this
theorem ringof_bad {Bd db:Nat} {y:Lay} {D:Dev} (g:Geo.G) (w:World) (hD:DevAt Bd w db y D) (h:¬ (Geo.May g/\(D.kept.length:Int)=g.blocks)) :
  Calls Tryz.prog 58 #[.pointer (some ⟨db,0,none⟩),.agg (Geo.cells g)] w fun e w'=>e=.returned (.tuple #[.agg #[.pointer none,.int .i64 0,.int .i64 0,.int .i64 0,.int .i64 0,.int .i64 0,.int .i64 0,.int .i64 0,.int .i64 0,.int .i64 0],.int .i64 2])/\Below w.heap.size w w':=by
 have:=ringof_any g w hD
 rwa [if_neg h] at this
def ActTold (Bd db:Nat) (y:Lay) (E:Int) (D':Dev) (w:World) (e:Ending) (w':World):Prop:=e=.returned (.int .i64 E)/\DevAt Bd w' db y D'/\Only (devB db y) w w'
theorem format_bad {Bd db:Nat} {y:Lay} {D:Dev} (g:Geo.G) (w:World) (hD:DevAt Bd w db y D) (h:¬ (Geo.May g/\(D.kept.length:Int)=g.blocks)) :
  Calls Tryz.prog 21 #[.pointer (some ⟨db,0,none⟩),.agg (Geo.cells g)] w fun e w'=>ActTold Bd db y 2 D w e w':=by
 have q:=hid (fun wz (hz:Below w.heap.size w wz)=>ringof_bad g wz (hD.below hz) h)
 have HD:=hid hD
 clear hD h
 unfold Geo.cells at *
 obtain ⟨g1,g2,g3,g4,g5,g6,g7,g8,g9⟩:=g
 dsimp only at *
 have R0:=Row.new w 30 [.int .i64 g1,.int .i64 g2,.int .i64 g3,.int .i64 g4,.int .i64 g5,.int .i64 g6,.int .i64 g7,.int .i64 g8,.int .i64 g9] rfl
 have BA:Below w.heap.size w (w.alloc (.cells #[.int .i64 g1,.int .i64 g2,.int .i64 g3,.int .i64 g4,.int .i64 g5,.int .i64 g6,.int .i64 g7,.int .i64 g8,.int .i64 g9] 30)):=(Below.refl w.heap.size w).alloc (Nat.le_refl _) _
 have HBA:=hid BA
 obtain ⟨k0,k1,k2,k3,k4,k5,k6,k7,k8⟩:=R0.c9
 clear R0 BA
 go_enter Tryz.func21,Tryz.ntmps21
 go_wp2_with fail
 generalize w.alloc _=w1 at *
 refine (q.out _ HBA.out).mono ?_
 rintro e w2 ⟨rfl,hb2⟩
 have B2:=hid (below_next HBA.out hb2)
 clear hb2
 go_wp2_with fail
 go_ret
 exact ⟨rfl,HD.out.below (B2.out.alloc B2.out.size _),Only.ofBelow (B2.out.alloc B2.out.size _)⟩
theorem format_ok {Bd db:Nat} {y:Lay} {D:Dev} (g:Geo.G) (w:World) (hD:DevAt Bd w db y D) (hg:Geo.May g) (hn:(D.kept.length:Int)=g.blocks) (ha:D.acts+600 < 1000000000000) :
  Calls Tryz.prog 21 #[.pointer (some ⟨db,0,none⟩),.agg (Geo.cells g)] w fun e w'=>ActTold Bd db y (Jr.doA (Jr.fmtA g) D).2 (Jr.doA (Jr.fmtA g) D).1 w e w':=by
 obtain ⟨i0,hi0,hz0,hz1,hz2⟩:=info_parts infoAct
 have q:=hid (fun wz (hz:Below w.heap.size w wz)=>ringof_ok g wz (hD.below hz) hg hn)
 have qP:=hid (places_any (some ⟨db,0,none⟩) g hg)
 have qB:=hid (fun n hn wz=>ringblock_any (some ⟨db,0,none⟩) g hg n hn wz)
 have qW:=hid (fun wz b=>ringwrite_any db g b zblock (by rw [zblock_size];decide) wz)
 have qH:=hid (fun wz=>begin_any db g hg 0 1 (by decide) (by decide) wz)
 obtain ⟨hp1,hp2,-⟩:=Jr.plc_of hg
 have hlog:=hg.ok.2.1
 have hdb:=hD.bounds
 have hfl:(Jr.fmtA g).length=Jr.plc g+3:=by
  unfold Jr.fmtA;rw [List.length_append,show ∀ bs p,(Jr.ringW g p bs).length=bs.length from fun bs=>by
   induction bs with
   | nil=>intro p;rfl
   | cons s bs ih=>intro p;show (Jr.ringW g (p+1) bs).length+1=_;rw [ih];rfl,List.length_replicate]
  rfl
 have qD:=hid (fun (wz:World) (v:Value) (hz:Below w.heap.size w wz) (hl:ActsAt w.heap.size db wz v (Jr.fmtA g))=>do_any (hD.below hz) w.heap.size (by simp [devB];omega) v _ hl (by omega) (by omega))
 have HD:=hid hD
 have HF:Hid (Jr.fmtA g=Jr.ringW g 0 (List.replicate (Jr.plc g) zblock) ++ Jr.headA 0 1):=hid rfl
 have hmod:0 % Jr.plc g=0:=Nat.zero_mod _
 rw [hmod] at qH
 have HSN:Hid (∀ i,Jr.ringW g 0 (List.replicate (i+1) zblock)=Jr.ringW g 0 (List.replicate i zblock) ++ [.write ((Jr.pb g i:Nat):Int) zblock]):=hid (fun i=>by
  rw [List.replicate_succ',Jr.ringW_append,List.length_replicate,Nat.zero_add];rfl)
 have HLN:Hid (∀ i,(Jr.ringW g 0 (List.replicate i zblock)).length=i):=hid (fun i=>by
  induction i with
  | zero=>rfl
  | succ i ih=>rw [HSN.out,List.length_append,ih];rfl)
 have h00:Jr.ringW g 0 (List.replicate 0 zblock) = []:=rfl
 have H00:=hid h00
 clear hD hn hfl ha hdb hmod hg h00
 have HANE:Hid (Jr.headA 0 1 ≠ []):=hid (by unfold Jr.headA;simp)
 have HAL:Hid ((Jr.headA 0 1).length=3):=hid rfl
 generalize Jr.fmtA g=FA at *
 generalize Jr.headA 0 1=HA at *
 generalize Jr.ringW g 0=RW at *
 generalize Jr.pb g=PB at *
 generalize Jr.plc g=PL at *
 unfold ringV Geo.cells at *
 obtain ⟨g1,g2,g3,g4,g5,g6,g7,g8,g9⟩:=g
 dsimp only at *
 subst hlog
 have R0:=Row.new w 30 [.int .i64 g1,.int .i64 g2,.int .i64 g3,.int .i64 1,.int .i64 g5,.int .i64 g6,.int .i64 g7,.int .i64 g8,.int .i64 g9] rfl
 have BA:Below w.heap.size w (w.alloc (.cells #[.int .i64 g1,.int .i64 g2,.int .i64 g3,.int .i64 1,.int .i64 g5,.int .i64 g6,.int .i64 g7,.int .i64 g8,.int .i64 g9] 30)):=(Below.refl w.heap.size w).alloc (Nat.le_refl _) _
 have HBA:=hid BA
 obtain ⟨k0,k1,k2,k3,k4,k5,k6,k7,k8⟩:=R0.c9
 clear R0 BA
 go_enter Tryz.func21,Tryz.ntmps21
 go_wp2_with fail
 generalize w.alloc _=w1 at *
 refine (q.out _ HBA.out).mono ?_
 rintro e w2 ⟨rfl,hb2⟩
 have B2:=hid (below_next HBA.out hb2)
 clear hb2 q HBA k0 k1 k2 k3 k4 k5 k6 k7 k8
 have R2:=hid (Row.new w2 34 [.pointer (some ⟨db,0,none⟩),.int .i64 g1,.int .i64 g2,.int .i64 g3,.int .i64 1,.int .i64 g5,.int .i64 g6,.int .i64 g7,.int .i64 g8,.int .i64 g9] rfl)
 have B3:=hid (below_box B2.out (.cells #[.pointer (some ⟨db,0,none⟩),.int .i64 g1,.int .i64 g2,.int .i64 g3,.int .i64 1,.int .i64 g5,.int .i64 g6,.int .i64 g7,.int .i64 g8,.int .i64 g9] 34))
 have hs2:=B2.out.size
 obtain ⟨r0,r1,r2,r3,r4,r5,r6,r7,r8,r9⟩:=R2.out.c10
 go_upto_region 5 with fail
 generalize w2.alloc _=w3 at *
 go_wp2_with fail
 refine (qP.out _).mono ?_
 rintro e w4 ⟨rfl,hb4⟩
 have R4:=hid (R2.out.below hb4 R2.out.lt)
 have B4:=hid (below_next B3.out hb4)
 clear hb4 R2 B3 qP r0 r1 r2 r3 r4 r5 r6 r7 r8 r9
 go_wp2_with fail
 go_loopw [7,8,20] (fun t7 t8 t20 wr=>∃ (i:Nat),i<=PL/\t20=.int .i64 (i:Int)/\Hid (OwnActs w.heap.size db wr t7 (RW (List.replicate i zblock)))/\Hid (Row wr w2.heap.size 34 [.pointer (some ⟨db,0,none⟩),.int .i64 g1,.int .i64 g2,.int .i64 g3,.int .i64 1,.int .i64 g5,.int .i64 g6,.int .i64 g7,.int .i64 g8,.int .i64 g9])/\Hid (Below w.heap.size w wr)) (fun _ _ t20 _=>PL - (intOf t20).toNat)
 case atStart=>exact ⟨0,Nat.zero_le _,rfl,hid (by rw [H00.out];exact OwnActs.nil _ _ _),R4,B4⟩
 case round =>
  obtain ⟨i,hi,rfl,hO,hR,hB⟩:=hrel;by_cases hlt:i < PL
  ·have i0':(0:Int)<=(i:Int):=(by omega);have i1':(i:Int) < (PL:Int):=(by omega);obtain ⟨h0,xs,hown,hxa⟩:=hO.out;rw [HLN.out] at hown;have hxl:xs.length=i:=(by have:=hown.1;omega);obtain ⟨av,cv,rfl⟩:=own_form hown;have HOW:=hid hown;have HXA:=hid hxa;have H0:=hid h0;have HXL:=hid hxl;clear hown hxa h0 hxl hO;have KEEP:Hid (∀ wz,Below wr.heap.size wr wz->wz.cell? ⟨w2.heap.size,0,none⟩=some (.pointer (some ⟨db,0,none⟩))/\wz.cell? ⟨w2.heap.size,1,none⟩=some (.int .i64 g1)/\wz.cell? ⟨w2.heap.size,2,none⟩=some (.int .i64 g2)/\wz.cell? ⟨w2.heap.size,3,none⟩=some (.int .i64 g3)/\wz.cell? ⟨w2.heap.size,4,none⟩=some (.int .i64 1)/\wz.cell? ⟨w2.heap.size,5,none⟩=some (.int .i64 g5)/\wz.cell? ⟨w2.heap.size,6,none⟩=some (.int .i64 g6)/\wz.cell? ⟨w2.heap.size,7,none⟩=some (.int .i64 g7)/\wz.cell? ⟨w2.heap.size,8,none⟩=some (.int .i64 g8)/\wz.cell? ⟨w2.heap.size,9,none⟩=some (.int .i64 g9)):=hid (fun wz hz=>by
    have R:=hR.out.below hz hR.out.lt;exact ⟨R.cellAt 0 rfl,R.cellAt 1 rfl,R.cellAt 2 rfl,R.cellAt 3 rfl,R.cellAt 4 rfl,R.cellAt 5 rfl,R.cellAt 6 rfl,R.cellAt 7 rfl,R.cellAt 8 rfl,R.cellAt 9 rfl⟩)
   have s0:Below wr.heap.size wr wr.drew:=(Below.refl _ _).drew;have qB1:=hid (fun wz (hz:Below wr.heap.size wr wz)=>qB.out i (by omega) wz);have qZ1:=hid (fun wz (hz:Below wr.heap.size wr wz)=>zeros128 wz);have qW1:=hid (fun wz (hz:Below wr.heap.size wr wz)=>qW.out wz ((PB i:Nat):Int));go_wp2_with fail
   go_region_held3 (fun w'=>w'.cell? ⟨w2.heap.size,0,none⟩=some (.pointer (some ⟨db,0,none⟩))/\w'.cell? ⟨w2.heap.size,1,none⟩=some (.int .i64 g1)/\w'.cell? ⟨w2.heap.size,2,none⟩=some (.int .i64 g2)/\w'.cell? ⟨w2.heap.size,3,none⟩=some (.int .i64 g3)/\w'.cell? ⟨w2.heap.size,4,none⟩=some (.int .i64 1)/\w'.cell? ⟨w2.heap.size,5,none⟩=some (.int .i64 g5)/\w'.cell? ⟨w2.heap.size,6,none⟩=some (.int .i64 g6)/\w'.cell? ⟨w2.heap.size,7,none⟩=some (.int .i64 g7)/\w'.cell? ⟨w2.heap.size,8,none⟩=some (.int .i64 g8)/\w'.cell? ⟨w2.heap.size,9,none⟩=some (.int .i64 g9))
    (first | (refine KEEP.out _ ?_;assumption) | (refine KEEP.out _ (below_box ?_ _);assumption) | exact ⟨R5.cellAt 0 rfl,R5.cellAt 1 rfl,R5.cellAt 2 rfl,R5.cellAt 3 rfl,R5.cellAt 4 rfl,R5.cellAt 5 rfl,R5.cellAt 6 rfl,R5.cellAt 7 rfl,R5.cellAt 8 rfl,R5.cellAt 9 rfl⟩)
    (first | (go_at_call 71;first | ((with_reducible refine (qB1.out _ s0).mono ?_);rintro e wa ⟨rfl,ba⟩;have sa:Below wr.heap.size wr wa:=below_next s0 ba) | ((with_reducible refine (qB1.out _ sb).mono ?_);rintro e wa ⟨rfl,ba⟩;have sa:Below wr.heap.size wr wa:=below_next sb ba)) | (go_at_call 72;first | ((with_reducible refine (qZ1.out _ s0).mono ?_);rintro e wb ⟨rfl,bb⟩;have sb:Below wr.heap.size wr wb:=below_next s0 bb) | ((with_reducible refine (qZ1.out _ sa).mono ?_);rintro e wb ⟨rfl,bb⟩;have sb:Below wr.heap.size wr wb:=below_next sa bb)) | (go_at_call 63;first | ((with_reducible refine (qW1.out _ sb).mono ?_);rintro e wc ⟨u,rfl,hu,bc⟩;have hu2:=hu;obtain ⟨x1,x2,x3,rfl,-⟩:=hu2;have sc:Below wr.heap.size wr wc:=below_next sb bc;have G:=hid (own_new1 (own_below HOW.out sc) (.cells #[.func (.func 102) #[] #[.pointer (some ⟨x1,0,none⟩),.pointer (some ⟨x2,0,none⟩),.pointer (some ⟨x3,0,none⟩)]] 135));have NN:=hid (box1 wc (.func (.func 102) #[] #[.pointer (some ⟨x1,0,none⟩),.pointer (some ⟨x2,0,none⟩),.pointer (some ⟨x3,0,none⟩)]) 135);have H1:=act_one hu;have HU:=hid hu;have hsz:w.heap.size<=(wc.alloc (.cells #[.func (.func 102) #[] #[.pointer (some ⟨x1,0,none⟩),.pointer (some ⟨x2,0,none⟩),.pointer (some ⟨x3,0,none⟩)]] 135)).heap.size:=by have h1:=sc.size;have h2:=hB.out.size;simp;omega) | ((with_reducible refine (qW1.out _ sa).mono ?_);rintro e wc ⟨u,rfl,hu,bc⟩;have hu2:=hu;obtain ⟨x1,x2,x3,rfl,-⟩:=hu2;have sc:Below wr.heap.size wr wc:=below_next sa bc;have G:=hid (own_new1 (own_below HOW.out sc) (.cells #[.func (.func 102) #[] #[.pointer (some ⟨x1,0,none⟩),.pointer (some ⟨x2,0,none⟩),.pointer (some ⟨x3,0,none⟩)]] 135));have NN:=hid (box1 wc (.func (.func 102) #[] #[.pointer (some ⟨x1,0,none⟩),.pointer (some ⟨x2,0,none⟩),.pointer (some ⟨x3,0,none⟩)]) 135);have H1:=act_one hu;have HU:=hid hu;have hsz:w.heap.size<=(wc.alloc (.cells #[.func (.func 102) #[] #[.pointer (some ⟨x1,0,none⟩),.pointer (some ⟨x2,0,none⟩),.pointer (some ⟨x3,0,none⟩)]] 135)).heap.size:=by have h1:=sc.size;have h2:=hB.out.size;simp;omega)) | (refine step_append_lies _ rfl (.tmp 23) (.tmp 30) 128 rfl w.heap.size 135 i0 .nilFunc 1 8 Tryz.underlying128 hi0 hz0 hz1 hz2 rfl (by decide) (.slice av i cv) i xs (by simp [Act.eval,Act.put];done) G.out ⟨wc.heap.size,0,none⟩ 1 1 [.func (.func 102) #[] #[.pointer (some ⟨x1,0,none⟩),.pointer (some ⟨x2,0,none⟩),.pointer (some ⟨x3,0,none⟩)]] (by simp [Act.eval,Act.put];done) rfl NN.out H1 (by decide) (by unfold maxLen;omega) (by omega) hsz _ rfl ?_;intro gq c5 w5 hown hgrow hat hlt5;have R5:=row_grownR ((hR.out.below sc hR.out.lt).alloc _) G.out hgrow (by decide)) | fail "none")
   all_goals
    have hbs:=hB.out.size;have P5:=hid (OwnActs.push (HLN.out i) H0.out HOW.out HXA.out sc HU.out (by have:=sa.size;have:=sb.size;omega) hgrow hown);have B5:=hid (((hB.out.trans (sc.mono hB.out.size)).alloc (Nat.le_trans hB.out.size sc.size) _).grown hgrow hsz (fun k hk=>(World.ownsRow.lt G.out k hk).1));have HR5:=hid R5;clear hown hgrow hat hlt5 R5 G NN H1 HU hu sa sb sc ba bb bc KEEP qB1 qZ1 qW1 s0 hR hB HOW HXA H0 HXL;go_wp2_with fail;go_roundw;case rel=>exact ⟨i+1,by omega,by go_num,hid (by rw [HSN.out];exact P5.out),HR5,B5⟩
    case measure=>simp [intOf];omega
  obtain rfl:i=PL:=(by omega);obtain ⟨h0,xs,hown,hxa⟩:=hO.out;rw [HLN.out] at hown;obtain ⟨av,cv,rfl⟩:=own_form hown;have HOW:=hid hown;have HXA:=hid hxa;have H0:=hid h0;have hbs:=hB.out.size;have R:=hR.out;obtain ⟨r0,r1,r2,r3,r4,r5,r6,r7,r8,r9⟩:=R.c10;clear hown hxa h0 hO R;go_wp2_with fail;refine (qH.out _).mono ?_;rintro e wa ⟨v2,rfl,ha2,ba⟩;obtain ⟨ad2,cap2,rfl⟩:=ha2.form;obtain ⟨gb,off,rfl,hnl2,news,hnl,hnn,hna,hn1⟩:=ha2.vals HANE.out;have hl3:=HAL.out;have O2:=hid (own_below HOW.out ba);have HNN:=hid hnn;have HNL:=hid (show news.length=HA.length * 1 by omega);have HNA:=hid hna;have BA2:=hid (hB.out.trans (ba.mono hB.out.size));have hbs2:w.heap.size<=wa.heap.size:=BA2.out.size;have HBS:=hid hbs;have hH0:0 < HA.length:=(by omega);have HXB:=hid (fun (j:Nat) (a:Jr.Act) (h:(RW (List.replicate i zblock))[j]?=some a)=>by
   obtain ⟨u,hu,hx⟩:=HXA.out j a h;exact (⟨u,hu,hx.above (Above.ofBelow ba)⟩:∃ u:Value,xs[j]?=some u/\ActAt w.heap.size db wa u a))
  clear ha2 hnl2 hnl hnn hna hR hB ba HOW HXA r0 r1 r2 r3 r4 r5 r6 r7 r8 r9;have hl4:i+HA.length<=1000:=by omega
  have HL3:=hid hl3;clear hl3;go_wp2_with (first | (at_builtin;go_loud (refine wpList_append_own _ rfl (.tmp 33) (.tmp 35) 128 rfl w.heap.size 135 i0 .nilFunc 1 8 Tryz.underlying128 hi0 hz0 hz1 hz2 rfl (by decide) _ i _ rfl O2.out ⟨gb,off,none⟩ HA.length cap2 news rfl HNL.out HNN.out hn1 (by unfold maxLen;omega) (by omega) hbs2 ?_;intro v5 w5 hown hgrow _)) | fail "none");have hA5:=OwnActs.grow (l:=RW (List.replicate i zblock)) (r:=HA) H0.out (by rw [HLN.out];exact O2.out) HXB.out (by rw [HLN.out];have:=O2.out.1;omega) (fun j a h=>by obtain ⟨u,h1,h2⟩:=HNA.out j a h;exact ⟨u,h1,h2.mono HBS.out⟩) HANE.out hgrow (by rw [HLN.out];exact hown);rw [<- HF.out] at hA5;have B5:=BA2.out.grown hgrow hbs2 (fun k hk=>(World.ownsRow.lt O2.out k hk).1);have qD5:=hid (qD.out _ _ B5 hA5.at);have HB5:=hid B5;clear hown hgrow O2 hA5 B5 qD;go_wp2_with fail;refine qD5.out.mono ?_;rintro e w6 ⟨rfl,h1,h2⟩;go_wp2_with fail;go_ret;exact ⟨rfl,h1,(Only.ofBelow HB5.out).trans h2⟩
end Go.Proofs.YtnpdhidliaahbaaGreat
