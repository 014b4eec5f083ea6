/- The document's journal: Replay. -/
import Derived.Test.YtnpdhidliaahbaaGreatP54
import Derived.Test.YtnpdhidliaahbaaGreatP20
set_option maxRecDepth 100000
set_option maxHeartbeats 32000000
set_option linter.unusedSimpArgs false
set_option linter.unusedVariables false
namespace Go.Proofs.YtnpdhidliaahbaaGreat
open Go.Lib (hid)
open Go Go.RowKit
def RReplayTold (Bd sb:Nat) (z:RLay) (g:Geo.G) (D:Dev) (RES:Option Jr.Log) (w:World) (e:Ending) (w':World):Prop:=
 (RES=none/\e=.returned (.tuple #[.slice none 0 0,.int .i64 80])/\RefAt Bd w' sb z D/\Only (refB sb z) w w') ∨
 (∃ L,RES=some L/\L.txns = []/\e=.returned (.tuple #[.slice none 0 0,.int .i64 0])/\RefAt Bd w' sb z D/\Only (refB sb z) w w') ∨
 (∃ L,RES=some L/\L.txns ≠ []/\(Jr.doA (Jr.replayA g L.txns (L.place g) L.next) D).2 ≠ 0/\e=.returned (.tuple #[.slice none 0 0,.int .i64 (Jr.doA (Jr.replayA g L.txns (L.place g) L.next) D).2])/\RefAt Bd w' sb z (Jr.doA (Jr.replayA g L.txns (L.place g) L.next) D).1/\Only (refB sb z) w w') ∨
 (∃ L v,RES=some L/\L.txns ≠ []/\(Jr.doA (Jr.replayA g L.txns (L.place g) L.next) D).2=0/\e=.returned (.tuple #[v,.int .i64 0])/\OwnT w.heap.size w' v L.txns/\RefAt Bd w' sb z (Jr.doA (Jr.replayA g L.txns (L.place g) L.next) D).1/\Only (refB sb z) w w')
theorem rreplay_ok {Bd sb:Nat} {z:RLay} {D:Dev} (g:Geo.G) (hg:Geo.May g) (w:World) (hD:RefAt Bd w sb z D) (hn:(D.kept.length:Int)=g.blocks) (hsz:sized D.now) (hlen:D.now.length=D.kept.length) (ha:D.acts+6000 < 1000000000000) :
  Calls Tryz.prog 32 #[.pointer (some ⟨sb,0,none⟩),.agg (Geo.cells g)] w fun e w'=>RReplayTold Bd sb z g D (Jr.readL g D.now) w e w':=by
 obtain ⟨RES,hRES⟩:∃ RES,Jr.readL g D.now=RES:=⟨_,rfl⟩
 rw [hRES]
 have hfits:Hid (∀ L,RES=some L->(∀ t ∈ L.txns,t.ch.length<=1000000/\t.rv.length<=1000000)/\(∀ t ∈ L.txns,Fits (Geo.home g) t)/\L.used<=Jr.plc g/\L.at_ < Jr.plc g/\L.seq < 2 ^ 64/\L.txns.length<=L.used):=hid (fun L h=>by
  obtain ⟨h1,-,-,h2⟩:=readL_fits hg hsz (by omega) (hRES.trans h);exact ⟨fun t ht=>⟨by have:=(h1 t ht).2.1;omega,by have:=(h1 t ht).2.2;omega⟩,fun t ht=>(h1 t ht).1,h2⟩)
 have qF:Hid (∀ wz,Below w.heap.size w wz->Calls Tryz.prog 80 #[.pointer (some ⟨sb,0,none⟩),.agg (Geo.cells g)] wz fun e w'=>e=.returned (.int .i64 0)/\Below wz.heap.size wz w'):=hid (fun wz hz=>by
  have:=rrefuses_may g hg wz (hD.below hz);rwa [if_pos hn] at this)
 have qR:=hid (fun wz (hz:Below w.heap.size w wz)=>rread_log g hg wz (hD.below hz) hn hsz hlen)
 rw [hRES] at qR
 have q:=hid (rplaces_any g hg)
 have hpl:=(Jr.plc_of hg)
 have hlog:=hg.ok.2.1
 have hb0:=hg.ok.1
 unfold Geo.asked at hb0
 obtain ⟨nb,hnb⟩:∃ nb:Nat,g.blocks=(nb:Int):=⟨g.blocks.toNat,by omega⟩
 have qC:=hid (fun v l wz hT h1 h2=>rcomes_any g nb hnb (by omega) v l wz hT h1 h2)
 have qH:=hid (fun place seq (h1:place<=510) (h2:seq < 2 ^ 64) wz D' (h3:RefAt Bd wz sb z D') (h4:D'.acts+10 < 1000000000000)=>rheader_any g hg place seq h1 h2 wz h3 h4)
 have hlt0:=hid hD.refB_lt
 have HD:=hid hD
 have HA:=hid ha
 have TN:Hid (∀ w',RES=none->Below w.heap.size w w'->RReplayTold Bd sb z g D RES w (.returned (.tuple #[.slice none 0 0,.int .i64 80])) w'):=hid (fun w' h hb=>.inl ⟨h,rfl,HD.out.below hb,Only.ofBelow hb⟩)
 have T0:Hid (∀ w' L,RES=some L->L.txns = []->Below w.heap.size w w'->RReplayTold Bd sb z g D RES w (.returned (.tuple #[.slice none 0 0,.int .i64 0])) w'):=hid (fun w' L h h2 hb=>.inr (.inl ⟨L,h,h2,rfl,HD.out.below hb,Only.ofBelow hb⟩))
 have TE:Hid (∀ w' L (E:Int),RES=some L->L.txns ≠ []->E ≠ 0->(Jr.doA (Jr.replayA g L.txns (L.place g) L.next) D).2=E->RefAt Bd w' sb z (Jr.doA (Jr.replayA g L.txns (L.place g) L.next) D).1->Only (refB sb z) w w'->RReplayTold Bd sb z g D RES w (.returned (.tuple #[.slice none 0 0,.int .i64 E])) w'):=hid (fun w' L E h h2 h3 h4 h5 h6=>.inr (.inr (.inl ⟨L,h,h2,by rw [h4];exact h3,by rw [h4],h5,h6⟩)))
 have TS:Hid (∀ w' L v,RES=some L->L.txns ≠ []->(Jr.doA (Jr.replayA g L.txns (L.place g) L.next) D).2=0->OwnT w.heap.size w' v L.txns->RefAt Bd w' sb z (Jr.doA (Jr.replayA g L.txns (L.place g) L.next) D).1->Only (refB sb z) w w'->RReplayTold Bd sb z g D RES w (.returned (.tuple #[v,.int .i64 0])) w'):=hid (fun w' L v h h2 h3 h4 h5 h6=>.inr (.inr (.inr ⟨L,v,h,h2,h3,rfl,h4,h5,h6⟩)))
 unfold Jr.replayA at TE TS
 rw [hnb,show ((nb:Int)).toNat=nb from rfl] at TE TS
 unfold Jr.Log.place Jr.Log.next at TE TS
 generalize RReplayTold Bd sb z g D RES w=P at *
 obtain ⟨PLN,hPL⟩:∃ PLN,Jr.plc g=PLN:=⟨_,rfl⟩
 rw [hPL] at hfits q TE TS hpl
 have hP2:0 < PLN/\PLN<=511:=by omega
 have hnb2:nb<=4096:=by omega
 have hdsz:=hid (fun l=>Jr.comes_length nb l)
 have hsmall:Hid (∀ l,(∀ t ∈ l,Fits (Geo.home g) t)->∀ c ∈ Jr.comes nb l,c.2.size<=9223372036854775807):=hid (fun l hl c hc=>comes_size hl hc)
 clear hRES hD hn hsz hlen hg hPL hpl ha hb0
 obtain ⟨G,hG⟩:∃ G,G=g:=⟨_,rfl⟩
 rw [<- hG] at hfits hsmall
 clear hG hnb
 unfold Geo.cells at *
 obtain ⟨g1,g2,g3,g4,g5,g6,g7,g8,g9⟩:=g
 dsimp only at *
 subst hlog
 have R0:=Row.new w 30 [.int .i64 g1,.int .i64 g2,.int .i64 g3,.int .i64 1,.int .i64 g5,.int .i64 g6,.int .i64 g7,.int .i64 g8,.int .i64 g9] rfl
 have HR0:=hid R0
 have BA:=hid ((Below.refl w.heap.size w).alloc (Nat.le_refl _) (.cells #[.int .i64 g1,.int .i64 g2,.int .i64 g3,.int .i64 1,.int .i64 g5,.int .i64 g6,.int .i64 g7,.int .i64 g8,.int .i64 g9] 30))
 obtain ⟨k0,k1,k2,k3,k4,k5,k6,k7,k8⟩:=R0.c9
 clear R0
 go_enter Tryz.func32,Tryz.ntmps32
 go_wp2_with fail
 generalize w.alloc _=w1 at *
 (with_reducible refine (qF.out _ BA.out).mono ?_)
 rintro e w2 ⟨rfl,hb2⟩
 have B2:=hid (below_next BA.out hb2)
 have HR2:=hid (HR0.out.below hb2 HR0.out.lt)
 clear hb2 k0 k1 k2 k3 k4 k5 k6 k7 k8 HR0 BA qF
 obtain ⟨k0,k1,k2,k3,k4,k5,k6,k7,k8⟩:=HR2.out.c9
 have qR2:=hid (qR.out _ B2.out)
 clear qR
 go_wp2_with fail
 (with_reducible refine qR2.out.mono ?_)
 rintro e w3 (⟨h1,rfl,hb3⟩ | ⟨L,v,h1,rfl,hb3,hT⟩)
 ·have TN1:=hid (TN.out _ h1 (below_next B2.out hb3));clear h1 hb3 TN T0 TE TS qR2 k0 k1 k2 k3 k4 k5 k6 k7 k8;go_wp2_with fail;exact TN1.out
 obtain ⟨av,cvp,rfl⟩:∃ ad cp,v=.slice ad L.txns.length cp:=by
  obtain ⟨_,h,_⟩:=hT;obtain ⟨ad,cp,h,_⟩:=own_opens h;exact ⟨ad,cp,h⟩
 obtain ⟨f0,f0',f1,f2,f3,f4⟩:=hfits.out L h1
 have B3:=hid (below_next B2.out hb3)
 have HR3:=hid (HR2.out.below hb3 HR2.out.lt)
 have T3:=hid (hT.mono B2.out.size)
 clear hb3 TN qR2 k0 k1 k2 k3 k4 k5 k6 k7 k8 hT HR2 B2 hfits
 by_cases hz:L.txns = []
 ·have T01:=hid (fun w' hb=>T0.out w' L h1 hz hb);have hz0:L.txns.length=0:=(by rw [hz];rfl);rw [hz0];clear hz h1 hz0 T0 TE TS f4;go_wp2_with fail;exact T01.out _ B3.out
 have hlp:0 < L.txns.length:=List.length_pos_iff.2 hz
 have hlz:((L.txns.length:Int) == 0)=false:=by rw [beq_eq_false_iff_ne];omega
 have TE1:=hid (fun w' E h3 h4 h5 h6=>TE.out w' L E h1 hz h3 h4 h5 h6)
 have TS1:=hid (fun w' v h3 h4 h5 h6=>TS.out w' L v h1 hz h3 h4 h5 h6)
 have hcs:=hid (hsmall.out L.txns f0')
 have qC3:=hid (qC.out (.slice av L.txns.length cvp) L.txns w3 T3.out.at (by omega) f0)
 have hCl:=hid (hdsz.out L.txns)
 have hmod:((L.at_:Int)+(L.used:Int)).tmod (PLN:Int)=(((L.at_+L.used) % PLN:Nat):Int):=by rw [Int.tmod_eq_emod_of_nonneg (by omega)];simp
 have hmod2:((L.at_:Int)+(L.used:Int)) % (PLN:Int)=(((L.at_+L.used) % PLN:Nat):Int):=by simp
 have hwl:IntKind.u64.wrap (L.txns.length:Int)=(L.txns.length:Int):=u64_wrap_lo (by omega) (by omega)
 have hws:IntKind.u64.wrap ((L.seq:Int)+(L.txns.length:Int))=(((L.seq+L.txns.length) % 18446744073709551616:Nat):Int):=by
  simp only [IntKind.wrap,IntKind.bits,IntKind.signed];show ((L.seq:Int)+(L.txns.length:Int)) % 18446744073709551616=_;omega
 have hlt:=Nat.mod_lt (L.at_+L.used) hP2.1
 have hNS:(L.seq+L.txns.length) % 18446744073709551616 < 2 ^ 64:=Nat.mod_lt _ (by decide)
 have hw1:IntKind.i64.wrap ((L.at_:Int)+(L.used:Int))=(L.at_:Int)+(L.used:Int):=IntWalk.i64_in _ (by omega)
 generalize (L.seq+L.txns.length) % 18446744073709551616=NS at *
 generalize (L.at_+L.used) % PLN=NP at *
 have hw3:IntKind.i64.wrap ((NP:Nat):Int)=(NP:Int):=IntWalk.i64_in _ (by omega)
 have hP0:¬ (PLN:Int)=0:=by omega
 have hP1:¬ PLN=0:=by omega
 generalize Jr.comes nb L.txns=C at *
 clear f0 f0' h1 hz T0 TE TS qC hsmall hdsz
 obtain ⟨k0,k1,k2,k3,k4,k5,k6,k7,k8⟩:=HR3.out.c9
 have hC4:=hCl.out
 go_wp2_with fail
 (with_reducible refine qC3.out.mono ?_)
 rintro e w4 ⟨v4,rfl,hO,hb4⟩
 obtain ⟨ac,cc,rfl⟩:=OwnC.slice hO
 have HO:=hid (World.ownsRow.mono hO (show w.heap.size<=w3.heap.size from B3.out.size))
 have B4:=hid (below_next B3.out hb4)
 have HR4:=hid (HR3.out.below hb4 HR3.out.lt)
 have T4:=hid (T3.out.below hb4)
 have hD4:=hid (HD.out.below B4.out)
 have hlt4:Hid (∀ k ∈ refB sb z,k < w.heap.size):=hlt0
 clear hO hb4 HR3 T3 B3 qC3 k0 k1 k2 k3 k4 k5 k6 k7 k8
 go_wp2_with fail
 go_loopw [13] (fun q wr=>∃ (i:Nat),i<=C.length/\q=.int .i64 i/\Hid ((Jr.doA ((C.map Jr.wr).take i) D).2=0)/\Hid (RefAt Bd wr sb z (Jr.doA ((C.map Jr.wr).take i) D).1)/\Hid (Only (refB sb z) w4 wr)) (fun q _=>C.length - (intOf q).toNat)
 case atStart=>exact ⟨0,Nat.zero_le _,rfl,hid (by rw [List.take_zero];rfl),hid (by rw [List.take_zero];exact hD4.out),hid (Only.refl _ _)⟩
 case round =>
  clear hD4;obtain ⟨i,hi,rfl,h0,hDr,hOr⟩:=hrel;have HOr:=hid (show OwnC w.heap.size wr (.slice ac C.length cc) C from own_onlyB HO.out hOr.out hlt4.out);have hGn:Hid (w.heap.size ∉ refB sb z):=hid (fun hk=>absurd (hlt4.out _ hk) (Nat.lt_irrefl _));have HRr:=hid (hOr.out.row HR4.out hGn.out);have Ow:=hid ((Only.ofBelow (S:=refB sb z) B4.out).trans hOr.out);by_cases hlt2:i < C.length
  ·have j0:(0:Int)<=(i:Int):=(by omega);have j1:(i:Int) < (C.length:Int):=(by omega);obtain ⟨gc,ch2,eh⟩:=own_some HOr.out (show 0 < C.length by omega);cases eh;obtain ⟨c,hc⟩:∃ c,C[i]?=some c:=⟨_,List.getElem?_eq_getElem hlt2⟩;have hck:=hid (hcs.out c (List.mem_of_getElem? hc));obtain ⟨gx,ox,ex,cC0,cC1⟩:=(OwnC.at HOr.out).cells hc;cases ex;rw [Nat.zero_add] at cC0 cC1;have hact:(C.map Jr.wr)[i]?=some (Jr.wr c):=(by rw [List.getElem?_map,hc];rfl);have hstep:=hid (Jr.doA_take (D:=D) hact h0.out);have hacts:=(Jr.doA_acts ((C.map Jr.wr).take i) D).1;have hlen3:((C.map Jr.wr).take i).length<=4096:=(by rw [List.length_take,List.length_map];omega);have hA2:(Jr.doA ((C.map Jr.wr).take i) D).1.acts < 1000000000000:=(by have:=HA.out;omega);have hstop:=hid (fun h=>Jr.doA_stop (l:=C.map Jr.wr ++ Jr.headA NP NS) (D:=D) (i:=i+1) h);have htk:(C.map Jr.wr ++ Jr.headA NP NS).take (i+1)=(C.map Jr.wr).take (i+1):=(by rw [List.take_append_of_le_length (by rw [List.length_map];omega)]);rw [htk] at hstop;have qW:=hid (rwrite_told (hDr.out.below (Below.refl _ _).drew) c.1 c.2 hck.out hA2);clear hc hact hacts hlen3 hA2 htk hck;obtain ⟨cb,cs⟩:=c;dsimp only at *;have hrun:Hid ((Jr.wr (cb,cs)).run (Jr.doA ((C.map Jr.wr).take i) D).1=((Jr.doA ((C.map Jr.wr).take i) D).1.write cb cs,(Jr.doA ((C.map Jr.wr).take i) D).1.writeE cb cs)):=hid rfl;rw [hrun.out] at hstep;generalize (Jr.doA ((C.map Jr.wr).take i) D).1.writeE cb cs=W at *;generalize (Jr.doA ((C.map Jr.wr).take i) D).1.write cb cs=D8 at *;obtain ⟨D9,hD9e⟩:∃ D9,Jr.doA ((C.map Jr.wr).take (i+1)) D=D9:=⟨_,rfl⟩;rw [hD9e] at hstep hstop;have H9:=hid hD9e;clear hD9e;go_upto_region 13 with fail
   refine wp_region_E (S:=fun w'=>w'.cell? ⟨gc,i * 2,none⟩=some (.int .i64 cb)/\w'.cell? ⟨gc,i * 2+1,none⟩=some (.string cs)) (E:=[11,12]) (by kernel_rfl) ⟨cC0,cC1⟩ (fun hHeld hCl=>?_);refine tk6 hCl hHeld 0 (.pointer (some ⟨sb,0,none⟩)) 1 (.slice (some ⟨gc,0,none⟩) C.length cc) 2 (.int .i64 (i:Int)) 3 (.pointer (some ⟨gc,i * 2,none⟩)) 4 (.pointer (some ⟨gc,i * 2,none⟩)) 5 (.int .i64 cb) fun hCl=>?_;(try simp only [lL,Act.put]);refine tk5 hCl hHeld 6 (.slice (some ⟨gc,0,none⟩) C.length cc) 7 (.int .i64 (i:Int)) 8 (.pointer (some ⟨gc,i * 2,none⟩)) 9 (.pointer (some ⟨gc,i * 2+1,none⟩)) 10 (.string cs) fun hCl=>?_;(try simp only [lL,Act.put]);refine rd1 11 fun K hK=>?_;go_simp;go_at_call 54;(with_reducible refine qW.out.mono ?_);rintro e w8 ⟨rfl,hD8,ho8⟩;refine hK.out _ _ (fun h=>by cases h) (fun _=>?_);clear hK K;(try simp only [lL,Act.put]);refine rd1 12 fun K hK=>?_;go_simp;refine hK.out _ _ (fun h=>by cases h) (fun _=>?_);clear hK K;(try simp only [lL,Act.put]);refine wpAnyE_done (by kernel_rfl) ?_ _;have hD9:=hid hD8;have ho9:=hid (show Only (refB sb z) wr w8 from (Only.ofBelow (Below.refl _ _).drew).trans ho8);clear hD8 ho8 hHeld hCl cC0 cC1 qW;by_cases hW:W=0
   ·have e9:=hstep.out;subst hW;have H0:Hid (D9.2=0):=hid (by rw [e9]);have HD9:Hid (RefAt Bd w8 sb z D9.1):=hid (by rw [e9];exact hD9.out);have HO9:=hid (hOr.out.trans ho9.out);clear e9 hstep hstop hrun;go_wp2_with fail;go_roundw;case rel=>exact ⟨i+1,by omega,by go_num,hid (by rw [H9.out];exact H0.out),hid (by rw [H9.out];exact HD9.out),HO9⟩
    case measure=>simp [intOf];omega
   have hne:(W != 0)=true:=(by rw [bne_iff_ne];exact hW);have e9:=hstep.out;have eS:=hstop.out (by rw [e9];exact hW);have TE2:=hid (TE1.out w8 W hW (by rw [eS,e9]) (by rw [eS,e9];exact hD9.out) (Ow.out.trans ho9.out));clear e9 eS hstep hstop hrun hW;go_wp2_with fail;exact TE2.out
  obtain rfl:i=C.length:=(by omega);have htk:(C.map Jr.wr).take C.length=C.map Jr.wr:=List.take_of_length_le (by rw [List.length_map];omega);rw [htk] at h0 hDr;have happ:=hid ((Jr.doA_append (C.map Jr.wr) (Jr.headA NP NS) D).trans (if_pos h0.out));have hacts:=(Jr.doA_acts (C.map Jr.wr) D).1;rw [List.length_map] at hacts;have hA2:(Jr.doA (C.map Jr.wr) D).1.acts+10 < 1000000000000:=(by have:=HA.out;omega);have qHd:=hid (fun wz h=>qH.out NP NS (by omega) hNS wz (Jr.doA (C.map Jr.wr) D).1 h hA2);have T5:=hid (T4.out.onlyB hOr.out hlt4.out);clear hacts hA2 hlt2 hi htk qH;generalize (Jr.doA (C.map Jr.wr) D).1=DC at *;rw [happ.out] at TE1 TS1;generalize Jr.doA (Jr.headA NP NS) DC=DH at *;obtain ⟨k0,k1,k2,k3,k4,k5,k6,k7,k8⟩:=HRr.out.c9;go_upto_region 16 with fail;refine wp_region_E (S:=fun w'=>w'.cell? ⟨w.heap.size,0,none⟩=some (.int .i64 g1)/\w'.cell? ⟨w.heap.size,1,none⟩=some (.int .i64 g2)/\w'.cell? ⟨w.heap.size,2,none⟩=some (.int .i64 g3)/\w'.cell? ⟨w.heap.size,3,none⟩=some (.int .i64 1)/\w'.cell? ⟨w.heap.size,4,none⟩=some (.int .i64 g5)/\w'.cell? ⟨w.heap.size,5,none⟩=some (.int .i64 g6)/\w'.cell? ⟨w.heap.size,6,none⟩=some (.int .i64 g7)/\w'.cell? ⟨w.heap.size,7,none⟩=some (.int .i64 g8)/\w'.cell? ⟨w.heap.size,8,none⟩=some (.int .i64 g9)) (E:=[13,14]) (by kernel_rfl) ⟨k0,k1,k2,k3,k4,k5,k6,k7,k8⟩ (fun hHeld hCl=>?_);refine tk6 hCl hHeld 0 (.pointer (some ⟨sb,0,none⟩)) 1 (.agg #[.int .i64 g1,.int .i64 g2,.int .i64 g3,.int .i64 1,.int .i64 g5,.int .i64 g6,.int .i64 g7,.int .i64 g8,.int .i64 g9]) 2 (.int .i64 (L.at_:Int)) 3 (.int .i64 (L.used:Int)) 4 (.int .i64 ((L.at_:Int)+(L.used:Int))) 5 (.agg #[.int .i64 g1,.int .i64 g2,.int .i64 g3,.int .i64 1,.int .i64 g5,.int .i64 g6,.int .i64 g7,.int .i64 g8,.int .i64 g9]) fun hCl=>?_;(try simp only [lL,Act.put]);refine tk5 hCl hHeld 8 (.int .u64 (L.seq:Int)) 9 (.slice av L.txns.length cvp) 10 (.int .i64 (L.txns.length:Int)) 11 (.int .u64 (L.txns.length:Int)) 12 (.int .u64 (NS:Int)) fun hCl=>?_;(try simp only [lL,Act.put]);refine rd1 6 fun K hK=>?_;go_simp;go_at_call 81;(with_reducible refine (q.out _).mono ?_);rintro e w9 ⟨rfl,hb9'⟩;have hb9:Below wr.heap.size wr w9:=⟨hb9'.os,hb9'.tape,hb9'.output,hb9'.size,hb9'.block⟩;have R9:=HRr.out.below hb9 HRr.out.lt;refine dn hK hCl (R9.c9) ?_;clear hK K hHeld hCl;intro hHeld hCl;(try simp only [lL,Act.put]);refine tk1 hCl hHeld 7 (.int .i64 (NP:Int)) fun hCl=>?_;(try simp only [lL,Act.put]);have qh:=hid (qHd.out _ (hDr.out.below hb9));refine rd1 13 fun K hK=>?_;go_simp;go_at_call 83;(with_reducible refine qh.out.mono ?_);rintro e w10 ⟨rfl,hD10,ho10⟩;refine hK.out _ _ (fun h=>by cases h) (fun _=>?_);clear hK K;(try simp only [lL,Act.put]);refine rd1 14 fun K hK=>?_;go_simp;refine hK.out _ _ (fun h=>by cases h) (fun _=>?_);clear hK K;(try simp only [lL,Act.put]);refine wpAnyE_done (by kernel_rfl) ?_ _;have hD11:=hid hD10;have Ow2:=hid (Ow.out.trans ((Only.ofBelow hb9).trans ho10));have T6:=hid ((T5.out.below hb9).onlyB ho10 hlt4.out);clear hD10 ho10 hHeld hCl R9 hb9 hb9' k0 k1 k2 k3 k4 k5 k6 k7 k8 happ;by_cases hW:DH.2=0
  ·have TS2:=hid (TS1.out _ (.slice av L.txns.length cvp) hW T6.out hD11.out Ow2.out);have hne:(DH.2 != 0)=false:=(by rw [bne_eq_false_iff_eq];exact hW);clear hW;go_wp2_with fail;exact TS2.out
  have TE2:=hid (TE1.out _ DH.2 hW rfl hD11.out Ow2.out);have hne:(DH.2 != 0)=true:=(by rw [bne_iff_ne];exact hW);clear hW;go_wp2_with fail;exact TE2.out
theorem zmk (w:World):(Instr.makeSlice 94 (.int .i64 128) (.int .i64 128)).run Tryz.prog w=.ok (.slice (some ⟨w.heap.size,0,none⟩) 128 128) (w.alloc (.cells (bcells (List.replicate 128 0)).toArray 5)):=zmake 128 (by decide) w
theorem ringW_getD (g:Geo.G):∀ (l:List ByteArray) (p i:Nat) (s:ByteArray),l[i]?=some s->(Jr.ringW g p l)[i]?=some (.write ((Jr.pb g (p+i):Nat):Int) s)
 | [],_,_,_,h=>by cases h
 | x :: l,p,0,s,h=>by injection h with h;subst h;rfl
 | x :: l,p,i+1,s,h=>by
  show (Jr.ringW g (p+1) l)[i]?=_;rw [ringW_getD g l (p+1) i s (by simpa using h),show p+1+i=p+(i+1) by omega]
theorem rformat_ok {Bd sb:Nat} {z:RLay} {D:Dev} (g:Geo.G) (hg:Geo.May g) (w:World) (hD:RefAt Bd w sb z D) (hn:(D.kept.length:Int)=g.blocks) (ha:D.acts+6000 < 1000000000000) :
  Calls Tryz.prog 29 #[.pointer (some ⟨sb,0,none⟩),.agg (Geo.cells g)] w fun e w'=>RTold Bd sb z (Jr.doA (Jr.fmtA g) D).2 (Jr.doA (Jr.fmtA g) D).1 w e w':=by
 obtain ⟨RES,hRES⟩:∃ RES,Jr.doA (Jr.fmtA g) D=RES:=⟨_,rfl⟩
 rw [hRES]
 unfold Jr.fmtA at hRES
 have qF:Hid (∀ wz,Below w.heap.size w wz->Calls Tryz.prog 80 #[.pointer (some ⟨sb,0,none⟩),.agg (Geo.cells g)] wz fun e w'=>e=.returned (.int .i64 0)/\Below wz.heap.size wz w'):=hid (fun wz hz=>by
  have:=rrefuses_may g hg wz (hD.below hz);rwa [if_pos hn] at this)
 have q:=hid (rplaces_any g hg)
 have hpl:=(Jr.plc_of hg)
 have hlog:=hg.ok.2.1
 have qAt:=hid (fun p (h:p<=1000000000) wz=>rat_any g hg p h wz)
 have qH:Hid (∀ wz D',RefAt Bd wz sb z D'->D'.acts+10 < 1000000000000->Calls Tryz.prog 83 #[.pointer (some ⟨sb,0,none⟩),.agg (Geo.cells g),.int .i64 0,.int .u64 1] wz fun e w'=>RTold Bd sb z (Jr.doA (Jr.headA 0 1) D').2 (Jr.doA (Jr.headA 0 1) D').1 wz e w'):=hid (fun wz D' h3 h4=>rheader_any g hg 0 1 (by decide) (by decide) wz h3 h4)
 have hlt0:=hid hD.refB_lt
 have HD:=hid hD
 have HA:=hid ha
 obtain ⟨PLN,hPL⟩:∃ PLN,Jr.plc g=PLN:=⟨_,rfl⟩
 rw [hPL] at q hpl hRES
 have hP2:0 < PLN/\PLN<=511:=by omega
 obtain ⟨AC,hAC⟩:∃ AC,Jr.ringW g 0 (List.replicate PLN zblock)=AC:=⟨_,rfl⟩
 have hACl:AC.length=PLN:=by rw [<- hAC,ringW_length];simp
 have hget:Hid (∀ p,p < PLN->AC[p]?=some (.write ((Jr.pb g p:Nat):Int) zblock)):=hid (fun p hp=>by
  rw [<- hAC,ringW_getD g _ 0 p zblock (by simp [hp]),Nat.zero_add])
 rw [hAC] at hRES
 have HRES:=hid hRES
 have HACL:=hid hACl
 obtain ⟨ZL,hZL⟩:∃ ZL:List UInt8,List.replicate 128 0=ZL:=⟨_,rfl⟩
 have HZl:Hid (ZL.length=128):=hid (by rw [<- hZL];simp)
 have hZB:Hid ((⟨ZL.toArray⟩:ByteArray)=zblock):=hid (by rw [<- hZL];rfl)
 have hzs:=zblock_size
 clear hRES hD hn hPL hpl ha hAC hACl
 obtain ⟨G,hG⟩:∃ G,G=g:=⟨_,rfl⟩
 rw [<- hG] at hget
 replace qAt:Hid (∀ p:Nat,p<=1000000000->∀ wz,Calls Tryz.prog 82 #[.agg (Geo.cells g),.int .i64 (p:Int)] wz fun e w'=>e=.returned (.int .i64 ((Jr.pb G p:Nat):Int))/\Below wz.heap.size wz w'):=hid (by rw [hG];exact qAt.out)
 clear hG hg
 have hzL:=hid hZL
 clear hZL
 unfold Geo.cells at *
 obtain ⟨g1,g2,g3,g4,g5,g6,g7,g8,g9⟩:=g
 dsimp only at *
 subst hlog
 have R0:=Row.new w 30 [.int .i64 g1,.int .i64 g2,.int .i64 g3,.int .i64 1,.int .i64 g5,.int .i64 g6,.int .i64 g7,.int .i64 g8,.int .i64 g9] rfl
 have HR0:=hid R0
 have BA:=hid ((Below.refl w.heap.size w).alloc (Nat.le_refl _) (.cells #[.int .i64 g1,.int .i64 g2,.int .i64 g3,.int .i64 1,.int .i64 g5,.int .i64 g6,.int .i64 g7,.int .i64 g8,.int .i64 g9] 30))
 obtain ⟨k0,k1,k2,k3,k4,k5,k6,k7,k8⟩:=R0.c9
 clear R0
 go_enter Tryz.func29,Tryz.ntmps29
 go_wp2_with fail
 generalize w.alloc _=w1 at *
 (with_reducible refine (qF.out _ BA.out).mono ?_)
 rintro e w2 ⟨rfl,hb2⟩
 have B2:=hid (below_next BA.out hb2)
 have HR2:=hid (HR0.out.below hb2 HR0.out.lt)
 have hD2:=hid (HD.out.below B2.out)
 have hGn:Hid (w.heap.size ∉ refB sb z):=hid (fun hk=>absurd (hlt0.out _ hk) (Nat.lt_irrefl _))
 clear hb2 k0 k1 k2 k3 k4 k5 k6 k7 k8 HR0 BA qF
 go_wp2_with fail
 go_loopw [5,6] (fun u q wr=>∃ (p:Nat),p<=PLN/\u=.int .i64 (Jr.doA (AC.take p) D).2/\q=.int .i64 p/\Hid (RefAt Bd wr sb z (Jr.doA (AC.take p) D).1)/\Hid (Only (refB sb z) w2 wr)) (fun _ q _=>PLN - (intOf q).toNat)
 case atStart=>exact ⟨0,Nat.zero_le _,by rw [List.take_zero];rfl,rfl,hid (by rw [List.take_zero];exact hD2.out),hid (Only.refl _ _)⟩
 case round =>
  clear hD2;obtain ⟨p,hp,rfl,rfl,hDr,hO⟩:=hrel;have Ow:=hid ((Only.ofBelow (S:=refB sb z) B2.out).trans hO.out);have HRr:=hid (hO.out.row HR2.out hGn.out);have hacts:=(Jr.doA_acts (AC.take p) D).1;have hlen3:(AC.take p).length<=4096:=by rw [List.length_take,HACL.out];omega
  have hA2:Hid ((Jr.doA (AC.take p) D).1.acts+10 < 1000000000000):=hid (by have:=HA.out;omega);have hstop:=hid (fun h=>Jr.doA_stop (l:=AC ++ Jr.headA 0 1) (D:=D) (i:=p) h);have htk:(AC ++ Jr.headA 0 1).take p=AC.take p:=(by rw [List.take_append_of_le_length (by rw [HACL.out];omega)]);rw [htk,HRES.out] at hstop;have happ:Hid ((Jr.doA (AC.take p) D).2=0->p=PLN->RES=Jr.doA (Jr.headA 0 1) (Jr.doA (AC.take p) D).1):=hid (fun h hpp=>by
   rw [<- HRES.out];have e:AC.take p=AC:=List.take_of_length_le (by rw [HACL.out];omega);rw [e] at h ⊢;exact (Jr.doA_append _ _ _).trans (if_pos h))
  have hstep:Hid (p < PLN->(Jr.doA (AC.take p) D).2=0->Jr.doA (AC.take (p+1)) D=((Jr.doA (AC.take p) D).1.write ((Jr.pb G p:Nat):Int) zblock,(Jr.doA (AC.take p) D).1.writeE ((Jr.pb G p:Nat):Int) zblock)):=hid (fun h1 h2=>Jr.doA_take (hget.out p h1) h2);clear hacts hlen3 htk;obtain ⟨D9,hD9e⟩:∃ D9,Jr.doA (AC.take (p+1)) D=D9:=⟨_,rfl⟩;rw [hD9e] at hstep;have H9':=hid hD9e;clear hD9e;generalize Jr.doA (AC.take p) D=DP at *;obtain ⟨DP1,DP2⟩:=DP;dsimp only at *;obtain ⟨k0,k1,k2,k3,k4,k5,k6,k7,k8⟩:=HRr.out.c9;by_cases hE:DP2=0;case neg =>
   have b1:(DP2 == 0)=false:=(by rw [beq_eq_false_iff_ne];exact hE);have b2:(DP2 != 0)=true:=(by rw [bne_iff_ne];exact hE);have e1:=hstop.out hE;subst e1;clear hE hstop happ hstep;go_wp2_with fail;go_ret;exact ⟨rfl,hDr.out,Ow.out⟩
  have HS:=hid (fun h=>hstep.out h hE);have HP:=hid (fun h=>happ.out hE h);subst hE;clear hstop happ hstep;have j0:(0:Int)<=(p:Int):=(by omega);by_cases hlt:p < PLN
  ·have j1:(p:Int) < (PLN:Int):=(by omega);have e9:=HS.out hlt;have qWr:=hid (fun wz (hz:Below wr.heap.size wr wz)=>rwrite_told (hDr.out.below hz) ((Jr.pb G p:Nat):Int) zblock (by omega) (by have:=hA2.out;omega));clear HP;generalize hDW:DP1.write ((Jr.pb G p:Nat):Int) zblock=D8 at *;generalize hEW:DP1.writeE ((Jr.pb G p:Nat):Int) zblock=E8 at *;have H9:=hid (H9'.out.trans e9);have qA:=hid (qAt.out p (by omega));generalize Jr.pb G p=PB at *;clear hDW hEW e9 HS H9';go_wp2_with (go_at_call 81;(with_reducible refine (q.out _).mono ?_);rintro e wq ⟨rfl,hbq⟩);have qWr2:=hid (fun wz (hz:Below wq.heap.size wq wz)=>qWr.out wz (hbq.trans (hz.mono hbq.size)));have hOq:=hid (hO.out.trans (Only.ofBelow hbq));have HRq:=hid (HRr.out.below hbq HRr.out.lt);have KEEP:Hid (∀ wz,Below wq.heap.size wq wz->wz.cell? ⟨w.heap.size,0,none⟩=some (.int .i64 g1)/\wz.cell? ⟨w.heap.size,1,none⟩=some (.int .i64 g2)/\wz.cell? ⟨w.heap.size,2,none⟩=some (.int .i64 g3)/\wz.cell? ⟨w.heap.size,3,none⟩=some (.int .i64 1)/\wz.cell? ⟨w.heap.size,4,none⟩=some (.int .i64 g5)/\wz.cell? ⟨w.heap.size,5,none⟩=some (.int .i64 g6)/\wz.cell? ⟨w.heap.size,6,none⟩=some (.int .i64 g7)/\wz.cell? ⟨w.heap.size,7,none⟩=some (.int .i64 g8)/\wz.cell? ⟨w.heap.size,8,none⟩=some (.int .i64 g9)):=hid (fun wz hz=>by
    have RG:=HRq.out.below hz HRq.out.lt;exact RG.c9)
   clear qWr hbq HRr hO Ow;have qWr:=qWr2;refine wp_region_E (S:=fun w'=>w'.cell? ⟨w.heap.size,0,none⟩=some (.int .i64 g1)/\w'.cell? ⟨w.heap.size,1,none⟩=some (.int .i64 g2)/\w'.cell? ⟨w.heap.size,2,none⟩=some (.int .i64 g3)/\w'.cell? ⟨w.heap.size,3,none⟩=some (.int .i64 1)/\w'.cell? ⟨w.heap.size,4,none⟩=some (.int .i64 g5)/\w'.cell? ⟨w.heap.size,5,none⟩=some (.int .i64 g6)/\w'.cell? ⟨w.heap.size,6,none⟩=some (.int .i64 g7)/\w'.cell? ⟨w.heap.size,7,none⟩=some (.int .i64 g8)/\w'.cell? ⟨w.heap.size,8,none⟩=some (.int .i64 g9)) (E:=[6,7]) (by kernel_rfl) (KEEP.out _ (Below.refl _ _).drew) (fun hHeld hCl=>?_);have b0:=hid (show Below wq.heap.size wq wq.drew from (Below.refl _ _).drew);refine tk3 hCl hHeld 0 (.pointer (some ⟨sb,0,none⟩)) 1 (.agg #[.int .i64 g1,.int .i64 g2,.int .i64 g3,.int .i64 1,.int .i64 g5,.int .i64 g6,.int .i64 g7,.int .i64 g8,.int .i64 g9]) 2 (.int .i64 (p:Int)) fun hCl=>?_;(try simp only [lL,Act.put]);refine wpAnyE_ready (rs:=[3,4]) (by kernel_rfl) (by simp) ?_;refine NextE.cons rfl (fun K hK=>?_) (NextE.cons rfl (fun K hK=>?_) NextE.nil)
   ·go_simp;go_at_call 82;(with_reducible refine (qA.out _).mono ?_);rintro e w5 ⟨rfl,hb'⟩;have b5:=hid (b0.out.trans (hb'.mono b0.out.size));clear hb';refine dn hK hCl (KEEP.out _ b5.out) ?_;clear hK K hHeld hCl;intro hHeld hCl;(try simp only [lL,Act.put]);refine rd1 4 fun K hK=>?_;have hmk:=zmk w5;rw [hzL.out] at hmk;have HZ:=hid (Row.new (b:=w5.heap.size) w5 5 (bcells ZL) rfl);have b6:=hid (b5.out.alloc b5.out.size (.cells (bcells ZL).toArray 5));go_simp;refine dn hK hCl (KEEP.out _ b6.out) ?_;clear hK K hHeld hCl;intro hHeld hCl;(try simp only [lL,Act.put]);clear hmk;refine rd1 5 fun K hK=>?_;have hcv:=run_string_of_row 94 9 5 128 128 HZl.out.symm Tryz.underlying94 Tryz.underlying5 Tryz.underlying9 HZ.out;rw [hZB.out] at hcv;go_simp;refine dn hK hCl (KEEP.out _ b6.out) ?_;clear hK K hHeld hCl;intro hHeld hCl;(try simp only [lL,Act.put]);clear hcv;have qW:=hid (fun wz hz=>qWr.out wz hz);refine rd1 6 fun K hK=>?_;go_simp;go_at_call 54;(with_reducible refine (qW.out _ b6.out).mono ?_);rintro e w8 ⟨rfl,hD8,ho8⟩;refine hK.out _ _ (fun h=>by cases h) (fun _=>?_);clear hK K;(try simp only [lL,Act.put]);refine rd1 7 fun K hK=>?_;go_simp;refine hK.out _ _ (fun h=>by cases h) (fun _=>?_);clear hK K;(try simp only [lL,Act.put]);refine wpAnyE_done (by kernel_rfl) ?_ _;have ho9:=hid ((Only.ofBelow (S:=refB sb z) b6.out).trans ho8);have hD9:=hid hD8;clear hD8 ho8 hHeld hCl qW qWr k0 k1 k2 k3 k4 k5 k6 k7 k8 KEEP HZ;go_wp2_with fail;go_roundw;case rel=>exact ⟨p+1,by omega,by rw [H9.out],by go_num,hid (by rw [H9.out];exact hD9.out),hid (hOq.out.trans ho9.out)⟩
    case measure=>simp [intOf];omega
   have hmk:=zmk wq.drew;rw [hzL.out] at hmk;have HZ:=hid (Row.new (b:=wq.heap.size) wq.drew 5 (bcells ZL) rfl);have b5:=hid (b0.out.alloc b0.out.size (.cells (bcells ZL).toArray 5));go_simp;refine dn hK hCl (KEEP.out _ b5.out) ?_;clear hK K hHeld hCl;intro hHeld hCl;(try simp only [lL,Act.put]);clear hmk;refine wpAnyE_ready (rs:=[3,5]) (by kernel_rfl) (by simp) ?_;refine NextE.cons rfl (fun K hK=>?_) (NextE.cons rfl (fun K hK=>?_) NextE.nil)
   ·go_simp;go_at_call 82;(with_reducible refine (qA.out _).mono ?_);rintro e w6 ⟨rfl,hb'⟩;have b6:=hid (b5.out.trans (hb'.mono b5.out.size));replace HZ:=hid (HZ.out.below hb' HZ.out.lt);clear hb';refine dn hK hCl (KEEP.out _ b6.out) ?_;clear hK K hHeld hCl;intro hHeld hCl;(try simp only [lL,Act.put]);refine rd1 5 fun K hK=>?_;have hcv:=run_string_of_row 94 9 5 128 128 HZl.out.symm Tryz.underlying94 Tryz.underlying5 Tryz.underlying9 HZ.out;rw [hZB.out] at hcv;go_simp;refine dn hK hCl (KEEP.out _ b6.out) ?_;clear hK K hHeld hCl;intro hHeld hCl;(try simp only [lL,Act.put]);clear hcv;have qW:=hid (fun wz hz=>qWr.out wz hz);refine rd1 6 fun K hK=>?_;go_simp;go_at_call 54;(with_reducible refine (qW.out _ b6.out).mono ?_);rintro e w8 ⟨rfl,hD8,ho8⟩;refine hK.out _ _ (fun h=>by cases h) (fun _=>?_);clear hK K;(try simp only [lL,Act.put]);refine rd1 7 fun K hK=>?_;go_simp;refine hK.out _ _ (fun h=>by cases h) (fun _=>?_);clear hK K;(try simp only [lL,Act.put]);refine wpAnyE_done (by kernel_rfl) ?_ _;have ho9:=hid ((Only.ofBelow (S:=refB sb z) b6.out).trans ho8);have hD9:=hid hD8;clear hD8 ho8 hHeld hCl qW qWr k0 k1 k2 k3 k4 k5 k6 k7 k8 KEEP HZ;go_wp2_with fail;go_roundw;case rel=>exact ⟨p+1,by omega,by rw [H9.out],by go_num,hid (by rw [H9.out];exact hD9.out),hid (hOq.out.trans ho9.out)⟩
    case measure=>simp [intOf];omega
   have hcv:=run_string_of_row 94 9 5 128 128 HZl.out.symm Tryz.underlying94 Tryz.underlying5 Tryz.underlying9 HZ.out;rw [hZB.out] at hcv;have hcv2:(convert 94 9 (.slice (some ⟨wq.heap.size,0,none⟩) 128 128)).run Tryz.prog (wq.alloc (.cells (bcells ZL).toArray 5)).drew=.ok (.string zblock) (wq.alloc (.cells (bcells ZL).toArray 5)).drew:=hcv;go_simp;refine dn hK hCl (KEEP.out _ b5.out) ?_;clear hK K hHeld hCl;intro hHeld hCl;(try simp only [lL,Act.put]);clear hcv;refine rd1 3 fun K hK=>?_;go_simp;go_at_call 82;(with_reducible refine (qA.out _).mono ?_);rintro e w6 ⟨rfl,hb'⟩;have b6:=hid (b5.out.trans (hb'.mono b5.out.size));replace HZ:=hid (HZ.out.below hb' HZ.out.lt);clear hb';refine dn hK hCl (KEEP.out _ b6.out) ?_;clear hK K hHeld hCl;intro hHeld hCl;(try simp only [lL,Act.put]);have qW:=hid (fun wz hz=>qWr.out wz hz);refine rd1 6 fun K hK=>?_;go_simp;go_at_call 54;(with_reducible refine (qW.out _ b6.out).mono ?_);rintro e w8 ⟨rfl,hD8,ho8⟩;refine hK.out _ _ (fun h=>by cases h) (fun _=>?_);clear hK K;(try simp only [lL,Act.put]);refine rd1 7 fun K hK=>?_;go_simp;refine hK.out _ _ (fun h=>by cases h) (fun _=>?_);clear hK K;(try simp only [lL,Act.put]);refine wpAnyE_done (by kernel_rfl) ?_ _;have ho9:=hid ((Only.ofBelow (S:=refB sb z) b6.out).trans ho8);have hD9:=hid hD8;clear hD8 ho8 hHeld hCl qW qWr k0 k1 k2 k3 k4 k5 k6 k7 k8 KEEP HZ;go_wp2_with fail;go_roundw;case rel=>exact ⟨p+1,by omega,by rw [H9.out],by go_num,hid (by rw [H9.out];exact hD9.out),hid (hOq.out.trans ho9.out)⟩
   case measure=>simp [intOf];omega
  obtain rfl:p=PLN:=(by omega);have j1:¬ (p:Int) < (p:Int):=(by omega);have e1:=HP.out rfl;subst e1;have qH2:=hid (fun wz (hz:Below wr.heap.size wr wz)=>qH.out wz DP1 (hDr.out.below hz) hA2.out);clear HS HP;go_wp2_with (first | (go_at_call 81;(with_reducible refine (q.out _).mono ?_);rintro e w5 ⟨rfl,hb5⟩;have R5:=HRr.out.below hb5 HRr.out.lt;obtain ⟨z0,z1,z2,z3,z4,z5,z6,z7,z8⟩:=R5.c9) | (go_at_call 83;(with_reducible refine (qH2.out _ hb5).mono ?_);rintro e w6 ⟨rfl,hD6,ho6⟩) | fail "none");go_ret;exact ⟨rfl,hD6,Ow.out.trans ((Only.ofBelow hb5).trans ho6)⟩
end Go.Proofs.YtnpdhidliaahbaaGreat
