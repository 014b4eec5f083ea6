/- The document's journal: Checkpoint, Commit. -/
import Derived.Test.YtnpdhidliaahbaaGreatP58
import Derived.Test.YtnpdhidliaahbaaGreatP59
import Derived.Test.YtnpdhidliaahbaaGreatP60
import Derived.Test.YtnpdhidliaahbaaGreatP23
import Derived.Test.YtnpdhidliaahbaaGreatP27
set_option maxRecDepth 100000
set_option maxHeartbeats 32000000
set_option linter.unusedSimpArgs false
set_option linter.unusedVariables false
namespace Go.Proofs.YtnpdhidliaahbaaGreat
open Go.Lib (hid)
open Go Go.RowKit
theorem RefAt.log {Bd sb:Nat} {w:World} {z:RLay} {D:Dev} (h:RefAt Bd w sb z D) (lb k:Nat) (u:Value) (hlb:lb ∉ refB sb z):RefAt Bd (w.setCell ⟨lb,k,none⟩ u) sb z D:=by
 unfold refB at hlb;simp only [List.mem_cons,List.not_mem_nil,or_false,not_or] at hlb;obtain ⟨h1,h2,h3,h4⟩:=hlb;exact ⟨h.own,h.cells.other (a:=⟨lb,k,none⟩) h1 _,ownsRow_setCell_other h.now (by simp [Value.ownBlock];omega) _,ownsRow_setCell_other h.was (by simp [Value.ownBlock];omega) _,ownsRow_setCell_other h.pend (by simp [Value.ownBlock];omega) _,h.ne,h.pos,h.left,h.acts⟩
def RLogTold (Bd sb lb:Nat) (z:RLay) (g:Geo.G) (E:Int) (D':Dev) (V':LogV) (w:World) (e:Ending) (w':World):Prop:=e=.returned (.int .i64 E)/\RefAt Bd w' sb z D'/\RLogAt lb sb g V' w'/\Only (lb :: refB sb z) w w'
def RCom (Bd sb lb:Nat) (z:RLay) (g:Geo.G) (E:Int) (D':Dev) (V':LogV) (B:Bool) (F:Prop) (w:World) (e:Ending) (w':World):Prop:=(B=true->F->RLogTold Bd sb lb z g E D' V' w e w')/\(B=true->¬ F->e=.returned (.int .i64 90)/\Below w.heap.size w w')/\(B=false->e=.returned (.int .i64 2)/\Below w.heap.size w w')
theorem rcheckpoint_idle {lb sb:Nat} {g:Geo.G} {V:LogV} (w:World) (hL:RLogAt lb sb g V w) (h:V.bad ≠ 0 ∨ V.used=0) :
  Calls Tryz.prog 50 #[.pointer (some ⟨lb,0,none⟩)] w fun e w'=>e=.returned (.int .i64 V.bad)/\Below w.heap.size w w':=by
 unfold RLogAt rlogC at hL
 have c13:=hL.cellAt 13 rfl
 have c12:=hL.cellAt 12 rfl
 clear hL
 obtain ⟨v1,v2,v3,v4⟩:=V
 dsimp only at *
 by_cases hv:v4=0
 ·obtain rfl:=hv;obtain rfl:v2=0:=h.resolve_left (fun h=>h rfl);clear h;go_enter Tryz.func50,Tryz.ntmps50;go_wp2_with fail;go_ret;exact ⟨rfl,Below.refl _ _⟩
 ·have b1:(v4 != 0)=true:=(by rw [bne_iff_ne];exact hv);clear h hv;go_enter Tryz.func50,Tryz.ntmps50;go_wp2_with fail;go_ret;exact ⟨rfl,Below.refl _ _⟩
theorem rcheckpoint_any {Bd sb lb:Nat} {z:RLay} {D:Dev} {g:Geo.G} {V:LogV} (w:World) (hD:RefAt Bd w sb z D) (hL:RLogAt lb sb g V w) (hlb:lb ∉ refB sb z) (hg:Geo.May g) (hb:V.bad=0) (hu:V.used ≠ 0) (hp:V.place < Jr.plc g) (hq:V.seq < 2 ^ 64) (ha:D.acts+600 < 1000000000000) :
  Calls Tryz.prog 50 #[.pointer (some ⟨lb,0,none⟩)] w fun e w' =>
   RLogTold Bd sb lb z g (Jr.doA (Jr.headA (V.place % Jr.plc g) V.seq) D).2 (Jr.doA (Jr.headA (V.place % Jr.plc g) V.seq) D).1 ⟨V.place,if (Jr.doA (Jr.headA (V.place % Jr.plc g) V.seq) D).2=0 then 0 else V.used,V.seq,(Jr.doA (Jr.headA (V.place % Jr.plc g) V.seq) D).2⟩ w e w':=by
 rw [Nat.mod_eq_of_lt hp]
 have hpl:=Jr.plc_of hg
 have qH0:Hid (∀ wz,Below w.heap.size w wz->Calls Tryz.prog 83 #[.pointer (some ⟨sb,0,none⟩),.agg (Geo.cells g),.int .i64 (V.place:Int),.int .u64 (V.seq:Int)] wz fun e w'=>RTold Bd sb z (Jr.doA (Jr.headA V.place V.seq) D).2 (Jr.doA (Jr.headA V.place V.seq) D).1 wz e w'):=hid (fun wz hz=>rheader_any g hg V.place V.seq (by omega) hq wz (hD.below hz) (by omega))
 obtain ⟨E,hE⟩:∃ E,(Jr.doA (Jr.headA V.place V.seq) D).2=E:=⟨_,rfl⟩
 obtain ⟨D',hD'⟩:∃ D',(Jr.doA (Jr.headA V.place V.seq) D).1=D':=⟨_,rfl⟩
 rw [hE,hD'] at qH0 ⊢
 obtain ⟨g1,g2,g3,g4,g5,g6,g7,g8,g9,hcell,hlogc⟩:∃ g1 g2 g3 g4 g5 g6 g7 g8 g9,Geo.cells g = #[.int .i64 g1,.int .i64 g2,.int .i64 g3,.int .i64 g4,.int .i64 g5,.int .i64 g6,.int .i64 g7,.int .i64 g8,.int .i64 g9]/\∀ V:LogV,rlogC sb g V = [.pointer (some ⟨sb,0,none⟩),.int .i64 g1,.int .i64 g2,.int .i64 g3,.int .i64 g4,.int .i64 g5,.int .i64 g6,.int .i64 g7,.int .i64 g8,.int .i64 g9,.int .i64 (V.place:Int),.int .u64 (V.seq:Int),.int .i64 (V.used:Int),.int .i64 V.bad]:=⟨_,_,_,_,_,_,_,_,_,rfl,fun _=>rfl⟩
 rw [hcell] at qH0
 have qH:=qH0
 have TD:Hid (∀ (w':World) (u:Nat),u=(if E=0 then 0 else V.used)->RefAt Bd w' sb z D'->Row w' lb 83 [.pointer (some ⟨sb,0,none⟩),.int .i64 g1,.int .i64 g2,.int .i64 g3,.int .i64 g4,.int .i64 g5,.int .i64 g6,.int .i64 g7,.int .i64 g8,.int .i64 g9,.int .i64 (V.place:Int),.int .u64 (V.seq:Int),.int .i64 (u:Int),.int .i64 E]->Only (lb :: refB sb z) w w'->RLogTold Bd sb lb z g E D' ⟨V.place,if E=0 then 0 else V.used,V.seq,E⟩ w (.returned (.int .i64 E)) w'):=hid (fun w' u h1 h2 h3 h4=>by subst h1;exact ⟨rfl,h2,by unfold RLogAt;rw [hlogc];exact h3,h4⟩)
 generalize RLogTold Bd sb lb z g E D' ⟨V.place,if E=0 then 0 else V.used,V.seq,E⟩ w=P at *
 have HLB:=hid hlb
 unfold RLogAt at hL
 rw [hlogc] at hL
 clear hD hE hD' hpl hg hlb qH0 hcell hlogc hp ha hq
 obtain ⟨v1,v2,v3,v4⟩:=V
 dsimp only at *
 obtain rfl:=hb
 obtain ⟨c0,c1,c2,c3,c4,c5,c6,c7,c8,c9,c10,c11,c12,c13⟩:=hL.c14
 have HL:=hid hL
 have hv2:¬ (v2:Int)=0:=by omega
 have hv3:((v2:Int) == 0)=false:=by rw [beq_eq_false_iff_ne];exact hv2
 clear hL
 go_enter Tryz.func50,Tryz.ntmps50
 go_upto_region 3 with fail
 go_region_held3 (fun w'=>w'.cell? ⟨lb,0,none⟩=some (.pointer (some ⟨sb,0,none⟩))/\w'.cell? ⟨lb,1,none⟩=some (.int .i64 g1)/\w'.cell? ⟨lb,2,none⟩=some (.int .i64 g2)/\w'.cell? ⟨lb,3,none⟩=some (.int .i64 g3)/\w'.cell? ⟨lb,4,none⟩=some (.int .i64 g4)/\w'.cell? ⟨lb,5,none⟩=some (.int .i64 g5)/\w'.cell? ⟨lb,6,none⟩=some (.int .i64 g6)/\w'.cell? ⟨lb,7,none⟩=some (.int .i64 g7)/\w'.cell? ⟨lb,8,none⟩=some (.int .i64 g8)/\w'.cell? ⟨lb,9,none⟩=some (.int .i64 g9)/\w'.cell? ⟨lb,10,none⟩=some (.int .i64 (v1:Int))/\w'.cell? ⟨lb,11,none⟩=some (.int .u64 (v3:Int)))
  (first | exact ⟨c0,c1,c2,c3,c4,c5,c6,c7,c8,c9,c10,c11⟩ | exact ⟨(R8.set 13 _).cellAt 0 rfl,(R8.set 13 _).cellAt 1 rfl,(R8.set 13 _).cellAt 2 rfl,(R8.set 13 _).cellAt 3 rfl,(R8.set 13 _).cellAt 4 rfl,(R8.set 13 _).cellAt 5 rfl,(R8.set 13 _).cellAt 6 rfl,(R8.set 13 _).cellAt 7 rfl,(R8.set 13 _).cellAt 8 rfl,(R8.set 13 _).cellAt 9 rfl,(R8.set 13 _).cellAt 10 rfl,(R8.set 13 _).cellAt 11 rfl⟩ | exact ⟨R8.cellAt 0 rfl,R8.cellAt 1 rfl,R8.cellAt 2 rfl,R8.cellAt 3 rfl,R8.cellAt 4 rfl,R8.cellAt 5 rfl,R8.cellAt 6 rfl,R8.cellAt 7 rfl,R8.cellAt 8 rfl,R8.cellAt 9 rfl,R8.cellAt 10 rfl,R8.cellAt 11 rfl⟩)
  (first | (go_at_call 83;refine (qH.out _ (Below.refl _ _).drew).mono ?_;rintro e w8 ⟨rfl,hd8,ho8⟩;have R8:=ho8.row (show Row w.drew lb _ _ from HL.out) HLB.out;have z8:=R8.cellAt 13 rfl;have f8:=R8.free 13 (by simp)) | fail "none")
 have R9:=R8.set 13 (.int .i64 E)
 have hd9:=hd8.log lb 13 (.int .i64 E) HLB.out
 have ho9:Only (lb :: refB sb z) w (w8.setCell ⟨lb,13,none⟩ (.int .i64 E)):=(((Only.refl _ w).drew).trans (ho8.sub (fun k hk=>List.mem_cons_of_mem _ hk))).trans (Only.setCell _ _ _ (by simp))
 have x13:=R9.cellAt 13 rfl
 have f12:=R9.free 12 (by simp)
 have x12:=R9.cellAt 12 rfl
 have HR9:=hid R9
 clear R8 R9 f8 z8 hd8 ho8 qH
 generalize w8.setCell _ _=w9 at *
 by_cases h0:E=0
 ·subst h0;go_wp2_with fail;exact TD.out _ 0 (by simp) (hd9.log lb 12 _ HLB.out) (HR9.out.set 12 (.int .i64 0)) (ho9.trans (Only.setCell _ _ _ (by simp)))
 ·have b1:(E == 0)=false:=(by rw [beq_eq_false_iff_ne];exact h0);go_wp2_with fail;exact TD.out _ v2 (by rw [if_neg h0]) hd9 HR9.out ho9
theorem rCommit_dead {lb sb:Nat} {g:Geo.G} {V:LogV} {vc vr vd:Value} (w:World) (hL:RLogAt lb sb g V w) (h:V.bad ≠ 0) (hvc:∃ ad n c,vc=.slice ad n c) (hvr:∃ ad n c,vr=.slice ad n c) :
  Calls Tryz.prog 55 #[.pointer (some ⟨lb,0,none⟩),.agg #[vc,vr],vd] w fun e w'=>e=.returned (.int .i64 V.bad)/\Below w.heap.size w w':=by
 obtain ⟨a1,n1,c1,rfl⟩:=hvc
 obtain ⟨a2,n2,c2,rfl⟩:=hvr
 have BA:Below w.heap.size w (w.alloc (.cells #[.slice a1 n1 c1,.slice a2 n2 c2] 25)):=(Below.refl w.heap.size w).alloc (Nat.le_refl _) _
 unfold RLogAt rlogC at hL
 have c13:=(hL.alloc (.cells #[.slice a1 n1 c1,.slice a2 n2 c2] 25)).cellAt 13 rfl
 have HBA:=hid BA
 clear BA hL
 obtain ⟨v1,v2,v3,v4⟩:=V
 dsimp only at *
 have b1:(v4 != 0)=true:=by rw [bne_iff_ne];exact h
 clear h
 go_enter Tryz.func55,Tryz.ntmps55
 go_wp2_with fail
 go_ret
 exact ⟨rfl,HBA.out⟩
theorem rCommit_bad1 {lb sb:Nat} {g:Geo.G} {V:LogV} (w:World) (vc vr vd:Value) (t:Jr.Txn) (data:List Jr.Chg) (hL:RLogAt lb sb g V w) (hg:Geo.May g) (hb:V.bad=0) (hu:V.used<=100000)
  (hC:ChgsV w vc t.ch) (hI:IntsV w vr t.rv) (hX:ChgsV w vd data) (hl:t.ch.length<=100000) (hr:t.rv.length<=100000) (hd:data.length<=900000)
  (hcx:∀ c ∈ t.ch,In64 c.1/\c.2.size<=9223372036854775807) (hrx:∀ x ∈ t.rv,In64 x) (hdx:∀ c ∈ data,In64 c.1/\c.2.size<=9223372036854775807)
  (h1:mayB (Geo.home g) t.ch t.rv=false) :
  Calls Tryz.prog 55 #[.pointer (some ⟨lb,0,none⟩),.agg #[vc,vr],vd] w fun e w'=>e=.returned (.int .i64 2)/\Below w.heap.size w w':=by
 obtain ⟨ac,cc,rfl⟩:=hC.form
 obtain ⟨ar,cr,rfl⟩:=hI.form
 obtain ⟨ad,cd,rfl⟩:=hX.form
 have qM0:=hid (fun wz (hz:Below w.heap.size w wz)=>rmay09_any g hg _ _ t (by omega) (by omega) hcx hrx wz (hC.below hz) (hI.below hz))
 have qC0:=hid (fun wz (hz:Below w.heap.size w wz)=>rchanges_any g hg _ data (by omega) hdx wz (hX.below hz))
 rw [h1] at qM0
 have qS0:=hid (refsize_any ac ar t.ch.length t.rv.length cc cr hl hr)
 have hsz:Jr.cdiv t.rv.length 28+Jr.cdiv t.ch.length 24+t.ch.length+1=Jr.size t:=rfl
 rw [hsz] at qS0
 have qR:=hid (fun wz (h:RLogAt lb sb g V wz)=>rroom_any hg wz h (by omega))
 obtain ⟨g1,g2,g3,g4,g5,g6,g7,g8,g9,hcell,hlogc⟩:∃ g1 g2 g3 g4 g5 g6 g7 g8 g9,Geo.cells g = #[.int .i64 g1,.int .i64 g2,.int .i64 g3,.int .i64 g4,.int .i64 g5,.int .i64 g6,.int .i64 g7,.int .i64 g8,.int .i64 g9]/\∀ V:LogV,rlogC sb g V = [.pointer (some ⟨sb,0,none⟩),.int .i64 g1,.int .i64 g2,.int .i64 g3,.int .i64 g4,.int .i64 g5,.int .i64 g6,.int .i64 g7,.int .i64 g8,.int .i64 g9,.int .i64 (V.place:Int),.int .u64 (V.seq:Int),.int .i64 (V.used:Int),.int .i64 V.bad]:=⟨_,_,_,_,_,_,_,_,_,rfl,fun _=>rfl⟩
 rw [hcell] at qM0 qC0
 have hL9:=hL
 unfold RLogAt at hL9 qR
 rw [hlogc] at hL9 qR
 obtain ⟨NC,hNC⟩:∃ NC,t.ch.length=NC:=⟨_,rfl⟩
 obtain ⟨NR,hNR⟩:∃ NR,t.rv.length=NR:=⟨_,rfl⟩
 obtain ⟨v1,v2,v3,v4⟩:=V
 dsimp only at *
 obtain rfl:=hb
 rw [hNC,hNR] at qM0 qS0 ⊢
 have B1:Below w.heap.size w (w.alloc (.cells #[.slice ac NC cc,.slice ar NR cr] 25)):=(Below.refl w.heap.size w).alloc (Nat.le_refl _) _
 have HL1:=hid (hL9.alloc (.cells #[.slice ac NC cc,.slice ar NR cr] 25))
 have HT1:=hid (Row.new w 25 [.slice ac NC cc,.slice ar NR cr] rfl)
 have HB1:=hid B1
 have c13:=HL1.out.cellAt 13 rfl
 have x0:=HT1.out.cellAt 0 rfl
 have x1:=HT1.out.cellAt 1 rfl
 clear B1 hL9
 go_enter Tryz.func55,Tryz.ntmps55
 go_upto_region 3 with fail
 generalize w.alloc _=w1 at *
 have s1:Below w1.heap.size w1 w1.drew:=(Below.refl _ _).drew
 have KEEP:Hid (∀ wz,Below w1.heap.size w1 wz->(wz.cell? ⟨lb,1,none⟩=some (.int .i64 g1)/\wz.cell? ⟨lb,2,none⟩=some (.int .i64 g2)/\wz.cell? ⟨lb,3,none⟩=some (.int .i64 g3)/\wz.cell? ⟨lb,4,none⟩=some (.int .i64 g4)/\wz.cell? ⟨lb,5,none⟩=some (.int .i64 g5)/\wz.cell? ⟨lb,6,none⟩=some (.int .i64 g6)/\wz.cell? ⟨lb,7,none⟩=some (.int .i64 g7)/\wz.cell? ⟨lb,8,none⟩=some (.int .i64 g8)/\wz.cell? ⟨lb,9,none⟩=some (.int .i64 g9))/\wz.cell? ⟨w.heap.size,0,none⟩=some (.slice ac NC cc)/\wz.cell? ⟨w.heap.size,1,none⟩=some (.slice ar NR cr)):=hid (fun wz hz=>by
  have R:=HL1.out.below hz HL1.out.lt;have X:=HT1.out.below hz HT1.out.lt;exact ⟨⟨R.cellAt 1 rfl,R.cellAt 2 rfl,R.cellAt 3 rfl,R.cellAt 4 rfl,R.cellAt 5 rfl,R.cellAt 6 rfl,R.cellAt 7 rfl,R.cellAt 8 rfl,R.cellAt 9 rfl⟩,X.cellAt 0 rfl,X.cellAt 1 rfl⟩)
 have qM:=hid (fun wz (hz:Below w1.heap.size w1 wz)=>qM0.out wz (below_next HB1.out hz))
 have qC:=hid (fun wz (hz:Below w1.heap.size w1 wz)=>qC0.out wz (below_next HB1.out hz))
 clear qM0 qC0 hcell hlogc hg hC hI hX hl hr hcx hrx hdx hsz hL qR qS0 h1 hNC hNR
 refine wp_region_E (S:=fun w'=>(w'.cell? ⟨lb,1,none⟩=some (.int .i64 g1)/\w'.cell? ⟨lb,2,none⟩=some (.int .i64 g2)/\w'.cell? ⟨lb,3,none⟩=some (.int .i64 g3)/\w'.cell? ⟨lb,4,none⟩=some (.int .i64 g4)/\w'.cell? ⟨lb,5,none⟩=some (.int .i64 g5)/\w'.cell? ⟨lb,6,none⟩=some (.int .i64 g6)/\w'.cell? ⟨lb,7,none⟩=some (.int .i64 g7)/\w'.cell? ⟨lb,8,none⟩=some (.int .i64 g8)/\w'.cell? ⟨lb,9,none⟩=some (.int .i64 g9))/\w'.cell? ⟨w.heap.size,0,none⟩=some (.slice ac NC cc)/\w'.cell? ⟨w.heap.size,1,none⟩=some (.slice ar NR cr)) (E:=[]) (by kernel_rfl) (KEEP.out _ s1) (fun hHeld hCl=>?_)
 refine tk5 hCl hHeld 0 (.pointer (some ⟨lb,0,none⟩)) 1 (.pointer (some ⟨lb,0,none⟩)) 2 (.pointer (some ⟨lb,1,none⟩)) 3 (.agg #[.int .i64 g1,.int .i64 g2,.int .i64 g3,.int .i64 g4,.int .i64 g5,.int .i64 g6,.int .i64 g7,.int .i64 g8,.int .i64 g9]) 4 (.agg #[.slice ac NC cc,.slice ar NR cr]) fun hCl=>?_;(try simp only [lL,Act.put])
 refine rd1 5 fun K hK=>?_
 go_simp
 go_at_call 93
 (with_reducible refine (qM.out _ s1).mono ?_)
 rintro e wa ⟨rfl,ba⟩
 have sa:Below w1.heap.size w1 wa:=below_next s1 ba
 refine dn hK hCl (KEEP.out _ sa) ?_;clear hK K hHeld hCl;intro hHeld hCl;(try simp only [lL,Act.put])
 refine tk2 hCl hHeld 6 (.bool true) 7 (.bool true) fun hCl=>?_;(try simp only [lL,Act.put])
 refine tun5 hCl hHeld 8 9 10 11 12 fun hCl=>?_;(try simp only [lL,Act.put])
 refine rd1 13 fun K hK=>?_
 refine ite_not (by intro h;exact Bool.noConfusion (show false=true from h)) ?_
 refine dn hK hCl (KEEP.out _ sa) ?_;clear hK K hHeld hCl;intro hHeld hCl;(try simp only [lL,Act.put])
 refine tun1 hCl hHeld 14 fun hCl=>?_;(try simp only [lL,Act.put])
 refine tk1 hCl hHeld 15 (.bool true) fun hCl=>?_;(try simp only [lL,Act.put])
 refine wpAnyE_done (by kernel_rfl) ?_ _
 have HS:=hid sa
 have B2:=hid (below_next HB1.out HS.out)
 clear hHeld hCl
 go_wp2_with fail
 go_ret
 exact ⟨rfl,B2.out⟩
theorem rCommit_any {Bd sb lb:Nat} {z:RLay} {D:Dev} {g:Geo.G} {V:LogV} (w:World) (vc vr vd:Value) (t:Jr.Txn) (data:List Jr.Chg) (hL:RLogAt lb sb g V w) (hg:Geo.May g) (hb:V.bad=0) (hu:V.used<=100000)
  (hC:ChgsV w vc t.ch) (hI:IntsV w vr t.rv) (hX:ChgsV w vd data) (hl:t.ch.length<=100000) (hr:t.rv.length<=100000) (hd:data.length<=900000)
  (hcx:∀ c ∈ t.ch,In64 c.1/\c.2.size<=9223372036854775807) (hrx:∀ x ∈ t.rv,In64 x) (hdx:∀ c ∈ data,In64 c.1/\c.2.size<=9223372036854775807)
  (hD:RefAt Bd w sb z D) (hlb:lb ∉ refB sb z) (hXs:∀ wz,Only (refB sb z) w wz->ChgsV wz vd data) (hcr:∀ ad n cap,vr=.slice (some ad) n cap->n<=cap) (hp:V.place<=1000000) (hq:V.seq < 2 ^ 64) (ha:D.acts+data.length+1000 < 1000000000000)
  (h1:mayB (Geo.home g) t.ch t.rv=true) :
  Calls Tryz.prog 55 #[.pointer (some ⟨lb,0,none⟩),.agg #[vc,vr],vd] w fun e w' =>
   RCom Bd sb lb z g (Jr.doA (Jr.commitA g t V.seq V.place data) D).2 (Jr.doA (Jr.commitA g t V.seq V.place data) D).1
    (if (Jr.doA (Jr.commitA g t V.seq V.place data) D).2=0 then ⟨(V.place+Jr.size t) % Jr.plc g,V.used+Jr.size t,(V.seq+1) % 18446744073709551616,0⟩ else ⟨V.place,V.used,V.seq,(Jr.doA (Jr.commitA g t V.seq V.place data) D).2⟩) (mayB (Geo.home g) data []) (V.used+Jr.size t<=Jr.plc g) w e w':=by
 have hpl:=Jr.plc_of hg
 have hok:Jr.Ok (Geo.home g) t:=ok_of h1
 have HDX:=hid hD
 have hblt:=hid hD.refB_lt
 have qP0:=hid (rplaces_any g hg)
 have hbsz:=hid (body_sized (seq:=V.seq) (Jr.small_home hg) hok)
 obtain ⟨ac,cc,rfl⟩:=hC.form
 obtain ⟨ar,cr,rfl⟩:=hI.form
 obtain ⟨ad,cd,rfl⟩:=hX.form
 obtain ⟨B,hB⟩:∃ B,mayB (Geo.home g) data []=B:=⟨_,rfl⟩
 rw [hB]
 have qM0:=hid (fun wz (hz:Below w.heap.size w wz)=>rmay09_any g hg _ _ t (by omega) (by omega) hcx hrx wz (hC.below hz) (hI.below hz))
 have qC0:=hid (fun wz (hz:Below w.heap.size w wz)=>rchanges_any g hg _ data (by omega) hdx wz (hX.below hz))
 rw [h1] at qM0
 rw [hB] at qC0
 have qS0:=hid (refsize_any ac ar t.ch.length t.rv.length cc cr hl hr)
 have hsz:Jr.cdiv t.rv.length 28+Jr.cdiv t.ch.length 24+t.ch.length+1=Jr.size t:=rfl
 rw [hsz] at qS0
 have qR:=hid (fun wz (h:RLogAt lb sb g V wz)=>rroom_any hg wz h (by omega))
 obtain ⟨g1,g2,g3,g4,g5,g6,g7,g8,g9,hcell,hlogc⟩:∃ g1 g2 g3 g4 g5 g6 g7 g8 g9,Geo.cells g = #[.int .i64 g1,.int .i64 g2,.int .i64 g3,.int .i64 g4,.int .i64 g5,.int .i64 g6,.int .i64 g7,.int .i64 g8,.int .i64 g9]/\∀ V:LogV,rlogC sb g V = [.pointer (some ⟨sb,0,none⟩),.int .i64 g1,.int .i64 g2,.int .i64 g3,.int .i64 g4,.int .i64 g5,.int .i64 g6,.int .i64 g7,.int .i64 g8,.int .i64 g9,.int .i64 (V.place:Int),.int .u64 (V.seq:Int),.int .i64 (V.used:Int),.int .i64 V.bad]:=⟨_,_,_,_,_,_,_,_,_,rfl,fun _=>rfl⟩
 rw [hcell] at qM0 qC0
 have hL9:=hL
 unfold RLogAt at hL9 qR
 rw [hlogc] at hL9 qR
 have qB0:=hid (fun (h3:V.used+Jr.size t<=Jr.plc g) wz (hz:Below w.heap.size w wz)=>dblocks_any (Jr.small_home hg) (.slice ac t.ch.length cc) (.slice ar t.rv.length cr) t V.seq wz (hC.below hz) (hI.below hz) hok hq (by omega) (by omega) (by omega) hcr)
 have qK0:Hid (V.used+Jr.size t<=Jr.plc g->∀ wz we vb,Below w.heap.size w wz->Below wz.heap.size wz we->we.ownsRow wz.heap.size 9 1 vb (Jr.told t V.seq).length (strs (Jr.told t V.seq))->Calls Tryz.prog 95 #[.pointer (some ⟨lb,0,none⟩),vb,.slice ad data.length cd] we fun e w'=>RTold Bd sb z (Jr.doA (Jr.commitA g t V.seq V.place data) D).2 (Jr.doA (Jr.commitA g t V.seq V.place data) D).1 we e w'):=hid (fun h3 wz we vb hz hze hown=>by
  have hbw:=hz.trans (hze.mono hz.size);have hlen:=Jr.told_length t V.seq;have hpos:=Jr.size_pos t;refine rcommit_any hg t data we vb (.slice ad data.length cd) (hD.below hbw) (hL.below hbw hL.lt) hlb ?_ (fun wy hy=>hXs wy ((Only.ofBelow hbw).trans hy)) hp (by omega) (by omega) (by omega) ?_ hdx
  ·intro wy hy;obtain ⟨gB,cB,rfl⟩:=own_some hown (by omega);refine SegAt.own (B:=wz.heap.size) (E:=9) ⟨hown.1,hown.2.imp id ?_⟩;rintro ⟨g',cap,cur,e,hg',hh,r⟩;refine ⟨g',cap,cur,e,hg',?_,r⟩;rw [hy.block g' (Array.getElem?_eq_some_iff.1 hh).1 (fun hk=>by have:=hblt.out g' hk;have:=hz.size;omega)];exact hh
  intro s hs;rw [show Jr.told t V.seq=Jr.body t V.seq ++ [Jr.lastB t V.seq] from rfl] at hs;rcases List.mem_append.1 hs with h | h
  ·rw [hbsz.out s h];decide
  rw [List.mem_singleton.1 h];unfold Jr.lastB;rw [txt_size,Rec.rb_length Jr.last_may];decide)
 obtain ⟨N,hN⟩:∃ N,Jr.size t=N:=⟨_,rfl⟩
 obtain ⟨PL,hPL⟩:∃ PL,Jr.plc g=PL:=⟨_,rfl⟩
 obtain ⟨E,hE⟩:∃ E,(Jr.doA (Jr.commitA g t V.seq V.place data) D).2=E:=⟨_,rfl⟩
 obtain ⟨D',hD'⟩:∃ D',(Jr.doA (Jr.commitA g t V.seq V.place data) D).1=D':=⟨_,rfl⟩
 rw [hE,hD'] at qK0 ⊢
 rw [hN] at qS0 qB0 qK0 ⊢
 rw [hPL] at qR qB0 qK0 hpl qP0 ⊢
 rw [hcell] at qP0
 have VE:∃ VE,VE=(if E=0 then (⟨(V.place+N) % PL,V.used+N,(V.seq+1) % 18446744073709551616,0⟩:LogV) else ⟨V.place,V.used,V.seq,E⟩):=⟨_,rfl⟩
 obtain ⟨VE,hVE⟩:=VE
 rw [<- hVE]
 have TD:Hid (B=true->V.used+N<=PL->∀ (w':World) (V':LogV),V'=VE->RefAt Bd w' sb z D'->Row w' lb 83 [.pointer (some ⟨sb,0,none⟩),.int .i64 g1,.int .i64 g2,.int .i64 g3,.int .i64 g4,.int .i64 g5,.int .i64 g6,.int .i64 g7,.int .i64 g8,.int .i64 g9,.int .i64 (V'.place:Int),.int .u64 (V'.seq:Int),.int .i64 (V'.used:Int),.int .i64 V'.bad]->Only (lb :: refB sb z) w w'->RCom Bd sb lb z g E D' VE B (V.used+N<=PL) w (.returned (.int .i64 E)) w'):=hid (fun b f w' V' h1 h2 h3 h4=>⟨fun _ _=>by rw [<- h1];exact ⟨rfl,h2,by unfold RLogAt;rw [hlogc];exact h3,h4⟩,fun _ h=>absurd f h,fun h=>by rw [b] at h;cases h⟩)
 have T9:Hid (B=true->¬ V.used+N<=PL->∀ w',Below w.heap.size w w'->RCom Bd sb lb z g E D' VE B (V.used+N<=PL) w (.returned (.int .i64 90)) w'):=hid (fun b f w' h=>⟨fun _ h=>absurd h f,fun _ _=>⟨rfl,h⟩,fun h=>by rw [b] at h;cases h⟩)
 have T2:Hid (B=false->∀ w',Below w.heap.size w w'->RCom Bd sb lb z g E D' VE B (V.used+N<=PL) w (.returned (.int .i64 2)) w'):=hid (fun b w' h=>⟨(fun h=>by rw [b] at h;cases h),(fun h=>by rw [b] at h;cases h),fun _=>⟨rfl,h⟩⟩)
 generalize RCom Bd sb lb z g E D' VE B (V.used+N<=PL) w=P at *
 have hlbw:Hid (lb < w.heap.size):=hid hL.lt
 obtain ⟨TL,hTL⟩:∃ TL,Jr.told t V.seq=TL:=⟨_,rfl⟩
 rw [hTL] at qB0 qK0
 have hsq:=hq
 have HQ:=hid hq
 have HLB:=hid hlb
 have hu0:V.used<=100000:=hu
 have hp0:V.place<=1000000:=hp
 have HVE:=hid hVE
 clear hVE
 have hpl2:0 < PL/\PL<=1000:=by omega
 obtain ⟨NP,hNP⟩:∃ NP,(V.place+N) % PL=NP:=⟨_,rfl⟩
 have hNP2:NP < PL:=by rw [<- hNP];exact Nat.mod_lt _ hpl2.1
 have HNP:=hid hNP
 clear hNP
 obtain ⟨NC,hNC⟩:∃ NC,t.ch.length=NC:=⟨_,rfl⟩
 obtain ⟨NR,hNR⟩:∃ NR,t.rv.length=NR:=⟨_,rfl⟩
 obtain ⟨v1,v2,v3,v4⟩:=V
 dsimp only at *
 obtain rfl:=hb
 rw [hNC,hNR] at qM0 qS0 qB0 ⊢
 have B1:Below w.heap.size w (w.alloc (.cells #[.slice ac NC cc,.slice ar NR cr] 25)):=(Below.refl w.heap.size w).alloc (Nat.le_refl _) _
 have HL1:=hid (hL9.alloc (.cells #[.slice ac NC cc,.slice ar NR cr] 25))
 have HT1:=hid (Row.new w 25 [.slice ac NC cc,.slice ar NR cr] rfl)
 have HB1:=hid B1
 have c13:=HL1.out.cellAt 13 rfl
 have x0:=HT1.out.cellAt 0 rfl
 have x1:=HT1.out.cellAt 1 rfl
 clear B1 hL9
 go_enter Tryz.func55,Tryz.ntmps55
 go_upto_region 3 with fail
 generalize w.alloc _=w1 at *
 have s1:Below w1.heap.size w1 w1.drew:=(Below.refl _ _).drew
 have KEEP:Hid (∀ wz,Below w1.heap.size w1 wz->(wz.cell? ⟨lb,1,none⟩=some (.int .i64 g1)/\wz.cell? ⟨lb,2,none⟩=some (.int .i64 g2)/\wz.cell? ⟨lb,3,none⟩=some (.int .i64 g3)/\wz.cell? ⟨lb,4,none⟩=some (.int .i64 g4)/\wz.cell? ⟨lb,5,none⟩=some (.int .i64 g5)/\wz.cell? ⟨lb,6,none⟩=some (.int .i64 g6)/\wz.cell? ⟨lb,7,none⟩=some (.int .i64 g7)/\wz.cell? ⟨lb,8,none⟩=some (.int .i64 g8)/\wz.cell? ⟨lb,9,none⟩=some (.int .i64 g9))/\wz.cell? ⟨w.heap.size,0,none⟩=some (.slice ac NC cc)/\wz.cell? ⟨w.heap.size,1,none⟩=some (.slice ar NR cr)):=hid (fun wz hz=>by
  have R:=HL1.out.below hz HL1.out.lt;have X:=HT1.out.below hz HT1.out.lt;exact ⟨⟨R.cellAt 1 rfl,R.cellAt 2 rfl,R.cellAt 3 rfl,R.cellAt 4 rfl,R.cellAt 5 rfl,R.cellAt 6 rfl,R.cellAt 7 rfl,R.cellAt 8 rfl,R.cellAt 9 rfl⟩,X.cellAt 0 rfl,X.cellAt 1 rfl⟩)
 have qM:=hid (fun wz (hz:Below w1.heap.size w1 wz)=>qM0.out wz (below_next HB1.out hz))
 have qC:=hid (fun wz (hz:Below w1.heap.size w1 wz)=>qC0.out wz (below_next HB1.out hz))
 clear qM0 qC0 hcell hlogc hg hC hI hX hl hr hcx hrx hdx hsz hL h1 hB hNC hNR hN hPL hpl hE hD' hTL hD hlb hXs hcr hok hq hsq ha hbsz hu hp
 refine wp_region_E (S:=fun w'=>(w'.cell? ⟨lb,1,none⟩=some (.int .i64 g1)/\w'.cell? ⟨lb,2,none⟩=some (.int .i64 g2)/\w'.cell? ⟨lb,3,none⟩=some (.int .i64 g3)/\w'.cell? ⟨lb,4,none⟩=some (.int .i64 g4)/\w'.cell? ⟨lb,5,none⟩=some (.int .i64 g5)/\w'.cell? ⟨lb,6,none⟩=some (.int .i64 g6)/\w'.cell? ⟨lb,7,none⟩=some (.int .i64 g7)/\w'.cell? ⟨lb,8,none⟩=some (.int .i64 g8)/\w'.cell? ⟨lb,9,none⟩=some (.int .i64 g9))/\w'.cell? ⟨w.heap.size,0,none⟩=some (.slice ac NC cc)/\w'.cell? ⟨w.heap.size,1,none⟩=some (.slice ar NR cr)) (E:=[]) (by kernel_rfl) (KEEP.out _ s1) (fun hHeld hCl=>?_)
 refine tk5 hCl hHeld 0 (.pointer (some ⟨lb,0,none⟩)) 1 (.pointer (some ⟨lb,0,none⟩)) 2 (.pointer (some ⟨lb,1,none⟩)) 3 (.agg #[.int .i64 g1,.int .i64 g2,.int .i64 g3,.int .i64 g4,.int .i64 g5,.int .i64 g6,.int .i64 g7,.int .i64 g8,.int .i64 g9]) 4 (.agg #[.slice ac NC cc,.slice ar NR cr]) fun hCl=>?_;(try simp only [lL,Act.put])
 refine rd1 5 fun K hK=>?_
 go_simp
 go_at_call 93
 (with_reducible refine (qM.out _ s1).mono ?_)
 rintro e wa ⟨rfl,ba⟩
 have sa:Below w1.heap.size w1 wa:=below_next s1 ba
 refine dn hK hCl (KEEP.out _ sa) ?_;clear hK K hHeld hCl;intro hHeld hCl;(try simp only [lL,Act.put])
 refine tk6 hCl hHeld 6 (.bool false) 7 (.bool false) 8 (.pointer (some ⟨lb,0,none⟩)) 9 (.pointer (some ⟨lb,0,none⟩)) 10 (.pointer (some ⟨lb,1,none⟩)) 11 (.agg #[.int .i64 g1,.int .i64 g2,.int .i64 g3,.int .i64 g4,.int .i64 g5,.int .i64 g6,.int .i64 g7,.int .i64 g8,.int .i64 g9]) fun hCl=>?_;(try simp only [lL,Act.put])
 refine tk1 hCl hHeld 12 (.slice ad data.length cd) fun hCl=>?_;(try simp only [lL,Act.put])
 refine rd1 13 fun K hK=>?_
 go_simp
 go_at_call 94
 (with_reducible refine (qC.out _ sa).mono ?_)
 rintro e wb ⟨rfl,bb⟩
 have sb2:Below w1.heap.size w1 wb:=below_next sa bb
 refine dn hK hCl (KEEP.out _ sb2) ?_;clear hK K hHeld hCl;intro hHeld hCl;(try simp only [lL,Act.put])
 refine tk2 hCl hHeld 14 (.bool (!B)) 15 (.bool (!B)) fun hCl=>?_;(try simp only [lL,Act.put])
 refine wpAnyE_done (by kernel_rfl) ?_ _
 have HS:=hid sb2
 have HB2:=hid (below_next HB1.out HS.out)
 have HLw:=hid (HL1.out.below HS.out HL1.out.lt)
 have HTw:=hid (HT1.out.below HS.out HT1.out.lt)
 have y0:=HTw.out.cellAt 0 rfl
 have y1:=HTw.out.cellAt 1 rfl
 clear hHeld hCl x0 x1 KEEP qM qC s1 sa ba bb sb2
 cases B
 case false =>
  (try simp only [Bool.not_false]);go_wp2_with fail;exact T2.out (by simp) _ HB2.out
 (try simp only [Bool.not_true])
 by_cases h3:v2+N<=PL
 case neg =>
  have h5:(PL:Int) - (v2:Int) < (N:Int):=(by omega);replace T9:=hid (T9.out (by simp) h3);clear h3;go_wp2_with (first | (go_at_call 13;(with_reducible refine (qS0.out _).mono ?_);rintro e wc2 ⟨rfl,bc⟩;have HLc:=hid (HLw.out.below bc HLw.out.lt)) | (go_at_call 31;(with_reducible refine (qR.out _ HLc.out).mono ?_);rintro e wd ⟨rfl,bd⟩));exact T9.out _ (below_next (below_next HB2.out bc) bd)
 have hu3:v2+N<=1000000:=by omega
 have hp3:v1+N<=3000000:=by omega
 have h5:¬ (PL:Int) - (v2:Int) < (N:Int):=by omega
 replace TD:=hid (TD.out (by simp) h3)
 replace qK0:=hid (qK0.out h3)
 replace qB0:=hid (qB0.out h3)
 clear T2 T9 hu0 hp0
 have HN3:=hid h3
 clear h3
 go_wp2_with (first | (go_at_call 13;(with_reducible refine (qS0.out _).mono ?_);rintro e wc2 ⟨rfl,bc⟩;have HLc:=hid (HLw.out.below bc HLw.out.lt)) | (go_at_call 31;(with_reducible refine (qR.out _ HLc.out).mono ?_);rintro e wd ⟨rfl,bd⟩))
 have HBd:=hid (below_next (below_next HB2.out bc) bd)
 have HLd:=hid (HLc.out.below bd HLc.out.lt)
 have HTd:=hid ((HTw.out.below bc HTw.out.lt).below bd (HTw.out.below bc HTw.out.lt).lt)
 have K7:Hid (∀ wz,Below wd.heap.size wd wz->(wz.cell? ⟨w.heap.size,0,none⟩=some (.slice ac NC cc)/\wz.cell? ⟨w.heap.size,1,none⟩=some (.slice ar NR cr))/\wz.cell? ⟨lb,11,none⟩=some (.int .u64 (v3:Int))):=hid (fun wz hz=>by
  have R:=HLd.out.below hz HLd.out.lt;have X:=HTd.out.below hz HTd.out.lt;exact ⟨⟨X.cellAt 0 rfl,X.cellAt 1 rfl⟩,R.cellAt 11 rfl⟩)
 have qB:=hid (fun wz (hz:Below wd.heap.size wd wz)=>qB0.out wz (below_next HBd.out hz))
 have qK:Hid (∀ we vb,Below wd.heap.size wd we->we.ownsRow wd.heap.size 9 1 vb TL.length (strs TL)->Calls Tryz.prog 95 #[.pointer (some ⟨lb,0,none⟩),vb,.slice ad data.length cd] we fun e w'=>RTold Bd sb z E D' we e w'):=hid (fun we vb hz ho=>qK0.out wd we vb HBd.out hz ho)
 clear bc bd HLc y0 y1 h5 qB0 qK0 qR
 have hTn:Hid (w.heap.size ∉ refB sb z/\lb ≠ w.heap.size):=hid ⟨fun hk=>absurd (hblt.out _ hk) (Nat.lt_irrefl _),by have:=hlbw.out;omega⟩
 refine wp_region_E (S:=fun w'=>(w'.cell? ⟨w.heap.size,0,none⟩=some (.slice ac NC cc)/\w'.cell? ⟨w.heap.size,1,none⟩=some (.slice ar NR cr))/\w'.cell? ⟨lb,11,none⟩=some (.int .u64 (v3:Int))) (E:=[12]) (by kernel_rfl) (K7.out _ (Below.refl _ _).drew) (fun hHeld hCl=>?_)
 refine tk6 hCl hHeld 0 (.pointer (some ⟨lb,0,none⟩)) 1 (.pointer (some ⟨lb,0,none⟩)) 2 (.agg #[.slice ac NC cc,.slice ar NR cr]) 3 (.pointer (some ⟨lb,0,none⟩)) 4 (.pointer (some ⟨lb,0,none⟩)) 5 (.pointer (some ⟨lb,11,none⟩)) fun hCl=>?_;(try simp only [lL,Act.put])
 refine tk2 hCl hHeld 6 (.int .u64 (v3:Int)) 8 (.slice ad data.length cd) fun hCl=>?_;(try simp only [lL,Act.put])
 refine rd1 7 fun K hK=>?_
 go_simp
 go_at_call 96
 (with_reducible refine (qB.out _ (Below.refl _ _).drew).mono ?_)
 rintro e we ⟨vb,rfl,hown,hbe'⟩
 have hbe:Below wd.heap.size wd we:=⟨hbe'.os,hbe'.tape,hbe'.output,hbe'.size,hbe'.block⟩
 refine dn hK hCl (K7.out _ hbe) ?_;clear hK K hHeld hCl;intro hHeld hCl;(try simp only [lL,Act.put])
 have hown2:we.ownsRow wd.heap.size 9 1 vb TL.length (strs TL):=hown
 refine rd1 9 fun K hK=>?_
 go_simp
 go_at_call 95
 (with_reducible refine (qK.out we vb hbe hown2).mono ?_)
 rintro e w8 ⟨rfl,hd8,ho8⟩
 have R8:=ho8.row (HLd.out.below hbe HLd.out.lt) HLB.out
 have X8:=ho8.row (HTd.out.below hbe HTd.out.lt) hTn.out.1
 have z8:=R8.cellAt 13 rfl
 have f8:=R8.free 13 (by simp)
 refine dn hK hCl (⟨⟨X8.cellAt 0 rfl,X8.cellAt 1 rfl⟩,R8.cellAt 11 rfl⟩) ?_;clear hK K hHeld hCl;intro hHeld hCl;(try simp only [lL,Act.put])
 refine rd1 10 fun K hK=>?_
 go_simp
 refine dn hK hCl (⟨⟨X8.cellAt 0 rfl,X8.cellAt 1 rfl⟩,R8.cellAt 11 rfl⟩) ?_;clear hK K hHeld hCl;intro hHeld hCl;(try simp only [lL,Act.put])
 refine rd1 11 fun K hK=>?_
 go_simp
 refine dn hK hCl (⟨⟨X8.cellAt 0 rfl,X8.cellAt 1 rfl⟩,R8.cellAt 11 rfl⟩) ?_;clear hK K hHeld hCl;intro hHeld hCl;(try simp only [lL,Act.put])
 refine rd1 12 fun K hK=>?_
 go_simp
 refine hK.out _ _ (fun h=>by cases h) (fun _=>?_);clear hK K;(try simp only [lL,Act.put])
 refine wpAnyE_done (by kernel_rfl) ?_ _
 have hd9:=hid (hd8.log lb 13 (.int .i64 E) HLB.out)
 have hO8:Only (lb :: refB sb z) w w8:=((Only.ofBelow HBd.out).trans (Only.ofBelow hbe)).trans (ho8.sub (fun k hk=>List.mem_cons_of_mem _ hk))
 have ho9:=hid (hO8.trans (Only.setCell w8 ⟨lb,13,none⟩ (.int .i64 E) (by simp)))
 have HR9:=hid (R8.set 13 (.int .i64 E))
 have HT9:=hid (X8.other (a:=⟨lb,13,none⟩) (by have:=hTn.out.2;dsimp only;omega) (.int .i64 E))
 clear R8 X8 z8 f8 hd8 ho8 hO8 hHeld hCl qB qK K7 hown hbe hbe'
 generalize w8.setCell _ _=w9 at *
 have x13:=HR9.out.cellAt 13 rfl
 by_cases h0:E=0
 case neg =>
  have b1:(E == 0)=false:=(by rw [beq_eq_false_iff_ne];exact h0);go_wp2_with fail;exact TD.out _ ⟨v1,v2,v3,E⟩ (by rw [HVE.out,if_neg h0]) hd9.out HR9.out ho9.out
 subst h0
 have HV:=hid (show (⟨NP,v2+N,(v3+1) % 18446744073709551616,0⟩:LogV)=VE from by rw [HVE.out,if_pos rfl,HNP.out])
 have e1:IntKind.i64.wrap ((v1:Int)+(N:Int))=(v1:Int)+(N:Int):=IntWalk.i64_in _ (by omega)
 have e2:((v1:Int)+(N:Int)).tmod (PL:Int)=(NP:Int):=by rw [<- HNP.out,<- Int.natCast_add,Int.tmod_eq_emod_of_nonneg (by omega)];rfl
 have e3:IntKind.i64.wrap (NP:Int)=(NP:Int):=IntWalk.i64_in _ (by omega)
 have e4:¬ (PL:Int)=0:=by omega
 have e4n:¬ PL=0:=by omega
 have e4':((PL:Int) == 0)=false:=by rw [beq_eq_false_iff_ne];exact e4
 have e5:IntKind.i64.wrap ((v2:Int)+(N:Int))=(v2:Int)+(N:Int):=IntWalk.i64_in _ (by omega)
 have e6:IntKind.u64.wrap ((v3:Int)+1)=(((v3+1) % 18446744073709551616:Nat):Int):=by unfold IntKind.wrap;simp [IntKind.bits,IntKind.signed]
 have K9:Hid (∀ wz,Below w9.heap.size w9 wz->(wz.cell? ⟨lb,1,none⟩=some (.int .i64 g1)/\wz.cell? ⟨lb,2,none⟩=some (.int .i64 g2)/\wz.cell? ⟨lb,3,none⟩=some (.int .i64 g3)/\wz.cell? ⟨lb,4,none⟩=some (.int .i64 g4)/\wz.cell? ⟨lb,5,none⟩=some (.int .i64 g5)/\wz.cell? ⟨lb,6,none⟩=some (.int .i64 g6)/\wz.cell? ⟨lb,7,none⟩=some (.int .i64 g7)/\wz.cell? ⟨lb,8,none⟩=some (.int .i64 g8)/\wz.cell? ⟨lb,9,none⟩=some (.int .i64 g9))/\(wz.cell? ⟨w.heap.size,0,none⟩=some (.slice ac NC cc)/\wz.cell? ⟨w.heap.size,1,none⟩=some (.slice ar NR cr))/\wz.cell? ⟨lb,10,none⟩=some (.int .i64 (v1:Int))):=hid (fun wz hz=>by
  have R:=HR9.out.below hz HR9.out.lt;have X:=HT9.out.below hz HT9.out.lt;exact ⟨⟨R.cellAt 1 rfl,R.cellAt 2 rfl,R.cellAt 3 rfl,R.cellAt 4 rfl,R.cellAt 5 rfl,R.cellAt 6 rfl,R.cellAt 7 rfl,R.cellAt 8 rfl,R.cellAt 9 rfl⟩,⟨X.cellAt 0 rfl,X.cellAt 1 rfl⟩,R.cellAt 10 rfl⟩)
 have qP:=qP0
 clear qP0
 go_upto_region 9 with fail
 refine wp_region_E (S:=fun w'=>(w'.cell? ⟨lb,1,none⟩=some (.int .i64 g1)/\w'.cell? ⟨lb,2,none⟩=some (.int .i64 g2)/\w'.cell? ⟨lb,3,none⟩=some (.int .i64 g3)/\w'.cell? ⟨lb,4,none⟩=some (.int .i64 g4)/\w'.cell? ⟨lb,5,none⟩=some (.int .i64 g5)/\w'.cell? ⟨lb,6,none⟩=some (.int .i64 g6)/\w'.cell? ⟨lb,7,none⟩=some (.int .i64 g7)/\w'.cell? ⟨lb,8,none⟩=some (.int .i64 g8)/\w'.cell? ⟨lb,9,none⟩=some (.int .i64 g9))/\(w'.cell? ⟨w.heap.size,0,none⟩=some (.slice ac NC cc)/\w'.cell? ⟨w.heap.size,1,none⟩=some (.slice ar NR cr))/\w'.cell? ⟨lb,10,none⟩=some (.int .i64 (v1:Int))) (E:=[14,15,16]) (by kernel_rfl) (K9.out _ (Below.refl _ _).drew) (fun hHeld hCl=>?_)
 refine tk6 hCl hHeld 0 (.pointer (some ⟨lb,0,none⟩)) 1 (.pointer (some ⟨lb,0,none⟩)) 2 (.pointer (some ⟨lb,0,none⟩)) 3 (.pointer (some ⟨lb,10,none⟩)) 4 (.int .i64 (v1:Int)) 5 (.agg #[.slice ac NC cc,.slice ar NR cr]) fun hCl=>?_;(try simp only [lL,Act.put])
 refine tk4 hCl hHeld 8 (.pointer (some ⟨lb,0,none⟩)) 9 (.pointer (some ⟨lb,0,none⟩)) 10 (.pointer (some ⟨lb,1,none⟩)) 11 (.agg #[.int .i64 g1,.int .i64 g2,.int .i64 g3,.int .i64 g4,.int .i64 g5,.int .i64 g6,.int .i64 g7,.int .i64 g8,.int .i64 g9]) fun hCl=>?_;(try simp only [lL,Act.put])
 refine rd1 6 fun K hK=>?_
 go_simp
 go_at_call 13
 (with_reducible refine (qS0.out _).mono ?_)
 rintro e wf ⟨rfl,bf'⟩
 have bf:Below w9.heap.size w9 wf:=⟨bf'.os,bf'.tape,bf'.output,bf'.size,bf'.block⟩
 refine dn hK hCl (K9.out _ bf) ?_;clear hK K hHeld hCl;intro hHeld hCl;(try simp only [lL,Act.put])
 refine tk1 hCl hHeld 7 (.int .i64 ((v1:Int)+(N:Int))) fun hCl=>?_;(try simp only [lL,Act.put])
 refine rd1 12 fun K hK=>?_
 go_simp
 go_at_call 81
 (with_reducible refine (qP.out _).mono ?_)
 rintro e wg ⟨rfl,bg'⟩
 have bg:Below w9.heap.size w9 wg:=bf.trans (bg'.mono bf.size)
 refine dn hK hCl (K9.out _ bg) ?_;clear hK K hHeld hCl;intro hHeld hCl;(try simp only [lL,Act.put])
 refine tk1 hCl hHeld 13 (.int .i64 (NP:Int)) fun hCl=>?_;(try simp only [lL,Act.put])
 have Rg:=HR9.out.below bg HR9.out.lt
 have zg:=Rg.cellAt 10 rfl
 have fg:=Rg.free 10 (by simp)
 refine rd1 14 fun K hK=>?_
 go_simp
 refine hK.out _ _ (fun h=>by cases h) (fun _=>?_);clear hK K;(try simp only [lL,Act.put])
 refine rd1 15 fun K hK=>?_
 go_simp
 refine hK.out _ _ (fun h=>by cases h) (fun _=>?_);clear hK K;(try simp only [lL,Act.put])
 refine rd1 16 fun K hK=>?_
 go_simp
 refine hK.out _ _ (fun h=>by cases h) (fun _=>?_);clear hK K;(try simp only [lL,Act.put])
 refine wpAnyE_done (by kernel_rfl) ?_ _
 have HR10:=hid (Rg.set 10 (.int .i64 (NP:Int)))
 have HT10:=hid ((HT9.out.below bg HT9.out.lt).other (a:=⟨lb,10,none⟩) (by have:=hTn.out.2;dsimp only;omega) (.int .i64 (NP:Int)))
 have hd10:=hid ((hd9.out.below bg).log lb 10 (.int .i64 (NP:Int)) HLB.out)
 have ho10:=hid ((ho9.out.trans (Only.ofBelow bg)).trans (Only.setCell wg ⟨lb,10,none⟩ (.int .i64 (NP:Int)) (by simp)))
 clear Rg zg fg bf bf' bg bg' hHeld hCl K9 qP HR9 HT9 hd9 ho9 x13
 generalize wg.setCell _ _=w10 at *
 have K10:Hid (∀ wz,Below w10.heap.size w10 wz->(wz.cell? ⟨w.heap.size,0,none⟩=some (.slice ac NC cc)/\wz.cell? ⟨w.heap.size,1,none⟩=some (.slice ar NR cr))/\wz.cell? ⟨lb,12,none⟩=some (.int .i64 (v2:Int))):=hid (fun wz hz=>by
  have R:=HR10.out.below hz HR10.out.lt;have X:=HT10.out.below hz HT10.out.lt;exact ⟨⟨X.cellAt 0 rfl,X.cellAt 1 rfl⟩,R.cellAt 12 rfl⟩)
 go_upto_region 10 with fail
 refine wp_region_E (S:=fun w'=>(w'.cell? ⟨w.heap.size,0,none⟩=some (.slice ac NC cc)/\w'.cell? ⟨w.heap.size,1,none⟩=some (.slice ar NR cr))/\w'.cell? ⟨lb,12,none⟩=some (.int .i64 (v2:Int))) (E:=[8,9,10]) (by kernel_rfl) (K10.out _ (Below.refl _ _).drew) (fun hHeld hCl=>?_)
 refine tk6 hCl hHeld 0 (.pointer (some ⟨lb,0,none⟩)) 1 (.pointer (some ⟨lb,0,none⟩)) 2 (.pointer (some ⟨lb,0,none⟩)) 3 (.pointer (some ⟨lb,12,none⟩)) 4 (.int .i64 (v2:Int)) 5 (.agg #[.slice ac NC cc,.slice ar NR cr]) fun hCl=>?_;(try simp only [lL,Act.put])
 refine rd1 6 fun K hK=>?_
 go_simp
 go_at_call 13
 (with_reducible refine (qS0.out _).mono ?_)
 rintro e wi ⟨rfl,bi'⟩
 have bi:Below w10.heap.size w10 wi:=⟨bi'.os,bi'.tape,bi'.output,bi'.size,bi'.block⟩
 refine dn hK hCl (K10.out _ bi) ?_;clear hK K hHeld hCl;intro hHeld hCl;(try simp only [lL,Act.put])
 refine tk1 hCl hHeld 7 (.int .i64 ((v2:Int)+(N:Int))) fun hCl=>?_;(try simp only [lL,Act.put])
 have Ri:=HR10.out.below bi HR10.out.lt
 have zi:=Ri.cellAt 12 rfl
 have fi:=Ri.free 12 (by simp)
 refine rd1 8 fun K hK=>?_
 go_simp
 refine hK.out _ _ (fun h=>by cases h) (fun _=>?_);clear hK K;(try simp only [lL,Act.put])
 refine rd1 9 fun K hK=>?_
 go_simp
 refine hK.out _ _ (fun h=>by cases h) (fun _=>?_);clear hK K;(try simp only [lL,Act.put])
 refine rd1 10 fun K hK=>?_
 go_simp
 refine hK.out _ _ (fun h=>by cases h) (fun _=>?_);clear hK K;(try simp only [lL,Act.put])
 refine wpAnyE_done (by kernel_rfl) ?_ _
 have HR11:=hid (Ri.set 12 (.int .i64 ((v2:Int)+(N:Int))))
 have hd11:=hid ((hd10.out.below bi).log lb 12 (.int .i64 ((v2:Int)+(N:Int))) HLB.out)
 have ho11:=hid ((ho10.out.trans (Only.ofBelow bi)).trans (Only.setCell wi ⟨lb,12,none⟩ (.int .i64 ((v2:Int)+(N:Int))) (by simp)))
 clear Ri zi fi bi bi' hHeld hCl K10 HR10 HT10 hd10 ho10
 generalize wi.setCell _ _=w11 at *
 have x11:=HR11.out.cellAt 11 rfl
 have f11:=HR11.out.free 11 (by simp)
 have x13:=HR11.out.cellAt 13 rfl
 have x13':=(HR11.out.set 11 (.int .u64 (((v3+1) % 18446744073709551616:Nat):Int))).cellAt 13 rfl
 have HR12:=hid (HR11.out.set 11 (.int .u64 (((v3+1) % 18446744073709551616:Nat):Int)))
 have hd12:=hid (hd11.out.log lb 11 (.int .u64 (((v3+1) % 18446744073709551616:Nat):Int)) HLB.out)
 have ho12:=hid (ho11.out.trans (Only.setCell w11 ⟨lb,11,none⟩ (.int .u64 (((v3+1) % 18446744073709551616:Nat):Int)) (by simp)))
 go_wp2_with fail
 exact TD.out _ ⟨NP,v2+N,(v3+1) % 18446744073709551616,0⟩ HV.out hd12.out (by have:=HR12.out;dsimp only;rw [Int.natCast_add];exact this) ho12.out
end Go.Proofs.YtnpdhidliaahbaaGreat
