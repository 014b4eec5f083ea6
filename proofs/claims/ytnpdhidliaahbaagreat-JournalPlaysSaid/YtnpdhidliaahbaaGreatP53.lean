/- The document's records: Mask, Unmask. -/
import Derived.Test.YtnpdhidliaahbaaGreatP17
import Derived.Test.YtnpdhidliaahbaaGreatP52
import Derived.Test.YtnpdhidliaahbaaGreatP50
import Derived.Test.YtnpdhidliaahbaaGreatP49
import Derived.Test.YtnpdhidliaahbaaGreatP20
import Derived.Test.YtnpdhidliaahbaaGreatP25
set_option maxRecDepth 100000
set_option maxHeartbeats 32000000
set_option linter.unusedSimpArgs false
set_option linter.unusedVariables false
namespace Go.Proofs.YtnpdhidliaahbaaGreat
open Go.Lib (hid)
open Go Go.RowKit
theorem dunmask_any (s:ByteArray) (w:World) (hs:s.size<=9223372036854775000) :
  Calls Tryz.prog 157 #[.string s] w fun e w'=>e=.returned (.string (txt (Rec.unmask s.data.toList)))/\w'=w:=by
 unfold Rec.unmask
 rw [list_length]
 by_cases k:s.size < 4
 ·have h1:(s.size:Int) < 4:=(by omega);rw [if_pos k,txt_of];clear k;go_enter Tryz.func157,Tryz.ntmps157;go_wp2_with fail;go_ret;exact ⟨rfl,rfl⟩
 ·have h1:¬ (s.size:Int) < 4:=(by omega);have h4j:(4:Int)<=(s.size:Int):=(by omega);have h4:4<=s.size:=(by omega);rw [if_neg k];have he:=hid (extract_drop s 4);have hc:Hid ((⟨#[71,76,74,119]⟩:ByteArray) ++ txt (s.data.toList.drop 4)=txt (Rec.magic ++ s.data.toList.drop 4)):=hid (by rw [<- txt_append];rfl);have hl:(txt (s.data.toList.drop 4)).size<=9223372036854775000:=(by rw [txt_size,List.length_drop,list_length];omega);generalize txt (Rec.magic ++ s.data.toList.drop 4)=R at *;generalize txt (s.data.toList.drop 4)=T at *;have hT:=hid he.out.symm;have hcat3:¬ 9223372036854775807 < 4+(s.extract 4 s.size).size:=(by rw [he.out];omega);have hcat4:4+(s.extract 4 s.size).size<=9223372036854775807:=(by rw [he.out];omega);clear k;go_enter Tryz.func157,Tryz.ntmps157;go_wp2_with fail;go_ret;exact ⟨by rw [<- hc.out,<- he.out];rfl,rfl⟩
theorem dmask_any (s:ByteArray) (w:World) (hs:s.size<=9223372036854775000) :
  Calls Tryz.prog 133 #[.string s] w fun e w'=>e=.returned (.tuple #[.string (txt (Rec.mask s.data.toList).1),.bool (Rec.mask s.data.toList).2])/\w'=w:=by
 unfold Rec.mask
 by_cases k4:s.size < 4
 ·have h1:(s.size:Int) < 4:=(by omega);have k:¬ s.data.toList.take 4=Rec.magic:=fun h=>by
   have:=congrArg List.length h;rw [List.length_take,list_length] at this;have e:Rec.magic.length=4:=rfl;omega
  rw [if_neg k];dsimp only;rw [txt_of];clear k k4;go_enter Tryz.func133,Tryz.ntmps133;go_wp2_with fail;go_ret2;exact ⟨rfl,rfl⟩
 have h1:¬ (s.size:Int) < 4:=by omega
 have h4:4<=s.size:=by omega
 have h4j:(4:Int)<=(s.size:Int):=by omega
 have hm:=head4 s
 by_cases k:s.data.toList.take 4=Rec.magic
 ·rw [decide_eq_true k] at hm;have hm2:(!(s.extract 0 4).toList == [71,76,74,119])=false:=by rw [hm];rfl
  rw [if_pos k];dsimp only;have he:=hid (extract_drop s 4);have hc:Hid ((⟨#[0,0,0,0]⟩:ByteArray) ++ txt (s.data.toList.drop 4)=txt ([0,0,0,0] ++ s.data.toList.drop 4)):=hid (by rw [<- txt_append];rfl);have hl:(txt (s.data.toList.drop 4)).size<=9223372036854775000:=by rw [txt_size,List.length_drop,list_length];omega
  generalize txt ([0,0,0,0] ++ s.data.toList.drop 4)=R at *;generalize txt (s.data.toList.drop 4)=T at *;have hcat3:¬ 9223372036854775807 < 4+(s.extract 4 s.size).size:=by rw [he.out];omega
  have hcat4:4+(s.extract 4 s.size).size<=9223372036854775807:=(by rw [he.out];omega);clear k k4;go_enter Tryz.func133,Tryz.ntmps133;go_wp2_with fail;go_ret2;exact ⟨by rw [<- hc.out,<- he.out];rfl,rfl⟩
 ·rw [decide_eq_false k] at hm;have hm2:(!(s.extract 0 4).toList == [71,76,74,119])=true:=by rw [hm];rfl
  rw [if_neg k];dsimp only;rw [txt_of];clear k k4;go_enter Tryz.func133,Tryz.ntmps133;go_wp2_with fail;go_ret2;exact ⟨rfl,rfl⟩
def refB (b:Nat) (z:RLay):List Nat:=[b,z.gn,z.gw,z.gp]
def RTold (Bd sb:Nat) (z:RLay) (E:Int) (D':Dev) (w:World) (e:Ending) (w':World):Prop:=e=.returned (.int .i64 E)/\RefAt Bd w' sb z D'/\Only (refB sb z) w w'
theorem rwrite_told {Bd sb:Nat} {z:RLay} {D:Dev} {w:World} (h:RefAt Bd w sb z D) (i:Int) (t:ByteArray) (ht:t.size<=9223372036854775807) (ha:D.acts < 1000000000000) :
  Calls Tryz.prog 54 #[.pointer (some ⟨sb,0,none⟩),.int .i64 i,.string t] w fun e w'=>RTold Bd sb z (D.writeE i t) (D.write i t) w e w':=
 (rwrite_any h i t ht ha).mono fun e w' ⟨h1,h2,h3⟩=>⟨h1,h2,h3.sub (by simp [refB])⟩
theorem rflush_told {Bd sb:Nat} {z:RLay} {D:Dev} {w:World} (h:RefAt Bd w sb z D) (ha:D.acts < 1000000000000) :
  Calls Tryz.prog 124 #[.pointer (some ⟨sb,0,none⟩)] w fun e w'=>RTold Bd sb z D.flushE D.flush w e w':=
 (rflush_any h ha).mono fun e w' ⟨h1,h2,h3⟩=>⟨h1,h2,h3.sub (by simp [refB])⟩
theorem RefAt.refB_lt {Bd sb:Nat} {z:RLay} {D:Dev} {w:World} (h:RefAt Bd w sb z D):∀ k ∈ refB sb z,k < w.heap.size:=by
 have:=h.bounds;unfold refB;simp;omega
theorem dwrite_any {Bd sb:Nat} {z:RLay} {D:Dev} (b:Int) (v:Value) (x:Rec.V) (w:World) (hD:RefAt Bd w sb z D) (hv:RecAt w v x) (hm:Rec.may x=true) (ha:D.acts < 1000000000000) :
  Calls Tryz.prog 125 #[.pointer (some ⟨sb,0,none⟩),.int .i64 b,v] w fun e w'=>RTold Bd sb z (D.writeE b (txt (Rec.rb x))) (D.write b (txt (Rec.rb x))) w e w':=by
 obtain ⟨⟨hv',mv,e1,hh,hm'⟩,hq,hs,hk,hat,hl⟩:=id hv
 obtain ⟨a1,c1,rfl⟩:=hh.form
 obtain ⟨a2,c2,rfl⟩:=hm'.form
 subst e1
 have BA:=(Below.refl w.heap.size w).alloc (Nat.le_refl _) (.cells #[.int .i64 x.kind,.int .u64 (x.seq:Int),.int .i64 x.at_,.slice a1 x.homes.length c1,.slice a2 x.masked.length c2,.int .u32 (x.sum:Int)] 61)
 have qE:=dencode_any _ x _ (hv.below BA)
 unfold Rec.encR at qE
 rw [if_pos hm] at qE
 dsimp only at qE
 have hsz:=hid (show (txt (Rec.rb x)).size<=9223372036854775807 by rw [txt_size,Rec.rb_length hm];decide)
 have HD:=hid hD
 have R0:=Row.new w 61 [.int .i64 x.kind,.int .u64 (x.seq:Int),.int .i64 x.at_,.slice a1 x.homes.length c1,.slice a2 x.masked.length c2,.int .u32 (x.sum:Int)] rfl
 obtain ⟨k0,k1,k2,k3,k4,k5⟩:=R0.c6
 have HBA:=hid BA
 have HE:=hid qE
 have HA:=hid ha
 clear hv hm hh hm' hD R0 BA qE ha
 generalize txt (Rec.rb x)=T at *
 go_enter Tryz.func125,Tryz.ntmps125
 go_wp2_with fail
 generalize w.alloc _=w1 at *
 refine HE.out.mono ?_
 rintro e w2 ⟨rfl,hb2⟩
 have B2:=hid (below_next HBA.out hb2)
 have qW:=hid (rwrite_told (HD.out.below B2.out) b T hsz.out HA.out)
 clear hb2 k0 k1 k2 k3 k4 k5
 go_wp2_with fail
 refine qW.out.mono ?_
 rintro e w3 ⟨rfl,hD3,ho3⟩
 have HD3:=hid hD3
 have HO3:=hid ((Only.ofBelow B2.out).trans ho3)
 clear hD3 ho3
 go_wp2_with fail
 go_ret
 exact ⟨rfl,HD3.out,HO3.out⟩
theorem rheader_any {Bd sb:Nat} {z:RLay} {D:Dev} (g:Geo.G) (hg:Geo.May g) (place seq:Nat) (hp:place<=510) (hq:seq < 2 ^ 64) (w:World) (hD:RefAt Bd w sb z D) (ha:D.acts+10 < 1000000000000) :
  Calls Tryz.prog 83 #[.pointer (some ⟨sb,0,none⟩),.agg (Geo.cells g),.int .i64 (place:Int),.int .u64 (seq:Int)] w fun e w'=>RTold Bd sb z (Jr.doA (Jr.headA place seq) D).2 (Jr.doA (Jr.headA place seq) D).1 w e w':=by
 have hlog:=hg.ok.2.1
 have hmay:Rec.may (⟨1,seq,(place:Int),[],[],0⟩:Rec.V)=true:=Jr.head_may hp
 have hB:txt (Rec.rb (⟨1,seq,(place:Int),[],[],0⟩:Rec.V))=Jr.headB place seq:=rfl
 obtain ⟨RES,hRES⟩:∃ RES,Jr.doA (Jr.headA place seq) D=RES:=⟨_,rfl⟩
 rw [hRES]
 have s1:D.flushE ≠ 0->RES=(D.flush,D.flushE):=fun h=>by
  rw [<- hRES];exact if_neg h
 have s2:D.flushE=0->D.flush.writeE 1 (Jr.headB place seq) ≠ 0->RES=(D.flush.write 1 (Jr.headB place seq),D.flush.writeE 1 (Jr.headB place seq)):=fun h h2=>by
  rw [<- hRES];exact (if_pos h).trans (if_neg h2)
 have s3:D.flushE=0->D.flush.writeE 1 (Jr.headB place seq)=0->RES=((D.flush.write 1 (Jr.headB place seq)).flush,(D.flush.write 1 (Jr.headB place seq)).flushE):=fun h h2=>by
  rw [<- hRES];exact (if_pos h).trans ((if_pos h2).trans (Jr.doA_one .flush _))
 have a1:=(Jr.run_acts .flush D).1
 have a2:=(Jr.run_acts (.write 1 (Jr.headB place seq)) D.flush).1
 have S1:=hid s1
 have S2:=hid s2
 have S3:=hid s3
 have qF:=hid (fun wz (hz:Below w.heap.size w wz)=>rflush_told (hD.below hz) (by omega))
 have hlt:=hid hD.refB_lt
 have A1:Hid (D.flush.acts+5 < 1000000000000):=hid (by have:=(show D.flush.acts<=D.acts+1 from a1);omega)
 have A2:Hid ((D.flush.write 1 (Jr.headB place seq)).acts < 1000000000000):=hid (by have:=(show D.flush.acts<=D.acts+1 from a1);have:=(show (D.flush.write 1 (Jr.headB place seq)).acts<=D.flush.acts+1 from a2);omega)
 have qW:=hid (fun wz (h:RefAt Bd wz sb z D.flush)=>dwrite_any 1 (.agg #[.int .i64 1,.int .u64 (seq:Int),.int .i64 (place:Int),.slice none 0 0,.slice none 0 0,.int .u32 0]) (⟨1,seq,(place:Int),[],[],0⟩:Rec.V) wz h (recat_lit wz 1 (place:Int) seq 0 (by decide) (by omega) hq (by decide)) hmay (by have:=A1.out;omega))
 rw [hB] at qW
 clear hD ha a1 a2 s1 s2 s3 hRES hmay hB hg hp hq
 generalize Jr.headB place seq=HB at *
 unfold Geo.cells at *
 obtain ⟨g1,g2,g3,g4,g5,g6,g7,g8,g9⟩:=g
 dsimp only at *
 subst hlog
 have qF2:=hid (fun wz (h:RefAt Bd wz sb z (D.flush.write 1 HB))=>rflush_told h A2.out)
 clear A1 A2
 generalize D.flushE=F at *
 generalize D.flush=D1 at *
 generalize D1.writeE 1 HB=W at *
 generalize D1.write 1 HB=D2 at *
 have BA:=hid ((Below.refl w.heap.size w).alloc (Nat.le_refl _) (.cells #[.int .i64 g1,.int .i64 g2,.int .i64 g3,.int .i64 1,.int .i64 g5,.int .i64 g6,.int .i64 g7,.int .i64 g8,.int .i64 g9] 30))
 have R0:=Row.new w 30 [.int .i64 g1,.int .i64 g2,.int .i64 g3,.int .i64 1,.int .i64 g5,.int .i64 g6,.int .i64 g7,.int .i64 g8,.int .i64 g9] rfl
 have HR0:=hid R0
 have hnb:Hid (w.heap.size ∉ refB sb z):=hid (fun hk=>absurd (hlt.out _ hk) (Nat.lt_irrefl _))
 obtain ⟨k0,k1,k2,k3,k4,k5,k6,k7,k8⟩:=R0.c9
 clear R0
 go_enter Tryz.func83,Tryz.ntmps83
 go_wp2_with fail
 generalize w.alloc _=w1 at *
 refine (qF.out _ BA.out).mono ?_
 rintro e w2 ⟨rfl,hD2,ho2⟩
 have O2:=hid ((Only.ofBelow (S:=refB sb z) BA.out).trans ho2)
 have R2:=ho2.row HR0.out hnb.out
 have HD2:=hid hD2
 have r3:=R2.cellAt 3 rfl
 have HR2:=hid R2
 clear qF k0 k1 k2 k3 k4 k5 k6 k7 k8 hD2 ho2 R2
 by_cases f1:F=0
 case neg =>
  have e1:=S1.out f1;have b1:(F != 0)=true:=(by rw [bne_iff_ne];exact f1);subst e1;clear f1 S1 S2 S3;go_wp2_with fail;go_ret;exact ⟨rfl,HD2.out,O2.out⟩
 have S2':=hid (S2.out f1)
 have S3':=hid (S3.out f1)
 subst f1
 clear S1 S2 S3
 have qW2:=hid (qW.out _ HD2.out)
 clear qW
 go_wp2_with fail
 refine qW2.out.mono ?_
 rintro e w3 ⟨rfl,hD3,ho3⟩
 have O3:=hid (O2.out.trans ho3)
 have HD3:=hid hD3
 clear hD3 ho3 r3
 by_cases f2:W=0
 case neg =>
  have e1:=S2'.out f2;have b1:(W != 0)=true:=(by rw [bne_iff_ne];exact f2);subst e1;clear f2 S2' S3';go_wp2_with fail;go_ret;exact ⟨rfl,HD3.out,O3.out⟩
 have e1:=S3'.out f2
 subst f2
 subst e1
 have qF3:=hid (qF2.out _ HD3.out)
 clear S2' S3'
 go_wp2_with fail
 refine qF3.out.mono ?_
 rintro e w4 ⟨rfl,hD4,ho4⟩
 have HD4:=hid hD4
 have O4:=hid (O3.out.trans ho4)
 clear hD4 ho4
 go_wp2_with fail
 go_ret
 exact ⟨rfl,HD4.out,O4.out⟩
def StandTold (left:Nat) (RES:Option (Jr.Txn × List ByteArray)) (w:World) (e:Ending) (w':World):Prop:=
 (RES=none/\e=.returned (.tuple #[.agg #[.slice none 0 0,.slice none 0 0],.int .i64 0])/\Below w.heap.size w w') ∨
 ∃ (t:Jr.Txn) (rest:List ByteArray) (cv rv:Value),RES=some (t,rest)/\rest.length<=left/\e=.returned (.tuple #[.agg #[cv,rv],.int .i64 ((left - rest.length:Nat):Int)])/\OwnC w.heap.size w' cv t.ch/\OwnInts w.heap.size w' rv t.rv/\Below w.heap.size w w'
structure StandR (G:List Value) (w wr:World) (cv rv:Value) (t:Jr.Txn):Prop where
 geo:Row wr w.heap.size 30 G
 res:Row wr (w.heap.size+1) 25 [.slice none 0 0,.slice none 0 0]
 var:Row wr (w.heap.size+1+1) 25 [cv,rv]
 ch:OwnC w.heap.size wr cv t.ch
 rv:OwnInts w.heap.size wr rv t.rv
 bel:Below w.heap.size w wr
theorem StandR.below {G:List Value} {w wr wz:World} {cv rv:Value} {t:Jr.Txn} (h:StandR G w wr cv rv t) (hb:Below wr.heap.size wr wz):StandR G w wz cv rv t:=
 ⟨h.geo.below hb h.geo.lt,h.res.below hb h.res.lt,h.var.below hb h.var.lt,own_below h.ch hb,own_below h.rv hb,h.bel.trans (hb.mono h.bel.size)⟩
theorem StandR.drew {G:List Value} {w wr:World} {cv rv:Value} {t:Jr.Txn} (h:StandR G w wr cv rv t):StandR G w wr.drew cv rv t:=h.below (Below.refl _ _).drew
theorem StandR.drewN {G:List Value} {w wr:World} {cv rv:Value} {t:Jr.Txn} (h:StandR G w wr cv rv t) (n:Nat):StandR G w (wr.drewN n) cv rv t:=h.below (below_drewN (Below.refl _ _) n)
theorem StandR.pushR {G:List Value} {w w5 w6:World} {cv rv:Value} {t:Jr.Txn} {g5 c5:Nat} {hs:List Int} (h:StandR G w w5 cv rv t) (hgrow:w5.grownBy w6 rv.ownBlock) (hown:w6.ownsRow w.heap.size 3 1 (.slice (some ⟨g5,0,none⟩) (t.rv.length+hs.length) c5) (t.rv.length+hs.length) (icells t.rv ++ icells hs)) :
  StandR G w (w6.setCell ⟨w.heap.size+1+1,1,none⟩ (.slice (some ⟨g5,0,none⟩) (t.rv.length+hs.length) c5)) cv (.slice (some ⟨g5,0,none⟩) (t.rv.length+hs.length) c5) ⟨t.ch,t.rv ++ hs⟩:=by
 have r6:=row_grownR h.var h.rv hgrow (by decide)
 exact ⟨(row_grownR h.geo h.rv hgrow (by decide)).other (by dsimp only;omega) _,(row_grownR h.res h.rv hgrow (by decide)).other (by dsimp only;omega) _,r6.set 1 _,
  own_setR (a:=⟨w.heap.size+1+1,1,none⟩) r6 (own_otherR h.ch h.rv hgrow (by decide)) (by decide),
  by unfold OwnInts;rw [List.length_append,icells_append];exact own_setR (a:=⟨w.heap.size+1+1,1,none⟩) r6 hown (by decide),
  (h.bel.grown hgrow h.bel.size (fun j hj=>(World.ownsRow.lt h.rv j hj).1)).setCell (by dsimp only;omega) _⟩
theorem StandR.pushC {G:List Value} {w w5 w6:World} {cv rv:Value} {t:Jr.Txn} {g5 c5:Nat} {c:Jr.Chg} {o:Obj} (h:StandR G w w5 cv rv t) (hgrow:(w5.alloc o).grownBy w6 cv.ownBlock) (hown:w6.ownsRow w.heap.size 68 2 (.slice (some ⟨g5,0,none⟩) (t.ch.length+1) c5) (t.ch.length+1) (chgC t.ch ++ chgC [c])) :
  StandR G w (w6.setCell ⟨w.heap.size+1+1,0,none⟩ (.slice (some ⟨g5,0,none⟩) (t.ch.length+1) c5)) (.slice (some ⟨g5,0,none⟩) (t.ch.length+1) c5) rv ⟨t.ch ++ [c],t.rv⟩:=by
 have hC:=own_new1 h.ch o
 have r6:=row_grownR (h.var.alloc o) hC hgrow (by decide)
 exact ⟨(row_grownR (h.geo.alloc o) hC hgrow (by decide)).other (by dsimp only;omega) _,(row_grownR (h.res.alloc o) hC hgrow (by decide)).other (by dsimp only;omega) _,r6.set 0 _,
  by unfold OwnC;rw [List.length_append,chgC_append];exact own_setR (a:=⟨w.heap.size+1+1,0,none⟩) r6 hown (by decide),
  own_setR (a:=⟨w.heap.size+1+1,0,none⟩) r6 (own_otherR (own_new1 h.rv o) hC hgrow (by decide)) (by decide),
  ((h.bel.alloc h.bel.size o).grown hgrow (by have:=h.bel.size;simp;omega) (fun j hj=>(World.ownsRow.lt hC j hj).1)).setCell (by dsimp only;omega) _⟩
theorem blk_sized {g:Geo.G} (hg:Geo.May g) {D:Dev} (hk:(D.kept.length:Int)=g.blocks) (hsz:sized D.now) (hlen:D.now.length=D.kept.length) (p:Nat):(Jr.blk D.now (Jr.pb g p)).size=128:=by
 have h1:=Jr.pb_lt hg p;have hlt3:Jr.pb g p < D.now.length:=(by omega);unfold Jr.blk;rw [show D.now.getD (Jr.pb g p) ⟨#[]⟩=D.now[Jr.pb g p] by simp [List.getD,hlt3]];exact hsz _ (List.getElem_mem hlt3)
theorem ring_szd {g:Geo.G} {now:List ByteArray} (hB:∀ p,(Jr.blk now (Jr.pb g p)).size=128):∀ n p,sized (Jr.ring g now p n)
 | 0,_=>fun _ h=>by cases h
 | n+1,p=>fun s h=>by
  unfold Jr.ring at h;rcases List.mem_cons.1 h with rfl | h
  ·exact hB p
  ·exact ring_szd hB n (p+1) s h
theorem ring_cat {g:Geo.G} {now:List ByteArray} (hB:∀ p,(Jr.blk now (Jr.pb g p)).size=128) (p n i:Nat):(cat ((Jr.ring g now p n).take i)).length<=i * 128:=by
 rw [cat_length _ (fun s h=>ring_szd hB n p s (List.mem_of_mem_take h)),List.length_take];exact Nat.mul_le_mul_right _ (Nat.min_le_left _ _)
theorem rstand_any {Bd sb:Nat} {z:RLay} {D:Dev} (g:Geo.G) (hg:Geo.May g) (place seq left:Nat) (w:World) (hD:RefAt Bd w sb z D) (hk:(D.kept.length:Int)=g.blocks) (hsz:sized D.now) (hlen:D.now.length=D.kept.length) (hp:place<=10000) (hl:left<=600) (hq:seq < 2 ^ 64) :
  Calls Tryz.prog 128 #[.pointer (some ⟨sb,0,none⟩),.agg (Geo.cells g),.int .i64 (place:Int),.int .u64 (seq:Int),.int .i64 (left:Int)] w fun e w'=>StandTold left (Jr.parseA (Geo.home g) seq (Jr.ring g D.now place left) [] Jr.none_) w e w':=by
 obtain ⟨RES,hRES⟩:∃ RES,Jr.parseA (Geo.home g) seq (Jr.ring g D.now place left) [] Jr.none_=RES:=⟨_,rfl⟩
 rw [hRES]
 obtain ⟨i0,hi0,hz0,hz1,hz2⟩:=info_parts infoInt
 obtain ⟨k0',hk0,kz0,kz1,kz2⟩:=info_parts infoChg
 have qA:=hid (fun p (h:p<=1000000000) wz=>rat_any g hg p h wz)
 have qH:=hid (fun b hb wz=>rhome_any g hg b hb wz)
 have qR:Hid (∀ wz,Below w.heap.size w wz->∀ p,Calls Tryz.prog 126 #[.pointer (some ⟨sb,0,none⟩),.int .i64 ((Jr.pb g p:Nat):Int)] wz fun e w'=>e=.returned (.tuple #[.string (Jr.blk D.now (Jr.pb g p)),.int .i64 0])/\wz=w'):=hid (fun wz hz p=>by
  have hpb:=Jr.pb_lt hg p;obtain ⟨e1,e2⟩:=readS_blk (D:=D) (i:=Jr.pb g p) (by omega);have:=rread_any (hD.below hz) ((Jr.pb g p:Nat):Int);rwa [e1,e2] at this)
 have hB:=hid (fun p=>blk_sized hg hk hsz hlen p)
 have HRES:=hid hRES
 have TN:Hid (∀ w',RES=none->Below w.heap.size w w'->StandTold left RES w (.returned (.tuple #[.agg #[.slice none 0 0,.slice none 0 0],.int .i64 0])) w'):=hid (fun w' h1 h2=>.inl ⟨h1,rfl,h2⟩)
 have TS:Hid (∀ (w':World) (t:Jr.Txn) (rest:List ByteArray) (cv rv:Value),RES=some (t,rest)->rest.length<=left->OwnC w.heap.size w' cv t.ch->OwnInts w.heap.size w' rv t.rv->Below w.heap.size w w'->StandTold left RES w (.returned (.tuple #[.agg #[cv,rv],.int .i64 ((left - rest.length:Nat):Int)])) w'):=hid (fun w' t rest cv rv h1 h2 h3 h4 h5=>.inr ⟨t,rest,cv,rv,h1,h2,rfl,h3,h4,h5⟩)
 generalize StandTold left RES w=P at *
 have hlog:=hg.ok.2.1
 clear hRES hD hk hsz hlen hg
 obtain ⟨G,hG⟩:∃ G,G=g:=⟨_,rfl⟩
 rw [<- hG] at qH HRES
 replace qA:Hid (∀ p:Nat,p<=1000000000->∀ wz,Calls Tryz.prog 82 #[.agg (Geo.cells g),.int .i64 (p:Int)] wz fun e w'=>e=.returned (.int .i64 ((Jr.pb G p:Nat):Int))/\Below wz.heap.size wz w'):=hid (by rw [hG];exact qA.out)
 replace qR:Hid (∀ wz,Below w.heap.size w wz->∀ p,Calls Tryz.prog 126 #[.pointer (some ⟨sb,0,none⟩),.int .i64 ((Jr.pb G p:Nat):Int)] wz fun e w'=>e=.returned (.tuple #[.string (Jr.blk D.now (Jr.pb G p)),.int .i64 0])/\wz=w'):=hid (by rw [hG];exact qR.out)
 replace qH:Hid (∀ b,-9223372036854775808<=b/\b<=9223372036854775807->∀ wz,Calls Tryz.prog 131 #[.agg (Geo.cells g),.int .i64 b] wz fun e w'=>e=.returned (.bool (Geo.home G b))/\Below wz.heap.size wz w'):=hid (by rw [hG] at qH ⊢;exact qH.out)
 replace hB:Hid (∀ p,(Jr.blk D.now (Jr.pb G p)).size=128):=hid (by rw [hG];exact hB.out)
 clear hG
 unfold Geo.cells at *
 obtain ⟨g1,g2,g3,g4,g5,g6,g7,g8,g9⟩:=g
 dsimp only at *
 subst hlog
 have R0:=((Row.new w 30 [.int .i64 g1,.int .i64 g2,.int .i64 g3,.int .i64 1,.int .i64 g5,.int .i64 g6,.int .i64 g7,.int .i64 g8,.int .i64 g9] rfl).alloc (.cells #[.slice none 0 0,.slice none 0 0] 25)).alloc (.cells #[.slice none 0 0,.slice none 0 0] 25)
 have R1:=(Row.new (w.alloc (.cells #[.int .i64 g1,.int .i64 g2,.int .i64 g3,.int .i64 1,.int .i64 g5,.int .i64 g6,.int .i64 g7,.int .i64 g8,.int .i64 g9] 30)) 25 [.slice none 0 0,.slice none 0 0] rfl).alloc (.cells #[.slice none 0 0,.slice none 0 0] 25)
 have R2:=Row.new ((w.alloc (.cells #[.int .i64 g1,.int .i64 g2,.int .i64 g3,.int .i64 1,.int .i64 g5,.int .i64 g6,.int .i64 g7,.int .i64 g8,.int .i64 g9] 30)).alloc (.cells #[.slice none 0 0,.slice none 0 0] 25)) 25 [.slice none 0 0,.slice none 0 0] rfl
 rw [World.size_alloc] at R1
 rw [World.size_alloc,World.size_alloc] at R2
 have S0:Hid (StandR [.int .i64 g1,.int .i64 g2,.int .i64 g3,.int .i64 1,.int .i64 g5,.int .i64 g6,.int .i64 g7,.int .i64 g8,.int .i64 g9] w (((w.alloc (.cells #[.int .i64 g1,.int .i64 g2,.int .i64 g3,.int .i64 1,.int .i64 g5,.int .i64 g6,.int .i64 g7,.int .i64 g8,.int .i64 g9] 30)).alloc (.cells #[.slice none 0 0,.slice none 0 0] 25)).alloc (.cells #[.slice none 0 0,.slice none 0 0] 25)) (.slice none 0 0) (.slice none 0 0) Jr.none_):=hid ⟨R0,R1,R2,World.ownsRow_nil _ _ _ _,World.ownsRow_nil _ _ _ _,(((Below.refl _ _).alloc (Nat.le_refl _) _).alloc (by simp) _).alloc (by simp;omega) _⟩
 clear R0 R1 R2
 go_enter Tryz.func128,Tryz.ntmps128
 go_wp2_with fail
 generalize ((w.alloc _).alloc _).alloc _=w0 at *
 go_loopw [13,14] (fun u q wr=>∃ (n:Nat) (all:Bytes) (t:Jr.Txn) (cv rv:Value),n<=left/\u=.string (txt all)/\q=.int .i64 n/\Hid (t.ch.length<=n * 28/\t.rv.length<=n * 28/\all.length<=n * 128)/\Hid (Jr.parseA (Geo.home G) seq (Jr.ring G D.now (place+n) (left - n)) all t=RES)/\Hid (StandR [.int .i64 g1,.int .i64 g2,.int .i64 g3,.int .i64 1,.int .i64 g5,.int .i64 g6,.int .i64 g7,.int .i64 g8,.int .i64 g9] w wr cv rv t)) (fun _ q _=>left - (intOf q).toNat)
 case atStart=>exact ⟨0,[],Jr.none_,_,_,Nat.zero_le _,rfl,rfl,hid ⟨by simp [Jr.none_],by simp [Jr.none_],by simp⟩,HRES,S0⟩
 case round =>
  clear HRES S0;obtain ⟨n,all,t,cv,rv,hn,rfl,rfl,hbd,hres,hS⟩:=hrel;by_cases hlt:n < left;case neg =>
   have i1:¬ (n:Int) < (left:Int):=(by omega);have hnone:Hid (RES=none):=hid (by rw [<- hres.out,show left - n=0 by omega];rfl);have aA:=hS.out.res;have a0:=aA.cellAt 0 rfl;have fa0:=aA.free 0 (by simp);have a1':=aA.cellAt 1 rfl;have fa1:=aA.free 1 (by simp);have rF:=hid ((aA.set 0 (.slice none 0 0)).set 1 (.slice none 0 0));have BF:=hid ((hS.out.bel.setCell (p:=⟨w.heap.size+1,0,none⟩) (by dsimp only;omega) (.slice none 0 0)).setCell (p:=⟨w.heap.size+1,1,none⟩) (by dsimp only;omega) (.slice none 0 0));have n01:=(aA.set 0 (.slice none 0 0)).cellAt 1 rfl;have TN1:=hid (fun w' hb=>TN.out w' hnone.out hb);clear aA;go_wp2_with fail;have c0:=rF.out.cellAt 0 rfl;have c1':=rF.out.cellAt 1 rfl;exact bodyPost_ret (v:=.tuple #[.agg #[.slice none 0 0,.slice none 0 0],.int .i64 0]) (by simp [results,Tryz.results128,go_sem,c0,c1']) rfl (TN1.out _ BF.out)
  have i1:(n:Int) < (left:Int):=(by omega);have hring:Jr.ring G D.now (place+n) (left - n)=Jr.blk D.now (Jr.pb G (place+n)) :: Jr.ring G D.now (place+(n+1)) (left - (n+1)):=by
   rw [show left - n=(left - (n+1))+1 by omega];rfl
  rw [hring,Jr.parseA_cons] at hres;clear hring;obtain ⟨g_0,g_1,g_2,g_3,g_4,g_5,g_6,g_7,g_8⟩:=hS.out.geo.c9;have qA1:=hid (qA.out (place+n) (by omega) wr);rw [show ((place+n:Nat):Int)=(place:Int)+(n:Int) by omega] at qA1;have qR1:Hid (∀ wz,Below wr.heap.size wr wz->Calls Tryz.prog 126 #[.pointer (some ⟨sb,0,none⟩),.int .i64 ((Jr.pb G (place+n):Nat):Int)] wz fun e w'=>e=.returned (.tuple #[.string (Jr.blk D.now (Jr.pb G (place+n))),.int .i64 0])/\wz=w'):=hid (fun wz hz=>qR.out wz (hS.out.bel.trans (hz.mono hS.out.bel.size)) (place+n));have hTs:=hB.out (place+n);generalize Jr.blk D.now (Jr.pb G (place+n))=T at *;generalize Jr.pb G (place+n)=PB at *;have hdc:=hid (fun wz=>ddecode_any T wz (by omega));go_wp2_with fail;(with_reducible refine qA1.out.mono ?_);rintro e w1 ⟨rfl,hb1⟩;have S1:=hid (hS.out.below hb1);have qR2:=hid (qR1.out _ hb1);clear hb1 qA1 qR1 hS g_0 g_1 g_2 g_3 g_4 g_5 g_6 g_7 g_8;go_wp2_with fail;(with_reducible refine qR2.out.mono ?_);rintro e w1' ⟨rfl,rfl⟩;clear qR2;go_wp2_with fail;(with_reducible refine (hdc.out _).mono ?_);rintro e w2 ⟨v,rfl,hra,hro,hb2⟩;clear hdc;have S2:=hid (S1.out.below hb2);obtain ⟨hv,mv,rfl,oH,oM⟩:=hro;obtain ⟨a1,c1,rfl⟩:=OwnInts.slice oH;obtain ⟨a2,c2,rfl⟩:=OwnFlags.slice oM;have hsz12:w1.heap.size<=w2.heap.size:=hb2.size;have hbig:w.heap.size+1+1 < w1.heap.size:=S1.out.var.lt;have hV:Hid ((∃ x,Rec.dec T.data.toList=some x/\Rec.decV T.data.toList=x/\Rec.decE T.data.toList=0) ∨ (Rec.dec T.data.toList=none/\Rec.decE T.data.toList=80)):=hid (by
   cases hdec:Rec.dec T.data.toList with
   | none=>exact .inr ⟨rfl,(Rec.dec_no hdec).2⟩
   | some x=>exact .inl ⟨x,rfl,(Rec.dec_yes hdec).1,(Rec.dec_yes hdec).2⟩)
  generalize Rec.decV T.data.toList=x at *;generalize Rec.decE T.data.toList=ev at *;have OH:=hid oH;have OM:=hid oM;have HRA:=hid hra;clear oH oM hra hb2 S1;go_upto_region 8 with fail
  generalize hw3:w2.alloc _=w3 at *;have b23:Below w2.heap.size w2 w3:=by rw [<- hw3];exact (Below.refl w2.heap.size w2).alloc (Nat.le_refl _) _
  have HX:Hid (Row w3 w2.heap.size 61 [.int .i64 x.kind,.int .u64 (x.seq:Int),.int .i64 x.at_,.slice a1 x.homes.length c1,.slice a2 x.masked.length c2,.int .u32 (x.sum:Int)]):=hid (by rw [<- hw3];exact Row.new w2 _ _ rfl);have S3:=hid (S2.out.below b23);have OH3:=hid (own_below (show w2.ownsRow w1.heap.size 3 1 (.slice a1 x.homes.length c1) x.homes.length (icells x.homes) from OH.out) b23);have OM3:=hid (own_below (show w2.ownsRow w1.heap.size 4 1 (.slice a2 x.masked.length c2) x.masked.length (fcells x.masked) from OM.out) b23);have z1:=HX.out.cellAt 1 rfl;have z0:=HX.out.cellAt 0 rfl;have hx2:=HX.out.lt;clear OH OM S2 b23 hw3;rcases hV.out with ⟨x0,hd1,hd2,hd3⟩ | ⟨hd1,hd3⟩
  case inr =>
   subst hd3;have hnone:Hid (RES=none):=hid (by rw [<- hres.out,hd1]);have aA:=S3.out.res;have a0:=aA.cellAt 0 rfl;have fa0:=aA.free 0 (by simp);have a1':=aA.cellAt 1 rfl;have fa1:=aA.free 1 (by simp);have rF:=hid ((aA.set 0 (.slice none 0 0)).set 1 (.slice none 0 0));have BF:=hid ((S3.out.bel.setCell (p:=⟨w.heap.size+1,0,none⟩) (by dsimp only;omega) (.slice none 0 0)).setCell (p:=⟨w.heap.size+1,1,none⟩) (by dsimp only;omega) (.slice none 0 0));have n01:=(aA.set 0 (.slice none 0 0)).cellAt 1 rfl;have TN1:=hid (fun w' hb=>TN.out w' hnone.out hb);clear aA hd1 hres hV z0 z1;go_wp2_with fail;have c0:=rF.out.cellAt 0 rfl;have c1':=rF.out.cellAt 1 rfl;exact bodyPost_ret (v:=.tuple #[.agg #[.slice none 0 0,.slice none 0 0],.int .i64 0]) (by simp [results,Tryz.results128,go_sem,c0,c1']) rfl (TN1.out _ BF.out)
  subst hd3;subst hd2;have hxq:=HRA.out.seq;have hxs:=HRA.out.sum;have hmay:=hid (Rec.may_cases (Rec.dec_some hd1).2.1);rw [hd1] at hres;dsimp only at hres;clear hd1 HRA hV;by_cases hsq:x.seq=seq;case neg =>
   have hnone:Hid (RES=none):=hid (by rw [<- hres.out,if_pos (.inl hsq)]);have hne:((x.seq:Int) != (seq:Int))=true:=(by rw [bne_iff_ne];omega);have aA:=S3.out.res;have a0:=aA.cellAt 0 rfl;have fa0:=aA.free 0 (by simp);have a1':=aA.cellAt 1 rfl;have fa1:=aA.free 1 (by simp);have rF:=hid ((aA.set 0 (.slice none 0 0)).set 1 (.slice none 0 0));have BF:=hid ((S3.out.bel.setCell (p:=⟨w.heap.size+1,0,none⟩) (by dsimp only;omega) (.slice none 0 0)).setCell (p:=⟨w.heap.size+1,1,none⟩) (by dsimp only;omega) (.slice none 0 0));have n01:=(aA.set 0 (.slice none 0 0)).cellAt 1 rfl;have TN1:=hid (fun w' hb=>TN.out w' hnone.out hb);clear aA hres hsq;go_wp2_with fail;have c0:=rF.out.cellAt 0 rfl;have c1':=rF.out.cellAt 1 rfl;exact bodyPost_ret (v:=.tuple #[.agg #[.slice none 0 0,.slice none 0 0],.int .i64 0]) (by simp [results,Tryz.results128,go_sem,c0,c1']) rfl (TN1.out _ BF.out)
  have hsf:((x.seq:Int) != (seq:Int))=false:=(by rw [bne_eq_false_iff_eq,hsq]);by_cases hk1:x.kind=1
  ·have hnone:Hid (RES=none):=hid (by
    rw [<- hres.out];split
    ·rfl
    rw [if_neg (by omega),if_neg (by omega),if_neg (by omega)])
   have hkt:(x.kind == 1)=true:=(by rw [beq_iff_eq];exact hk1);clear hsq;have aA:=S3.out.res;have a0:=aA.cellAt 0 rfl;have fa0:=aA.free 0 (by simp);have a1':=aA.cellAt 1 rfl;have fa1:=aA.free 1 (by simp);have rF:=hid ((aA.set 0 (.slice none 0 0)).set 1 (.slice none 0 0));have BF:=hid ((S3.out.bel.setCell (p:=⟨w.heap.size+1,0,none⟩) (by dsimp only;omega) (.slice none 0 0)).setCell (p:=⟨w.heap.size+1,1,none⟩) (by dsimp only;omega) (.slice none 0 0));have n01:=(aA.set 0 (.slice none 0 0)).cellAt 1 rfl;have TN1:=hid (fun w' hb=>TN.out w' hnone.out hb);clear aA hres hk1;go_wp2_with fail;have c0:=rF.out.cellAt 0 rfl;have c1':=rF.out.cellAt 1 rfl;exact bodyPost_ret (v:=.tuple #[.agg #[.slice none 0 0,.slice none 0 0],.int .i64 0]) (by simp [results,Tryz.results128,go_sem,c0,c1']) rfl (TN1.out _ BF.out)
  have hkf:(x.kind == 1)=false:=(by rw [beq_eq_false_iff_ne];exact hk1);have hlx:x.homes.length<=28:=by
   rcases hmay.out with ⟨-,-,-,-,k,-⟩ | ⟨-,-,-,-,-,k,-⟩ | ⟨-,-,-,-,-,k,-⟩ | ⟨-,-,k,-⟩
   ·rw [k];simp
   ·omega
   ·omega
   rw [k];simp
  have hrng:Hid (∀ z ∈ x.homes,-9223372036854775808<=z/\z<=9223372036854775807):=hid (by
   intro z hz;have:0<=z/\z < 4096:=by
    rcases hmay.out with ⟨-,-,-,-,k,-⟩ | ⟨-,-,-,k,-⟩ | ⟨-,-,-,k,-⟩ | ⟨-,-,k,-⟩
    ·rw [k] at hz;cases hz
    ·exact Rec.blockOk_iff.1 (Rec.rises_mem k z hz)
    ·exact Rec.blockOk_iff.1 (Rec.rises_mem k z hz)
    rw [k] at hz;cases hz
   omega)
  have hc:(x.seq ≠ seq ∨ x.homes.all (Geo.home G)=false)=(x.homes.all (Geo.home G)=false):=(by rw [hsq];simp);simp only [hc] at hres;clear hc hsq;by_cases hk4:x.kind=4
  ·have hkt:(x.kind == 4)=true:=(by rw [beq_iff_eq];exact hk4);have hres4:Hid ((if x.sum=Jr.sumB all then some (t,Jr.ring G D.now (place+(n+1)) (left - (n+1))) else none)=RES):=hid (by
    rw [<- hres.out];rcases hmay.out with ⟨k,-⟩ | ⟨k,-⟩ | ⟨k,-⟩ | ⟨-,-,k,-⟩
    ·omega
    ·omega
    ·omega
    have e:¬ (x.homes.all (Geo.home G)=false):=(by rw [k];simp);rw [if_neg e,if_pos hk4])
   have z5:=HX.out.cellAt 5 rfl;have qS:=hid (fun wz=>(rsum_any (txt all) (by rw [txt_size];have:=hbd.out.2.2;omega) wz).mono (R':=fun e w'=>e=.returned (.int .u32 (Go.Proofs.YtnpdhidliaahbaaGreat.u32 (more 0#32 (txt all).data.toList)))/\w'=wz) (fun e w' h=>⟨h.1,h.2.symm⟩));rw [txt_list] at qS;have HS1:Hid (((Jr.sumB all:Nat):Int)=Go.Proofs.YtnpdhidliaahbaaGreat.u32 (more 0#32 all)):=hid rfl;obtain ⟨S1,hS1⟩:∃ S1:Int,Go.Proofs.YtnpdhidliaahbaaGreat.u32 (more 0#32 all)=S1:=⟨_,rfl⟩;rw [hS1] at qS HS1;obtain ⟨ac,cc,rfl⟩:=OwnC.slice S3.out.ch;obtain ⟨ar,cr,rfl⟩:=OwnInts.slice S3.out.rv;clear hres hk1 hk4 hS1 hmay hrng;by_cases hs:x.sum=Jr.sumB all
   ·rw [if_pos hs] at hres4;have hsv:((x.sum:Int) != S1)=false:=by rw [bne_eq_false_iff_eq,<- HS1.out,hs]
    clear hs;go_upto_region 11 with fail
    go_quiet ((go_at_call 134;exact Calls.quiet_of_same (qS.out _)));go_upto_region 13 with fail;have S4:=hid (S3.out.drewN nq);generalize w3.drewN nq=w4 at *;have aA:=S4.out.res;have a0:=aA.cellAt 0 rfl;have fa0:=aA.free 0 (by simp);have a1':=aA.cellAt 1 rfl;have fa1:=aA.free 1 (by simp);have v0:=S4.out.var.cellAt 0 rfl;have v1:=S4.out.var.cellAt 1 rfl;have rF:=hid ((aA.set 0 (.slice ac t.ch.length cc)).set 1 (.slice ar t.rv.length cr));have BF:=hid ((S4.out.bel.setCell (p:=⟨w.heap.size+1,0,none⟩) (by dsimp only;omega) (.slice ac t.ch.length cc)).setCell (p:=⟨w.heap.size+1,1,none⟩) (by dsimp only;omega) (.slice ar t.rv.length cr));have CF:Hid (OwnC w.heap.size ((w4.setCell ⟨w.heap.size+1,0,none⟩ (.slice ac t.ch.length cc)).setCell ⟨w.heap.size+1,1,none⟩ (.slice ar t.rv.length cr)) (.slice ac t.ch.length cc) t.ch):=hid (own_setR (a:=⟨w.heap.size+1,1,none⟩) (aA.set 0 (.slice ac t.ch.length cc)) (own_setR (a:=⟨w.heap.size+1,0,none⟩) aA S4.out.ch (by decide)) (by decide));have IF:Hid (OwnInts w.heap.size ((w4.setCell ⟨w.heap.size+1,0,none⟩ (.slice ac t.ch.length cc)).setCell ⟨w.heap.size+1,1,none⟩ (.slice ar t.rv.length cr)) (.slice ar t.rv.length cr) t.rv):=hid (own_setR (a:=⟨w.heap.size+1,1,none⟩) (aA.set 0 (.slice ac t.ch.length cc)) (own_setR (a:=⟨w.heap.size+1,0,none⟩) aA S4.out.rv (by decide)) (by decide));have TS1:=hid (TS.out _ t (Jr.ring G D.now (place+(n+1)) (left - (n+1))) _ _ hres4.out.symm (by rw [Jr.ring_length];omega) CF.out IF.out BF.out);rw [Jr.ring_length,show ((left - (left - (n+1)):Nat):Int)=(n:Int)+1 by omega] at TS1;clear aA hres4 CF IF BF;go_wp2_with fail;have c0:=rF.out.cellAt 0 rfl;have c1':=rF.out.cellAt 1 rfl;exact bodyPost_ret (v:=.tuple #[.agg #[.slice ac t.ch.length cc,.slice ar t.rv.length cr],.int .i64 ((n:Int)+1)]) (by simp [results,Tryz.results128,go_sem,c0,c1']) rfl TS1.out
   rw [if_neg hs] at hres4;have hnone:Hid (RES=none):=hid hres4.out.symm;have hsv:((x.sum:Int) != S1)=true:=by rw [bne_iff_ne,<- HS1.out];omega
   clear hs hres4;go_upto_region 11 with fail
   go_quiet ((go_at_call 134;exact Calls.quiet_of_same (qS.out _)));go_upto_region 12 with fail;have S4:=hid (S3.out.drewN nq);generalize w3.drewN nq=w4 at *;have aA:=S4.out.res;have a0:=aA.cellAt 0 rfl;have fa0:=aA.free 0 (by simp);have a1':=aA.cellAt 1 rfl;have fa1:=aA.free 1 (by simp);have rF:=hid ((aA.set 0 (.slice none 0 0)).set 1 (.slice none 0 0));have BF:=hid ((S4.out.bel.setCell (p:=⟨w.heap.size+1,0,none⟩) (by dsimp only;omega) (.slice none 0 0)).setCell (p:=⟨w.heap.size+1,1,none⟩) (by dsimp only;omega) (.slice none 0 0));have n01:=(aA.set 0 (.slice none 0 0)).cellAt 1 rfl;have TN1:=hid (fun w' hb=>TN.out w' hnone.out hb);clear aA;go_wp2_with fail;have c0:=rF.out.cellAt 0 rfl;have c1':=rF.out.cellAt 1 rfl;exact bodyPost_ret (v:=.tuple #[.agg #[.slice none 0 0,.slice none 0 0],.int .i64 0]) (by simp [results,Tryz.results128,go_sem,c0,c1']) rfl (TN1.out _ BF.out)
  have hkf4:(x.kind == 4)=false:=(by rw [beq_eq_false_iff_ne];exact hk4);rw [if_neg hk4] at hres;have hsz0:(txt all).size<=100000:=(by rw [txt_size];have:=hbd.out.2.2;omega);have hsz1:¬ 9223372036854775807 < (txt all).size+T.size:=(by omega);have hcat:=hid (show txt all ++ T=txt (all ++ T.data.toList) by
   conv=>lhs;rw [<- txt_of T]
   exact rtxt_append _ _)
  have hszB:=hid (show (txt all ++ T).size<=200000 by rw [hcat.out,txt_size,List.length_append,list_length];rw [txt_size] at hsz0;omega);generalize txt all=SA at *;have hX23:w.heap.size+1+1 < w2.heap.size:=(by omega);go_wp2_with fail;clear z1;generalize hSB:SA ++ T=SB at *;have HSB:=hid hSB;clear hSB hsz1;go_loopw [19] (fun q wr=>∃ i:Nat,i<=x.homes.length/\q=.int .i64 i/\Hid ((x.homes.take i).all (Geo.home G)=true)/\Hid (Below w3.heap.size w3 wr)) (fun q _=>x.homes.length - (intOf q).toNat);case atStart=>exact ⟨0,by omega,rfl,hid (by rw [List.take_zero];rfl),hid (Below.refl _ _)⟩
  case round =>
   clear z0;obtain ⟨i,hi,rfl,hal,hbw⟩:=hrel;have HX4:=hid (HX.out.below hbw.out hx2);have S4:=hid (S3.out.below hbw.out);have OH4:=hid (own_below OH3.out hbw.out);have z3:=HX4.out.cellAt 3 rfl;by_cases hlt2:i < x.homes.length
   ·have j0:(0:Int)<=(i:Int):=(by omega);have j1:(i:Int) < (x.homes.length:Int):=(by omega);obtain ⟨gh,ch2,eh⟩:=own_some OH4.out (show 0 < x.homes.length by omega);cases eh;have cH:=own_cellAt OH4.out (icells_at x.homes i hlt2);have hin:x.homes.getD i 0 ∈ x.homes:=(by rw [List.getD_eq_getElem?_getD,List.getElem?_eq_getElem hlt2];exact List.getElem_mem hlt2);have hnext:Hid ((x.homes.take (i+1)).all (Geo.home G)=Geo.home G (x.homes.getD i 0)):=hid (by
     rw [List.take_succ_eq_append_getElem hlt2,List.all_append,hal.out];simp [List.getD,hlt2])
    have hfalse:Hid (Geo.home G (x.homes.getD i 0)=false->x.homes.all (Geo.home G)=false):=hid (fun h=>by
     rw [Bool.eq_false_iff];intro h2;rw [List.all_eq_true.1 h2 _ hin] at h;cases h)
    have hr1:=hrng.out _ hin;have HIC:=hid (icells_at x.homes i hlt2);have qH1:=hid (fun wz=>qH.out (x.homes.getD i 0) hr1 wz);generalize Geo.home G (x.homes.getD i 0)=hh at *;generalize x.homes.getD i 0=hz at *;clear hin;obtain ⟨g_0,g_1,g_2,g_3,g_4,g_5,g_6,g_7,g_8⟩:=S4.out.geo.c9;go_wp2_with fail
    go_region_held3 (fun w'=>w'.cell? ⟨w.heap.size,0,none⟩=some (.int .i64 g1)/\w'.cell? ⟨w.heap.size,1,none⟩=some (.int .i64 g2)/\w'.cell? ⟨w.heap.size,2,none⟩=some (.int .i64 g3)/\w'.cell? ⟨w.heap.size,3,none⟩=some (.int .i64 1)/\w'.cell? ⟨w.heap.size,4,none⟩=some (.int .i64 g5)/\w'.cell? ⟨w.heap.size,5,none⟩=some (.int .i64 g6)/\w'.cell? ⟨w.heap.size,6,none⟩=some (.int .i64 g7)/\w'.cell? ⟨w.heap.size,7,none⟩=some (.int .i64 g8)/\w'.cell? ⟨w.heap.size,8,none⟩=some (.int .i64 g9)/\w'.cell? ⟨w2.heap.size,3,none⟩=some (.slice (some ⟨gh,0,none⟩) x.homes.length c1)/\w'.cell? ⟨gh,i,none⟩=some (.int .i64 hz))
     (first | exact ⟨g_0,g_1,g_2,g_3,g_4,g_5,g_6,g_7,g_8,z3,cH⟩ | exact ⟨h_0,h_1,h_2,h_3,h_4,h_5,h_6,h_7,h_8,q3,qc⟩)
     (first | (go_at_call 131;(with_reducible refine (qH1.out _).mono ?_);rintro e w4 ⟨rfl,hb4'⟩;have hb4:Below wr.heap.size wr w4:=⟨hb4'.os,hb4'.tape,hb4'.output,hb4'.size,hb4'.block⟩;have S5:=hid (S4.out.below hb4);obtain ⟨h_0,h_1,h_2,h_3,h_4,h_5,h_6,h_7,h_8⟩:=S5.out.geo.c9;have q3:=(HX4.out.below hb4 HX4.out.lt).cellAt 3 rfl;have qc:=own_cellAt (own_below OH4.out hb4) HIC.out) | fail "none")
    clear qH1 hb4' g_0 g_1 g_2 g_3 g_4 g_5 g_6 g_7 g_8 h_0 h_1 h_2 h_3 h_4 h_5 h_6 h_7 h_8 cH z3;cases hh
    ·have hnone:Hid (RES=none):=hid (by rw [<- hres.out,if_pos (hfalse.out rfl)]);clear hres hfalse hnext hal q3 qc;have aA:=S5.out.res;have a0:=aA.cellAt 0 rfl;have fa0:=aA.free 0 (by simp);have a1':=aA.cellAt 1 rfl;have fa1:=aA.free 1 (by simp);have rF:=hid ((aA.set 0 (.slice none 0 0)).set 1 (.slice none 0 0));have BF:=hid ((S5.out.bel.setCell (p:=⟨w.heap.size+1,0,none⟩) (by dsimp only;omega) (.slice none 0 0)).setCell (p:=⟨w.heap.size+1,1,none⟩) (by dsimp only;omega) (.slice none 0 0));have n01:=(aA.set 0 (.slice none 0 0)).cellAt 1 rfl;have TN1:=hid (fun w' hb=>TN.out w' hnone.out hb);clear aA;go_wp2_with fail;have c0:=rF.out.cellAt 0 rfl;have c1':=rF.out.cellAt 1 rfl;exact bodyPost_ret (v:=.tuple #[.agg #[.slice none 0 0,.slice none 0 0],.int .i64 0]) (by simp [results,Tryz.results128,go_sem,c0,c1']) rfl (TN1.out _ BF.out)
    have B5:=hid (hbw.out.trans (hb4.mono hbw.out.size));have HN2:Hid ((x.homes.take (i+1)).all (Geo.home G)=true):=hid hnext.out;clear hfalse hnext q3 qc hb4 S5;go_wp2_with fail;go_roundw;case rel=>exact ⟨i+1,by omega,by go_num,HN2,B5⟩
    case measure=>simp [intOf];omega
   obtain rfl:i=x.homes.length:=(by omega);have hall:x.homes.all (Geo.home G)=true:=(by have:=hal.out;rwa [List.take_length] at this);rw [if_neg (by rw [hall];decide)] at hres;have OM4:=hid (own_below OM3.out hbw.out);have z0:=HX4.out.cellAt 0 rfl;have hXw:w2.heap.size < wr.heap.size:=HX4.out.lt;clear hall hal hlt2 hi S3 HX OH3 OM3 hbw;by_cases hk3:x.kind=3
   ·have hkt3:(x.kind == 3)=true:=(by rw [beq_iff_eq];exact hk3);rw [if_pos hk3] at hres;have hn0:0 < x.homes.length:=by rcases hmay.out with ⟨k,-⟩ | ⟨k,-⟩ | ⟨-,-,-,-,k,-⟩ | ⟨k,-⟩ <;> omega
    obtain ⟨gh,ch2,eh⟩:=own_some OH4.out hn0;cases eh;obtain ⟨ar,cr,rfl⟩:=OwnInts.slice S4.out.rv;have v1:=S4.out.var.cellAt 1 rfl;have NN:Hid (∀ (j:Nat) (u:Value),(icells x.homes)[j]?=some u->wr.cell? ((⟨gh,0,none⟩:Addr).add j)=some u):=hid (fun j u hu=>World.ownsRow.cells OH4.out rfl j u hu);have hone:Hid (∀ u ∈ icells x.homes,u.oneCell'=true):=hid (by intro u hu;simp [icells] at hu;obtain ⟨z,-,rfl⟩:=hu;rfl);have hTL:t.rv.length<=20000:=(by have:=hbd.out.2.1;omega);have HRS:=hres;clear hk3 hkf4 hk4 hkf hk1 hres;go_wp2_with (at_builtin;refine wpList_append_lies _ rfl _ _ 23 rfl w.heap.size 3 i0 (.int .i64 0) 1 8 Tryz.underlying23 hi0 hz0 hz1 hz2 rfl (by decide) (.slice ar t.rv.length cr) t.rv.length (icells t.rv) rfl S4.out.rv ⟨gh,0,none⟩ x.homes.length c1 (icells x.homes) rfl (by rw [icells_length,Nat.mul_one]) NN.out hone.out hn0 (by unfold maxLen;omega) (by omega) S4.out.bel.size _ rfl ?_);intro g5 c5 w6 hown hgrow hat hlt5;have S6:=hid (S4.out.pushR hgrow hown);have r6:=row_grownR S4.out.var S4.out.rv hgrow (by decide);have y1:=r6.cellAt 1 rfl;have fy1:=r6.free 1 (by simp);clear r6 hown hgrow hat hlt5 v1 NN hone S4 OH4 OM4 z0 z3;go_wp2_with fail;go_roundw;case rel=>exact ⟨n+1,all ++ T.data.toList,⟨t.ch,t.rv ++ x.homes⟩,cv,_,by omega,by first | rw [hcat.out] | rw [<- HSB.out,hcat.out],by go_num,hid ⟨by have:=hbd.out.1;dsimp only;omega,by have:=hbd.out.2.1;rw [List.length_append];omega,by have:=hbd.out.2.2;rw [List.length_append,list_length];omega⟩,HRS,S6⟩
    case measure=>simp [intOf];omega
   have hkf3:(x.kind == 3)=false:=(by rw [beq_eq_false_iff_ne];exact hk3);have hk2:x.kind=2:=by rcases hmay.out with ⟨k,-⟩ | ⟨k,-⟩ | ⟨k,-⟩ | ⟨k,-⟩ <;> omega
   have hml:x.masked.length=x.homes.length:=by rcases hmay.out with ⟨k,-⟩ | ⟨-,-,-,-,-,-,k⟩ | ⟨k,-⟩ | ⟨k,-⟩ <;> omega
   rw [if_neg hk3,if_pos hk2,Jr.ring_length,Jr.ring_drop] at hres;have HML:=hid hml;clear hk2 hml hk3;go_wp2_with fail;rename World=>wB
   obtain ⟨RG,hRG⟩:∃ RG,Jr.ring G D.now (place+(n+1)) (left - (n+1))=RG:=⟨_,rfl⟩;have HRG:=hid hRG;rw [hRG] at hres;have hcl:Hid (∀ i,(cat (RG.take i)).length<=i * 128):=hid (fun i=>by rw [<- hRG];exact ring_cat hB.out _ _ i);clear hRG;go_loopw [13,14,20] (fun u q k wr=>∃ (i:Nat) (cv':Value),i<=x.homes.length/\n+1+i<=left/\u=.string (txt (all ++ T.data.toList ++ cat (RG.take i)))/\q=.int .i64 ((n:Int)+1+(i:Int))/\k=.int .i64 i/\Hid (StandR [.int .i64 g1,.int .i64 g2,.int .i64 g3,.int .i64 1,.int .i64 g5,.int .i64 g6,.int .i64 g7,.int .i64 g8,.int .i64 g9] w wr cv' rv ⟨t.ch ++ Jr.said (x.homes.take i) x.masked RG,t.rv⟩)/\Hid (Row wr w2.heap.size 61 [.int .i64 x.kind,.int .u64 (x.seq:Int),.int .i64 x.at_,.slice a1 x.homes.length c1,.slice a2 x.masked.length c2,.int .u32 (x.sum:Int)])/\Hid (wr.ownsRow w1.heap.size 3 1 (.slice a1 x.homes.length c1) x.homes.length (icells x.homes))/\Hid (wr.ownsRow w1.heap.size 4 1 (.slice a2 x.masked.length c2) x.masked.length (fcells x.masked))) (fun _ _ k _=>x.homes.length - (intOf k).toNat);case atStart=>exact ⟨0,cv,by omega,by omega,by rw [List.take_zero,Jr.cat_nil,List.append_nil];first | rw [hcat.out] | rw [<- HSB.out,hcat.out],by first | (congr 1;done) | (congr 1;omega),rfl,hid (by rw [Jr.said_zero,List.append_nil];exact S4.out),HX4,OH4,OM4⟩
   case round =>
    clear S4 HX4 OH4 OM4 z0 z3;obtain ⟨i,cv',hi,hin,rfl,rfl,rfl,hS',hX',hH',hM'⟩:=hrel;have z3:=hX'.out.cellAt 3 rfl;by_cases hlt2:i < x.homes.length
    ·have j0:(0:Int)<=(i:Int):=(by omega);have j1:(i:Int) < (x.homes.length:Int):=(by omega);by_cases hl0:n+1+i < left;case neg =>
      have hge:(left:Int)<=(n:Int)+1+(i:Int):=(by omega);have hnone:Hid (RES=none):=hid (by rw [<- hres.out,if_pos (by omega)]);clear hres;have aA:=hS'.out.res;have a0:=aA.cellAt 0 rfl;have fa0:=aA.free 0 (by simp);have a1':=aA.cellAt 1 rfl;have fa1:=aA.free 1 (by simp);have rF:=hid ((aA.set 0 (.slice none 0 0)).set 1 (.slice none 0 0));have BF:=hid ((hS'.out.bel.setCell (p:=⟨w.heap.size+1,0,none⟩) (by dsimp only;omega) (.slice none 0 0)).setCell (p:=⟨w.heap.size+1,1,none⟩) (by dsimp only;omega) (.slice none 0 0));have n01:=(aA.set 0 (.slice none 0 0)).cellAt 1 rfl;have TN1:=hid (fun w' hb=>TN.out w' hnone.out hb);clear aA;go_wp2_with fail;have c0:=rF.out.cellAt 0 rfl;have c1':=rF.out.cellAt 1 rfl;exact bodyPost_ret (v:=.tuple #[.agg #[.slice none 0 0,.slice none 0 0],.int .i64 0]) (by simp [results,Tryz.results128,go_sem,c0,c1']) rfl (TN1.out _ BF.out)
     have hge:¬ (left:Int)<=(n:Int)+1+(i:Int):=(by omega);obtain ⟨gh,ch2,eh⟩:=own_some hH'.out (show 0 < x.homes.length by omega);obtain ⟨gm,cm2,em⟩:=own_some hM'.out (show 0 < x.masked.length by rw [HML.out];omega);cases eh;cases em;have hlt3:i < x.masked.length:=(by rw [HML.out];omega);have j2:(i:Int) < (x.masked.length:Int):=(by omega);obtain ⟨g_0,g_1,g_2,g_3,g_4,g_5,g_6,g_7,g_8⟩:=hS'.out.geo.c9;have qA2:=hid (qA.out (place+(n+1+i)) (by omega) wr);rw [show ((place+(n+1+i):Nat):Int)=(place:Int)+((n:Int)+1+(i:Int)) by omega] at qA2;have qR3:Hid (∀ wz,Below wr.heap.size wr wz->Calls Tryz.prog 126 #[.pointer (some ⟨sb,0,none⟩),.int .i64 ((Jr.pb G (place+(n+1+i)):Nat):Int)] wz fun e w'=>e=.returned (.tuple #[.string (Jr.blk D.now (Jr.pb G (place+(n+1+i)))),.int .i64 0])/\wz=w'):=hid (fun wz hz=>qR.out wz (hS'.out.bel.trans (hz.mono hS'.out.bel.size)) (place+(n+1+i)));have hT2s:=hB.out (place+(n+1+i));have hbi:RG[i]?=some (Jr.blk D.now (Jr.pb G (place+(n+1+i)))):=(by rw [<- HRG.out,ring_blkat G D.now _ _ i (by omega),show place+(n+1)+i=place+(n+1+i) by omega]);generalize Jr.blk D.now (Jr.pb G (place+(n+1+i)))=T2 at *;generalize Jr.pb G (place+(n+1+i))=PB2 at *;have hsn:=hid (Jr.said_snoc x.homes x.masked RG i (x.homes.getD i 0) (x.masked.getD i false) T2 (by simp [List.getD,hlt2]) (by simp [List.getD,hlt3]) hbi);have hcatN:cat (RG.take (i+1))=cat (RG.take i) ++ T2.data.toList:=by
      obtain ⟨hi3,hi4⟩:=List.getElem?_eq_some_iff.1 hbi;rw [List.take_succ_eq_append_getElem hi3,Jr.cat_append,hi4];simp [cat]
     have HTK:=hid (show all ++ T.data.toList ++ cat (RG.take i) ++ T2.data.toList=all ++ T.data.toList ++ cat (RG.take (i+1)) by rw [hcatN,<- List.append_assoc]);obtain ⟨AL,hAL⟩:∃ AL,all ++ T.data.toList ++ cat (RG.take i)=AL:=⟨_,rfl⟩;have hALl:AL.length<=1000000:=by
      rw [<- hAL,List.length_append,List.length_append,list_length];have e1:=hbd.out.2.2;have e2:=hcl.out i;omega
     rw [hAL] at HTK;have hcat2:=hid (show txt AL ++ T2=txt (AL ++ T2.data.toList) by
      conv=>lhs;rw [<- txt_of T2]
      exact rtxt_append _ _)
     have hsz1:¬ 9223372036854775807 < (txt AL).size+T2.size:=(by rw [txt_size];omega);rw [hAL];have hun:=hid (fun w=>(dunmask_any T2 w (by omega)).mono (R':=fun e w'=>e=.returned (.string (txt (Rec.unmask T2.data.toList)))/\w=w') (fun e w' h=>⟨h.1,h.2.symm⟩));obtain ⟨L,hL⟩:∃ L,t.ch ++ Jr.said (x.homes.take i) x.masked RG=L:=⟨_,rfl⟩;have hLlen:L.length<=1000100:=by
      rw [<- hL,List.length_append];have:=Jr.said_length (x.homes.take i) x.masked RG;rw [List.length_take] at this;have:=hbd.out.1;omega
     rw [hL] at hS';obtain ⟨ac,cc,rfl⟩:=OwnC.slice hS'.out.ch;have HL:=hid hL;have HIC:=hid (icells_at x.homes i hlt2);have HFC:=hid (fcells_at x.masked i hlt3);clear hL hAL hcatN hbi hALl;generalize x.homes.getD i 0=hz at *;generalize txt AL=SA2 at *;go_wp2_with fail;(with_reducible refine qA2.out.mono ?_);rintro e w7 ⟨rfl,hb7⟩;have S7:=hid (hS'.out.below hb7);have HX7:=hid (hX'.out.below hb7 hX'.out.lt);have OH7:=hid (own_below hH'.out hb7);have OM7:=hid (own_below hM'.out hb7);have qR4:=hid (qR3.out _ hb7);have cH:=own_cellAt OH7.out HIC.out;have cM:=own_cellAt OM7.out HFC.out;have z4:=HX7.out.cellAt 4 rfl;clear z3;have z3:=HX7.out.cellAt 3 rfl;have hX7:=HX7.out.lt;clear hb7 qA2 qR3 hS' hX' hH' hM' g_0 g_1 g_2 g_3 g_4 g_5 g_6 g_7 g_8;go_wp2_with fail;(with_reducible refine qR4.out.mono ?_);rintro e w7' ⟨rfl,rfl⟩;clear qR4;cases hm:x.masked.getD i false
     ·rw [hm] at cM hsn;replace hsn:=hid (show Jr.said (x.homes.take (i+1)) x.masked RG=Jr.said (x.homes.take i) x.masked RG ++ [(hz,T2)] from hsn.out);clear hm;have u1:=hid (show True from trivial);have y0:=S7.out.var.cellAt 0 rfl;have hbS:=S7.out.bel.size;have y0b:=((S7.out.var.drew).alloc (.cells #[.int .i64 hz,.string T2] 68)).cellAt 0 rfl;have z3b:=((HX7.out.drew).alloc (.cells #[.int .i64 hz,.string T2] 68)).cellAt 3 rfl;have cHb:=own_cellAt (own_new1 (w:=w7.drew) OH7.out (.cells #[.int .i64 hz,.string T2] 68)) HIC.out;have HCd:=hid (show (w7.drew.alloc (.cells #[.int .i64 hz,.string T2] 68)).ownsRow w.heap.size 68 2 (.slice ac L.length cc) L.length (chgC L) from own_new1 (w:=w7.drew) S7.out.ch (.cells #[.int .i64 hz,.string T2] 68));have NN9:Hid (∀ jj uu,[Value.int .i64 hz,Value.string T2][jj]?=some uu->(w7.drew.alloc (.cells #[.int .i64 hz,.string T2] 68)).cell? ((⟨w7.heap.size,0,none⟩:Addr).add jj)=some uu):=hid (World.news_of_block (heap_alloc_new _ _));have hone:Hid (∀ u ∈ [Value.int .i64 hz,Value.string T2],u.oneCell'=true):=hid (by intro u hu;simp at hu;rcases hu with rfl | rfl <;> rfl);go_upto_region 32 with (first | (go_at_call 157;(with_reducible refine (hun.out _).mono ?_);rintro e w8 ⟨rfl,rfl⟩) | fail "none")
      refine wp_region_E (S:=fun w'=>w'.cell? ⟨w.heap.size+1+1,0,none⟩=some (.slice ac L.length cc)/\w'.cell? ⟨w2.heap.size,3,none⟩=some (.slice (some ⟨gh,0,none⟩) x.homes.length c1)/\w'.cell? ⟨gh,i,none⟩=some (.int .i64 hz)) (E:=[12]) (by kernel_rfl) ⟨y0,z3,cH⟩ (fun hHeld hCl=>?_);refine tk6 hCl hHeld 0 (.pointer (some ⟨w.heap.size+1+1,0,none⟩)) 1 (.slice ac L.length cc) 2 (.pointer (some ⟨w2.heap.size,3,none⟩)) 3 (.slice (some ⟨gh,0,none⟩) x.homes.length c1) 4 (.int .i64 (i:Int)) 5 (.pointer (some ⟨gh,i,none⟩)) fun hCl=>?_;(try simp only [lL,Act.put]);refine tk3 hCl hHeld 6 (.int .i64 hz) 7 (.string T2) 8 (.agg #[.int .i64 hz,.string T2]) fun hCl=>?_;(try simp only [lL,Act.put]);refine rd1 9 fun K hK=>?_;go_simp;refine dn hK hCl (⟨y0b,z3b,cHb⟩) ?_;clear hK K hHeld hCl;intro hHeld hCl;(try simp only [lL,Act.put]);refine rd1 10 fun K hK=>?_;refine step_append_lies _ rfl (.tmp 130) (.tmp 138) 22 rfl w.heap.size 68 k0' (.agg #[.int .i64 0,.string ⟨#[]⟩]) 2 24 Tryz.underlying22 hk0 kz0 kz1 kz2 rfl (by decide) (.slice ac L.length cc) L.length (chgC L) (by simp [Act.eval,Act.put];done) HCd.out ⟨w7.heap.size,0,none⟩ 1 1 [.int .i64 hz,.string T2] (by simp [Act.eval,Act.put];done) rfl NN9.out hone.out (by decide) (by unfold maxLen;omega) (by omega) (by simp;omega) _ rfl ?_;intro g5 c5 w9 hown hgrow hat hlt5;have S9:=hid (StandR.pushC (c:=(hz,T2)) (t:=⟨L,t.rv⟩) S7.out.drew hgrow hown);have r9:=row_grownR ((S7.out.var.drew).alloc (.cells #[.int .i64 hz,.string T2] 68)) HCd.out hgrow (by decide);have cX5:=r9.cellAt 0 rfl;have fX5:=r9.free 0 (by simp);have x9:=row_grownR ((HX7.out.drew).alloc (.cells #[.int .i64 hz,.string T2] 68)) HCd.out hgrow (by decide);have x93:=x9.cellAt 3 rfl;have h9:=own_otherR (own_new1 (w:=w7.drew) OH7.out (.cells #[.int .i64 hz,.string T2] 68)) HCd.out hgrow (by decide);have m9:=own_otherR (own_new1 (w:=w7.drew) OM7.out (.cells #[.int .i64 hz,.string T2] 68)) HCd.out hgrow (by decide);have h93:=own_cellAt h9 HIC.out;have HX9:=hid (x9.other (a:=⟨w.heap.size+1+1,0,none⟩) (by dsimp only;omega) (.slice (some ⟨g5,0,none⟩) (L.length+1) c5));have OH9:=hid (own_setR (a:=⟨w.heap.size+1+1,0,none⟩) (u:=.slice (some ⟨g5,0,none⟩) (L.length+1) c5) r9 h9 (by decide));have OM9:=hid (own_setR (a:=⟨w.heap.size+1+1,0,none⟩) (u:=.slice (some ⟨g5,0,none⟩) (L.length+1) c5) r9 m9 (by decide));refine dn hK hCl (⟨cX5,x93,h93⟩) ?_;clear hK K hHeld hCl;intro hHeld hCl;(try simp only [lL,Act.put]);refine rd1 11 fun K hK=>?_;go_simp;refine dn hK hCl (⟨cX5,x93,h93⟩) ?_;clear hK K hHeld hCl;intro hHeld hCl;(try simp only [lL,Act.put]);refine rd1 12 fun K hK=>?_;go_simp;refine hK.out _ _ (fun h=>by cases h) (fun _=>?_);clear hK K;(try simp only [lL,Act.put]);refine wpAnyE_done (by kernel_rfl) ?_ _;clear hown hgrow hat hlt5 r9 cX5 fX5 x9 x93 h9 m9 h93 hHeld hCl y0 y0b z3b cHb HCd NN9 hone S7 HX7 OH7 OM7 cH z3;go_wp2_with fail;go_roundw;case rel=>exact ⟨i+1,_,by omega,by omega,by rw [hcat2.out,HTK.out],by first | (congr 1;done) | (congr 1;omega),by go_num,hid (by rw [hsn.out,<- List.append_assoc,HL.out];exact S9.out),HX9,OH9,OM9⟩
      case measure=>simp [intOf];omega
     rw [hm] at cM hsn;obtain ⟨T3,hT3⟩:∃ T3,txt (Rec.unmask T2.data.toList)=T3:=⟨_,rfl⟩;rw [hT3] at hun;replace hsn:=hid (show Jr.said (x.homes.take (i+1)) x.masked RG=Jr.said (x.homes.take i) x.masked RG ++ [(hz,T3)] from by rw [<- hT3];exact hsn.out);clear hm hT3;have u1:=hid (show True from trivial);have y0:=S7.out.var.cellAt 0 rfl;have hbS:=S7.out.bel.size;have y0b:=((S7.out.var.drew).alloc (.cells #[.int .i64 hz,.string T3] 68)).cellAt 0 rfl;have z3b:=((HX7.out.drew).alloc (.cells #[.int .i64 hz,.string T3] 68)).cellAt 3 rfl;have cHb:=own_cellAt (own_new1 (w:=w7.drew) OH7.out (.cells #[.int .i64 hz,.string T3] 68)) HIC.out;have HCd:=hid (show (w7.drew.alloc (.cells #[.int .i64 hz,.string T3] 68)).ownsRow w.heap.size 68 2 (.slice ac L.length cc) L.length (chgC L) from own_new1 (w:=w7.drew) S7.out.ch (.cells #[.int .i64 hz,.string T3] 68));have NN9:Hid (∀ jj uu,[Value.int .i64 hz,Value.string T3][jj]?=some uu->(w7.drew.alloc (.cells #[.int .i64 hz,.string T3] 68)).cell? ((⟨w7.heap.size,0,none⟩:Addr).add jj)=some uu):=hid (World.news_of_block (heap_alloc_new _ _));have hone:Hid (∀ u ∈ [Value.int .i64 hz,Value.string T3],u.oneCell'=true):=hid (by intro u hu;simp at hu;rcases hu with rfl | rfl <;> rfl);go_upto_region 32 with (first | (go_at_call 157;(with_reducible refine (hun.out _).mono ?_);rintro e w8 ⟨rfl,rfl⟩) | fail "none")
     refine wp_region_E (S:=fun w'=>w'.cell? ⟨w.heap.size+1+1,0,none⟩=some (.slice ac L.length cc)/\w'.cell? ⟨w2.heap.size,3,none⟩=some (.slice (some ⟨gh,0,none⟩) x.homes.length c1)/\w'.cell? ⟨gh,i,none⟩=some (.int .i64 hz)) (E:=[12]) (by kernel_rfl) ⟨y0,z3,cH⟩ (fun hHeld hCl=>?_);refine tk6 hCl hHeld 0 (.pointer (some ⟨w.heap.size+1+1,0,none⟩)) 1 (.slice ac L.length cc) 2 (.pointer (some ⟨w2.heap.size,3,none⟩)) 3 (.slice (some ⟨gh,0,none⟩) x.homes.length c1) 4 (.int .i64 (i:Int)) 5 (.pointer (some ⟨gh,i,none⟩)) fun hCl=>?_;(try simp only [lL,Act.put]);refine tk3 hCl hHeld 6 (.int .i64 hz) 7 (.string T3) 8 (.agg #[.int .i64 hz,.string T3]) fun hCl=>?_;(try simp only [lL,Act.put]);refine rd1 9 fun K hK=>?_;go_simp;refine dn hK hCl (⟨y0b,z3b,cHb⟩) ?_;clear hK K hHeld hCl;intro hHeld hCl;(try simp only [lL,Act.put]);refine rd1 10 fun K hK=>?_;refine step_append_lies _ rfl (.tmp 130) (.tmp 138) 22 rfl w.heap.size 68 k0' (.agg #[.int .i64 0,.string ⟨#[]⟩]) 2 24 Tryz.underlying22 hk0 kz0 kz1 kz2 rfl (by decide) (.slice ac L.length cc) L.length (chgC L) (by simp [Act.eval,Act.put];done) HCd.out ⟨w7.heap.size,0,none⟩ 1 1 [.int .i64 hz,.string T3] (by simp [Act.eval,Act.put];done) rfl NN9.out hone.out (by decide) (by unfold maxLen;omega) (by omega) (by simp;omega) _ rfl ?_;intro g5 c5 w9 hown hgrow hat hlt5;have S9:=hid (StandR.pushC (c:=(hz,T3)) (t:=⟨L,t.rv⟩) S7.out.drew hgrow hown);have r9:=row_grownR ((S7.out.var.drew).alloc (.cells #[.int .i64 hz,.string T3] 68)) HCd.out hgrow (by decide);have cX5:=r9.cellAt 0 rfl;have fX5:=r9.free 0 (by simp);have x9:=row_grownR ((HX7.out.drew).alloc (.cells #[.int .i64 hz,.string T3] 68)) HCd.out hgrow (by decide);have x93:=x9.cellAt 3 rfl;have h9:=own_otherR (own_new1 (w:=w7.drew) OH7.out (.cells #[.int .i64 hz,.string T3] 68)) HCd.out hgrow (by decide);have m9:=own_otherR (own_new1 (w:=w7.drew) OM7.out (.cells #[.int .i64 hz,.string T3] 68)) HCd.out hgrow (by decide);have h93:=own_cellAt h9 HIC.out;have HX9:=hid (x9.other (a:=⟨w.heap.size+1+1,0,none⟩) (by dsimp only;omega) (.slice (some ⟨g5,0,none⟩) (L.length+1) c5));have OH9:=hid (own_setR (a:=⟨w.heap.size+1+1,0,none⟩) (u:=.slice (some ⟨g5,0,none⟩) (L.length+1) c5) r9 h9 (by decide));have OM9:=hid (own_setR (a:=⟨w.heap.size+1+1,0,none⟩) (u:=.slice (some ⟨g5,0,none⟩) (L.length+1) c5) r9 m9 (by decide));refine dn hK hCl (⟨cX5,x93,h93⟩) ?_;clear hK K hHeld hCl;intro hHeld hCl;(try simp only [lL,Act.put]);refine rd1 11 fun K hK=>?_;go_simp;refine dn hK hCl (⟨cX5,x93,h93⟩) ?_;clear hK K hHeld hCl;intro hHeld hCl;(try simp only [lL,Act.put]);refine rd1 12 fun K hK=>?_;go_simp;refine hK.out _ _ (fun h=>by cases h) (fun _=>?_);clear hK K;(try simp only [lL,Act.put]);refine wpAnyE_done (by kernel_rfl) ?_ _;clear hown hgrow hat hlt5 r9 cX5 fX5 x9 x93 h9 m9 h93 hHeld hCl y0 y0b z3b cHb HCd NN9 hone S7 HX7 OH7 OM7 cH z3;go_wp2_with fail;go_roundw;case rel=>exact ⟨i+1,_,by omega,by omega,by rw [hcat2.out,HTK.out],by first | (congr 1;done) | (congr 1;omega),by go_num,hid (by rw [hsn.out,<- List.append_assoc,HL.out];exact S9.out),HX9,OH9,OM9⟩
     case measure=>simp [intOf];omega
    obtain rfl:i=x.homes.length:=(by omega);rw [List.take_length] at hS';rw [if_neg (by omega)] at hres;have HS':=hS';have hsl:=hid (Jr.said_length x.homes x.masked RG);have HRS:Hid (Jr.parseA (Geo.home G) seq (Jr.ring G D.now (place+(n+1+x.homes.length)) (left - (n+1+x.homes.length))) (all ++ T.data.toList ++ cat (RG.take x.homes.length)) ⟨t.ch ++ Jr.said x.homes x.masked RG,t.rv⟩=RES):=hid (by
     have:=hres.out;rwa [show place+(n+1)+x.homes.length=place+(n+1+x.homes.length) by omega,show left - (n+1) - x.homes.length=left - (n+1+x.homes.length) by omega] at this)
    clear hres hX' hH' hM' hS';go_wp2_with fail;go_roundw;case rel=>exact ⟨n+1+x.homes.length,all ++ T.data.toList ++ cat (RG.take x.homes.length),⟨t.ch ++ Jr.said x.homes x.masked RG,t.rv⟩,cv',rv,by omega,rfl,by go_num,hid ⟨by have:=hbd.out.1;have:=hsl.out;simp only [List.length_append];omega,by have:=hbd.out.2.1;dsimp only;omega,by have:=hbd.out.2.2;have:=hcl.out x.homes.length;rw [List.length_append,List.length_append,list_length];omega⟩,HRS,HS'⟩
    case measure=>simp [intOf];omega
end Go.Proofs.YtnpdhidliaahbaaGreat
