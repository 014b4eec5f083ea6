/- The journal: Commit. -/
import Derived.Test.YtnpdhidliaahbaaGreatP23
import Derived.Test.YtnpdhidliaahbaaGreatP24
import Derived.Test.YtnpdhidliaahbaaGreatP26
import Derived.Test.YtnpdhidliaahbaaGreatP21
import Derived.Test.YtnpdhidliaahbaaGreatP25
import Derived.Test.YtnpdhidliaahbaaGreatP20
import Derived.Test.YtnpdhidliaahbaaGreatP07
set_option maxRecDepth 100000
set_option maxHeartbeats 32000000
set_option linter.unusedSimpArgs false
set_option linter.unusedVariables false
namespace Go.Proofs.YtnpdhidliaahbaaGreat
open Go.Lib (hid)
open Go Go.RowKit
theorem commit_dead {lb db:Nat} {g:Geo.G} {V:LogV} {vc vr vd:Value} (w:World) (hL:LogAt lb db g V w) (h:V.bad ≠ 0) (hvc:∃ ad n c,vc=.slice ad n c) (hvr:∃ ad n c,vr=.slice ad n c) :
  Calls Tryz.prog 19 #[.pointer (some ⟨lb,0,none⟩),.agg #[vc,vr],vd] w fun e w'=>e=.returned (.int .i64 V.bad)/\Below w.heap.size w w':=by
 obtain ⟨a1,n1,c1,rfl⟩:=hvc
 obtain ⟨a2,n2,c2,rfl⟩:=hvr
 have BA:Below w.heap.size w (w.alloc (.cells #[.slice a1 n1 c1,.slice a2 n2 c2] 25)):=(Below.refl w.heap.size w).alloc (Nat.le_refl _) _
 have hL1:LogAt lb db g V (w.alloc (.cells #[.slice a1 n1 c1,.slice a2 n2 c2] 25)):=hL.alloc _
 have q:=hid (logthere_any _ hL1)
 have c14:=hL1.cellAt 14 rfl
 have HBA:=hid BA
 clear BA hL hL1
 obtain ⟨v1,v2,v3,v4⟩:=V
 dsimp only at *
 go_enter Tryz.func19,Tryz.ntmps19
 go_wp2_with (first | (go_at_call 67;refine q.out.mono ?_;rintro e w1 ⟨rfl,rfl⟩) | fail "none")
 go_ret
 exact ⟨rfl,HBA.out⟩
theorem commit_any {Bd db lb:Nat} {y:Lay} {D:Dev} {g:Geo.G} {V:LogV} (w:World) (vc vr vd:Value) (t:Jr.Txn) (data:List Jr.Chg) (hD:DevAt Bd w db y D) (hL:LogAt lb db g V w) (hlb:lb ∉ devB db y) (hg:Geo.May g) (hb:V.bad=0) (hp:V.place<=1000000) (hq:V.seq < 2 ^ 64) (ha:D.acts+data.length+1000 < 1000000000000)
  (hC:ChgsV w vc t.ch) (hI:IntsV w vr t.rv) (hcc:∀ ad n cap,vc=.slice (some ad) n cap->n<=cap) (hcr:∀ ad n cap,vr=.slice (some ad) n cap->n<=cap) (hX:ChgsV w vd data) (hl:t.ch.length<=1000000) (hr:t.rv.length<=1000000) (hd:data.length<=900000)
  (hcx:∀ c ∈ t.ch,In64 c.1/\c.2.size<=9223372036854775807) (hrx:∀ x ∈ t.rv,In64 x) (hdx:∀ c ∈ data,In64 c.1/\c.2.size<=9223372036854775807)
  (hok:Jr.Ok (Geo.home g) t) (hok2:mayB (Geo.home g) data []=true) (hroom:V.used+Jr.size t<=Jr.plc g) :
  Calls Tryz.prog 19 #[.pointer (some ⟨lb,0,none⟩),.agg #[vc,vr],vd] w fun e w' =>
   LogTold Bd db lb y g (Jr.doA (Jr.commitA g t V.seq V.place data) D).2 (Jr.doA (Jr.commitA g t V.seq V.place data) D).1
    (if (Jr.doA (Jr.commitA g t V.seq V.place data) D).2=0 then ⟨(V.place+Jr.size t) % Jr.plc g,V.used+Jr.size t,(V.seq+1) % 18446744073709551616,0⟩ else ⟨V.place,V.used,V.seq,(Jr.doA (Jr.commitA g t V.seq V.place data) D).2⟩) w e w':=by
 obtain ⟨i0,hi0,hz0,hz1,hz2⟩:=info_parts infoAct
 obtain ⟨E,hE⟩:∃ E,(Jr.doA (Jr.commitA g t V.seq V.place data) D).2=E:=⟨_,rfl⟩
 obtain ⟨D',hD'⟩:∃ D',(Jr.doA (Jr.commitA g t V.seq V.place data) D).1=D':=⟨_,rfl⟩
 have hmay:=may_of hok
 have hpl:=Jr.plc_of hg
 have hsz1:=Jr.size_pos t
 obtain ⟨ac,cc,rfl⟩:=hC.form
 obtain ⟨ar,cr,rfl⟩:=hI.form
 obtain ⟨ad,cd,rfl⟩:=hX.form
 have hdb:=hD.bounds
 have HDB:Hid (∀ k ∈ devB db y,k < w.heap.size):=hid (by simp [devB];omega)
 have qM1:=hid (fun wz (hz:Below w.heap.size w wz)=>may_any db g hg _ _ t.ch t.rv wz (hC.below hz) (hI.below hz) (by omega) (by omega) hcx hrx)
 have qM2:=hid (fun wz (hz:Below w.heap.size w wz)=>may_any db g hg _ (.slice none 0 0) data [] wz (hX.below hz) (IntsAt.weak (.inl ⟨rfl,rfl⟩)) (by omega) (by simp) hdx (by simp))
 rw [hmay] at qM1
 rw [hok2] at qM2
 have qS:=hid (size_any ac ar t.ch.length t.rv.length cc cr hl hr)
 have hsz:Jr.cdiv t.rv.length 28+Jr.cdiv t.ch.length 24+t.ch.length+1=Jr.size t:=rfl
 rw [hsz] at qS
 have qR:=hid (fun wz (h:LogAt lb db g V wz)=>room_any hg wz h (by omega))
 have qT:=hid (fun wz (hz:Below w.heap.size w wz)=>told_any (Jr.small_home hg) _ _ t V.seq wz (hC.below hz) (hI.below hz) hok hq hl hr (by omega) hcc hcr)
 have qW:=hid (fun b s (hs:s.size<=9223372036854775807) wz=>ringwrite_any db g b s hs wz)
 have qB:=hid (fun n hn wz=>ringblock_any (some ⟨db,0,none⟩) g hg n hn wz)
 have qP:=hid (places_any (some ⟨db,0,none⟩) g hg)
 have qL:=hid (fun wz (h:LogAt lb db g V wz)=>logthere_any wz h)
 have HXD:=hid hX
 have HD:=hid hD
 have HLB:=hid hlb
 have hrr:∀ s ∈ Jr.told t V.seq,s.size<=9223372036854775807:=by
  intro s hs;have e:s.size=128:=by
   unfold Jr.told at hs;rcases List.mem_append.1 hs with h | h
   ·exact Jr.body_fine hg hok s h
   rw [List.mem_singleton.1 h];unfold Jr.lastB;rw [txt_size,Rec.rb_length Jr.last_may]
  rw [e];decide
 have HSS:=hid hrr
 have HDX:=hid (show ∀ c ∈ data,c.2.size<=9223372036854775807 from fun c hc=>(hdx c hc).2)
 have HTL:=hid (Jr.told_length t V.seq)
 have HA0:=hid (actsN_zero (g:=g) (t:=t) (seq:=V.seq) (place:=V.place) (data:=data))
 have HAN:=hid (fun i s h1 h2=>actsN_next (g:=g) (t:=t) (seq:=V.seq) (place:=V.place) (data:=data) (i:=i) (s:=s) h1 h2)
 have HAL:=hid (fun i s h1 h2=>actsN_last (g:=g) (t:=t) (seq:=V.seq) (place:=V.place) (data:=data) (i:=i) (s:=s) h1 h2)
 have HAF:=hid (actsN_all (g:=g) (t:=t) (seq:=V.seq) (place:=V.place) (data:=data))
 have HLE:=hid (fun i h=>actsN_length (g:=g) (t:=t) (seq:=V.seq) (place:=V.place) (data:=data) (i:=i) h)
 have hfull:=actsN_full (g:=g) (t:=t) (seq:=V.seq) (place:=V.place) (data:=data)
 have HFU:=hid hfull
 have hcl:(Jr.commitA g t V.seq V.place data).length=data.length+Jr.size t+2:=by rw [<- HAF.out,List.length_append,hfull];rfl
 have qD:=hid (fun (wz:World) (v:Value) (hz:Below w.heap.size w wz) (hl:ActsAt w.heap.size db wz v (Jr.commitA g t V.seq V.place data))=>do_any (HD.out.below hz) w.heap.size HDB.out v _ hl (by omega) (by omega))
 rw [hE,hD'] at qD ⊢
 have hlog:=hg.ok.2.1
 obtain ⟨N,hN⟩:∃ N,Jr.size t=N:=⟨_,rfl⟩
 obtain ⟨PL,hPL⟩:∃ PL,Jr.plc g=PL:=⟨_,rfl⟩
 obtain ⟨PB,hPB⟩:∃ PB,Jr.pb g=PB:=⟨_,rfl⟩
 obtain ⟨AN,hAN⟩:∃ AN,actsN g t V.seq V.place data=AN:=⟨_,rfl⟩
 obtain ⟨ALL,hALL⟩:∃ ALL,Jr.told t V.seq=ALL:=⟨_,rfl⟩
 obtain ⟨CA,hCA⟩:∃ CA,Jr.commitA g t V.seq V.place data=CA:=⟨_,rfl⟩
 rw [hN] at HAN HAL HAF HLE HFU HTL hroom qS hsz1 ⊢
 rw [hPL] at qR qP hroom hpl ⊢
 rw [hPB] at qB HAN HAL
 rw [hAN] at HA0 HAN HAL HAF HLE HFU
 rw [hALL] at HSS HTL HAN HAL qT
 rw [hCA] at qD HAF
 have TD:Hid (∀ (w':World) (V':LogV),V'=(if E=0 then ⟨(V.place+N) % PL,V.used+N,(V.seq+1) % 18446744073709551616,0⟩ else ⟨V.place,V.used,V.seq,E⟩)->DevAt Bd w' db y D'->LogAt lb db g V' w'->Only (lb :: devB db y) w w'->LogTold Bd db lb y g E D' (if E=0 then ⟨(V.place+N) % PL,V.used+N,(V.seq+1) % 18446744073709551616,0⟩ else ⟨V.place,V.used,V.seq,E⟩) w (.returned (.int .i64 E)) w'):=hid (fun w' V' h1 h2 h3 h4=>by subst h1;exact ⟨rfl,h2,h3,h4⟩)
 generalize LogTold Bd db lb y g E D' _ w=P at *
 have HCU:=hid (show t.ch.length<=1000000/\t.rv.length<=1000000 from ⟨hl,hr⟩)
 have hPLB:PL<=511:=hpl.2.1
 have hNB:N<=511:=by omega
 unfold LogAt logC at hL TD qR qL
 unfold ringV at qM1 qM2 qW qB qP
 clear hD hE hD' hmay hdb hN hPL hPB hAN hALL hCA hcl hfull hrr hsz hl hr hcx hrx hdx hok hok2 hC hI hX hcc hcr ha hpl hlb
 obtain ⟨g1,g2,g3,g4,g5,g6,g7,g8,g9⟩:=g
 obtain ⟨v1,v2,v3,v4⟩:=V
 dsimp only at *
 subst hlog
 obtain rfl:=hb
 clear hg
 obtain ⟨NC,hNC⟩:∃ NC,t.ch.length=NC:=⟨_,rfl⟩
 obtain ⟨NR,hNR⟩:∃ NR,t.rv.length=NR:=⟨_,rfl⟩
 rw [hNC] at qM1 qS qT ⊢
 rw [hNR] at qM1 qS qT ⊢
 clear hNC hNR
 have B1:Below w.heap.size w (w.alloc (.cells #[.slice ac NC cc,.slice ar NR cr] 25)):=(Below.refl w.heap.size w).alloc (Nat.le_refl _) _
 have hL1:=hL.alloc (.cells #[.slice ac NC cc,.slice ar NR cr] 25)
 have hT1:=Row.new w 25 [.slice ac NC cc,.slice ar NR cr] rfl
 have HL1:=hid hL1
 have HT1:=hid hT1
 have HB1:=hid B1
 have c0:=hL1.cellAt 1 rfl;have c1:=hL1.cellAt 2 rfl;have c2:=hL1.cellAt 3 rfl;have c3:=hL1.cellAt 4 rfl;have c4:=hL1.cellAt 5 rfl;have c5:=hL1.cellAt 6 rfl;have c6:=hL1.cellAt 7 rfl;have c7:=hL1.cellAt 8 rfl;have c8:=hL1.cellAt 9 rfl;have c9:=hL1.cellAt 10 rfl
 have c11:=hL1.cellAt 11 rfl
 have c12:=hL1.cellAt 12 rfl
 have c13:=hL1.cellAt 13 rfl
 have c14:=hL1.cellAt 14 rfl
 have x0:=hT1.cellAt 0 rfl
 have x1:=hT1.cellAt 1 rfl
 clear B1 hL1 hT1 hL
 go_enter Tryz.func19,Tryz.ntmps19
 go_wp2_with (first | (go_at_call 67;refine (qL.out _ HL1.out).mono ?_;rintro e w1 ⟨rfl,rfl⟩) | fail "none")
 generalize w.alloc _=w1 at *
 have s1:Below w1.heap.size w1 w1.drew:=(Below.refl _ _).drew
 have KEEP:Hid (∀ wz,Below w1.heap.size w1 wz->wz.cell? ⟨lb,1,none⟩=some (.pointer (some ⟨db,0,none⟩))/\wz.cell? ⟨lb,2,none⟩=some (.int .i64 g1)/\wz.cell? ⟨lb,3,none⟩=some (.int .i64 g2)/\wz.cell? ⟨lb,4,none⟩=some (.int .i64 g3)/\wz.cell? ⟨lb,5,none⟩=some (.int .i64 1)/\wz.cell? ⟨lb,6,none⟩=some (.int .i64 g5)/\wz.cell? ⟨lb,7,none⟩=some (.int .i64 g6)/\wz.cell? ⟨lb,8,none⟩=some (.int .i64 g7)/\wz.cell? ⟨lb,9,none⟩=some (.int .i64 g8)/\wz.cell? ⟨lb,10,none⟩=some (.int .i64 g9)/\wz.cell? ⟨w.heap.size,0,none⟩=some (.slice ac NC cc)/\wz.cell? ⟨w.heap.size,1,none⟩=some (.slice ar NR cr)):=hid (fun wz hz=>by
  have R:=HL1.out.below hz HL1.out.lt;have X:=HT1.out.below hz HT1.out.lt;exact ⟨R.cellAt 1 rfl,R.cellAt 2 rfl,R.cellAt 3 rfl,R.cellAt 4 rfl,R.cellAt 5 rfl,R.cellAt 6 rfl,R.cellAt 7 rfl,R.cellAt 8 rfl,R.cellAt 9 rfl,R.cellAt 10 rfl,X.cellAt 0 rfl,X.cellAt 1 rfl⟩)
 have qM3:=hid (fun wz (hz:Below w1.heap.size w1 wz)=>qM1.out wz (below_next HB1.out hz))
 have qM4:=hid (fun wz (hz:Below w1.heap.size w1 wz)=>qM2.out wz (below_next HB1.out hz))
 go_region_held3 (fun w'=>w'.cell? ⟨lb,1,none⟩=some (.pointer (some ⟨db,0,none⟩))/\w'.cell? ⟨lb,2,none⟩=some (.int .i64 g1)/\w'.cell? ⟨lb,3,none⟩=some (.int .i64 g2)/\w'.cell? ⟨lb,4,none⟩=some (.int .i64 g3)/\w'.cell? ⟨lb,5,none⟩=some (.int .i64 1)/\w'.cell? ⟨lb,6,none⟩=some (.int .i64 g5)/\w'.cell? ⟨lb,7,none⟩=some (.int .i64 g6)/\w'.cell? ⟨lb,8,none⟩=some (.int .i64 g7)/\w'.cell? ⟨lb,9,none⟩=some (.int .i64 g8)/\w'.cell? ⟨lb,10,none⟩=some (.int .i64 g9)/\w'.cell? ⟨w.heap.size,0,none⟩=some (.slice ac NC cc)/\w'.cell? ⟨w.heap.size,1,none⟩=some (.slice ar NR cr))
  (first | (refine KEEP.out _ ?_;assumption) | fail "keep")
  (first | (go_at_call 68;first | ((with_reducible refine (qM3.out _ s1).mono ?_);rintro e wa ⟨rfl,ba⟩;have sa:Below w1.heap.size w1 wa:=below_next s1 ba) | ((with_reducible refine (qM4.out _ sa).mono ?_);rintro e wb ⟨rfl,bb⟩;have sb:Below w1.heap.size w1 wb:=below_next sa bb)) | fail "none")
 have B2:=hid (below_next HB1.out sb)
 have HL2:=hid (HL1.out.below sb HL1.out.lt)
 have HT2:=hid (HT1.out.below sb HT1.out.lt)
 clear KEEP qM1 qM2 qM3 qM4 sa sb ba bb s1 HL1 HT1 HB1  c0 c1 c2 c3 c4 c5 c6 c7 c8 c9 c11 c12 c13 c14 x0 x1
 have x0:=HT2.out.cellAt 0 rfl
 have x1:=HT2.out.cellAt 1 rfl
 go_wp2_with fail
 refine (qS.out _).mono ?_
 rintro e w2 ⟨rfl,hb2⟩
 have B3:=hid (below_next B2.out hb2)
 have HL3:=hid (HL2.out.below hb2 HL2.out.lt)
 have HT3:=hid (HT2.out.below hb2 HT2.out.lt)
 clear hb2 B2 HL2 HT2 x0 x1
 go_wp2_with fail
 refine (qR.out _ HL3.out).mono ?_
 rintro e w3 ⟨rfl,hb3⟩
 have B4:=hid (below_next B3.out hb3)
 have HL4:=hid (HL3.out.below hb3 HL3.out.lt)
 have HT4:=hid (HT3.out.below hb3 HT3.out.lt)
 clear hb3 B3 HL3 HT3 qR qS
 have hng:¬ ((PL:Int) - (v2:Int) < (N:Int)):=by omega
 go_wp2_with fail
 have hdz:data.length<=900000:=hd
 go_loopw [7,9,55] (fun t7 t9 t55 wr=>∃ (j:Nat),j<=data.length/\t55=.int .i64 (j:Int)/\Hid (OwnActs w.heap.size db wr t7 ((data.take j).map Jr.wr))/\Hid (Row wr lb 38 [.bool true,.pointer (some ⟨db,0,none⟩),.int .i64 g1,.int .i64 g2,.int .i64 g3,.int .i64 1,.int .i64 g5,.int .i64 g6,.int .i64 g7,.int .i64 g8,.int .i64 g9,.int .i64 (v1:Int),.int .i64 (v2:Int),.int .u64 (v3:Int),.int .i64 0])/\Hid (Row wr w.heap.size 25 [.slice ac NC cc,.slice ar NR cr])/\Hid (Below w.heap.size w wr)) (fun _ _ t55 _=>data.length - (intOf t55).toNat)
 case atStart=>exact ⟨0,Nat.zero_le _,rfl,hid (by rw [List.take_zero];exact OwnActs.nil _ _ _),HL4,HT4,B4⟩
 case round =>
  obtain ⟨j,hj,rfl,hO,hL,hT,hB⟩:=hrel;by_cases hlt:j < data.length
  ·have i0':(0:Int)<=(j:Int):=(by omega);have i1':(j:Int) < (data.length:Int):=(by omega);obtain ⟨c,hc⟩:∃ c,data[j]?=some c:=⟨_,List.getElem?_eq_getElem hlt⟩;obtain ⟨gx,ox,ex,cc0,cc1⟩:=(HXD.out.below hB.out).cells hc;cases ex;have hs2:=HDX.out c (List.mem_of_getElem? hc);have HSN:=hid (show (data.take (j+1)).map Jr.wr=(data.take j).map Jr.wr ++ [Jr.wr c] from by
    obtain ⟨h1,rfl⟩:=List.getElem?_eq_some_iff.1 hc;rw [List.take_succ_eq_append_getElem h1,List.map_append];rfl)
   obtain ⟨u1,u2⟩:=c;dsimp only at *;have hlj:((data.take j).map Jr.wr).length=j:=(by rw [List.length_map,List.length_take];omega);obtain ⟨LJ,hLJ⟩:∃ LJ,(data.take j).map Jr.wr=LJ:=⟨_,rfl⟩;rw [hLJ] at HSN hO hlj;clear hLJ hc;have bx:Below wr.heap.size wr (wr.alloc (.cells #[.int .i64 u1,.string u2] 68)):=(Below.refl _ _).alloc (Nat.le_refl _) _;obtain ⟨h0,xs,hown,hxa⟩:=hO.out.below bx;rw [hlj] at hown;obtain ⟨av,cv,rfl⟩:=own_form hown;have HOW:=hid hown;have HXA:=hid hxa;have H0:=hid h0;have HLJ:=hid hlj;have hR9:=hL.out.alloc (.cells #[.int .i64 u1,.string u2] 68);have hT9:=hT.out.alloc (.cells #[.int .i64 u1,.string u2] 68);have hC9:=Row.new wr 68 [.int .i64 u1,.string u2] rfl;have HR9:=hid hR9;have HT9:=hid hT9;have HC9:=hid hC9;have HB9:=hid (below_next hB.out bx);have hwr:=hB.out.size;clear hown hxa h0 hO bx hR9 hT9 hC9 hL hT hlj;go_wp2_with fail;generalize wr.alloc _=w9 at *;have KEEP:Hid (∀ wz,Below w9.heap.size w9 wz->wz.cell? ⟨lb,1,none⟩=some (.pointer (some ⟨db,0,none⟩))/\wz.cell? ⟨lb,2,none⟩=some (.int .i64 g1)/\wz.cell? ⟨lb,3,none⟩=some (.int .i64 g2)/\wz.cell? ⟨lb,4,none⟩=some (.int .i64 g3)/\wz.cell? ⟨lb,5,none⟩=some (.int .i64 1)/\wz.cell? ⟨lb,6,none⟩=some (.int .i64 g5)/\wz.cell? ⟨lb,7,none⟩=some (.int .i64 g6)/\wz.cell? ⟨lb,8,none⟩=some (.int .i64 g7)/\wz.cell? ⟨lb,9,none⟩=some (.int .i64 g8)/\wz.cell? ⟨lb,10,none⟩=some (.int .i64 g9)/\wz.cell? ⟨wr.heap.size,0,none⟩=some (.int .i64 u1)/\wz.cell? ⟨wr.heap.size,1,none⟩=some (.string u2)):=hid (fun wz hz=>by
    have R:=HR9.out.below hz HR9.out.lt;have X:=HC9.out.below hz HC9.out.lt;exact ⟨R.cellAt 1 rfl,R.cellAt 2 rfl,R.cellAt 3 rfl,R.cellAt 4 rfl,R.cellAt 5 rfl,R.cellAt 6 rfl,R.cellAt 7 rfl,R.cellAt 8 rfl,R.cellAt 9 rfl,R.cellAt 10 rfl,X.cellAt 0 rfl,X.cellAt 1 rfl⟩)
   have s0:Below w9.heap.size w9 w9.drew:=(Below.refl _ _).drew;have qW1:=hid (fun wz (hz:Below w9.heap.size w9 wz)=>qW.out u1 u2 hs2 wz)
   go_region_held3 (fun w'=>w'.cell? ⟨lb,1,none⟩=some (.pointer (some ⟨db,0,none⟩))/\w'.cell? ⟨lb,2,none⟩=some (.int .i64 g1)/\w'.cell? ⟨lb,3,none⟩=some (.int .i64 g2)/\w'.cell? ⟨lb,4,none⟩=some (.int .i64 g3)/\w'.cell? ⟨lb,5,none⟩=some (.int .i64 1)/\w'.cell? ⟨lb,6,none⟩=some (.int .i64 g5)/\w'.cell? ⟨lb,7,none⟩=some (.int .i64 g6)/\w'.cell? ⟨lb,8,none⟩=some (.int .i64 g7)/\w'.cell? ⟨lb,9,none⟩=some (.int .i64 g8)/\w'.cell? ⟨lb,10,none⟩=some (.int .i64 g9)/\w'.cell? ⟨wr.heap.size,0,none⟩=some (.int .i64 u1)/\w'.cell? ⟨wr.heap.size,1,none⟩=some (.string u2))
    (first | (refine KEEP.out _ ?_;assumption) | (refine KEEP.out _ (below_box ?_ _);assumption) | exact ⟨R5.cellAt 1 rfl,R5.cellAt 2 rfl,R5.cellAt 3 rfl,R5.cellAt 4 rfl,R5.cellAt 5 rfl,R5.cellAt 6 rfl,R5.cellAt 7 rfl,R5.cellAt 8 rfl,R5.cellAt 9 rfl,R5.cellAt 10 rfl,X5.cellAt 0 rfl,X5.cellAt 1 rfl⟩)
    (first | (go_at_call 63;(with_reducible refine (qW1.out _ s0).mono ?_);rintro e wc ⟨u,rfl,hu,bc⟩;have hu2:=hu;obtain ⟨z1,z2,z3,rfl,-⟩:=hu2;have sc:Below w9.heap.size w9 wc:=below_next s0 bc;have G:=hid (own_new1 (own_below HOW.out sc) (.cells #[.func (.func 102) #[] #[.pointer (some ⟨z1,0,none⟩),.pointer (some ⟨z2,0,none⟩),.pointer (some ⟨z3,0,none⟩)]] 135));have NN:=hid (box1 wc (.func (.func 102) #[] #[.pointer (some ⟨z1,0,none⟩),.pointer (some ⟨z2,0,none⟩),.pointer (some ⟨z3,0,none⟩)]) 135);have H1:=act_one hu;have HU:=hid hu;have hsz:w.heap.size<=(wc.alloc (.cells #[.func (.func 102) #[] #[.pointer (some ⟨z1,0,none⟩),.pointer (some ⟨z2,0,none⟩),.pointer (some ⟨z3,0,none⟩)]] 135)).heap.size:=(by have h1:=sc.size;have h2:=HB9.out.size;simp;omega)) | (refine step_append_lies _ rfl (.tmp 59) (.tmp 69) 128 rfl w.heap.size 135 i0 .nilFunc 1 8 Tryz.underlying128 hi0 hz0 hz1 hz2 rfl (by decide) (.slice av j cv) j xs (by simp [Act.eval,Act.put];done) G.out ⟨wc.heap.size,0,none⟩ 1 1 [.func (.func 102) #[] #[.pointer (some ⟨z1,0,none⟩),.pointer (some ⟨z2,0,none⟩),.pointer (some ⟨z3,0,none⟩)]] (by simp [Act.eval,Act.put];done) rfl NN.out H1 (by decide) (by unfold maxLen;omega) (by omega) hsz _ rfl ?_;intro gq c5 w5 hown hgrow hat hlt5;have R5:=row_grownR ((HR9.out.below sc HR9.out.lt).alloc _) G.out hgrow (by decide);have X5:=row_grownR ((HC9.out.below sc HC9.out.lt).alloc _) G.out hgrow (by decide)) | fail "none")
   have hbs:=HB9.out.size;have P5:=hid (OwnActs.push HLJ.out H0.out HOW.out HXA.out sc HU.out (show w.heap.size<=w9.drew.heap.size from hbs) hgrow hown);have B5:=hid (((HB9.out.trans (sc.mono HB9.out.size)).alloc (Nat.le_trans HB9.out.size sc.size) _).grown hgrow hsz (fun k hk=>(World.ownsRow.lt G.out k hk).1));have HR5:=hid R5;have HT5:=hid (row_grownR ((HT9.out.below sc HT9.out.lt).alloc _) G.out hgrow (by decide));clear hown hgrow hat hlt5 R5 X5 G NN H1 HU hu sc bc KEEP qW1 s0 HOW HXA H0 HR9 HT9 HC9 HB9 hB;go_wp2_with fail;go_roundw;case rel=>exact ⟨j+1,by omega,by go_num,hid (by rw [HSN.out];exact P5.out),HR5,HT5,B5⟩
   case measure=>simp [intOf];omega
  obtain rfl:j=data.length:=(by omega);rw [List.take_length] at hO;rw [<- HA0.out] at hO;have r0:=hT.out.cellAt 0 rfl;have r1:=hT.out.cellAt 1 rfl;have r13:=hL.out.cellAt 13 rfl;have s0:Below wr.heap.size wr wr.drew:=(Below.refl _ _).drew;have qT2:=hid (fun wz (hz:Below wr.heap.size wr wz)=>qT.out wz (below_next hB.out hz));have hBS:=hB.out.size;obtain ⟨BT,hBT⟩:∃ BT,wr.heap.size=BT:=⟨_,rfl⟩;go_wp2_with fail
  go_region_held3 (fun w'=>w'.cell? ⟨w.heap.size,0,none⟩=some (.slice ac NC cc)/\w'.cell? ⟨w.heap.size,1,none⟩=some (.slice ar NR cr)/\w'.cell? ⟨lb,13,none⟩=some (.int .u64 (v3:Int)))
   (first | exact ⟨r0,r1,r13⟩ | exact ⟨XT.cellAt 0 rfl,XT.cellAt 1 rfl,RT.cellAt 13 rfl⟩)
   (first | (go_at_call 69;(with_reducible refine (qT2.out _ s0).mono ?_);rintro e wt ⟨v,rfl,hvt,bt⟩;rw [HTL.out] at hvt;obtain ⟨gT,cT,rfl,-⟩:=news_of_own hvt (by omega);have st:Below wr.heap.size wr wt:=below_next s0 bt;have RT:=hL.out.below st hL.out.lt;have XT:=hT.out.below st hT.out.lt) | fail "none")
  have hvt2:wt.ownsRow BT 9 1 (.slice (some ⟨gT,0,none⟩) N cT) N (strs ALL):=(by rw [<- hBT];exact hvt);have HA1:=hid hvt2;have HO1:=hid (hO.out.below st);have HR1:=hid RT;have HB1:=hid (below_next hB.out st);rw [hBT] at hBS;clear hvt hvt2 st bt RT XT qT qT2 s0 r0 r1 r13 hO hL hT hB hBT;have hv1:v1<=1000000:=hp;go_wp2_with fail;go_loopw [7,11,12,80] (fun t7 t11 t12 t80 wr=>∃ (i:Nat),i<=N/\t80=.int .i64 (i:Int)/\Hid (OwnActs w.heap.size db wr t7 (AN i))/\Hid (Row wr lb 38 [.bool true,.pointer (some ⟨db,0,none⟩),.int .i64 g1,.int .i64 g2,.int .i64 g3,.int .i64 1,.int .i64 g5,.int .i64 g6,.int .i64 g7,.int .i64 g8,.int .i64 g9,.int .i64 (v1:Int),.int .i64 (v2:Int),.int .u64 (v3:Int),.int .i64 0])/\Hid (wr.ownsRow BT 9 1 (.slice (some ⟨gT,0,none⟩) N cT) N (strs ALL))/\Hid (Below w.heap.size w wr)) (fun _ _ _ t80 _=>N - (intOf t80).toNat);case atStart=>exact ⟨0,Nat.zero_le _,rfl,HO1,HR1,HA1,HB1⟩
  case round =>
   obtain ⟨i,hi,rfl,hO,HRW,HAW,HBW⟩:=hrel;by_cases hlt:i < N
   ·have i0':(0:Int)<=(i:Int):=(by omega);have i1':(i:Int) < (N:Int):=(by omega);obtain ⟨sx,hsv⟩:∃ sx,ALL[i]?=some sx:=⟨_,List.getElem?_eq_getElem (by rw [HTL.out];exact hlt)⟩;have hsx:=HSS.out sx (List.mem_of_getElem? hsv);have cs:=own_cellAt HAW.out (show (strs ALL)[i]?=some (.string sx) by unfold strs;rw [List.getElem?_map,hsv];rfl);obtain ⟨h0,xs,hown,hxa⟩:=hO.out;have hm:=HLE.out i hlt;obtain ⟨m,hmm⟩:∃ m,(AN i).length=m:=⟨_,rfl⟩;rw [hmm] at hown hm;have hmb:m<=901000:=(by omega);obtain ⟨av,cv,rfl⟩:=own_form hown;by_cases hla:i+1=N
    ·have HSN:=hid (HAL.out i sx hla hsv);have r1:=HRW.out.cellAt 1 rfl;have G9:=own_new1 hown (.cells #[.func (.func 70) #[.pointer (some ⟨db,0,none⟩)] #[]] 135);have NN9:=box1 wr (.func (.func 70) #[.pointer (some ⟨db,0,none⟩)] #[]) 135;have hsz9:w.heap.size<=(wr.alloc (.cells #[.func (.func 70) #[.pointer (some ⟨db,0,none⟩)] #[]] 135)).heap.size:=(by have:=HBW.out.size;simp;omega);have H9:∀ u ∈ [(.func (.func 70) #[.pointer (some ⟨db,0,none⟩)] #[]:Value)],u.oneCell'=true:=(by intro u hu;rw [List.mem_singleton.1 hu];rfl);have HG9:=hid G9;have HN9:=hid NN9;have HOWN:=hid hown;have HXA0:=hid hxa;have H00:=hid h0;have HMM:=hid hmm;have hbq:((i:Int) == (N:Int) - 1)=true:=(by rw [beq_iff_eq];omega);have HAS:=hid (HSS.out);clear G9 NN9 hown hxa h0 hO hmm hm hsv;go_wp2_with (first | (at_builtin;go_loud (refine wpList_append_own _ rfl (.tmp 90) (.tmp 97) 128 rfl w.heap.size 135 i0 .nilFunc 1 8 Tryz.underlying128 hi0 hz0 hz1 hz2 rfl (by decide) _ m _ rfl HG9.out ⟨wr.heap.size,0,none⟩ 1 1 [.func (.func 70) #[.pointer (some ⟨db,0,none⟩)] #[]] rfl rfl HN9.out H9 (by unfold maxLen;omega) (by omega) hsz9 ?_;intro vf wf hownf hgrowf _)) | fail "none");have Pf:=OwnActs.push (M:=w.heap.size) (u:=.func (.func 70) #[.pointer (some ⟨db,0,none⟩)] #[]) (a:=.flush) HMM.out H00.out HOWN.out HXA0.out (Below.refl _ _) rfl (Nat.le_refl _) hgrowf hownf;have hmf:(AN i ++ [Jr.Act.flush]).length=m+1:=(by rw [List.length_append,HMM.out];rfl);obtain ⟨h0,xs,hown,hxa⟩:=Pf;rw [hmf] at hown;obtain ⟨av,cv,rfl⟩:=own_form hown;have HRW:=hid (row_grownR (HRW.out.alloc (.cells #[.func (.func 70) #[.pointer (some ⟨db,0,none⟩)] #[]] 135)) HG9.out hgrowf (by decide));have HAW:=hid (own_otherR (own_new1 HAW.out (.cells #[.func (.func 70) #[.pointer (some ⟨db,0,none⟩)] #[]] 135)) HG9.out hgrowf (by decide));have HBW:=hid ((HBW.out.alloc HBW.out.size (.cells #[.func (.func 70) #[.pointer (some ⟨db,0,none⟩)] #[]] 135)).grown hgrowf hsz9 (fun k hk=>(World.ownsRow.lt HG9.out k hk).1));have HOW:=hid hown;have HXA:=hid hxa;have H0:=hid h0;have HLJ:=hid hmf;clear hown hxa h0 hmf hownf hgrowf HG9 HN9 HOWN HXA0 H00 H9 hsz9;have KEEP:Hid (∀ wz,Below wf.heap.size wf wz->wz.cell? ⟨lb,1,none⟩=some (.pointer (some ⟨db,0,none⟩))/\wz.cell? ⟨lb,2,none⟩=some (.int .i64 g1)/\wz.cell? ⟨lb,3,none⟩=some (.int .i64 g2)/\wz.cell? ⟨lb,4,none⟩=some (.int .i64 g3)/\wz.cell? ⟨lb,5,none⟩=some (.int .i64 1)/\wz.cell? ⟨lb,6,none⟩=some (.int .i64 g5)/\wz.cell? ⟨lb,7,none⟩=some (.int .i64 g6)/\wz.cell? ⟨lb,8,none⟩=some (.int .i64 g7)/\wz.cell? ⟨lb,9,none⟩=some (.int .i64 g8)/\wz.cell? ⟨lb,10,none⟩=some (.int .i64 g9)/\wz.cell? ⟨lb,11,none⟩=some (.int .i64 (v1:Int))):=hid (fun wz hz=>by
      have R:=HRW.out.below hz HRW.out.lt;exact ⟨R.cellAt 1 rfl,R.cellAt 2 rfl,R.cellAt 3 rfl,R.cellAt 4 rfl,R.cellAt 5 rfl,R.cellAt 6 rfl,R.cellAt 7 rfl,R.cellAt 8 rfl,R.cellAt 9 rfl,R.cellAt 10 rfl,R.cellAt 11 rfl⟩)
     have hwv:IntKind.i64.wrap ((v1:Int)+(i:Int))=(v1:Int)+(i:Int):=IntWalk.i64_in _ (by omega);have s0:Below wf.heap.size wf wf.drew:=(Below.refl _ _).drew;have qW1:=hid (fun wz (hz:Below wf.heap.size wf wz)=>qW.out ((PB (v1+i):Nat):Int) sx hsx wz);have qB1:=hid (fun wz (hz:Below wf.heap.size wf wz)=>by
      have:=qB.out (v1+i) (by omega) wz;rwa [Int.natCast_add] at this)
     try go_wp2_with fail
     go_region_held3 (fun w'=>w'.cell? ⟨lb,1,none⟩=some (.pointer (some ⟨db,0,none⟩))/\w'.cell? ⟨lb,2,none⟩=some (.int .i64 g1)/\w'.cell? ⟨lb,3,none⟩=some (.int .i64 g2)/\w'.cell? ⟨lb,4,none⟩=some (.int .i64 g3)/\w'.cell? ⟨lb,5,none⟩=some (.int .i64 1)/\w'.cell? ⟨lb,6,none⟩=some (.int .i64 g5)/\w'.cell? ⟨lb,7,none⟩=some (.int .i64 g6)/\w'.cell? ⟨lb,8,none⟩=some (.int .i64 g7)/\w'.cell? ⟨lb,9,none⟩=some (.int .i64 g8)/\w'.cell? ⟨lb,10,none⟩=some (.int .i64 g9)/\w'.cell? ⟨lb,11,none⟩=some (.int .i64 (v1:Int)))
      (first | (refine KEEP.out _ ?_;assumption) | (refine KEEP.out _ (below_box ?_ _);assumption) | exact ⟨R5.cellAt 1 rfl,R5.cellAt 2 rfl,R5.cellAt 3 rfl,R5.cellAt 4 rfl,R5.cellAt 5 rfl,R5.cellAt 6 rfl,R5.cellAt 7 rfl,R5.cellAt 8 rfl,R5.cellAt 9 rfl,R5.cellAt 10 rfl,R5.cellAt 11 rfl⟩)
      (first | (go_at_call 71;(with_reducible refine (qB1.out _ s0).mono ?_);rintro e wa ⟨rfl,ba⟩;have sa:Below wf.heap.size wf wa:=below_next s0 ba) | (go_at_call 63;(with_reducible refine (qW1.out _ sa).mono ?_);rintro e wc ⟨u,rfl,hu,bc⟩;have hu2:=hu;obtain ⟨z1,z2,z3,rfl,-⟩:=hu2;have sc:Below wf.heap.size wf wc:=below_next sa bc;have G:=hid (own_new1 (own_below HOW.out sc) (.cells #[.func (.func 102) #[] #[.pointer (some ⟨z1,0,none⟩),.pointer (some ⟨z2,0,none⟩),.pointer (some ⟨z3,0,none⟩)]] 135));have NN:=hid (box1 wc (.func (.func 102) #[] #[.pointer (some ⟨z1,0,none⟩),.pointer (some ⟨z2,0,none⟩),.pointer (some ⟨z3,0,none⟩)]) 135);have H1:=act_one hu;have HU:=hid hu;have hsz:w.heap.size<=(wc.alloc (.cells #[.func (.func 102) #[] #[.pointer (some ⟨z1,0,none⟩),.pointer (some ⟨z2,0,none⟩),.pointer (some ⟨z3,0,none⟩)]] 135)).heap.size:=(by have h1:=sc.size;have h2:=HBW.out.size;simp;omega)) | (refine step_append_lies _ rfl (.tmp 99) (.tmp 117) 128 rfl w.heap.size 135 i0 .nilFunc 1 8 Tryz.underlying128 hi0 hz0 hz1 hz2 rfl (by decide) (.slice av (m+1) cv) (m+1) xs (by simp [Act.eval,Act.put];done) G.out ⟨wc.heap.size,0,none⟩ 1 1 [.func (.func 102) #[] #[.pointer (some ⟨z1,0,none⟩),.pointer (some ⟨z2,0,none⟩),.pointer (some ⟨z3,0,none⟩)]] (by simp [Act.eval,Act.put];done) rfl NN.out H1 (by decide) (by unfold maxLen;omega) (by omega) hsz _ rfl ?_;intro gq c5 w5 hown hgrow hat hlt5;have R5:=row_grownR ((HRW.out.below sc HRW.out.lt).alloc _) G.out hgrow (by decide)) | fail "none")
     have hbs:=HBW.out.size;have hsas:=sa.size;have P5:=hid (OwnActs.push HLJ.out H0.out HOW.out HXA.out sc HU.out (by omega) hgrow hown);have B5:=hid (((HBW.out.trans (sc.mono HBW.out.size)).alloc (Nat.le_trans HBW.out.size sc.size) _).grown hgrow hsz (fun k hk=>(World.ownsRow.lt G.out k hk).1));have HR5:=hid R5;have HA5:=hid (own_otherR (own_new1 (own_below HAW.out sc) (.cells #[.func (.func 102) #[] #[.pointer (some ⟨z1,0,none⟩),.pointer (some ⟨z2,0,none⟩),.pointer (some ⟨z3,0,none⟩)]] 135)) G.out hgrow (by decide));clear hown hgrow hat hlt5 R5 G NN H1 HU hu sa sc ba bc KEEP qW1 qB1 s0 HOW HXA H0 HRW HAW HBW hsas;go_wp2_with fail;go_roundw;case rel=>exact ⟨i+1,by omega,by go_num,hid (by rw [HSN.out];exact P5.out),HR5,HA5,B5⟩
     case measure=>simp [intOf];omega
    have HSN:=hid (HAN.out i sx (by omega) hsv);have HOW:=hid hown;have HXA:=hid hxa;have H0:=hid h0;have HLJ:=hid hmm;have hne:¬ ((i:Int)=(N:Int) - 1):=(by omega);clear hown hxa h0 hO hmm hm hsv;have KEEP:Hid (∀ wz,Below wr.heap.size wr wz->wz.cell? ⟨lb,1,none⟩=some (.pointer (some ⟨db,0,none⟩))/\wz.cell? ⟨lb,2,none⟩=some (.int .i64 g1)/\wz.cell? ⟨lb,3,none⟩=some (.int .i64 g2)/\wz.cell? ⟨lb,4,none⟩=some (.int .i64 g3)/\wz.cell? ⟨lb,5,none⟩=some (.int .i64 1)/\wz.cell? ⟨lb,6,none⟩=some (.int .i64 g5)/\wz.cell? ⟨lb,7,none⟩=some (.int .i64 g6)/\wz.cell? ⟨lb,8,none⟩=some (.int .i64 g7)/\wz.cell? ⟨lb,9,none⟩=some (.int .i64 g8)/\wz.cell? ⟨lb,10,none⟩=some (.int .i64 g9)/\wz.cell? ⟨lb,11,none⟩=some (.int .i64 (v1:Int))):=hid (fun wz hz=>by
     have R:=HRW.out.below hz HRW.out.lt;exact ⟨R.cellAt 1 rfl,R.cellAt 2 rfl,R.cellAt 3 rfl,R.cellAt 4 rfl,R.cellAt 5 rfl,R.cellAt 6 rfl,R.cellAt 7 rfl,R.cellAt 8 rfl,R.cellAt 9 rfl,R.cellAt 10 rfl,R.cellAt 11 rfl⟩)
    have hwv:IntKind.i64.wrap ((v1:Int)+(i:Int))=(v1:Int)+(i:Int):=IntWalk.i64_in _ (by omega);have s0:Below wr.heap.size wr wr.drew:=(Below.refl _ _).drew;have qW1:=hid (fun wz (hz:Below wr.heap.size wr wz)=>qW.out ((PB (v1+i):Nat):Int) sx hsx wz);have qB1:=hid (fun wz (hz:Below wr.heap.size wr wz)=>by
     have:=qB.out (v1+i) (by omega) wz;rwa [Int.natCast_add] at this)
    go_wp2_with fail
    go_region_held3 (fun w'=>w'.cell? ⟨lb,1,none⟩=some (.pointer (some ⟨db,0,none⟩))/\w'.cell? ⟨lb,2,none⟩=some (.int .i64 g1)/\w'.cell? ⟨lb,3,none⟩=some (.int .i64 g2)/\w'.cell? ⟨lb,4,none⟩=some (.int .i64 g3)/\w'.cell? ⟨lb,5,none⟩=some (.int .i64 1)/\w'.cell? ⟨lb,6,none⟩=some (.int .i64 g5)/\w'.cell? ⟨lb,7,none⟩=some (.int .i64 g6)/\w'.cell? ⟨lb,8,none⟩=some (.int .i64 g7)/\w'.cell? ⟨lb,9,none⟩=some (.int .i64 g8)/\w'.cell? ⟨lb,10,none⟩=some (.int .i64 g9)/\w'.cell? ⟨lb,11,none⟩=some (.int .i64 (v1:Int)))
     (first | (refine KEEP.out _ ?_;assumption) | (refine KEEP.out _ (below_box ?_ _);assumption) | exact ⟨R5.cellAt 1 rfl,R5.cellAt 2 rfl,R5.cellAt 3 rfl,R5.cellAt 4 rfl,R5.cellAt 5 rfl,R5.cellAt 6 rfl,R5.cellAt 7 rfl,R5.cellAt 8 rfl,R5.cellAt 9 rfl,R5.cellAt 10 rfl,R5.cellAt 11 rfl⟩)
     (first | (go_at_call 71;(with_reducible refine (qB1.out _ s0).mono ?_);rintro e wa ⟨rfl,ba⟩;have sa:Below wr.heap.size wr wa:=below_next s0 ba) | (go_at_call 63;(with_reducible refine (qW1.out _ sa).mono ?_);rintro e wc ⟨u,rfl,hu,bc⟩;have hu2:=hu;obtain ⟨z1,z2,z3,rfl,-⟩:=hu2;have sc:Below wr.heap.size wr wc:=below_next sa bc;have G:=hid (own_new1 (own_below HOW.out sc) (.cells #[.func (.func 102) #[] #[.pointer (some ⟨z1,0,none⟩),.pointer (some ⟨z2,0,none⟩),.pointer (some ⟨z3,0,none⟩)]] 135));have NN:=hid (box1 wc (.func (.func 102) #[] #[.pointer (some ⟨z1,0,none⟩),.pointer (some ⟨z2,0,none⟩),.pointer (some ⟨z3,0,none⟩)]) 135);have H1:=act_one hu;have HU:=hid hu;have hsz:w.heap.size<=(wc.alloc (.cells #[.func (.func 102) #[] #[.pointer (some ⟨z1,0,none⟩),.pointer (some ⟨z2,0,none⟩),.pointer (some ⟨z3,0,none⟩)]] 135)).heap.size:=(by have h1:=sc.size;have h2:=HBW.out.size;simp;omega)) | (refine step_append_lies _ rfl (.tmp 99) (.tmp 117) 128 rfl w.heap.size 135 i0 .nilFunc 1 8 Tryz.underlying128 hi0 hz0 hz1 hz2 rfl (by decide) (.slice av m cv) m xs (by simp [Act.eval,Act.put];done) G.out ⟨wc.heap.size,0,none⟩ 1 1 [.func (.func 102) #[] #[.pointer (some ⟨z1,0,none⟩),.pointer (some ⟨z2,0,none⟩),.pointer (some ⟨z3,0,none⟩)]] (by simp [Act.eval,Act.put];done) rfl NN.out H1 (by decide) (by unfold maxLen;omega) (by omega) hsz _ rfl ?_;intro gq c5 w5 hown hgrow hat hlt5;have R5:=row_grownR ((HRW.out.below sc HRW.out.lt).alloc _) G.out hgrow (by decide)) | fail "none")
    have hbs:=HBW.out.size;have hsas:=sa.size;have P5:=hid (OwnActs.push HLJ.out H0.out HOW.out HXA.out sc HU.out (by omega) hgrow hown);have B5:=hid (((HBW.out.trans (sc.mono HBW.out.size)).alloc (Nat.le_trans HBW.out.size sc.size) _).grown hgrow hsz (fun k hk=>(World.ownsRow.lt G.out k hk).1));have HR5:=hid R5;have HA5:=hid (own_otherR (own_new1 (own_below HAW.out sc) (.cells #[.func (.func 102) #[] #[.pointer (some ⟨z1,0,none⟩),.pointer (some ⟨z2,0,none⟩),.pointer (some ⟨z3,0,none⟩)]] 135)) G.out hgrow (by decide));clear hown hgrow hat hlt5 R5 G NN H1 HU hu sa sc ba bc KEEP qW1 qB1 s0 HOW HXA H0 HRW HAW HBW hsas;go_wp2_with fail;go_roundw;case rel=>exact ⟨i+1,by omega,by go_num,hid (by rw [HSN.out];exact P5.out),HR5,HA5,B5⟩
    case measure=>simp [intOf];omega
   obtain rfl:i=N:=(by omega);have r1:=HRW.out.cellAt 1 rfl;have f14:=HRW.out.free 14 (by simp);obtain ⟨h0,xs,hown,hxa⟩:=hO.out;have hm:=HFU.out;obtain ⟨m,hmm⟩:∃ m,(AN i).length=m:=⟨_,rfl⟩;rw [hmm] at hown hm;have hmb:m<=901000:=(by omega);obtain ⟨av,cv,rfl⟩:=own_form hown;have G9:=own_new1 hown (.cells #[.func (.func 70) #[.pointer (some ⟨db,0,none⟩)] #[]] 135);have NN9:=box1 wr (.func (.func 70) #[.pointer (some ⟨db,0,none⟩)] #[]) 135;have hsz9:w.heap.size<=(wr.alloc (.cells #[.func (.func 70) #[.pointer (some ⟨db,0,none⟩)] #[]] 135)).heap.size:=(by have:=HBW.out.size;simp;omega);have H9:∀ u ∈ [(.func (.func 70) #[.pointer (some ⟨db,0,none⟩)] #[]:Value)],u.oneCell'=true:=(by intro u hu;rw [List.mem_singleton.1 hu];rfl);have HG9:=hid G9;have HN9:=hid NN9;have HOWN:=hid hown;have HXA0:=hid hxa;have H00:=hid h0;have HMM:=hid hmm;clear G9 NN9 hown hxa h0 hO hmm hm;go_wp2_with (first | (at_builtin;go_loud (refine wpList_append_own _ rfl (.tmp 121) (.tmp 128) 128 rfl w.heap.size 135 i0 .nilFunc 1 8 Tryz.underlying128 hi0 hz0 hz1 hz2 rfl (by decide) _ m _ rfl HG9.out ⟨wr.heap.size,0,none⟩ 1 1 [.func (.func 70) #[.pointer (some ⟨db,0,none⟩)] #[]] rfl rfl HN9.out H9 (by unfold maxLen;omega) (by omega) hsz9 ?_;intro vf wf hownf hgrowf _)) | fail "none");have Pf:=OwnActs.push (M:=w.heap.size) (u:=.func (.func 70) #[.pointer (some ⟨db,0,none⟩)] #[]) (a:=.flush) HMM.out H00.out HOWN.out HXA0.out (Below.refl _ _) rfl (Nat.le_refl _) hgrowf hownf;rw [HAF.out] at Pf;have HRF:=hid (row_grownR (HRW.out.alloc (.cells #[.func (.func 70) #[.pointer (some ⟨db,0,none⟩)] #[]] 135)) HG9.out hgrowf (by decide));have HBF:=hid ((HBW.out.alloc HBW.out.size (.cells #[.func (.func 70) #[.pointer (some ⟨db,0,none⟩)] #[]] 135)).grown hgrowf hsz9 (fun k hk=>(World.ownsRow.lt HG9.out k hk).1));have qD5:=hid (qD.out _ _ HBF.out Pf.at);clear Pf hownf hgrowf HG9 HN9 HOWN HXA0 H00 H9 hsz9 HRW HAW HBW r1 f14 qD;go_wp2_with fail;refine qD5.out.mono ?_;rintro e w6 ⟨rfl,hd6,ho6⟩;have hR6:=ho6.row HRF.out HLB.out;have c14:=hR6.cellAt 14 rfl;have f14:=hR6.free 14 (by simp);have hR7:=hR6.set 14 (.int .i64 E);have hd7:=hd6.log lb 14 (.int .i64 E) HLB.out;have ho7:Only (lb :: devB db y) w (w6.setCell ⟨lb,14,none⟩ (.int .i64 E)):=((Only.ofBelow HBF.out).trans (ho6.sub (fun k hk=>List.mem_cons_of_mem _ hk))).trans (Only.setCell _ _ _ (by simp));have HR7:=hid hR7;have HD7:=hid hd7;have HO7:=hid ho7;have d14:=hR7.cellAt 14 rfl;have d0:=hR7.cellAt 1 rfl;have d1:=hR7.cellAt 2 rfl;have d2:=hR7.cellAt 3 rfl;have d3:=hR7.cellAt 4 rfl;have d4:=hR7.cellAt 5 rfl;have d5:=hR7.cellAt 6 rfl;have d6:=hR7.cellAt 7 rfl;have d7:=hR7.cellAt 8 rfl;have d8:=hR7.cellAt 9 rfl;have d9:=hR7.cellAt 10 rfl;have d11:=hR7.cellAt 11 rfl;clear hR6 hR7 hd6 hd7 ho6 ho7 HRF HBF qD5;go_upto_region 24 with fail;generalize w6.setCell _ _=w7 at *;clear c14 f14;by_cases hE0:E=0
   ·subst hE0;rw [if_pos rfl] at TD;have hw1:IntKind.i64.wrap ((v1:Int)+(i:Int))=((v1+i:Nat):Int):=by rw [IntWalk.i64_in _ (by omega)];omega
    have hmod:((v1+i:Nat):Int).tmod (PL:Int)=(((v1+i) % PL:Nat):Int):=(by rw [Int.tmod_eq_emod_of_nonneg (by omega)];omega);have hmod2:((v1+i:Nat):Int) % (PL:Int)=(((v1+i) % PL:Nat):Int):=(by omega);have hlt:=Nat.mod_lt (v1+i) (show 0 < PL by omega);have hP0:¬ ((PL:Nat):Int)=0:=(by omega);have hP1:¬ PL=0:=(by omega);have hw2:IntKind.i64.wrap ((((v1+i) % PL:Nat):Int))=(((v1+i) % PL:Nat):Int):=IntWalk.i64_in _ (by omega);have hmod3:((v1:Int)+(i:Int)).tmod (PL:Int)=(((v1+i) % PL:Nat):Int):=(by rw [<- hmod,show ((v1+i:Nat):Int)=(v1:Int)+(i:Int) from by omega]);obtain ⟨PLC,hPLC⟩:∃ PLC,(v1+i) % PL=PLC:=⟨_,rfl⟩;rw [hPLC] at hmod hmod2 hlt hw2 hmod3 TD;clear hPLC;have hwv:IntKind.i64.wrap ((v1:Int)+(i:Int))=(v1:Int)+(i:Int):=IntWalk.i64_in _ (by omega);go_wp2_with fail;refine wp_region_E (S:=fun w'=>w'.cell? ⟨lb,1,none⟩=some (.pointer (some ⟨db,0,none⟩))/\w'.cell? ⟨lb,2,none⟩=some (.int .i64 g1)/\w'.cell? ⟨lb,3,none⟩=some (.int .i64 g2)/\w'.cell? ⟨lb,4,none⟩=some (.int .i64 g3)/\w'.cell? ⟨lb,5,none⟩=some (.int .i64 1)/\w'.cell? ⟨lb,6,none⟩=some (.int .i64 g5)/\w'.cell? ⟨lb,7,none⟩=some (.int .i64 g6)/\w'.cell? ⟨lb,8,none⟩=some (.int .i64 g7)/\w'.cell? ⟨lb,9,none⟩=some (.int .i64 g8)/\w'.cell? ⟨lb,10,none⟩=some (.int .i64 g9)/\w'.cell? ⟨lb,11,none⟩=some (.int .i64 (v1:Int))) (E:=[16]) (by kernel_rfl) ⟨d0,d1,d2,d3,d4,d5,d6,d7,d8,d9,d11⟩ (fun hHeld hCl=>?_);refine tk6 hCl hHeld 0 (.pointer (some ⟨lb,0,none⟩)) 1 (.pointer (some ⟨lb,0,none⟩)) 2 (.pointer (some ⟨lb,0,none⟩)) 3 (.pointer (some ⟨lb,11,none⟩)) 4 (.int .i64 (v1:Int)) 5 (.slice (some ⟨gT,0,none⟩) i cT) fun hCl=>?_;(try simp only [lL,Act.put]);refine tk6 hCl hHeld 6 (.int .i64 (i:Int)) 7 (.int .i64 ((v1:Int)+(i:Int))) 8 (.pointer (some ⟨lb,0,none⟩)) 9 (.pointer (some ⟨lb,0,none⟩)) 10 (.pointer (some ⟨lb,1,none⟩)) 11 (.agg #[.pointer (some ⟨db,0,none⟩),.int .i64 g1,.int .i64 g2,.int .i64 g3,.int .i64 1,.int .i64 g5,.int .i64 g6,.int .i64 g7,.int .i64 g8,.int .i64 g9]) fun hCl=>?_;(try simp only [lL,Act.put]);refine rd1 12 fun K hK=>?_;go_simp;go_at_call 66;refine (qP.out _).mono ?_;rintro e w8 ⟨rfl,hb8'⟩;have hb8:Below w7.heap.size w7 w8:=⟨hb8'.os,hb8'.tape,hb8'.output,hb8'.size,hb8'.block⟩;have R8:=HR7.out.below hb8 HR7.out.lt;refine dn hK hCl (⟨R8.cellAt 1 rfl,R8.cellAt 2 rfl,R8.cellAt 3 rfl,R8.cellAt 4 rfl,R8.cellAt 5 rfl,R8.cellAt 6 rfl,R8.cellAt 7 rfl,R8.cellAt 8 rfl,R8.cellAt 9 rfl,R8.cellAt 10 rfl,R8.cellAt 11 rfl⟩) ?_;clear hK K hHeld hCl;intro hHeld hCl;(try simp only [lL,Act.put]);refine rd1 13 fun K hK=>?_;go_simp;refine dn hK hCl (⟨R8.cellAt 1 rfl,R8.cellAt 2 rfl,R8.cellAt 3 rfl,R8.cellAt 4 rfl,R8.cellAt 5 rfl,R8.cellAt 6 rfl,R8.cellAt 7 rfl,R8.cellAt 8 rfl,R8.cellAt 9 rfl,R8.cellAt 10 rfl,R8.cellAt 11 rfl⟩) ?_;clear hK K hHeld hCl;intro hHeld hCl;(try simp only [lL,Act.put]);refine rd1 14 fun K hK=>?_;go_simp;refine dn hK hCl (⟨R8.cellAt 1 rfl,R8.cellAt 2 rfl,R8.cellAt 3 rfl,R8.cellAt 4 rfl,R8.cellAt 5 rfl,R8.cellAt 6 rfl,R8.cellAt 7 rfl,R8.cellAt 8 rfl,R8.cellAt 9 rfl,R8.cellAt 10 rfl,R8.cellAt 11 rfl⟩) ?_;clear hK K hHeld hCl;intro hHeld hCl;(try simp only [lL,Act.put]);refine rd1 15 fun K hK=>?_;go_simp;refine dn hK hCl (⟨R8.cellAt 1 rfl,R8.cellAt 2 rfl,R8.cellAt 3 rfl,R8.cellAt 4 rfl,R8.cellAt 5 rfl,R8.cellAt 6 rfl,R8.cellAt 7 rfl,R8.cellAt 8 rfl,R8.cellAt 9 rfl,R8.cellAt 10 rfl,R8.cellAt 11 rfl⟩) ?_;clear hK K hHeld hCl;intro hHeld hCl;(try simp only [lL,Act.put]);have z8:=R8.cellAt 11 rfl;have f8:=R8.free 11 (by simp);refine rd1 16 fun K hK=>?_;go_simp;refine hK.out _ _ (fun h=>by cases h) (fun _=>?_);clear hK K;(try simp only [lL,Act.put]);refine wpAnyE_done (by kernel_rfl) ?_ _;have hd8:=(HD7.out.below hb8).log lb 11 (.int .i64 (PLC:Int)) HLB.out;have ho8:Only (lb :: devB db y) w (w8.setCell ⟨lb,11,none⟩ (.int .i64 (PLC:Int))):=(HO7.out.trans (Only.ofBelow hb8)).trans (Only.setCell _ _ _ (by simp));have hR9:=R8.set 11 (.int .i64 (PLC:Int));have HR9:=hid hR9;have HD8:=hid hd8;have HO8:=hid ho8;have e12:=hR9.cellAt 12 rfl;have e13:=hR9.cellAt 13 rfl;have e14:=hR9.cellAt 14 rfl;have f12:=hR9.free 12 (by simp);have f13:=hR9.free 13 (by simp);have hw12:IntKind.i64.wrap ((v2:Int)+(i:Int))=(v2:Int)+(i:Int):=IntWalk.i64_in _ (by omega);obtain ⟨SQ,hSQ⟩:∃ SQ,(v3+1) % 18446744073709551616=SQ:=⟨_,rfl⟩;have hw13:IntKind.u64.wrap ((v3:Int)+1)=(SQ:Int):=by show ((v3:Int)+1) % 18446744073709551616=_;omega
    rw [hSQ] at TD;clear hR9 hd8 ho8 R8 z8 f8 hb8 hb8' HR7 HD7 HO7 hSQ hHeld hCl hmod hmod2 hmod3 hw1 hw2 hwv d0 d1 d2 d3 d4 d5 d6 d7 d8 d9 d11 d14;generalize w8.setCell _ _=w9 at *;go_wp2_with fail;exact TD.out _ ⟨PLC,v2+i,SQ,0⟩ rfl ((HD8.out.log lb 12 _ HLB.out).log lb 13 _ HLB.out) ((HR9.out.set 12 _).set 13 _) ((HO8.out.trans (Only.setCell _ _ _ (by simp))).trans (Only.setCell _ _ _ (by simp)))
   go_wp2_with fail;exact TD.out _ ⟨v1,v2,v3,E⟩ (by rw [if_neg hE0]) HD7.out HR7.out HO7.out
end Go.Proofs.YtnpdhidliaahbaaGreat
namespace Go.Proofs.YtnpdhidliaahbaaGreat
open Go.Lib (hid)
open Go Go.RowKit
variable {Bd db lb:Nat} {y:Lay} {w:World}
theorem hnA {D:Dev} (h:D.kept.length=256):(D.kept.length:Int)=gA.blocks:=by rw [h,gA_blocks];rfl
theorem aFormat (hD:DevAt Bd w db y devA):Calls Tryz.prog 21 #[.pointer (some ⟨db,0,none⟩),.agg (Geo.cells gA)] w fun e w'=>e=.returned (.int .i64 0)/\DevAt Bd w' db y dev1/\Only (devB db y) w w':=by
 have h:=format_ok gA w hD gA_may (hnA devA_len.2) (by show (0:Int)+600 < _;omega);rw [aliveFacts.e1] at h;unfold dev1;exact h
theorem aOpen (hD:DevAt Bd w db y dev1):Calls Tryz.prog 16 #[.pointer (some ⟨db,0,none⟩),.agg (Geo.cells gA)] w fun e w'=>∃ lb,e=.returned (.tuple #[.pointer (some ⟨lb,0,none⟩),.int .i64 0])/\LogAt lb db gA ⟨0,0,1,0⟩ w'/\w.heap.size<=lb/\Below w.heap.size w w':=by
 have F:=aliveFacts;have h:=openlog_ok gA w hD gA_may (hnA F.l1.2) F.s1 F.l1.1;rw [F.st1.read gA_may] at h;refine h.mono ?_;intro e w' h;rcases h with ⟨h,_⟩ | ⟨L,lb,h,he,h1,h2,h3⟩
 ·cases h
 ·cases h;exact ⟨lb,he,h1,h2,h3⟩
theorem aCommit {ad:Option Addr} {cap:Nat} (hD:DevAt Bd w db y dev1) (hL:LogAt lb db gA ⟨0,0,1,0⟩ w) (hlb:lb ∉ devB db y) (hC:ChgsAt w (.slice ad 2 cap) tA.ch) (hcap:2<=cap) :
  Calls Tryz.prog 19 #[.pointer (some ⟨lb,0,none⟩),.agg #[.slice ad 2 cap,.slice none 0 0],.slice none 0 0] w fun e w'=>e=.returned (.int .i64 0)/\DevAt Bd w' db y dev2/\LogAt lb db gA ⟨4,4,2,0⟩ w'/\Only (lb :: devB db y) w w':=by
 have F:=aliveFacts
 have h:=commit_any (g:=gA) (V:=⟨0,0,1,0⟩) w (.slice ad 2 cap) (.slice none 0 0) (.slice none 0 0) tA [] hD hL hlb gA_may rfl (by decide) (by show 1 < 2 ^ 64;omega) (by rw [F.a1.2];decide) hC.weak (IntsAt.weak (.inl ⟨rfl,rfl⟩)) (fun a n c e=>by cases e;exact hcap) (fun a n c e=>by cases e) (ChgsAt.weak (.inl ⟨rfl,rfl⟩)) (by decide) (by decide) (by decide)
  (fun c hc=>by
   simp only [tA,List.mem_cons,List.not_mem_nil,or_false] at hc;rcases hc with rfl | rfl
   ·exact ⟨by unfold In64;decide,by rw [blk_size];decide⟩
   exact ⟨by unfold In64;decide,by rw [blk_size];decide⟩)
  (fun x hx=>by cases hx) (fun x hx=>by cases hx) tA_ok (by decide) (by rw [tA_size,gA_plc];decide)
 dsimp only at h
 rw [F.e2] at h
 unfold dev2
 refine h.mono ?_
 intro e w' h
 obtain ⟨h1,h2,h3,h4⟩:=h
 rw [if_pos rfl,tA_size,gA_plc] at h3
 exact ⟨h1,h2,h3,h4⟩
theorem aReplay (hD:DevAt Bd w db y dev2):Calls Tryz.prog 15 #[.pointer (some ⟨db,0,none⟩),.agg (Geo.cells gA)] w fun e w'=>∃ v,e=.returned (.tuple #[v,.int .i64 0])/\OwnT w.heap.size w' v [tA]/\DevAt Bd w' db y dev3/\Only (devB db y) w w':=by
 have F:=aliveFacts;have h:=replay_ok gA w hD gA_may (hnA F.l2.2) F.s2 F.l2.1 (by rw [F.a2.2];decide);rw [F.st2.read gA_may] at h;have e0:(Jr.doA (Jr.replayA gA [tA] ((⟨0,1,[tA],Jr.sizes [tA]⟩:Jr.Log).place gA) (⟨0,1,[tA],Jr.sizes [tA]⟩:Jr.Log).next) dev2)=Jr.doA (Jr.replayA gA [tA] (4 % Jr.plc gA) 2) dev2:=by
  unfold Jr.Log.place Jr.Log.next;dsimp only;rw [show Jr.sizes [tA]=4 from by decide];rfl
 refine h.mono ?_;intro e w' h;rcases h with ⟨h,_⟩ | ⟨L,h,h2,_⟩ | ⟨L,h,_,h3,_⟩ | ⟨L,v,h,_,h3,he,h4,h5,h6⟩
 ·cases h
 ·cases h;cases h2
 ·cases h;dsimp only at h3;rw [e0] at h3;exact absurd F.e3 h3
 ·cases h;dsimp only at h4 h5;rw [e0] at h5;unfold dev3;exact ⟨v,he,h4,h5,h6⟩
theorem aReplay2 (hD:DevAt Bd w db y dev3):Calls Tryz.prog 15 #[.pointer (some ⟨db,0,none⟩),.agg (Geo.cells gA)] w fun e w'=>e=.returned (.tuple #[.slice none 0 0,.int .i64 0])/\DevAt Bd w' db y dev3/\Only (devB db y) w w':=by
 have F:=aliveFacts;have h:=replay_ok gA w hD gA_may (hnA F.l3.2) F.s3 F.l3.1 (by have:=F.a3;omega);rw [F.st3.read gA_may] at h;refine h.mono ?_;intro e w' h;rcases h with ⟨h,_⟩ | ⟨L,h,h2,he,h5,h6⟩ | ⟨L,h,h2,_⟩ | ⟨L,v,h,h2,_⟩
 ·cases h
 ·exact ⟨he,h5,h6⟩
 ·cases h;exact absurd rfl h2
 ·cases h;exact absurd rfl h2
theorem aBad {ad:Option Addr} {cap:Nat} (hL:LogAt lb db gA ⟨4,4,2,0⟩ w) (hC:ChgsAt w (.slice ad 1 cap) [(3,blk 1)]) :
  Calls Tryz.prog 19 #[.pointer (some ⟨lb,0,none⟩),.agg #[.slice ad 1 cap,.slice none 0 0],.slice none 0 0] w fun e w'=>e=.returned (.int .i64 2)/\Below w.heap.size w w':=
 commit_bad1 (g:=gA) (V:=⟨4,4,2,0⟩) w (.slice ad 1 cap) (.slice none 0 0) (.slice none 0 0) ⟨[(3,blk 1)],[]⟩ [] hL gA_may rfl (by decide) hC.weak (IntsAt.weak (.inl ⟨rfl,rfl⟩)) (ChgsAt.weak (.inl ⟨rfl,rfl⟩)) (by decide) (by decide) (by decide)
  (fun c hc=>by rw [List.mem_singleton.1 hc];exact ⟨by unfold In64;decide,by rw [blk_size];decide⟩) (fun x hx=>by cases hx) (fun x hx=>by cases hx) bad3
theorem aRoom (u:Nat) (hu:u<=100) {p q:Nat} (h:LogAt lb db gA ⟨p,u,q,0⟩ w):Calls Tryz.prog 17 #[.pointer (some ⟨lb,0,none⟩)] w fun e w'=>e=.returned (.int .i64 (127 - (u:Int)))/\Below w.heap.size w w':=by
 have:=room_any gA_may w h (show u<=100000 by omega);rwa [gA_plc] at this
theorem aRead (hD:DevAt Bd w db y dev3):Calls Tryz.prog 27 #[.pointer (some ⟨db,0,none⟩),.int .i64 190] w fun e w'=>e=.returned (.tuple #[.string (blk 121),.int .i64 0])/\w=w':=by
 have h:=read_any hD 190;rw [aliveFacts.v3] at h;have:dev3.ask 190=0:=(by unfold Dev.ask;rw [if_neg (by rw [aliveFacts.l3.2];omega)]);rwa [this] at h
end Go.Proofs.YtnpdhidliaahbaaGreat
namespace Go.Proofs.YtnpdhidliaahbaaGreat
open Go.Lib (hid)
open Go Go.RowKit
theorem txOf2 {w:World} {a c:Int} {b d:ByteArray} {g:Nat} (h:∀ j u,([Value.int .i64 a,.string b,.int .i64 c,.string d]:List Value)[j]?=some u->w.cell? ⟨g,j,none⟩=some u):ChgsAt w (.slice (some ⟨g,0,none⟩) 2 2) [(a,b),(c,d)]:=
 .inr ⟨g,0,2,rfl,fun j u _ hu=>by rw [Nat.zero_add];exact h j u hu⟩
theorem alive_any (w:World):Calls Tryz.prog 14 #[] w fun e w'=>e=.returned (.bool true)/\Below w.heap.size w w':=by
 have qO:=hid (of_any 256 128 8 w);rw [gA_of] at qO;have qN:=hid (fun w=>newdev_any 256 (by decide) (w:=w));have qF:=hid (fun Bd db y w h=>aFormat (Bd:=Bd) (db:=db) (y:=y) (w:=w) h);have qOp:=hid (fun Bd db y w h=>aOpen (Bd:=Bd) (db:=db) (y:=y) (w:=w) h);have qC:=hid (fun Bd db lb y w ad cap h1 h2 h3 h4 h5=>aCommit (Bd:=Bd) (db:=db) (lb:=lb) (y:=y) (w:=w) (ad:=ad) (cap:=cap) h1 h2 h3 h4 h5);have qR:=hid (fun Bd db y w h=>aReplay (Bd:=Bd) (db:=db) (y:=y) (w:=w) h);have qR2:=hid (fun Bd db y w h=>aReplay2 (Bd:=Bd) (db:=db) (y:=y) (w:=w) h);have qX:=hid (fun db lb w ad cap h1 h2=>aBad (db:=db) (lb:=lb) (w:=w) (ad:=ad) (cap:=cap) h1 h2);have qRo:=hid (fun db lb w u hu p q h=>aRoom (db:=db) (lb:=lb) (w:=w) u hu (p:=p) (q:=q) h);have qNx:=hid (fun db lb w V (h:LogAt lb db gA V w)=>next_any w h);obtain ⟨G,hG⟩:∃ G,gA=G:=⟨_,rfl⟩;rw [hG] at qO qF qOp qC qR qR2 qX qRo qNx;clear hG;unfold Geo.cells at *;obtain ⟨g1,g2,g3,g4,g5,g6,g7,g8,g9⟩:=G;dsimp only at *;go_enter Tryz.func14,Tryz.ntmps14;go_wp2_with fail;refine qO.out.mono ?_;rintro e w1 ⟨rfl,hb1⟩;have B2:=hid (below_box hb1 (.cells #[.int .i64 g1,.int .i64 g2,.int .i64 g3,.int .i64 g4,.int .i64 g5,.int .i64 g6,.int .i64 g7,.int .i64 g8,.int .i64 g9] 30));have RG:=hid (Row.new w1 30 [.int .i64 g1,.int .i64 g2,.int .i64 g3,.int .i64 g4,.int .i64 g5,.int .i64 g6,.int .i64 g7,.int .i64 g8,.int .i64 g9] rfl);go_wp2_with fail;generalize w1.alloc _=w2 at *;refine (qN.out _).mono ?_;rintro e w3 ⟨db,rfl,⟨y,hD3⟩,hb3⟩;have B3:=hid (below_next B2.out hb3);have RG3:=hid (RG.out.below hb3 RG.out.lt);have HD3:=hid hD3;have hdb3:=hD3.bounds;have hgw:=RG.out.lt;have hs3:=hb3.size;have HS:=hid (show ∀ k ∈ devB db y,w2.heap.size<=k/\k < w3.heap.size from by simp [devB];omega);obtain ⟨k0,k1,k2,k3,k4,k5,k6,k7,k8⟩:=RG3.out.c9;clear hb3 hD3 RG qO qN hdb3;go_wp2_with fail;refine (qF.out _ _ _ _ HD3.out).mono ?_;rintro e w4 ⟨rfl,hD4,ho4⟩;have hgn:w1.heap.size ∉ devB db y:=fun h=>by have:=(HS.out _ h).1;omega
 have HGN:=hid hgn;have RG4:=hid (ho4.row RG3.out hgn);have HW2:=B2.out.size;have B4:=hid (B3.out.trans (ho4.below B3.out.size (fun k hk=>by have:=(HS.out k hk).1;omega)));have HD4:=hid hD4;have hs4:=ho4.size;clear  k0 k1 k2 k3 k4 k5 k6 k7 k8 hD4 ho4 HD3 qF B3 RG3 hgn;obtain ⟨k0,k1,k2,k3,k4,k5,k6,k7,k8⟩:=RG4.out.c9;go_wp2_with fail;refine (qOp.out _ _ _ _ HD4.out).mono ?_;rintro e w5 ⟨lb,rfl,hL5,hlb5,hb5⟩;have HL5:=hid hL5;have HD5:=hid (HD4.out.below hb5);have B5:=hid (below_next B4.out hb5);have RG5:=hid (RG4.out.below hb5 RG4.out.lt);have HLB:=hid (show lb ∉ devB db y from fun h=>by have:=(HS.out _ h).2;omega);clear  k0 k1 k2 k3 k4 k5 k6 k7 k8 hL5 hb5 HD4 B4 RG4 qOp;go_wp2_with fail;refine (qRo.out _ _ _ 0 (by decide) _ _ HL5.out).mono ?_;rintro e w6 ⟨rfl,hb6⟩;have HL6:=hid (HL5.out.below hb6 HL5.out.lt);have HD6:=hid (HD5.out.below hb6);have B6:=hid (below_next B5.out hb6);have RG6:=hid (RG5.out.below hb6 RG5.out.lt);clear hb6 HL5 HD5 B5 RG5;go_wp2_with fail;refine (qNx.out _ _ _ _ HL6.out).mono ?_;rintro e w7 ⟨rfl,rfl⟩;go_wp2_with fail;refine (fill_any 120 _).mono ?_;rintro e w8 ⟨rfl,hb8⟩;have HL8:=hid (HL6.out.below hb8 HL6.out.lt);have HD8:=hid (HD6.out.below hb8);have B8:=hid (below_next B6.out hb8);have RG8:=hid (RG6.out.below hb8 RG6.out.lt);clear hb8 HL6 HD6 B6 RG6;go_wp2_with fail;refine (fill_any 121 _).mono ?_;rintro e w9 ⟨rfl,hb9⟩;have bA:Below w9.heap.size w9 ((w9.alloc (.cells #[.int .i64 180,.string (blk 120),.int .i64 190,.string (blk 121)] 68)).alloc (.cells #[.slice (some ⟨w9.heap.size,0,none⟩) 2 2,.slice none 0 0] 25)):=((Below.refl _ _).alloc (Nat.le_refl _) _).alloc (by simp) _;have hL9:=HL8.out.below hb9 HL8.out.lt;have hG9:=RG8.out.below hb9 RG8.out.lt;have HL10:=hid (hL9.below bA hL9.lt);have HD10:=hid ((HD8.out.below hb9).below bA);have B10:=hid (below_next (below_next B8.out hb9) bA);have RG10:=hid (hG9.below bA hG9.lt);have RC10:=hid ((Row.new w9 68 [.int .i64 180,.string (blk 120),.int .i64 190,.string (blk 121)] rfl).alloc (.cells #[.slice (some ⟨w9.heap.size,0,none⟩) 2 2,.slice none 0 0] 25));have RT10:=hid (Row.new (w9.alloc (.cells #[.int .i64 180,.string (blk 120),.int .i64 190,.string (blk 121)] 68)) 25 [.slice (some ⟨w9.heap.size,0,none⟩) 2 2,.slice none 0 0] rfl);rw [World.size_alloc] at RT10;have hlb9:=hL9.lt;clear hb9 HL8 HD8 B8 RG8 hL9 hG9 bA;go_upto_region 9 with fail
 generalize World.alloc _ (.cells #[.slice (some ⟨w9.heap.size,0,none⟩) 2 2,.slice none 0 0] 25)=w10 at *;have qA:=hid (acts_any HD10.out);rw [aliveFacts.a1.2] at qA;have t0:=RT10.out.cellAt 0 rfl;have t1:=RT10.out.cellAt 1 rfl;go_wp2_with fail;refine qA.out.mono ?_;rintro e w11 ⟨rfl,rfl⟩;have hC10:ChgsAt w10 (.slice (some ⟨w9.heap.size,0,none⟩) 2 2) tA.ch:=txOf2 (fun j u hu=>RC10.out.cellAt j hu);have qC1:=hid (qC.out _ _ _ _ _ _ _ HD10.out HL10.out HLB.out hC10 (Nat.le_refl 2));clear hC10 qC qA;go_wp2_with fail;refine qC1.out.mono ?_;rintro e w11 ⟨rfl,hD11,hL11,ho11⟩;have hn9:w9.heap.size ∉ lb :: devB db y:=by
  intro h;rcases List.mem_cons.1 h with h | h
  ·omega
  have:=(HS.out _ h).2;omega
 have hn10:w9.heap.size+1 ∉ lb :: devB db y:=by
  intro h;rcases List.mem_cons.1 h with h | h
  ·omega
  have:=(HS.out _ h).2;omega
 have hn1:w1.heap.size ∉ lb :: devB db y:=by
  intro h;rcases List.mem_cons.1 h with h | h
  ·omega
  exact HGN.out h
 have RG11:=hid (ho11.row RG10.out hn1);have RT11:=hid (ho11.row RT10.out hn10);have RC11:=hid (ho11.row RC10.out hn9);have B11:=hid (B10.out.trans (ho11.below B10.out.size (fun k hk=>by
  rcases List.mem_cons.1 hk with h | h
  ·omega
  have:=(HS.out k h).1;omega)))
 have HD11:=hid hD11;have HL11:=hid hL11;clear hD11 hL11 ho11 hn9 hn10 hn1 RG10 RT10 RC10 B10 HD10 HL10 qC1 t0 t1;have qA:=hid (acts_any HD11.out);rw [aliveFacts.a2.2] at qA;go_wp2_with fail;refine qA.out.mono ?_;rintro e w12 ⟨rfl,rfl⟩;go_wp2_with fail;refine (qRo.out _ _ _ 4 (by decide) _ _ HL11.out).mono ?_;rintro e w13 ⟨rfl,hb13⟩;have HL13:=hid (HL11.out.below hb13 HL11.out.lt);have HD13:=hid (HD11.out.below hb13);have B13:=hid (below_next B11.out hb13);have RG13:=hid (RG11.out.below hb13 RG11.out.lt);have RT13:=hid (RT11.out.below hb13 RT11.out.lt);have RC13:=hid (RC11.out.below hb13 RC11.out.lt);have hs13:=RC13.out.lt;clear hb13 HL11 HD11 B11 RG11 RT11 RC11 qA;go_wp2_with fail;refine (qNx.out _ _ _ _ HL13.out).mono ?_;rintro e w14 ⟨rfl,rfl⟩;have t0:=RT13.out.cellAt 0 rfl;have t1:=RT13.out.cellAt 1 rfl;go_wp2_with fail;have qS:=size_any (some ⟨w9.heap.size,0,none⟩) none 2 0 2 0 (by decide) (by decide) w13;rw [show (Jr.cdiv 0 28+Jr.cdiv 2 24+2+1:Nat)=4 from by decide] at qS;have QS:=hid qS;clear qS;refine QS.out.mono ?_;rintro e w14 ⟨rfl,hb14⟩;have HL14:=hid (HL13.out.below hb14 HL13.out.lt);have HD14:=hid (HD13.out.below hb14);have B14:=hid (below_next B13.out hb14);have RG14:=hid (RG13.out.below hb14 RG13.out.lt);have RT14:=hid (RT13.out.below hb14 RT13.out.lt);have RC14:=hid (RC13.out.below hb14 RC13.out.lt);have hs14:=hb14.size;clear hb14 HL13 HD13 B13 RG13 RT13 RC13 t0 t1 QS;obtain ⟨k0,k1,k2,k3,k4,k5,k6,k7,k8⟩:=RG14.out.c9;have qRR:=hid (qR.out _ _ _ _ HD14.out);go_wp2_with fail;refine qRR.out.mono ?_;rintro e w15 ⟨v,rfl,hv,hD15,ho15⟩;have hn9:w9.heap.size ∉ devB db y:=fun h=>by have:=(HS.out _ h).2;omega
 have hn10:w9.heap.size+1 ∉ devB db y:=fun h=>by have:=(HS.out _ h).2;omega
 obtain ⟨av,cv,rfl⟩:∃ a c,v=.slice a 1 c:=hv.at.form;have hsD:∀ k ∈ devB db y,w.heap.size<=k:=fun k hk=>by have:=(HS.out k hk).1;omega
 have HL15:=hid (ho15.row HL14.out HLB.out);have HD15:=hid hD15;have B15:=hid (B14.out.trans (ho15.below B14.out.size hsD));have RG15:=hid (ho15.row RG14.out HGN.out);have RT15:=hid (ho15.row RT14.out hn10);have HV15:=hid hv;have RC15:=hid (ho15.row RC14.out hn9);have HH9:=hid hn9;have HHD:=hid hsD;have HH10:=hid hn10;have hs15:=ho15.size;clear hv hD15 ho15 hn9 hn10 hsD qRR HL14 HD14 B14 RG14 RT14 RC14  k0 k1 k2 k3 k4 k5 k6 k7 k8;obtain ⟨k0,k1,k2,k3,k4,k5,k6,k7,k8⟩:=RG15.out.c9;have qRR:=hid (qR2.out _ _ _ _ HD15.out);go_wp2_with fail;refine qRR.out.mono ?_;rintro e w16 ⟨rfl,hD16,ho16⟩;have HL16:=hid (ho16.row HL15.out HLB.out);have HD16:=hid hD16;have B16:=hid (B15.out.trans (ho16.below B15.out.size HHD.out));have RT16:=hid (ho16.row RT15.out HH10.out);have RC16:=hid (ho16.row RC15.out HH9.out);have HV16:=hid (HV15.out.only ho16 (fun k hk=>by have:=(HS.out k hk).2;show k < w14.heap.size;omega) (Nat.le_refl _));clear qRR hD16 ho16 HL15 HD15 B15 RG15 RT15 HV15 RC15  k0 k1 k2 k3 k4 k5 k6 k7 k8;have qRd:=hid (aRead HD16.out);go_wp2_with fail;refine qRd.out.mono ?_;rintro e w17 ⟨rfl,rfl⟩;have t0:=RT16.out.cellAt 0 rfl;have t1:=RT16.out.cellAt 1 rfl;go_wp2_with fail;have hT17:=Row.new w16 25 [.slice (some ⟨w9.heap.size,0,none⟩) 2 2,.slice none 0 0] rfl;have hC17:=RC16.out.alloc (.cells #[.slice (some ⟨w9.heap.size,0,none⟩) 2 2,.slice none 0 0] 25);have hX17:TxnsAt (w16.alloc (.cells #[.slice (some ⟨w9.heap.size,0,none⟩) 2 2,.slice none 0 0] 25)) (.slice (some ⟨w16.heap.size,0,none⟩) 1 1) [tA]:=⟨[(.slice (some ⟨w9.heap.size,0,none⟩) 2 2,.slice none 0 0)],.inr ⟨w16.heap.size,0,1,rfl,fun j u _ hu=>by rw [Nat.zero_add];exact hT17.cellAt j hu⟩,⟨⟨txOf2 (fun j u hu=>hC17.cellAt j hu),.inl ⟨rfl,rfl⟩⟩,trivial⟩⟩;have hV17:=(HV16.out.new1 (.cells #[.slice (some ⟨w9.heap.size,0,none⟩) 2 2,.slice none 0 0] 25)).at;have HL17:=hid (HL16.out.alloc (.cells #[.slice (some ⟨w9.heap.size,0,none⟩) 2 2,.slice none 0 0] 25));have B17:=hid (below_box B16.out (.cells #[.slice (some ⟨w9.heap.size,0,none⟩) 2 2,.slice none 0 0] 25));have qE:=hid (txns_same _ _ _ [tA] hV17 hX17 (by decide) (fun t ht=>by rw [List.mem_singleton.1 ht];decide));clear hT17 hC17 hX17 hV17 HL16 HD16 B16 RT16 RC16 HV16 t0 t1;generalize w16.alloc _=w17 at *;refine qE.out.mono ?_;rintro e w18 ⟨rfl,n18,rfl⟩;have HL18:=hid (HL17.out.drewN n18);have B18:=hid (below_drewN B17.out n18);clear HL17 B17 qE;generalize w17.drewN n18=w18 at *;go_wp2_with fail;refine (fill_any 121 _).mono ?_;rintro e w19 ⟨rfl,hb19⟩;have HL19:=hid (HL18.out.below hb19 HL18.out.lt);have B19:=hid (below_next B18.out hb19);clear hb19 HL18 B18;go_wp2_with fail;refine (fill_any 1 _).mono ?_;rintro e w20 ⟨rfl,hb20⟩;have hl20:=HL19.out.below hb20 HL19.out.lt;have hR21:=Row.new w20 68 [.int .i64 3,.string (blk 1)] rfl;have hx21:ChgsAt (w20.alloc (.cells #[.int .i64 3,.string (blk 1)] 68)) (.slice (some ⟨w20.heap.size,0,none⟩) 1 1) [(3,blk 1)]:=.inr ⟨w20.heap.size,0,1,rfl,fun j u _ hu=>by rw [Nat.zero_add];exact hR21.cellAt j hu⟩;have QX:=hid (qX.out _ _ _ _ _ (hl20.alloc (.cells #[.int .i64 3,.string (blk 1)] 68)) hx21);have B21:=hid (below_box (below_next B19.out hb20) (.cells #[.int .i64 3,.string (blk 1)] 68));clear hl20 hR21 hx21 hb20 HL19 B19;go_wp2_with fail;refine QX.out.mono ?_;rintro e w22 ⟨rfl,hb22⟩;have B22:=hid (below_next B21.out hb22);clear hb22 B21;go_wp2_with fail;go_ret;exact ⟨rfl,B22.out⟩
end Go.Proofs.YtnpdhidliaahbaaGreat
