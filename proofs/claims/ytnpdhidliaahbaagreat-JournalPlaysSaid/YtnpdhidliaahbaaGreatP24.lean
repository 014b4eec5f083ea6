/- Laws of the journal: lists of changes and of transactions that are the same. -/
import Derived.Test.YtnpdhidliaahbaaGreatP07
import Derived.Test.YtnpdhidliaahbaaGreatP23
import Derived.BigQuiet
set_option maxRecDepth 100000
set_option maxHeartbeats 32000000
set_option linter.unusedSimpArgs false
set_option linter.unusedVariables false
namespace Go.Proofs.YtnpdhidliaahbaaGreat
open Go.Lib (hid)
open Go Go.RowKit
theorem same_drewN (w:World) (n m:Nat):(w.drewN n).drewN m=w.drewN (n+m):=by
 induction m with
 | zero=>rfl
 | succ m ih=>show ((w.drewN n).drewN m).drew=_;rw [ih];rfl
theorem chg_ne (a:Int) (s:ByteArray) (w:World):(binOp .neq 68 (.agg #[.int .i64 a,.string s]) (.agg #[.int .i64 a,.string s])).run Tryz.prog w=.ok (.bool false) w:=by
 have u3:=Tryz.underlying3;have a3:=Tryz.isAgg3;have z3:=Tryz.sizeOf3;have u9:=Tryz.underlying9;have a9:=Tryz.isAgg9;have z9:=Tryz.sizeOf9;have hS:Tryz.prog.underlying 68=some (.struct (Tryz.prog.fieldsOf 68)):=(by kernel_rfl);have hp:Tryz.prog.stoodInHeld 68=false:=(by kernel_rfl);rw [run_neq_struct,show (10000:Nat)=9999+1 from rfl,run_equalIn_agg w 9999 68 _ _ hS hp];simp only [Program.fieldsOf,Tryz.underlying68];go_simp
theorem ints_same (w:World) (v1 v2:Value) (l:List Int) (h1:IntsAt w v1 l) (h2:IntsAt w v2 l) (hl:l.length<=1000000000) :
  Calls Tryz.prog 35 #[v1,v2] w fun e w'=>e=.returned (.bool true)/\∃ n,w'=w.drewN n:=by
 have H1:=hid h1
 have H2:=hid h2
 obtain ⟨a1,c1,rfl⟩:=h1.form
 obtain ⟨a2,c2,rfl⟩:=h2.form
 clear h1 h2
 go_enter Tryz.func35,Tryz.ntmps35
 go_wp2_with fail
 go_loopw [5] (fun q wr=>∃ (j:Nat),j<=l.length/\q=.int .i64 j/\Hid (∃ n,wr=w.drewN n)) (fun q _=>l.length - (intOf q).toNat)
 case atStart=>exact ⟨0,by omega,rfl,hid ⟨0,rfl⟩⟩
 case round =>
  obtain ⟨j,hj,rfl,hn⟩:=hrel;by_cases hlt:j < l.length
  ·have i1:(j:Int) < (l.length:Int):=(by omega);have i0:(0:Int)<=(j:Int):=(by omega);have hb:Below w.heap.size w wr:=(by obtain ⟨n,rfl⟩:=hn.out;exact below_drewN (Below.refl _ _) n);obtain ⟨u,hu⟩:∃ u,(icells l)[j]?=some u/\u=.int .i64 l[j]:=⟨_,by unfold icells;rw [List.getElem?_map,List.getElem?_eq_getElem hlt];rfl,rfl⟩;obtain ⟨hu,rfl⟩:=hu;have H1':=H1.out.below hb;have H2':=H2.out.below hb;rcases H1' with ⟨e1,e2⟩ | ⟨g,off,k1,e1,q1⟩
   ·rw [e2] at hlt;exact absurd hlt (Nat.not_lt_zero _)
   rcases H2' with ⟨e3,e4⟩ | ⟨g2,off2,k2,e3,q2⟩
   ·rw [e4] at hlt;exact absurd hlt (Nat.not_lt_zero _)
   have d1:=q1 j _ hu;have d2:=q2 j _ hu;cases e1;cases e3;generalize l[j]=X at *;have HNX:=hid (fun m=>show ∃ n,wr.drewN m=w.drewN n from by obtain ⟨n,rfl⟩:=hn.out;exact ⟨_,same_drewN w n m⟩);clear q1 q2 hu;go_wp2_with fail;go_quiet (fail);go_wp2_with fail;go_roundw;case rel=>exact ⟨j+1,by omega,by go_num,hid (HNX.out _)⟩
   case measure=>simp [intOf];omega
  obtain rfl:j=l.length:=(by omega);go_wp2_with fail;go_ret;exact ⟨rfl,hn.out⟩
theorem chgs_same (w:World) (v1 v2:Value) (l:List Jr.Chg) (h1:ChgsAt w v1 l) (h2:ChgsAt w v2 l) (hl:l.length<=1000000000) :
  Calls Tryz.prog 78 #[v1,v2] w fun e w'=>e=.returned (.bool true)/\∃ n,w'=w.drewN n:=by
 have H1:=hid h1
 have H2:=hid h2
 obtain ⟨a1,c1,rfl⟩:=h1.form
 obtain ⟨a2,c2,rfl⟩:=h2.form
 clear h1 h2
 have hne:=fun a s w=>chg_ne a s w
 go_enter Tryz.func78,Tryz.ntmps78
 go_wp2_with fail
 go_loopw [5] (fun q wr=>∃ (j:Nat),j<=l.length/\q=.int .i64 j/\Hid (∃ n,wr=w.drewN n)) (fun q _=>l.length - (intOf q).toNat)
 case atStart=>exact ⟨0,by omega,rfl,hid ⟨0,rfl⟩⟩
 case round =>
  obtain ⟨j,hj,rfl,hn⟩:=hrel;by_cases hlt:j < l.length
  ·have i1:(j:Int) < (l.length:Int):=(by omega);have i0:(0:Int)<=(j:Int):=(by omega);have hb:Below w.heap.size w wr:=(by obtain ⟨n,rfl⟩:=hn.out;exact below_drewN (Below.refl _ _) n);obtain ⟨c,hc⟩:∃ c,l[j]?=some c:=⟨_,List.getElem?_eq_getElem hlt⟩;obtain ⟨g,off,e1,d1,d2⟩:=(H1.out.below hb).cells hc;obtain ⟨g2,off2,e2,d3,d4⟩:=(H2.out.below hb).cells hc;cases e1;cases e2;obtain ⟨X,Y⟩:=c;dsimp only at *;have HNX:=hid (fun m=>show ∃ n,wr.drewN m=w.drewN n from by obtain ⟨n,rfl⟩:=hn.out;exact ⟨_,same_drewN w n m⟩);clear hc;go_wp2_with fail;go_quiet (fail);go_wp2_with fail;go_roundw;case rel=>exact ⟨j+1,by omega,by go_num,hid (HNX.out _)⟩
   case measure=>simp [intOf];omega
  obtain rfl:j=l.length:=(by omega);go_wp2_with fail;go_ret;exact ⟨rfl,hn.out⟩
theorem txns_same (w:World) (v1 v2:Value) (l:List Jr.Txn) (h1:TxnsAt w v1 l) (h2:TxnsAt w v2 l) (hl:l.length<=1000000000) (hll:∀ t ∈ l,t.ch.length<=1000000000/\t.rv.length<=1000000000) :
  Calls Tryz.prog 26 #[v1,v2] w fun e w'=>e=.returned (.bool true)/\∃ n,w'=w.drewN n:=by
 have H1:=hid h1
 have H2:=hid h2
 have HLL:=hid hll
 obtain ⟨a1,c1,rfl⟩:=h1.form
 obtain ⟨a2,c2,rfl⟩:=h2.form
 clear h1 h2 hll
 go_enter Tryz.func26,Tryz.ntmps26
 go_wp2_with fail
 go_loopw [5] (fun q wr=>∃ (j:Nat),j<=l.length/\q=.int .i64 j/\Hid (∃ n,wr=w.drewN n)) (fun q _=>l.length - (intOf q).toNat)
 case atStart=>exact ⟨0,by omega,rfl,hid ⟨0,rfl⟩⟩
 case round =>
  obtain ⟨j,hj,rfl,hn⟩:=hrel;by_cases hlt:j < l.length
  ·have i1:(j:Int) < (l.length:Int):=(by omega);have i0:(0:Int)<=(j:Int):=(by omega);have hb:Below w.heap.size w wr:=(by obtain ⟨n,rfl⟩:=hn.out;exact below_drewN (Below.refl _ _) n);obtain ⟨t,ht⟩:∃ t,l[j]?=some t:=⟨_,List.getElem?_eq_getElem hlt⟩;obtain ⟨g,off,vc,vr,e1,d1,d2,k1,k2⟩:=(H1.out.below hb).cells ht;obtain ⟨g2,off2,vc2,vr2,e2,d3,d4,k3,k4⟩:=(H2.out.below hb).cells ht;cases e1;cases e2;have hL:=HLL.out t (List.mem_of_getElem? ht);have qC:=hid (fun m=>chgs_same (wr.drewN m) vc vc2 t.ch (k1.below (below_drewN (Below.refl _ _) m)) (k3.below (below_drewN (Below.refl _ _) m)) hL.1);have qI:=hid (fun m=>ints_same (wr.drewN m) vr vr2 t.rv (k2.below (below_drewN (Below.refl _ _) m)) (k4.below (below_drewN (Below.refl _ _) m)) hL.2);have HNX:=hid (fun m=>show ∃ n,wr.drewN m=w.drewN n from by obtain ⟨n,rfl⟩:=hn.out;exact ⟨_,same_drewN w n m⟩);obtain ⟨ac1,cc1,rfl⟩:=k1.form;obtain ⟨ac2,cc2,rfl⟩:=k2.form;obtain ⟨ac3,cc3,rfl⟩:=k3.form;obtain ⟨ac4,cc4,rfl⟩:=k4.form;clear k1 k2 k3 k4 ht hL;go_wp2_with fail;go_quiet ((first | (go_at_call 78;exact Calls.quiet_of (qC.out _)) | (go_at_call 35;exact Calls.quiet_of (qI.out _))));go_wp2_with fail;go_roundw;case rel=>exact ⟨j+1,by omega,by go_num,hid (HNX.out _)⟩
   case measure=>simp [intOf];omega
  obtain rfl:j=l.length:=(by omega);go_wp2_with fail;go_ret;exact ⟨rfl,hn.out⟩
theorem fill_any (x:UInt8) (w:World):Calls Tryz.prog 45 #[bval x] w fun e w'=>e=.returned (.string (blk x))/\Below w.heap.size w w':=by
 have q:=hid (blk_any x w);unfold bval at *;go_enter Tryz.func45,Tryz.ntmps45;go_wp2_with fail;refine q.out.mono ?_;rintro e w1 ⟨rfl,hb⟩;go_wp2_with fail;go_ret;exact ⟨rfl,hb⟩
def LogTold (Bd db lb:Nat) (y:Lay) (g:Geo.G) (E:Int) (D':Dev) (V':LogV) (w:World) (e:Ending) (w':World):Prop:=e=.returned (.int .i64 E)/\DevAt Bd w' db y D'/\LogAt lb db g V' w'/\Only (lb :: devB db y) w w'
theorem DevAt.log {Bd db:Nat} {w:World} {y:Lay} {D:Dev} (h:DevAt Bd w db y D) (lb k:Nat) (u:Value) (hlb:lb ∉ devB db y):DevAt Bd (w.setCell ⟨lb,k,none⟩ u) db y D:=by
 unfold devB at hlb;simp only [List.mem_cons,List.not_mem_nil,or_false,not_or] at hlb;obtain ⟨h1,h2,h3,h4⟩:=hlb;exact ⟨h.own,h.cells.other (a:=⟨lb,k,none⟩) h1 _,ownsRow_setCell_other h.kept (by simp [Value.ownBlock];exact Ne.symm h2) _,ownsRow_setCell_other h.now (by simp [Value.ownBlock];exact Ne.symm h3) _,ownsRow_setCell_other h.pend (by simp [Value.ownBlock];exact Ne.symm h4) _,h.ne,h.pos,h.left,h.acts⟩
theorem checkpoint_idle {lb db:Nat} {g:Geo.G} {V:LogV} (w:World) (hL:LogAt lb db g V w) (h:V.bad ≠ 0 ∨ V.used=0) :
  Calls Tryz.prog 20 #[.pointer (some ⟨lb,0,none⟩)] w fun e w'=>e=.returned (.int .i64 V.bad)/\Below w.heap.size w w':=by
 have q:=hid (logthere_any w hL)
 have c14:=hL.cellAt 14 rfl
 have c12:=hL.cellAt 12 rfl
 clear hL
 obtain ⟨v1,v2,v3,v4⟩:=V
 dsimp only at *
 by_cases hv:v4=0
 ·obtain rfl:=hv;obtain rfl:v2=0:=h.resolve_left (fun h=>h rfl);clear h;go_enter Tryz.func20,Tryz.ntmps20;go_wp2_with (first | (go_at_call 67;refine q.out.mono ?_;rintro e w1 ⟨rfl,rfl⟩) | fail "none");go_ret;exact ⟨rfl,Below.refl _ _⟩
 ·clear h;go_enter Tryz.func20,Tryz.ntmps20;go_wp2_with (first | (go_at_call 67;refine q.out.mono ?_;rintro e w1 ⟨rfl,rfl⟩) | fail "none");go_ret;exact ⟨rfl,Below.refl _ _⟩
theorem checkpoint_any {Bd db lb:Nat} {y:Lay} {D:Dev} {g:Geo.G} {V:LogV} (w:World) (hD:DevAt Bd w db y D) (hL:LogAt lb db g V w) (hlb:lb ∉ devB db y) (hg:Geo.May g) (hb:V.bad=0) (hu:V.used ≠ 0) (hp:V.place<=4611686018427387904) (hq:V.seq < 2 ^ 64) (ha:D.acts+600 < 1000000000000) :
  Calls Tryz.prog 20 #[.pointer (some ⟨lb,0,none⟩)] w fun e w' =>
   LogTold Bd db lb y g (Jr.doA (Jr.headA (V.place % Jr.plc g) V.seq) D).2 (Jr.doA (Jr.headA (V.place % Jr.plc g) V.seq) D).1 ⟨V.place,if (Jr.doA (Jr.headA (V.place % Jr.plc g) V.seq) D).2=0 then 0 else V.used,V.seq,(Jr.doA (Jr.headA (V.place % Jr.plc g) V.seq) D).2⟩ w e w':=by
 obtain ⟨E,hE⟩:∃ E,(Jr.doA (Jr.headA (V.place % Jr.plc g) V.seq) D).2=E:=⟨_,rfl⟩
 obtain ⟨D',hD'⟩:∃ D',(Jr.doA (Jr.headA (V.place % Jr.plc g) V.seq) D).1=D':=⟨_,rfl⟩
 have q:=hid (logthere_any w hL)
 have qH:=hid (fun wz=>begin_any db g hg V.place V.seq hp hq wz)
 have hdb:=hD.bounds
 have HDB:Hid (∀ k ∈ devB db y,k < w.heap.size):=hid (by simp [devB];omega)
 have hhl:(Jr.headA (V.place % Jr.plc g) V.seq).length<=3:=by unfold Jr.headA;simp
 have qD:=hid (fun (wz:World) (v:Value) (M:Nat) (hM:w.heap.size<=M) (hz:Below w.heap.size w wz) (hl:ActsAt M db wz v (Jr.headA (V.place % Jr.plc g) V.seq))=>do_any (hD.below hz) M (fun k hk=>Nat.lt_of_lt_of_le (HDB.out k hk) hM) v _ hl (by omega) (by omega))
 rw [hE,hD'] at qD ⊢
 obtain ⟨H,hH⟩:∃ H,Jr.headA (V.place % Jr.plc g) V.seq=H:=⟨_,rfl⟩
 rw [hH] at qD qH
 have TD:Hid (∀ (w':World) (u:Nat),u=(if E=0 then 0 else V.used)->DevAt Bd w' db y D'->LogAt lb db g ⟨V.place,u,V.seq,E⟩ w'->Only (lb :: devB db y) w w'->LogTold Bd db lb y g E D' ⟨V.place,if E=0 then 0 else V.used,V.seq,E⟩ w (.returned (.int .i64 E)) w'):=hid (fun w' u h1 h2 h3 h4=>by subst h1;exact ⟨rfl,h2,h3,h4⟩)
 generalize LogTold Bd db lb y g E D' ⟨V.place,if E=0 then 0 else V.used,V.seq,E⟩ w=P at *
 have HLB:=hid hlb
 have hlog:=hg.ok.2.1
 unfold LogAt logC at hL TD
 unfold ringV at qH
 clear hD hE hD' hdb hhl hH hg hlb
 obtain ⟨g1,g2,g3,g4,g5,g6,g7,g8,g9⟩:=g
 obtain ⟨v1,v2,v3,v4⟩:=V
 dsimp only at *
 subst hlog
 obtain rfl:=hb
 have c0:=hL.cellAt 1 rfl;have c1:=hL.cellAt 2 rfl;have c2:=hL.cellAt 3 rfl;have c3:=hL.cellAt 4 rfl;have c4:=hL.cellAt 5 rfl;have c5:=hL.cellAt 6 rfl;have c6:=hL.cellAt 7 rfl;have c7:=hL.cellAt 8 rfl;have c8:=hL.cellAt 9 rfl;have c9:=hL.cellAt 10 rfl
 have c11:=hL.cellAt 11 rfl
 have c12:=hL.cellAt 12 rfl
 have c13:=hL.cellAt 13 rfl
 have c14:=hL.cellAt 14 rfl
 have HL:=hid hL
 have hv2:(v2:Int) ≠ 0:=by omega
 clear hL
 go_enter Tryz.func20,Tryz.ntmps20
 go_wp2_with (first | (go_at_call 67;refine q.out.mono ?_;rintro e w1 ⟨rfl,rfl⟩) | fail "none")
 go_region_held3 (fun w'=>w'.cell? ⟨lb,1,none⟩=some (.pointer (some ⟨db,0,none⟩))/\w'.cell? ⟨lb,2,none⟩=some (.int .i64 g1)/\w'.cell? ⟨lb,3,none⟩=some (.int .i64 g2)/\w'.cell? ⟨lb,4,none⟩=some (.int .i64 g3)/\w'.cell? ⟨lb,5,none⟩=some (.int .i64 1)/\w'.cell? ⟨lb,6,none⟩=some (.int .i64 g5)/\w'.cell? ⟨lb,7,none⟩=some (.int .i64 g6)/\w'.cell? ⟨lb,8,none⟩=some (.int .i64 g7)/\w'.cell? ⟨lb,9,none⟩=some (.int .i64 g8)/\w'.cell? ⟨lb,10,none⟩=some (.int .i64 g9)/\w'.cell? ⟨lb,11,none⟩=some (.int .i64 (v1:Int))/\w'.cell? ⟨lb,13,none⟩=some (.int .u64 (v3:Int)))
  (first | exact ⟨c0,c1,c2,c3,c4,c5,c6,c7,c8,c9,c11,c13⟩ | exact ⟨(R8.set 14 _).cellAt 1 rfl,(R8.set 14 _).cellAt 2 rfl,(R8.set 14 _).cellAt 3 rfl,(R8.set 14 _).cellAt 4 rfl,(R8.set 14 _).cellAt 5 rfl,(R8.set 14 _).cellAt 6 rfl,(R8.set 14 _).cellAt 7 rfl,(R8.set 14 _).cellAt 8 rfl,(R8.set 14 _).cellAt 9 rfl,(R8.set 14 _).cellAt 10 rfl,(R8.set 14 _).cellAt 11 rfl,(R8.set 14 _).cellAt 13 rfl⟩ | exact ⟨R8.cellAt 1 rfl,R8.cellAt 2 rfl,R8.cellAt 3 rfl,R8.cellAt 4 rfl,R8.cellAt 5 rfl,R8.cellAt 6 rfl,R8.cellAt 7 rfl,R8.cellAt 8 rfl,R8.cellAt 9 rfl,R8.cellAt 10 rfl,R8.cellAt 11 rfl,R8.cellAt 13 rfl⟩ | exact ⟨R6.cellAt 1 rfl,R6.cellAt 2 rfl,R6.cellAt 3 rfl,R6.cellAt 4 rfl,R6.cellAt 5 rfl,R6.cellAt 6 rfl,R6.cellAt 7 rfl,R6.cellAt 8 rfl,R6.cellAt 9 rfl,R6.cellAt 10 rfl,R6.cellAt 11 rfl,R6.cellAt 13 rfl⟩)
  (first | (go_at_call 65;refine (qH.out _).mono ?_;rintro e w6 ⟨u,rfl,hu6,hb6'⟩;have hb6:Below w.heap.size w w6:=⟨hb6'.os,hb6'.tape,hb6'.output,hb6'.size,hb6'.block⟩;have R6:=HL.out.below hb6 HL.out.lt) | (go_at_call 64;refine (qD.out _ _ _ (Nat.le_refl _) hb6 hu6).mono ?_;rintro e w8 ⟨rfl,hd8,ho8⟩;have R8:=ho8.row R6 HLB.out;have f8:=R8.free 14 (by simp);have z8:=R8.cellAt 14 rfl) | fail "none")
 have R9:=R8.set 14 (.int .i64 E)
 have hd9:=hd8.log lb 14 (.int .i64 E) HLB.out
 have ho9:Only (lb :: devB db y) w (w8.setCell ⟨lb,14,none⟩ (.int .i64 E)):=((Only.ofBelow hb6).trans (ho8.sub (fun k hk=>List.mem_cons_of_mem _ hk))).trans (Only.setCell _ _ _ (by simp))
 have x14:=R9.cellAt 14 rfl
 have f12:=R9.free 12 (by simp)
 have x12:=R9.cellAt 12 rfl
 have R9:=hid R9
 clear R8 R6 f8 z8 hd8 ho8 hu6 hb6 hb6' qD qH q
 generalize w8.setCell _ _=w9 at *
 by_cases h0:E=0
 ·subst h0;go_wp2_with fail;exact TD.out _ 0 (by simp) (hd9.log lb 12 _ HLB.out) (R9.out.set 12 (.int .i64 0)) (ho9.trans (Only.setCell _ _ _ (by simp)))
 ·go_wp2_with fail;exact TD.out _ v2 (by rw [if_neg h0]) hd9 R9.out ho9
end Go.Proofs.YtnpdhidliaahbaaGreat
