/- What a device is asked to do: the walks (write's closure, do). -/
import Derived.Test.YtnpdhidliaahbaaGreatP10
import Derived.Test.YtnpdhidliaahbaaGreatP12
import Derived.Test.YtnpdhidliaahbaaGreatP07
import Derived.BigQuiet
import Derived.Deep.QuietTactic
set_option maxRecDepth 100000
set_option maxHeartbeats 32000000
set_option linter.unusedSimpArgs false
set_option linter.unusedVariables false
namespace Go.Proofs.YtnpdhidliaahbaaGreat
open Go.Lib (hid)
open Go Go.RowKit
variable {B b:Nat} {w:World} {y:Lay} {D:Dev}
theorem write1_any (h:DevAt B w b y D) (ha:D.acts < 1000000000000) (i:Int) (s:ByteArray) (x1 x2 x3:Nat) (c1:w.cell? ⟨x1,0,none⟩=some (.pointer (some ⟨b,0,none⟩))) (c2:w.cell? ⟨x2,0,none⟩=some (.int .i64 i)) (c3:w.cell? ⟨x3,0,none⟩=some (.string s)) (hs:s.size<=9223372036854775807) :
  Calls Tryz.prog 102 #[.pointer (some ⟨x1,0,none⟩),.pointer (some ⟨x2,0,none⟩),.pointer (some ⟨x3,0,none⟩)] w fun e w'=>e=.returned (.int .i64 (D.writeE i s))/\DevAt B w' b y (D.write i s)/\Only (devB b y) w w':=by
 have q:=hid (write_any h i s hs ha)
 generalize D.writeE i s=E at *
 generalize D.write i s=D' at *
 clear h hs
 go_enter Tryz.func102,Tryz.ntmps102
 go_wp2_with (go_at_call 53;refine q.out.mono ?_;rintro e w1 ⟨rfl,h1,h2⟩)
 go_ret
 exact ⟨rfl,h1,h2.sub (by simp [devB])⟩
theorem do_any (h:DevAt B w b y D) (M:Nat) (hM:∀ k ∈ devB b y,k < M) (v:Value) (l:List Jr.Act) (hl:ActsAt M b w v l) (hn:l.length<=1000000) (ha:D.acts+l.length < 1000000000000) :
  Calls Tryz.prog 64 #[v] w fun e w'=>e=.returned (.int .i64 (Jr.doA l D).2)/\DevAt B w' b y (Jr.doA l D).1/\Only (devB b y) w w':=by
 have HL:=hid hl
 obtain ⟨ad,cap,rfl⟩:=hl.form
 have HD:=hid h
 have HM:=hid hM
 have HA:=hid ha
 clear hl h hM ha
 obtain ⟨RE,hRE⟩:∃ RE,(Jr.doA l D).2=RE:=⟨_,rfl⟩
 obtain ⟨RD,hRD⟩:∃ RD,(Jr.doA l D).1=RD:=⟨_,rfl⟩
 rw [hRE,hRD]
 have HRE:=hid hRE
 have HRD:=hid hRD
 clear hRE hRD
 go_enter Tryz.func64,Tryz.ntmps64
 go_wp2_with fail
 go_loopw [8] (fun q wr=>∃ i:Nat,i<=l.length/\q=.int .i64 i/\Hid ((Jr.doA (l.take i) D).2=0)/\Hid (DevAt B wr b y (Jr.doA (l.take i) D).1)/\Hid (Only (devB b y) w wr)) (fun q _=>l.length - (intOf q).toNat)
 case atStart=>exact ⟨0,by omega,rfl,hid rfl,HD,hid (Only.refl _ _)⟩
 case round =>
  obtain ⟨i,hi,rfl,h0,hd,ho⟩:=hrel;by_cases hlt:i < l.length
  ·have i0:(0:Int)<=(i:Int):=(by omega);have i1:(i:Int) < (l.length:Int):=(by omega);rcases HL.out with ⟨h1,h2⟩ | ⟨g,off,cap',e1,hg,hc⟩
   ·rw [h2] at hlt;exact absurd hlt (Nat.not_lt_zero _)
   cases e1;have hget:l[i]?=some l[i]:=List.getElem?_eq_getElem hlt;obtain ⟨u,cu,hu⟩:=hc i _ hget;have hab:=Above.ofOnly ho.out HM.out;have cu':wr.cell? ⟨g,off+i,none⟩=some u:=hab.cell cu hg;have hu':=hu.above hab;have hstep:=hid (Jr.doA_take hget h0.out);have hbnd:(Jr.doA (l.take i) D).1.acts < 1000000000000:=by
    have:=(Jr.doA_acts (l.take i) D).1;have h3:=HA.out;rw [List.length_take] at this;omega
   clear hc hget cu hu hab;cases hact:l[i] with
   | flush =>
    rw [hact] at hu' hstep;obtain rfl:u=_:=hu';have q:=hid (flush_any hd.out hbnd);have hrun:Hid ((Jr.Act.flush.run (Jr.doA (l.take i) D).1)=((Jr.doA (l.take i) D).1.flush,(Jr.doA (l.take i) D).1.flushE)):=hid rfl;generalize (Jr.doA (l.take i) D).1.flush=D' at *;generalize (Jr.doA (l.take i) D).1.flushE=E at *;clear hbnd hact;by_cases hE:E=0
    ·subst hE;go_wp2_with fail;refine q.out.mono ?_;rintro e w1 ⟨rfl,h1,h2⟩;go_wp2_with fail;go_roundw;case rel=>exact ⟨i+1,by omega,by go_num,hid (by rw [hstep.out,hrun.out]),hid (by rw [hstep.out,hrun.out];exact h1),hid (ho.out.trans (h2.sub (by simp [devB])))⟩
     case measure=>simp [intOf];omega
    go_wp2_with fail;refine q.out.mono ?_;rintro e w1 ⟨rfl,h1,h2⟩;go_wp2_with fail;go_ret;have hS:=Jr.doA_stop (l:=l) (D:=D) (i:=i+1) (by rw [hstep.out,hrun.out];exact hE);exact ⟨by rw [<- HRE.out,hS,hstep.out,hrun.out];rfl,by rw [<- HRD.out,hS,hstep.out,hrun.out];exact h1,ho.out.trans (h2.sub (by simp [devB]))⟩
   | write ib s =>
    rw [hact] at hu' hstep;obtain ⟨x1,x2,x3,rfl,hx1,hx2,hx3,c1,c2,c3,hs⟩:=hu';have q:=hid (write1_any hd.out hbnd ib s x1 x2 x3 c1 c2 c3 hs);have hrun:Hid (((Jr.Act.write ib s).run (Jr.doA (l.take i) D).1)=((Jr.doA (l.take i) D).1.write ib s,(Jr.doA (l.take i) D).1.writeE ib s)):=hid rfl;generalize (Jr.doA (l.take i) D).1.write ib s=D' at *;generalize (Jr.doA (l.take i) D).1.writeE ib s=E at *;clear c1 c2 c3 hs hbnd hact;by_cases hE:E=0
    ·subst hE;go_wp2_with fail;refine q.out.mono ?_;rintro e w1 ⟨rfl,h1,h2⟩;go_wp2_with fail;go_roundw;case rel=>exact ⟨i+1,by omega,by go_num,hid (by rw [hstep.out,hrun.out]),hid (by rw [hstep.out,hrun.out];exact h1),hid (ho.out.trans h2)⟩
     case measure=>simp [intOf];omega
    go_wp2_with fail;refine q.out.mono ?_;rintro e w1 ⟨rfl,h1,h2⟩;go_wp2_with fail;go_ret;have hS:=Jr.doA_stop (l:=l) (D:=D) (i:=i+1) (by rw [hstep.out,hrun.out];exact hE);exact ⟨by rw [<- HRE.out,hS,hstep.out,hrun.out];rfl,by rw [<- HRD.out,hS,hstep.out,hrun.out];exact h1,ho.out.trans h2⟩
  obtain rfl:i=l.length:=(by omega);rw [List.take_length] at h0 hd;have hz:RE=0:=(by rw [<- HRE.out];exact h0.out);subst hz;go_wp2_with fail;go_ret;exact ⟨rfl,by rw [<- HRD.out];exact hd.out,ho.out⟩
end Go.Proofs.YtnpdhidliaahbaaGreat
namespace Go.Proofs.YtnpdhidliaahbaaGreat
open Go.Lib (hid)
open Go Go.RowKit
theorem geo_ne (x y:Geo.G) (w:World):(binOp .neq 30 (.agg (Geo.cells x)) (.agg (Geo.cells y))).run Tryz.prog w=.ok (.bool (!decide (x=y))) w:=by
 have u3:=Tryz.underlying3;have a3:=Tryz.isAgg3;have z3:=Tryz.sizeOf3;have hS:Tryz.prog.underlying 30=some (.struct (Tryz.prog.fieldsOf 30)):=(by kernel_rfl);have hp:Tryz.prog.stoodInHeld 30=false:=(by kernel_rfl);obtain ⟨x1,x2,x3,x4,x5,x6,x7,x8,x9⟩:=x;obtain ⟨y1,y2,y3,y4,y5,y6,y7,y8,y9⟩:=y;simp only [Geo.cells];rw [run_neq_struct,show (10000:Nat)=9999+1 from rfl,run_equalIn_agg w 9999 30 _ _ hS hp];simp only [Program.fieldsOf,Tryz.underlying30];go_simp;repeat' split
 all_goals simp_all
theorem ringof_any {Bd db:Nat} {y:Lay} {D:Dev} (g:Geo.G) (w:World) (hD:DevAt Bd w db y D) :
  Calls Tryz.prog 58 #[.pointer (some ⟨db,0,none⟩),.agg (Geo.cells g)] w fun e w'=>e=.returned (if Geo.May g/\(D.kept.length:Int)=g.blocks then .tuple #[ringV (some ⟨db,0,none⟩) g,.int .i64 0] else .tuple #[.agg #[.pointer none,.int .i64 0,.int .i64 0,.int .i64 0,.int .i64 0,.int .i64 0,.int .i64 0,.int .i64 0,.int .i64 0,.int .i64 0],.int .i64 2])/\Below w.heap.size w w':=by
 have q:=hid (of_any g.blocks g.log g.inodes)
 have heq:Hid (∀ x,∀ wx:World,(binOp .neq 30 (.agg (Geo.cells x)) (.agg (Geo.cells g))).run Tryz.prog wx=.ok (.bool (!decide (x=g))) wx):=hid (fun x wx=>geo_ne x g wx)
 have qb:Hid (∀ wz,Below w.heap.size w wz->Calls Tryz.prog 86 #[.pointer (some ⟨db,0,none⟩)] wz fun e w'=>e=.returned (.int .i64 D.kept.length)/\wz=w'):=hid (fun wz hz=>blocks_any (hD.below hz))
 have hpos:=hD.pos
 have hM:Geo.May g ↔ Geo.of g.blocks g.log g.inodes=(g,0):=Iff.rfl
 have hr:(Geo.of g.blocks g.log g.inodes).2=0 ∨ (Geo.of g.blocks g.log g.inodes).2=2:=by
  unfold Geo.of;split
  ·exact .inl rfl
  exact .inr rfl
 clear hD
 generalize Geo.of g.blocks g.log g.inodes=R at *
 obtain ⟨h,r⟩:=R
 dsimp only at *
 obtain ⟨V,hV⟩:∃ V,(if Geo.May g/\(D.kept.length:Int)=g.blocks then Value.tuple #[ringV (some ⟨db,0,none⟩) g,.int .i64 0] else .tuple #[.agg #[.pointer none,.int .i64 0,.int .i64 0,.int .i64 0,.int .i64 0,.int .i64 0,.int .i64 0,.int .i64 0,.int .i64 0,.int .i64 0],.int .i64 2])=V:=⟨_,rfl⟩
 rw [hV]
 generalize D.kept.length=n at *
 have hE:=heq.out h
 generalize hDD:decide (h=g)=DD at hE
 obtain ⟨g1,g2,g3,g4,g5,g6,g7,g8,g9⟩:=g
 obtain ⟨h1,h2,h3,h4,h5,h6,h7,h8,h9⟩:=h
 unfold ringV at hV
 simp only [Geo.cells] at hE q
 dsimp only [Geo.cells] at *
 have HA0:=hid (Row.new (w.alloc (.cells #[.int .i64 g1,.int .i64 g2,.int .i64 g3,.int .i64 g4,.int .i64 g5,.int .i64 g6,.int .i64 g7,.int .i64 g8,.int .i64 g9] 30)) 34 [.pointer none,.int .i64 0,.int .i64 0,.int .i64 0,.int .i64 0,.int .i64 0,.int .i64 0,.int .i64 0,.int .i64 0,.int .i64 0] rfl)
 have HR0:=hid ((Row.new w 30 [.int .i64 g1,.int .i64 g2,.int .i64 g3,.int .i64 g4,.int .i64 g5,.int .i64 g6,.int .i64 g7,.int .i64 g8,.int .i64 g9] rfl).alloc (.cells #[.pointer none,.int .i64 0,.int .i64 0,.int .i64 0,.int .i64 0,.int .i64 0,.int .i64 0,.int .i64 0,.int .i64 0,.int .i64 0] 34))
 have BA:=hid (((Below.refl w.heap.size w).alloc (Nat.le_refl _) (.cells #[.int .i64 g1,.int .i64 g2,.int .i64 g3,.int .i64 g4,.int .i64 g5,.int .i64 g6,.int .i64 g7,.int .i64 g8,.int .i64 g9] 30)).alloc (by simp) (.cells #[.pointer none,.int .i64 0,.int .i64 0,.int .i64 0,.int .i64 0,.int .i64 0,.int .i64 0,.int .i64 0,.int .i64 0,.int .i64 0] 34))
 rw [World.size_alloc] at HA0
 have n0:¬ ((n:Int)=0):=by omega
 have HV:=hid hV
 have HMM:=hid hM
 have HDD:=hid hDD
 clear hV hM hDD heq hpos
 rcases hr with rfl | rfl
 ·cases DD
  ·obtain rfl:V=.tuple #[.agg #[.pointer none,.int .i64 0,.int .i64 0,.int .i64 0,.int .i64 0,.int .i64 0,.int .i64 0,.int .i64 0,.int .i64 0,.int .i64 0],.int .i64 2]:=by
    rw [<- HV.out,if_neg];rintro ⟨k1,-⟩;have:=HMM.out.1 k1;injection this with k2 k3
    exact absurd k2 (of_decide_eq_false HDD.out)
   clear HV HMM HDD;go_enter Tryz.func58,Tryz.ntmps58;go_wp2_with (first | (go_at_call 86;refine (qb.out _ BA.out).mono ?_;rintro e w1 ⟨rfl,rfl⟩) | fail "none");refine (q.out _).mono ?_;rintro e w2 ⟨rfl,hb2⟩;have R2:=HR0.out.below hb2 HR0.out.lt;have A2:=HA0.out.below hb2 HA0.out.lt;have B2:=hid (BA.out.trans (hb2.mono BA.out.size));have HB2:=hid hb2;have R3:=R2.alloc (.cells #[.int .i64 h1,.int .i64 h2,.int .i64 h3,.int .i64 h4,.int .i64 h5,.int .i64 h6,.int .i64 h7,.int .i64 h8,.int .i64 h9] 30);have A3:=A2.alloc (.cells #[.int .i64 h1,.int .i64 h2,.int .i64 h3,.int .i64 h4,.int .i64 h5,.int .i64 h6,.int .i64 h7,.int .i64 h8,.int .i64 h9] 30);have H3:=Row.new w2 30 [.int .i64 h1,.int .i64 h2,.int .i64 h3,.int .i64 h4,.int .i64 h5,.int .i64 h6,.int .i64 h7,.int .i64 h8,.int .i64 h9] rfl;have B3:=hid (B2.out.alloc B2.out.size (.cells #[.int .i64 h1,.int .i64 h2,.int .i64 h3,.int .i64 h4,.int .i64 h5,.int .i64 h6,.int .i64 h7,.int .i64 h8,.int .i64 h9] 30));have BB3:=hid (hb2.alloc (o:=.cells #[.int .i64 h1,.int .i64 h2,.int .i64 h3,.int .i64 h4,.int .i64 h5,.int .i64 h6,.int .i64 h7,.int .i64 h8,.int .i64 h9] 30) hb2.size);obtain ⟨r0,r1,r2,r3,r4,r5,r6,r7,r8⟩:=R3.c9;obtain ⟨h3_0,h3_1,h3_2,h3_3,h3_4,h3_5,h3_6,h3_7,h3_8⟩:=H3.c9;have RA3:=hid A3;have RG3:=hid R3;have QB3:=hid (fun n=>qb.out _ (below_drewN (BA.out.trans (BB3.out.mono BA.out.size)) n));clear R2 A2 R3 A3 H3 hb2;go_wp2_with fail;generalize w2.alloc _=w3 at *;go_quiet ((go_at_call 86;exact Calls.quiet_of_same ((QB3.out _).mono (fun e w' h=>⟨h.1,h.2.symm⟩))));have RA4:=hid (RA3.out.drewN nq);have RG4:=hid (RG3.out.drewN nq);have B4:=hid (below_drewN B3.out nq);obtain ⟨a0,fa0,a1,fa1,a2,fa2,a3,fa3,a4,fa4,a5,fa5,a6,fa6,a7,fa7,a8,fa8,a9,fa9⟩:=RA4.out.f10;obtain ⟨gg0,gg1,gg2,gg3,gg4,gg5,gg6,gg7,gg8⟩:=RG4.out.c9;generalize w3.drewN nq=w4 at *;go_wp2_with fail;have rF:=((((((((((RA4.out.set 0 (.pointer none)).set 1 (.int .i64 0)).set 2 (.int .i64 0)).set 3 (.int .i64 0)).set 4 (.int .i64 0)).set 5 (.int .i64 0)).set 6 (.int .i64 0)).set 7 (.int .i64 0)).set 8 (.int .i64 0)).set 9 (.int .i64 0));obtain ⟨c0,c1,c2,c3,c4,c5,c6,c7,c8,c9⟩:=rF.c10;exact bodyPost_ret (v:=.tuple #[.agg #[.pointer none,.int .i64 0,.int .i64 0,.int .i64 0,.int .i64 0,.int .i64 0,.int .i64 0,.int .i64 0,.int .i64 0,.int .i64 0],.int .i64 2]) (by simp [results,Tryz.results58,go_sem,c0,c1,c2,c3,c4,c5,c6,c7,c8,c9]) rfl ⟨rfl,((((((((((B4.out.setCell (p:=⟨w.heap.size+1,0,none⟩) (by dsimp only;omega) (.pointer none)).setCell (p:=⟨w.heap.size+1,1,none⟩) (by dsimp only;omega) (.int .i64 0)).setCell (p:=⟨w.heap.size+1,2,none⟩) (by dsimp only;omega) (.int .i64 0)).setCell (p:=⟨w.heap.size+1,3,none⟩) (by dsimp only;omega) (.int .i64 0)).setCell (p:=⟨w.heap.size+1,4,none⟩) (by dsimp only;omega) (.int .i64 0)).setCell (p:=⟨w.heap.size+1,5,none⟩) (by dsimp only;omega) (.int .i64 0)).setCell (p:=⟨w.heap.size+1,6,none⟩) (by dsimp only;omega) (.int .i64 0)).setCell (p:=⟨w.heap.size+1,7,none⟩) (by dsimp only;omega) (.int .i64 0)).setCell (p:=⟨w.heap.size+1,8,none⟩) (by dsimp only;omega) (.int .i64 0)).setCell (p:=⟨w.heap.size+1,9,none⟩) (by dsimp only;omega) (.int .i64 0))⟩
  by_cases hn:(n:Int)=g1
  ·obtain rfl:V=.tuple #[.agg #[.pointer (some ⟨db,0,none⟩),.int .i64 g1,.int .i64 g2,.int .i64 g3,.int .i64 g4,.int .i64 g5,.int .i64 g6,.int .i64 g7,.int .i64 g8,.int .i64 g9],.int .i64 0]:=by
    rw [<- HV.out,if_pos ⟨HMM.out.2 (by rw [of_decide_eq_true HDD.out]),hn⟩]
   have hnf:((n:Int) != g1)=false:=(by rw [bne_eq_false_iff_eq,hn]);clear HV HMM HDD hn;go_enter Tryz.func58,Tryz.ntmps58;go_wp2_with (first | (go_at_call 86;refine (qb.out _ BA.out).mono ?_;rintro e w1 ⟨rfl,rfl⟩) | fail "none");refine (q.out _).mono ?_;rintro e w2 ⟨rfl,hb2⟩;have R2:=HR0.out.below hb2 HR0.out.lt;have A2:=HA0.out.below hb2 HA0.out.lt;have B2:=hid (BA.out.trans (hb2.mono BA.out.size));have HB2:=hid hb2;have R3:=R2.alloc (.cells #[.int .i64 h1,.int .i64 h2,.int .i64 h3,.int .i64 h4,.int .i64 h5,.int .i64 h6,.int .i64 h7,.int .i64 h8,.int .i64 h9] 30);have A3:=A2.alloc (.cells #[.int .i64 h1,.int .i64 h2,.int .i64 h3,.int .i64 h4,.int .i64 h5,.int .i64 h6,.int .i64 h7,.int .i64 h8,.int .i64 h9] 30);have H3:=Row.new w2 30 [.int .i64 h1,.int .i64 h2,.int .i64 h3,.int .i64 h4,.int .i64 h5,.int .i64 h6,.int .i64 h7,.int .i64 h8,.int .i64 h9] rfl;have B3:=hid (B2.out.alloc B2.out.size (.cells #[.int .i64 h1,.int .i64 h2,.int .i64 h3,.int .i64 h4,.int .i64 h5,.int .i64 h6,.int .i64 h7,.int .i64 h8,.int .i64 h9] 30));have BB3:=hid (hb2.alloc (o:=.cells #[.int .i64 h1,.int .i64 h2,.int .i64 h3,.int .i64 h4,.int .i64 h5,.int .i64 h6,.int .i64 h7,.int .i64 h8,.int .i64 h9] 30) hb2.size);obtain ⟨r0,r1,r2,r3,r4,r5,r6,r7,r8⟩:=R3.c9;obtain ⟨h3_0,h3_1,h3_2,h3_3,h3_4,h3_5,h3_6,h3_7,h3_8⟩:=H3.c9;have RA3:=hid A3;have RG3:=hid R3;have QB3:=hid (fun n=>qb.out _ (below_drewN (BA.out.trans (BB3.out.mono BA.out.size)) n));clear R2 A2 R3 A3 H3 hb2;go_wp2_with fail;generalize w2.alloc _=w3 at *;go_quiet ((go_at_call 86;exact Calls.quiet_of_same ((QB3.out _).mono (fun e w' h=>⟨h.1,h.2.symm⟩))));have RA4:=hid (RA3.out.drewN nq);have RG4:=hid (RG3.out.drewN nq);have B4:=hid (below_drewN B3.out nq);obtain ⟨a0,fa0,a1,fa1,a2,fa2,a3,fa3,a4,fa4,a5,fa5,a6,fa6,a7,fa7,a8,fa8,a9,fa9⟩:=RA4.out.f10;obtain ⟨gg0,gg1,gg2,gg3,gg4,gg5,gg6,gg7,gg8⟩:=RG4.out.c9;generalize w3.drewN nq=w4 at *;go_wp2_with fail;have rF:=((((((((((RA4.out.set 0 (.pointer (some ⟨db,0,none⟩))).set 1 (.int .i64 g1)).set 2 (.int .i64 g2)).set 3 (.int .i64 g3)).set 4 (.int .i64 g4)).set 5 (.int .i64 g5)).set 6 (.int .i64 g6)).set 7 (.int .i64 g7)).set 8 (.int .i64 g8)).set 9 (.int .i64 g9));obtain ⟨c0,c1,c2,c3,c4,c5,c6,c7,c8,c9⟩:=rF.c10;exact bodyPost_ret (v:=.tuple #[.agg #[.pointer (some ⟨db,0,none⟩),.int .i64 g1,.int .i64 g2,.int .i64 g3,.int .i64 g4,.int .i64 g5,.int .i64 g6,.int .i64 g7,.int .i64 g8,.int .i64 g9],.int .i64 0]) (by simp [results,Tryz.results58,go_sem,c0,c1,c2,c3,c4,c5,c6,c7,c8,c9]) rfl ⟨rfl,((((((((((B4.out.setCell (p:=⟨w.heap.size+1,0,none⟩) (by dsimp only;omega) (.pointer (some ⟨db,0,none⟩))).setCell (p:=⟨w.heap.size+1,1,none⟩) (by dsimp only;omega) (.int .i64 g1)).setCell (p:=⟨w.heap.size+1,2,none⟩) (by dsimp only;omega) (.int .i64 g2)).setCell (p:=⟨w.heap.size+1,3,none⟩) (by dsimp only;omega) (.int .i64 g3)).setCell (p:=⟨w.heap.size+1,4,none⟩) (by dsimp only;omega) (.int .i64 g4)).setCell (p:=⟨w.heap.size+1,5,none⟩) (by dsimp only;omega) (.int .i64 g5)).setCell (p:=⟨w.heap.size+1,6,none⟩) (by dsimp only;omega) (.int .i64 g6)).setCell (p:=⟨w.heap.size+1,7,none⟩) (by dsimp only;omega) (.int .i64 g7)).setCell (p:=⟨w.heap.size+1,8,none⟩) (by dsimp only;omega) (.int .i64 g8)).setCell (p:=⟨w.heap.size+1,9,none⟩) (by dsimp only;omega) (.int .i64 g9))⟩
  obtain rfl:V=.tuple #[.agg #[.pointer none,.int .i64 0,.int .i64 0,.int .i64 0,.int .i64 0,.int .i64 0,.int .i64 0,.int .i64 0,.int .i64 0,.int .i64 0],.int .i64 2]:=by
   rw [<- HV.out,if_neg (fun k=>hn k.2)]
  clear HV HMM HDD;go_enter Tryz.func58,Tryz.ntmps58;go_wp2_with (first | (go_at_call 86;refine (qb.out _ BA.out).mono ?_;rintro e w1 ⟨rfl,rfl⟩) | fail "none");refine (q.out _).mono ?_;rintro e w2 ⟨rfl,hb2⟩;have R2:=HR0.out.below hb2 HR0.out.lt;have A2:=HA0.out.below hb2 HA0.out.lt;have B2:=hid (BA.out.trans (hb2.mono BA.out.size));have HB2:=hid hb2;have R3:=R2.alloc (.cells #[.int .i64 h1,.int .i64 h2,.int .i64 h3,.int .i64 h4,.int .i64 h5,.int .i64 h6,.int .i64 h7,.int .i64 h8,.int .i64 h9] 30);have A3:=A2.alloc (.cells #[.int .i64 h1,.int .i64 h2,.int .i64 h3,.int .i64 h4,.int .i64 h5,.int .i64 h6,.int .i64 h7,.int .i64 h8,.int .i64 h9] 30);have H3:=Row.new w2 30 [.int .i64 h1,.int .i64 h2,.int .i64 h3,.int .i64 h4,.int .i64 h5,.int .i64 h6,.int .i64 h7,.int .i64 h8,.int .i64 h9] rfl;have B3:=hid (B2.out.alloc B2.out.size (.cells #[.int .i64 h1,.int .i64 h2,.int .i64 h3,.int .i64 h4,.int .i64 h5,.int .i64 h6,.int .i64 h7,.int .i64 h8,.int .i64 h9] 30));have BB3:=hid (hb2.alloc (o:=.cells #[.int .i64 h1,.int .i64 h2,.int .i64 h3,.int .i64 h4,.int .i64 h5,.int .i64 h6,.int .i64 h7,.int .i64 h8,.int .i64 h9] 30) hb2.size);obtain ⟨r0,r1,r2,r3,r4,r5,r6,r7,r8⟩:=R3.c9;obtain ⟨h3_0,h3_1,h3_2,h3_3,h3_4,h3_5,h3_6,h3_7,h3_8⟩:=H3.c9;have RA3:=hid A3;have RG3:=hid R3;have QB3:=hid (fun n=>qb.out _ (below_drewN (BA.out.trans (BB3.out.mono BA.out.size)) n));clear R2 A2 R3 A3 H3 hb2;go_wp2_with fail;generalize w2.alloc _=w3 at *;go_quiet ((go_at_call 86;exact Calls.quiet_of_same ((QB3.out _).mono (fun e w' h=>⟨h.1,h.2.symm⟩))));have RA4:=hid (RA3.out.drewN nq);have RG4:=hid (RG3.out.drewN nq);have B4:=hid (below_drewN B3.out nq);obtain ⟨a0,fa0,a1,fa1,a2,fa2,a3,fa3,a4,fa4,a5,fa5,a6,fa6,a7,fa7,a8,fa8,a9,fa9⟩:=RA4.out.f10;obtain ⟨gg0,gg1,gg2,gg3,gg4,gg5,gg6,gg7,gg8⟩:=RG4.out.c9;generalize w3.drewN nq=w4 at *;go_wp2_with fail;have rF:=((((((((((RA4.out.set 0 (.pointer none)).set 1 (.int .i64 0)).set 2 (.int .i64 0)).set 3 (.int .i64 0)).set 4 (.int .i64 0)).set 5 (.int .i64 0)).set 6 (.int .i64 0)).set 7 (.int .i64 0)).set 8 (.int .i64 0)).set 9 (.int .i64 0));obtain ⟨c0,c1,c2,c3,c4,c5,c6,c7,c8,c9⟩:=rF.c10;exact bodyPost_ret (v:=.tuple #[.agg #[.pointer none,.int .i64 0,.int .i64 0,.int .i64 0,.int .i64 0,.int .i64 0,.int .i64 0,.int .i64 0,.int .i64 0,.int .i64 0],.int .i64 2]) (by simp [results,Tryz.results58,go_sem,c0,c1,c2,c3,c4,c5,c6,c7,c8,c9]) rfl ⟨rfl,((((((((((B4.out.setCell (p:=⟨w.heap.size+1,0,none⟩) (by dsimp only;omega) (.pointer none)).setCell (p:=⟨w.heap.size+1,1,none⟩) (by dsimp only;omega) (.int .i64 0)).setCell (p:=⟨w.heap.size+1,2,none⟩) (by dsimp only;omega) (.int .i64 0)).setCell (p:=⟨w.heap.size+1,3,none⟩) (by dsimp only;omega) (.int .i64 0)).setCell (p:=⟨w.heap.size+1,4,none⟩) (by dsimp only;omega) (.int .i64 0)).setCell (p:=⟨w.heap.size+1,5,none⟩) (by dsimp only;omega) (.int .i64 0)).setCell (p:=⟨w.heap.size+1,6,none⟩) (by dsimp only;omega) (.int .i64 0)).setCell (p:=⟨w.heap.size+1,7,none⟩) (by dsimp only;omega) (.int .i64 0)).setCell (p:=⟨w.heap.size+1,8,none⟩) (by dsimp only;omega) (.int .i64 0)).setCell (p:=⟨w.heap.size+1,9,none⟩) (by dsimp only;omega) (.int .i64 0))⟩
 ·obtain rfl:V=.tuple #[.agg #[.pointer none,.int .i64 0,.int .i64 0,.int .i64 0,.int .i64 0,.int .i64 0,.int .i64 0,.int .i64 0,.int .i64 0,.int .i64 0],.int .i64 2]:=by
   rw [<- HV.out,if_neg];rintro ⟨k1,-⟩;have:=HMM.out.1 k1;injection this with k2 k3
   exact absurd k3 (by decide)
  clear HV HMM HDD;go_enter Tryz.func58,Tryz.ntmps58;go_wp2_with (first | (go_at_call 86;refine (qb.out _ BA.out).mono ?_;rintro e w1 ⟨rfl,rfl⟩) | fail "none");refine (q.out _).mono ?_;rintro e w2 ⟨rfl,hb2⟩;have R2:=HR0.out.below hb2 HR0.out.lt;have A2:=HA0.out.below hb2 HA0.out.lt;have B2:=hid (BA.out.trans (hb2.mono BA.out.size));have HB2:=hid hb2;have R3:=R2.alloc (.cells #[.int .i64 h1,.int .i64 h2,.int .i64 h3,.int .i64 h4,.int .i64 h5,.int .i64 h6,.int .i64 h7,.int .i64 h8,.int .i64 h9] 30);have A3:=A2.alloc (.cells #[.int .i64 h1,.int .i64 h2,.int .i64 h3,.int .i64 h4,.int .i64 h5,.int .i64 h6,.int .i64 h7,.int .i64 h8,.int .i64 h9] 30);have H3:=Row.new w2 30 [.int .i64 h1,.int .i64 h2,.int .i64 h3,.int .i64 h4,.int .i64 h5,.int .i64 h6,.int .i64 h7,.int .i64 h8,.int .i64 h9] rfl;have B3:=hid (B2.out.alloc B2.out.size (.cells #[.int .i64 h1,.int .i64 h2,.int .i64 h3,.int .i64 h4,.int .i64 h5,.int .i64 h6,.int .i64 h7,.int .i64 h8,.int .i64 h9] 30));have BB3:=hid (hb2.alloc (o:=.cells #[.int .i64 h1,.int .i64 h2,.int .i64 h3,.int .i64 h4,.int .i64 h5,.int .i64 h6,.int .i64 h7,.int .i64 h8,.int .i64 h9] 30) hb2.size);obtain ⟨r0,r1,r2,r3,r4,r5,r6,r7,r8⟩:=R3.c9;obtain ⟨h3_0,h3_1,h3_2,h3_3,h3_4,h3_5,h3_6,h3_7,h3_8⟩:=H3.c9;have RA3:=hid A3;have RG3:=hid R3;have QB3:=hid (fun n=>qb.out _ (below_drewN (BA.out.trans (BB3.out.mono BA.out.size)) n));clear R2 A2 R3 A3 H3 hb2;go_wp2_with fail;generalize w2.alloc _=w3 at *;go_quiet ((go_at_call 86;exact Calls.quiet_of_same ((QB3.out _).mono (fun e w' h=>⟨h.1,h.2.symm⟩))));have RA4:=hid (RA3.out.drewN nq);have RG4:=hid (RG3.out.drewN nq);have B4:=hid (below_drewN B3.out nq);obtain ⟨a0,fa0,a1,fa1,a2,fa2,a3,fa3,a4,fa4,a5,fa5,a6,fa6,a7,fa7,a8,fa8,a9,fa9⟩:=RA4.out.f10;obtain ⟨gg0,gg1,gg2,gg3,gg4,gg5,gg6,gg7,gg8⟩:=RG4.out.c9;generalize w3.drewN nq=w4 at *;go_wp2_with fail;have rF:=((((((((((RA4.out.set 0 (.pointer none)).set 1 (.int .i64 0)).set 2 (.int .i64 0)).set 3 (.int .i64 0)).set 4 (.int .i64 0)).set 5 (.int .i64 0)).set 6 (.int .i64 0)).set 7 (.int .i64 0)).set 8 (.int .i64 0)).set 9 (.int .i64 0));obtain ⟨c0,c1,c2,c3,c4,c5,c6,c7,c8,c9⟩:=rF.c10;exact bodyPost_ret (v:=.tuple #[.agg #[.pointer none,.int .i64 0,.int .i64 0,.int .i64 0,.int .i64 0,.int .i64 0,.int .i64 0,.int .i64 0,.int .i64 0,.int .i64 0],.int .i64 2]) (by simp [results,Tryz.results58,go_sem,c0,c1,c2,c3,c4,c5,c6,c7,c8,c9]) rfl ⟨rfl,((((((((((B4.out.setCell (p:=⟨w.heap.size+1,0,none⟩) (by dsimp only;omega) (.pointer none)).setCell (p:=⟨w.heap.size+1,1,none⟩) (by dsimp only;omega) (.int .i64 0)).setCell (p:=⟨w.heap.size+1,2,none⟩) (by dsimp only;omega) (.int .i64 0)).setCell (p:=⟨w.heap.size+1,3,none⟩) (by dsimp only;omega) (.int .i64 0)).setCell (p:=⟨w.heap.size+1,4,none⟩) (by dsimp only;omega) (.int .i64 0)).setCell (p:=⟨w.heap.size+1,5,none⟩) (by dsimp only;omega) (.int .i64 0)).setCell (p:=⟨w.heap.size+1,6,none⟩) (by dsimp only;omega) (.int .i64 0)).setCell (p:=⟨w.heap.size+1,7,none⟩) (by dsimp only;omega) (.int .i64 0)).setCell (p:=⟨w.heap.size+1,8,none⟩) (by dsimp only;omega) (.int .i64 0)).setCell (p:=⟨w.heap.size+1,9,none⟩) (by dsimp only;omega) (.int .i64 0))⟩
end Go.Proofs.YtnpdhidliaahbaaGreat
