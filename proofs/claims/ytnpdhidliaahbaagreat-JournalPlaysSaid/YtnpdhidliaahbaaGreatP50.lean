/- The document's journal: places, at, home. -/
import Derived.Test.YtnpdhidliaahbaaGreatP23
import Derived.Test.YtnpdhidliaahbaaGreatP11
import Derived.Test.YtnpdhidliaahbaaGreatP49
import Derived.Test.YtnpdhidliaahbaaGreatP25
set_option maxRecDepth 100000
set_option maxHeartbeats 32000000
set_option linter.unusedSimpArgs false
set_option linter.unusedVariables false
namespace Go.Proofs.YtnpdhidliaahbaaGreat
open Go.Lib (hid)
open Go Go.RowKit
theorem rplaces_any (g:Geo.G) (hg:Geo.May g) (w:World):Calls Tryz.prog 81 #[.agg (Geo.cells g)] w fun e w'=>e=.returned (.int .i64 ((Jr.plc g:Nat):Int))/\Below w.heap.size w w':=by
 have hp:=Jr.plc_of hg;have h0:=hg.ok.1;unfold Geo.asked at h0;have hl:g.log=((Jr.plc g:Nat):Int)+1:=(by unfold Jr.plc;omega);have hle:=hp.2.1;clear hg hp h0;generalize Jr.plc g=PL at *;unfold Geo.cells;obtain ⟨g1,g2,g3,g4,g5,g6,g7,g8,g9⟩:=g;dsimp only at *;subst hl;have BA:Below w.heap.size w (w.alloc (.cells #[.int .i64 g1,.int .i64 ((PL:Int)+1),.int .i64 g3,.int .i64 g4,.int .i64 g5,.int .i64 g6,.int .i64 g7,.int .i64 g8,.int .i64 g9] 30)):=(Below.refl w.heap.size w).alloc (Nat.le_refl _) _;have R:=Row.new w 30 [.int .i64 g1,.int .i64 ((PL:Int)+1),.int .i64 g3,.int .i64 g4,.int .i64 g5,.int .i64 g6,.int .i64 g7,.int .i64 g8,.int .i64 g9] rfl;have k1:=R.cellAt 1 rfl;have hw:IntKind.i64.wrap (PL:Int)=(PL:Int):=IntWalk.i64_in _ (by omega);have HBA:=hid BA;clear R BA;go_enter Tryz.func81,Tryz.ntmps81;go_wp2_with fail;go_ret;exact ⟨rfl,HBA.out⟩
theorem rat_any (g:Geo.G) (hg:Geo.May g) (p:Nat) (hp:p<=1000000000) (w:World):Calls Tryz.prog 82 #[.agg (Geo.cells g),.int .i64 (p:Int)] w fun e w'=>e=.returned (.int .i64 ((Jr.pb g p:Nat):Int))/\Below w.heap.size w w':=by
 have hpl:=Jr.plc_of hg;have hlog:=hg.ok.2.1;have q:=hid (rplaces_any g hg);unfold Jr.pb;have hmod:((p:Int)).tmod ((Jr.plc g:Nat):Int)=((p % Jr.plc g:Nat):Int):=(by rw [Int.tmod_eq_emod_of_nonneg (by omega)];simp);have hlt:=Nat.mod_lt p (show 0 < Jr.plc g by omega);have hP0:¬ ((Jr.plc g:Nat):Int)=0:=(by omega);have hP1:¬ Jr.plc g=0:=(by omega);have hle:=hpl.2.1;clear hg hpl;generalize Jr.plc g=PL at *;have hmod2:(p:Int) % (PL:Int)=((p % PL:Nat):Int):=(by simp);generalize p % PL=M at *;unfold Geo.cells at *;obtain ⟨g1,g2,g3,g4,g5,g6,g7,g8,g9⟩:=g;dsimp only at *;subst hlog;have hw1:IntKind.i64.wrap 2=2:=(by decide);have hw2:IntKind.i64.wrap ((2:Int)+(M:Int))=((2+M:Nat):Int):=(by rw [IntWalk.i64_in _ (by omega)];omega);have hw3:IntKind.i64.wrap (M:Int)=(M:Int):=IntWalk.i64_in _ (by omega);have BA:Below w.heap.size w (w.alloc (.cells #[.int .i64 g1,.int .i64 g2,.int .i64 g3,.int .i64 1,.int .i64 g5,.int .i64 g6,.int .i64 g7,.int .i64 g8,.int .i64 g9] 30)):=(Below.refl w.heap.size w).alloc (Nat.le_refl _) _;have R:=Row.new w 30 [.int .i64 g1,.int .i64 g2,.int .i64 g3,.int .i64 1,.int .i64 g5,.int .i64 g6,.int .i64 g7,.int .i64 g8,.int .i64 g9] rfl;have HR:=hid R;have HBA:=hid BA;obtain ⟨k0,k1,k2,k3,k4,k5,k6,k7,k8⟩:=R.c9;clear R BA;go_enter Tryz.func82,Tryz.ntmps82;go_upto_region 1 with fail
 generalize w.alloc _=w1 at *
 go_region_held3 (fun w'=>w'.cell? ⟨w.heap.size,0,none⟩=some (.int .i64 g1)/\w'.cell? ⟨w.heap.size,1,none⟩=some (.int .i64 g2)/\w'.cell? ⟨w.heap.size,2,none⟩=some (.int .i64 g3)/\w'.cell? ⟨w.heap.size,3,none⟩=some (.int .i64 1)/\w'.cell? ⟨w.heap.size,4,none⟩=some (.int .i64 g5)/\w'.cell? ⟨w.heap.size,5,none⟩=some (.int .i64 g6)/\w'.cell? ⟨w.heap.size,6,none⟩=some (.int .i64 g7)/\w'.cell? ⟨w.heap.size,7,none⟩=some (.int .i64 g8)/\w'.cell? ⟨w.heap.size,8,none⟩=some (.int .i64 g9))
  (first | exact ⟨k0,k1,k2,k3,k4,k5,k6,k7,k8⟩ | exact R6.c9)
  (first | (go_at_call 81;refine (q.out _).mono ?_;rintro e w6 ⟨rfl,hb6'⟩;have hb6:Below w1.heap.size w1 w6:=⟨hb6'.os,hb6'.tape,hb6'.output,hb6'.size,hb6'.block⟩;have R6:=HR.out.below hb6 HR.out.lt) | fail "none")
 go_wp2_with fail;go_ret;exact ⟨rfl,below_next HBA.out hb6⟩
theorem rhome_any (g:Geo.G) (hg:Geo.May g) (b:Int) (hb : -9223372036854775808<=b/\b<=9223372036854775807) (w:World):Calls Tryz.prog 131 #[.agg (Geo.cells g),.int .i64 b] w fun e w'=>e=.returned (.bool (Geo.home g b))/\Below w.heap.size w w':=by
 have h0:=hg.ok.1;have hlog:=hg.ok.2.1;unfold Geo.asked at h0;obtain ⟨r,hr⟩:∃ r,Geo.home g b=r:=⟨_,rfl⟩;rw [hr];unfold Geo.home at hr;clear hg;unfold Geo.cells at *;obtain ⟨g1,g2,g3,g4,g5,g6,g7,g8,g9⟩:=g;dsimp only at *;subst hlog;have HR0:=hid hr;clear hr;have hw1:IntKind.i64.wrap ((1:Int)+g2)=1+g2:=IntWalk.i64_in _ (by omega);have BA:Below w.heap.size w (w.alloc (.cells #[.int .i64 g1,.int .i64 g2,.int .i64 g3,.int .i64 1,.int .i64 g5,.int .i64 g6,.int .i64 g7,.int .i64 g8,.int .i64 g9] 30)):=(Below.refl w.heap.size w).alloc (Nat.le_refl _) _;have R:=Row.new w 30 [.int .i64 g1,.int .i64 g2,.int .i64 g3,.int .i64 1,.int .i64 g5,.int .i64 g6,.int .i64 g7,.int .i64 g8,.int .i64 g9] rfl;have HBA:=hid BA;obtain ⟨k0,k1,k2,k3⟩:=R.c4;clear R BA;by_cases c0:0<=b
 ·by_cases c1:b < g1
  ·by_cases c2:b < 1
   ·obtain rfl:r=true:=(by rw [<- HR0.out,decide_eq_true_eq];omega);clear HR0;go_enter Tryz.func131,Tryz.ntmps131;go_wp2_with fail;go_ret;exact ⟨rfl,HBA.out⟩
   by_cases c3:1+g2<=b
   ·obtain rfl:r=true:=(by rw [<- HR0.out,decide_eq_true_eq];omega);clear HR0;go_enter Tryz.func131,Tryz.ntmps131;go_wp2_with fail;go_ret;exact ⟨rfl,HBA.out⟩
   obtain rfl:r=false:=(by rw [<- HR0.out,decide_eq_false_iff_not];omega);clear HR0;go_enter Tryz.func131,Tryz.ntmps131;go_wp2_with fail;go_ret;exact ⟨rfl,HBA.out⟩
  obtain rfl:r=false:=(by rw [<- HR0.out,decide_eq_false_iff_not];omega);clear HR0;go_enter Tryz.func131,Tryz.ntmps131;go_wp2_with fail;go_ret;exact ⟨rfl,HBA.out⟩
 ·obtain rfl:r=false:=(by rw [<- HR0.out,decide_eq_false_iff_not];omega);clear HR0;go_enter Tryz.func131,Tryz.ntmps131;go_wp2_with fail;go_ret;exact ⟨rfl,HBA.out⟩
def numAt (w:World) (a:Addr):Nat:=match w.cell? a with | some (.int .i64 n)=>n.toNat | _=>0
theorem numAt_of {w:World} {a:Addr} {n:Int} (h:w.cell? a=some (.int .i64 n)):numAt w a=n.toNat:=by unfold numAt;rw [h]
theorem rof_yes (b l m:Int) (w:World) (hk:Geo.asked b l m) :
  Calls Tryz.prog 155 #[.int .i64 b,.int .i64 l,.int .i64 m] w fun e w'=>e=.returned (.tuple #[.agg (Geo.cells (Geo.of b l m).1),.int .i64 (Geo.of b l m).2])/\Below w.heap.size w w':=by
 obtain ⟨RES,hRES⟩:∃ RES,Value.tuple #[.agg (Geo.cells (Geo.of b l m).1),.int .i64 (Geo.of b l m).2]=RES:=⟨_,rfl⟩
 rw [hRES]
 have HRES:=hid hRES
 clear hRES
 obtain ⟨k1,k2,k3,k4,k5,k6,k7⟩:=hk
 have hk:Geo.asked b l m:=⟨k1,k2,k3,k4,k5,k6,k7⟩
 have g1:¬ b < 256:=by omega
 have g2:¬ 4096 < b:=by omega
 have g3:¬ l < 128:=by omega
 have g4:¬ 512 < l:=by omega
 have g5:¬ m < 8:=by omega
 have g6:¬ 512 < m:=by omega
 have g7:Int.tmod m 2=0:=by rw [Int.tmod_eq_emod_of_nonneg (by omega)];exact k7
 have u1:IntKind.i64.wrap (1+l)=1+l:=IntWalk.i64_in _ (by omega)
 obtain ⟨q,hq⟩:∃ q:Nat,(q:Int)=(b+1023) / 1024:=⟨((b+1023) / 1024).toNat,by omega⟩
 obtain ⟨t,ht⟩:∃ t,t=m / 2:=⟨_,rfl⟩
 have u6:m.tdiv 2=t:=by rw [Int.tdiv_eq_ediv_of_nonneg (by omega),ht]
 have u6':m / 2=t:=ht.symm
 have u7:IntKind.i64.wrap t=t:=IntWalk.i64_in _ (by omega)
 have hq4:1<=q/\q<=4:=by omega
 have u8:IntKind.i64.wrap (1+l+(q:Int))=1+l+q:=IntWalk.i64_in _ (by omega)
 have u9:IntKind.i64.wrap (1+l+(q:Int)+t)=1+l+q+t:=IntWalk.i64_in _ (by omega)
 have u10:IntKind.i64.wrap (b - (1+l+(q:Int)+t))=b - (1+l+q+t):=IntWalk.i64_in _ (by omega)
 have hz:m % 2=0:=k7
 have hl:Geo.lay b l m=⟨b,l,m,1,1+l,q,1+l+q,t,1+l+q+t⟩:=by unfold Geo.lay;rw [<- hq,<- ht]
 have HQ:=hid hq
 have HL:=hid hl
 have HK:=hid hk
 have hs1:(w.alloc (.cells #[.int .i64 0,.int .i64 0,.int .i64 0,.int .i64 0,.int .i64 0,.int .i64 0,.int .i64 0,.int .i64 0,.int .i64 0] 30)).heap.size=w.heap.size+1:=World.size_alloc _ _
 have B2:Below w.heap.size w ((w.alloc (.cells #[.int .i64 0,.int .i64 0,.int .i64 0,.int .i64 0,.int .i64 0,.int .i64 0,.int .i64 0,.int .i64 0,.int .i64 0] 30)).alloc (.cells #[.int .i64 b,.int .i64 l,.int .i64 m,.int .i64 1,.int .i64 (1+l),.int .i64 0,.int .i64 0,.int .i64 0,.int .i64 0] 30)):=((Below.refl w.heap.size w).alloc (Nat.le_refl _) _).alloc (by simp) _
 have R0:=(Row.new w 30 [.int .i64 0,.int .i64 0,.int .i64 0,.int .i64 0,.int .i64 0,.int .i64 0,.int .i64 0,.int .i64 0,.int .i64 0] rfl).alloc (.cells #[.int .i64 b,.int .i64 l,.int .i64 m,.int .i64 1,.int .i64 (1+l),.int .i64 0,.int .i64 0,.int .i64 0,.int .i64 0] 30)
 have R1:=Row.new (w.alloc (.cells #[.int .i64 0,.int .i64 0,.int .i64 0,.int .i64 0,.int .i64 0,.int .i64 0,.int .i64 0,.int .i64 0,.int .i64 0] 30)) 30 [.int .i64 b,.int .i64 l,.int .i64 m,.int .i64 1,.int .i64 (1+l),.int .i64 0,.int .i64 0,.int .i64 0,.int .i64 0] rfl
 rw [hs1] at R1
 have HB2:=hid B2
 have HR0:=hid R0
 have HR1:=hid R1
 clear B2 R0 R1 hs1 hk hl hq ht k7
 go_enter Tryz.func155,Tryz.ntmps155
 go_wp2_with fail
 generalize World.alloc _ _=w2 at *
 go_loopw [] (fun wr=>∃ (k:Nat),k<=q/\Hid (Row wr (w.heap.size+1) 30 [.int .i64 b,.int .i64 l,.int .i64 m,.int .i64 1,.int .i64 (1+l),.int .i64 (k:Int),.int .i64 0,.int .i64 0,.int .i64 0])/\Hid (Row wr w.heap.size 30 [.int .i64 0,.int .i64 0,.int .i64 0,.int .i64 0,.int .i64 0,.int .i64 0,.int .i64 0,.int .i64 0,.int .i64 0])/\Hid (Below w.heap.size w wr)) (fun wr=>q - numAt wr ⟨w.heap.size+1,5,none⟩)
 case atStart=>exact ⟨0,Nat.zero_le _,HR1,HR0,HB2⟩
 case round =>
  obtain ⟨k,hkq,hR,hZ,hB⟩:=hrel;obtain ⟨r0,r1,r2,r3,r4,r5,r6,r7,r8⟩:=hR.out.c9;have f5:=hR.out.free 5 (by simp);have HN:=hid (numAt_of (hR.out.cellAt 5 rfl));have hw1:IntKind.i64.wrap ((k:Int) * 1024)=(k:Int) * 1024:=IntWalk.i64_in _ (by omega);by_cases hlt:k < q
  ·have i1:(k:Int) * 1024 < b:=(by have:=HQ.out;omega);have HN2:=hid (numAt_of ((hR.out.set 5 (.int .i64 ((k:Int)+1))).cellAt 5 rfl));go_wp2_with fail;go_roundw;case rel=>exact ⟨k+1,by omega,hid (hR.out.set 5 (.int .i64 ((k+1:Nat):Int))),hid (hZ.out.other (a:=⟨w.heap.size+1,5,none⟩) (by dsimp only;omega) _),hid (hB.out.setCell (p:=⟨w.heap.size+1,5,none⟩) (by dsimp only;omega) _)⟩
   case measure=>rw [HN.out,HN2.out];omega
  obtain rfl:k=q:=(by omega);have i1:¬ (k:Int) * 1024 < b:=(by have:=HQ.out;omega);obtain ⟨z0,z1,z2,z3,z4,z5,z6,z7,z8⟩:=hZ.out.c9;have f6:=hR.out.free 6 (by simp);have f7:=hR.out.free 7 (by simp);have f8:=hR.out.free 8 (by simp);have y0:=hZ.out.free 0 (by simp);have y1:=hZ.out.free 1 (by simp);have y2:=hZ.out.free 2 (by simp);have y3:=hZ.out.free 3 (by simp);have y4:=hZ.out.free 4 (by simp);have y5:=hZ.out.free 5 (by simp);have y6:=hZ.out.free 6 (by simp);have y7:=hZ.out.free 7 (by simp);have y8:=hZ.out.free 8 (by simp);by_cases k8:16<=b - (1+l+(k:Int)+t)
  ·have e:Geo.of b l m=(⟨b,l,m,1,1+l,k,1+l+k,t,1+l+k+t⟩,0):=by
    unfold Geo.of;rw [HL.out,if_pos ⟨HK.out,k8⟩]
   obtain rfl:RES=.tuple #[.agg (Geo.cells ⟨b,l,m,1,1+l,k,1+l+k,t,1+l+k+t⟩),.int .i64 0]:=(by rw [<- HRES.out,e]);have g8:¬ b - (1+l+(k:Int)+t) < 16:=(by omega);clear e;go_wp2_with fail;have rF:=((((((((((((hZ.out.other (a:=⟨w.heap.size+1,6,none⟩) (by dsimp only;omega) (.int .i64 (1+l+(k:Int)))).other (a:=⟨w.heap.size+1,7,none⟩) (by dsimp only;omega) (.int .i64 t)).other (a:=⟨w.heap.size+1,8,none⟩) (by dsimp only;omega) (.int .i64 (1+l+(k:Int)+t))).set 0 (.int .i64 b)).set 1 (.int .i64 l)).set 2 (.int .i64 m)).set 3 (.int .i64 1)).set 4 (.int .i64 (1+l))).set 5 (.int .i64 (k:Int))).set 6 (.int .i64 (1+l+(k:Int)))).set 7 (.int .i64 t)).set 8 (.int .i64 (1+l+(k:Int)+t)));obtain ⟨c0,c1,c2,c3,c4,c5,c6,c7,c8⟩:=rF.c9;exact bodyPost_ret (v:=.tuple #[.agg #[.int .i64 b,.int .i64 l,.int .i64 m,.int .i64 1,.int .i64 (1+l),.int .i64 (k:Int),.int .i64 (1+l+(k:Int)),.int .i64 t,.int .i64 (1+l+(k:Int)+t)],.int .i64 0]) (by simp [results,Tryz.results155,go_sem,c0,c1,c2,c3,c4,c5,c6,c7,c8]) rfl ⟨rfl,((((((((((((hB.out.setCell (p:=⟨w.heap.size+1,6,none⟩) (by dsimp only;omega) (.int .i64 (1+l+(k:Int)))).setCell (p:=⟨w.heap.size+1,7,none⟩) (by dsimp only;omega) (.int .i64 t)).setCell (p:=⟨w.heap.size+1,8,none⟩) (by dsimp only;omega) (.int .i64 (1+l+(k:Int)+t))).setCell (p:=⟨w.heap.size,0,none⟩) (by dsimp only;omega) (.int .i64 b)).setCell (p:=⟨w.heap.size,1,none⟩) (by dsimp only;omega) (.int .i64 l)).setCell (p:=⟨w.heap.size,2,none⟩) (by dsimp only;omega) (.int .i64 m)).setCell (p:=⟨w.heap.size,3,none⟩) (by dsimp only;omega) (.int .i64 1)).setCell (p:=⟨w.heap.size,4,none⟩) (by dsimp only;omega) (.int .i64 (1+l))).setCell (p:=⟨w.heap.size,5,none⟩) (by dsimp only;omega) (.int .i64 (k:Int))).setCell (p:=⟨w.heap.size,6,none⟩) (by dsimp only;omega) (.int .i64 (1+l+(k:Int)))).setCell (p:=⟨w.heap.size,7,none⟩) (by dsimp only;omega) (.int .i64 t)).setCell (p:=⟨w.heap.size,8,none⟩) (by dsimp only;omega) (.int .i64 (1+l+(k:Int)+t)))⟩
  have e:Geo.of b l m=(Geo.none_,2):=by
   unfold Geo.of;rw [HL.out,if_neg (fun h=>k8 h.2)]
  obtain rfl:RES=.tuple #[.agg (Geo.cells Geo.none_),.int .i64 2]:=(by rw [<- HRES.out,e]);have g8:b - (1+l+(k:Int)+t) < 16:=(by omega);clear e;go_wp2_with fail;have rF:=((((((((((((hZ.out.other (a:=⟨w.heap.size+1,6,none⟩) (by dsimp only;omega) (.int .i64 (1+l+(k:Int)))).other (a:=⟨w.heap.size+1,7,none⟩) (by dsimp only;omega) (.int .i64 t)).other (a:=⟨w.heap.size+1,8,none⟩) (by dsimp only;omega) (.int .i64 (1+l+(k:Int)+t))).set 0 (.int .i64 0)).set 1 (.int .i64 0)).set 2 (.int .i64 0)).set 3 (.int .i64 0)).set 4 (.int .i64 0)).set 5 (.int .i64 0)).set 6 (.int .i64 0)).set 7 (.int .i64 0)).set 8 (.int .i64 0));obtain ⟨c0,c1,c2,c3,c4,c5,c6,c7,c8⟩:=rF.c9;exact bodyPost_ret (v:=.tuple #[.agg #[.int .i64 0,.int .i64 0,.int .i64 0,.int .i64 0,.int .i64 0,.int .i64 0,.int .i64 0,.int .i64 0,.int .i64 0],.int .i64 2]) (by simp [results,Tryz.results155,go_sem,c0,c1,c2,c3,c4,c5,c6,c7,c8]) rfl ⟨rfl,((((((((((((hB.out.setCell (p:=⟨w.heap.size+1,6,none⟩) (by dsimp only;omega) (.int .i64 (1+l+(k:Int)))).setCell (p:=⟨w.heap.size+1,7,none⟩) (by dsimp only;omega) (.int .i64 t)).setCell (p:=⟨w.heap.size+1,8,none⟩) (by dsimp only;omega) (.int .i64 (1+l+(k:Int)+t))).setCell (p:=⟨w.heap.size,0,none⟩) (by dsimp only;omega) (.int .i64 0)).setCell (p:=⟨w.heap.size,1,none⟩) (by dsimp only;omega) (.int .i64 0)).setCell (p:=⟨w.heap.size,2,none⟩) (by dsimp only;omega) (.int .i64 0)).setCell (p:=⟨w.heap.size,3,none⟩) (by dsimp only;omega) (.int .i64 0)).setCell (p:=⟨w.heap.size,4,none⟩) (by dsimp only;omega) (.int .i64 0)).setCell (p:=⟨w.heap.size,5,none⟩) (by dsimp only;omega) (.int .i64 0)).setCell (p:=⟨w.heap.size,6,none⟩) (by dsimp only;omega) (.int .i64 0)).setCell (p:=⟨w.heap.size,7,none⟩) (by dsimp only;omega) (.int .i64 0)).setCell (p:=⟨w.heap.size,8,none⟩) (by dsimp only;omega) (.int .i64 0))⟩
theorem rof_no (b l m:Int) (w:World) (hm : -9223372036854775808<=m/\m<=9223372036854775807) (k:¬ Geo.asked b l m) :
  Calls Tryz.prog 155 #[.int .i64 b,.int .i64 l,.int .i64 m] w fun e w'=>e=.returned (.tuple #[.agg (Geo.cells (Geo.of b l m).1),.int .i64 (Geo.of b l m).2])/\Below w.heap.size w w':=by
 have e:Geo.of b l m=(Geo.none_,2):=by
  unfold Geo.of;rw [if_neg (fun h=>k h.1)]
 rw [e]
 clear e
 unfold Geo.asked at k
 have B1:Below w.heap.size w (w.alloc (.cells #[.int .i64 0,.int .i64 0,.int .i64 0,.int .i64 0,.int .i64 0,.int .i64 0,.int .i64 0,.int .i64 0,.int .i64 0] 30)):=(Below.refl w.heap.size w).alloc (Nat.le_refl _) _
 have R0:=Row.new w 30 [.int .i64 0,.int .i64 0,.int .i64 0,.int .i64 0,.int .i64 0,.int .i64 0,.int .i64 0,.int .i64 0,.int .i64 0] rfl
 have HB1:=hid B1
 have HR0:=hid R0
 have y0:=R0.free 0 (by simp)
 have z0:=R0.cellAt 0 rfl
 have y1:=R0.free 1 (by simp)
 have z1:=R0.cellAt 1 rfl
 have y2:=R0.free 2 (by simp)
 have z2:=R0.cellAt 2 rfl
 have y3:=R0.free 3 (by simp)
 have z3:=R0.cellAt 3 rfl
 have y4:=R0.free 4 (by simp)
 have z4:=R0.cellAt 4 rfl
 have y5:=R0.free 5 (by simp)
 have z5:=R0.cellAt 5 rfl
 have y6:=R0.free 6 (by simp)
 have z6:=R0.cellAt 6 rfl
 have y7:=R0.free 7 (by simp)
 have z7:=R0.cellAt 7 rfl
 have y8:=R0.free 8 (by simp)
 have z8:=R0.cellAt 8 rfl
 clear B1 R0
 go_enter Tryz.func155,Tryz.ntmps155
 go_upto_region 1 with fail
 generalize w.alloc _=w1 at *
 by_cases g1:b < 256
 ·clear k;go_wp2_with fail;have rF:=(((((((((HR0.out.set 0 (.int .i64 0)).set 1 (.int .i64 0)).set 2 (.int .i64 0)).set 3 (.int .i64 0)).set 4 (.int .i64 0)).set 5 (.int .i64 0)).set 6 (.int .i64 0)).set 7 (.int .i64 0)).set 8 (.int .i64 0));obtain ⟨c0,c1,c2,c3,c4,c5,c6,c7,c8⟩:=rF.c9;exact bodyPost_ret (v:=.tuple #[.agg (Geo.cells Geo.none_),.int .i64 2]) (by simp [results,Tryz.results155,go_sem,Geo.cells,Geo.none_,c0,c1,c2,c3,c4,c5,c6,c7,c8]) rfl ⟨rfl,(((((((((HB1.out.setCell (p:=⟨w.heap.size,0,none⟩) (by dsimp only;omega) (.int .i64 0)).setCell (p:=⟨w.heap.size,1,none⟩) (by dsimp only;omega) (.int .i64 0)).setCell (p:=⟨w.heap.size,2,none⟩) (by dsimp only;omega) (.int .i64 0)).setCell (p:=⟨w.heap.size,3,none⟩) (by dsimp only;omega) (.int .i64 0)).setCell (p:=⟨w.heap.size,4,none⟩) (by dsimp only;omega) (.int .i64 0)).setCell (p:=⟨w.heap.size,5,none⟩) (by dsimp only;omega) (.int .i64 0)).setCell (p:=⟨w.heap.size,6,none⟩) (by dsimp only;omega) (.int .i64 0)).setCell (p:=⟨w.heap.size,7,none⟩) (by dsimp only;omega) (.int .i64 0)).setCell (p:=⟨w.heap.size,8,none⟩) (by dsimp only;omega) (.int .i64 0))⟩
 by_cases g2:4096 < b
 ·clear k;go_wp2_with fail;have rF:=(((((((((HR0.out.set 0 (.int .i64 0)).set 1 (.int .i64 0)).set 2 (.int .i64 0)).set 3 (.int .i64 0)).set 4 (.int .i64 0)).set 5 (.int .i64 0)).set 6 (.int .i64 0)).set 7 (.int .i64 0)).set 8 (.int .i64 0));obtain ⟨c0,c1,c2,c3,c4,c5,c6,c7,c8⟩:=rF.c9;exact bodyPost_ret (v:=.tuple #[.agg (Geo.cells Geo.none_),.int .i64 2]) (by simp [results,Tryz.results155,go_sem,Geo.cells,Geo.none_,c0,c1,c2,c3,c4,c5,c6,c7,c8]) rfl ⟨rfl,(((((((((HB1.out.setCell (p:=⟨w.heap.size,0,none⟩) (by dsimp only;omega) (.int .i64 0)).setCell (p:=⟨w.heap.size,1,none⟩) (by dsimp only;omega) (.int .i64 0)).setCell (p:=⟨w.heap.size,2,none⟩) (by dsimp only;omega) (.int .i64 0)).setCell (p:=⟨w.heap.size,3,none⟩) (by dsimp only;omega) (.int .i64 0)).setCell (p:=⟨w.heap.size,4,none⟩) (by dsimp only;omega) (.int .i64 0)).setCell (p:=⟨w.heap.size,5,none⟩) (by dsimp only;omega) (.int .i64 0)).setCell (p:=⟨w.heap.size,6,none⟩) (by dsimp only;omega) (.int .i64 0)).setCell (p:=⟨w.heap.size,7,none⟩) (by dsimp only;omega) (.int .i64 0)).setCell (p:=⟨w.heap.size,8,none⟩) (by dsimp only;omega) (.int .i64 0))⟩
 by_cases g3:l < 128
 ·clear k;go_wp2_with fail;have rF:=(((((((((HR0.out.set 0 (.int .i64 0)).set 1 (.int .i64 0)).set 2 (.int .i64 0)).set 3 (.int .i64 0)).set 4 (.int .i64 0)).set 5 (.int .i64 0)).set 6 (.int .i64 0)).set 7 (.int .i64 0)).set 8 (.int .i64 0));obtain ⟨c0,c1,c2,c3,c4,c5,c6,c7,c8⟩:=rF.c9;exact bodyPost_ret (v:=.tuple #[.agg (Geo.cells Geo.none_),.int .i64 2]) (by simp [results,Tryz.results155,go_sem,Geo.cells,Geo.none_,c0,c1,c2,c3,c4,c5,c6,c7,c8]) rfl ⟨rfl,(((((((((HB1.out.setCell (p:=⟨w.heap.size,0,none⟩) (by dsimp only;omega) (.int .i64 0)).setCell (p:=⟨w.heap.size,1,none⟩) (by dsimp only;omega) (.int .i64 0)).setCell (p:=⟨w.heap.size,2,none⟩) (by dsimp only;omega) (.int .i64 0)).setCell (p:=⟨w.heap.size,3,none⟩) (by dsimp only;omega) (.int .i64 0)).setCell (p:=⟨w.heap.size,4,none⟩) (by dsimp only;omega) (.int .i64 0)).setCell (p:=⟨w.heap.size,5,none⟩) (by dsimp only;omega) (.int .i64 0)).setCell (p:=⟨w.heap.size,6,none⟩) (by dsimp only;omega) (.int .i64 0)).setCell (p:=⟨w.heap.size,7,none⟩) (by dsimp only;omega) (.int .i64 0)).setCell (p:=⟨w.heap.size,8,none⟩) (by dsimp only;omega) (.int .i64 0))⟩
 by_cases g4:512 < l
 ·clear k;go_wp2_with fail;have rF:=(((((((((HR0.out.set 0 (.int .i64 0)).set 1 (.int .i64 0)).set 2 (.int .i64 0)).set 3 (.int .i64 0)).set 4 (.int .i64 0)).set 5 (.int .i64 0)).set 6 (.int .i64 0)).set 7 (.int .i64 0)).set 8 (.int .i64 0));obtain ⟨c0,c1,c2,c3,c4,c5,c6,c7,c8⟩:=rF.c9;exact bodyPost_ret (v:=.tuple #[.agg (Geo.cells Geo.none_),.int .i64 2]) (by simp [results,Tryz.results155,go_sem,Geo.cells,Geo.none_,c0,c1,c2,c3,c4,c5,c6,c7,c8]) rfl ⟨rfl,(((((((((HB1.out.setCell (p:=⟨w.heap.size,0,none⟩) (by dsimp only;omega) (.int .i64 0)).setCell (p:=⟨w.heap.size,1,none⟩) (by dsimp only;omega) (.int .i64 0)).setCell (p:=⟨w.heap.size,2,none⟩) (by dsimp only;omega) (.int .i64 0)).setCell (p:=⟨w.heap.size,3,none⟩) (by dsimp only;omega) (.int .i64 0)).setCell (p:=⟨w.heap.size,4,none⟩) (by dsimp only;omega) (.int .i64 0)).setCell (p:=⟨w.heap.size,5,none⟩) (by dsimp only;omega) (.int .i64 0)).setCell (p:=⟨w.heap.size,6,none⟩) (by dsimp only;omega) (.int .i64 0)).setCell (p:=⟨w.heap.size,7,none⟩) (by dsimp only;omega) (.int .i64 0)).setCell (p:=⟨w.heap.size,8,none⟩) (by dsimp only;omega) (.int .i64 0))⟩
 by_cases g5:m < 8
 ·clear k;go_wp2_with fail;have rF:=(((((((((HR0.out.set 0 (.int .i64 0)).set 1 (.int .i64 0)).set 2 (.int .i64 0)).set 3 (.int .i64 0)).set 4 (.int .i64 0)).set 5 (.int .i64 0)).set 6 (.int .i64 0)).set 7 (.int .i64 0)).set 8 (.int .i64 0));obtain ⟨c0,c1,c2,c3,c4,c5,c6,c7,c8⟩:=rF.c9;exact bodyPost_ret (v:=.tuple #[.agg (Geo.cells Geo.none_),.int .i64 2]) (by simp [results,Tryz.results155,go_sem,Geo.cells,Geo.none_,c0,c1,c2,c3,c4,c5,c6,c7,c8]) rfl ⟨rfl,(((((((((HB1.out.setCell (p:=⟨w.heap.size,0,none⟩) (by dsimp only;omega) (.int .i64 0)).setCell (p:=⟨w.heap.size,1,none⟩) (by dsimp only;omega) (.int .i64 0)).setCell (p:=⟨w.heap.size,2,none⟩) (by dsimp only;omega) (.int .i64 0)).setCell (p:=⟨w.heap.size,3,none⟩) (by dsimp only;omega) (.int .i64 0)).setCell (p:=⟨w.heap.size,4,none⟩) (by dsimp only;omega) (.int .i64 0)).setCell (p:=⟨w.heap.size,5,none⟩) (by dsimp only;omega) (.int .i64 0)).setCell (p:=⟨w.heap.size,6,none⟩) (by dsimp only;omega) (.int .i64 0)).setCell (p:=⟨w.heap.size,7,none⟩) (by dsimp only;omega) (.int .i64 0)).setCell (p:=⟨w.heap.size,8,none⟩) (by dsimp only;omega) (.int .i64 0))⟩
 by_cases g6:512 < m
 ·clear k;go_wp2_with fail;have rF:=(((((((((HR0.out.set 0 (.int .i64 0)).set 1 (.int .i64 0)).set 2 (.int .i64 0)).set 3 (.int .i64 0)).set 4 (.int .i64 0)).set 5 (.int .i64 0)).set 6 (.int .i64 0)).set 7 (.int .i64 0)).set 8 (.int .i64 0));obtain ⟨c0,c1,c2,c3,c4,c5,c6,c7,c8⟩:=rF.c9;exact bodyPost_ret (v:=.tuple #[.agg (Geo.cells Geo.none_),.int .i64 2]) (by simp [results,Tryz.results155,go_sem,Geo.cells,Geo.none_,c0,c1,c2,c3,c4,c5,c6,c7,c8]) rfl ⟨rfl,(((((((((HB1.out.setCell (p:=⟨w.heap.size,0,none⟩) (by dsimp only;omega) (.int .i64 0)).setCell (p:=⟨w.heap.size,1,none⟩) (by dsimp only;omega) (.int .i64 0)).setCell (p:=⟨w.heap.size,2,none⟩) (by dsimp only;omega) (.int .i64 0)).setCell (p:=⟨w.heap.size,3,none⟩) (by dsimp only;omega) (.int .i64 0)).setCell (p:=⟨w.heap.size,4,none⟩) (by dsimp only;omega) (.int .i64 0)).setCell (p:=⟨w.heap.size,5,none⟩) (by dsimp only;omega) (.int .i64 0)).setCell (p:=⟨w.heap.size,6,none⟩) (by dsimp only;omega) (.int .i64 0)).setCell (p:=⟨w.heap.size,7,none⟩) (by dsimp only;omega) (.int .i64 0)).setCell (p:=⟨w.heap.size,8,none⟩) (by dsimp only;omega) (.int .i64 0))⟩
 have hz:¬ m % 2=0:=fun h=>k ⟨by omega,by omega,by omega,by omega,by omega,by omega,h⟩
 have g7:¬ Int.tmod m 2=0:=by rw [Int.tmod_eq_emod_of_nonneg (by omega)];exact hz
 have hw:IntKind.i64.wrap (Int.tmod m 2)=Int.tmod m 2:=by rw [Int.tmod_eq_emod_of_nonneg (by omega)];exact IntWalk.i64_in _ (by omega)
 clear k
 go_wp2_with fail
 have rF:=(((((((((HR0.out.set 0 (.int .i64 0)).set 1 (.int .i64 0)).set 2 (.int .i64 0)).set 3 (.int .i64 0)).set 4 (.int .i64 0)).set 5 (.int .i64 0)).set 6 (.int .i64 0)).set 7 (.int .i64 0)).set 8 (.int .i64 0))
 obtain ⟨c0,c1,c2,c3,c4,c5,c6,c7,c8⟩:=rF.c9
 exact bodyPost_ret (v:=.tuple #[.agg (Geo.cells Geo.none_),.int .i64 2]) (by simp [results,Tryz.results155,go_sem,Geo.cells,Geo.none_,c0,c1,c2,c3,c4,c5,c6,c7,c8]) rfl ⟨rfl,(((((((((HB1.out.setCell (p:=⟨w.heap.size,0,none⟩) (by dsimp only;omega) (.int .i64 0)).setCell (p:=⟨w.heap.size,1,none⟩) (by dsimp only;omega) (.int .i64 0)).setCell (p:=⟨w.heap.size,2,none⟩) (by dsimp only;omega) (.int .i64 0)).setCell (p:=⟨w.heap.size,3,none⟩) (by dsimp only;omega) (.int .i64 0)).setCell (p:=⟨w.heap.size,4,none⟩) (by dsimp only;omega) (.int .i64 0)).setCell (p:=⟨w.heap.size,5,none⟩) (by dsimp only;omega) (.int .i64 0)).setCell (p:=⟨w.heap.size,6,none⟩) (by dsimp only;omega) (.int .i64 0)).setCell (p:=⟨w.heap.size,7,none⟩) (by dsimp only;omega) (.int .i64 0)).setCell (p:=⟨w.heap.size,8,none⟩) (by dsimp only;omega) (.int .i64 0))⟩
theorem rof_any (b l m:Int) (w:World) (hm : -9223372036854775808<=m/\m<=9223372036854775807) :
  Calls Tryz.prog 155 #[.int .i64 b,.int .i64 l,.int .i64 m] w fun e w'=>e=.returned (.tuple #[.agg (Geo.cells (Geo.of b l m).1),.int .i64 (Geo.of b l m).2])/\Below w.heap.size w w':=by
 by_cases k:Geo.asked b l m
 ·exact rof_yes b l m w k
 ·exact rof_no b l m w hm k
theorem rmay_any (g:Geo.G) (hg : -9223372036854775808<=g.inodes/\g.inodes<=9223372036854775807) (w:World) :
  Calls Tryz.prog 123 #[.agg (Geo.cells g)] w fun e w'=>e=.returned (.bool (decide (Geo.May g)))/\Below w.heap.size w w':=by
 have q:=hid (fun w=>rof_any g.blocks g.log g.inodes w hg)
 have hM:Geo.May g ↔ Geo.of g.blocks g.log g.inodes=(g,0):=Iff.rfl
 have hr:(Geo.of g.blocks g.log g.inodes).2=0 ∨ (Geo.of g.blocks g.log g.inodes).2=2:=by
  unfold Geo.of;split
  ·exact .inl rfl
  exact .inr rfl
 obtain ⟨V,hV⟩:∃ V,decide (Geo.May g)=V:=⟨_,rfl⟩
 rw [hV]
 generalize Geo.of g.blocks g.log g.inodes=R at *
 obtain ⟨h,r⟩:=R
 dsimp only at *
 obtain ⟨DD,hDD⟩:∃ DD,decide (h=g)=DD:=⟨_,rfl⟩
 have hE:=hid (fun wx=>geo_eq h g wx)
 rw [hDD] at hE
 have hVD:r=0->V=DD:=fun h0=>by
  subst h0;rw [<- hV,<- hDD];by_cases hh:h=g
  ·rw [decide_eq_true hh,decide_eq_true (hM.2 (by rw [hh]))]
  rw [decide_eq_false hh,decide_eq_false (fun k=>hh (by have:=hM.1 k;injection this))]
 have hV2:r=2->V=false:=fun h2=>by
  rw [<- hV,decide_eq_false];intro k;have:=hM.1 k;injection this with e1 e2
  omega
 have HVD:=hid hVD
 have HV2:=hid hV2
 clear hVD hV2 hV hM hDD hg
 obtain ⟨g1,g2,g3,g4,g5,g6,g7,g8,g9⟩:=g
 obtain ⟨h1,h2,h3,h4,h5,h6,h7,h8,h9⟩:=h
 dsimp only [Geo.cells] at *
 have BA:=hid ((Below.refl w.heap.size w).alloc (Nat.le_refl _) (.cells #[.int .i64 g1,.int .i64 g2,.int .i64 g3,.int .i64 g4,.int .i64 g5,.int .i64 g6,.int .i64 g7,.int .i64 g8,.int .i64 g9] 30))
 have R0:=Row.new w 30 [.int .i64 g1,.int .i64 g2,.int .i64 g3,.int .i64 g4,.int .i64 g5,.int .i64 g6,.int .i64 g7,.int .i64 g8,.int .i64 g9] rfl
 have HR0:=hid R0
 have k0:=R0.cellAt 0 rfl;have k1:=R0.cellAt 1 rfl;have k2:=R0.cellAt 2 rfl
 clear R0
 go_enter Tryz.func123,Tryz.ntmps123
 go_wp2_with fail
 generalize w.alloc _=w1 at *
 refine (q.out _).mono ?_
 rintro e w2 ⟨rfl,hb2⟩
 have R2:=(HR0.out.below hb2 HR0.out.lt).alloc (.cells #[.int .i64 h1,.int .i64 h2,.int .i64 h3,.int .i64 h4,.int .i64 h5,.int .i64 h6,.int .i64 h7,.int .i64 h8,.int .i64 h9] 30)
 have H2:=Row.new w2 30 [.int .i64 h1,.int .i64 h2,.int .i64 h3,.int .i64 h4,.int .i64 h5,.int .i64 h6,.int .i64 h7,.int .i64 h8,.int .i64 h9] rfl
 have B2:=hid (below_box (below_next BA.out hb2) (.cells #[.int .i64 h1,.int .i64 h2,.int .i64 h3,.int .i64 h4,.int .i64 h5,.int .i64 h6,.int .i64 h7,.int .i64 h8,.int .i64 h9] 30))
 obtain ⟨r0,r1,r2,r3,r4,r5,r6,r7,r8⟩:=R2.c9
 obtain ⟨s0,s1,s2,s3,s4,s5,s6,s7,s8⟩:=H2.c9
 have hEE:=hE.out
 clear R2 H2 hb2 k0 k1 k2
 rcases hr with rfl | rfl
 ·obtain rfl:=HVD.out rfl;clear HVD HV2;go_wp2_with fail;go_ret;exact ⟨rfl,B2.out⟩
 ·obtain rfl:=HV2.out rfl;clear HVD HV2;go_wp2_with fail;go_ret;exact ⟨rfl,B2.out⟩
theorem rrefuses_may {Bd db:Nat} {z:RLay} {D:Dev} (g:Geo.G) (hg:Geo.May g) (w:World) (hD:RefAt Bd w db z D) :
  Calls Tryz.prog 80 #[.pointer (some ⟨db,0,none⟩),.agg (Geo.cells g)] w fun e w'=>e=.returned (.int .i64 (if (D.kept.length:Int)=g.blocks then 0 else 2))/\Below w.heap.size w w':=by
 have h0:=hg.ok.1
 unfold Geo.asked at h0
 have qM:=hid (fun w=>rmay_any g (by omega) w)
 rw [decide_eq_true hg] at qM
 have qB:=hid (fun wz (hz:Below w.heap.size w wz)=>rblocks_any (hD.below hz))
 have hpos:=hD.pos
 clear hg hD
 generalize D.kept.length=n at *
 obtain ⟨E,hE⟩:∃ E:Int,(if (n:Int)=g.blocks then (0:Int) else 2)=E:=⟨_,rfl⟩
 rw [hE]
 have HE:=hid hE
 clear hE
 obtain ⟨g1,g2,g3,g4,g5,g6,g7,g8,g9⟩:=g
 dsimp only [Geo.cells] at *
 have BA:=hid ((Below.refl w.heap.size w).alloc (Nat.le_refl _) (.cells #[.int .i64 g1,.int .i64 g2,.int .i64 g3,.int .i64 g4,.int .i64 g5,.int .i64 g6,.int .i64 g7,.int .i64 g8,.int .i64 g9] 30))
 have R0:=Row.new w 30 [.int .i64 g1,.int .i64 g2,.int .i64 g3,.int .i64 g4,.int .i64 g5,.int .i64 g6,.int .i64 g7,.int .i64 g8,.int .i64 g9] rfl
 have HR0:=hid R0
 obtain ⟨k0,k1,k2,k3,k4,k5,k6,k7,k8⟩:=R0.c9
 have n0:¬ (n:Int)=0:=by omega
 clear R0 h0
 go_enter Tryz.func80,Tryz.ntmps80
 go_upto_region 1 with fail
 generalize w.alloc _=w1 at *
 go_wp2_with (first | (go_at_call 122;refine (qB.out _ BA.out).mono ?_;rintro e w2 ⟨rfl,rfl⟩) | fail "none")
 go_region_held3 (fun w'=>w'.cell? ⟨w.heap.size,0,none⟩=some (.int .i64 g1)/\w'.cell? ⟨w.heap.size,1,none⟩=some (.int .i64 g2)/\w'.cell? ⟨w.heap.size,2,none⟩=some (.int .i64 g3)/\w'.cell? ⟨w.heap.size,3,none⟩=some (.int .i64 g4)/\w'.cell? ⟨w.heap.size,4,none⟩=some (.int .i64 g5)/\w'.cell? ⟨w.heap.size,5,none⟩=some (.int .i64 g6)/\w'.cell? ⟨w.heap.size,6,none⟩=some (.int .i64 g7)/\w'.cell? ⟨w.heap.size,7,none⟩=some (.int .i64 g8)/\w'.cell? ⟨w.heap.size,8,none⟩=some (.int .i64 g9))
  (first | exact ⟨k0,k1,k2,k3,k4,k5,k6,k7,k8⟩ | exact R6.c9)
  (first | (go_at_call 123;refine (qM.out _).mono ?_;rintro e w6 ⟨rfl,hb6'⟩;have hb6:Below w1.heap.size w1 w6:=⟨hb6'.os,hb6'.tape,hb6'.output,hb6'.size,hb6'.block⟩;have R6:=HR0.out.below hb6 HR0.out.lt) | (go_at_call 122;refine (qB.out _ (below_next BA.out hb6)).mono ?_;rintro e w7 ⟨rfl,rfl⟩) | fail "none")
 by_cases hn:(n:Int)=g1
 ·obtain rfl:E=0:=(by rw [<- HE.out,if_pos hn]);have hnb:((n:Int) != g1)=false:=(by rw [bne_eq_false_iff_eq,hn]);clear HE hn;go_wp2_with fail;go_ret;exact ⟨rfl,below_next BA.out hb6⟩
 ·obtain rfl:E=2:=(by rw [<- HE.out,if_neg hn]);have hnb:((n:Int) != g1)=true:=(by rw [bne_iff_ne];exact hn);clear HE;go_wp2_with fail;go_ret;exact ⟨rfl,below_next BA.out hb6⟩
theorem rrefuses_not {Bd db:Nat} {z:RLay} {D:Dev} (g:Geo.G) (hi : -9223372036854775808<=g.inodes/\g.inodes<=9223372036854775807) (hg:¬ Geo.May g) (w:World) (hD:RefAt Bd w db z D) :
  Calls Tryz.prog 80 #[.pointer (some ⟨db,0,none⟩),.agg (Geo.cells g)] w fun e w'=>e=.returned (.int .i64 2)/\Below w.heap.size w w':=by
 have qM:=hid (fun w=>rmay_any g hi w)
 rw [decide_eq_false hg] at qM
 have qB:=hid (fun wz (hz:Below w.heap.size w wz)=>rblocks_any (hD.below hz))
 have hpos:=hD.pos
 clear hg hD hi
 generalize D.kept.length=n at *
 obtain ⟨g1,g2,g3,g4,g5,g6,g7,g8,g9⟩:=g
 dsimp only [Geo.cells] at *
 have BA:=hid ((Below.refl w.heap.size w).alloc (Nat.le_refl _) (.cells #[.int .i64 g1,.int .i64 g2,.int .i64 g3,.int .i64 g4,.int .i64 g5,.int .i64 g6,.int .i64 g7,.int .i64 g8,.int .i64 g9] 30))
 have R0:=Row.new w 30 [.int .i64 g1,.int .i64 g2,.int .i64 g3,.int .i64 g4,.int .i64 g5,.int .i64 g6,.int .i64 g7,.int .i64 g8,.int .i64 g9] rfl
 have HR0:=hid R0
 obtain ⟨k0,k1,k2,k3,k4,k5,k6,k7,k8⟩:=R0.c9
 have n0:¬ (n:Int)=0:=by omega
 clear R0
 go_enter Tryz.func80,Tryz.ntmps80
 go_upto_region 1 with fail
 generalize w.alloc _=w1 at *
 go_wp2_with (first | (go_at_call 122;refine (qB.out _ BA.out).mono ?_;rintro e w2 ⟨rfl,rfl⟩) | fail "none")
 refine wp_region_E (S:=fun w'=>w'.cell? ⟨w.heap.size,0,none⟩=some (.int .i64 g1)/\w'.cell? ⟨w.heap.size,1,none⟩=some (.int .i64 g2)/\w'.cell? ⟨w.heap.size,2,none⟩=some (.int .i64 g3)/\w'.cell? ⟨w.heap.size,3,none⟩=some (.int .i64 g4)/\w'.cell? ⟨w.heap.size,4,none⟩=some (.int .i64 g5)/\w'.cell? ⟨w.heap.size,5,none⟩=some (.int .i64 g6)/\w'.cell? ⟨w.heap.size,6,none⟩=some (.int .i64 g7)/\w'.cell? ⟨w.heap.size,7,none⟩=some (.int .i64 g8)/\w'.cell? ⟨w.heap.size,8,none⟩=some (.int .i64 g9)) (E:=[]) (by kernel_rfl) ⟨k0,k1,k2,k3,k4,k5,k6,k7,k8⟩ (fun hHeld hCl=>?_)
 refine tk1 hCl hHeld 0 (.agg #[.int .i64 g1,.int .i64 g2,.int .i64 g3,.int .i64 g4,.int .i64 g5,.int .i64 g6,.int .i64 g7,.int .i64 g8,.int .i64 g9]) fun hCl=>?_;(try simp only [lL,Act.put])
 refine rd1 1 fun K hK=>?_
 go_simp
 refine (qM.out _).mono ?_
 rintro e w6 ⟨rfl,hb6'⟩
 have hb6:Below w1.heap.size w1 w6:=⟨hb6'.os,hb6'.tape,hb6'.output,hb6'.size,hb6'.block⟩
 have R6:=HR0.out.below hb6 HR0.out.lt
 refine dn hK hCl (R6.c9) ?_;clear hK K hHeld hCl;intro hHeld hCl;(try simp only [lL,Act.put])
 refine tk2 hCl hHeld 2 (.bool true) 3 (.bool true) fun hCl=>?_;(try simp only [lL,Act.put])
 refine tun3 hCl hHeld 4 6 7 fun hCl=>?_;(try simp only [lL,Act.put])
 refine rd1 5 fun K hK=>?_
 refine ite_not (by intro h;exact Bool.noConfusion (show false=true from h)) ?_
 refine dn hK hCl (R6.c9) ?_;clear hK K hHeld hCl;intro hHeld hCl;(try simp only [lL,Act.put])
 refine tun1 hCl hHeld 8 fun hCl=>?_;(try simp only [lL,Act.put])
 refine tk1 hCl hHeld 9 (.bool true) fun hCl=>?_;(try simp only [lL,Act.put])
 refine wpAnyE_done (by kernel_rfl) ?_ _
 go_wp2_with fail
 go_ret
 exact ⟨rfl,below_next BA.out hb6⟩
def rlogC (sb:Nat) (g:Geo.G) (V:LogV):List Value:=[.pointer (some ⟨sb,0,none⟩),.int .i64 g.blocks,.int .i64 g.log,.int .i64 g.inodes,.int .i64 g.logAt,.int .i64 g.mapAt,.int .i64 g.mapLen,.int .i64 g.tableAt,.int .i64 g.tableLen,.int .i64 g.dataAt,.int .i64 (V.place:Int),.int .u64 (V.seq:Int),.int .i64 (V.used:Int),.int .i64 V.bad]
def RLogAt (lb sb:Nat) (g:Geo.G) (V:LogV) (w:World):Prop:=Row w lb 83 (rlogC sb g V)
theorem rroom_any {lb sb:Nat} {g:Geo.G} {V:LogV} (hg:Geo.May g) (w:World) (h:RLogAt lb sb g V w) (hu:V.used<=100000):Calls Tryz.prog 31 #[.pointer (some ⟨lb,0,none⟩)] w fun e w'=>e=.returned (.int .i64 ((Jr.plc g:Nat) - (V.used:Int)))/\Below w.heap.size w w':=by
 have qP:=hid (rplaces_any g hg);obtain ⟨hp1,hp2,-⟩:=Jr.plc_of hg;unfold RLogAt rlogC at h;clear hg;generalize Jr.plc g=PL at *;obtain ⟨g1,g2,g3,g4,g5,g6,g7,g8,g9⟩:=g;obtain ⟨v1,v2,v3,v4⟩:=V;dsimp only [Geo.cells] at *;have c0:=h.cellAt 1 rfl;have c1:=h.cellAt 2 rfl;have c2:=h.cellAt 3 rfl;have c3:=h.cellAt 4 rfl;have c4:=h.cellAt 5 rfl;have c5:=h.cellAt 6 rfl;have c6:=h.cellAt 7 rfl;have c7:=h.cellAt 8 rfl;have c8:=h.cellAt 9 rfl;have c12:=h.cellAt 12 rfl;have H:=hid h;have hw:IntKind.i64.wrap ((PL:Int) - (v2:Int))=(PL:Int) - (v2:Int):=IntWalk.i64_in _ (by omega);clear h;go_enter Tryz.func31,Tryz.ntmps31;go_upto_region 1 with fail
 go_region_held3 (fun w'=>w'.cell? ⟨lb,1,none⟩=some (.int .i64 g1)/\w'.cell? ⟨lb,2,none⟩=some (.int .i64 g2)/\w'.cell? ⟨lb,3,none⟩=some (.int .i64 g3)/\w'.cell? ⟨lb,4,none⟩=some (.int .i64 g4)/\w'.cell? ⟨lb,5,none⟩=some (.int .i64 g5)/\w'.cell? ⟨lb,6,none⟩=some (.int .i64 g6)/\w'.cell? ⟨lb,7,none⟩=some (.int .i64 g7)/\w'.cell? ⟨lb,8,none⟩=some (.int .i64 g8)/\w'.cell? ⟨lb,9,none⟩=some (.int .i64 g9)/\w'.cell? ⟨lb,12,none⟩=some (.int .i64 (v2:Int)))
  (first | exact ⟨c0,c1,c2,c3,c4,c5,c6,c7,c8,c12⟩ | exact ⟨R6.cellAt 1 rfl,R6.cellAt 2 rfl,R6.cellAt 3 rfl,R6.cellAt 4 rfl,R6.cellAt 5 rfl,R6.cellAt 6 rfl,R6.cellAt 7 rfl,R6.cellAt 8 rfl,R6.cellAt 9 rfl,R6.cellAt 12 rfl⟩)
  (first | (go_at_call 81;refine (qP.out _).mono ?_;rintro e w6 ⟨rfl,hb6'⟩;have hb6:Below w.heap.size w w6:=⟨hb6'.os,hb6'.tape,hb6'.output,hb6'.size,hb6'.block⟩;have R6:=H.out.below hb6 H.out.lt) | fail "none")
 go_wp2_with fail;go_ret;exact ⟨rfl,hb6⟩
end Go.Proofs.YtnpdhidliaahbaaGreat
