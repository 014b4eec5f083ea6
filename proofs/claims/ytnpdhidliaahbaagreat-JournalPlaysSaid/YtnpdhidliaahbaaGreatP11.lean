/- Layouts: the walks. -/
import Derived.Test.YtnpdhidliaahbaaGreatP29
import Derived.Test.YtnpdhidliaahbaaGreatP01
import Derived.Test.YtnpdhidliaahbaaGreatProg
import Derived.WalkKit
import Derived.Deep.QuietTactic
import Derived.BigQuiet
import Derived.Deep.DeepCutAuto
import Derived.Laws.StructEq
import Derived.LoopN
set_option maxRecDepth 100000
set_option maxHeartbeats 32000000
set_option linter.unusedSimpArgs false
set_option linter.unusedVariables false
namespace Go.Proofs.YtnpdhidliaahbaaGreat
open Go.Lib (hid)
open Go Go.RowKit
theorem of_any (b l m:Int) (w:World) :
  Calls Tryz.prog 57 #[.int .i64 b,.int .i64 l,.int .i64 m] w fun e w'=>e=.returned (.tuple #[.agg (Geo.cells (Geo.of b l m).1),.int .i64 (Geo.of b l m).2])/\Below w.heap.size w w':=by
 by_cases k:Geo.asked b l m
 ·obtain ⟨k1,k2,k3,k4,k5,k6,k7⟩:=k;have hk:Geo.asked b l m:=⟨k1,k2,k3,k4,k5,k6,k7⟩;have g1:¬ b < 256:=(by omega);have g2:¬ 4096 < b:=(by omega);have g3:¬ l < 128:=(by omega);have g4:¬ 512 < l:=(by omega);have g5:¬ m < 8:=(by omega);have g6:¬ 512 < m:=(by omega);have g7:Int.tmod m 2=0:=(by rw [Int.tmod_eq_emod_of_nonneg (by omega)];exact k7);have u1:IntKind.i64.wrap (1+l)=1+l:=IntWalk.i64_in _ (by omega);have u2:IntKind.i64.wrap (b+1024)=b+1024:=IntWalk.i64_in _ (by omega);have u3:IntKind.i64.wrap (b+1024 - 1)=b+1024 - 1:=IntWalk.i64_in _ (by omega);obtain ⟨q,hq⟩:∃ q,q=(b+1023) / 1024:=⟨_,rfl⟩;have u4:(b+1024 - 1).tdiv 1024=q:=(by rw [Int.tdiv_eq_ediv_of_nonneg (by omega),hq];congr 1;omega);have u4':(b+1024 - 1) / 1024=q:=(by rw [hq];congr 1;omega);have u5:IntKind.i64.wrap q=q:=IntWalk.i64_in _ (by omega);obtain ⟨t,ht⟩:∃ t,t=m / 2:=⟨_,rfl⟩;have u6:m.tdiv 2=t:=(by rw [Int.tdiv_eq_ediv_of_nonneg (by omega),ht]);have u6':m / 2=t:=ht.symm;have u7:IntKind.i64.wrap t=t:=IntWalk.i64_in _ (by omega);have u8:IntKind.i64.wrap (1+l+q)=1+l+q:=IntWalk.i64_in _ (by omega);have u9:IntKind.i64.wrap (1+l+q+t)=1+l+q+t:=IntWalk.i64_in _ (by omega);have u10:IntKind.i64.wrap (b - (1+l+q+t))=b - (1+l+q+t):=IntWalk.i64_in _ (by omega);have hz:m % 2=0:=k7;have hl:Geo.lay b l m=⟨b,l,m,1,1+l,q,1+l+q,t,1+l+q+t⟩:=(by unfold Geo.lay;rw [<- hq,<- ht]);by_cases k8:16<=b - (1+l+q+t)
  ·have e:Hid (Geo.of b l m=(⟨b,l,m,1,1+l,q,1+l+q,t,1+l+q+t⟩,0)):=hid (by
    unfold Geo.of;rw [hl,if_pos ⟨hk,k8⟩])
   rw [e.out];have g8:¬ b - (1+l+q+t) < 16:=by omega
   clear hk hl hq ht k7;go_enter Tryz.func57,Tryz.ntmps57;go_wp2_with fail;refine bodyPost_ret (v:=.tuple #[.agg (Geo.cells ⟨b,l,m,1,1+l,q,1+l+q,t,1+l+q+t⟩),.int .i64 0]) (by simp [results,Tryz.results57,go_sem,Geo.cells]) rfl ⟨rfl,?_⟩;first | exact (Below.refl _ _).alloc (Nat.le_refl _) _ | exact ((Below.refl _ _).alloc (Nat.le_refl _) _).alloc (by simp) _ | exact Below.refl _ _
  have e:Hid (Geo.of b l m=(Geo.none_,2)):=hid (by
   unfold Geo.of;rw [hl,if_neg (fun h=>k8 h.2)])
  rw [e.out];have g8:b - (1+l+q+t) < 16:=by omega
  clear hk hl hq ht k7;go_enter Tryz.func57,Tryz.ntmps57;go_wp2_with fail;refine bodyPost_ret (v:=.tuple #[.agg (Geo.cells Geo.none_),.int .i64 2]) (by simp [results,Tryz.results57,go_sem,Geo.cells,Geo.none_]) rfl ⟨rfl,?_⟩;first | exact (Below.refl _ _).alloc (Nat.le_refl _) _ | exact ((Below.refl _ _).alloc (Nat.le_refl _) _).alloc (by simp) _ | exact Below.refl _ _
 ·have e:Hid (Geo.of b l m=(Geo.none_,2)):=hid (by
   unfold Geo.of;rw [if_neg (fun h=>k h.1)])
  rw [e.out];unfold Geo.asked at k;go_enter Tryz.func57,Tryz.ntmps57;by_cases g1:b < 256
  ·clear k;go_wp2_with fail;refine bodyPost_ret (v:=.tuple #[.agg (Geo.cells Geo.none_),.int .i64 2]) (by simp [results,Tryz.results57,go_sem,Geo.cells,Geo.none_]) rfl ⟨rfl,?_⟩;first | exact (Below.refl _ _).alloc (Nat.le_refl _) _ | exact ((Below.refl _ _).alloc (Nat.le_refl _) _).alloc (by simp) _ | exact Below.refl _ _
  by_cases g2:4096 < b
  ·clear k;go_wp2_with fail;refine bodyPost_ret (v:=.tuple #[.agg (Geo.cells Geo.none_),.int .i64 2]) (by simp [results,Tryz.results57,go_sem,Geo.cells,Geo.none_]) rfl ⟨rfl,?_⟩;first | exact (Below.refl _ _).alloc (Nat.le_refl _) _ | exact ((Below.refl _ _).alloc (Nat.le_refl _) _).alloc (by simp) _ | exact Below.refl _ _
  by_cases g3:l < 128
  ·clear k;go_wp2_with fail;refine bodyPost_ret (v:=.tuple #[.agg (Geo.cells Geo.none_),.int .i64 2]) (by simp [results,Tryz.results57,go_sem,Geo.cells,Geo.none_]) rfl ⟨rfl,?_⟩;first | exact (Below.refl _ _).alloc (Nat.le_refl _) _ | exact ((Below.refl _ _).alloc (Nat.le_refl _) _).alloc (by simp) _ | exact Below.refl _ _
  by_cases g4:512 < l
  ·clear k;go_wp2_with fail;refine bodyPost_ret (v:=.tuple #[.agg (Geo.cells Geo.none_),.int .i64 2]) (by simp [results,Tryz.results57,go_sem,Geo.cells,Geo.none_]) rfl ⟨rfl,?_⟩;first | exact (Below.refl _ _).alloc (Nat.le_refl _) _ | exact ((Below.refl _ _).alloc (Nat.le_refl _) _).alloc (by simp) _ | exact Below.refl _ _
  by_cases g5:m < 8
  ·clear k;go_wp2_with fail;refine bodyPost_ret (v:=.tuple #[.agg (Geo.cells Geo.none_),.int .i64 2]) (by simp [results,Tryz.results57,go_sem,Geo.cells,Geo.none_]) rfl ⟨rfl,?_⟩;first | exact (Below.refl _ _).alloc (Nat.le_refl _) _ | exact ((Below.refl _ _).alloc (Nat.le_refl _) _).alloc (by simp) _ | exact Below.refl _ _
  by_cases g6:512 < m
  ·clear k;go_wp2_with fail;refine bodyPost_ret (v:=.tuple #[.agg (Geo.cells Geo.none_),.int .i64 2]) (by simp [results,Tryz.results57,go_sem,Geo.cells,Geo.none_]) rfl ⟨rfl,?_⟩;first | exact (Below.refl _ _).alloc (Nat.le_refl _) _ | exact ((Below.refl _ _).alloc (Nat.le_refl _) _).alloc (by simp) _ | exact Below.refl _ _
  have g7:¬ m % 2=0:=(by omega);have g7':¬ Int.tmod m 2=0:=(by rw [Int.tmod_eq_emod_of_nonneg (by omega)];exact g7);clear k;go_wp2_with fail;refine bodyPost_ret (v:=.tuple #[.agg (Geo.cells Geo.none_),.int .i64 2]) (by simp [results,Tryz.results57,go_sem,Geo.cells,Geo.none_]) rfl ⟨rfl,?_⟩;first | exact (Below.refl _ _).alloc (Nat.le_refl _) _ | exact ((Below.refl _ _).alloc (Nat.le_refl _) _).alloc (by simp) _ | exact Below.refl _ _
theorem geo_eq (x y:Geo.G) (w:World):(binOp .eql 30 (.agg (Geo.cells x)) (.agg (Geo.cells y))).run Tryz.prog w=.ok (.bool (decide (x=y))) w:=by
 have u3:=Tryz.underlying3;have a3:=Tryz.isAgg3;have z3:=Tryz.sizeOf3;have hS:Tryz.prog.underlying 30=some (.struct (Tryz.prog.fieldsOf 30)):=(by kernel_rfl);have hp:Tryz.prog.stoodInHeld 30=false:=(by kernel_rfl);obtain ⟨x1,x2,x3,x4,x5,x6,x7,x8,x9⟩:=x;obtain ⟨y1,y2,y3,y4,y5,y6,y7,y8,y9⟩:=y;simp only [Geo.cells];rw [run_eql_struct,show (10000:Nat)=9999+1 from rfl,run_equalIn_agg w 9999 30 _ _ hS hp];simp only [Program.fieldsOf,Tryz.underlying30];go_simp;repeat' split
 all_goals simp_all
theorem gmay_any (g:Geo.G) (w:World) :
  Calls Tryz.prog 189 #[.agg (Geo.cells g)] w fun e w'=>e=.returned (.bool (decide (Geo.May g)))/\Below w.heap.size w w':=by
 have q:=hid (of_any g.blocks g.log g.inodes)
 have heq:Hid (∀ x,∀ wx:World,(binOp .eql 30 (.agg (Geo.cells x)) (.agg (Geo.cells g))).run Tryz.prog wx=.ok (.bool (decide (x=g))) wx):=hid (fun x wx=>geo_eq x g wx)
 have hM:Geo.May g ↔ Geo.of g.blocks g.log g.inodes=(g,0):=Iff.rfl
 have hr:(Geo.of g.blocks g.log g.inodes).2=0 ∨ (Geo.of g.blocks g.log g.inodes).2=2:=by
  unfold Geo.of;split
  ·exact .inl rfl
  exact .inr rfl
 generalize Geo.of g.blocks g.log g.inodes=R at *
 obtain ⟨h,r⟩:=R
 dsimp only at *
 have hd:decide (Geo.May g)=(decide (r=0) && decide (h=g)):=by
  rw [<- Bool.decide_and];congr 1;rw [hM,Prod.mk.injEq];exact propext And.comm
 rw [hd]
 clear hd hM
 obtain ⟨g1,g2,g3,g4,g5,g6,g7,g8,g9⟩:=g
 obtain ⟨h1,h2,h3,h4,h5,h6,h7,h8,h9⟩:=h
 have hE:=heq.out ⟨h1,h2,h3,h4,h5,h6,h7,h8,h9⟩
 generalize hD:decide ((⟨h1,h2,h3,h4,h5,h6,h7,h8,h9⟩:Geo.G)=⟨g1,g2,g3,g4,g5,g6,g7,g8,g9⟩)=D at hE ⊢
 simp only [Geo.cells] at hE q
 dsimp only [Geo.cells]
 clear hD heq
 have R0:=Row.new w 30 [.int .i64 g1,.int .i64 g2,.int .i64 g3,.int .i64 g4,.int .i64 g5,.int .i64 g6,.int .i64 g7,.int .i64 g8,.int .i64 g9] rfl
 have BA:=hid ((Below.refl w.heap.size w).alloc (Nat.le_refl _) (.cells #[.int .i64 g1,.int .i64 g2,.int .i64 g3,.int .i64 g4,.int .i64 g5,.int .i64 g6,.int .i64 g7,.int .i64 g8,.int .i64 g9] 30))
 rcases hr with rfl | rfl
 ·go_enter Tryz.func189,Tryz.ntmps189;go_wp2_with (refine (q.out _).mono ?_;rintro e w1 ⟨rfl,hb1⟩;have R1:=R0.below hb1 (by simp);have k0:=fun o=>(R1.alloc o).cellAt 0 rfl;have k1:=fun o=>(R1.alloc o).cellAt 1 rfl;have k2:=fun o=>(R1.alloc o).cellAt 2 rfl;have k3:=fun o=>(R1.alloc o).cellAt 3 rfl;have k4:=fun o=>(R1.alloc o).cellAt 4 rfl;have k5:=fun o=>(R1.alloc o).cellAt 5 rfl;have k6:=fun o=>(R1.alloc o).cellAt 6 rfl;have k7:=fun o=>(R1.alloc o).cellAt 7 rfl;have k8:=fun o=>(R1.alloc o).cellAt 8 rfl);go_ret;exact ⟨by simp,((BA.out.trans (hb1.mono (by simp))).alloc (Nat.le_trans (by simp) hb1.size) _)⟩
 ·go_enter Tryz.func189,Tryz.ntmps189;go_wp2_with (refine (q.out _).mono ?_;rintro e w1 ⟨rfl,hb1⟩;have R1:=R0.below hb1 (by simp);have k0:=fun o=>(R1.alloc o).cellAt 0 rfl;have k1:=fun o=>(R1.alloc o).cellAt 1 rfl;have k2:=fun o=>(R1.alloc o).cellAt 2 rfl;have k3:=fun o=>(R1.alloc o).cellAt 3 rfl;have k4:=fun o=>(R1.alloc o).cellAt 4 rfl;have k5:=fun o=>(R1.alloc o).cellAt 5 rfl;have k6:=fun o=>(R1.alloc o).cellAt 6 rfl;have k7:=fun o=>(R1.alloc o).cellAt 7 rfl;have k8:=fun o=>(R1.alloc o).cellAt 8 rfl);go_ret;exact ⟨by simp,((BA.out.trans (hb1.mono (by simp))).alloc (Nat.le_trans (by simp) hb1.size) _)⟩
theorem index_four (w:World) (cs:Array Value) (j:Nat) (v:Value) (hj:j < 4) (hv:cs[j]?=some v):(Instr.index 247 (.agg cs) (.int .i64 (j:Int))).run Tryz.prog w=.ok v w:=by
 simp [Instr.index,run_underlying Tryz.underlying247,asIntOf,go_sem,hj,hv,Tryz.isAgg3,Tryz.sizeOf3]
def cntW (l:List Int) (b:Int):Nat->Int
 | 0=>0
 | k+1=>cntW l b k+(if l.getD k 0<=b then 1 else 0)
theorem cntW_in (l:List Int) (b:Int):∀ k,0<=cntW l b k/\cntW l b k<=k
 | 0=>⟨Int.le_refl _,Int.le_refl _⟩
 | k+1=>by
  have:=cntW_in l b k;unfold cntW;split <;> omega
theorem where_any (g:Geo.G) (hg:Geo.May g) (b:Int) (hb : -9223372036854775808<=b/\b<=9223372036854775807) (w:World) :
  Calls Tryz.prog 175 #[.agg (Geo.cells g),.int .i64 b] w fun e w'=>e=.returned (.int .i64 (Geo.whereG g b))/\Below w.heap.size w w':=by
 have q:=hid (gmay_any g)
 rw [decide_eq_true hg] at q
 have hW:Geo.whereG g b=if 0<=b/\b < g.blocks then cntW [g.logAt,g.mapAt,g.tableAt,g.dataAt] b 4 else -1:=by
  unfold Geo.whereG;by_cases k:0<=b/\b < g.blocks
  ·rw [if_pos ⟨hg,k⟩,if_pos k];simp [cntW]
  rw [if_neg (fun h=>k h.2),if_neg k]
 rw [hW]
 clear hW hg
 obtain ⟨g1,g2,g3,g4,g5,g6,g7,g8,g9⟩:=g
 simp only [Geo.cells] at q
 dsimp only [Geo.cells]
 have R0:=Row.new w 30 [.int .i64 g1,.int .i64 g2,.int .i64 g3,.int .i64 g4,.int .i64 g5,.int .i64 g6,.int .i64 g7,.int .i64 g8,.int .i64 g9] rfl
 have BA:=hid ((Below.refl w.heap.size w).alloc (Nat.le_refl _) (.cells #[.int .i64 g1,.int .i64 g2,.int .i64 g3,.int .i64 g4,.int .i64 g5,.int .i64 g6,.int .i64 g7,.int .i64 g8,.int .i64 g9] 30))
 by_cases h0:b < 0
 ·have e:Hid ((if 0<=b/\b < g1 then cntW [g4,g5,g7,g9] b 4 else -1) = -1):=hid (if_neg (by omega));rw [e.out];go_enter Tryz.func175,Tryz.ntmps175;go_wp2_with (refine (q.out _).mono ?_;rintro e w1 ⟨rfl,hb1⟩;have R1:=R0.below hb1 (by simp);obtain ⟨k0,k1,k2,k3,k4,k5,k6,k7,k8⟩:=R1.c9);go_ret;exact ⟨rfl,BA.out.trans (hb1.mono (by simp))⟩
 by_cases h1:g1<=b
 ·have e:Hid ((if 0<=b/\b < g1 then cntW [g4,g5,g7,g9] b 4 else -1) = -1):=hid (if_neg (by omega));rw [e.out];go_enter Tryz.func175,Tryz.ntmps175;go_wp2_with (refine (q.out _).mono ?_;rintro e w1 ⟨rfl,hb1⟩;have R1:=R0.below hb1 (by simp);obtain ⟨k0,k1,k2,k3,k4,k5,k6,k7,k8⟩:=R1.c9);go_ret;exact ⟨rfl,BA.out.trans (hb1.mono (by simp))⟩
 have e:Hid ((if 0<=b/\b < g1 then cntW [g4,g5,g7,g9] b 4 else -1)=cntW [g4,g5,g7,g9] b 4):=hid (if_pos (by omega))
 rw [e.out]
 clear e
 have IX:∀ (w:World) (k:Nat),k < 4->(Instr.index 247 (.agg #[.int .i64 g4,.int .i64 g5,.int .i64 g7,.int .i64 g9]) (.int .i64 (k:Int))).run Tryz.prog w=.ok (.int .i64 ([g4,g5,g7,g9].getD k 0)) w:=fun w k hk=>by
  refine index_four w _ k _ hk ?_;rcases (by omega:k=0 ∨ k=1 ∨ k=2 ∨ k=3) with rfl | rfl | rfl | rfl <;> rfl
 go_enter Tryz.func175,Tryz.ntmps175
 go_wp2_with (refine (q.out _).mono ?_;rintro e w1 ⟨rfl,hb1⟩;have R1:=R0.below hb1 (by simp);obtain ⟨k0,k1,k2,k3,k4,k5,k6,k7,k8⟩:=R1.c9)
 have HB:=hid (BA.out.trans (hb1.mono (by simp)))
 have HI:=hid IX
 clear IX hb1 BA R0 R1
 go_loop [5,7,30] (fun p x i=>∃ k:Nat,k<=4/\i=.int .i64 k/\p=.int .i64 (cntW [g4,g5,g7,g9] b k)/\x=x) (fun _ _ i=>4 - (intOf i).toNat)
 case atStart=>exact ⟨0,by omega,rfl,rfl,rfl⟩
 case round =>
  obtain ⟨k,hk,rfl,rfl,-⟩:=hrel;by_cases hlt:k < 4
  ·have ix:=fun w=>HI.out w k hlt;have hs:cntW [g4,g5,g7,g9] b (k+1)=cntW [g4,g5,g7,g9] b k+(if [g4,g5,g7,g9].getD k 0<=b then 1 else 0):=rfl;have hin:=cntW_in [g4,g5,g7,g9] b k;have i0:(k:Int) < 4:=by omega
   generalize [g4,g5,g7,g9].getD k 0=y at ix hs;have HS:=hid hs;clear hs;by_cases hy:y<=b
   ·go_wp2_with fail;go_round;case rel=>exact ⟨k+1,by omega,by go_num,by rw [HS.out,if_pos hy],by trivial⟩
    case measure=>simp [intOf];omega
   go_wp2_with fail;go_round;case rel=>exact ⟨k+1,by omega,by go_num,by rw [HS.out,if_neg hy,Int.add_zero],by trivial⟩
   case measure=>simp [intOf];omega
  obtain rfl:k=4:=(by omega);go_wp2_with fail;go_ret;exact ⟨rfl,HB.out⟩
end Go.Proofs.YtnpdhidliaahbaaGreat
