/- slices.Chunk: its iterator, at ints and at changes. -/
import Derived.Test.YtnpdhidliaahbaaGreatP23
import Derived.RangeFuncNested
import Derived.RangeFuncBound
import Derived.RangeFuncCalls
import Derived.RangeFuncLeaves
import Derived.Shelf.Abstract
import Derived.Shelf.RegionOpen
import Derived.WalkKit
import Derived.OwnWalkIn
import Derived.TacticsInMore
import Derived.LoopNIn
import Derived.LoopIn
import Derived.Deep.RegionHeld3
import Derived.Test.YtnpdhidliaahbaaGreatP07
import Derived.Test.YtnpdhidliaahbaaGreatP09
import Derived.Test.YtnpdhidliaahbaaGreatP21
set_option maxRecDepth 100000
set_option maxHeartbeats 32000000
set_option linter.unusedSimpArgs false
set_option linter.unusedVariables false
namespace Go.Proofs.YtnpdhidliaahbaaGreat
open Go.Lib (hid)
open Go Go.RowKit Go.Shelf Go.Proofs
attribute [local go_sem] Oper.semAt_some
def KB (B1 B2:Nat) (W W':World):Prop:=∀ b,b=B1 ∨ b=B2->∀ c,W.cell? ⟨b,0,none⟩=some c->W'.cell? ⟨b,0,none⟩=some c
theorem KB.refl (B1 B2:Nat) (W:World):KB B1 B2 W W:=fun _ _ _ h=>h
theorem KB.trans {B1 B2:Nat} {A B C:World} (h:KB B1 B2 A B) (h2:KB B1 B2 B C):KB B1 B2 A C:=fun b hb c hc=>h2 b hb c (h b hb c hc)
theorem KB.drew (B1 B2:Nat) (W:World):KB B1 B2 W W.drew:=fun _ _ _ h=>h
theorem KB.one {B1 B2:Nat} {A B:World} (h:KB B1 B2 A B) {c:Value} (hc:A.cell? ⟨B1,0,none⟩=some c):B.cell? ⟨B1,0,none⟩=some c:=h B1 (.inl rfl) c hc
theorem KB.two {B1 B2:Nat} {A B:World} (h:KB B1 B2 A B) {c:Value} (hc:A.cell? ⟨B2,0,none⟩=some c):B.cell? ⟨B2,0,none⟩=some c:=h B2 (.inr rfl) c hc
theorem KB.put (B1 B2:Nat) (W:World) (l:Nat) (o o':Obj) (hl:W.heap[l]?=some o) (hc:o.isCells=false):KB B1 B2 W (W.putObj l o'):=fun b _ c h=>by
 by_cases e:b=l
 ·subst e;simp only [World.cell?,hl] at h;cases o <;> simp [Obj.isCells] at hc <;> simp at h
 ·have hlt:=World.block_lt_of_cell? W _ h;have:=(grownBy_putObj' W l o').block b hlt (fun k=>e (Option.some.inj k));simp only [World.cell?] at h ⊢;rw [this];exact h
abbrev Piece (m len:Nat) := { k:Nat // k * m < len }
def pieceV (sz m:Nat) (g off len:Nat) (x:Piece m len):Value:=.slice (some ⟨g,off+x.1 * m * sz,none⟩) (min m (len - x.1 * m)) (min m (len - x.1 * m))
def pieces (m len:Nat) (hm:0 < m):(k:Nat)->k * m < len+m->List (Piece m len)
 | 0,_=>[]
 | k+1,h=>pieces m len hm k (by rw [Nat.succ_mul] at h;omega) ++ [⟨k,by rw [Nat.succ_mul] at h;omega⟩]
theorem pieces_length (m len:Nat) (hm:0 < m):∀ k h,(pieces m len hm k h).length=k
 | 0,_=>rfl
 | k+1,h=>by unfold pieces;rw [List.length_append,pieces_length m len hm k];rfl
theorem chunkI_in (n:Nat) (hn:1<=n) (l B1 B2 g off len cap m:Nat) (hm:0 < m) (hml:m<=100) (hlen:len<=1000000) (hcap:len<=cap) (J Jx:List (Piece m len)->World->Prop)
  (hY:∀ pre x W,J pre W->pre.length < len->YieldAt Fence.wide (n - 1) Tryz.prog l #[pieceV 1 m g off len x] W fun e W' =>
   (e=.returned (.bool true)/\J (pre ++ [x]) W'/\KB B1 B2 W W') ∨ (e=.returned (.bool false)/\Jx (pre ++ [x]) W'))
  (hJd:∀ pre W,J pre W->J pre W.drew) (W:World) (c1:W.cell? ⟨B1,0,none⟩=some (.slice (some ⟨g,off,none⟩) len cap)) (c2:W.cell? ⟨B2,0,none⟩=some (.int .i64 (m:Int))) (h0:J [] W) :
  CallsIn Fence.wide n Tryz.prog 147 #[.func (.yield l) #[] #[],.pointer (some ⟨B1,0,none⟩),.pointer (some ⟨B2,0,none⟩)] W fun e W'=>(∃ v,e=.returned v) /\
   ((∃ ys,(∃ k h,len<=k * m/\ys=pieces m len hm k h)/\J ys W') ∨ (∃ pre,True/\Jx pre W')):=by
 refine callsIn_of_wp Tryz.func147 rfl trivial ?_ rfl
 simp only [Tryz.ntmps147,List.size_toArray,List.length_cons,List.length_nil,Nat.reduceAdd,Nat.reduceSub,Array.replicate_succ,Array.replicate_zero,List.push_toArray,List.append_toArray,List.nil_append,List.cons_append]
 gi_wp2
 gi_loopw [4] (fun i wr=>∃ (k K:Nat) (h:k * m < len+m),Hid (K=k * m)/\K < len+m/\i=.int .i64 (K:Int)/\J (pieces m len hm k h) wr/\Hid (KB B1 B2 W wr))
  (fun i _=>len+m - (intOf i).toNat)
 case atStart=>exact ⟨0,0,by omega,hid (by simp),by omega,rfl,h0,hid (KB.refl _ _ _)⟩
 case round =>
  obtain ⟨k,K,hk,hK,hK2,rfl,hJs,hnx⟩:=hrel;have d1:=hnx.out.one c1;have d2:=hnx.out.two c2;by_cases hlt:K < len
  ·have hkl:k < len:=Nat.lt_of_le_of_lt (Nat.le_mul_of_pos_right k hm) (by rw [<- hK.out];exact hlt);obtain ⟨fn,tmps,assign,body,hy,hR⟩:=hY _ ⟨k,by rw [<- hK.out];exact hlt⟩ wr.drew (hJd _ _ hJs) (by rw [pieces_length];exact hkl);have hJS:=hid hJs;have HR:=hid hR;have i0:(0:Int)<=(K:Int):=(by omega);have i1:(K:Int) < (len:Int):=(by omega);have i2:(K:Int)<=(len:Int):=(by omega);have i3:(len:Int)<=(cap:Int):=(by omega);clear hJs hR hY h0 c1 c2;gi_upto_region 3 with fail
   refine wpIn_wide.2 ?_;go_region;have e5:min (m:Int) ((len - K:Nat):Int)=((min m (len - K):Nat):Int):=by omega
   rw [e5];have hPV:pieceV 1 m g off len ⟨k,by rw [<- hK.out];exact hlt⟩=.slice (some ⟨g,off+K,none⟩) (min m (len - K)) (min m (len - K)):=by
    unfold pieceV;simp only [<- hK.out,Nat.mul_one]
   rw [hPV] at hy;have hE1:min m (len - K)<=len - K:=Nat.min_le_right _ _;have hE2:min m (len - K)<=m:=Nat.min_le_left _ _;have HPC:=hid (show pieces m len hm (k+1) (by rw [Nat.succ_mul,<- hK.out];omega)=pieces m len hm k hk ++ [⟨k,by rw [<- hK.out];exact hlt⟩] from rfl);have hE3:0 < min m (len - K):=by omega
   clear e5 hPV;generalize hEE:min m (len - K)=E at *;clear hEE;have hne:¬ (K+E=K):=by omega
   have hE0:¬ (E=0):=(by omega);have u1:IntKind.i64.wrap ((K:Int)+(E:Int))=((K+E:Nat):Int):=(by rw [IntWalk.i64_in _ (by omega)];omega);have hdw:=hid (KB.drew B1 B2 wr);gi_wp2;refine HR.out.mono ?_;rintro e W3 (⟨rfl,hJ3,hk3⟩ | ⟨rfl,hJx3⟩)
   ·have d3:=hk3.two (show wr.drew.cell? ⟨B2,0,none⟩=some (.int .i64 (m:Int)) from d2);have u2:IntKind.i64.wrap ((K:Int)+(m:Int))=((K+m:Nat):Int):=(by rw [IntWalk.i64_in _ (by omega)];omega);gi_wp2;go_roundw;case rel=>exact ⟨k+1,K+m,by rw [Nat.succ_mul,<- hK.out];omega,hid (by rw [Nat.succ_mul,hK.out]),by omega,by go_num,by rw [HPC.out];exact hJ3,hid (hnx.out.trans (hdw.out.trans hk3))⟩
    case measure=>simp [intOf];omega
   gi_wp2;refine bodyPost_ret (results_none rfl _ _ _) rfl ?_;exact ⟨⟨_,rfl⟩,.inr ⟨_,trivial,hJx3⟩⟩
  gi_wp2;go_end0;exact ⟨⟨_,rfl⟩,.inl ⟨_,⟨k,hk,by rw [<- hK.out];omega,rfl⟩,hJs⟩⟩
theorem chunkI_nil (n m:Nat) (l B1 B2:Nat) (J:List (Piece m 0)->World->Prop) (W:World) {ad:Option Addr} {cp:Nat} (c1:W.cell? ⟨B1,0,none⟩=some (.slice ad 0 cp)) (h0:J [] W) :
  CallsIn Fence.wide n Tryz.prog 147 #[.func (.yield l) #[] #[],.pointer (some ⟨B1,0,none⟩),.pointer (some ⟨B2,0,none⟩)] W fun e W'=>(∃ v,e=.returned v)/\J [] W':=by
 refine callsIn_of_wp Tryz.func147 rfl trivial ?_ rfl
 simp only [Tryz.ntmps147,List.size_toArray,List.length_cons,List.length_nil,Nat.reduceAdd,Nat.reduceSub,Array.replicate_succ,Array.replicate_zero,List.push_toArray,List.append_toArray,List.nil_append,List.cons_append]
 gi_wp2
 gi_loopw [4] (fun i wr=>i=.int .i64 0/\wr=W) (fun _ _=>0)
 case atStart=>exact ⟨rfl,rfl⟩
 case round =>
  obtain ⟨rfl,rfl⟩:=hrel;gi_wp2;go_end0;exact ⟨⟨_,rfl⟩,h0⟩
theorem chunkI_stops (n:Nat) (hn:1<=n) (B1 B2 g off len cap m:Nat) (hm:0 < m) (hml:m<=100) (hlen:len<=1000000) (hcap:len<=cap) (w:World)
  (c1:w.cell? ⟨B1,0,none⟩=some (.slice (some ⟨g,off,none⟩) len cap)) (c2:w.cell? ⟨B2,0,none⟩=some (.int .i64 (m:Int))) :
  SeqStopsK Fence.wide n Tryz.prog 147 #[.pointer (some ⟨B1,0,none⟩),.pointer (some ⟨B2,0,none⟩)] (fun x:Piece m len=>#[pieceV 1 m g off len x]) (KB B1 B2) (fun ys=>∃ k h,len<=k * m/\ys=pieces m len hm k h) (fun _=>True) len w:=fun l J Jx W hW hJ _ hY h0 =>
 (chunkI_in n hn l B1 B2 g off len cap m hm hml hlen hcap J Jx hY (fun pre A hA=>hJ pre A A.drew none hA ⟨rfl,rfl,rfl,Nat.le_refl _,fun _ _ _=>rfl⟩ (fun r e=>by cases e)) W ((hW.cell (p:=⟨B1,0,none⟩) (World.block_lt_of_cell? w _ c1)).trans c1) ((hW.cell (p:=⟨B2,0,none⟩) (World.block_lt_of_cell? w _ c2)).trans c2) h0)
theorem chunkI_stops0 (n:Nat) (B1 B2 g off m:Nat) (hm:0 < m) (w:World) {ad:Option Addr} {cp:Nat}
  (c1:w.cell? ⟨B1,0,none⟩=some (.slice ad 0 cp)) :
  SeqStopsK Fence.wide n Tryz.prog 147 #[.pointer (some ⟨B1,0,none⟩),.pointer (some ⟨B2,0,none⟩)] (fun x:Piece m 0=>#[pieceV 1 m g off 0 x]) (KB B1 B2) (fun ys=>∃ k h,0<=k * m/\ys=pieces m 0 hm k h) (fun _=>True) 0 w:=fun l J Jx W hW hJ _ hY h0 =>
 (chunkI_nil n m l B1 B2 J W ((hW.cell (p:=⟨B1,0,none⟩) (World.block_lt_of_cell? w _ c1)).trans c1) h0).mono fun e W' ⟨he,hj⟩=>⟨he,.inl ⟨[],⟨0,by omega,Nat.zero_le _,rfl⟩,hj⟩⟩
theorem chunkI_any (a:Option Addr) (len cap m:Nat) (hm:0 < m) (w:World) :
  Calls Tryz.prog 109 #[.slice a len cap,.int .i64 (m:Int)] w fun e w'=>e=.returned (.func (.func 147) #[] #[.pointer (some ⟨w.heap.size,0,none⟩),.pointer (some ⟨w.heap.size+1,0,none⟩)])/\w'=(w.alloc (.cells #[.slice a len cap] 23)).alloc (.cells #[.int .i64 (m:Int)] 3):=by
 have hm1:¬ ((m:Int) < 1):=by omega
 go_enter Tryz.func109,Tryz.ntmps109
 go_wp2_with fail
 go_ret
 exact ⟨rfl,rfl⟩
theorem chunkC_in (n:Nat) (hn:1<=n) (l B1 B2 g off len cap m:Nat) (hm:0 < m) (hml:m<=100) (hlen:len<=1000000) (hcap:len<=cap) (J Jx:List (Piece m len)->World->Prop)
  (hY:∀ pre x W,J pre W->pre.length < len->YieldAt Fence.wide (n - 1) Tryz.prog l #[pieceV 2 m g off len x] W fun e W' =>
   (e=.returned (.bool true)/\J (pre ++ [x]) W'/\KB B1 B2 W W') ∨ (e=.returned (.bool false)/\Jx (pre ++ [x]) W'))
  (hJd:∀ pre W,J pre W->J pre W.drew) (W:World) (c1:W.cell? ⟨B1,0,none⟩=some (.slice (some ⟨g,off,none⟩) len cap)) (c2:W.cell? ⟨B2,0,none⟩=some (.int .i64 (m:Int))) (h0:J [] W) :
  CallsIn Fence.wide n Tryz.prog 148 #[.func (.yield l) #[] #[],.pointer (some ⟨B1,0,none⟩),.pointer (some ⟨B2,0,none⟩)] W fun e W'=>(∃ v,e=.returned v) /\
   ((∃ ys,(∃ k h,len<=k * m/\ys=pieces m len hm k h)/\J ys W') ∨ (∃ pre,True/\Jx pre W')):=by
 refine callsIn_of_wp Tryz.func148 rfl trivial ?_ rfl
 simp only [Tryz.ntmps148,List.size_toArray,List.length_cons,List.length_nil,Nat.reduceAdd,Nat.reduceSub,Array.replicate_succ,Array.replicate_zero,List.push_toArray,List.append_toArray,List.nil_append,List.cons_append]
 gi_wp2
 gi_loopw [4] (fun i wr=>∃ (k K:Nat) (h:k * m < len+m),Hid (K=k * m)/\K < len+m/\i=.int .i64 (K:Int)/\J (pieces m len hm k h) wr/\Hid (KB B1 B2 W wr))
  (fun i _=>len+m - (intOf i).toNat)
 case atStart=>exact ⟨0,0,by omega,hid (by simp),by omega,rfl,h0,hid (KB.refl _ _ _)⟩
 case round =>
  obtain ⟨k,K,hk,hK,hK2,rfl,hJs,hnx⟩:=hrel;have d1:=hnx.out.one c1;have d2:=hnx.out.two c2;by_cases hlt:K < len
  ·have hkl:k < len:=Nat.lt_of_le_of_lt (Nat.le_mul_of_pos_right k hm) (by rw [<- hK.out];exact hlt);obtain ⟨fn,tmps,assign,body,hy,hR⟩:=hY _ ⟨k,by rw [<- hK.out];exact hlt⟩ wr.drew (hJd _ _ hJs) (by rw [pieces_length];exact hkl);have hJS:=hid hJs;have HR:=hid hR;have i0:(0:Int)<=(K:Int):=(by omega);have i1:(K:Int) < (len:Int):=(by omega);have i2:(K:Int)<=(len:Int):=(by omega);have i3:(len:Int)<=(cap:Int):=(by omega);clear hJs hR hY h0 c1 c2;gi_upto_region 3 with fail
   refine wpIn_wide.2 ?_;go_region;have e5:min (m:Int) ((len - K:Nat):Int)=((min m (len - K):Nat):Int):=by omega
   rw [e5];have hPV:pieceV 2 m g off len ⟨k,by rw [<- hK.out];exact hlt⟩=.slice (some ⟨g,off+K * 2,none⟩) (min m (len - K)) (min m (len - K)):=by
    unfold pieceV;simp only [<- hK.out]
   rw [hPV] at hy;have hE1:min m (len - K)<=len - K:=Nat.min_le_right _ _;have hE2:min m (len - K)<=m:=Nat.min_le_left _ _;have HPC:=hid (show pieces m len hm (k+1) (by rw [Nat.succ_mul,<- hK.out];omega)=pieces m len hm k hk ++ [⟨k,by rw [<- hK.out];exact hlt⟩] from rfl);have hE3:0 < min m (len - K):=by omega
   clear e5 hPV;generalize hEE:min m (len - K)=E at *;clear hEE;have hne:¬ (K+E=K):=by omega
   have hE0:¬ (E=0):=(by omega);have u1:IntKind.i64.wrap ((K:Int)+(E:Int))=((K+E:Nat):Int):=(by rw [IntWalk.i64_in _ (by omega)];omega);have hdw:=hid (KB.drew B1 B2 wr);gi_wp2;refine HR.out.mono ?_;rintro e W3 (⟨rfl,hJ3,hk3⟩ | ⟨rfl,hJx3⟩)
   ·have d3:=hk3.two (show wr.drew.cell? ⟨B2,0,none⟩=some (.int .i64 (m:Int)) from d2);have u2:IntKind.i64.wrap ((K:Int)+(m:Int))=((K+m:Nat):Int):=(by rw [IntWalk.i64_in _ (by omega)];omega);gi_wp2;go_roundw;case rel=>exact ⟨k+1,K+m,by rw [Nat.succ_mul,<- hK.out];omega,hid (by rw [Nat.succ_mul,hK.out]),by omega,by go_num,by rw [HPC.out];exact hJ3,hid (hnx.out.trans (hdw.out.trans hk3))⟩
    case measure=>simp [intOf];omega
   gi_wp2;refine bodyPost_ret (results_none rfl _ _ _) rfl ?_;exact ⟨⟨_,rfl⟩,.inr ⟨_,trivial,hJx3⟩⟩
  gi_wp2;go_end0;exact ⟨⟨_,rfl⟩,.inl ⟨_,⟨k,hk,by rw [<- hK.out];omega,rfl⟩,hJs⟩⟩
theorem chunkC_nil (n m:Nat) (l B1 B2:Nat) (J:List (Piece m 0)->World->Prop) (W:World) {ad:Option Addr} {cp:Nat} (c1:W.cell? ⟨B1,0,none⟩=some (.slice ad 0 cp)) (h0:J [] W) :
  CallsIn Fence.wide n Tryz.prog 148 #[.func (.yield l) #[] #[],.pointer (some ⟨B1,0,none⟩),.pointer (some ⟨B2,0,none⟩)] W fun e W'=>(∃ v,e=.returned v)/\J [] W':=by
 refine callsIn_of_wp Tryz.func148 rfl trivial ?_ rfl
 simp only [Tryz.ntmps148,List.size_toArray,List.length_cons,List.length_nil,Nat.reduceAdd,Nat.reduceSub,Array.replicate_succ,Array.replicate_zero,List.push_toArray,List.append_toArray,List.nil_append,List.cons_append]
 gi_wp2
 gi_loopw [4] (fun i wr=>i=.int .i64 0/\wr=W) (fun _ _=>0)
 case atStart=>exact ⟨rfl,rfl⟩
 case round =>
  obtain ⟨rfl,rfl⟩:=hrel;gi_wp2;go_end0;exact ⟨⟨_,rfl⟩,h0⟩
theorem chunkC_stops (n:Nat) (hn:1<=n) (B1 B2 g off len cap m:Nat) (hm:0 < m) (hml:m<=100) (hlen:len<=1000000) (hcap:len<=cap) (w:World)
  (c1:w.cell? ⟨B1,0,none⟩=some (.slice (some ⟨g,off,none⟩) len cap)) (c2:w.cell? ⟨B2,0,none⟩=some (.int .i64 (m:Int))) :
  SeqStopsK Fence.wide n Tryz.prog 148 #[.pointer (some ⟨B1,0,none⟩),.pointer (some ⟨B2,0,none⟩)] (fun x:Piece m len=>#[pieceV 2 m g off len x]) (KB B1 B2) (fun ys=>∃ k h,len<=k * m/\ys=pieces m len hm k h) (fun _=>True) len w:=fun l J Jx W hW hJ _ hY h0 =>
 (chunkC_in n hn l B1 B2 g off len cap m hm hml hlen hcap J Jx hY (fun pre A hA=>hJ pre A A.drew none hA ⟨rfl,rfl,rfl,Nat.le_refl _,fun _ _ _=>rfl⟩ (fun r e=>by cases e)) W ((hW.cell (p:=⟨B1,0,none⟩) (World.block_lt_of_cell? w _ c1)).trans c1) ((hW.cell (p:=⟨B2,0,none⟩) (World.block_lt_of_cell? w _ c2)).trans c2) h0)
theorem chunkC_stops0 (n:Nat) (B1 B2 g off m:Nat) (hm:0 < m) (w:World) {ad:Option Addr} {cp:Nat}
  (c1:w.cell? ⟨B1,0,none⟩=some (.slice ad 0 cp)) :
  SeqStopsK Fence.wide n Tryz.prog 148 #[.pointer (some ⟨B1,0,none⟩),.pointer (some ⟨B2,0,none⟩)] (fun x:Piece m 0=>#[pieceV 2 m g off 0 x]) (KB B1 B2) (fun ys=>∃ k h,0<=k * m/\ys=pieces m 0 hm k h) (fun _=>True) 0 w:=fun l J Jx W hW hJ _ hY h0 =>
 (chunkC_nil n m l B1 B2 J W ((hW.cell (p:=⟨B1,0,none⟩) (World.block_lt_of_cell? w _ c1)).trans c1) h0).mono fun e W' ⟨he,hj⟩=>⟨he,.inl ⟨[],⟨0,by omega,Nat.zero_le _,rfl⟩,hj⟩⟩
theorem chunkC_any (a:Option Addr) (len cap m:Nat) (hm:0 < m) (w:World) :
  Calls Tryz.prog 110 #[.slice a len cap,.int .i64 (m:Int)] w fun e w'=>e=.returned (.func (.func 148) #[] #[.pointer (some ⟨w.heap.size,0,none⟩),.pointer (some ⟨w.heap.size+1,0,none⟩)])/\w'=(w.alloc (.cells #[.slice a len cap] 22)).alloc (.cells #[.int .i64 (m:Int)] 3):=by
 have hm1:¬ ((m:Int) < 1):=by omega
 go_enter Tryz.func110,Tryz.ntmps110
 go_wp2_with fail
 go_ret
 exact ⟨rfl,rfl⟩
end Go.Proofs.YtnpdhidliaahbaaGreat
namespace Go.Proofs.YtnpdhidliaahbaaGreat
open Go.Lib (hid)
open Go Go.RowKit
theorem upon_round {P:Program} {o:Oper} {a:Act} {next:Act->World->Prop} {Q:Exit->Act->World->Prop} (l n:Nat):∀ (r:Result Next),o.upon P a next Q r->o.uponIn (Fence.wide.inRound l) n P a next Q r
 | .ok (.value v) w,h=>h
 | .ok .skip w,h=>h
 | .ok (.defer d) w,h=>h
 | .ok (.enter f args) w,h=>⟨(fun h=>nomatch h),CallsIn.inRound l (callsIn_wide.2 (Calls.mono h (fun e w' h=>by
   cases e with
   | returned v=>exact h
   | panicked c=>exact h
   | outgrown=>exact h)))⟩
 | .ok (.row row args) w,h=>⟨(fun h=>nomatch h),fun c cs _=>by
   obtain ⟨v,w',h1,h2⟩:=h c cs;exact ⟨v,w',h1,stepsIn_wide.2 h2⟩⟩
 | .ok (.round _ _ _ _ _) w,h=>by cases h
 | .halt (.panic v) w,h=>h
 | .ok (.recover) w,h=>by cases h
 | .halt (.blocked) w,h=>by cases h
 | .halt (.waiting) w,h=>by cases h
 | .halt (.exit _) w,h=>by cases h
 | .halt (.fatal _) w,h=>by cases h
 | .halt (.throw _) w,h=>by cases h
 | .halt (.goexit) w,h=>by cases h
 | .halt (.unsupported _) w,h=>by cases h
 | .halt (.stuck _) w,h=>by cases h
theorem wpOp_round {P:Program} {ops:Array Oper} {Q:Exit->Act->World->Prop} (l n:Nat) (hnd:∀ (i:Nat) (o:Oper),ops[i]?=some o->∀ c,o.op ≠ .defer c) (hQ:¬ LetsOut Q) {i:Nat} {K:Act->World->Prop} {a:Act} {w:World} (h:wpOp P ops Q i K a w):wpOpIn (Fence.wide.inRound l) n P ops Q i K a w:=by
 unfold wpOp at h;unfold wpOpIn;cases e:ops[i]? with
 | none=>rw [e] at h;exact h
 | some o =>
  rw [e] at h;dsimp only at h ⊢;split at h
  ·rename_i hw;rw [if_pos hw];rcases h with h | ⟨_,h⟩
   ·refine ⟨fun _ _=>trivial,?_⟩;rw [Oper.semAt_eq _ _ _ (hnd i o e)];exact upon_round l n _ h
   exact absurd h hQ
  rename_i hw;rw [if_neg hw];exact ⟨fun _ _=>trivial,h⟩
theorem wpAny_round {P:Program} {md:Region.Mode} {ops:Array Oper} {Q:Exit->Act->World->Prop} (l n:Nat) (hnd:∀ (i:Nat) (o:Oper),ops[i]?=some o->∀ c,o.op ≠ .defer c) (hQ:¬ LetsOut Q):∀ (fuel:Nat) (listed:Array Bool) (a:Act) (w:World),wpAny P md ops Q fuel listed a w->wpAnyIn (Fence.wide.inRound l) n P md ops Q fuel listed a w
 | 0,_,_,_,h=>h
 | fuel+1,listed,a,w,h=>⟨h.1,fun i hi=>wpOpIn_mono (fun a' w' h'=>wpAny_round l n hnd hQ fuel _ a' w' h') (wpOp_round l n hnd hQ (h.2 i hi))⟩
def noDefer (ops:Array Oper):Bool:=ops.all fun o=>match o.op with | .defer _=>false | _=>true
theorem noDefer_spec {ops:Array Oper} (h:noDefer ops=true):∀ (i:Nat) (o:Oper),ops[i]?=some o->∀ c,o.op ≠ .defer c:=by
 intro i o ho c e;unfold noDefer at h;rw [Array.all_eq_true] at h;obtain ⟨hi,rfl⟩:=Array.getElem?_eq_some_iff.1 ho;have:=h i hi;rw [e] at this;cases this
section
variable {P:Program} {ops:Array Oper} {Q:Exit->Act->World->Prop} {md:Region.Mode} {S:World->Prop} {E F:List Nat}
def afters (md:Region.Mode) (ops:Array Oper) (j:Nat):List Nat:=match ops[j]? with
 | none=>[]
 | some o=>(o.after.toList.filter (Region.binds md)).map (·.on)
def anc (md:Region.Mode) (ops:Array Oper):Nat->Nat->List Nat
 | 0,_=>[]
 | f+1,j=>(afters md ops j).flatMap fun i=>i :: anc md ops f i
def Closed (md:Region.Mode) (ops:Array Oper) (listed:Array Bool):Prop:=∀ j,listed.getD j false=true->∀ i ∈ afters md ops j,listed.getD i false=true
theorem closed_start (n:Nat):Closed md ops (Array.replicate n false):=fun j h=>by
 simp only [Array.getD_eq_getD_getElem?,Array.getElem?_replicate] at h;split at h <;> cases h
theorem ready_afters {listed:Array Bool} {j:Nat} (hj:j ∈ Region.ready md ops listed):∀ i ∈ afters md ops j,listed.getD i false=true:=by
 obtain ⟨_,o,ho,hall⟩:=mem_ready.1 hj;intro i hi;unfold afters at hi;rw [ho] at hi;obtain ⟨e,he,rfl⟩:=List.mem_map.1 hi;obtain ⟨h1,h2⟩:=List.mem_filter.1 he;exact hall e (Array.mem_toList_iff.1 h1) h2
theorem Closed.anc {listed:Array Bool} (h:Closed md ops listed):∀ (f j:Nat),(∀ i ∈ afters md ops j,listed.getD i false=true)->∀ i ∈ Go.Proofs.YtnpdhidliaahbaaGreat.anc md ops f j,listed.getD i false=true
 | 0,_,_,i,hi=>by cases hi
 | f+1,j,hj,i,hi=>by
  obtain ⟨k,hk,hi⟩:=List.mem_flatMap.1 hi;rcases List.mem_cons.1 hi with rfl | hi
  ·exact hj _ hk
  ·exact h.anc f k (h k (hj k hk)) i hi
theorem Closed.step {listed:Array Bool} (h:Closed md ops listed) {j:Nat} (hj:j ∈ Region.ready md ops listed):Closed md ops (listed.setIfInBounds j true):=by
 have up:∀ i,listed.getD i false=true->(listed.setIfInBounds j true).getD i false=true:=fun i hi=>by
  simp only [Array.getD_eq_getD_getElem?,Array.getElem?_setIfInBounds] at hi ⊢;split
  ·split
   ·rfl
   rename_i h1 h2;rw [h1] at h2;rw [Array.getElem?_eq_none (by omega)] at hi;cases hi
  exact hi
 intro k hk i hi;by_cases e:k=j
 ·subst e;exact up i (ready_afters hj i hi)
 ·refine up i (h k ?_ i hi);simp only [Array.getD_eq_getD_getElem?,Array.getElem?_setIfInBounds,if_neg (Ne.symm e)] at hk ⊢;exact hk
def wpAnyE (P:Program) (md:Region.Mode) (ops:Array Oper) (Q:Exit->Act->World->Prop) (S:World->Prop) (E:List Nat):Nat->Array Bool->Act->World->Prop
 | 0,listed,a,w=>Region.ready md ops listed = []/\Q .normal a w
 | fuel+1,listed,a,w =>
  (Region.ready md ops listed = []->Q .normal a w) /\
  ∀ i ∈ Region.ready md ops listed,wpOp P ops Q i (fun a' w'=>(E.contains i=false->S w')/\wpAnyE P md ops Q S E fuel (listed.setIfInBounds i true) a' w') a w
theorem wpAny_of_E:∀ (fuel:Nat) (listed:Array Bool) (a:Act) (w:World),wpAnyE P md ops Q S E fuel listed a w->wpAny P md ops Q fuel listed a w
 | 0,_,_,_,h=>h
 | fuel+1,_,_,_,h=>⟨h.1,fun i hi=>wpOp_mono (fun a' w' h'=>wpAny_of_E fuel _ a' w' h'.2) (h.2 i hi)⟩
theorem wpAnyE_first {i:Nat} {oi:Oper} {v:Value} (hE:∀ j ∈ E,i ∈ anc md ops ops.size j) (hi:ops[i]?=some oi) (hsel:∀ (j:Nat) (o:Oper) cs b,ops[j]?=some o->o.op ≠ .select cs b)
  (hQ:∀ c a w,Q (.panic c) (a.put oi.dst v) w->Q (.panic c) a w) :
  ∀ (fuel:Nat) (listed:Array Bool) (a:Act) (w:World),Closed md ops listed ->
   (∀ j oj,ops[j]?=some oj->j ≠ i->listed.getD j true=false->(∀ e ∈ oj.after,Region.binds md e=true->e.on ≠ i)->oi.apart ops oj=true) ->
   i ∈ Region.ready md ops listed->YieldsIf P ops S oi v a->S w ->
   wpAnyE P md ops Q S E fuel (listed.setIfInBounds i true) (a.put oi.dst v) w->wpAnyE P md ops Q S E (fuel+1) listed a w:=by
 intro fuel
 induction fuel with
 | zero =>
  intro listed a w hC hfree hr hy hS H;refine ⟨fun h=>absurd (h ▸ hr) (List.not_mem_nil),fun j hj=>?_⟩;by_cases hji:j=i
  ·subst hji;exact hy.wpOp hi hS ⟨fun _=>hS,H⟩
  have h0:=ready_mono hj hji;rw [H.1] at h0;exact absurd h0 (List.not_mem_nil)
 | succ fuel ih =>
  intro listed a w hC hfree hr hy hS H;refine ⟨fun h=>absurd (h ▸ hr) (List.not_mem_nil),fun j hj=>?_⟩;by_cases hji:j=i
  ·subst hji;exact hy.wpOp hi hS ⟨fun _=>hS,H⟩
  have hun:=(mem_ready.1 hj).1;obtain ⟨_,oj,hoj,hall⟩:=mem_ready.1 hj;have hiun:=(mem_ready.1 hr).1;have hnl:listed.getD i false ≠ true:=fun k=>by
   simp only [Array.getD_eq_getD_getElem?] at k hiun;cases e:listed[i]? with
   | none=>rw [e] at k;cases k
   | some b=>rw [e] at k hiun;simp at k hiun;rw [k] at hiun;cases hiun
  have hjE:E.contains j=false:=by
   cases e:E.contains j
   ·rfl
   exact absurd (hC.anc ops.size j (ready_afters hj) i (hE j (by simpa using e))) hnl
  have hwait:∀ e ∈ oj.after,Region.binds md e=true->e.on ≠ i:=fun e he hb heq=>hnl (by have:=hall e he hb;rw [heq] at this;exact this);have hstep:=wpOp_putIf hoj (hfree j oj hoj hji hun hwait) (fun cs b=>hsel i oi cs b hi) (fun cs b=>hsel j oj cs b hoj) hQ hy (H.2 j (ready_mono hj hji));have hri:=ready_mono hr (Ne.symm hji);refine wpOp_mono (fun a' w' h3=>?_) hstep;have hS':S w':=h3.2.1 hjE;refine ⟨fun _=>hS',ih _ a' w' (hC.step hj) (fun k ok hk hki hunk hno=>hfree k ok hk hki ?_ hno) hri h3.1 hS' ?_⟩
  ·by_cases hjk:j=k
   ·subst hjk;exact hun
   rw [getD_set_ne true hjk] at hunk;exact hunk
  rw [Array.setIfInBounds_comm _ _ hji];exact h3.2.2
theorem wpAnyE_take {i:Nat} {oi:Oper} {v:Value} {fuel:Nat} {listed:Array Bool} {a:Act} {w:World} (hi:ops[i]?=some oi)
  (hs:Region.noSelect ops=true) (hf:Region.free md ops listed i=true) (hr:(Region.ready md ops listed).contains i=true) (hE:(E.all fun j=>(anc md ops ops.size j).contains i)=true) (hC:Closed md ops listed)
  (hQ:∀ c a w,Q (.panic c) (a.put oi.dst v) w->Q (.panic c) a w) (hy:YieldsIf P ops S oi v a) (hS:S w)
  (h:Closed md ops (listed.setIfInBounds i true)->wpAnyE P md ops Q S E fuel (listed.setIfInBounds i true) (a.put oi.dst v) w):wpAnyE P md ops Q S E (fuel+1) listed a w:=
 wpAnyE_first (fun j hj=>by simpa using List.all_eq_true.1 hE j hj) hi (Region.noSelect_spec hs) hQ fuel listed a w hC (Region.free_spec hi hf) (by simpa using hr) hy hS (h (hC.step (by simpa using hr)))
def NextE (P:Program) (md:Region.Mode) (ops:Array Oper) (Q:Exit->Act->World->Prop) (S:World->Prop) (E:List Nat) (fuel:Nat) (listed:Array Bool) (a:Act) (w:World) (rs:List Nat):Prop:=
 ∀ i ∈ rs,wpOp P ops Q i (fun a' w'=>(E.contains i=false->S w')/\wpAnyE P md ops Q S E fuel (listed.setIfInBounds i true) a' w') a w
theorem NextE.nil {fuel:Nat} {listed:Array Bool} {a:Act} {w:World}:NextE P md ops Q S E fuel listed a w []:=fun _ h=>by cases h
theorem NextE.cons {fuel:Nat} {listed:Array Bool} {a:Act} {w:World} {i:Nat} {o:Oper} {rs:List Nat} (ho:ops[i]?=some o)
  (h:∀ K':Act->World->Prop,Shut (∀ a w,(E.contains i=false->S w)->((E.contains i=false->S w)->wpAnyE P md ops Q S E fuel (listed.setIfInBounds i true) a w)->K' a w)->if Region.wanted o (yielded ops a.tmps)=true then Oper.wp P o a w K' Q else K' (a.put o.dst undef) w)
  (hs:NextE P md ops Q S E fuel listed a w rs):NextE P md ops Q S E fuel listed a w (i :: rs):=fun j hj=>by
 rcases List.mem_cons.1 hj with rfl | hj
 ·exact wpOp_step ho (fun K' hK=>h K' (fun a w hS hW=>hK a w ⟨hS,hW hS⟩))
 ·exact hs j hj
theorem wpAnyE_ready {rs:List Nat} {fuel:Nat} {listed:Array Bool} {a:Act} {w:World} (hr:Region.ready md ops listed=rs) (hne:rs ≠ [])
  (h:NextE P md ops Q S E fuel listed a w rs):wpAnyE P md ops Q S E (fuel+1) listed a w:=⟨fun h0=>absurd (hr ▸ h0) hne,hr ▸ h⟩
theorem rd1 (i : Nat) {o : Oper} {fuel : Nat} {listed : Array Bool} {a : Act} {w : World} (h : ∀ K' : Act -> World -> Prop, Shut (∀ a w, (E.contains i = false -> S w) -> ((E.contains i = false -> S w) -> wpAnyE P md ops Q S E fuel (listed.setIfInBounds i true) a w) -> K' a w) -> if Region.wanted o (yielded ops a.tmps) = true then Oper.wp P o a w K' Q else K' (a.put o.dst undef) w) (hr : Region.ready md ops listed = [i] := by kernel_rfl) (ho : ops[i]? = some o := by exact rfl) : wpAnyE P md ops Q S E (fuel + 1) listed a w :=
  wpAnyE_ready hr (by simp) (NextE.cons ho h NextE.nil)
theorem dn {i fuel : Nat} {listed : Array Bool} {a : Act} {w : World} {K' : Act -> World -> Prop} (hK : Shut (∀ a w, (E.contains i = false -> S w) -> ((E.contains i = false -> S w) -> wpAnyE P md ops Q S E fuel (listed.setIfInBounds i true) a w) -> K' a w)) (hC : Closed md ops listed) (p : S w) (h : S w -> Closed md ops (listed.setIfInBounds i true) -> wpAnyE P md ops Q S E fuel (listed.setIfInBounds i true) a w) (hE : E.contains i = false := by exact rfl) (hj : i ∈ Region.ready md ops listed := by decide +kernel) : K' a w := hK.out a w (fun _ => p) (fun q => h (q hE) (hC.step hj))
theorem tk1 {o0 : Oper} {fuel : Nat} {listed : Array Bool} {a : Act} {w : World} (hC : Closed md ops listed) (hS : S w) (i0 : Nat) (v0 : Value) (hk : Closed md ops (listed.setIfInBounds i0 true) -> wpAnyE P md ops Q S E fuel (listed.setIfInBounds i0 true) (a.put o0.dst v0) w) (h0 : ops[i0]? = some o0 := by exact rfl) (hb : ((Region.noSelect ops && (Region.free md ops listed i0 && ((Region.ready md ops listed).contains i0 && (E.all fun j => (anc md ops ops.size j).contains i0))))) = true := by kernel_rfl) (hw0 : Region.wanted o0 (yielded ops a.tmps) = true := by kernel_rfl) (hy0 : ∀ w, S w -> (execOp a.eval o0).run P w = .ok (.value v0) w := by intro w hSw; (try dsimp only at hSw); (try simp only [List.getElem_toArray, List.getElem_cons_succ, List.getElem_cons_zero, Act.put, List.setIfInBounds_toArray, List.set_cons_zero, List.set_cons_succ]); go_simp) (hQ0 : ∀ c a w, Q (.panic c) (a.put o0.dst v0) w -> Q (.panic c) a w := by exact fun _ _ _ h => h) : wpAnyE P md ops Q S E (fuel + 1) listed a w := by
  simp only [Bool.and_eq_true] at hb
  refine wpAnyE_take h0 hb.1 hb.2.1 hb.2.2.1 hb.2.2.2 hC hQ0 (.inl ⟨hw0, hy0⟩) hS (fun hC => ?_)
  exact hk hC
theorem tk2 {o0 o1 : Oper} {fuel : Nat} {listed : Array Bool} {a : Act} {w : World} (hC : Closed md ops listed) (hS : S w) (i0 : Nat) (v0 : Value) (i1 : Nat) (v1 : Value) (hk : Closed md ops ((listed.setIfInBounds i0 true).setIfInBounds i1 true) -> wpAnyE P md ops Q S E fuel ((listed.setIfInBounds i0 true).setIfInBounds i1 true) ((a.put o0.dst v0).put o1.dst v1) w) (h0 : ops[i0]? = some o0 := by exact rfl) (h1 : ops[i1]? = some o1 := by exact rfl) (hb : ((Region.noSelect ops && (Region.free md ops listed i0 && ((Region.ready md ops listed).contains i0 && (E.all fun j => (anc md ops ops.size j).contains i0)))) && (Region.noSelect ops && (Region.free md ops (listed.setIfInBounds i0 true) i1 && ((Region.ready md ops (listed.setIfInBounds i0 true)).contains i1 && (E.all fun j => (anc md ops ops.size j).contains i1))))) = true := by kernel_rfl) (hw0 : Region.wanted o0 (yielded ops a.tmps) = true := by kernel_rfl) (hw1 : Region.wanted o1 (yielded ops (a.put o0.dst v0).tmps) = true := by kernel_rfl) (hy0 : ∀ w, S w -> (execOp a.eval o0).run P w = .ok (.value v0) w := by intro w hSw; (try dsimp only at hSw); (try simp only [List.getElem_toArray, List.getElem_cons_succ, List.getElem_cons_zero, Act.put, List.setIfInBounds_toArray, List.set_cons_zero, List.set_cons_succ]); go_simp) (hy1 : ∀ w, S w -> (execOp (a.put o0.dst v0).eval o1).run P w = .ok (.value v1) w := by intro w hSw; (try dsimp only at hSw); (try simp only [List.getElem_toArray, List.getElem_cons_succ, List.getElem_cons_zero, Act.put, List.setIfInBounds_toArray, List.set_cons_zero, List.set_cons_succ]); go_simp) (hQ0 : ∀ c a w, Q (.panic c) (a.put o0.dst v0) w -> Q (.panic c) a w := by exact fun _ _ _ h => h) (hQ1 : ∀ c a w, Q (.panic c) (a.put o1.dst v1) w -> Q (.panic c) a w := by exact fun _ _ _ h => h) : wpAnyE P md ops Q S E (fuel + 1 + 1) listed a w := by
  simp only [Bool.and_eq_true] at hb
  refine wpAnyE_take h0 hb.1.1 hb.1.2.1 hb.1.2.2.1 hb.1.2.2.2 hC hQ0 (.inl ⟨hw0, hy0⟩) hS (fun hC => ?_)
  refine wpAnyE_take h1 hb.2.1 hb.2.2.1 hb.2.2.2.1 hb.2.2.2.2 hC hQ1 (.inl ⟨hw1, hy1⟩) hS (fun hC => ?_)
  exact hk hC
theorem tk3 {o0 o1 o2 : Oper} {fuel : Nat} {listed : Array Bool} {a : Act} {w : World} (hC : Closed md ops listed) (hS : S w) (i0 : Nat) (v0 : Value) (i1 : Nat) (v1 : Value) (i2 : Nat) (v2 : Value) (hk : Closed md ops (((listed.setIfInBounds i0 true).setIfInBounds i1 true).setIfInBounds i2 true) -> wpAnyE P md ops Q S E fuel (((listed.setIfInBounds i0 true).setIfInBounds i1 true).setIfInBounds i2 true) (((a.put o0.dst v0).put o1.dst v1).put o2.dst v2) w) (h0 : ops[i0]? = some o0 := by exact rfl) (h1 : ops[i1]? = some o1 := by exact rfl) (h2 : ops[i2]? = some o2 := by exact rfl) (hb : ((Region.noSelect ops && (Region.free md ops listed i0 && ((Region.ready md ops listed).contains i0 && (E.all fun j => (anc md ops ops.size j).contains i0)))) && (Region.noSelect ops && (Region.free md ops (listed.setIfInBounds i0 true) i1 && ((Region.ready md ops (listed.setIfInBounds i0 true)).contains i1 && (E.all fun j => (anc md ops ops.size j).contains i1)))) && (Region.noSelect ops && (Region.free md ops ((listed.setIfInBounds i0 true).setIfInBounds i1 true) i2 && ((Region.ready md ops ((listed.setIfInBounds i0 true).setIfInBounds i1 true)).contains i2 && (E.all fun j => (anc md ops ops.size j).contains i2))))) = true := by kernel_rfl) (hw0 : Region.wanted o0 (yielded ops a.tmps) = true := by kernel_rfl) (hw1 : Region.wanted o1 (yielded ops (a.put o0.dst v0).tmps) = true := by kernel_rfl) (hw2 : Region.wanted o2 (yielded ops ((a.put o0.dst v0).put o1.dst v1).tmps) = true := by kernel_rfl) (hy0 : ∀ w, S w -> (execOp a.eval o0).run P w = .ok (.value v0) w := by intro w hSw; (try dsimp only at hSw); (try simp only [List.getElem_toArray, List.getElem_cons_succ, List.getElem_cons_zero, Act.put, List.setIfInBounds_toArray, List.set_cons_zero, List.set_cons_succ]); go_simp) (hy1 : ∀ w, S w -> (execOp (a.put o0.dst v0).eval o1).run P w = .ok (.value v1) w := by intro w hSw; (try dsimp only at hSw); (try simp only [List.getElem_toArray, List.getElem_cons_succ, List.getElem_cons_zero, Act.put, List.setIfInBounds_toArray, List.set_cons_zero, List.set_cons_succ]); go_simp) (hy2 : ∀ w, S w -> (execOp ((a.put o0.dst v0).put o1.dst v1).eval o2).run P w = .ok (.value v2) w := by intro w hSw; (try dsimp only at hSw); (try simp only [List.getElem_toArray, List.getElem_cons_succ, List.getElem_cons_zero, Act.put, List.setIfInBounds_toArray, List.set_cons_zero, List.set_cons_succ]); go_simp) (hQ0 : ∀ c a w, Q (.panic c) (a.put o0.dst v0) w -> Q (.panic c) a w := by exact fun _ _ _ h => h) (hQ1 : ∀ c a w, Q (.panic c) (a.put o1.dst v1) w -> Q (.panic c) a w := by exact fun _ _ _ h => h) (hQ2 : ∀ c a w, Q (.panic c) (a.put o2.dst v2) w -> Q (.panic c) a w := by exact fun _ _ _ h => h) : wpAnyE P md ops Q S E (fuel + 1 + 1 + 1) listed a w := by
  simp only [Bool.and_eq_true] at hb
  refine wpAnyE_take h0 hb.1.1.1 hb.1.1.2.1 hb.1.1.2.2.1 hb.1.1.2.2.2 hC hQ0 (.inl ⟨hw0, hy0⟩) hS (fun hC => ?_)
  refine wpAnyE_take h1 hb.1.2.1 hb.1.2.2.1 hb.1.2.2.2.1 hb.1.2.2.2.2 hC hQ1 (.inl ⟨hw1, hy1⟩) hS (fun hC => ?_)
  refine wpAnyE_take h2 hb.2.1 hb.2.2.1 hb.2.2.2.1 hb.2.2.2.2 hC hQ2 (.inl ⟨hw2, hy2⟩) hS (fun hC => ?_)
  exact hk hC
theorem tk4 {o0 o1 o2 o3 : Oper} {fuel : Nat} {listed : Array Bool} {a : Act} {w : World} (hC : Closed md ops listed) (hS : S w) (i0 : Nat) (v0 : Value) (i1 : Nat) (v1 : Value) (i2 : Nat) (v2 : Value) (i3 : Nat) (v3 : Value) (hk : Closed md ops ((((listed.setIfInBounds i0 true).setIfInBounds i1 true).setIfInBounds i2 true).setIfInBounds i3 true) -> wpAnyE P md ops Q S E fuel ((((listed.setIfInBounds i0 true).setIfInBounds i1 true).setIfInBounds i2 true).setIfInBounds i3 true) ((((a.put o0.dst v0).put o1.dst v1).put o2.dst v2).put o3.dst v3) w) (h0 : ops[i0]? = some o0 := by exact rfl) (h1 : ops[i1]? = some o1 := by exact rfl) (h2 : ops[i2]? = some o2 := by exact rfl) (h3 : ops[i3]? = some o3 := by exact rfl) (hb : ((Region.noSelect ops && (Region.free md ops listed i0 && ((Region.ready md ops listed).contains i0 && (E.all fun j => (anc md ops ops.size j).contains i0)))) && (Region.noSelect ops && (Region.free md ops (listed.setIfInBounds i0 true) i1 && ((Region.ready md ops (listed.setIfInBounds i0 true)).contains i1 && (E.all fun j => (anc md ops ops.size j).contains i1)))) && (Region.noSelect ops && (Region.free md ops ((listed.setIfInBounds i0 true).setIfInBounds i1 true) i2 && ((Region.ready md ops ((listed.setIfInBounds i0 true).setIfInBounds i1 true)).contains i2 && (E.all fun j => (anc md ops ops.size j).contains i2)))) && (Region.noSelect ops && (Region.free md ops (((listed.setIfInBounds i0 true).setIfInBounds i1 true).setIfInBounds i2 true) i3 && ((Region.ready md ops (((listed.setIfInBounds i0 true).setIfInBounds i1 true).setIfInBounds i2 true)).contains i3 && (E.all fun j => (anc md ops ops.size j).contains i3))))) = true := by kernel_rfl) (hw0 : Region.wanted o0 (yielded ops a.tmps) = true := by kernel_rfl) (hw1 : Region.wanted o1 (yielded ops (a.put o0.dst v0).tmps) = true := by kernel_rfl) (hw2 : Region.wanted o2 (yielded ops ((a.put o0.dst v0).put o1.dst v1).tmps) = true := by kernel_rfl) (hw3 : Region.wanted o3 (yielded ops (((a.put o0.dst v0).put o1.dst v1).put o2.dst v2).tmps) = true := by kernel_rfl) (hy0 : ∀ w, S w -> (execOp a.eval o0).run P w = .ok (.value v0) w := by intro w hSw; (try dsimp only at hSw); (try simp only [List.getElem_toArray, List.getElem_cons_succ, List.getElem_cons_zero, Act.put, List.setIfInBounds_toArray, List.set_cons_zero, List.set_cons_succ]); go_simp) (hy1 : ∀ w, S w -> (execOp (a.put o0.dst v0).eval o1).run P w = .ok (.value v1) w := by intro w hSw; (try dsimp only at hSw); (try simp only [List.getElem_toArray, List.getElem_cons_succ, List.getElem_cons_zero, Act.put, List.setIfInBounds_toArray, List.set_cons_zero, List.set_cons_succ]); go_simp) (hy2 : ∀ w, S w -> (execOp ((a.put o0.dst v0).put o1.dst v1).eval o2).run P w = .ok (.value v2) w := by intro w hSw; (try dsimp only at hSw); (try simp only [List.getElem_toArray, List.getElem_cons_succ, List.getElem_cons_zero, Act.put, List.setIfInBounds_toArray, List.set_cons_zero, List.set_cons_succ]); go_simp) (hy3 : ∀ w, S w -> (execOp (((a.put o0.dst v0).put o1.dst v1).put o2.dst v2).eval o3).run P w = .ok (.value v3) w := by intro w hSw; (try dsimp only at hSw); (try simp only [List.getElem_toArray, List.getElem_cons_succ, List.getElem_cons_zero, Act.put, List.setIfInBounds_toArray, List.set_cons_zero, List.set_cons_succ]); go_simp) (hQ0 : ∀ c a w, Q (.panic c) (a.put o0.dst v0) w -> Q (.panic c) a w := by exact fun _ _ _ h => h) (hQ1 : ∀ c a w, Q (.panic c) (a.put o1.dst v1) w -> Q (.panic c) a w := by exact fun _ _ _ h => h) (hQ2 : ∀ c a w, Q (.panic c) (a.put o2.dst v2) w -> Q (.panic c) a w := by exact fun _ _ _ h => h) (hQ3 : ∀ c a w, Q (.panic c) (a.put o3.dst v3) w -> Q (.panic c) a w := by exact fun _ _ _ h => h) : wpAnyE P md ops Q S E (fuel + 1 + 1 + 1 + 1) listed a w := by
  simp only [Bool.and_eq_true] at hb
  refine wpAnyE_take h0 hb.1.1.1.1 hb.1.1.1.2.1 hb.1.1.1.2.2.1 hb.1.1.1.2.2.2 hC hQ0 (.inl ⟨hw0, hy0⟩) hS (fun hC => ?_)
  refine wpAnyE_take h1 hb.1.1.2.1 hb.1.1.2.2.1 hb.1.1.2.2.2.1 hb.1.1.2.2.2.2 hC hQ1 (.inl ⟨hw1, hy1⟩) hS (fun hC => ?_)
  refine wpAnyE_take h2 hb.1.2.1 hb.1.2.2.1 hb.1.2.2.2.1 hb.1.2.2.2.2 hC hQ2 (.inl ⟨hw2, hy2⟩) hS (fun hC => ?_)
  refine wpAnyE_take h3 hb.2.1 hb.2.2.1 hb.2.2.2.1 hb.2.2.2.2 hC hQ3 (.inl ⟨hw3, hy3⟩) hS (fun hC => ?_)
  exact hk hC
theorem tk5 {o0 o1 o2 o3 o4 : Oper} {fuel : Nat} {listed : Array Bool} {a : Act} {w : World} (hC : Closed md ops listed) (hS : S w) (i0 : Nat) (v0 : Value) (i1 : Nat) (v1 : Value) (i2 : Nat) (v2 : Value) (i3 : Nat) (v3 : Value) (i4 : Nat) (v4 : Value) (hk : Closed md ops (((((listed.setIfInBounds i0 true).setIfInBounds i1 true).setIfInBounds i2 true).setIfInBounds i3 true).setIfInBounds i4 true) -> wpAnyE P md ops Q S E fuel (((((listed.setIfInBounds i0 true).setIfInBounds i1 true).setIfInBounds i2 true).setIfInBounds i3 true).setIfInBounds i4 true) (((((a.put o0.dst v0).put o1.dst v1).put o2.dst v2).put o3.dst v3).put o4.dst v4) w) (h0 : ops[i0]? = some o0 := by exact rfl) (h1 : ops[i1]? = some o1 := by exact rfl) (h2 : ops[i2]? = some o2 := by exact rfl) (h3 : ops[i3]? = some o3 := by exact rfl) (h4 : ops[i4]? = some o4 := by exact rfl) (hb : ((Region.noSelect ops && (Region.free md ops listed i0 && ((Region.ready md ops listed).contains i0 && (E.all fun j => (anc md ops ops.size j).contains i0)))) && (Region.noSelect ops && (Region.free md ops (listed.setIfInBounds i0 true) i1 && ((Region.ready md ops (listed.setIfInBounds i0 true)).contains i1 && (E.all fun j => (anc md ops ops.size j).contains i1)))) && (Region.noSelect ops && (Region.free md ops ((listed.setIfInBounds i0 true).setIfInBounds i1 true) i2 && ((Region.ready md ops ((listed.setIfInBounds i0 true).setIfInBounds i1 true)).contains i2 && (E.all fun j => (anc md ops ops.size j).contains i2)))) && (Region.noSelect ops && (Region.free md ops (((listed.setIfInBounds i0 true).setIfInBounds i1 true).setIfInBounds i2 true) i3 && ((Region.ready md ops (((listed.setIfInBounds i0 true).setIfInBounds i1 true).setIfInBounds i2 true)).contains i3 && (E.all fun j => (anc md ops ops.size j).contains i3)))) && (Region.noSelect ops && (Region.free md ops ((((listed.setIfInBounds i0 true).setIfInBounds i1 true).setIfInBounds i2 true).setIfInBounds i3 true) i4 && ((Region.ready md ops ((((listed.setIfInBounds i0 true).setIfInBounds i1 true).setIfInBounds i2 true).setIfInBounds i3 true)).contains i4 && (E.all fun j => (anc md ops ops.size j).contains i4))))) = true := by kernel_rfl) (hw0 : Region.wanted o0 (yielded ops a.tmps) = true := by kernel_rfl) (hw1 : Region.wanted o1 (yielded ops (a.put o0.dst v0).tmps) = true := by kernel_rfl) (hw2 : Region.wanted o2 (yielded ops ((a.put o0.dst v0).put o1.dst v1).tmps) = true := by kernel_rfl) (hw3 : Region.wanted o3 (yielded ops (((a.put o0.dst v0).put o1.dst v1).put o2.dst v2).tmps) = true := by kernel_rfl) (hw4 : Region.wanted o4 (yielded ops ((((a.put o0.dst v0).put o1.dst v1).put o2.dst v2).put o3.dst v3).tmps) = true := by kernel_rfl) (hy0 : ∀ w, S w -> (execOp a.eval o0).run P w = .ok (.value v0) w := by intro w hSw; (try dsimp only at hSw); (try simp only [List.getElem_toArray, List.getElem_cons_succ, List.getElem_cons_zero, Act.put, List.setIfInBounds_toArray, List.set_cons_zero, List.set_cons_succ]); go_simp) (hy1 : ∀ w, S w -> (execOp (a.put o0.dst v0).eval o1).run P w = .ok (.value v1) w := by intro w hSw; (try dsimp only at hSw); (try simp only [List.getElem_toArray, List.getElem_cons_succ, List.getElem_cons_zero, Act.put, List.setIfInBounds_toArray, List.set_cons_zero, List.set_cons_succ]); go_simp) (hy2 : ∀ w, S w -> (execOp ((a.put o0.dst v0).put o1.dst v1).eval o2).run P w = .ok (.value v2) w := by intro w hSw; (try dsimp only at hSw); (try simp only [List.getElem_toArray, List.getElem_cons_succ, List.getElem_cons_zero, Act.put, List.setIfInBounds_toArray, List.set_cons_zero, List.set_cons_succ]); go_simp) (hy3 : ∀ w, S w -> (execOp (((a.put o0.dst v0).put o1.dst v1).put o2.dst v2).eval o3).run P w = .ok (.value v3) w := by intro w hSw; (try dsimp only at hSw); (try simp only [List.getElem_toArray, List.getElem_cons_succ, List.getElem_cons_zero, Act.put, List.setIfInBounds_toArray, List.set_cons_zero, List.set_cons_succ]); go_simp) (hy4 : ∀ w, S w -> (execOp ((((a.put o0.dst v0).put o1.dst v1).put o2.dst v2).put o3.dst v3).eval o4).run P w = .ok (.value v4) w := by intro w hSw; (try dsimp only at hSw); (try simp only [List.getElem_toArray, List.getElem_cons_succ, List.getElem_cons_zero, Act.put, List.setIfInBounds_toArray, List.set_cons_zero, List.set_cons_succ]); go_simp) (hQ0 : ∀ c a w, Q (.panic c) (a.put o0.dst v0) w -> Q (.panic c) a w := by exact fun _ _ _ h => h) (hQ1 : ∀ c a w, Q (.panic c) (a.put o1.dst v1) w -> Q (.panic c) a w := by exact fun _ _ _ h => h) (hQ2 : ∀ c a w, Q (.panic c) (a.put o2.dst v2) w -> Q (.panic c) a w := by exact fun _ _ _ h => h) (hQ3 : ∀ c a w, Q (.panic c) (a.put o3.dst v3) w -> Q (.panic c) a w := by exact fun _ _ _ h => h) (hQ4 : ∀ c a w, Q (.panic c) (a.put o4.dst v4) w -> Q (.panic c) a w := by exact fun _ _ _ h => h) : wpAnyE P md ops Q S E (fuel + 1 + 1 + 1 + 1 + 1) listed a w := by
  simp only [Bool.and_eq_true] at hb
  refine wpAnyE_take h0 hb.1.1.1.1.1 hb.1.1.1.1.2.1 hb.1.1.1.1.2.2.1 hb.1.1.1.1.2.2.2 hC hQ0 (.inl ⟨hw0, hy0⟩) hS (fun hC => ?_)
  refine wpAnyE_take h1 hb.1.1.1.2.1 hb.1.1.1.2.2.1 hb.1.1.1.2.2.2.1 hb.1.1.1.2.2.2.2 hC hQ1 (.inl ⟨hw1, hy1⟩) hS (fun hC => ?_)
  refine wpAnyE_take h2 hb.1.1.2.1 hb.1.1.2.2.1 hb.1.1.2.2.2.1 hb.1.1.2.2.2.2 hC hQ2 (.inl ⟨hw2, hy2⟩) hS (fun hC => ?_)
  refine wpAnyE_take h3 hb.1.2.1 hb.1.2.2.1 hb.1.2.2.2.1 hb.1.2.2.2.2 hC hQ3 (.inl ⟨hw3, hy3⟩) hS (fun hC => ?_)
  refine wpAnyE_take h4 hb.2.1 hb.2.2.1 hb.2.2.2.1 hb.2.2.2.2 hC hQ4 (.inl ⟨hw4, hy4⟩) hS (fun hC => ?_)
  exact hk hC
theorem tk6 {o0 o1 o2 o3 o4 o5 : Oper} {fuel : Nat} {listed : Array Bool} {a : Act} {w : World} (hC : Closed md ops listed) (hS : S w) (i0 : Nat) (v0 : Value) (i1 : Nat) (v1 : Value) (i2 : Nat) (v2 : Value) (i3 : Nat) (v3 : Value) (i4 : Nat) (v4 : Value) (i5 : Nat) (v5 : Value) (hk : Closed md ops ((((((listed.setIfInBounds i0 true).setIfInBounds i1 true).setIfInBounds i2 true).setIfInBounds i3 true).setIfInBounds i4 true).setIfInBounds i5 true) -> wpAnyE P md ops Q S E fuel ((((((listed.setIfInBounds i0 true).setIfInBounds i1 true).setIfInBounds i2 true).setIfInBounds i3 true).setIfInBounds i4 true).setIfInBounds i5 true) ((((((a.put o0.dst v0).put o1.dst v1).put o2.dst v2).put o3.dst v3).put o4.dst v4).put o5.dst v5) w) (h0 : ops[i0]? = some o0 := by exact rfl) (h1 : ops[i1]? = some o1 := by exact rfl) (h2 : ops[i2]? = some o2 := by exact rfl) (h3 : ops[i3]? = some o3 := by exact rfl) (h4 : ops[i4]? = some o4 := by exact rfl) (h5 : ops[i5]? = some o5 := by exact rfl) (hb : ((Region.noSelect ops && (Region.free md ops listed i0 && ((Region.ready md ops listed).contains i0 && (E.all fun j => (anc md ops ops.size j).contains i0)))) && (Region.noSelect ops && (Region.free md ops (listed.setIfInBounds i0 true) i1 && ((Region.ready md ops (listed.setIfInBounds i0 true)).contains i1 && (E.all fun j => (anc md ops ops.size j).contains i1)))) && (Region.noSelect ops && (Region.free md ops ((listed.setIfInBounds i0 true).setIfInBounds i1 true) i2 && ((Region.ready md ops ((listed.setIfInBounds i0 true).setIfInBounds i1 true)).contains i2 && (E.all fun j => (anc md ops ops.size j).contains i2)))) && (Region.noSelect ops && (Region.free md ops (((listed.setIfInBounds i0 true).setIfInBounds i1 true).setIfInBounds i2 true) i3 && ((Region.ready md ops (((listed.setIfInBounds i0 true).setIfInBounds i1 true).setIfInBounds i2 true)).contains i3 && (E.all fun j => (anc md ops ops.size j).contains i3)))) && (Region.noSelect ops && (Region.free md ops ((((listed.setIfInBounds i0 true).setIfInBounds i1 true).setIfInBounds i2 true).setIfInBounds i3 true) i4 && ((Region.ready md ops ((((listed.setIfInBounds i0 true).setIfInBounds i1 true).setIfInBounds i2 true).setIfInBounds i3 true)).contains i4 && (E.all fun j => (anc md ops ops.size j).contains i4)))) && (Region.noSelect ops && (Region.free md ops (((((listed.setIfInBounds i0 true).setIfInBounds i1 true).setIfInBounds i2 true).setIfInBounds i3 true).setIfInBounds i4 true) i5 && ((Region.ready md ops (((((listed.setIfInBounds i0 true).setIfInBounds i1 true).setIfInBounds i2 true).setIfInBounds i3 true).setIfInBounds i4 true)).contains i5 && (E.all fun j => (anc md ops ops.size j).contains i5))))) = true := by kernel_rfl) (hw0 : Region.wanted o0 (yielded ops a.tmps) = true := by kernel_rfl) (hw1 : Region.wanted o1 (yielded ops (a.put o0.dst v0).tmps) = true := by kernel_rfl) (hw2 : Region.wanted o2 (yielded ops ((a.put o0.dst v0).put o1.dst v1).tmps) = true := by kernel_rfl) (hw3 : Region.wanted o3 (yielded ops (((a.put o0.dst v0).put o1.dst v1).put o2.dst v2).tmps) = true := by kernel_rfl) (hw4 : Region.wanted o4 (yielded ops ((((a.put o0.dst v0).put o1.dst v1).put o2.dst v2).put o3.dst v3).tmps) = true := by kernel_rfl) (hw5 : Region.wanted o5 (yielded ops (((((a.put o0.dst v0).put o1.dst v1).put o2.dst v2).put o3.dst v3).put o4.dst v4).tmps) = true := by kernel_rfl) (hy0 : ∀ w, S w -> (execOp a.eval o0).run P w = .ok (.value v0) w := by intro w hSw; (try dsimp only at hSw); (try simp only [List.getElem_toArray, List.getElem_cons_succ, List.getElem_cons_zero, Act.put, List.setIfInBounds_toArray, List.set_cons_zero, List.set_cons_succ]); go_simp) (hy1 : ∀ w, S w -> (execOp (a.put o0.dst v0).eval o1).run P w = .ok (.value v1) w := by intro w hSw; (try dsimp only at hSw); (try simp only [List.getElem_toArray, List.getElem_cons_succ, List.getElem_cons_zero, Act.put, List.setIfInBounds_toArray, List.set_cons_zero, List.set_cons_succ]); go_simp) (hy2 : ∀ w, S w -> (execOp ((a.put o0.dst v0).put o1.dst v1).eval o2).run P w = .ok (.value v2) w := by intro w hSw; (try dsimp only at hSw); (try simp only [List.getElem_toArray, List.getElem_cons_succ, List.getElem_cons_zero, Act.put, List.setIfInBounds_toArray, List.set_cons_zero, List.set_cons_succ]); go_simp) (hy3 : ∀ w, S w -> (execOp (((a.put o0.dst v0).put o1.dst v1).put o2.dst v2).eval o3).run P w = .ok (.value v3) w := by intro w hSw; (try dsimp only at hSw); (try simp only [List.getElem_toArray, List.getElem_cons_succ, List.getElem_cons_zero, Act.put, List.setIfInBounds_toArray, List.set_cons_zero, List.set_cons_succ]); go_simp) (hy4 : ∀ w, S w -> (execOp ((((a.put o0.dst v0).put o1.dst v1).put o2.dst v2).put o3.dst v3).eval o4).run P w = .ok (.value v4) w := by intro w hSw; (try dsimp only at hSw); (try simp only [List.getElem_toArray, List.getElem_cons_succ, List.getElem_cons_zero, Act.put, List.setIfInBounds_toArray, List.set_cons_zero, List.set_cons_succ]); go_simp) (hy5 : ∀ w, S w -> (execOp (((((a.put o0.dst v0).put o1.dst v1).put o2.dst v2).put o3.dst v3).put o4.dst v4).eval o5).run P w = .ok (.value v5) w := by intro w hSw; (try dsimp only at hSw); (try simp only [List.getElem_toArray, List.getElem_cons_succ, List.getElem_cons_zero, Act.put, List.setIfInBounds_toArray, List.set_cons_zero, List.set_cons_succ]); go_simp) (hQ0 : ∀ c a w, Q (.panic c) (a.put o0.dst v0) w -> Q (.panic c) a w := by exact fun _ _ _ h => h) (hQ1 : ∀ c a w, Q (.panic c) (a.put o1.dst v1) w -> Q (.panic c) a w := by exact fun _ _ _ h => h) (hQ2 : ∀ c a w, Q (.panic c) (a.put o2.dst v2) w -> Q (.panic c) a w := by exact fun _ _ _ h => h) (hQ3 : ∀ c a w, Q (.panic c) (a.put o3.dst v3) w -> Q (.panic c) a w := by exact fun _ _ _ h => h) (hQ4 : ∀ c a w, Q (.panic c) (a.put o4.dst v4) w -> Q (.panic c) a w := by exact fun _ _ _ h => h) (hQ5 : ∀ c a w, Q (.panic c) (a.put o5.dst v5) w -> Q (.panic c) a w := by exact fun _ _ _ h => h) : wpAnyE P md ops Q S E (fuel + 1 + 1 + 1 + 1 + 1 + 1) listed a w := by
  simp only [Bool.and_eq_true] at hb
  refine wpAnyE_take h0 hb.1.1.1.1.1.1 hb.1.1.1.1.1.2.1 hb.1.1.1.1.1.2.2.1 hb.1.1.1.1.1.2.2.2 hC hQ0 (.inl ⟨hw0, hy0⟩) hS (fun hC => ?_)
  refine wpAnyE_take h1 hb.1.1.1.1.2.1 hb.1.1.1.1.2.2.1 hb.1.1.1.1.2.2.2.1 hb.1.1.1.1.2.2.2.2 hC hQ1 (.inl ⟨hw1, hy1⟩) hS (fun hC => ?_)
  refine wpAnyE_take h2 hb.1.1.1.2.1 hb.1.1.1.2.2.1 hb.1.1.1.2.2.2.1 hb.1.1.1.2.2.2.2 hC hQ2 (.inl ⟨hw2, hy2⟩) hS (fun hC => ?_)
  refine wpAnyE_take h3 hb.1.1.2.1 hb.1.1.2.2.1 hb.1.1.2.2.2.1 hb.1.1.2.2.2.2 hC hQ3 (.inl ⟨hw3, hy3⟩) hS (fun hC => ?_)
  refine wpAnyE_take h4 hb.1.2.1 hb.1.2.2.1 hb.1.2.2.2.1 hb.1.2.2.2.2 hC hQ4 (.inl ⟨hw4, hy4⟩) hS (fun hC => ?_)
  refine wpAnyE_take h5 hb.2.1 hb.2.2.1 hb.2.2.2.1 hb.2.2.2.2 hC hQ5 (.inl ⟨hw5, hy5⟩) hS (fun hC => ?_)
  exact hk hC
theorem tun1 {o0 : Oper} {fuel : Nat} {listed : Array Bool} {a : Act} {w : World} (hC : Closed md ops listed) (hS : S w) (i0 : Nat) (hk : Closed md ops (listed.setIfInBounds i0 true) -> wpAnyE P md ops Q S E fuel (listed.setIfInBounds i0 true) (a.put o0.dst undef) w) (h0 : ops[i0]? = some o0 := by exact rfl) (hb : ((Region.noSelect ops && (Region.free md ops listed i0 && ((Region.ready md ops listed).contains i0 && (E.all fun j => (anc md ops ops.size j).contains i0))))) = true := by kernel_rfl) (hw0 : Region.wanted o0 (yielded ops a.tmps) = false := by kernel_rfl) (hQ0 : ∀ c a w, Q (.panic c) (a.put o0.dst undef) w -> Q (.panic c) a w := by exact fun _ _ _ h => h) : wpAnyE P md ops Q S E (fuel + 1) listed a w := by
  simp only [Bool.and_eq_true] at hb
  refine wpAnyE_take h0 hb.1 hb.2.1 hb.2.2.1 hb.2.2.2 hC hQ0 (.inr ⟨hw0, rfl⟩) hS (fun hC => ?_)
  exact hk hC
theorem tun3 {o0 o1 o2 : Oper} {fuel : Nat} {listed : Array Bool} {a : Act} {w : World} (hC : Closed md ops listed) (hS : S w) (i0 i1 i2 : Nat) (hk : Closed md ops (((listed.setIfInBounds i0 true).setIfInBounds i1 true).setIfInBounds i2 true) -> wpAnyE P md ops Q S E fuel (((listed.setIfInBounds i0 true).setIfInBounds i1 true).setIfInBounds i2 true) (((a.put o0.dst undef).put o1.dst undef).put o2.dst undef) w) (h0 : ops[i0]? = some o0 := by exact rfl) (h1 : ops[i1]? = some o1 := by exact rfl) (h2 : ops[i2]? = some o2 := by exact rfl) (hb : ((Region.noSelect ops && (Region.free md ops listed i0 && ((Region.ready md ops listed).contains i0 && (E.all fun j => (anc md ops ops.size j).contains i0)))) && (Region.noSelect ops && (Region.free md ops (listed.setIfInBounds i0 true) i1 && ((Region.ready md ops (listed.setIfInBounds i0 true)).contains i1 && (E.all fun j => (anc md ops ops.size j).contains i1)))) && (Region.noSelect ops && (Region.free md ops ((listed.setIfInBounds i0 true).setIfInBounds i1 true) i2 && ((Region.ready md ops ((listed.setIfInBounds i0 true).setIfInBounds i1 true)).contains i2 && (E.all fun j => (anc md ops ops.size j).contains i2))))) = true := by kernel_rfl) (hw0 : Region.wanted o0 (yielded ops a.tmps) = false := by kernel_rfl) (hw1 : Region.wanted o1 (yielded ops (a.put o0.dst undef).tmps) = false := by kernel_rfl) (hw2 : Region.wanted o2 (yielded ops ((a.put o0.dst undef).put o1.dst undef).tmps) = false := by kernel_rfl) (hQ0 : ∀ c a w, Q (.panic c) (a.put o0.dst undef) w -> Q (.panic c) a w := by exact fun _ _ _ h => h) (hQ1 : ∀ c a w, Q (.panic c) (a.put o1.dst undef) w -> Q (.panic c) a w := by exact fun _ _ _ h => h) (hQ2 : ∀ c a w, Q (.panic c) (a.put o2.dst undef) w -> Q (.panic c) a w := by exact fun _ _ _ h => h) : wpAnyE P md ops Q S E (fuel + 1 + 1 + 1) listed a w := by
  simp only [Bool.and_eq_true] at hb
  refine wpAnyE_take h0 hb.1.1.1 hb.1.1.2.1 hb.1.1.2.2.1 hb.1.1.2.2.2 hC hQ0 (.inr ⟨hw0, rfl⟩) hS (fun hC => ?_)
  refine wpAnyE_take h1 hb.1.2.1 hb.1.2.2.1 hb.1.2.2.2.1 hb.1.2.2.2.2 hC hQ1 (.inr ⟨hw1, rfl⟩) hS (fun hC => ?_)
  refine wpAnyE_take h2 hb.2.1 hb.2.2.1 hb.2.2.2.1 hb.2.2.2.2 hC hQ2 (.inr ⟨hw2, rfl⟩) hS (fun hC => ?_)
  exact hk hC
theorem tun4 {o0 o1 o2 o3 : Oper} {fuel : Nat} {listed : Array Bool} {a : Act} {w : World} (hC : Closed md ops listed) (hS : S w) (i0 i1 i2 i3 : Nat) (hk : Closed md ops ((((listed.setIfInBounds i0 true).setIfInBounds i1 true).setIfInBounds i2 true).setIfInBounds i3 true) -> wpAnyE P md ops Q S E fuel ((((listed.setIfInBounds i0 true).setIfInBounds i1 true).setIfInBounds i2 true).setIfInBounds i3 true) ((((a.put o0.dst undef).put o1.dst undef).put o2.dst undef).put o3.dst undef) w) (h0 : ops[i0]? = some o0 := by exact rfl) (h1 : ops[i1]? = some o1 := by exact rfl) (h2 : ops[i2]? = some o2 := by exact rfl) (h3 : ops[i3]? = some o3 := by exact rfl) (hb : ((Region.noSelect ops && (Region.free md ops listed i0 && ((Region.ready md ops listed).contains i0 && (E.all fun j => (anc md ops ops.size j).contains i0)))) && (Region.noSelect ops && (Region.free md ops (listed.setIfInBounds i0 true) i1 && ((Region.ready md ops (listed.setIfInBounds i0 true)).contains i1 && (E.all fun j => (anc md ops ops.size j).contains i1)))) && (Region.noSelect ops && (Region.free md ops ((listed.setIfInBounds i0 true).setIfInBounds i1 true) i2 && ((Region.ready md ops ((listed.setIfInBounds i0 true).setIfInBounds i1 true)).contains i2 && (E.all fun j => (anc md ops ops.size j).contains i2)))) && (Region.noSelect ops && (Region.free md ops (((listed.setIfInBounds i0 true).setIfInBounds i1 true).setIfInBounds i2 true) i3 && ((Region.ready md ops (((listed.setIfInBounds i0 true).setIfInBounds i1 true).setIfInBounds i2 true)).contains i3 && (E.all fun j => (anc md ops ops.size j).contains i3))))) = true := by kernel_rfl) (hw0 : Region.wanted o0 (yielded ops a.tmps) = false := by kernel_rfl) (hw1 : Region.wanted o1 (yielded ops (a.put o0.dst undef).tmps) = false := by kernel_rfl) (hw2 : Region.wanted o2 (yielded ops ((a.put o0.dst undef).put o1.dst undef).tmps) = false := by kernel_rfl) (hw3 : Region.wanted o3 (yielded ops (((a.put o0.dst undef).put o1.dst undef).put o2.dst undef).tmps) = false := by kernel_rfl) (hQ0 : ∀ c a w, Q (.panic c) (a.put o0.dst undef) w -> Q (.panic c) a w := by exact fun _ _ _ h => h) (hQ1 : ∀ c a w, Q (.panic c) (a.put o1.dst undef) w -> Q (.panic c) a w := by exact fun _ _ _ h => h) (hQ2 : ∀ c a w, Q (.panic c) (a.put o2.dst undef) w -> Q (.panic c) a w := by exact fun _ _ _ h => h) (hQ3 : ∀ c a w, Q (.panic c) (a.put o3.dst undef) w -> Q (.panic c) a w := by exact fun _ _ _ h => h) : wpAnyE P md ops Q S E (fuel + 1 + 1 + 1 + 1) listed a w := by
  simp only [Bool.and_eq_true] at hb
  refine wpAnyE_take h0 hb.1.1.1.1 hb.1.1.1.2.1 hb.1.1.1.2.2.1 hb.1.1.1.2.2.2 hC hQ0 (.inr ⟨hw0, rfl⟩) hS (fun hC => ?_)
  refine wpAnyE_take h1 hb.1.1.2.1 hb.1.1.2.2.1 hb.1.1.2.2.2.1 hb.1.1.2.2.2.2 hC hQ1 (.inr ⟨hw1, rfl⟩) hS (fun hC => ?_)
  refine wpAnyE_take h2 hb.1.2.1 hb.1.2.2.1 hb.1.2.2.2.1 hb.1.2.2.2.2 hC hQ2 (.inr ⟨hw2, rfl⟩) hS (fun hC => ?_)
  refine wpAnyE_take h3 hb.2.1 hb.2.2.1 hb.2.2.2.1 hb.2.2.2.2 hC hQ3 (.inr ⟨hw3, rfl⟩) hS (fun hC => ?_)
  exact hk hC
theorem tun5 {o0 o1 o2 o3 o4 : Oper} {fuel : Nat} {listed : Array Bool} {a : Act} {w : World} (hC : Closed md ops listed) (hS : S w) (i0 i1 i2 i3 i4 : Nat) (hk : Closed md ops (((((listed.setIfInBounds i0 true).setIfInBounds i1 true).setIfInBounds i2 true).setIfInBounds i3 true).setIfInBounds i4 true) -> wpAnyE P md ops Q S E fuel (((((listed.setIfInBounds i0 true).setIfInBounds i1 true).setIfInBounds i2 true).setIfInBounds i3 true).setIfInBounds i4 true) (((((a.put o0.dst undef).put o1.dst undef).put o2.dst undef).put o3.dst undef).put o4.dst undef) w) (h0 : ops[i0]? = some o0 := by exact rfl) (h1 : ops[i1]? = some o1 := by exact rfl) (h2 : ops[i2]? = some o2 := by exact rfl) (h3 : ops[i3]? = some o3 := by exact rfl) (h4 : ops[i4]? = some o4 := by exact rfl) (hb : ((Region.noSelect ops && (Region.free md ops listed i0 && ((Region.ready md ops listed).contains i0 && (E.all fun j => (anc md ops ops.size j).contains i0)))) && (Region.noSelect ops && (Region.free md ops (listed.setIfInBounds i0 true) i1 && ((Region.ready md ops (listed.setIfInBounds i0 true)).contains i1 && (E.all fun j => (anc md ops ops.size j).contains i1)))) && (Region.noSelect ops && (Region.free md ops ((listed.setIfInBounds i0 true).setIfInBounds i1 true) i2 && ((Region.ready md ops ((listed.setIfInBounds i0 true).setIfInBounds i1 true)).contains i2 && (E.all fun j => (anc md ops ops.size j).contains i2)))) && (Region.noSelect ops && (Region.free md ops (((listed.setIfInBounds i0 true).setIfInBounds i1 true).setIfInBounds i2 true) i3 && ((Region.ready md ops (((listed.setIfInBounds i0 true).setIfInBounds i1 true).setIfInBounds i2 true)).contains i3 && (E.all fun j => (anc md ops ops.size j).contains i3)))) && (Region.noSelect ops && (Region.free md ops ((((listed.setIfInBounds i0 true).setIfInBounds i1 true).setIfInBounds i2 true).setIfInBounds i3 true) i4 && ((Region.ready md ops ((((listed.setIfInBounds i0 true).setIfInBounds i1 true).setIfInBounds i2 true).setIfInBounds i3 true)).contains i4 && (E.all fun j => (anc md ops ops.size j).contains i4))))) = true := by kernel_rfl) (hw0 : Region.wanted o0 (yielded ops a.tmps) = false := by kernel_rfl) (hw1 : Region.wanted o1 (yielded ops (a.put o0.dst undef).tmps) = false := by kernel_rfl) (hw2 : Region.wanted o2 (yielded ops ((a.put o0.dst undef).put o1.dst undef).tmps) = false := by kernel_rfl) (hw3 : Region.wanted o3 (yielded ops (((a.put o0.dst undef).put o1.dst undef).put o2.dst undef).tmps) = false := by kernel_rfl) (hw4 : Region.wanted o4 (yielded ops ((((a.put o0.dst undef).put o1.dst undef).put o2.dst undef).put o3.dst undef).tmps) = false := by kernel_rfl) (hQ0 : ∀ c a w, Q (.panic c) (a.put o0.dst undef) w -> Q (.panic c) a w := by exact fun _ _ _ h => h) (hQ1 : ∀ c a w, Q (.panic c) (a.put o1.dst undef) w -> Q (.panic c) a w := by exact fun _ _ _ h => h) (hQ2 : ∀ c a w, Q (.panic c) (a.put o2.dst undef) w -> Q (.panic c) a w := by exact fun _ _ _ h => h) (hQ3 : ∀ c a w, Q (.panic c) (a.put o3.dst undef) w -> Q (.panic c) a w := by exact fun _ _ _ h => h) (hQ4 : ∀ c a w, Q (.panic c) (a.put o4.dst undef) w -> Q (.panic c) a w := by exact fun _ _ _ h => h) : wpAnyE P md ops Q S E (fuel + 1 + 1 + 1 + 1 + 1) listed a w := by
  simp only [Bool.and_eq_true] at hb
  refine wpAnyE_take h0 hb.1.1.1.1.1 hb.1.1.1.1.2.1 hb.1.1.1.1.2.2.1 hb.1.1.1.1.2.2.2 hC hQ0 (.inr ⟨hw0, rfl⟩) hS (fun hC => ?_)
  refine wpAnyE_take h1 hb.1.1.1.2.1 hb.1.1.1.2.2.1 hb.1.1.1.2.2.2.1 hb.1.1.1.2.2.2.2 hC hQ1 (.inr ⟨hw1, rfl⟩) hS (fun hC => ?_)
  refine wpAnyE_take h2 hb.1.1.2.1 hb.1.1.2.2.1 hb.1.1.2.2.2.1 hb.1.1.2.2.2.2 hC hQ2 (.inr ⟨hw2, rfl⟩) hS (fun hC => ?_)
  refine wpAnyE_take h3 hb.1.2.1 hb.1.2.2.1 hb.1.2.2.2.1 hb.1.2.2.2.2 hC hQ3 (.inr ⟨hw3, rfl⟩) hS (fun hC => ?_)
  refine wpAnyE_take h4 hb.2.1 hb.2.2.1 hb.2.2.2.1 hb.2.2.2.2 hC hQ4 (.inr ⟨hw4, rfl⟩) hS (fun hC => ?_)
  exact hk hC
theorem tun7 {o0 o1 o2 o3 o4 o5 o6 : Oper} {fuel : Nat} {listed : Array Bool} {a : Act} {w : World} (hC : Closed md ops listed) (hS : S w) (i0 i1 i2 i3 i4 i5 i6 : Nat) (hk : Closed md ops (((((((listed.setIfInBounds i0 true).setIfInBounds i1 true).setIfInBounds i2 true).setIfInBounds i3 true).setIfInBounds i4 true).setIfInBounds i5 true).setIfInBounds i6 true) -> wpAnyE P md ops Q S E fuel (((((((listed.setIfInBounds i0 true).setIfInBounds i1 true).setIfInBounds i2 true).setIfInBounds i3 true).setIfInBounds i4 true).setIfInBounds i5 true).setIfInBounds i6 true) (((((((a.put o0.dst undef).put o1.dst undef).put o2.dst undef).put o3.dst undef).put o4.dst undef).put o5.dst undef).put o6.dst undef) w) (h0 : ops[i0]? = some o0 := by exact rfl) (h1 : ops[i1]? = some o1 := by exact rfl) (h2 : ops[i2]? = some o2 := by exact rfl) (h3 : ops[i3]? = some o3 := by exact rfl) (h4 : ops[i4]? = some o4 := by exact rfl) (h5 : ops[i5]? = some o5 := by exact rfl) (h6 : ops[i6]? = some o6 := by exact rfl) (hb : ((Region.noSelect ops && (Region.free md ops listed i0 && ((Region.ready md ops listed).contains i0 && (E.all fun j => (anc md ops ops.size j).contains i0)))) && (Region.noSelect ops && (Region.free md ops (listed.setIfInBounds i0 true) i1 && ((Region.ready md ops (listed.setIfInBounds i0 true)).contains i1 && (E.all fun j => (anc md ops ops.size j).contains i1)))) && (Region.noSelect ops && (Region.free md ops ((listed.setIfInBounds i0 true).setIfInBounds i1 true) i2 && ((Region.ready md ops ((listed.setIfInBounds i0 true).setIfInBounds i1 true)).contains i2 && (E.all fun j => (anc md ops ops.size j).contains i2)))) && (Region.noSelect ops && (Region.free md ops (((listed.setIfInBounds i0 true).setIfInBounds i1 true).setIfInBounds i2 true) i3 && ((Region.ready md ops (((listed.setIfInBounds i0 true).setIfInBounds i1 true).setIfInBounds i2 true)).contains i3 && (E.all fun j => (anc md ops ops.size j).contains i3)))) && (Region.noSelect ops && (Region.free md ops ((((listed.setIfInBounds i0 true).setIfInBounds i1 true).setIfInBounds i2 true).setIfInBounds i3 true) i4 && ((Region.ready md ops ((((listed.setIfInBounds i0 true).setIfInBounds i1 true).setIfInBounds i2 true).setIfInBounds i3 true)).contains i4 && (E.all fun j => (anc md ops ops.size j).contains i4)))) && (Region.noSelect ops && (Region.free md ops (((((listed.setIfInBounds i0 true).setIfInBounds i1 true).setIfInBounds i2 true).setIfInBounds i3 true).setIfInBounds i4 true) i5 && ((Region.ready md ops (((((listed.setIfInBounds i0 true).setIfInBounds i1 true).setIfInBounds i2 true).setIfInBounds i3 true).setIfInBounds i4 true)).contains i5 && (E.all fun j => (anc md ops ops.size j).contains i5)))) && (Region.noSelect ops && (Region.free md ops ((((((listed.setIfInBounds i0 true).setIfInBounds i1 true).setIfInBounds i2 true).setIfInBounds i3 true).setIfInBounds i4 true).setIfInBounds i5 true) i6 && ((Region.ready md ops ((((((listed.setIfInBounds i0 true).setIfInBounds i1 true).setIfInBounds i2 true).setIfInBounds i3 true).setIfInBounds i4 true).setIfInBounds i5 true)).contains i6 && (E.all fun j => (anc md ops ops.size j).contains i6))))) = true := by kernel_rfl) (hw0 : Region.wanted o0 (yielded ops a.tmps) = false := by kernel_rfl) (hw1 : Region.wanted o1 (yielded ops (a.put o0.dst undef).tmps) = false := by kernel_rfl) (hw2 : Region.wanted o2 (yielded ops ((a.put o0.dst undef).put o1.dst undef).tmps) = false := by kernel_rfl) (hw3 : Region.wanted o3 (yielded ops (((a.put o0.dst undef).put o1.dst undef).put o2.dst undef).tmps) = false := by kernel_rfl) (hw4 : Region.wanted o4 (yielded ops ((((a.put o0.dst undef).put o1.dst undef).put o2.dst undef).put o3.dst undef).tmps) = false := by kernel_rfl) (hw5 : Region.wanted o5 (yielded ops (((((a.put o0.dst undef).put o1.dst undef).put o2.dst undef).put o3.dst undef).put o4.dst undef).tmps) = false := by kernel_rfl) (hw6 : Region.wanted o6 (yielded ops ((((((a.put o0.dst undef).put o1.dst undef).put o2.dst undef).put o3.dst undef).put o4.dst undef).put o5.dst undef).tmps) = false := by kernel_rfl) (hQ0 : ∀ c a w, Q (.panic c) (a.put o0.dst undef) w -> Q (.panic c) a w := by exact fun _ _ _ h => h) (hQ1 : ∀ c a w, Q (.panic c) (a.put o1.dst undef) w -> Q (.panic c) a w := by exact fun _ _ _ h => h) (hQ2 : ∀ c a w, Q (.panic c) (a.put o2.dst undef) w -> Q (.panic c) a w := by exact fun _ _ _ h => h) (hQ3 : ∀ c a w, Q (.panic c) (a.put o3.dst undef) w -> Q (.panic c) a w := by exact fun _ _ _ h => h) (hQ4 : ∀ c a w, Q (.panic c) (a.put o4.dst undef) w -> Q (.panic c) a w := by exact fun _ _ _ h => h) (hQ5 : ∀ c a w, Q (.panic c) (a.put o5.dst undef) w -> Q (.panic c) a w := by exact fun _ _ _ h => h) (hQ6 : ∀ c a w, Q (.panic c) (a.put o6.dst undef) w -> Q (.panic c) a w := by exact fun _ _ _ h => h) : wpAnyE P md ops Q S E (fuel + 1 + 1 + 1 + 1 + 1 + 1 + 1) listed a w := by
  simp only [Bool.and_eq_true] at hb
  refine wpAnyE_take h0 hb.1.1.1.1.1.1.1 hb.1.1.1.1.1.1.2.1 hb.1.1.1.1.1.1.2.2.1 hb.1.1.1.1.1.1.2.2.2 hC hQ0 (.inr ⟨hw0, rfl⟩) hS (fun hC => ?_)
  refine wpAnyE_take h1 hb.1.1.1.1.1.2.1 hb.1.1.1.1.1.2.2.1 hb.1.1.1.1.1.2.2.2.1 hb.1.1.1.1.1.2.2.2.2 hC hQ1 (.inr ⟨hw1, rfl⟩) hS (fun hC => ?_)
  refine wpAnyE_take h2 hb.1.1.1.1.2.1 hb.1.1.1.1.2.2.1 hb.1.1.1.1.2.2.2.1 hb.1.1.1.1.2.2.2.2 hC hQ2 (.inr ⟨hw2, rfl⟩) hS (fun hC => ?_)
  refine wpAnyE_take h3 hb.1.1.1.2.1 hb.1.1.1.2.2.1 hb.1.1.1.2.2.2.1 hb.1.1.1.2.2.2.2 hC hQ3 (.inr ⟨hw3, rfl⟩) hS (fun hC => ?_)
  refine wpAnyE_take h4 hb.1.1.2.1 hb.1.1.2.2.1 hb.1.1.2.2.2.1 hb.1.1.2.2.2.2 hC hQ4 (.inr ⟨hw4, rfl⟩) hS (fun hC => ?_)
  refine wpAnyE_take h5 hb.1.2.1 hb.1.2.2.1 hb.1.2.2.2.1 hb.1.2.2.2.2 hC hQ5 (.inr ⟨hw5, rfl⟩) hS (fun hC => ?_)
  refine wpAnyE_take h6 hb.2.1 hb.2.2.1 hb.2.2.2.1 hb.2.2.2.2 hC hQ6 (.inr ⟨hw6, rfl⟩) hS (fun hC => ?_)
  exact hk hC
theorem tun8 {o0 o1 o2 o3 o4 o5 o6 o7 : Oper} {fuel : Nat} {listed : Array Bool} {a : Act} {w : World} (hC : Closed md ops listed) (hS : S w) (i0 i1 i2 i3 i4 i5 i6 i7 : Nat) (hk : Closed md ops ((((((((listed.setIfInBounds i0 true).setIfInBounds i1 true).setIfInBounds i2 true).setIfInBounds i3 true).setIfInBounds i4 true).setIfInBounds i5 true).setIfInBounds i6 true).setIfInBounds i7 true) -> wpAnyE P md ops Q S E fuel ((((((((listed.setIfInBounds i0 true).setIfInBounds i1 true).setIfInBounds i2 true).setIfInBounds i3 true).setIfInBounds i4 true).setIfInBounds i5 true).setIfInBounds i6 true).setIfInBounds i7 true) ((((((((a.put o0.dst undef).put o1.dst undef).put o2.dst undef).put o3.dst undef).put o4.dst undef).put o5.dst undef).put o6.dst undef).put o7.dst undef) w) (h0 : ops[i0]? = some o0 := by exact rfl) (h1 : ops[i1]? = some o1 := by exact rfl) (h2 : ops[i2]? = some o2 := by exact rfl) (h3 : ops[i3]? = some o3 := by exact rfl) (h4 : ops[i4]? = some o4 := by exact rfl) (h5 : ops[i5]? = some o5 := by exact rfl) (h6 : ops[i6]? = some o6 := by exact rfl) (h7 : ops[i7]? = some o7 := by exact rfl) (hb : ((Region.noSelect ops && (Region.free md ops listed i0 && ((Region.ready md ops listed).contains i0 && (E.all fun j => (anc md ops ops.size j).contains i0)))) && (Region.noSelect ops && (Region.free md ops (listed.setIfInBounds i0 true) i1 && ((Region.ready md ops (listed.setIfInBounds i0 true)).contains i1 && (E.all fun j => (anc md ops ops.size j).contains i1)))) && (Region.noSelect ops && (Region.free md ops ((listed.setIfInBounds i0 true).setIfInBounds i1 true) i2 && ((Region.ready md ops ((listed.setIfInBounds i0 true).setIfInBounds i1 true)).contains i2 && (E.all fun j => (anc md ops ops.size j).contains i2)))) && (Region.noSelect ops && (Region.free md ops (((listed.setIfInBounds i0 true).setIfInBounds i1 true).setIfInBounds i2 true) i3 && ((Region.ready md ops (((listed.setIfInBounds i0 true).setIfInBounds i1 true).setIfInBounds i2 true)).contains i3 && (E.all fun j => (anc md ops ops.size j).contains i3)))) && (Region.noSelect ops && (Region.free md ops ((((listed.setIfInBounds i0 true).setIfInBounds i1 true).setIfInBounds i2 true).setIfInBounds i3 true) i4 && ((Region.ready md ops ((((listed.setIfInBounds i0 true).setIfInBounds i1 true).setIfInBounds i2 true).setIfInBounds i3 true)).contains i4 && (E.all fun j => (anc md ops ops.size j).contains i4)))) && (Region.noSelect ops && (Region.free md ops (((((listed.setIfInBounds i0 true).setIfInBounds i1 true).setIfInBounds i2 true).setIfInBounds i3 true).setIfInBounds i4 true) i5 && ((Region.ready md ops (((((listed.setIfInBounds i0 true).setIfInBounds i1 true).setIfInBounds i2 true).setIfInBounds i3 true).setIfInBounds i4 true)).contains i5 && (E.all fun j => (anc md ops ops.size j).contains i5)))) && (Region.noSelect ops && (Region.free md ops ((((((listed.setIfInBounds i0 true).setIfInBounds i1 true).setIfInBounds i2 true).setIfInBounds i3 true).setIfInBounds i4 true).setIfInBounds i5 true) i6 && ((Region.ready md ops ((((((listed.setIfInBounds i0 true).setIfInBounds i1 true).setIfInBounds i2 true).setIfInBounds i3 true).setIfInBounds i4 true).setIfInBounds i5 true)).contains i6 && (E.all fun j => (anc md ops ops.size j).contains i6)))) && (Region.noSelect ops && (Region.free md ops (((((((listed.setIfInBounds i0 true).setIfInBounds i1 true).setIfInBounds i2 true).setIfInBounds i3 true).setIfInBounds i4 true).setIfInBounds i5 true).setIfInBounds i6 true) i7 && ((Region.ready md ops (((((((listed.setIfInBounds i0 true).setIfInBounds i1 true).setIfInBounds i2 true).setIfInBounds i3 true).setIfInBounds i4 true).setIfInBounds i5 true).setIfInBounds i6 true)).contains i7 && (E.all fun j => (anc md ops ops.size j).contains i7))))) = true := by kernel_rfl) (hw0 : Region.wanted o0 (yielded ops a.tmps) = false := by kernel_rfl) (hw1 : Region.wanted o1 (yielded ops (a.put o0.dst undef).tmps) = false := by kernel_rfl) (hw2 : Region.wanted o2 (yielded ops ((a.put o0.dst undef).put o1.dst undef).tmps) = false := by kernel_rfl) (hw3 : Region.wanted o3 (yielded ops (((a.put o0.dst undef).put o1.dst undef).put o2.dst undef).tmps) = false := by kernel_rfl) (hw4 : Region.wanted o4 (yielded ops ((((a.put o0.dst undef).put o1.dst undef).put o2.dst undef).put o3.dst undef).tmps) = false := by kernel_rfl) (hw5 : Region.wanted o5 (yielded ops (((((a.put o0.dst undef).put o1.dst undef).put o2.dst undef).put o3.dst undef).put o4.dst undef).tmps) = false := by kernel_rfl) (hw6 : Region.wanted o6 (yielded ops ((((((a.put o0.dst undef).put o1.dst undef).put o2.dst undef).put o3.dst undef).put o4.dst undef).put o5.dst undef).tmps) = false := by kernel_rfl) (hw7 : Region.wanted o7 (yielded ops (((((((a.put o0.dst undef).put o1.dst undef).put o2.dst undef).put o3.dst undef).put o4.dst undef).put o5.dst undef).put o6.dst undef).tmps) = false := by kernel_rfl) (hQ0 : ∀ c a w, Q (.panic c) (a.put o0.dst undef) w -> Q (.panic c) a w := by exact fun _ _ _ h => h) (hQ1 : ∀ c a w, Q (.panic c) (a.put o1.dst undef) w -> Q (.panic c) a w := by exact fun _ _ _ h => h) (hQ2 : ∀ c a w, Q (.panic c) (a.put o2.dst undef) w -> Q (.panic c) a w := by exact fun _ _ _ h => h) (hQ3 : ∀ c a w, Q (.panic c) (a.put o3.dst undef) w -> Q (.panic c) a w := by exact fun _ _ _ h => h) (hQ4 : ∀ c a w, Q (.panic c) (a.put o4.dst undef) w -> Q (.panic c) a w := by exact fun _ _ _ h => h) (hQ5 : ∀ c a w, Q (.panic c) (a.put o5.dst undef) w -> Q (.panic c) a w := by exact fun _ _ _ h => h) (hQ6 : ∀ c a w, Q (.panic c) (a.put o6.dst undef) w -> Q (.panic c) a w := by exact fun _ _ _ h => h) (hQ7 : ∀ c a w, Q (.panic c) (a.put o7.dst undef) w -> Q (.panic c) a w := by exact fun _ _ _ h => h) : wpAnyE P md ops Q S E (fuel + 1 + 1 + 1 + 1 + 1 + 1 + 1 + 1) listed a w := by
  simp only [Bool.and_eq_true] at hb
  refine wpAnyE_take h0 hb.1.1.1.1.1.1.1.1 hb.1.1.1.1.1.1.1.2.1 hb.1.1.1.1.1.1.1.2.2.1 hb.1.1.1.1.1.1.1.2.2.2 hC hQ0 (.inr ⟨hw0, rfl⟩) hS (fun hC => ?_)
  refine wpAnyE_take h1 hb.1.1.1.1.1.1.2.1 hb.1.1.1.1.1.1.2.2.1 hb.1.1.1.1.1.1.2.2.2.1 hb.1.1.1.1.1.1.2.2.2.2 hC hQ1 (.inr ⟨hw1, rfl⟩) hS (fun hC => ?_)
  refine wpAnyE_take h2 hb.1.1.1.1.1.2.1 hb.1.1.1.1.1.2.2.1 hb.1.1.1.1.1.2.2.2.1 hb.1.1.1.1.1.2.2.2.2 hC hQ2 (.inr ⟨hw2, rfl⟩) hS (fun hC => ?_)
  refine wpAnyE_take h3 hb.1.1.1.1.2.1 hb.1.1.1.1.2.2.1 hb.1.1.1.1.2.2.2.1 hb.1.1.1.1.2.2.2.2 hC hQ3 (.inr ⟨hw3, rfl⟩) hS (fun hC => ?_)
  refine wpAnyE_take h4 hb.1.1.1.2.1 hb.1.1.1.2.2.1 hb.1.1.1.2.2.2.1 hb.1.1.1.2.2.2.2 hC hQ4 (.inr ⟨hw4, rfl⟩) hS (fun hC => ?_)
  refine wpAnyE_take h5 hb.1.1.2.1 hb.1.1.2.2.1 hb.1.1.2.2.2.1 hb.1.1.2.2.2.2 hC hQ5 (.inr ⟨hw5, rfl⟩) hS (fun hC => ?_)
  refine wpAnyE_take h6 hb.1.2.1 hb.1.2.2.1 hb.1.2.2.2.1 hb.1.2.2.2.2 hC hQ6 (.inr ⟨hw6, rfl⟩) hS (fun hC => ?_)
  refine wpAnyE_take h7 hb.2.1 hb.2.2.1 hb.2.2.2.1 hb.2.2.2.2 hC hQ7 (.inr ⟨hw7, rfl⟩) hS (fun hC => ?_)
  exact hk hC
theorem wpAnyE_done {listed:Array Bool} {a:Act} {w:World} (hr:Region.ready md ops listed = []) (h:Q .normal a w):∀ fuel,wpAnyE P md ops Q S E fuel listed a w
 | 0=>⟨hr,h⟩
 | _+1=>⟨fun _=>h,by rw [hr];exact fun _ h=>by cases h⟩
theorem wpIn_round_E {id l n:Nat} {a:Act} {w:World} (hm:P.follows .mixedOrders=true) (hnd:noDefer ops=true) (hQ:¬ LetsOut Q) (hS:S w.drew)
  (h:S w.drew->Closed .any ops (Array.replicate ops.size false)->wpAnyE P .any ops Q S E ops.size (Array.replicate ops.size false) a w.drew):(Code.region id ops true).wpIn (Fence.wide.inRound l) n P Q a w:=
 wpIn_region_any hm (wpAny_round l n (noDefer_spec hnd) hQ _ _ _ _ (wpAny_of_E _ _ _ _ (h hS (closed_start _))))
theorem wp_region_E {id:Nat} {a:Act} {w:World} (hm:P.follows .mixedOrders=true) (hS:S w.drew)
  (h:S w.drew->Closed .any ops (Array.replicate ops.size false)->wpAnyE P .any ops Q S E ops.size (Array.replicate ops.size false) a w.drew):(Code.region id ops true).wp P Q a w:=
 wp_region_any hm (wpAny_of_E _ _ _ _ (h hS (closed_start _)))
end
end Go.Proofs.YtnpdhidliaahbaaGreat
namespace Go.Proofs.YtnpdhidliaahbaaGreat
open Go.Lib (hid)
open Go Go.RowKit Go.Shelf Go.Proofs
attribute [local go_sem] Oper.semAt_some
theorem KeepsOthers.ofBelow {A B:World} (h:Below A.heap.size A B):KeepsOthers A B:=⟨h.size,fun k o hk _=>(h.block k (Array.getElem?_eq_some_iff.1 hk).1).trans hk⟩
theorem KB.ofBelow {B1 B2:Nat} {A B:World} (h:Below A.heap.size A B):KB B1 B2 A B:=fun b _ c hc=>(h.cell (p:=⟨b,0,none⟩) (World.block_lt_of_cell? A _ hc)).trans hc
theorem KB.ofGrown {B1 B2:Nat} {A B:World} {row:Option Nat} (h:A.grownBy B row) (h1:row ≠ some B1) (h2:row ≠ some B2):KB B1 B2 A B:=fun b hb c hc=>by
 have hl:=World.block_lt_of_cell? A _ hc;have:=h.block b hl (fun e=>hb.elim (fun q=>h1 (by rw [<- e,q])) (fun q=>h2 (by rw [<- e,q])));simp only [World.cell?] at hc ⊢;rw [this];exact hc
theorem KB.set {B1 B2:Nat} (A:World) (a:Addr) (v:Value) (h1:a.block ≠ B1) (h2:a.block ≠ B2):KB B1 B2 A (A.setCell a v):=fun b hb c hc=>by
 rw [World.cell?_setCell_other _ _ _ _ (fun e=>by have:=congrArg Addr.block e;dsimp only at this;exact hb.elim (fun q=>h1 (this.trans q)) (fun q=>h2 (this.trans q)))];exact hc
theorem own_isCells {W:World} {B:Nat} {e:TypeId} {size n:Nat} {v:Value} {xs:List Value} (h:W.ownsRow B e size v n xs):∀ (j:Nat) (o:Obj),v.ownBlock=some j->W.heap[j]?=some o->o.isCells=true:=by
 intro j o hj ho;rcases h.2 with ⟨rfl,_⟩ | ⟨g,cap,cur,rfl,_,hh,_⟩
 ·cases hj
 ·have:g=j:=(by simpa [Value.ownBlock] using hj);subst this;rw [hh] at ho;injection ho with ho
  subst ho;rfl
theorem Boxed.row {W:World} {B:Nat} {t:TypeId} {v:Value} (h:Boxed W B t v):Row W B t [v]:=⟨(0,0),h,fun k _=>by omega⟩
theorem Boxed.below {W W':World} {B:Nat} {t:TypeId} {v:Value} (h:Boxed W B t v) (hb:Below W.heap.size W W'):Boxed W' B t v:=(hb.block _ h.lt).trans h
theorem boxed_other {W:World} {B b:Nat} {t:TypeId} {v:Value} (h:Boxed W B t v) (u:Value) (hne:b ≠ B):Boxed (W.setCell ⟨b,0,none⟩ u) B t v:=h.kept (grownBy_setCell' W b u) (fun e=>hne (Option.some.inj e).symm)
theorem infoStr:(Tryz.prog.info? 9).map (fun i=>(i.zero,i.size,i.bytes))=some (some (.string ⟨#[]⟩),1,16):=by kernel_rfl
def CellsKept (W W':World):Prop:=∀ (b:Nat) (cs:Array Value) (T:TypeId) (fz:Nat × Nat),W.heap[b]?=some (Obj.cells cs T fz)->W'.heap[b]?=some (Obj.cells cs T fz)
theorem cellsKept_of {W W':World} {row:Option Nat} (hg:W.grownBy W' row) (hr:∀ r,row=some r->∃ o:Obj,W.heap[r]?=some o/\o.isCells=false):CellsKept W W':=fun b cs T fz h=>by
 have hl:b < W.heap.size:=(Array.getElem?_eq_some_iff.1 h).1;refine (hg.block b hl (fun e=>?_)).trans h;obtain ⟨o,ho,hc⟩:=hr b e.symm;rw [h] at ho;injection ho with ho
 subst ho;cases hc
theorem CellsKept.own {W W':World} (hk:CellsKept W W') {B:Nat} {e:TypeId} {size n:Nat} {v:Value} {xs:List Value} (h:W.ownsRow B e size v n xs):W'.ownsRow B e size v n xs:=
 ⟨h.1,h.2.imp id fun ⟨g,cap,cur,hv,hg,hh,r⟩=>⟨g,cap,cur,hv,hg,hk _ _ _ _ hh,r⟩⟩
theorem CellsKept.boxed {W W':World} (hk:CellsKept W W') {B:Nat} {t:TypeId} {v:Value} (h:Boxed W B t v):Boxed W' B t v:=hk _ _ _ _ h
def OutAt (n₀ OB:Nat) (W:World) (L:List ByteArray):Prop:=∃ v,Boxed W OB 39 v/\W.ownsRow n₀ 9 1 v L.length (strs L)
theorem CellsKept.out {W W':World} (hk:CellsKept W W') {n₀ OB:Nat} {L:List ByteArray} (h:OutAt n₀ OB W L):OutAt n₀ OB W' L:=by
 obtain ⟨v,h1,h2⟩:=h;exact ⟨v,hk.boxed h1,hk.own h2⟩
def ToldI (w:World) (cs:List Value) (TB OB SB:Nat) (seq:Nat) (W:World) (L:List ByteArray):Prop:=OutAt w.heap.size OB W L/\Boxed W SB 35 (.int .u64 (seq:Int))/\Row W TB 25 cs/\Below w.heap.size w W
theorem CellsKept.row {W W':World} (hk:CellsKept W W') {B:Nat} {t:TypeId} {cs:List Value} (h:Row W B t cs):Row W' B t cs:=by
 obtain ⟨fr,h1,h2⟩:=h;exact ⟨fr,hk _ _ _ _ h1,h2⟩
theorem toldI_own {α:Type} (w:World) (cs:List Value) (TB OB SB seq n₁:Nat) (hn:w.heap.size<=n₁) (f:List α->List ByteArray):OwnFrom n₁ (fun pre W=>ToldI w cs TB OB SB seq W (f pre)):=fun pre W W' row h hg hr=>by
 have hk:=cellsKept_of hg (fun r e=>(hr r e).2);exact ⟨hk.out h.1,hk.boxed h.2.1,hk.row h.2.2.1,h.2.2.2.grown hg h.2.2.2.size (fun k e=>by have:=(hr k e).1;omega)⟩
def pieceL {α:Type} {m len:Nat} (l:List α) (x:Piece m len):List α:=(l.drop (x.1 * m)).take m
theorem pieceL_length {α:Type} {m:Nat} (l:List α) (x:Piece m l.length):(pieceL l x).length=min m (l.length - x.1 * m):=by
 unfold pieceL;rw [List.length_take,List.length_drop]
theorem pieces_chunks {α β:Type} {m:Nat} (hm:0 < m) (f:List α->β) (l:List α):∀ (k:Nat) (h:k * m < l.length+m),(pieces m l.length hm k h).map (fun x=>f (pieceL l x)) ++ (Jr.chunks m (l.drop (k * m))).map f=(Jr.chunks m l).map f
 | 0,h=>by simp [pieces]
 | k+1,h=>by
  have hk:k * m < l.length:=(by rw [Nat.succ_mul] at h;omega);have ih:=pieces_chunks hm f l k (by omega);rw [Jr.chunks_cons (n:=m) (by omega) (l:=l.drop (k * m)) (fun e=>by have:=congrArg List.length e;rw [List.length_drop,List.length_nil] at this;omega),List.map_cons] at ih;unfold pieces;rw [List.map_append,List.append_assoc,<- ih];congr 1;rw [List.map_cons,List.map_nil,List.singleton_append,List.drop_drop,Nat.succ_mul];rfl
theorem pieces_all {α β:Type} {m:Nat} (hm:0 < m) (f:List α->β) (l:List α) (k:Nat) (h:k * m < l.length+m) (hk:l.length<=k * m):(pieces m l.length hm k h).map (fun x=>f (pieceL l x))=(Jr.chunks m l).map f:=by
 have:=pieces_chunks hm f l k h;rwa [List.drop_of_length_le hk,Jr.chunks_nil,List.map_nil,List.append_nil] at this
theorem piece_ints {w:World} {g off:Nat} {l:List Int} {m:Nat} (hc:∀ j u,(icells l)[j]?=some u->w.cell? ⟨g,off+j,none⟩=some u) (x:Piece m l.length):IntsAt w (pieceV 1 m g off l.length x) (pieceL l x):=by
 refine .inr ⟨g,off+x.1 * m * 1,min m (l.length - x.1 * m),by unfold pieceV;rw [pieceL_length],fun j u hu=>?_⟩;have hj:j < (pieceL l x).length:=by
  have:=(List.getElem?_eq_some_iff.1 hu).1;rwa [icells_length] at this
 rw [pieceL_length] at hj;rw [Nat.mul_one,Nat.add_assoc];refine hc _ _ ?_;unfold icells pieceL at *;rw [List.getElem?_map] at hu ⊢;rw [List.getElem?_take,if_pos (by omega),List.getElem?_drop] at hu;exact hu
theorem chunkI_seq (n:Nat) (hn:1<=n) {v:Value} {l:List Int} {w W:World} {B1 B2 m:Nat} (hm:0 < m) (hml:m<=100) (hl:l.length<=1000000) (h:IntsV w v l) (hcap:∀ ad n cap,v=.slice (some ad) n cap->n<=cap) (c1:W.cell? ⟨B1,0,none⟩=some v) (c2:W.cell? ⟨B2,0,none⟩=some (.int .i64 (m:Int))) :
  ∃ g off,SeqStopsK Fence.wide n Tryz.prog 147 #[.pointer (some ⟨B1,0,none⟩),.pointer (some ⟨B2,0,none⟩)] (fun x:Piece m l.length=>#[pieceV 1 m g off l.length x]) (KB B1 B2) (fun ys=>∃ k h,l.length<=k * m/\ys=pieces m l.length hm k h) (fun _=>True) l.length W/\∀ j u,(icells l)[j]?=some u->w.cell? ⟨g,off+j,none⟩=some u:=by
 by_cases h0:0 < l.length
 ·rcases h.strict h0 with ⟨rfl,rfl⟩ | ⟨g,off,cap,rfl,hc⟩
  ·exact absurd h0 (by simp)
  exact ⟨g,off,chunkI_stops n hn B1 B2 g off l.length cap m hm hml hl (hcap _ _ _ rfl) W c1 c2,hc⟩
 ·obtain rfl:=List.length_eq_zero_iff.1 (show l.length=0 by omega);obtain ⟨ad,cap,rfl⟩:=h.form;exact ⟨0,0,chunkI_stops0 n B1 B2 0 0 m hm W c1,fun j u hu=>by simp [icells] at hu⟩
theorem piece_chgs {w:World} {g off:Nat} {l:List Jr.Chg} {m:Nat} (hc:∀ j u,(chgC l)[j]?=some u->w.cell? ⟨g,off+j,none⟩=some u) (x:Piece m l.length):ChgsAt w (pieceV 2 m g off l.length x) (pieceL l x):=by
 refine .inr ⟨g,off+x.1 * m * 2,min m (l.length - x.1 * m),by unfold pieceV;rw [pieceL_length],fun j u hj hu=>?_⟩;rw [pieceL_length] at hj;rw [Nat.add_assoc];refine hc _ _ ?_;have e:chgC l=chgC (l.take (x.1 * m)) ++ (chgC (pieceL l x) ++ chgC ((l.drop (x.1 * m)).drop m)):=by
  unfold pieceL;rw [<- chgC_append,List.take_append_drop,<- chgC_append,List.take_append_drop]
 have hx:=x.2;have hlen:(chgC (l.take (x.1 * m))).length=x.1 * m * 2:=(by rw [chgC_length,List.length_take];omega);rw [e,List.getElem?_append_right (by omega),hlen,show x.1 * m * 2+j - x.1 * m * 2=j by omega,List.getElem?_append_left (by have:=(List.getElem?_eq_some_iff.1 hu).1;exact this)];exact hu
theorem chunkC_seq (n:Nat) (hn:1<=n) {v:Value} {l:List Jr.Chg} {w W:World} {B1 B2 m:Nat} (hm:0 < m) (hml:m<=100) (hl:l.length<=1000000) (h:ChgsV w v l) (hcap:∀ ad n cap,v=.slice (some ad) n cap->n<=cap) (c1:W.cell? ⟨B1,0,none⟩=some v) (c2:W.cell? ⟨B2,0,none⟩=some (.int .i64 (m:Int))) :
  ∃ g off,SeqStopsK Fence.wide n Tryz.prog 148 #[.pointer (some ⟨B1,0,none⟩),.pointer (some ⟨B2,0,none⟩)] (fun x:Piece m l.length=>#[pieceV 2 m g off l.length x]) (KB B1 B2) (fun ys=>∃ k h,l.length<=k * m/\ys=pieces m l.length hm k h) (fun _=>True) l.length W/\∀ j u,(chgC l)[j]?=some u->w.cell? ⟨g,off+j,none⟩=some u:=by
 by_cases h0:0 < l.length
 case neg =>
  obtain rfl:=List.length_eq_zero_iff.1 (show l.length=0 by omega);obtain ⟨ad,cap,rfl⟩:=h.form;exact ⟨0,0,chunkC_stops0 n B1 B2 0 0 m hm W c1,fun j u hu=>by simp [chgC] at hu⟩
 rcases SegV.strict h h0 with ⟨rfl,h1⟩ | ⟨g,off,cap,rfl,hc⟩
 ·omega
 ·refine ⟨g,off,chunkC_stops n hn B1 B2 g off l.length cap m hm hml hl (hcap _ _ _ rfl) W c1 c2,fun j u hu=>hc j u ?_ hu⟩;have:=(List.getElem?_eq_some_iff.1 hu).1;rwa [chgC_length] at this
structure BZ (W0 x:World) (RB:Nat) (rc:List Value) (vH vM v9:Value) (hs:List Int) (ms:List Bool) (ds:List ByteArray):Prop where
 rec_:Row x RB 61 rc
 ints:x.ownsRow W0.heap.size 3 1 vH hs.length (icells hs)
 flags:x.ownsRow W0.heap.size 4 1 vM ms.length (fcells ms)
 data:x.ownsRow W0.heap.size 9 1 v9 ds.length (strs ds)
 below:Below W0.heap.size W0 x
 le:W0.heap.size<=RB
section
variable {W0 x y:World} {RB:Nat} {rc:List Value} {vH vM v9:Value} {hs:List Int} {ms:List Bool} {ds:List ByteArray}
theorem BZ.alloc (h:BZ W0 x RB rc vH vM v9 hs ms ds) (o:Obj):BZ W0 (x.alloc o) RB rc vH vM v9 hs ms ds:=
 ⟨h.rec_.alloc o,own_new1 h.ints o,own_new1 h.flags o,own_new1 h.data o,h.below.alloc h.below.size o,h.le⟩
theorem BZ.drew (h:BZ W0 x RB rc vH vM v9 hs ms ds):BZ W0 x.drew RB rc vH vM v9 hs ms ds:=
 ⟨h.rec_.drew,h.ints,h.flags,h.data,h.below.drew,h.le⟩
theorem BZ.growH (h:BZ W0 x RB rc vH vM v9 hs ms ds) {v:Value} {z:Int} (hg:x.grownBy y vH.ownBlock) (ho:y.ownsRow W0.heap.size 3 1 v (hs.length+1) (icells hs ++ [.int .i64 z])):BZ W0 y RB rc v vM v9 (hs ++ [z]) ms ds:=
 ⟨row_grownR h.rec_ h.ints hg (by decide),by rw [List.length_append];unfold icells at *;rw [List.map_append];exact ho,own_otherR h.flags h.ints hg (by decide),own_otherR h.data h.ints hg (by decide),h.below.grown hg h.below.size (fun k hk=>(World.ownsRow.lt h.ints k hk).1),h.le⟩
theorem BZ.growM (h:BZ W0 x RB rc vH vM v9 hs ms ds) {v:Value} {z:Bool} (hg:x.grownBy y vM.ownBlock) (ho:y.ownsRow W0.heap.size 4 1 v (ms.length+1) (fcells ms ++ [.bool z])):BZ W0 y RB rc vH v v9 hs (ms ++ [z]) ds:=
 ⟨row_grownR h.rec_ h.flags hg (by decide),own_otherR h.ints h.flags hg (by decide),by rw [List.length_append];unfold fcells at *;rw [List.map_append];exact ho,own_otherR h.data h.flags hg (by decide),h.below.grown hg h.below.size (fun k hk=>(World.ownsRow.lt h.flags k hk).1),h.le⟩
theorem BZ.growD (h:BZ W0 x RB rc vH vM v9 hs ms ds) {v:Value} {z:ByteArray} (hg:x.grownBy y v9.ownBlock) (ho:y.ownsRow W0.heap.size 9 1 v (ds.length+1) (strs ds ++ [.string z])):BZ W0 y RB rc vH vM v hs ms (ds ++ [z]):=
 ⟨row_grownR h.rec_ h.data hg (by decide),own_otherR h.ints h.data hg (by decide),own_otherR h.flags h.data hg (by decide),by rw [List.length_append];unfold strs at *;rw [List.map_append];exact ho,h.below.grown hg h.below.size (fun k hk=>(World.ownsRow.lt h.data k hk).1),h.le⟩
theorem BZ.set (h:BZ W0 x RB rc vH vM v9 hs ms ds) (k:Nat) (u:Value):BZ W0 (x.setCell ⟨RB,k,none⟩ u) RB (rc.set k u) vH vM v9 hs ms ds:=
 ⟨h.rec_.set k u,own_setR (a:=⟨RB,k,none⟩) h.rec_ h.ints (by decide),own_setR (a:=⟨RB,k,none⟩) h.rec_ h.flags (by decide),own_setR (a:=⟨RB,k,none⟩) h.rec_ h.data (by decide),h.below.setCell (p:=⟨RB,k,none⟩) h.le _,h.le⟩
theorem BZ.congr {vH' vM' v9':Value} {rc':List Value} (h:BZ W0 x RB rc vH vM v9 hs ms ds) (e1:rc=rc'):BZ W0 x RB rc' vH vM v9 hs ms ds:=e1 ▸ h
end
theorem boxed_news {W:World} {B:Nat} {T:TypeId} {v:Value} (h:Boxed W B T v):∀ j u,[v][j]?=some u->W.cell? ((⟨B,0,none⟩:Addr).add j)=some u:=by
 intro j u hu;cases j with
 | zero =>
  rw [List.getElem?_cons_zero] at hu;injection hu with hu
  subst hu;have hadd:(⟨B,0,none⟩:Addr).add 0=⟨B,0,none⟩:=by unfold Addr.add;split <;> simp_all
  rw [hadd];exact h.cell
 | succ j=>rw [List.getElem?_cons_succ] at hu;cases hu
def recC (seq:Nat) (vH vM:Value):List Value:=[.int .i64 2,.int .u64 (seq:Int),.int .i64 0,vH,vM,.int .u32 0]
end Go.Proofs.YtnpdhidliaahbaaGreat
namespace Go.Proofs.YtnpdhidliaahbaaGreat
open Go.Lib (hid)
open Go Go.RowKit Go.Shelf Go.Proofs
theorem body_sized {hm:Int->Bool} (hs:Jr.Small hm) {t:Jr.Txn} {seq:Nat} (ht:Jr.Ok hm t):sized (Jr.body t seq):=by
 intro s h;unfold Jr.body at h;rcases List.mem_append.1 h with h | h
 ·obtain ⟨c,hc,rfl⟩:=List.mem_map.1 h;have hc2:=Jr.chunks_mem (n:=28) (by decide) t.rv c hc;unfold Jr.revB;rw [txt_size,Rec.rb_length (Jr.rev_may (seq:=seq) hs (Jr.chunks_ups (by decide) ht.rv c hc) hc2.1 hc2.2.1)]
 ·obtain ⟨c,hc,h⟩:=List.mem_flatMap.1 h;have hc2:=Jr.chunks_mem (n:=24) (by decide) t.ch c hc;unfold Jr.descB at h;rcases List.mem_cons.1 h with rfl | h
  ·rw [txt_size,Rec.rb_length (Jr.desc_may (seq:=seq) hs (Jr.chunks_sub (by decide) ht.ch c hc) hc2.1 hc2.2.1)]
  obtain ⟨y,hy,rfl⟩:=List.mem_map.1 h;unfold Jr.maskB;rw [txt_size];have:=Rec.mask_length y.2.data.toList;have h2:=ht.data y (hc2.2.2 y hy);have h3:y.2.data.toList.length=y.2.size:=Array.length_toList;omega
theorem join_own {w:World} (v:Value) (l:List ByteArray) (B:Nat) (h:w.ownsRow B 9 1 v l.length (strs l)) (hs:sized l) (hn:l.length<=1000000) :
  Calls Tryz.prog 77 #[v,.string { data:=#[] }] w fun e w'=>e=.returned (.string (txt (cat l)))/\Below w.heap.size w w':=by
 rcases h.2 with ⟨rfl,h0⟩ | ⟨g,cap,cur,rfl,r⟩
 ·obtain rfl:=List.length_eq_zero_iff.1 h0;refine (Tryz.strings_Join_none none 0 ⟨#[]⟩ w).mono ?_;rintro e w' ⟨rfl,rfl⟩;exact ⟨rfl,Below.refl _ _⟩
 ·exact join_any _ l g cap B rfl h hs hn
theorem news_of_own {W:World} {B n:Nat} {T:TypeId} {v:Value} {xs:List Value} (h:W.ownsRow B T 1 v n xs) (hn:0 < n) :
  ∃ g cap,v=.slice (some ⟨g,0,none⟩) n cap/\∀ W':World,(∀ b,B<=b->b < W.heap.size->W'.heap[b]?=W.heap[b]?)->∀ j u,xs[j]?=some u->W'.cell? ((⟨g,0,none⟩:Addr).add j)=some u:=by
 rcases h.2 with ⟨rfl,h0⟩ | ⟨g,cap,cur,rfl,hb,hh,r⟩
 ·omega
 ·refine ⟨g,cap,rfl,fun W' hk j u hu=>?_⟩;have hc:=own_cellAt h hu;have hadd:(⟨g,0,none⟩:Addr).add j=⟨g,j,none⟩:=by unfold Addr.add;split <;> simp_all
  rw [hadd];have:=hk g hb (Array.getElem?_eq_some_iff.1 hh).1;simp only [World.cell?] at hc ⊢;rw [this];exact hc
theorem own_ints {w:World} {B:Nat} {v:Value} {l:List Int} (h:w.ownsRow B 3 1 v l.length (icells l)):IntsAt w v l:=by
 rcases h.2 with ⟨rfl,h0⟩ | ⟨g,cap,cur,rfl,r⟩
 ·exact .inl ⟨rfl,List.length_eq_zero_iff.1 h0⟩
 ·exact .inr ⟨g,0,cap,rfl,fun j u hu=>by rw [Nat.zero_add];exact own_cellAt h hu⟩
theorem own_flags {w:World} {B:Nat} {v:Value} {l:List Bool} (h:w.ownsRow B 4 1 v l.length (fcells l)):FlagsAt w v l:=by
 rcases h.2 with ⟨rfl,h0⟩ | ⟨g,cap,cur,rfl,r⟩
 ·exact .inl ⟨rfl,List.length_eq_zero_iff.1 h0⟩
 ·exact .inr ⟨g,0,cap,rfl,fun j u hu=>by rw [Nat.zero_add];exact own_cellAt h hu⟩
theorem flat_le {α β:Type} (f:α->List β) (k:Nat) (h:∀ x,(f x).length<=k):∀ l:List α,(l.flatMap f).length<=k * l.length
 | []=>by simp
 | x :: l=>by
  have:=flat_le f k h l;have:=h x;rw [List.flatMap_cons,List.length_append,List.length_cons,Nat.mul_succ];omega
theorem chunks_le {α:Type} (l:List α):∀ {n:Nat},0 < n->(Jr.chunks n l).length<=l.length:=fun {n} hn=>by
 rw [Jr.chunks_length hn];unfold Jr.cdiv;rcases Nat.eq_zero_or_pos l.length with h | h
 ·simp [h];omega
 ·exact Nat.le_of_lt_succ ((Nat.div_lt_iff_lt_mul hn).2 (by have:=Nat.le_mul_of_pos_right l.length hn;rw [Nat.succ_mul];omega))
theorem below_b {B:Nat} {w A:World} (h:Below B w A) (D:Nat) (hD:B<=D) (o:Obj):Below B w (A.putObj D o):=by
 refine ⟨h.os,h.tape,h.output,?_,fun k hk=>?_⟩
 ·have:=h.size;simpa [World.putObj] using this
 ·rw [<- h.block k hk];simp only [World.putObj];rw [Array.getElem?_setIfInBounds,if_neg (by omega)]
open Go Go.RowKit
theorem ite_not {c A B:Prop} [Decidable c] (h:¬ c) (hB:B):if c then A else B:=by rw [if_neg h];exact hB
theorem commit_bad1 {lb db:Nat} {g:Geo.G} {V:LogV} (w:World) (vc vr vd:Value) (t:Jr.Txn) (data:List Jr.Chg) (hL:LogAt lb db g V w) (hg:Geo.May g) (hb:V.bad=0) (hu:V.used<=100000)
  (hC:ChgsV w vc t.ch) (hI:IntsV w vr t.rv) (hX:ChgsV w vd data) (hl:t.ch.length<=1000000) (hr:t.rv.length<=1000000) (hd:data.length<=1000000)
  (hcx:∀ c ∈ t.ch,In64 c.1/\c.2.size<=9223372036854775807) (hrx:∀ x ∈ t.rv,In64 x) (hdx:∀ c ∈ data,In64 c.1/\c.2.size<=9223372036854775807)
  (h1:mayB (Geo.home g) t.ch t.rv=false) :
  Calls Tryz.prog 19 #[.pointer (some ⟨lb,0,none⟩),.agg #[vc,vr],vd] w fun e w'=>e=.returned (.int .i64 2)/\Below w.heap.size w w':=by
 have hpl:=Jr.plc_of hg
 have hsz1:=Jr.size_pos t
 obtain ⟨ac,cc,rfl⟩:=hC.form
 obtain ⟨ar,cr,rfl⟩:=hI.form
 obtain ⟨ad,cd,rfl⟩:=hX.form
 have qM1:=hid (fun wz (hz:Below w.heap.size w wz)=>may_any db g hg _ _ t.ch t.rv wz (hC.below hz) (hI.below hz) (by omega) (by omega) hcx hrx)
 have qM2:=hid (fun wz (hz:Below w.heap.size w wz)=>may_any db g hg _ (.slice none 0 0) data [] wz (hX.below hz) (IntsAt.weak (.inl ⟨rfl,rfl⟩)) (by omega) (by simp) hdx (by simp))
 rw [h1] at qM1
 have qS:=hid (size_any ac ar t.ch.length t.rv.length cc cr hl hr)
 have hsz:Jr.cdiv t.rv.length 28+Jr.cdiv t.ch.length 24+t.ch.length+1=Jr.size t:=rfl
 rw [hsz] at qS
 have qR:=hid (fun wz (h:LogAt lb db g V wz)=>room_any hg wz h (by omega))
 have qL:=hid (fun wz (h:LogAt lb db g V wz)=>logthere_any wz h)
 have hlog:=hg.ok.2.1
 obtain ⟨N,hN⟩:∃ N,Jr.size t=N:=⟨_,rfl⟩
 obtain ⟨PL,hPL⟩:∃ PL,Jr.plc g=PL:=⟨_,rfl⟩
 rw [hN] at qS
 rw [hPL] at qR
 have hNs:N<=3000001:=by rw [<- hN];have h1:=Jr.cdiv_le t.rv.length 28 (by decide);have h2:=Jr.cdiv_le t.ch.length 24 (by decide);unfold Jr.size;omega
 unfold LogAt logC at hL qR qL
 unfold ringV at qM1 qM2
 clear hN hPL hsz hcx hrx hdx hC hI hX hpl hl hr
 obtain ⟨g1,g2,g3,g4,g5,g6,g7,g8,g9⟩:=g
 obtain ⟨v1,v2,v3,v4⟩:=V
 dsimp only at *
 subst hlog
 obtain rfl:=hb
 clear hg
 obtain ⟨NC,hNC⟩:∃ NC,t.ch.length=NC:=⟨_,rfl⟩
 obtain ⟨NR,hNR⟩:∃ NR,t.rv.length=NR:=⟨_,rfl⟩
 rw [hNC] at qM1 qS ⊢
 rw [hNR] at qM1 qS ⊢
 clear hNC hNR
 have B1:Below w.heap.size w (w.alloc (.cells #[.slice ac NC cc,.slice ar NR cr] 25)):=(Below.refl w.heap.size w).alloc (Nat.le_refl _) _
 have hL1:=hL.alloc (.cells #[.slice ac NC cc,.slice ar NR cr] 25)
 have hT1:=Row.new w 25 [.slice ac NC cc,.slice ar NR cr] rfl
 have HL1:=hid hL1
 have HT1:=hid hT1
 have HB1:=hid B1
 have c0:=hL1.cellAt 1 rfl;have c1:=hL1.cellAt 2 rfl;have c2:=hL1.cellAt 3 rfl;have c3:=hL1.cellAt 4 rfl;have c4:=hL1.cellAt 5 rfl;have c5:=hL1.cellAt 6 rfl;have c6:=hL1.cellAt 7 rfl;have c7:=hL1.cellAt 8 rfl;have c8:=hL1.cellAt 9 rfl;have c9:=hL1.cellAt 10 rfl
 have c14:=hL1.cellAt 14 rfl
 have x0:=hT1.cellAt 0 rfl
 have x1:=hT1.cellAt 1 rfl
 clear B1 hL1 hT1 hL
 go_enter Tryz.func19,Tryz.ntmps19
 go_wp2_with (first | (go_at_call 67;refine (qL.out _ HL1.out).mono ?_;rintro e w1 ⟨rfl,rfl⟩) | fail "none")
 generalize w.alloc _=w1 at *
 have s1:Below w1.heap.size w1 w1.drew:=(Below.refl _ _).drew
 have KEEP:Hid (∀ wz,Below w1.heap.size w1 wz->wz.cell? ⟨lb,1,none⟩=some (.pointer (some ⟨db,0,none⟩))/\wz.cell? ⟨lb,2,none⟩=some (.int .i64 g1)/\wz.cell? ⟨lb,3,none⟩=some (.int .i64 g2)/\wz.cell? ⟨lb,4,none⟩=some (.int .i64 g3)/\wz.cell? ⟨lb,5,none⟩=some (.int .i64 1)/\wz.cell? ⟨lb,6,none⟩=some (.int .i64 g5)/\wz.cell? ⟨lb,7,none⟩=some (.int .i64 g6)/\wz.cell? ⟨lb,8,none⟩=some (.int .i64 g7)/\wz.cell? ⟨lb,9,none⟩=some (.int .i64 g8)/\wz.cell? ⟨lb,10,none⟩=some (.int .i64 g9)/\wz.cell? ⟨w.heap.size,0,none⟩=some (.slice ac NC cc)/\wz.cell? ⟨w.heap.size,1,none⟩=some (.slice ar NR cr)):=hid (fun wz hz=>by
  have R:=HL1.out.below hz HL1.out.lt;have X:=HT1.out.below hz HT1.out.lt;exact ⟨R.cellAt 1 rfl,R.cellAt 2 rfl,R.cellAt 3 rfl,R.cellAt 4 rfl,R.cellAt 5 rfl,R.cellAt 6 rfl,R.cellAt 7 rfl,R.cellAt 8 rfl,R.cellAt 9 rfl,R.cellAt 10 rfl,X.cellAt 0 rfl,X.cellAt 1 rfl⟩)
 have qM3:=hid (fun wz (hz:Below w1.heap.size w1 wz)=>qM1.out wz (below_next HB1.out hz))
 have qM4:=hid (fun wz (hz:Below w1.heap.size w1 wz)=>qM2.out wz (below_next HB1.out hz))
 refine wp_region_E (S:=fun w'=>w'.cell? ⟨lb,1,none⟩=some (.pointer (some ⟨db,0,none⟩))/\w'.cell? ⟨lb,2,none⟩=some (.int .i64 g1)/\w'.cell? ⟨lb,3,none⟩=some (.int .i64 g2)/\w'.cell? ⟨lb,4,none⟩=some (.int .i64 g3)/\w'.cell? ⟨lb,5,none⟩=some (.int .i64 1)/\w'.cell? ⟨lb,6,none⟩=some (.int .i64 g5)/\w'.cell? ⟨lb,7,none⟩=some (.int .i64 g6)/\w'.cell? ⟨lb,8,none⟩=some (.int .i64 g7)/\w'.cell? ⟨lb,9,none⟩=some (.int .i64 g8)/\w'.cell? ⟨lb,10,none⟩=some (.int .i64 g9)/\w'.cell? ⟨w.heap.size,0,none⟩=some (.slice ac NC cc)/\w'.cell? ⟨w.heap.size,1,none⟩=some (.slice ar NR cr)) (E:=[]) (by kernel_rfl) (KEEP.out _ s1) (fun hHeld hCl=>?_)
 refine tk6 hCl hHeld 0 (.pointer (some ⟨lb,0,none⟩)) 1 (.pointer (some ⟨lb,0,none⟩)) 2 (.pointer (some ⟨lb,1,none⟩)) 3 (.agg #[.pointer (some ⟨db,0,none⟩),.int .i64 g1,.int .i64 g2,.int .i64 g3,.int .i64 1,.int .i64 g5,.int .i64 g6,.int .i64 g7,.int .i64 g8,.int .i64 g9]) 4 (.pointer (some ⟨w.heap.size,0,none⟩)) 5 (.slice ac NC cc) fun hCl=>?_;(try simp only [lL,Act.put])
 refine tk2 hCl hHeld 6 (.pointer (some ⟨w.heap.size,1,none⟩)) 7 (.slice ar NR cr) fun hCl=>?_;(try simp only [lL,Act.put])
 refine rd1 8 fun K hK=>?_
 go_simp
 refine (qM3.out _ s1).mono ?_
 rintro e wa ⟨rfl,ba⟩
 have sa:Below w1.heap.size w1 wa:=below_next s1 ba
 refine dn hK hCl (KEEP.out _ sa) ?_;clear hK K hHeld hCl;intro hHeld hCl;(try simp only [lL,Act.put])
 refine tk2 hCl hHeld 9 (.bool true) 10 (.bool true) fun hCl=>?_;(try simp only [lL,Act.put])
 refine tun5 hCl hHeld 11 12 13 14 15 fun hCl=>?_;(try simp only [lL,Act.put])
 refine rd1 16 fun K hK=>?_
 refine ite_not (by intro h;exact Bool.noConfusion (show false=true from h)) ?_
 refine dn hK hCl (KEEP.out _ sa) ?_;clear hK K hHeld hCl;intro hHeld hCl;(try simp only [lL,Act.put])
 refine tun1 hCl hHeld 17 fun hCl=>?_;(try simp only [lL,Act.put])
 refine tk2 hCl hHeld 18 (.bool true) 19 (.bool true) fun hCl=>?_;(try simp only [lL,Act.put])
 refine wpAnyE_done (by kernel_rfl) ?_ _
 have B2:=hid (below_next HB1.out sa)
 go_wp2_with fail
 go_ret
 exact ⟨rfl,B2.out⟩
theorem commit_bad2 {lb db:Nat} {g:Geo.G} {V:LogV} (w:World) (vc vr vd:Value) (t:Jr.Txn) (data:List Jr.Chg) (hL:LogAt lb db g V w) (hg:Geo.May g) (hb:V.bad=0) (hu:V.used<=100000)
  (hC:ChgsV w vc t.ch) (hI:IntsV w vr t.rv) (hX:ChgsV w vd data) (hl:t.ch.length<=1000000) (hr:t.rv.length<=1000000) (hd:data.length<=1000000)
  (hcx:∀ c ∈ t.ch,In64 c.1/\c.2.size<=9223372036854775807) (hrx:∀ x ∈ t.rv,In64 x) (hdx:∀ c ∈ data,In64 c.1/\c.2.size<=9223372036854775807)
  (h1:mayB (Geo.home g) t.ch t.rv=true) (h2:mayB (Geo.home g) data []=false) :
  Calls Tryz.prog 19 #[.pointer (some ⟨lb,0,none⟩),.agg #[vc,vr],vd] w fun e w'=>e=.returned (.int .i64 2)/\Below w.heap.size w w':=by
 have hpl:=Jr.plc_of hg
 have hsz1:=Jr.size_pos t
 obtain ⟨ac,cc,rfl⟩:=hC.form
 obtain ⟨ar,cr,rfl⟩:=hI.form
 obtain ⟨ad,cd,rfl⟩:=hX.form
 have qM1:=hid (fun wz (hz:Below w.heap.size w wz)=>may_any db g hg _ _ t.ch t.rv wz (hC.below hz) (hI.below hz) (by omega) (by omega) hcx hrx)
 have qM2:=hid (fun wz (hz:Below w.heap.size w wz)=>may_any db g hg _ (.slice none 0 0) data [] wz (hX.below hz) (IntsAt.weak (.inl ⟨rfl,rfl⟩)) (by omega) (by simp) hdx (by simp))
 rw [h1] at qM1
 rw [h2] at qM2
 have qS:=hid (size_any ac ar t.ch.length t.rv.length cc cr hl hr)
 have hsz:Jr.cdiv t.rv.length 28+Jr.cdiv t.ch.length 24+t.ch.length+1=Jr.size t:=rfl
 rw [hsz] at qS
 have qR:=hid (fun wz (h:LogAt lb db g V wz)=>room_any hg wz h (by omega))
 have qL:=hid (fun wz (h:LogAt lb db g V wz)=>logthere_any wz h)
 have hlog:=hg.ok.2.1
 obtain ⟨N,hN⟩:∃ N,Jr.size t=N:=⟨_,rfl⟩
 obtain ⟨PL,hPL⟩:∃ PL,Jr.plc g=PL:=⟨_,rfl⟩
 rw [hN] at qS
 rw [hPL] at qR
 have hNs:N<=3000001:=by rw [<- hN];have h1:=Jr.cdiv_le t.rv.length 28 (by decide);have h2:=Jr.cdiv_le t.ch.length 24 (by decide);unfold Jr.size;omega
 unfold LogAt logC at hL qR qL
 unfold ringV at qM1 qM2
 clear hN hPL hsz hcx hrx hdx hC hI hX hpl hl hr
 obtain ⟨g1,g2,g3,g4,g5,g6,g7,g8,g9⟩:=g
 obtain ⟨v1,v2,v3,v4⟩:=V
 dsimp only at *
 subst hlog
 obtain rfl:=hb
 clear hg
 obtain ⟨NC,hNC⟩:∃ NC,t.ch.length=NC:=⟨_,rfl⟩
 obtain ⟨NR,hNR⟩:∃ NR,t.rv.length=NR:=⟨_,rfl⟩
 rw [hNC] at qM1 qS ⊢
 rw [hNR] at qM1 qS ⊢
 clear hNC hNR
 have B1:Below w.heap.size w (w.alloc (.cells #[.slice ac NC cc,.slice ar NR cr] 25)):=(Below.refl w.heap.size w).alloc (Nat.le_refl _) _
 have hL1:=hL.alloc (.cells #[.slice ac NC cc,.slice ar NR cr] 25)
 have hT1:=Row.new w 25 [.slice ac NC cc,.slice ar NR cr] rfl
 have HL1:=hid hL1
 have HT1:=hid hT1
 have HB1:=hid B1
 have c0:=hL1.cellAt 1 rfl;have c1:=hL1.cellAt 2 rfl;have c2:=hL1.cellAt 3 rfl;have c3:=hL1.cellAt 4 rfl;have c4:=hL1.cellAt 5 rfl;have c5:=hL1.cellAt 6 rfl;have c6:=hL1.cellAt 7 rfl;have c7:=hL1.cellAt 8 rfl;have c8:=hL1.cellAt 9 rfl;have c9:=hL1.cellAt 10 rfl
 have c14:=hL1.cellAt 14 rfl
 have x0:=hT1.cellAt 0 rfl
 have x1:=hT1.cellAt 1 rfl
 clear B1 hL1 hT1 hL
 go_enter Tryz.func19,Tryz.ntmps19
 go_wp2_with (first | (go_at_call 67;refine (qL.out _ HL1.out).mono ?_;rintro e w1 ⟨rfl,rfl⟩) | fail "none")
 generalize w.alloc _=w1 at *
 have s1:Below w1.heap.size w1 w1.drew:=(Below.refl _ _).drew
 have KEEP:Hid (∀ wz,Below w1.heap.size w1 wz->wz.cell? ⟨lb,1,none⟩=some (.pointer (some ⟨db,0,none⟩))/\wz.cell? ⟨lb,2,none⟩=some (.int .i64 g1)/\wz.cell? ⟨lb,3,none⟩=some (.int .i64 g2)/\wz.cell? ⟨lb,4,none⟩=some (.int .i64 g3)/\wz.cell? ⟨lb,5,none⟩=some (.int .i64 1)/\wz.cell? ⟨lb,6,none⟩=some (.int .i64 g5)/\wz.cell? ⟨lb,7,none⟩=some (.int .i64 g6)/\wz.cell? ⟨lb,8,none⟩=some (.int .i64 g7)/\wz.cell? ⟨lb,9,none⟩=some (.int .i64 g8)/\wz.cell? ⟨lb,10,none⟩=some (.int .i64 g9)/\wz.cell? ⟨w.heap.size,0,none⟩=some (.slice ac NC cc)/\wz.cell? ⟨w.heap.size,1,none⟩=some (.slice ar NR cr)):=hid (fun wz hz=>by
  have R:=HL1.out.below hz HL1.out.lt;have X:=HT1.out.below hz HT1.out.lt;exact ⟨R.cellAt 1 rfl,R.cellAt 2 rfl,R.cellAt 3 rfl,R.cellAt 4 rfl,R.cellAt 5 rfl,R.cellAt 6 rfl,R.cellAt 7 rfl,R.cellAt 8 rfl,R.cellAt 9 rfl,R.cellAt 10 rfl,X.cellAt 0 rfl,X.cellAt 1 rfl⟩)
 have qM3:=hid (fun wz (hz:Below w1.heap.size w1 wz)=>qM1.out wz (below_next HB1.out hz))
 have qM4:=hid (fun wz (hz:Below w1.heap.size w1 wz)=>qM2.out wz (below_next HB1.out hz))
 go_region_held3 (fun w'=>w'.cell? ⟨lb,1,none⟩=some (.pointer (some ⟨db,0,none⟩))/\w'.cell? ⟨lb,2,none⟩=some (.int .i64 g1)/\w'.cell? ⟨lb,3,none⟩=some (.int .i64 g2)/\w'.cell? ⟨lb,4,none⟩=some (.int .i64 g3)/\w'.cell? ⟨lb,5,none⟩=some (.int .i64 1)/\w'.cell? ⟨lb,6,none⟩=some (.int .i64 g5)/\w'.cell? ⟨lb,7,none⟩=some (.int .i64 g6)/\w'.cell? ⟨lb,8,none⟩=some (.int .i64 g7)/\w'.cell? ⟨lb,9,none⟩=some (.int .i64 g8)/\w'.cell? ⟨lb,10,none⟩=some (.int .i64 g9)/\w'.cell? ⟨w.heap.size,0,none⟩=some (.slice ac NC cc)/\w'.cell? ⟨w.heap.size,1,none⟩=some (.slice ar NR cr))
  (first | (refine KEEP.out _ ?_;assumption) | fail "keep")
  (first | (go_at_call 68;first | ((with_reducible refine (qM3.out _ s1).mono ?_);rintro e wa ⟨rfl,ba⟩;have sa:Below w1.heap.size w1 wa:=below_next s1 ba) | ((with_reducible refine (qM4.out _ sa).mono ?_);rintro e wb ⟨rfl,bb⟩;have sb:Below w1.heap.size w1 wb:=below_next sa bb)) | fail "none")
 have B2:=hid (below_next HB1.out sb)
 go_wp2_with fail
 go_ret
 exact ⟨rfl,B2.out⟩
theorem commit_full {lb db:Nat} {g:Geo.G} {V:LogV} (w:World) (vc vr vd:Value) (t:Jr.Txn) (data:List Jr.Chg) (hL:LogAt lb db g V w) (hg:Geo.May g) (hb:V.bad=0) (hu:V.used<=100000)
  (hC:ChgsV w vc t.ch) (hI:IntsV w vr t.rv) (hX:ChgsV w vd data) (hl:t.ch.length<=1000000) (hr:t.rv.length<=1000000) (hd:data.length<=1000000)
  (hcx:∀ c ∈ t.ch,In64 c.1/\c.2.size<=9223372036854775807) (hrx:∀ x ∈ t.rv,In64 x) (hdx:∀ c ∈ data,In64 c.1/\c.2.size<=9223372036854775807)
  (h1:mayB (Geo.home g) t.ch t.rv=true) (h2:mayB (Geo.home g) data []=true) (h3:¬ V.used+Jr.size t<=Jr.plc g) :
  Calls Tryz.prog 19 #[.pointer (some ⟨lb,0,none⟩),.agg #[vc,vr],vd] w fun e w'=>e=.returned (.int .i64 90)/\Below w.heap.size w w':=by
 have hpl:=Jr.plc_of hg
 have hsz1:=Jr.size_pos t
 obtain ⟨ac,cc,rfl⟩:=hC.form
 obtain ⟨ar,cr,rfl⟩:=hI.form
 obtain ⟨ad,cd,rfl⟩:=hX.form
 have qM1:=hid (fun wz (hz:Below w.heap.size w wz)=>may_any db g hg _ _ t.ch t.rv wz (hC.below hz) (hI.below hz) (by omega) (by omega) hcx hrx)
 have qM2:=hid (fun wz (hz:Below w.heap.size w wz)=>may_any db g hg _ (.slice none 0 0) data [] wz (hX.below hz) (IntsAt.weak (.inl ⟨rfl,rfl⟩)) (by omega) (by simp) hdx (by simp))
 rw [h1] at qM1
 rw [h2] at qM2
 have qS:=hid (size_any ac ar t.ch.length t.rv.length cc cr hl hr)
 have hsz:Jr.cdiv t.rv.length 28+Jr.cdiv t.ch.length 24+t.ch.length+1=Jr.size t:=rfl
 rw [hsz] at qS
 have qR:=hid (fun wz (h:LogAt lb db g V wz)=>room_any hg wz h (by omega))
 have qL:=hid (fun wz (h:LogAt lb db g V wz)=>logthere_any wz h)
 have hlog:=hg.ok.2.1
 obtain ⟨N,hN⟩:∃ N,Jr.size t=N:=⟨_,rfl⟩
 obtain ⟨PL,hPL⟩:∃ PL,Jr.plc g=PL:=⟨_,rfl⟩
 rw [hN] at qS
 rw [hPL] at qR
 have hNs:N<=3000001:=by rw [<- hN];have h1:=Jr.cdiv_le t.rv.length 28 (by decide);have h2:=Jr.cdiv_le t.ch.length 24 (by decide);unfold Jr.size;omega
 rw [hN,hPL] at h3
 unfold LogAt logC at hL qR qL
 unfold ringV at qM1 qM2
 clear hN hPL hsz hcx hrx hdx hC hI hX hpl hl hr
 obtain ⟨g1,g2,g3,g4,g5,g6,g7,g8,g9⟩:=g
 obtain ⟨v1,v2,v3,v4⟩:=V
 dsimp only at *
 subst hlog
 obtain rfl:=hb
 clear hg
 obtain ⟨NC,hNC⟩:∃ NC,t.ch.length=NC:=⟨_,rfl⟩
 obtain ⟨NR,hNR⟩:∃ NR,t.rv.length=NR:=⟨_,rfl⟩
 rw [hNC] at qM1 qS ⊢
 rw [hNR] at qM1 qS ⊢
 clear hNC hNR
 have B1:Below w.heap.size w (w.alloc (.cells #[.slice ac NC cc,.slice ar NR cr] 25)):=(Below.refl w.heap.size w).alloc (Nat.le_refl _) _
 have hL1:=hL.alloc (.cells #[.slice ac NC cc,.slice ar NR cr] 25)
 have hT1:=Row.new w 25 [.slice ac NC cc,.slice ar NR cr] rfl
 have HL1:=hid hL1
 have HT1:=hid hT1
 have HB1:=hid B1
 have c0:=hL1.cellAt 1 rfl;have c1:=hL1.cellAt 2 rfl;have c2:=hL1.cellAt 3 rfl;have c3:=hL1.cellAt 4 rfl;have c4:=hL1.cellAt 5 rfl;have c5:=hL1.cellAt 6 rfl;have c6:=hL1.cellAt 7 rfl;have c7:=hL1.cellAt 8 rfl;have c8:=hL1.cellAt 9 rfl;have c9:=hL1.cellAt 10 rfl
 have c14:=hL1.cellAt 14 rfl
 have x0:=hT1.cellAt 0 rfl
 have x1:=hT1.cellAt 1 rfl
 clear B1 hL1 hT1 hL
 go_enter Tryz.func19,Tryz.ntmps19
 go_wp2_with (first | (go_at_call 67;refine (qL.out _ HL1.out).mono ?_;rintro e w1 ⟨rfl,rfl⟩) | fail "none")
 generalize w.alloc _=w1 at *
 have s1:Below w1.heap.size w1 w1.drew:=(Below.refl _ _).drew
 have KEEP:Hid (∀ wz,Below w1.heap.size w1 wz->wz.cell? ⟨lb,1,none⟩=some (.pointer (some ⟨db,0,none⟩))/\wz.cell? ⟨lb,2,none⟩=some (.int .i64 g1)/\wz.cell? ⟨lb,3,none⟩=some (.int .i64 g2)/\wz.cell? ⟨lb,4,none⟩=some (.int .i64 g3)/\wz.cell? ⟨lb,5,none⟩=some (.int .i64 1)/\wz.cell? ⟨lb,6,none⟩=some (.int .i64 g5)/\wz.cell? ⟨lb,7,none⟩=some (.int .i64 g6)/\wz.cell? ⟨lb,8,none⟩=some (.int .i64 g7)/\wz.cell? ⟨lb,9,none⟩=some (.int .i64 g8)/\wz.cell? ⟨lb,10,none⟩=some (.int .i64 g9)/\wz.cell? ⟨w.heap.size,0,none⟩=some (.slice ac NC cc)/\wz.cell? ⟨w.heap.size,1,none⟩=some (.slice ar NR cr)):=hid (fun wz hz=>by
  have R:=HL1.out.below hz HL1.out.lt;have X:=HT1.out.below hz HT1.out.lt;exact ⟨R.cellAt 1 rfl,R.cellAt 2 rfl,R.cellAt 3 rfl,R.cellAt 4 rfl,R.cellAt 5 rfl,R.cellAt 6 rfl,R.cellAt 7 rfl,R.cellAt 8 rfl,R.cellAt 9 rfl,R.cellAt 10 rfl,X.cellAt 0 rfl,X.cellAt 1 rfl⟩)
 have qM3:=hid (fun wz (hz:Below w1.heap.size w1 wz)=>qM1.out wz (below_next HB1.out hz))
 have qM4:=hid (fun wz (hz:Below w1.heap.size w1 wz)=>qM2.out wz (below_next HB1.out hz))
 go_region_held3 (fun w'=>w'.cell? ⟨lb,1,none⟩=some (.pointer (some ⟨db,0,none⟩))/\w'.cell? ⟨lb,2,none⟩=some (.int .i64 g1)/\w'.cell? ⟨lb,3,none⟩=some (.int .i64 g2)/\w'.cell? ⟨lb,4,none⟩=some (.int .i64 g3)/\w'.cell? ⟨lb,5,none⟩=some (.int .i64 1)/\w'.cell? ⟨lb,6,none⟩=some (.int .i64 g5)/\w'.cell? ⟨lb,7,none⟩=some (.int .i64 g6)/\w'.cell? ⟨lb,8,none⟩=some (.int .i64 g7)/\w'.cell? ⟨lb,9,none⟩=some (.int .i64 g8)/\w'.cell? ⟨lb,10,none⟩=some (.int .i64 g9)/\w'.cell? ⟨w.heap.size,0,none⟩=some (.slice ac NC cc)/\w'.cell? ⟨w.heap.size,1,none⟩=some (.slice ar NR cr))
  (first | (refine KEEP.out _ ?_;assumption) | fail "keep")
  (first | (go_at_call 68;first | ((with_reducible refine (qM3.out _ s1).mono ?_);rintro e wa ⟨rfl,ba⟩;have sa:Below w1.heap.size w1 wa:=below_next s1 ba) | ((with_reducible refine (qM4.out _ sa).mono ?_);rintro e wb ⟨rfl,bb⟩;have sb:Below w1.heap.size w1 wb:=below_next sa bb)) | fail "none")
 have B2:=hid (below_next HB1.out sb)
 have HL2:=hid (HL1.out.below sb HL1.out.lt)
 have HT2:=hid (HT1.out.below sb HT1.out.lt)
 clear KEEP qM1 qM2 qM3 qM4 sa sb ba bb s1 HL1 HT1 HB1  c0 c1 c2 c3 c4 c5 c6 c7 c8 c9 c14 x0 x1
 have x0:=HT2.out.cellAt 0 rfl
 have x1:=HT2.out.cellAt 1 rfl
 go_wp2_with fail
 refine (qS.out _).mono ?_
 rintro e w2 ⟨rfl,hb2⟩
 have B3:=hid (below_next B2.out hb2)
 have HL3:=hid (HL2.out.below hb2 HL2.out.lt)
 clear hb2 B2 HL2 HT2 x0 x1
 go_wp2_with fail
 refine (qR.out _ HL3.out).mono ?_
 rintro e w3 ⟨rfl,hb3⟩
 have B4:=hid (below_next B3.out hb3)
 clear hb3 B3 HL3 qR qS
 have hng:(PL:Int) - (v2:Int) < (N:Int):=by omega
 go_wp2_with fail
 go_ret
 exact ⟨rfl,B4.out⟩
end Go.Proofs.YtnpdhidliaahbaaGreat
