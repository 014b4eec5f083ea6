/- Devices in memory: what a device is; its small methods that only read. -/
import Derived.Test.YtnpdhidliaahbaaGreatP01
import Derived.Test.YtnpdhidliaahbaaGreatProg
import Derived.WalkKit
import Derived.Deep.QuietTactic
import Derived.BigQuiet
set_option maxRecDepth 100000
set_option maxHeartbeats 32000000
set_option linter.unusedSimpArgs false
set_option linter.unusedVariables false
namespace Go.Proofs.YtnpdhidliaahbaaGreat
open Go.Lib (hid)
open Go Go.RowKit
structure Dev where
 kept:List ByteArray
 now:List ByteArray
 pend:List Bool
 armed:Bool
 left:Int
 acts:Int
structure Lay where
 gk:Nat
 ck:Nat
 gn:Nat
 cn:Nat
 gp:Nat
 cp:Nat
def strs (l:List ByteArray):List Value:=l.map Value.string
def bools (l:List Bool):List Value:=l.map Value.bool
structure DevAt (B:Nat) (w:World) (b:Nat) (y:Lay) (D:Dev):Prop where
 own:B<=b
 cells:Row w b 42 [.slice (some ⟨y.gk,0,none⟩) D.kept.length y.ck,.slice (some ⟨y.gn,0,none⟩) D.kept.length y.cn,.slice (some ⟨y.gp,0,none⟩) D.kept.length y.cp,.bool D.armed,.int .i64 D.left,.int .i64 D.acts]
 kept:w.ownsRow B 9 1 (.slice (some ⟨y.gk,0,none⟩) D.kept.length y.ck) D.kept.length (strs D.kept)
 now:w.ownsRow B 9 1 (.slice (some ⟨y.gn,0,none⟩) D.kept.length y.cn) D.kept.length (strs D.now)
 pend:w.ownsRow B 4 1 (.slice (some ⟨y.gp,0,none⟩) D.kept.length y.cp) D.kept.length (bools D.pend)
 ne:b ≠ y.gk/\b ≠ y.gn/\b ≠ y.gp/\y.gk ≠ y.gn/\y.gk ≠ y.gp/\y.gn ≠ y.gp
 pos:0 < D.kept.length/\D.kept.length<=4096
 left : -9223372036854775808<=D.left/\D.left<=9223372036854775807
 acts:0<=D.acts/\D.acts<=1000000000000
variable {B b:Nat} {w:World} {y:Lay} {D:Dev}
theorem DevAt.c0 (h:DevAt B w b y D):w.cell? ⟨b,0,none⟩=some (.slice (some ⟨y.gk,0,none⟩) D.kept.length y.ck):=h.cells.cellAt 0 rfl
theorem DevAt.c1 (h:DevAt B w b y D):w.cell? ⟨b,1,none⟩=some (.slice (some ⟨y.gn,0,none⟩) D.kept.length y.cn):=h.cells.cellAt 1 rfl
theorem DevAt.c2 (h:DevAt B w b y D):w.cell? ⟨b,2,none⟩=some (.slice (some ⟨y.gp,0,none⟩) D.kept.length y.cp):=h.cells.cellAt 2 rfl
theorem DevAt.c3 (h:DevAt B w b y D):w.cell? ⟨b,3,none⟩=some (.bool D.armed):=h.cells.cellAt 3 rfl
theorem DevAt.c4 (h:DevAt B w b y D):w.cell? ⟨b,4,none⟩=some (.int .i64 D.left):=h.cells.cellAt 4 rfl
theorem DevAt.c5 (h:DevAt B w b y D):w.cell? ⟨b,5,none⟩=some (.int .i64 D.acts):=h.cells.cellAt 5 rfl
theorem blocks_any (h:DevAt B w b y D):Calls Tryz.prog 86 #[.pointer (some ⟨b,0,none⟩)] w fun e w'=>e=.returned (.int .i64 D.kept.length)/\w=w':=by
 have c0:=h.c0;have hp:=h.pos;clear h;go_enter Tryz.func86,Tryz.ntmps86;go_wp2_with fail;go_ret;exact ⟨rfl,rfl⟩
theorem acts_any (h:DevAt B w b y D):Calls Tryz.prog 33 #[.pointer (some ⟨b,0,none⟩)] w fun e w'=>e=.returned (.int .i64 D.acts)/\w=w':=by
 have c0:=h.c5;clear h;go_enter Tryz.func33,Tryz.ntmps33;go_wp2_with fail;go_ret;exact ⟨rfl,rfl⟩
def Dev.dead (D:Dev):Bool:=D.armed && decide (D.left<=0)
theorem dead_any (h:DevAt B w b y D):Calls Tryz.prog 129 #[.pointer (some ⟨b,0,none⟩)] w fun e w'=>e=.returned (.bool D.dead)/\w=w':=by
 have c3:=h.c3;have c4:=h.c4;have hb:=h.left;clear h;unfold Dev.dead;obtain ⟨_,_,_,armed,left,_⟩:=D;dsimp only at c3 c4 hb ⊢;cases armed
 ·go_enter Tryz.func129,Tryz.ntmps129;go_wp2_with fail;go_ret;exact ⟨rfl,rfl⟩
 ·go_enter Tryz.func129,Tryz.ntmps129;go_wp2_with fail;go_ret;exact ⟨by first | rfl | simp,rfl⟩
def Dev.ask (D:Dev) (i:Int):Int:=if i < 0 ∨ (D.kept.length:Int)<=i then 60 else 0
theorem ask_any (h:DevAt B w b y D) (i:Int):Calls Tryz.prog 79 #[.pointer (some ⟨b,0,none⟩),.int .i64 i] w fun e w'=>e=.returned (.int .i64 (D.ask i))/\w=w':=by
 have hb:=hid (blocks_any h);have hp:=h.pos;clear h;unfold Dev.ask;generalize D.kept.length=n at *;by_cases h0:i < 0
 ·rw [if_pos (.inl h0)];go_enter Tryz.func79,Tryz.ntmps79;go_wp2_with fail;refine hb.out.mono ?_;rintro e w' ⟨rfl,rfl⟩;go_wp2_with fail;go_ret;exact ⟨rfl,rfl⟩
 ·by_cases h1:(n:Int)<=i
  ·rw [if_pos (.inr h1)];go_enter Tryz.func79,Tryz.ntmps79;go_wp2_with fail;refine hb.out.mono ?_;rintro e w' ⟨rfl,rfl⟩;go_wp2_with fail;go_ret;exact ⟨rfl,rfl⟩
  rw [if_neg (by omega)];go_enter Tryz.func79,Tryz.ntmps79;go_wp2_with fail;refine hb.out.mono ?_;rintro e w' ⟨rfl,rfl⟩;go_wp2_with fail;go_ret;exact ⟨rfl,rfl⟩
end Go.Proofs.YtnpdhidliaahbaaGreat
namespace Go.Proofs.YtnpdhidliaahbaaGreat
open Go.Lib (hid)
open Go Go.RowKit
structure Only (S:List Nat) (w w':World):Prop where
 os:w'.os=w.os
 tape:w'.tape=w.tape
 output:w'.output=w.output
 size:w.heap.size<=w'.heap.size
 block:∀ k,k < w.heap.size->k ∉ S->w'.heap[k]?=w.heap[k]?
theorem Only.refl (S:List Nat) (w:World):Only S w w:=⟨rfl,rfl,rfl,Nat.le_refl _,fun _ _ _=>rfl⟩
theorem Only.trans {S:List Nat} {a b c:World} (h:Only S a b) (k:Only S b c):Only S a c:=
 ⟨k.os.trans h.os,k.tape.trans h.tape,k.output.trans h.output,Nat.le_trans h.size k.size,fun i hi hs=>(k.block i (Nat.lt_of_lt_of_le hi h.size) hs).trans (h.block i hi hs)⟩
theorem Only.sub {S T:List Nat} {a b:World} (h:Only S a b) (hs:∀ k ∈ S,k ∈ T):Only T a b:=
 ⟨h.os,h.tape,h.output,h.size,fun i hi hn=>h.block i hi (fun h2=>hn (hs i h2))⟩
theorem Only.ofBelow {S:List Nat} {a b:World} (h:Below a.heap.size a b):Only S a b:=⟨h.os,h.tape,h.output,h.size,fun k hk _=>h.block k hk⟩
theorem Only.below {S:List Nat} {B:Nat} {a b:World} (h:Only S a b) (hB:B<=a.heap.size) (hs:∀ k ∈ S,B<=k):Below B a b:=
 ⟨h.os,h.tape,h.output,h.size,fun k hk=>h.block k (by omega) (fun h2=>by have:=hs k h2;omega)⟩
theorem Only.setCell {S:List Nat} (w:World) (p:Addr) (u:Value) (h:p.block ∈ S):Only S w (w.setCell p u):=
 ⟨rfl,rfl,rfl,by simp,fun k _ hn=>Below.heap_setCell _ _ _ _ (fun e=>hn (e ▸ h))⟩
theorem Only.drew {S:List Nat} {a b:World} (h:Only S a b):Only S a b.drew:=⟨h.os,h.tape,h.output,h.size,h.block⟩
variable {B b:Nat} {w:World} {y:Lay} {D:Dev}
theorem DevAt.field (h:DevAt B w b y D) (k:Nat) (v:Value) (D':Dev) (h1:D'.kept=D.kept) (h2:D'.now=D.now) (h3:D'.pend=D.pend)
  (hc:Row (w.setCell ⟨b,k,none⟩ v) b 42 [.slice (some ⟨y.gk,0,none⟩) D'.kept.length y.ck,.slice (some ⟨y.gn,0,none⟩) D'.kept.length y.cn,.slice (some ⟨y.gp,0,none⟩) D'.kept.length y.cp,.bool D'.armed,.int .i64 D'.left,.int .i64 D'.acts])
  (hl : -9223372036854775808<=D'.left/\D'.left<=9223372036854775807) (ha:0<=D'.acts/\D'.acts<=1000000000000):DevAt B (w.setCell ⟨b,k,none⟩ v) b y D':=by
 obtain ⟨n1,n2,n3,_⟩:=h.ne
 refine ⟨h.own,hc,?_,?_,?_,h.ne,by rw [h1];exact h.pos,hl,ha⟩
 ·rw [h1];exact ownsRow_setCell_other h.kept (by simp [Value.ownBlock];exact fun e=>n1 e.symm) _
 ·rw [h1,h2];exact ownsRow_setCell_other h.now (by simp [Value.ownBlock];exact fun e=>n2 e.symm) _
 ·rw [h1,h3];exact ownsRow_setCell_other h.pend (by simp [Value.ownBlock];exact fun e=>n3 e.symm) _
def Dev.acted (D:Dev):Dev := { D with left:=wrap64 (D.left - 1),acts:=D.acts+1 }
theorem DevAt.acted (h:DevAt B w b y D) (ha:D.acts < 1000000000000):DevAt B ((w.setCell ⟨b,4,none⟩ (.int .i64 (wrap64 (D.left - 1)))).setCell ⟨b,5,none⟩ (.int .i64 (D.acts+1))) b y D.acted:=by
 have hw : -9223372036854775808<=wrap64 (D.left - 1)/\wrap64 (D.left - 1)<=9223372036854775807:=by unfold wrap64;omega
 have h1:DevAt B (w.setCell ⟨b,4,none⟩ (.int .i64 (wrap64 (D.left - 1)))) b y { D with left:=wrap64 (D.left - 1) }:=
  h.field 4 _ _ rfl rfl rfl (h.cells.set 4 _) hw h.acts
 exact h1.field 5 _ _ rfl rfl rfl (h1.cells.set 5 _) hw (by have:=h.acts;dsimp only [Dev.acted];omega)
theorem act_any (h:DevAt B w b y D) (ha:D.acts < 1000000000000):Calls Tryz.prog 90 #[.pointer (some ⟨b,0,none⟩)] w fun e w' =>
  if D.dead then e=.returned (.int .i64 61)/\w=w' else e=.returned (.int .i64 0)/\DevAt B w' b y D.acted/\Only [b] w w':=by
 have hd:=hid (dead_any h)
 have hA:=hid (h.acted ha)
 cases hdead:D.dead
 ·rw [hdead] at hd;have c4:=h.c4;have c5:=h.c5;have f4:=h.cells.free 4 (by simp);have f5:=h.cells.free 5 (by simp);have hac:=h.acts;clear h hdead;simp only [Bool.false_eq_true,if_false];generalize D.acted=D2 at *;obtain ⟨_,_,_,armed,left,acts⟩:=D;dsimp only at c4 c5 hac hA ha;go_enter Tryz.func90,Tryz.ntmps90;go_wp2_with fail;refine hd.out.mono ?_;rintro e w' ⟨rfl,rfl⟩;go_wp2_with fail;go_ret;exact ⟨rfl,hA.out,(Only.setCell _ _ _ (by simp)).trans (Only.setCell _ _ _ (by simp))⟩
 ·rw [hdead] at hd;clear h hdead hA;simp only [if_true];go_enter Tryz.func90,Tryz.ntmps90;go_wp2_with fail;refine hd.out.mono ?_;rintro e w' ⟨rfl,rfl⟩;go_wp2_with fail;go_ret;exact ⟨rfl,rfl⟩
end Go.Proofs.YtnpdhidliaahbaaGreat
namespace Go.Proofs.YtnpdhidliaahbaaGreat
open Go.Lib (hid)
open Go Go.RowKit
variable {B b:Nat} {w:World} {y:Lay} {D:Dev}
theorem own_cellAt {B n g cap:Nat} {T:TypeId} {xs:List Value} (h:w.ownsRow B T 1 (.slice (some ⟨g,0,none⟩) n cap) n xs) {j:Nat} {u:Value} (hu:xs[j]?=some u):w.cell? ⟨g,j,none⟩=some u:=by
 have:=h.cells rfl j u hu;have hadd:(⟨g,0,none⟩:Addr).add j=⟨g,j,none⟩:=(by unfold Addr.add;split <;> simp_all);rwa [hadd] at this
def Dev.readS (D:Dev) (i:Int):ByteArray:=if i < 0 ∨ (D.kept.length:Int)<=i then ⟨#[]⟩ else D.now.getD i.toNat ⟨#[]⟩
theorem read_any (h:DevAt B w b y D) (i:Int):Calls Tryz.prog 27 #[.pointer (some ⟨b,0,none⟩),.int .i64 i] w fun e w'=>e=.returned (.tuple #[.string (D.readS i),.int .i64 (D.ask i)])/\w=w':=by
 have ha:=ask_any h i;unfold Dev.readS;by_cases hi:i < 0 ∨ (D.kept.length:Int)<=i
 ·have hk:D.ask i=60:=(by unfold Dev.ask;rw [if_pos hi]);rw [hk] at ha ⊢;rw [if_pos hi];have HA:=hid ha;clear h ha hi hk;go_enter Tryz.func27,Tryz.ntmps27;go_wp2_with fail;refine HA.out.mono ?_;rintro e w' ⟨rfl,rfl⟩;go_wp2_with fail;exact bodyPost_ret (v:=.tuple #[.string ⟨#[]⟩,.int .i64 60]) (by simp [results,Tryz.results27,go_sem]) rfl ⟨rfl,rfl⟩
 ·have hk:D.ask i=0:=(by unfold Dev.ask;rw [if_neg hi]);rw [hk] at ha ⊢;rw [if_neg hi];obtain ⟨k,rfl⟩:=Int.eq_ofNat_of_zero_le (show 0<=i by omega);have HA:=hid ha;have c1:=h.c1;have hlen:D.now.length=D.kept.length:=(by have:=h.now.1;simpa [strs] using this);have hkl:k < D.kept.length:=(by omega);have hc:w.cell? ⟨y.gn,k,none⟩=some (.string (D.now.getD k ⟨#[]⟩)):=own_cellAt h.now (by simp [strs,List.getD,hlen,hkl]);have hp:=h.pos;rw [show ((k:Int)).toNat=k from rfl];generalize D.now.getD k ⟨#[]⟩=t at *;have i0:(0:Int)<=(k:Int):=(by omega);have i1:(k:Int) < (D.kept.length:Int):=(by omega);clear h ha hi hk hlen;generalize D.kept.length=n at *;go_enter Tryz.func27,Tryz.ntmps27;go_wp2_with fail;refine HA.out.mono ?_;rintro e w' ⟨rfl,rfl⟩;go_wp2_with fail;exact bodyPost_ret (v:=.tuple #[.string t,.int .i64 0]) (by simp [results,Tryz.results27,go_sem]) rfl ⟨rfl,rfl⟩
def Dev.arm (D:Dev) (n:Int):Dev := { D with armed:=decide (0<=n),left:=n }
theorem DevAt.arm (h:DevAt B w b y D) (n:Int) (hn : -9223372036854775808<=n/\n<=9223372036854775807):DevAt B ((w.setCell ⟨b,3,none⟩ (.bool (decide (0<=n)))).setCell ⟨b,4,none⟩ (.int .i64 n)) b y (D.arm n):=by
 have h1:DevAt B (w.setCell ⟨b,3,none⟩ (.bool (decide (0<=n)))) b y { D with armed:=decide (0<=n) }:=h.field 3 _ _ rfl rfl rfl (h.cells.set 3 _) h.left h.acts;exact h1.field 4 _ _ rfl rfl rfl (h1.cells.set 4 _) hn h.acts
theorem arm_any (h:DevAt B w b y D) (n:Int) (hn : -9223372036854775808<=n/\n<=9223372036854775807):Calls Tryz.prog 42 #[.pointer (some ⟨b,0,none⟩),.int .i64 n] w fun e w'=>e=.returned (.tuple #[])/\DevAt B w' b y (D.arm n)/\Only [b] w w':=by
 have hb:=hid (blocks_any h);have HA:=hid (h.arm n hn);have hp:=h.pos;have f3:=h.cells.free 3 (by simp);have f4:=h.cells.free 4 (by simp);have c3:=h.c3;have c4:=h.c4;clear h;generalize D.arm n=D2 at *;generalize D.kept.length=m at *;go_enter Tryz.func42,Tryz.ntmps42;go_wp2_with fail;refine hb.out.mono ?_;rintro e w' ⟨rfl,rfl⟩;go_wp2_with fail;go_end0;exact ⟨rfl,HA.out,(Only.setCell _ _ _ (by simp)).trans (Only.setCell _ _ _ (by simp))⟩
end Go.Proofs.YtnpdhidliaahbaaGreat
