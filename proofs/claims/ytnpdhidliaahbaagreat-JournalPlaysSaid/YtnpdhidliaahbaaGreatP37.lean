/- A log and twelve blocks: crashes and replays, in plain Lean. -/
import Derived.Test.YtnpdhidliaahbaaGreatP35
import Derived.Test.YtnpdhidliaahbaaGreatP07
import Derived.Test.YtnpdhidliaahbaaGreatP36
import Derived.Test.YtnpdhidliaahbaaGreatP34
import Derived.Test.YtnpdhidliaahbaaGreatP24
import Derived.Test.YtnpdhidliaahbaaGreatP20
import Derived.Test.YtnpdhidliaahbaaGreatP23
import Derived.Test.YtnpdhidliaahbaaGreatP11
set_option maxRecDepth 100000
set_option maxHeartbeats 32000000
set_option linter.unusedSimpArgs false
set_option linter.unusedVariables false
namespace Go.Proofs.YtnpdhidliaahbaaGreat
open Go.Lib (hid)
open Go Go.RowKit
theorem cat_sliceS (l:List ByteArray) (h:sized l) (i:Nat) (hi:i < l.length):(txt (cat l)).extract (i * 128) ((i+1) * 128)=l.getD i ⟨#[]⟩:=by
 have e:l.getD i ⟨#[]⟩=l[i]:=(by simp [List.getD,hi]);rw [e,txt_extract];have hsp:l=l.take i ++ (l[i] :: l.drop (i+1)):=by
  rw [List.getElem_cons_drop,List.take_append_drop]
 have hc:cat l=cat (l.take i) ++ (l[i].data.toList ++ cat (l.drop (i+1))):=by
  conv=>lhs;rw [hsp]
  simp only [cat,List.map_append,List.flatten_append,List.map_cons,List.flatten_cons]
 have h1:(cat (l.take i)).length=i * 128:=by
  rw [cat_length _ (fun s hs=>h s (List.mem_of_mem_take hs)),List.length_take];congr 1;omega
 have h2:l[i].data.toList.length=128:=(by rw [Array.length_toList];exact h _ (List.getElem_mem hi));rw [hc,<- List.append_assoc,List.take_left' (by rw [List.length_append,h1,h2];omega),List.drop_left' h1];exact txt_of _
theorem blk_midS (s:ByteArray) (j:Nat):s.extract (j * 128) ((j+1) * 128)=blkS s j:=by
 conv=>lhs;rw [<- txt_of s]
 rw [txt_extract];unfold blkS;congr 1;rw [List.drop_take];congr 1;omega
theorem chop_cat_selfS (L:List ByteArray) (hL:sized L):chop (txt (cat L)) L.length=L:=by
 apply ext_blocks
 ·exact chop_length _ _
 intro i hi;rw [chop_length] at hi;have hg:∀ n,i < n->n<=L.length->(chop (txt (cat L)) n).getD i ⟨#[]⟩=blkS (txt (cat L)) i:=by
  intro n;induction n with
  | zero=>intro h;omega
  | succ n ih =>
   intro h1 h2;show (chop (txt (cat L)) n ++ [blkS (txt (cat L)) n]).getD i ⟨#[]⟩=_;rcases Nat.lt_or_ge i n with h | h
   ·have:=ih h (by omega);rw [<- this];simp only [List.getD];rw [List.getElem?_append_left (by rw [chop_length];exact h)]
   obtain rfl:i=n:=(by omega);simp [List.getD,chop_length]
 rw [hg L.length hi (Nat.le_refl _),<- blk_midS,cat_sliceS L hL i hi]
namespace Sys
open Go.Lib (hid)
theorem run_unarmed (a:Jr.Act) {D:Dev} (h:D.armed=false):(a.run D).2 ≠ 61/\(a.run D).1.armed=false:=by
 have hd:D.dead=false:=(by unfold Dev.dead;rw [h];rfl);cases a with
 | write b s =>
  show D.writeE b s ≠ 61/\(D.write b s).armed=false;refine ⟨?_,?_⟩
  ·unfold Dev.writeE;rw [hd];have:D.ask b ≠ 61:=by unfold Dev.ask;split <;> decide
   split
   ·exact this
   split <;> simp
  rcases Jr.write_cases D b s with ⟨_,e⟩ | ⟨_,_,_,e,_⟩
  ·rw [e];exact h
  exact e.trans h
 | flush =>
  show D.flushE ≠ 61/\D.flush.armed=false;refine ⟨by unfold Dev.flushE;rw [hd];simp,?_⟩;rcases Jr.flush_cases D with ⟨_,e⟩ | ⟨_,_,_,e,_⟩
  ·rw [e];exact h
  exact e.trans h
theorem unarmed:∀ (l:List Jr.Act) {D:Dev},D.armed=false->(Jr.doA l D).2 ≠ 61/\(Jr.doA l D).1.armed=false
 | [],D,h=>⟨by show (0:Int) ≠ 61;decide,h⟩
 | a :: l,D,h=>by
  rw [Jr.doA_cons];have:=run_unarmed a h;split
  ·exact unarmed l this.2
  ·exact this
variable {g:Geo.G} {D:Dev} {V:LogV} {home want next:List UInt8} {at_ q K:Nat} {l:List Jr.Txn}
theorem Dead.kept (h:Dead g D want next K):Lost g want next K D.kept/\sized D.kept/\(D.kept.length:Int)=g.blocks:=
 ⟨h.all _ .left,h.dok.kept,h.blocks⟩
theorem Dead.mono (h:Dead g D want next K) {K':Nat} (hK:K<=K'):Dead g D want next K':=
 ⟨h.dok.mono hK,h.blocks,h.all.imp fun m ⟨a,q,l,h1,h2,h3⟩=>⟨a,q,l,h1,by omega,h3⟩⟩
theorem Lost.mono {m:List ByteArray} (h:Lost g want next K m) {K':Nat} (hK:K<=K'):Lost g want next K' m:=by
 obtain ⟨a,q,l,h1,h2,h3⟩:=h;exact ⟨a,q,l,h1,by omega,h3⟩
structure Rep (g:Geo.G) (D:Dev) (h:List UInt8) (K:Nat) (at_ q:Nat) (l:List Jr.Txn):Prop where
 read:Jr.readL g D.now=some ⟨at_,q,l,Jr.sizes l⟩
 num:q+l.length<=K+1
 idle:l = []->Ok g D ⟨at_,0,q,0⟩ h h at_ q [] K
 err:(Jr.doA (Jr.replayA g l ((at_+Jr.sizes l) % Jr.plc g) (q+l.length)) D).2=0 ∨ (Jr.doA (Jr.replayA g l ((at_+Jr.sizes l) % Jr.plc g) (q+l.length)) D).2=61
 dead:Dead g (Jr.doA (Jr.replayA g l ((at_+Jr.sizes l) % Jr.plc g) (q+l.length)) D).1 h h (K+5000)
 ok:(Jr.doA (Jr.replayA g l ((at_+Jr.sizes l) % Jr.plc g) (q+l.length)) D).2=0->(Jr.doA (Jr.replayA g l ((at_+Jr.sizes l) % Jr.plc g) (q+l.length)) D).1.kept=(Jr.doA (Jr.replayA g l ((at_+Jr.sizes l) % Jr.plc g) (q+l.length)) D).1.now/\Ok g (Jr.doA (Jr.replayA g l ((at_+Jr.sizes l) % Jr.plc g) (q+l.length)) D).1 ⟨(at_+Jr.sizes l) % Jr.plc g,0,q+l.length,0⟩ h h ((at_+Jr.sizes l) % Jr.plc g) (q+l.length) [] (K+5000)
end Sys
end Go.Proofs.YtnpdhidliaahbaaGreat
namespace Go.Proofs.YtnpdhidliaahbaaGreat
open Go.Lib (hid)
open Go Go.RowKit
section
variable {Bd wb db lb:Nat} {y:Lay} {g:Geo.G} {D:Dev} {V:LogV} {home want:List UInt8} {w w':World}
end
end Go.Proofs.YtnpdhidliaahbaaGreat
namespace Go.Proofs.YtnpdhidliaahbaaGreat
open Go.Lib (hid)
open Go Go.RowKit
theorem DevAt.setCells {Bd g db:Nat} {y:Lay} {D:Dev} (hg:g ∉ devB db y):∀ (vs:List Value) (o:Nat) {w:World},DevAt Bd w db y D->DevAt Bd (w.setCells g o vs) db y D
 | [],_,_,h=>h
 | v :: r,o,w,h=>by
  unfold World.setCells;exact DevAt.setCells hg r (o+1) (h.log g o v hg)
section
variable {Bd wb db lb:Nat} {y:Lay} {g:Geo.G} {D:Dev} {V:LogV} {home want:List UInt8} {at_ q K:Nat} {l:List Jr.Txn} {w:World}
end
end Go.Proofs.YtnpdhidliaahbaaGreat
namespace Go.Proofs.YtnpdhidliaahbaaGreat
open Go.Lib (hid)
open Go Go.RowKit
def layG (a b c:Nat):Geo.G:=Geo.lay ((256+a % 60:Nat):Int) ((128+b % 20:Nat):Int) ((8+2 * (c % 4):Nat):Int)
theorem layG_of (a b c:Nat):Geo.of ((256+a % 60:Nat):Int) ((128+b % 20:Nat):Int) ((8+2 * (c % 4):Nat):Int)=(layG a b c,0):=by
 unfold Geo.of layG;rw [if_pos];unfold Geo.asked Geo.lay;dsimp only;omega
theorem layG_may (a b c:Nat):Geo.May (layG a b c):=layG_of a b c
theorem layG_blocks (a b c:Nat):(layG a b c).blocks=((256+a % 60:Nat):Int):=rfl
theorem layout_any (a b c:UInt8) (w:World):Calls Tryz.prog 47 #[.agg #[bval a,bval b,bval c]] w fun e w'=>e=.returned (.agg (Geo.cells (layG a.toNat b.toNat c.toNat)))/\Below w.heap.size w w':=by
 have qO:=hid (fun wz=>of_any ((256+a.toNat % 60:Nat):Int) ((128+b.toNat % 20:Nat):Int) ((8+2 * (c.toNat % 4):Nat):Int) wz);rw [layG_of] at qO;obtain ⟨G,hG⟩:∃ G,layG a.toNat b.toNat c.toNat=G:=⟨_,rfl⟩;rw [hG] at qO ⊢;clear hG;unfold bval;have ha:=a.toNat_lt;have hb:=b.toNat_lt;have hc:=c.toNat_lt;generalize a.toNat=A0 at *;generalize b.toNat=B0 at *;generalize c.toNat=C0 at *;have ma:((A0:Int)).tmod 60=((A0 % 60:Nat):Int):=(by rw [Int.tmod_eq_emod_of_nonneg (by omega)];omega);have mb:((B0:Int)).tmod 20=((B0 % 20:Nat):Int):=(by rw [Int.tmod_eq_emod_of_nonneg (by omega)];omega);have mc:((C0:Int)).tmod 4=((C0 % 4:Nat):Int):=(by rw [Int.tmod_eq_emod_of_nonneg (by omega)];omega);have ma2:((A0:Int)) % 60=((A0 % 60:Nat):Int):=(by omega);have mb2:((B0:Int)) % 20=((B0 % 20:Nat):Int):=(by omega);have mc2:((C0:Int)) % 4=((C0 % 4:Nat):Int):=(by omega);have la:A0 % 60 < 60:=Nat.mod_lt _ (by decide);have lb:B0 % 20 < 20:=Nat.mod_lt _ (by decide);have lc:C0 % 4 < 4:=Nat.mod_lt _ (by decide);have qO2:Hid (∀ wz,Calls Tryz.prog 57 #[.int .i64 (256+((A0 % 60:Nat):Int)),.int .i64 (128+((B0 % 20:Nat):Int)),.int .i64 (8+2 * ((C0 % 4:Nat):Int))] wz fun e w'=>e=.returned (.tuple #[.agg (Geo.cells G),.int .i64 0])/\Below wz.heap.size wz w'):=hid (fun wz=>by
  have:=qO.out wz;simpa using this)
 clear qO ha hb hc;generalize A0 % 60=A1 at *;generalize B0 % 20=B1 at *;generalize C0 % 4=C1 at *;have w1:IntKind.i64.wrap (256+(A1:Int))=256+(A1:Int):=IntWalk.i64_in _ (by omega);have w2:IntKind.i64.wrap (128+(B1:Int))=128+(B1:Int):=IntWalk.i64_in _ (by omega);have w3:IntKind.i64.wrap (2 * (C1:Int))=2 * (C1:Int):=IntWalk.i64_in _ (by omega);have w4:IntKind.i64.wrap (8+2 * (C1:Int))=8+2 * (C1:Int):=IntWalk.i64_in _ (by omega);unfold Geo.cells at *;obtain ⟨g1,g2,g3,g4,g5,g6,g7,g8,g9⟩:=G;dsimp only at *;go_enter Tryz.func47,Tryz.ntmps47;go_upto_region 1 with fail
 generalize hW:World.alloc _ _=w1;have hB1:Below w.heap.size w w1:=by rw [<- hW];exact below_box (below_box (Below.refl _ _) _) _
 have q0:Row w1 w.heap.size 54 [.int .u8 (A0:Int),.int .u8 (B0:Int),.int .u8 (C0:Int)]:=(by rw [<- hW];exact (Row.new w _ _ rfl).alloc _);have q1:Row w1 (w.heap.size+1) 30 [.int .i64 0,.int .i64 0,.int .i64 0,.int .i64 0,.int .i64 0,.int .i64 0,.int .i64 0,.int .i64 0,.int .i64 0]:=(by rw [<- hW];exact Row.new _ _ _ (by simp));clear hW;have x0:=q0.cellAt 0 rfl;have x1:=q0.cellAt 1 rfl;have x2:=q0.cellAt 2 rfl;have HB1:=hid hB1;have HQ1:=hid q1;clear hB1 q0 q1;go_upto_region 2 with (first | (go_at_call 57;(with_reducible refine (qO2.out _).mono ?_);rintro e w6 ⟨rfl,hb6⟩) | fail "none")
 have R6:=HQ1.out.below hb6 HQ1.out.lt;have hlt6:=R6.lt;have B7:=hid (below_box (below_next HB1.out hb6) (.cells #[.int .i64 g1,.int .i64 g2,.int .i64 g3,.int .i64 g4,.int .i64 g5,.int .i64 g6,.int .i64 g7,.int .i64 g8,.int .i64 g9] 30));have R7:=hid (Row.new w6 30 [.int .i64 g1,.int .i64 g2,.int .i64 g3,.int .i64 g4,.int .i64 g5,.int .i64 g6,.int .i64 g7,.int .i64 g8,.int .i64 g9] rfl);have RR7:=hid (R6.alloc (.cells #[.int .i64 g1,.int .i64 g2,.int .i64 g3,.int .i64 g4,.int .i64 g5,.int .i64 g6,.int .i64 g7,.int .i64 g8,.int .i64 g9] 30));clear R6 hb6 x0 x1 x2 hlt6;generalize w6.alloc _=w7 at *;obtain ⟨k0,k1,k2,k3,k4,k5,k6,k7,k8⟩:=R7.out.c9;obtain ⟨z0,z1,z2,z3,z4,z5,z6,z7,z8⟩:=RR7.out.c9;have f0:=RR7.out.free 0 (by simp);have f1:=RR7.out.free 1 (by simp);have f2:=RR7.out.free 2 (by simp);have f3:=RR7.out.free 3 (by simp);have f4:=RR7.out.free 4 (by simp);have f5:=RR7.out.free 5 (by simp);have f6:=RR7.out.free 6 (by simp);have f7:=RR7.out.free 7 (by simp);have f8:=RR7.out.free 8 (by simp);go_wp2_with fail;have SET:=(((((((((RR7.out.set 0 (.int .i64 g1)).set 1 (.int .i64 g2)).set 2 (.int .i64 g3)).set 3 (.int .i64 g4)).set 4 (.int .i64 g5)).set 5 (.int .i64 g6)).set 6 (.int .i64 g7)).set 7 (.int .i64 g8)).set 8 (.int .i64 g9));have BS:=(((((((((B7.out.setCell (p:=⟨w.heap.size+1,0,none⟩) (by simp) (.int .i64 g1)).setCell (p:=⟨w.heap.size+1,1,none⟩) (by simp) (.int .i64 g2)).setCell (p:=⟨w.heap.size+1,2,none⟩) (by simp) (.int .i64 g3)).setCell (p:=⟨w.heap.size+1,3,none⟩) (by simp) (.int .i64 g4)).setCell (p:=⟨w.heap.size+1,4,none⟩) (by simp) (.int .i64 g5)).setCell (p:=⟨w.heap.size+1,5,none⟩) (by simp) (.int .i64 g6)).setCell (p:=⟨w.heap.size+1,6,none⟩) (by simp) (.int .i64 g7)).setCell (p:=⟨w.heap.size+1,7,none⟩) (by simp) (.int .i64 g8)).setCell (p:=⟨w.heap.size+1,8,none⟩) (by simp) (.int .i64 g9));generalize World.setCell _ _ _=w8 at *;have hl:=run_loadVar_seg (P:=Tryz.prog) w8 (w.heap.size+1) 0 30 [.int .i64 g1,.int .i64 g2,.int .i64 g3,.int .i64 g4,.int .i64 g5,.int .i64 g6,.int .i64 g7,.int .i64 g8,.int .i64 g9] _ (fun j v hv=>by rw [Nat.zero_add];exact SET.cellAt j hv) Tryz.underlying30 rfl (by kernel_rfl);refine bodyPost_ret (v:=.agg #[.int .i64 g1,.int .i64 g2,.int .i64 g3,.int .i64 g4,.int .i64 g5,.int .i64 g6,.int .i64 g7,.int .i64 g8,.int .i64 g9]) (by simp [results,Tryz.results47,asAddr,Sem.run_bind,hl]) rfl ?_;exact ⟨rfl,BS⟩
end Go.Proofs.YtnpdhidliaahbaaGreat
