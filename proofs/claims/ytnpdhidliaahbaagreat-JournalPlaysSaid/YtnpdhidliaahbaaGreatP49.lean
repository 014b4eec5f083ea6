/- The document's device in memory; its small methods. It is told by the same data as the program's. -/
import Derived.Test.YtnpdhidliaahbaaGreatP07
import Derived.BigQuiet
import Derived.Test.YtnpdhidliaahbaaGreatP36
set_option maxRecDepth 100000
set_option maxHeartbeats 32000000
set_option linter.unusedSimpArgs false
set_option linter.unusedVariables false
namespace Go.Proofs.YtnpdhidliaahbaaGreat
open Go.Lib (hid)
open Go Go.RowKit
structure RLay where
 gn:Nat
 cn:Nat
 gw:Nat
 cw:Nat
 gp:Nat
 cp:Nat
def Dev.rleft (D:Dev):Int:=if D.armed=true then (if D.left<=0 then 0 else D.left) else -1
structure RefAt (B:Nat) (w:World) (b:Nat) (z:RLay) (D:Dev):Prop where
 own:B<=b
 cells:Row w b 86 [.slice (some ⟨z.gn,0,none⟩) D.kept.length z.cn,.slice (some ⟨z.gw,0,none⟩) D.kept.length z.cw,.slice (some ⟨z.gp,0,none⟩) D.kept.length z.cp,.int .i64 D.rleft,.int .i64 D.acts]
 now:w.ownsRow B 9 1 (.slice (some ⟨z.gn,0,none⟩) D.kept.length z.cn) D.kept.length (strs D.now)
 was:w.ownsRow B 9 1 (.slice (some ⟨z.gw,0,none⟩) D.kept.length z.cw) D.kept.length (strs D.kept)
 pend:w.ownsRow B 4 1 (.slice (some ⟨z.gp,0,none⟩) D.kept.length z.cp) D.kept.length (bools D.pend)
 ne:b ≠ z.gn/\b ≠ z.gw/\b ≠ z.gp/\z.gn ≠ z.gw/\z.gn ≠ z.gp/\z.gw ≠ z.gp
 pos:0 < D.kept.length/\D.kept.length<=4096
 left : -9223372036854775808<=D.left/\D.left<=9223372036854775807
 acts:0<=D.acts/\D.acts<=1000000000000
variable {B b:Nat} {w:World} {z:RLay} {D:Dev}
theorem RefAt.c0 (h:RefAt B w b z D):w.cell? ⟨b,0,none⟩=some (.slice (some ⟨z.gn,0,none⟩) D.kept.length z.cn):=h.cells.cellAt 0 rfl
theorem RefAt.c1 (h:RefAt B w b z D):w.cell? ⟨b,1,none⟩=some (.slice (some ⟨z.gw,0,none⟩) D.kept.length z.cw):=h.cells.cellAt 1 rfl
theorem RefAt.c2 (h:RefAt B w b z D):w.cell? ⟨b,2,none⟩=some (.slice (some ⟨z.gp,0,none⟩) D.kept.length z.cp):=h.cells.cellAt 2 rfl
theorem RefAt.c3 (h:RefAt B w b z D):w.cell? ⟨b,3,none⟩=some (.int .i64 D.rleft):=h.cells.cellAt 3 rfl
theorem RefAt.c4 (h:RefAt B w b z D):w.cell? ⟨b,4,none⟩=some (.int .i64 D.acts):=h.cells.cellAt 4 rfl
theorem RefAt.below {w':World} (h:RefAt B w b z D) (hb:Below w.heap.size w w'):RefAt B w' b z D:=
 ⟨h.own,h.cells.below hb h.cells.lt,own_below h.now hb,own_below h.was hb,own_below h.pend hb,h.ne,h.pos,h.left,h.acts⟩
theorem RefAt.bounds (h:RefAt B w b z D):(B<=b/\b < w.heap.size)/\(B<=z.gn/\z.gn < w.heap.size)/\(B<=z.gw/\z.gw < w.heap.size)/\(B<=z.gp/\z.gp < w.heap.size):=
 ⟨⟨h.own,h.cells.lt⟩,h.now.lt _ rfl,h.was.lt _ rfl,h.pend.lt _ rfl⟩
theorem rleft_in (D:Dev) (h : -9223372036854775808<=D.left/\D.left<=9223372036854775807) : -1<=D.rleft/\D.rleft<=9223372036854775807:=by
 unfold Dev.rleft;split
 ·split <;> omega
 ·omega
theorem rleft_dead (D:Dev):(D.rleft=0 ↔ D.dead=true):=by
 unfold Dev.rleft Dev.dead;cases D.armed
 ·simp
 ·simp only [if_true,Bool.true_and,decide_eq_true_eq];split <;> omega
theorem rblocks_any (h:RefAt B w b z D):Calls Tryz.prog 122 #[.pointer (some ⟨b,0,none⟩)] w fun e w'=>e=.returned (.int .i64 D.kept.length)/\w=w':=by
 have c0:=h.c0;have hp:=h.pos;clear h;go_enter Tryz.func122,Tryz.ntmps122;go_wp2_with fail;go_ret;exact ⟨rfl,rfl⟩
theorem rread_any (h:RefAt B w b z D) (i:Int):Calls Tryz.prog 126 #[.pointer (some ⟨b,0,none⟩),.int .i64 i] w fun e w'=>e=.returned (.tuple #[.string (D.readS i),.int .i64 (D.ask i)])/\w=w':=by
 have c0:=h.c0;have hp:=h.pos;unfold Dev.readS Dev.ask;by_cases h1:i < 0
 ·rw [if_pos (.inl h1),if_pos (.inl h1)];clear h;generalize D.kept.length=n at *;go_enter Tryz.func126,Tryz.ntmps126;go_wp2_with fail;exact bodyPost_ret (v:=.tuple #[.string ⟨#[]⟩,.int .i64 60]) (by simp [results,Tryz.results126,go_sem]) rfl ⟨rfl,rfl⟩
 by_cases h2:(D.kept.length:Int)<=i
 ·rw [if_pos (.inr h2),if_pos (.inr h2)];clear h;generalize D.kept.length=n at *;go_enter Tryz.func126,Tryz.ntmps126;go_wp2_with fail;exact bodyPost_ret (v:=.tuple #[.string ⟨#[]⟩,.int .i64 60]) (by simp [results,Tryz.results126,go_sem]) rfl ⟨rfl,rfl⟩
 ·rw [if_neg (by omega),if_neg (by omega)];obtain ⟨k,rfl⟩:=Int.eq_ofNat_of_zero_le (show 0<=i by omega);have hlen:D.now.length=D.kept.length:=by have:=h.now.1;simpa [strs] using this
  have hc:w.cell? ⟨z.gn,k,none⟩=some (.string (D.now.getD k ⟨#[]⟩)):=own_cellAt h.now (by simp [strs,List.getD,hlen,show k < D.kept.length by omega]);rw [show ((k:Int)).toNat=k from rfl];generalize D.now.getD k ⟨#[]⟩=t at *;have i0:(0:Int)<=(k:Int):=(by omega);have i1:(k:Int) < (D.kept.length:Int):=(by omega);clear h hlen;generalize D.kept.length=n at *;go_enter Tryz.func126,Tryz.ntmps126;go_wp2_with fail;exact bodyPost_ret (v:=.tuple #[.string t,.int .i64 0]) (by simp [results,Tryz.results126,go_sem]) rfl ⟨rfl,rfl⟩
theorem RefAt.fields (h:RefAt B w b z D) {w':World} (D':Dev) (h1:D'.kept=D.kept) (h2:D'.now=D.now) (h3:D'.pend=D.pend) (ho:Only [b] w w')
  (hc:Row w' b 86 [.slice (some ⟨z.gn,0,none⟩) D'.kept.length z.cn,.slice (some ⟨z.gw,0,none⟩) D'.kept.length z.cw,.slice (some ⟨z.gp,0,none⟩) D'.kept.length z.cp,.int .i64 D'.rleft,.int .i64 D'.acts])
  (hl : -9223372036854775808<=D'.left/\D'.left<=9223372036854775807) (ha:0<=D'.acts/\D'.acts<=1000000000000):RefAt B w' b z D':=by
 obtain ⟨n1,n2,n3,_⟩:=h.ne
 obtain ⟨_,k1,k2,k3⟩:=h.bounds
 refine ⟨h.own,hc,?_,?_,?_,h.ne,by rw [h1];exact h.pos,hl,ha⟩
 ·rw [h1,h2];exact own_same h.now (ho.block _ k1.2 (by simp;exact fun e=>n1 e.symm))
 ·rw [h1];exact own_same h.was (ho.block _ k2.2 (by simp;exact fun e=>n2 e.symm))
 ·rw [h1,h3];exact own_same h.pend (ho.block _ k3.2 (by simp;exact fun e=>n3 e.symm))
theorem acted_rleft (D:Dev) (hd:D.dead=false) (hl : -9223372036854775808<=D.left/\D.left<=9223372036854775807):D.acted.rleft=if 0 < D.rleft then D.rleft - 1 else D.rleft:=by
 unfold Dev.rleft Dev.acted;unfold Dev.dead at hd;dsimp only;cases ha:D.armed
 ·simp
 ·rw [ha] at hd;simp only [Bool.true_and,decide_eq_false_iff_not,Int.not_le] at hd;have e:wrap64 (D.left - 1)=D.left - 1:=by unfold wrap64;omega
  rw [e];simp only [if_true];rw [if_neg (show ¬ D.left<=0 by omega),if_pos hd];split <;> omega
theorem ract_any (h:RefAt B w b z D) (ha:D.acts < 1000000000000):Calls Tryz.prog 92 #[.pointer (some ⟨b,0,none⟩)] w fun e w' =>
  if D.dead then e=.returned (.bool false)/\w=w' else e=.returned (.bool true)/\RefAt B w' b z D.acted/\Only [b] w w':=by
 have c3:=h.c3
 have c4:=h.c4
 have f3:=h.cells.free 3 (by simp)
 have f4:=h.cells.free 4 (by simp)
 have hl:=rleft_in D h.left
 have hac:=h.acts
 have hd:=rleft_dead D
 cases hdd:D.dead
 ·have h0:¬ D.rleft=0:=(by rw [hd,hdd];decide);have hr:=acted_rleft D hdd h.left;have hL : -9223372036854775808<=D.acted.left/\D.acted.left<=9223372036854775807:=(by show _<=wrap64 _/\wrap64 _<=_;unfold wrap64;omega);have hA:0<=D.acted.acts/\D.acted.acts<=1000000000000:=(by show 0<=D.acts+1/\D.acts+1<=_;omega);have h64:D.acted.acts=D.acts+1:=rfl;simp only [Bool.false_eq_true,if_false];by_cases hp:0 < D.rleft
  ·rw [if_pos hp] at hr;have o1:Only [b] w (w.setCell ⟨b,3,none⟩ (.int .i64 (D.rleft - 1))):=Only.setCell _ _ _ (by simp);have o2:Only [b] w ((w.setCell ⟨b,3,none⟩ (.int .i64 (D.rleft - 1))).setCell ⟨b,4,none⟩ (.int .i64 (D.acts+1))):=o1.trans (Only.setCell _ _ _ (by simp));have HR:=hid (h.fields D.acted rfl rfl rfl o2 (by rw [hr];exact (h.cells.set 3 _).set 4 _) hL hA);have HO:=hid o2;clear o1 o2 hr hd hdd h hL hA h64;generalize D.acted=E at *;generalize D.rleft=r at *;generalize D.acts=a at *;go_enter Tryz.func92,Tryz.ntmps92;go_wp2_with fail;go_ret;exact ⟨rfl,HR.out,HO.out⟩
  rw [if_neg hp] at hr;have o2:Only [b] w (w.setCell ⟨b,4,none⟩ (.int .i64 (D.acts+1))):=Only.setCell _ _ _ (by simp);have HR:=hid (h.fields D.acted rfl rfl rfl o2 (by rw [hr];exact h.cells.set 4 _) hL hA);have HO:=hid o2;clear o2 hr hd hdd h hL hA h64;generalize D.acted=E at *;generalize D.rleft=r at *;generalize D.acts=a at *;go_enter Tryz.func92,Tryz.ntmps92;go_wp2_with fail;go_ret;exact ⟨rfl,HR.out,HO.out⟩
 ·have h0:D.rleft=0:=hd.2 hdd;simp only [if_true];rw [h0] at c3;clear h hd hdd h0 hl;go_enter Tryz.func92,Tryz.ntmps92;go_wp2_with fail;go_ret;exact ⟨rfl,rfl⟩
theorem rarm_any (h:RefAt B w b z D) (n:Int) (hn : -9223372036854775808<=n/\n<=9223372036854775807):Calls Tryz.prog 51 #[.pointer (some ⟨b,0,none⟩),.int .i64 n] w fun e w'=>e=.returned (.tuple #[])/\RefAt B w' b z (D.arm n)/\Only [b] w w':=by
 have c3:=h.c3;have f3:=h.cells.free 3 (by simp);have hr:(D.arm n).rleft=max n (-1):=by
  unfold Dev.arm Dev.rleft;dsimp only;simp only [decide_eq_true_eq];split
  ·split <;> omega
  omega
 have o1:Only [b] w (w.setCell ⟨b,3,none⟩ (.int .i64 (max n (-1)))):=Only.setCell _ _ _ (by simp);have HR:=hid (h.fields (D.arm n) rfl rfl rfl o1 (by rw [hr];exact h.cells.set 3 _) hn h.acts);have HO:=hid o1;clear h o1 hr;generalize D.rleft=r at *;generalize D.arm n=E at *;go_enter Tryz.func51,Tryz.ntmps51;go_wp2_with fail;go_end0;exact ⟨rfl,HR.out,HO.out⟩
end Go.Proofs.YtnpdhidliaahbaaGreat
namespace Go.Proofs.YtnpdhidliaahbaaGreat
open Go.Lib (hid)
open Go Go.RowKit
variable {B b:Nat} {w:World} {z:RLay} {D:Dev}
theorem RefAt.put (h:RefAt B w b z D) (k:Nat) (t:ByteArray):RefAt B ((w.setCell ⟨z.gn,k,none⟩ (.string t)).setCell ⟨z.gp,k,none⟩ (.bool true)) b z (D.put k t):=by
 obtain ⟨n1,n2,n3,n4,n5,n6⟩:=h.ne;refine ⟨h.own,(h.cells.other (fun e=>n1 e.symm) _).other (fun e=>n3 e.symm) _,?_,?_,?_,h.ne,h.pos,h.left,h.acts⟩
 ·have:=ownsRow_setCell_other (ownsRow_set h.now k (.string t)) (a:=⟨z.gp,k,none⟩) (by simp [Value.ownBlock];exact n5) (.bool true);simpa [Dev.put,strs,List.map_set] using this
 ·exact ownsRow_setCell_other (ownsRow_setCell_other h.was (by simp [Value.ownBlock];exact fun e=>n4 e.symm) _) (by simp [Value.ownBlock];exact n6) _
 ·have:=ownsRow_set (ownsRow_setCell_other h.pend (a:=⟨z.gn,k,none⟩) (by simp [Value.ownBlock];exact fun e=>n5 e.symm) (.string t)) k (.bool true);simpa [Dev.put,bools,List.map_set] using this
theorem rwrite_any (h:RefAt B w b z D) (i:Int) (t:ByteArray) (_ht:t.size<=9223372036854775807) (ha:D.acts < 1000000000000) :
  Calls Tryz.prog 54 #[.pointer (some ⟨b,0,none⟩),.int .i64 i,.string t] w fun e w'=>e=.returned (.int .i64 (D.writeE i t))/\RefAt B w' b z (D.write i t)/\Only [b,z.gn,z.gp] w w':=by
 have c0:=h.c0
 have hp:=h.pos
 by_cases hi:i < 0 ∨ (D.kept.length:Int)<=i
 ·have hk:D.ask i=60:=(by unfold Dev.ask;rw [if_pos hi]);have e1:D.writeE i t=60:=(by unfold Dev.writeE;rw [hk];rfl);have e2:D.write i t=D:=(by unfold Dev.write;rw [e1];rfl);rw [e1,e2];have HH:=hid h;clear h hk e1 e2;generalize D.kept.length=n at *;by_cases h1:i < 0
  ·go_enter Tryz.func54,Tryz.ntmps54;go_wp2_with fail;go_ret;exact ⟨rfl,HH.out,Only.refl _ _⟩
  have h2:(n:Int)<=i:=(by omega);go_enter Tryz.func54,Tryz.ntmps54;go_wp2_with fail;go_ret;exact ⟨rfl,HH.out,Only.refl _ _⟩
 ·have hk:D.ask i=0:=(by unfold Dev.ask;rw [if_neg hi]);obtain ⟨k,rfl⟩:=Int.eq_ofNat_of_zero_le (show 0<=i by omega);have i0:(0:Int)<=(k:Int):=(by omega);have i1:(k:Int) < (D.kept.length:Int):=(by omega);by_cases hs:t.size=128
  ·have hact:=ract_any h ha;cases hd:D.dead
   ·have e1:D.writeE k t=0:=(by unfold Dev.writeE;rw [hk,hs,hd];rfl);have e2:D.write k t=D.acted.put k t:=(by unfold Dev.write;rw [e1];rfl);rw [e1,e2];rw [hd] at hact;simp only [Bool.false_eq_true,if_false] at hact;have HC:=hid hact;have hkn:k < D.acted.kept.length:=(by show k < D.kept.length;omega);have hnn:Hid (D.acted.kept.length=D.kept.length):=hid rfl;clear h hact hk hd e1 e2 ha hi;generalize D.acted=E at *;generalize D.kept.length=n at *;go_enter Tryz.func54,Tryz.ntmps54;go_wp2_with fail;refine HC.out.mono ?_;rintro e w2 ⟨rfl,hE,hO⟩;have d0:=hE.c0;have d2:=hE.c2;rw [hnn.out] at d0 d2;obtain ⟨_,n2,n3,_⟩:=hE.ne;have fgn:=ownsRow_free1 hE.now k;have fgp:=ownsRow_free1 hE.pend k;have cgn:∃ u,w2.cell? ⟨z.gn,k,none⟩=some u:=⟨_,own_cellAt hE.now (List.getElem?_eq_getElem (by rw [hE.now.1];omega))⟩;have cgp:∃ u,w2.cell? ⟨z.gp,k,none⟩=some u:=⟨_,own_cellAt hE.pend (List.getElem?_eq_getElem (by rw [hE.pend.1];omega))⟩;obtain ⟨u1,cgn⟩:=cgn;obtain ⟨u2,cgp⟩:=cgp;have hbn:=hE.ne;have d2':(w2.setCell ⟨z.gn,k,none⟩ (.string t)).cell? ⟨b,2,none⟩=some (.slice (some ⟨z.gp,0,none⟩) n z.cp):=(World.cell?_setCell_other _ _ _ _ (by simp)).trans d2;have cgp':(w2.setCell ⟨z.gn,k,none⟩ (.string t)).cell? ⟨z.gp,k,none⟩=some u2:=(World.cell?_setCell_other _ _ _ _ (by simp)).trans cgp;have fgp':(w2.setCell ⟨z.gn,k,none⟩ (.string t)).frozen? ⟨z.gp,k,none⟩=false:=(by rw [World.frozen?_setCell];exact fgp);have HP:=hid (hE.put k t);have HO:=hid (((hO.sub (T:=[b,z.gn,z.gp]) (by simp)).trans (Only.setCell w2 ⟨z.gn,k,none⟩ (.string t) (by simp))).trans (Only.setCell _ ⟨z.gp,k,none⟩ (.bool true) (by simp)));clear hE hO d2 cgp fgp hbn n2 n3 c0;go_wp2_with fail;go_ret;exact ⟨rfl,HP.out,HO.out⟩
   have e1:D.writeE k t=61:=(by unfold Dev.writeE;rw [hk,hs,hd];rfl);have e2:D.write k t=D:=(by unfold Dev.write;rw [e1];rfl);rw [e1,e2];rw [hd] at hact;simp only [if_true] at hact;have HC:=hid hact;have HH:=hid h;clear h hact hk hd e1 e2 ha;generalize D.kept.length=n at *;go_enter Tryz.func54,Tryz.ntmps54;go_wp2_with fail;refine HC.out.mono ?_;rintro e w' ⟨rfl,rfl⟩;go_wp2_with fail;go_ret;exact ⟨rfl,HH.out,Only.refl _ _⟩
  have e1:D.writeE k t=2:=(by unfold Dev.writeE;rw [hk];simp [hs]);have e2:D.write k t=D:=(by unfold Dev.write;rw [e1];rfl);rw [e1,e2];have HH:=hid h;have hs':¬ (t.size:Int)=128:=(by omega);clear h hk e1 e2 ha hs;generalize D.kept.length=n at *;go_enter Tryz.func54,Tryz.ntmps54;go_wp2_with fail;go_ret;exact ⟨rfl,HH.out,Only.refl _ _⟩
theorem rpending_any (h:RefAt B w b z D):Calls Tryz.prog 37 #[.pointer (some ⟨b,0,none⟩)] w fun e w' =>
  ∃ v,e=.returned v/\w'.ownsRow w.heap.size 3 1 v (pendTo D.pend D.pend.length).length (natVs (pendTo D.pend D.pend.length))/\Below w.heap.size w w':=by
 obtain ⟨i0,hi0,hz0,hz1,hz2⟩:=info_parts info_int
 have hlen:D.pend.length=D.kept.length:=by have:=h.pend.1;simpa [bools] using this
 have hp:=h.pos
 have H:=hid h
 have HB:=hid h.bounds
 have HC:Hid (∀ w',RefAt B w' b z D->∀ k,k < D.kept.length->w'.cell? ⟨z.gp,k,none⟩=some (.bool (D.pend.getD k false))):=hid fun w' h k hk=>own_cellAt h.pend (by simp [bools,List.getD,hlen,hk])
 have H2:Hid (∀ w',RefAt B w' b z D->w'.cell? ⟨b,2,none⟩=some (.slice (some ⟨z.gp,0,none⟩) D.kept.length z.cp)):=hid fun w' h=>h.c2
 have HW:Hid (∀ w',Below w.heap.size w w'->RefAt B w' b z D):=hid fun w' hb=>H.out.below hb
 rw [hlen]
 clear h hlen H
 obtain ⟨M,hM⟩:∃ M:World->Prop,∀ w',RefAt B w' b z D=M w':=⟨_,fun _=>rfl⟩
 simp only [hM] at HC H2 HW
 clear hM
 generalize D.kept.length=n at *
 generalize D.pend=L at *
 go_enter Tryz.func37,Tryz.ntmps37
 go_wp2_with fail
 go_loopw [3,4] (fun v q wr=>∃ (j:Nat) (u:Value),j<=n/\u=v/\q=.int .i64 j/\Hid (wr.ownsRow w.heap.size 3 1 u (pendTo L j).length (natVs (pendTo L j)))/\Hid (Below w.heap.size w wr)) (fun _ q _=>n - (intOf q).toNat)
 case atStart=>exact ⟨0,_,by omega,rfl,rfl,hid (World.ownsRow_nil _ _ _ _),hid (Below.refl _ _)⟩
 case round =>
  obtain ⟨j,v,hj,rfl,rfl,hg,hbw⟩:=hrel;have hMw:=HW.out wr hbw.out;have c2:=H2.out wr hMw;by_cases hlt:j < n
  ·have hc:=HC.out wr hMw j hlt;have i0':(0:Int)<=(j:Int):=(by omega);have i1:(j:Int) < (n:Int):=(by omega);have hl:=pendTo_length L j;cases hb:L.getD j false
   ·have hr:Hid (pendTo L (j+1)=pendTo L j):=hid (by show (if L.getD j false=true then pendTo L j ++ [j] else pendTo L j)=_;rw [hb];rfl);rw [hb] at hc;clear hb;go_wp2_with fail;go_roundw;case rel=>exact ⟨j+1,_,by omega,rfl,by go_num,by rw [hr.out];exact hg,hbw⟩
    case measure=>simp [intOf];omega
   have hr:Hid (pendTo L (j+1)=pendTo L j ++ [j]):=hid (by show (if L.getD j false=true then pendTo L j ++ [j] else pendTo L j)=_;rw [hb];rfl);rw [hb] at hc;clear hb;generalize pendTo L j=P at *;have hone:∀ u ∈ ([.int .i64 (j:Int)]:List Value),u.oneCell'=true:=by simp [Value.oneCell']
   go_wp2_with (first
    | (at_builtin;refine wpList_append_own _ rfl _ _ 23 rfl w.heap.size 3 i0 (.int .i64 0) 1 8 Tryz.underlying23 hi0 hz0 hz1 hz2 rfl (by decide) _ P.length _ rfl (hg.out.alloc _) ⟨wr.heap.size,0,none⟩ 1 1 [.int .i64 j] rfl rfl (World.news_of_block (heap_alloc_new _ _)) hone (by unfold maxLen;omega) (by omega) (by have:=hbw.out.size;simp;omega) ?_))
   intro v' w1 hown hgrow _;have hW:Below w.heap.size w w1:=(hbw.out.alloc hbw.out.size (.cells #[.int .i64 j] 3)).grown hgrow (by have:=hbw.out.size;simp;omega) (fun k hk=>(hg.out.lt k hk).1);have hG:Hid (w1.ownsRow w.heap.size 3 1 v' (P ++ [j]).length (natVs (P ++ [j]))):=hid (by
    have e:natVs (P ++ [j])=natVs P ++ [.int .i64 (j:Int)]:=(by simp [natVs]);rw [e,List.length_append];exact hown)
   have HWW:=hid hW;clear hown hgrow hW;go_wp2_with fail;go_roundw;case rel=>exact ⟨j+1,v',by omega,rfl,by go_num,by rw [hr.out];exact hG,HWW⟩
   case measure=>simp [intOf];omega
  obtain rfl:j=n:=(by omega);go_wp2_with fail;go_ret;exact ⟨_,rfl,hg.out,hbw.out⟩
end Go.Proofs.YtnpdhidliaahbaaGreat
namespace Go.Proofs.YtnpdhidliaahbaaGreat
open Go.Lib (hid)
open Go Go.RowKit
variable {B b:Nat} {w:World} {z:RLay} {D:Dev}
def Apart (u v:Value):Prop:=∀ k,u.ownBlock=some k->v.ownBlock ≠ some k
theorem Apart.symm {u v:Value} (h:Apart u v):Apart v u:=fun k hv hu=>h k hu hv
theorem other_kept {T:TypeId} {u v x:Value} {n i:Nat} {xs:List Value} {w1:World} (h:w.ownsRow B T 1 u n xs) (o:Obj) (hg:(w.alloc o).grownBy w1 v.ownBlock) (ha:Apart u v) (hb:u.ownBlock ≠ some b) :
  (w1.setCell ⟨b,i,none⟩ x).ownsRow B T 1 u n xs:=by
 refine ownsRow_setCell_other ((h.alloc o).kept hg ?_) hb x
 cases hu:u.ownBlock with
 | none=>exact .inl rfl
 | some k=>exact .inr (fun e=>ha k hu e.symm)
theorem apart_new {T:TypeId} {u v:Value} {n g c m H:Nat} {xs:List Value} (h:w.ownsRow B T 1 u n xs) (hH:w.heap.size<=H) (hat:v.ownBlock=some g ∨ g=H) (ha:Apart u v):Apart u (.slice (some ⟨g,0,none⟩) m c):=by
 intro k hu e;have e':g=k:=by simpa [Value.ownBlock] using e
 subst e';rcases hat with h1 | h1
 ·exact ha g hu h1
 ·have:=(h.lt g hu).2;omega
structure RefGrow (B:Nat) (w:World) (b:Nat) (v1 v2 v3:Value) (j1 j2 j3:Nat) (t:ByteArray):Prop where
 own:B<=b
 cells:Row w b 86 [v1,v2,v3,.int .i64 (-1),.int .i64 0]
 o1:w.ownsRow B 9 1 v1 j1 (strs (List.replicate j1 t))
 o2:w.ownsRow B 9 1 v2 j2 (strs (List.replicate j2 t))
 o3:w.ownsRow B 4 1 v3 j3 (bools (List.replicate j3 false))
 ne:v1.ownBlock ≠ some b/\v2.ownBlock ≠ some b/\v3.ownBlock ≠ some b
 apart:Apart v1 v2/\Apart v1 v3/\Apart v2 v3
variable {v1 v2 v3:Value} {j1 j2 j3:Nat} {t:ByteArray}
theorem RefGrow.row (h:RefGrow B w b v1 v2 v3 j1 j2 j3 t) (o:Obj) {v x:Value} {w1:World} (i:Nat) (hg:(w.alloc o).grownBy w1 v.ownBlock) (hv:v.ownBlock ≠ some b):Row (w1.setCell ⟨b,i,none⟩ x) b 86 ([v1,v2,v3,.int .i64 (-1),.int .i64 0].set i x):=
 ((h.cells.alloc o).grown hg (fun e=>hv e.symm)).set i x
theorem RefGrow.step1 (h:RefGrow B w b v1 v2 v3 j1 j2 j3 t) (o:Obj) {w1:World} {g c:Nat} (hg:(w.alloc o).grownBy w1 v1.ownBlock) (hown:w1.ownsRow B 9 1 (.slice (some ⟨g,0,none⟩) (j1+1) c) (j1+1) (strs (List.replicate j1 t) ++ [.string t])) (hat:v1.ownBlock=some g ∨ g=(w.alloc o).heap.size) :
  RefGrow B (w1.setCell ⟨b,0,none⟩ (.slice (some ⟨g,0,none⟩) (j1+1) c)) b (.slice (some ⟨g,0,none⟩) (j1+1) c) v2 v3 (j1+1) j2 j3 t:=by
 obtain ⟨n1,n2,n3⟩:=h.ne
 obtain ⟨a1,a2,a3⟩:=h.apart
 have hs:w.heap.size<=(w.alloc o).heap.size:=by simp
 have hgb:(Value.slice (some ⟨g,0,none⟩) (j1+1) c).ownBlock ≠ some b:=by
  rcases hat with h1 | h1
  ·rw [h1] at n1;exact n1
  intro e;have e':g=b:=by simpa [Value.ownBlock] using e
  have:=h.cells.lt;simp at h1;omega
 refine ⟨h.own,h.row o 0 hg n1,?_,other_kept h.o2 o hg a1.symm n2,other_kept h.o3 o hg a2.symm n3,⟨hgb,n2,n3⟩,(apart_new h.o2 hs hat a1.symm).symm,(apart_new h.o3 hs hat a2.symm).symm,a3⟩
 have e:strs (List.replicate (j1+1) t)=strs (List.replicate j1 t) ++ [.string t]:=by simp [strs,List.replicate_succ']
 rw [e]
 exact ownsRow_setCell_other hown hgb _
theorem RefGrow.step2 (h:RefGrow B w b v1 v2 v3 j1 j2 j3 t) (o:Obj) {w1:World} {g c:Nat} (hg:(w.alloc o).grownBy w1 v2.ownBlock) (hown:w1.ownsRow B 9 1 (.slice (some ⟨g,0,none⟩) (j2+1) c) (j2+1) (strs (List.replicate j2 t) ++ [.string t])) (hat:v2.ownBlock=some g ∨ g=(w.alloc o).heap.size) :
  RefGrow B (w1.setCell ⟨b,1,none⟩ (.slice (some ⟨g,0,none⟩) (j2+1) c)) b v1 (.slice (some ⟨g,0,none⟩) (j2+1) c) v3 j1 (j2+1) j3 t:=by
 obtain ⟨n1,n2,n3⟩:=h.ne
 obtain ⟨a1,a2,a3⟩:=h.apart
 have hs:w.heap.size<=(w.alloc o).heap.size:=by simp
 have hgb:(Value.slice (some ⟨g,0,none⟩) (j2+1) c).ownBlock ≠ some b:=by
  rcases hat with h1 | h1
  ·rw [h1] at n2;exact n2
  intro e;have e':g=b:=by simpa [Value.ownBlock] using e
  have:=h.cells.lt;simp at h1;omega
 refine ⟨h.own,h.row o 1 hg n2,other_kept h.o1 o hg a1 n1,?_,other_kept h.o3 o hg a3.symm n3,⟨n1,hgb,n3⟩,apart_new h.o1 hs hat a1,a2,(apart_new h.o3 hs hat a3.symm).symm⟩
 have e:strs (List.replicate (j2+1) t)=strs (List.replicate j2 t) ++ [.string t]:=by simp [strs,List.replicate_succ']
 rw [e]
 exact ownsRow_setCell_other hown hgb _
theorem RefGrow.step3 (h:RefGrow B w b v1 v2 v3 j1 j2 j3 t) (o:Obj) {w1:World} {g c:Nat} (hg:(w.alloc o).grownBy w1 v3.ownBlock) (hown:w1.ownsRow B 4 1 (.slice (some ⟨g,0,none⟩) (j3+1) c) (j3+1) (bools (List.replicate j3 false) ++ [.bool false])) (hat:v3.ownBlock=some g ∨ g=(w.alloc o).heap.size) :
  RefGrow B (w1.setCell ⟨b,2,none⟩ (.slice (some ⟨g,0,none⟩) (j3+1) c)) b v1 v2 (.slice (some ⟨g,0,none⟩) (j3+1) c) j1 j2 (j3+1) t:=by
 obtain ⟨n1,n2,n3⟩:=h.ne
 obtain ⟨a1,a2,a3⟩:=h.apart
 have hs:w.heap.size<=(w.alloc o).heap.size:=by simp
 have hgb:(Value.slice (some ⟨g,0,none⟩) (j3+1) c).ownBlock ≠ some b:=by
  rcases hat with h1 | h1
  ·rw [h1] at n3;exact n3
  intro e;have e':g=b:=by simpa [Value.ownBlock] using e
  have:=h.cells.lt;simp at h1;omega
 refine ⟨h.own,h.row o 2 hg n3,other_kept h.o1 o hg a2 n1,other_kept h.o2 o hg a3 n2,?_,⟨n1,n2,hgb⟩,a1,apart_new h.o1 hs hat a2,apart_new h.o2 hs hat a3⟩
 have e:bools (List.replicate (j3+1) false)=bools (List.replicate j3 false) ++ [.bool false]:=by simp [bools,List.replicate_succ']
 rw [e]
 exact ownsRow_setCell_other hown hgb _
theorem RefGrow.done {n:Nat} (h:RefGrow B w b v1 v2 v3 n n n t) (hn:0 < n/\n<=4096):∃ z,RefAt B w b z (Dev.fresh (List.replicate n t)):=by
 obtain ⟨g1,c1,rfl⟩:=own_some h.o1 hn.1;obtain ⟨g2,c2,rfl⟩:=own_some h.o2 hn.1;obtain ⟨g3,c3,rfl⟩:=own_some h.o3 hn.1;obtain ⟨n1,n2,n3⟩:=h.ne;obtain ⟨a1,a2,a3⟩:=h.apart;have hl:(Dev.fresh (List.replicate n t)).kept.length=n:=List.length_replicate;have m1:g1 ≠ b:=fun e=>n1 (by rw [e];rfl);have m2:g2 ≠ b:=fun e=>n2 (by rw [e];rfl);have m3:g3 ≠ b:=fun e=>n3 (by rw [e];rfl);have m4:g1 ≠ g2:=fun e=>a1 g1 rfl (by rw [e];rfl);have m5:g1 ≠ g3:=fun e=>a2 g1 rfl (by rw [e];rfl);have m6:g2 ≠ g3:=fun e=>a3 g2 rfl (by rw [e];rfl);refine ⟨⟨g1,c1,g2,c2,g3,c3⟩,⟨h.own,?_,?_,?_,?_,⟨m1.symm,m2.symm,m3.symm,m4,m5,m6⟩,by rw [hl];exact hn,by simp [Dev.fresh],by simp [Dev.fresh]⟩⟩
 ·rw [hl];exact h.cells
 ·rw [hl];exact h.o1
 ·rw [hl];exact h.o2
 ·rw [hl];have e:(Dev.fresh (List.replicate n t)).pend=List.replicate n false:=by simp [Dev.fresh]
  rw [e];exact h.o3
theorem RefGrow.start (w:World) (t:ByteArray):RefGrow w.heap.size (w.alloc (.cells #[.slice none 0 0,.slice none 0 0,.slice none 0 0,.int .i64 (-1),.int .i64 0] 86)) w.heap.size (.slice none 0 0) (.slice none 0 0) (.slice none 0 0) 0 0 0 t:=
 ⟨Nat.le_refl _,Row.new w _ [_,_,_,_,_] rfl,World.ownsRow_nil _ _ _ _,World.ownsRow_nil _ _ _ _,World.ownsRow_nil _ _ _ _,by simp [Value.ownBlock],by simp [Apart,Value.ownBlock]⟩
theorem rnew_any (n:Nat) (hn:1<=n/\n<=4096) :
  Calls Tryz.prog 49 #[.int .i64 n] w fun e w'=>∃ b,e=.returned (.tuple #[.pointer (some ⟨b,0,none⟩),.int .i64 0])/\(∃ z,RefAt w.heap.size w' b z (Dev.fresh (List.replicate n zblock)))/\Below w.heap.size w w':=by
 obtain ⟨ib,hib,hzb,hsb,hbb⟩:=info_parts info_byte
 obtain ⟨i1,hi1,hz1,hs1,hb1⟩:=info_parts info_string
 obtain ⟨i2,hi2,hz2,hs2,hb2⟩:=info_parts info_bool
 have q1:¬ ((n:Int) < 1):=by omega
 have q2:¬ (4096 < (n:Int)):=by omega
 have hmk:∀ wx:World,(Instr.makeSlice 94 (.int .i64 128) (.int .i64 128)).run Tryz.prog wx=.ok (.slice (some ⟨wx.heap.size,0,none⟩) 128 128) (wx.alloc (.cells (bcells (fillTo 0 0)).toArray 5)):=fun wx=>by
  have hr:=run_make (P:=Tryz.prog) wx 94 5 ib (.int .u8 0) Tryz.underlying94 hib hzb .i64 .i64 128 128 (by omega) (by omega) (by rw [hbb];omega) (by omega);rw [fillTo_zero,<- bcells_zero];simpa [hsb,Value.cells,madeCells_one] using hr
 have hcv:∀ wx:World,∀ c:Nat,(convert 94 9 (.slice (some ⟨wx.heap.size,0,none⟩) 128 c)).run Tryz.prog (wx.alloc (.cells (bcells (fillTo 0 0)).toArray 5))=.ok (.string zblock) (wx.alloc (.cells (bcells (fillTo 0 0)).toArray 5)):=fun wx c=>by
  have e:zblock=(⟨(fillTo 0 0).toArray⟩:ByteArray):=(by rw [fillTo_zero];rfl);rw [e];exact run_string_of_row _ _ 5 128 c (by rw [fillTo_length _ _ (Nat.zero_le _)]) Tryz.underlying94 Tryz.underlying5 Tryz.underlying9 (Row.new wx _ _ rfl)
 generalize zblock=t at *
 have hg0:Hid (RefGrow (w.heap.size+1) ((w.alloc (.cells (bcells (fillTo 0 0)).toArray 5)).alloc (.cells #[.slice none 0 0,.slice none 0 0,.slice none 0 0,.int .i64 (-1),.int .i64 0] 86)) (w.heap.size+1) (.slice none 0 0) (.slice none 0 0) (.slice none 0 0) 0 0 0 t):=hid (by
  have:=RefGrow.start (w.alloc (.cells (bcells (fillTo 0 0)).toArray 5)) t;simpa using this)
 have hb0:Hid (Below w.heap.size w ((w.alloc (.cells (bcells (fillTo 0 0)).toArray 5)).alloc (.cells #[.slice none 0 0,.slice none 0 0,.slice none 0 0,.int .i64 (-1),.int .i64 0] 86))):=hid (((Below.refl _ _).alloc (Nat.le_refl _) _).alloc (by simp) _)
 go_enter Tryz.func49,Tryz.ntmps49
 go_wp2_with fail
 clear hmk hcv
 generalize hbb0:w.heap.size+1=bb at *
 have hone:∀ u ∈ ([.string t]:List Value),u.oneCell'=true:=by simp [Value.oneCell']
 have hone2:∀ u ∈ ([.bool false]:List Value),u.oneCell'=true:=by simp [Value.oneCell']
 go_loopw [6] (fun q wr=>∃ (j:Nat) (v1 v2 v3:Value),j<=n/\q=.int .i64 j/\Hid (RefGrow bb wr bb v1 v2 v3 j j j t)/\Hid (Below w.heap.size w wr)) (fun q _=>n - (intOf q).toNat)
 case atStart=>exact ⟨0,_,_,_,by omega,rfl,hg0,hb0⟩
 case round =>
  obtain ⟨j,v1,v2,v3,hj,rfl,hg,hb⟩:=hrel;have c0:=hg.out.cells.cellAt 0 rfl;have f0:=hg.out.cells.free 0 (by simp);have hbl:=hg.out.cells.lt;by_cases hlt:j < n
  ·have i0:(0:Int)<=(j:Int):=(by omega);have i1':(j:Int) < (n:Int):=by omega
   go_wp2_with (first
    | (at_builtin;refine wpList_append_lies _ rfl _ _ 39 rfl bb 9 i1 (.string ⟨#[]⟩) 1 16 Tryz.underlying39 hi1 hz1 hs1 hb1 rfl (by decide) v1 j _ rfl (hg.out.o1.alloc _) ⟨wr.heap.size,0,none⟩ 1 1 [.string t] rfl rfl (World.news_of_block (heap_alloc_new _ _)) hone (by decide) (by unfold maxLen;omega) (by omega) (by simp;omega) _ rfl ?_))
   intro g1 q1 w1 hown1 hgrow1 hat1 hlt1;have e1:(wr.alloc (.cells #[.string t] 9)).heap.size=wr.heap.size+1:=by simp
   have n1:=hg.out.ne.1;have r1:=(hg.out.cells.alloc (.cells #[.string t] 9)).grown hgrow1 (fun e=>n1 e.symm);have c0':=r1.cellAt 0 rfl;have f0':=r1.free 0 (by simp);have G1:=hid (hg.out.step1 _ hgrow1 hown1 (by rw [e1];exact hat1));have B1:=hid (((hb.out.alloc hb.out.size (.cells #[.string t] 9)).grown hgrow1 (by have:=hb.out.size;simp;omega) (fun k hk=>by have:=(hg.out.o1.lt k hk).1;omega)).setCell (p:=⟨bb,0,none⟩) (by dsimp only;omega) (.slice (some ⟨g1,0,none⟩) (j+1) q1));have s1:(w1.setCell ⟨bb,0,none⟩ (.slice (some ⟨g1,0,none⟩) (j+1) q1)).heap.size=w1.heap.size:=(by simp);have c1:=G1.out.cells.cellAt 1 rfl;have f1:=G1.out.cells.free 1 (by simp);clear c0 f0 r1 hgrow1 hown1 hat1 hg hb e1 n1;go_upto_region 9 with fail
   generalize w1.setCell ⟨bb,0,none⟩ (.slice (some ⟨g1,0,none⟩) (j+1) q1)=W1 at *;generalize Value.slice (some ⟨g1,0,none⟩) (j+1) q1=v1' at *;have hbl1:=G1.out.cells.lt;clear s1 hlt1 hbl
   go_wp2_with (first
    | (at_builtin;refine wpList_append_lies _ rfl _ _ 39 rfl bb 9 i1 (.string ⟨#[]⟩) 1 16 Tryz.underlying39 hi1 hz1 hs1 hb1 rfl (by decide) v2 j _ rfl (G1.out.o2.alloc _) ⟨W1.heap.size,0,none⟩ 1 1 [.string t] rfl rfl (World.news_of_block (heap_alloc_new _ _)) hone (by decide) (by unfold maxLen;omega) (by omega) (by simp;omega) _ rfl ?_))
   intro g2 q2 w2 hown2 hgrow2 hat2 hlt2;have e2:(W1.alloc (.cells #[.string t] 9)).heap.size=W1.heap.size+1:=by simp
   have n2:=G1.out.ne.2.1;have r2:=(G1.out.cells.alloc (.cells #[.string t] 9)).grown hgrow2 (fun e=>n2 e.symm);have c1':=r2.cellAt 1 rfl;have f1':=r2.free 1 (by simp);have G2:=hid (G1.out.step2 _ hgrow2 hown2 (by rw [e2];exact hat2));have B2:=hid (((B1.out.alloc B1.out.size (.cells #[.string t] 9)).grown hgrow2 (by have:=B1.out.size;simp;omega) (fun k hk=>by have:=(G1.out.o2.lt k hk).1;omega)).setCell (p:=⟨bb,1,none⟩) (by dsimp only;omega) (.slice (some ⟨g2,0,none⟩) (j+1) q2));have c2:=G2.out.cells.cellAt 2 rfl;clear c1 f1 r2 hgrow2 hown2 hat2 G1 B1 e2 n2;go_upto_region 10 with fail
   generalize w2.setCell ⟨bb,1,none⟩ (.slice (some ⟨g2,0,none⟩) (j+1) q2)=W2 at *;generalize Value.slice (some ⟨g2,0,none⟩) (j+1) q2=v2' at *;have hbl2:=G2.out.cells.lt;clear hlt2 hbl1
   go_wp2_with (first
    | (at_builtin;refine wpList_append_lies _ rfl _ _ 40 rfl bb 4 i2 (.bool false) 1 1 Tryz.underlying40 hi2 hz2 hs2 hb2 rfl (by decide) v3 j _ rfl (G2.out.o3.alloc _) ⟨W2.heap.size,0,none⟩ 1 1 [.bool false] rfl rfl (World.news_of_block (heap_alloc_new _ _)) hone2 (by decide) (by unfold maxLen;omega) (by omega) (by simp;omega) _ rfl ?_))
   intro g3 q3 w3 hown3 hgrow3 hat3 hlt3;have e3:(W2.alloc (.cells #[.bool false] 4)).heap.size=W2.heap.size+1:=by simp
   have n3:=G2.out.ne.2.2;have r3:=(G2.out.cells.alloc (.cells #[.bool false] 4)).grown hgrow3 (fun e=>n3 e.symm);have c2':=r3.cellAt 2 rfl;have f2':=r3.free 2 (by simp);have G3:=hid (G2.out.step3 _ hgrow3 hown3 (by rw [e3];exact hat3));have B3:=hid (((B2.out.alloc B2.out.size (.cells #[.bool false] 4)).grown hgrow3 (by have:=B2.out.size;simp;omega) (fun k hk=>by have:=(G2.out.o3.lt k hk).1;omega)).setCell (p:=⟨bb,2,none⟩) (by dsimp only;omega) (.slice (some ⟨g3,0,none⟩) (j+1) q3));clear c2 r3 hgrow3 hown3 hat3 G2 B2 e3 n3;go_wp2_with fail;go_roundw;case rel=>exact ⟨j+1,_,_,_,by omega,by go_num,G3,B3⟩
   case measure=>simp [intOf];omega
  obtain rfl:j=n:=(by omega);obtain ⟨z,hz⟩:=hg.out.done (by omega);have hz':RefAt w.heap.size wr bb z (Dev.fresh (List.replicate j t)):=⟨by omega,hz.cells,own_mono hz.now (by omega),own_mono hz.was (by omega),own_mono hz.pend (by omega),hz.ne,hz.pos,hz.left,hz.acts⟩;have HZ:=hid hz';clear hz hz';go_wp2_with fail;exact bodyPost_ret (v:=.tuple #[.pointer (some ⟨bb,0,none⟩),.int .i64 0]) (by simp [results,Tryz.results49,go_sem]) rfl ⟨_,rfl,⟨_,HZ.out⟩,hb.out⟩
end Go.Proofs.YtnpdhidliaahbaaGreat
namespace Go.Proofs.YtnpdhidliaahbaaGreat
open Go.Lib (hid)
open Go Go.RowKit
variable {B b:Nat} {w:World} {z:RLay} {D:Dev}
theorem cat_take (l:List ByteArray) (j:Nat) (h:j < l.length):txt (cat (l.take j)) ++ l.getD j ⟨#[]⟩=txt (cat (l.take (j+1))):=by
 have e:l.getD j ⟨#[]⟩=l[j]:=(by simp [List.getD,h]);rw [List.take_succ_eq_append_getElem h,e];conv=>lhs;rw [<- txt_of l[j],txt_append]
 congr 1;simp only [cat,List.map_append,List.flatten_append,List.map_cons,List.map_nil,List.flatten_cons,List.flatten_nil,List.append_nil]
theorem cat_take_size (l:List ByteArray) (hs:sized l) (j:Nat) (h:j < l.length):(txt (cat (l.take j))).size=j * 128/\(l.getD j ⟨#[]⟩).size=128:=by
 constructor
 ·show (List.toArray _).size=_;rw [List.size_toArray,cat_length _ (fun s hs'=>hs s (List.mem_of_mem_take hs')),List.length_take];congr 1;omega
 ·have e:l.getD j ⟨#[]⟩=l[j]:=(by simp [List.getD,h]);rw [e];exact hs _ (List.getElem_mem h)
def Dev.flushTo (D:Dev):Nat->Dev
 | 0=>D
 | j+1 => { D.flushTo j with kept:=(D.flushTo j).kept.set j (D.now.getD j ⟨#[]⟩),pend:=(D.flushTo j).pend.set j false }
theorem flushTo_fix (D:Dev) (j:Nat):(D.flushTo j).now=D.now/\(D.flushTo j).armed=D.armed/\(D.flushTo j).left=D.left/\(D.flushTo j).acts=D.acts/\(D.flushTo j).kept.length=D.kept.length/\(D.flushTo j).pend.length=D.pend.length:=by
 induction j with
 | zero=>exact ⟨rfl,rfl,rfl,rfl,rfl,rfl⟩
 | succ j ih =>
  obtain ⟨h1,h2,h3,h4,h5,h6⟩:=ih;refine ⟨h1,h2,h3,h4,?_,?_⟩
  ·show ((D.flushTo j).kept.set j _).length=_;rw [List.length_set];exact h5
  show ((D.flushTo j).pend.set j _).length=_;rw [List.length_set];exact h6
theorem flushTo_at (D:Dev) (hp:D.pend.length=D.kept.length) (j:Nat) (hj:j<=D.kept.length):∀ i,(D.flushTo j).kept.getD i ⟨#[]⟩=(if i < j then D.now.getD i ⟨#[]⟩ else D.kept.getD i ⟨#[]⟩)/\(D.flushTo j).pend.getD i false=(if i < j then false else D.pend.getD i false):=by
 induction j with
 | zero=>intro i;simp [Dev.flushTo]
 | succ j ih =>
  intro i;have ih:=ih (by omega) i;obtain ⟨_,_,_,_,h5,h6⟩:=flushTo_fix D j;constructor
  ·show ((D.flushTo j).kept.set j (D.now.getD j ⟨#[]⟩)).getD i _=_;rw [getD_set _ _ _ _ _ (by rw [h5];omega),ih.1];by_cases h:j=i
   ·subst h;rw [if_pos rfl,if_pos (by omega)]
   rw [if_neg h];by_cases h2:i < j
   ·rw [if_pos h2,if_pos (by omega)]
   rw [if_neg h2,if_neg (by omega)]
  show ((D.flushTo j).pend.set j false).getD i _=_;rw [getD_setB _ _ _ _ (by rw [h6,hp];omega),ih.2];by_cases h:j=i
  ·subst h;rw [if_pos rfl,if_pos (by omega)]
  rw [if_neg h];by_cases h2:i < j
  ·rw [if_pos h2,if_pos (by omega)]
  rw [if_neg h2,if_neg (by omega)]
theorem ext_bools (a b:List Bool) (hl:a.length=b.length) (h:∀ i,i < a.length->a.getD i false=b.getD i false):a=b:=by
 apply List.ext_getElem hl;intro i h1 h2;have:=h i h1;simpa [List.getD,h1,h2] using this
theorem flushTo_all (D:Dev) (hl:D.now.length=D.kept.length) (hp:D.pend.length=D.kept.length):D.flushTo D.kept.length=D.flushed:=by
 obtain ⟨h1,h2,h3,h4,h5,h6⟩:=flushTo_fix D D.kept.length;have h7:(D.flushTo D.kept.length).kept=D.now:=ext_blocks _ _ (h5.trans hl.symm) fun i hi=>by
  rw [(flushTo_at D hp _ (Nat.le_refl _) i).1,if_pos (by rw [<- h5];exact hi)]
 have h8:(D.flushTo D.kept.length).pend=List.replicate D.kept.length false:=ext_bools _ _ (by rw [h6,List.length_replicate,hp]) fun i hi=>by
  have hi':i < D.kept.length:=(by rw [h6,hp] at hi;exact hi);rw [(flushTo_at D hp _ (Nat.le_refl _) i).2,if_pos hi'];simp [List.getD,hi']
 unfold Dev.flushed;generalize D.flushTo D.kept.length=E at *;obtain ⟨k,n,p,a,l,c⟩:=E;dsimp only at *;rw [h1,h2,h3,h4,h7,h8]
theorem RefAt.step (h:RefAt B w b z D) (j:Nat) (t:ByteArray):RefAt B ((w.setCell ⟨z.gw,j,none⟩ (.string t)).setCell ⟨z.gp,j,none⟩ (.bool false)) b z { D with kept:=D.kept.set j t,pend:=D.pend.set j false }:=by
 obtain ⟨n1,n2,n3,n4,n5,n6⟩:=h.ne;have hl:(D.kept.set j t).length=D.kept.length:=List.length_set;refine ⟨h.own,?_,?_,?_,?_,h.ne,by dsimp only;rw [hl];exact h.pos,h.left,h.acts⟩
 ·dsimp only;rw [hl];exact (h.cells.other (fun e=>n2 e.symm) _).other (fun e=>n3 e.symm) _
 ·dsimp only;rw [hl];exact ownsRow_setCell_other (ownsRow_setCell_other h.now (by simp [Value.ownBlock];exact n4) _) (by simp [Value.ownBlock];exact n5) _
 ·dsimp only;rw [hl];have:=ownsRow_setCell_other (ownsRow_set h.was j (.string t)) (a:=⟨z.gp,j,none⟩) (by simp [Value.ownBlock];exact n6) (.bool false);simpa [strs,List.map_set] using this
 ·dsimp only;rw [hl];have:=ownsRow_set (ownsRow_setCell_other h.pend (a:=⟨z.gw,j,none⟩) (by simp [Value.ownBlock];exact fun e=>n6 e.symm) (.string t)) j (.bool false);simpa [bools,List.map_set] using this
theorem rflush_any (h:RefAt B w b z D) (ha:D.acts < 1000000000000) :
  Calls Tryz.prog 124 #[.pointer (some ⟨b,0,none⟩)] w fun e w'=>e=.returned (.int .i64 D.flushE)/\RefAt B w' b z D.flush/\Only [b,z.gw,z.gp] w w':=by
 have hact:=ract_any h ha
 cases hd:D.dead
 ·have e1:D.flushE=0:=(by unfold Dev.flushE;rw [hd];rfl);have e2:D.flush=D.acted.flushed:=(by unfold Dev.flush;rw [hd];rfl);rw [e1,e2];rw [hd] at hact;simp only [Bool.false_eq_true,if_false] at hact;have HC:=hid hact;have hlen:D.acted.now.length=D.acted.kept.length:=(by have:=h.now.1;show D.now.length=D.kept.length;simpa [strs] using this);have hpl:D.acted.pend.length=D.acted.kept.length:=(by have:=h.pend.1;show D.pend.length=D.kept.length;simpa [bools] using this);have hfin:=hid (flushTo_all D.acted hlen hpl);have hpos:0 < D.acted.kept.length/\D.acted.kept.length<=4096:=h.pos;clear h hact e1 e2 hd ha;generalize D.acted=E at *;have hlen':=hid hlen;obtain ⟨n,hn⟩:∃ n,E.kept.length=n:=⟨_,rfl⟩;rw [hn] at hfin hpos hlen';go_enter Tryz.func124,Tryz.ntmps124;go_wp2_with fail;refine HC.out.mono ?_;rintro e w2 ⟨rfl,hE,hO⟩;have hE0:=hid hE;have hO0:=hid (hO.sub (T:=[b,z.gw,z.gp]) (by simp));clear hE hO HC;go_wp2_with fail;go_loopw [3] (fun q wr=>∃ j:Nat,j<=n/\q=.int .i64 j/\Hid (RefAt B wr b z (E.flushTo j))/\Hid (Only [b,z.gw,z.gp] w wr)) (fun q _=>n - (intOf q).toNat);case atStart=>exact ⟨0,by omega,rfl,hE0,hO0⟩
  case round =>
   obtain ⟨j,hj,rfl,hr,ho⟩:=hrel;obtain ⟨f1,_,_,_,f5,f6⟩:=flushTo_fix E j;have c0:=hr.out.c0;have c1:=hr.out.c1;have c2:=hr.out.c2;rw [f5,hn] at c0 c1 c2;by_cases hlt:j < n
   ·have i0:(0:Int)<=(j:Int):=(by omega);have i1:(j:Int) < (n:Int):=(by omega);have d0:wr.cell? ⟨z.gn,j,none⟩=some (.string (E.now.getD j ⟨#[]⟩)):=own_cellAt hr.out.now (by rw [f1];simp [strs,List.getD,show j < E.now.length from (by rw [hlen'.out];exact hlt)]);have d1:∃ u,wr.cell? ⟨z.gw,j,none⟩=some u:=⟨_,own_cellAt hr.out.was (List.getElem?_eq_getElem (by rw [hr.out.was.1,f5,hn];omega))⟩;have d2:∃ u,wr.cell? ⟨z.gp,j,none⟩=some u:=⟨_,own_cellAt hr.out.pend (List.getElem?_eq_getElem (by rw [hr.out.pend.1,f5,hn];omega))⟩;obtain ⟨u1,d1⟩:=d1;obtain ⟨u2,d2⟩:=d2;have g1:=ownsRow_free1 hr.out.was j;have g2:=ownsRow_free1 hr.out.pend j;obtain ⟨n1,n2,n3,n4,n5,n6⟩:=hr.out.ne;have hst:=hid (hr.out.step j (E.now.getD j ⟨#[]⟩));have hso:Hid (Only [b,z.gw,z.gp] w ((wr.setCell ⟨z.gw,j,none⟩ (.string (E.now.getD j ⟨#[]⟩))).setCell ⟨z.gp,j,none⟩ (.bool false))):=hid ((ho.out.trans (Only.setCell wr ⟨z.gw,j,none⟩ _ (by simp))).trans (Only.setCell _ ⟨z.gp,j,none⟩ _ (by simp)));have hstep:Hid (E.flushTo (j+1) = { E.flushTo j with kept:=(E.flushTo j).kept.set j (E.now.getD j ⟨#[]⟩),pend:=(E.flushTo j).pend.set j false }):=hid rfl;have hnb:¬ b=z.gw:=n2;have hnp:¬ z.gp=z.gw:=fun e=>n6 e.symm;generalize E.now.getD j ⟨#[]⟩=t at *;have hc2:(wr.setCell ⟨z.gw,j,none⟩ (.string t)).cell? ⟨b,2,none⟩=some (.slice (some ⟨z.gp,0,none⟩) n z.cp):=(World.cell?_setCell_other _ _ _ _ (by simp)).trans c2;have hd2:(wr.setCell ⟨z.gw,j,none⟩ (.string t)).cell? ⟨z.gp,j,none⟩=some u2:=(World.cell?_setCell_other _ _ _ _ (by simp)).trans d2;have hg2:(wr.setCell ⟨z.gw,j,none⟩ (.string t)).frozen? ⟨z.gp,j,none⟩=false:=by rw [World.frozen?_setCell];exact g2
    clear n1 n2 n3 n4 n5 n6;go_wp2_with fail;go_still_tail 13,(by kernel_rfl);go_wp2_with fail;go_roundw;case rel=>exact ⟨j+1,by omega,by go_num,by rw [hstep.out];exact hid (hst.out.below ⟨rfl,rfl,rfl,Nat.le_refl _,fun _ _=>rfl⟩),hid hso.out.drew⟩
    case measure=>simp [intOf];omega
   obtain rfl:j=n:=(by omega);rw [hfin.out] at hr;go_wp2_with fail;go_ret;exact ⟨rfl,hr.out,ho.out⟩
 ·have e1:D.flushE=61:=(by unfold Dev.flushE;rw [hd];rfl);have e2:D.flush=D:=(by unfold Dev.flush;rw [hd];rfl);rw [e1,e2];rw [hd] at hact;simp only [if_true] at hact;have HC:=hid hact;have HH:=hid h;clear h hact hd e1 e2 ha;go_enter Tryz.func124,Tryz.ntmps124;go_wp2_with fail;refine HC.out.mono ?_;rintro e w' ⟨rfl,rfl⟩;go_wp2_with fail;go_ret;exact ⟨rfl,HH.out,Only.refl _ _⟩
theorem cat_take_sizes (l:List ByteArray) (hs:sized l) (j:Nat) (h:j < l.length) (T:ByteArray) (hT:T=l.getD j ⟨#[]⟩):(txt (cat (l.take j))).size=j * 128/\T.size=128/\txt (cat (l.take j)) ++ T=txt (cat (l.take (j+1))):=by
 subst hT;exact ⟨(cat_take_size l hs j h).1,(cat_take_size l hs j h).2,cat_take l j h⟩
theorem rcrash_any (h:RefAt B w b z D) (k:Nat) (hok:D.Ok k) (ad:Option Addr) (cap:Nat) (keep:List Bool) (hk:BoolsAt w ad keep) (hkl:keep.length<=9223372036854775807) :
  Calls Tryz.prog 52 #[.pointer (some ⟨b,0,none⟩),.slice ad keep.length cap] w fun e w'=>e=.returned (.string (txt (cat (D.crash keep))))/\w=w':=by
 have c0:=h.c0
 have c1:=h.c1
 have c2:=h.c2
 have hp:=h.pos
 have HK:=hid hk
 have hcl:=crash_length D keep
 have hcs:=crash_sized D k hok keep
 have d0:Hid (∀ i,i < D.kept.length->w.cell? ⟨z.gn,i,none⟩=some (.string (D.now.getD i ⟨#[]⟩))):=hid fun i hi=>own_cellAt h.now (by simp [strs,List.getD,show i < D.now.length from (by rw [hok.len];exact hi)])
 have d1:Hid (∀ i,i < D.kept.length->w.cell? ⟨z.gw,i,none⟩=some (.string (D.kept.getD i ⟨#[]⟩))):=hid fun i hi=>own_cellAt h.was (by simp [strs,List.getD,hi])
 have d2:Hid (∀ i,i < D.kept.length->w.cell? ⟨z.gp,i,none⟩=some (.bool (D.pend.getD i false))):=hid fun i hi=>own_cellAt h.pend (by simp [bools,List.getD,show i < D.pend.length from (by rw [hok.plen];exact hi)])
 have hat:=hid (fun i hi=>crash_at D k hok keep i hi)
 have hst:=hid (fun i (hi:i < D.kept.length) T hT=>cat_take_sizes (D.crash keep) hcs i (by rw [hcl];exact hi) T hT)
 have hfin:Hid (txt (cat ((D.crash keep).take D.kept.length))=txt (cat (D.crash keep))):=hid (by rw [<- hcl,List.take_length])
 have h00:Hid (txt (cat ((D.crash keep).take 0))=⟨#[]⟩):=hid rfl
 have rs:=fun i=>hid (rank_succ D.pend i)
 have hrl:Hid (∀ i,i<=D.kept.length->rank D.pend i<=D.kept.length):=hid fun i hi=>by
  have:=pendTo_length D.pend i;show (pendTo D.pend i).length<=_;omega
 clear h hk hcl hcs hok
 generalize txt (cat (D.crash keep))=RES at *
 generalize D.kept.length=n at *
 obtain ⟨S,hS⟩:∃ S:Nat->ByteArray,∀ i,txt (cat ((D.crash keep).take i))=S i:=⟨_,fun _=>rfl⟩
 obtain ⟨Z0,hZ0⟩:∃ Z:Nat->ByteArray,∀ i,(D.crash keep).getD i ⟨#[]⟩=Z i:=⟨_,fun _=>rfl⟩
 obtain ⟨R,hR⟩:∃ R:Nat->Nat,∀ i,rank D.pend i=R i:=⟨_,fun _=>rfl⟩
 obtain ⟨E,hE⟩:∃ E:Nat->Bool,∀ i,D.pend.getD i false=E i:=⟨_,fun _=>rfl⟩
 obtain ⟨Z1,hZ1⟩:∃ Z:Nat->ByteArray,∀ i,D.now.getD i ⟨#[]⟩=Z i:=⟨_,fun _=>rfl⟩
 obtain ⟨Z2,hZ2⟩:∃ Z:Nat->ByteArray,∀ i,D.kept.getD i ⟨#[]⟩=Z i:=⟨_,fun _=>rfl⟩
 have r0:Hid (R 0=0):=hid (by rw [<- hR];rfl)
 simp only [hS,hZ0,hR,hE,hZ1,hZ2] at d0 d1 d2 hat hst hfin h00 rs hrl
 clear hS hZ0 hR hE hZ1 hZ2
 go_enter Tryz.func52,Tryz.ntmps52
 go_wp2_with fail
 go_loopw [5,6,7] (fun s r q wr=>∃ i:Nat,i<=n/\s=.string (S i)/\r=.int .i64 (R i)/\q=.int .i64 i/\w=wr) (fun _ _ q _=>n - (intOf q).toNat)
 case atStart=>exact ⟨0,by omega,by rw [h00.out],by rw [r0.out];rfl,rfl,rfl⟩
 case round =>
  obtain ⟨i,hi,rfl,rfl,rfl,rfl⟩:=hrel;by_cases hlt:i < n
  ·have i0:(0:Int)<=(i:Int):=(by omega);have i1:(i:Int) < (n:Int):=(by omega);have e0:=d0.out i hlt;have e1:=d1.out i hlt;have e2:=d2.out i hlt;have eat:=hat.out i hlt;have rsi:=rs i;have hri:=hrl.out i hi;have r00:(0:Int)<=(R i:Int):=(by omega);cases hE:E i
   ·rw [hE] at e2 eat rsi;simp only [Bool.false_eq_true,false_and,if_false] at eat rsi;obtain ⟨q1,q2,q3⟩:=hst.out i hlt (Z2 i) eat.symm;have hbd:(S i).size+(Z2 i).size<=9223372036854775807:=by omega
    have Q3:=hid q3;clear q3 eat;generalize Z2 i=t at *;generalize Z1 i=t1 at *;go_wp2_with fail;go_roundw;case rel=>exact ⟨i+1,by omega,by rw [<- Q3.out],by rw [rsi.out],by go_num,trivial⟩
    case measure=>simp [intOf];omega
   rw [hE] at e2 eat rsi;simp only [true_and,if_true] at eat rsi;by_cases hkk:R i < keep.length
   ·obtain ⟨gk,offk,rfl,ck⟩:=HK.out (R i) hkk;have rk:(R i:Int) < (keep.length:Int):=(by omega);cases hkb:keep.getD (R i) false
    ·rw [hkb] at ck eat;simp only [Bool.false_eq_true,if_false] at eat;obtain ⟨q1,q2,q3⟩:=hst.out i hlt (Z2 i) eat.symm;have hbd:(S i).size+(Z2 i).size<=9223372036854775807:=by omega
     have Q3:=hid q3;clear q3 eat;generalize Z2 i=t at *;generalize Z1 i=t1 at *;go_wp2_with fail;go_roundw;case rel=>exact ⟨i+1,by omega,by rw [<- Q3.out],by rw [rsi.out];go_num,by go_num,trivial⟩
     case measure=>simp [intOf];omega
    rw [hkb] at ck eat;simp only [if_true] at eat;obtain ⟨q1,q2,q3⟩:=hst.out i hlt (Z1 i) eat.symm;have hbd:(S i).size+(Z1 i).size<=9223372036854775807:=by omega
    have Q3:=hid q3;clear q3 eat;generalize Z2 i=t at *;generalize Z1 i=t1 at *;go_wp2_with fail;go_roundw;case rel=>exact ⟨i+1,by omega,by rw [<- Q3.out],by rw [rsi.out];go_num,by go_num,trivial⟩
    case measure=>simp [intOf];omega
   have hkb:keep.getD (R i) false=false:=(by simp [List.getD,List.getElem?_eq_none (Nat.not_lt.1 hkk)]);have rk:¬ (R i:Int) < (keep.length:Int):=(by omega);rw [hkb] at eat;simp only [Bool.false_eq_true,if_false] at eat;obtain ⟨q1,q2,q3⟩:=hst.out i hlt (Z2 i) eat.symm;have hbd:(S i).size+(Z2 i).size<=9223372036854775807:=(by omega);have Q3:=hid q3;clear q3 eat;generalize Z2 i=t at *;generalize Z1 i=t1 at *;go_wp2_with fail;go_roundw;case rel=>exact ⟨i+1,by omega,by rw [<- Q3.out],by rw [rsi.out];go_num,by go_num,trivial⟩
   case measure=>simp [intOf];omega
  obtain rfl:i=n:=(by omega);go_wp2_with fail;go_ret;exact ⟨by rw [<- hfin.out];rfl,rfl⟩
theorem rkept_any (h:RefAt B w b z D) (k:Nat) (hok:D.Ok k):Calls Tryz.prog 34 #[.pointer (some ⟨b,0,none⟩)] w fun e w'=>e=.returned (.string (txt (cat D.kept)))/\w=w':=by
 have hc:=rcrash_any h k hok none 0 [] (fun i hi=>absurd hi (Nat.not_lt_zero _)) (by simp);rw [crash_none D k hok] at hc;have HC:Hid (Calls Tryz.prog 52 #[.pointer (some ⟨b,0,none⟩),.slice none 0 0] w fun e w'=>e=.returned (.string (txt (cat D.kept)))/\w=w'):=hid hc;clear h hc hok;generalize txt (cat D.kept)=T at *;go_enter Tryz.func34,Tryz.ntmps34;go_wp2_with fail;refine HC.out.mono ?_;rintro e w' ⟨rfl,rfl⟩;go_wp2_with fail;go_ret;exact ⟨rfl,rfl⟩
end Go.Proofs.YtnpdhidliaahbaaGreat
namespace Go.Proofs.YtnpdhidliaahbaaGreat
open Go.Lib (hid)
open Go Go.RowKit
variable {B b:Nat} {w:World} {z:RLay} {D:Dev}
theorem RefAt.both (L:List ByteArray) (h:RefAt B w b z (Dev.fresh L)) (j:Nat) (t:ByteArray):RefAt B ((w.setCell ⟨z.gn,j,none⟩ (.string t)).setCell ⟨z.gw,j,none⟩ (.string t)) b z (Dev.fresh (L.set j t)):=by
 obtain ⟨n1,n2,n3,n4,n5,n6⟩:=h.ne;have hl:(Dev.fresh (L.set j t)).kept.length=(Dev.fresh L).kept.length:=List.length_set;refine ⟨h.own,?_,?_,?_,?_,h.ne,by rw [hl];exact h.pos,h.left,h.acts⟩
 ·rw [hl];exact (h.cells.other (fun e=>n1 e.symm) _).other (fun e=>n2 e.symm) _
 ·rw [hl];have:=ownsRow_setCell_other (ownsRow_set h.now j (.string t)) (a:=⟨z.gw,j,none⟩) (by simp [Value.ownBlock];exact n4) (.string t);simpa [strs,List.map_set,Dev.fresh] using this
 ·rw [hl];have:=ownsRow_set (ownsRow_setCell_other h.was (a:=⟨z.gn,j,none⟩) (by simp [Value.ownBlock];exact fun e=>n4 e.symm) (.string t)) j (.string t);simpa [strs,List.map_set,Dev.fresh] using this
 ·rw [hl];have:=ownsRow_setCell_other (ownsRow_setCell_other h.pend (a:=⟨z.gn,j,none⟩) (by simp [Value.ownBlock];exact fun e=>n5 e.symm) (.string t)) (a:=⟨z.gw,j,none⟩) (by simp [Value.ownBlock];exact fun e=>n6 e.symm) (.string t);simpa [bools,Dev.fresh] using this
def openTo (s:ByteArray) (n j:Nat):List ByteArray:=chop s j ++ List.replicate (n - j) zblock
theorem openTo_length (s:ByteArray) (n j:Nat) (h:j<=n):(openTo s n j).length=n:=by simp [openTo,chop_length];omega
theorem openTo_set (s:ByteArray) (n j:Nat) (h:j < n):(openTo s n j).set j (blkS s j)=openTo s n (j+1):=by
 unfold openTo;rw [List.set_append_right _ _ (by rw [chop_length];exact Nat.le_refl _),chop_length,Nat.sub_self,show n - j=(n - (j+1))+1 by omega,List.replicate_succ,List.set_cons_zero];show chop s j ++ blkS s j :: List.replicate (n - (j+1)) zblock=chop s j ++ [blkS s j] ++ List.replicate (n - (j+1)) zblock;simp
theorem blk_mid (s:ByteArray) (j:Nat):s.extract (j * 128) ((j+1) * 128)=blkS s j:=by
 conv=>lhs;rw [<- txt_of s]
 rw [txt_extract];unfold blkS;congr 1;rw [List.drop_take];congr 1;omega
theorem ropen_any (s:ByteArray) (n:Nat) (hs:s.size=n * 128) (hn:1<=n/\n<=4096) :
  Calls Tryz.prog 28 #[.string s] w fun e w'=>∃ b,e=.returned (.tuple #[.pointer (some ⟨b,0,none⟩),.int .i64 0])/\(∃ z,RefAt w.heap.size w' b z (Dev.fresh (chop s n)))/\Below w.heap.size w w':=by
 have h2':(Int.tmod (s.size:Int) 128)=0:=by rw [Int.tmod_eq_emod_of_nonneg (by omega)];omega
 have hq:(Int.tdiv (s.size:Int) 128)=(n:Int):=by rw [Int.tdiv_eq_ediv_of_nonneg (by omega)];omega
 have hc:=hid (rnew_any (w:=w) n hn)
 have hm:=fun j=>hid (blk_mid s j)
 have HS:=hid hs
 have hsn:(n:Int) * 128<=(s.size:Int):=by omega
 clear hs
 have h00:Hid (openTo s n 0=List.replicate n zblock):=hid (by simp [openTo,chop])
 have hnn:Hid (openTo s n n=chop s n):=hid (by simp [openTo])
 have hl:=fun j hj=>hid (openTo_length s n j hj)
 have hst:=fun j hj=>hid (openTo_set s n j hj)
 generalize hN:s.size=N at *
 go_enter Tryz.func28,Tryz.ntmps28
 go_wp2_with fail
 refine hc.out.mono ?_
 rintro e w1 ⟨b,rfl,⟨z,hd⟩,hb1⟩
 have R1:Hid (RefAt w.heap.size w1 b z (Dev.fresh (openTo s n 0))):=hid (by rw [h00.out];exact hd)
 have B1:=hid hb1
 have hbd:=hid hd.bounds
 clear hd hb1 hc
 go_wp2_with fail
 go_loopw [6] (fun q wr=>∃ j:Nat,j<=n/\q=.int .i64 j/\Hid (RefAt w.heap.size wr b z (Dev.fresh (openTo s n j)))/\Hid (Below w.heap.size w wr)) (fun q _=>n - (intOf q).toNat)
 case atStart=>exact ⟨0,by omega,rfl,R1,B1⟩
 case round =>
  obtain ⟨j,hj,rfl,hr,hb⟩:=hrel;have hlj:=hl j hj;have c0:=hr.out.c0;have c1:=hr.out.c1;have ek:(Dev.fresh (openTo s n j)).kept.length=n:=hlj.out;rw [ek] at c0 c1;by_cases hlt:j < n
  ·have i0:(0:Int)<=(j:Int):=(by omega);have i1:(j:Int) < (n:Int):=(by omega);have hmj:=hm j;have hsj:=hst j hlt;have d0:∃ u,wr.cell? ⟨z.gn,j,none⟩=some u:=⟨_,own_cellAt hr.out.now (List.getElem?_eq_getElem (by rw [hr.out.now.1,ek];omega))⟩;have d1:∃ u,wr.cell? ⟨z.gw,j,none⟩=some u:=⟨_,own_cellAt hr.out.was (List.getElem?_eq_getElem (by rw [hr.out.was.1,ek];omega))⟩;obtain ⟨u0,d0⟩:=d0;obtain ⟨u1,d1⟩:=d1;have g0:=ownsRow_free1 hr.out.now j;have g1:=ownsRow_free1 hr.out.was j;obtain ⟨n1,n2,n3,n4,n5,n6⟩:=hr.out.ne;have hbo:=hid (hr.out.both _ j (blkS s j));have hbb:Hid (Below w.heap.size w ((wr.setCell ⟨z.gn,j,none⟩ (.string (blkS s j))).setCell ⟨z.gw,j,none⟩ (.string (blkS s j)))):=hid (((hb.out.setCell (p:=⟨z.gn,j,none⟩) (by have:=hbd.out;dsimp only;omega) _)).setCell (p:=⟨z.gw,j,none⟩) (by have:=hbd.out;dsimp only;omega) _);rw [hsj.out] at hbo;clear hlj hsj;have hw1:IntKind.i64.wrap ((j:Int) * 128)=(j:Int) * 128:=(by rw [IntKind.wrap_i64];omega);have hw2:IntKind.i64.wrap ((j:Int)+1)=(j:Int)+1:=(by rw [IntKind.wrap_i64];omega);have hw3:IntKind.i64.wrap (((j:Int)+1) * 128)=((j:Int)+1) * 128:=(by rw [IntKind.wrap_i64];omega);have hsl1:(j:Int) * 128<=((j:Int)+1) * 128:=(by omega);have hsl2:((j:Int)+1) * 128<=(N:Int):=(by omega);have hsl3:(0:Int)<=(j:Int) * 128:=(by omega);have ht1:((j:Int) * 128).toNat=j * 128:=(by omega);have ht2:(((j:Int)+1) * 128).toNat=(j+1) * 128:=(by omega);rw [<- hmj.out] at hbo hbb;have hnb:¬ b=z.gn:=n1;have hnw:¬ z.gw=z.gn:=fun e=>n4 e.symm;generalize hX:s.extract (j * 128) ((j+1) * 128)=X at *;have k0:(wr.setCell ⟨z.gn,j,none⟩ (.string X)).cell? ⟨b,0,none⟩=some (.slice (some ⟨z.gn,0,none⟩) n z.cn):=(World.cell?_setCell_other _ _ _ _ (by simp [hnb])).trans c0;have k1:(wr.setCell ⟨z.gn,j,none⟩ (.string X)).cell? ⟨b,1,none⟩=some (.slice (some ⟨z.gw,0,none⟩) n z.cw):=(World.cell?_setCell_other _ _ _ _ (by simp)).trans c1;have k2:(wr.setCell ⟨z.gn,j,none⟩ (.string X)).cell? ⟨z.gn,j,none⟩=some (.string X):=own_cellAt (ownsRow_set hr.out.now j (.string X)) (by
    have:j < (strs (Dev.fresh (openTo s n j)).now).length:=(by rw [hr.out.now.1,ek];omega);simp [this])
   have k3:(wr.setCell ⟨z.gn,j,none⟩ (.string X)).cell? ⟨z.gw,j,none⟩=some u1:=(World.cell?_setCell_other _ _ _ _ (by simp [hnw])).trans d1;have k4:(wr.setCell ⟨z.gn,j,none⟩ (.string X)).frozen? ⟨z.gw,j,none⟩=false:=(by rw [World.frozen?_setCell];exact g1);clear ek;go_upto_region 9 with fail
   go_region;go_upto_region 10 with fail;go_region;go_wp2_with fail;go_roundw;case rel=>exact ⟨j+1,by omega,by go_num,hid (hbo.out.below ⟨rfl,rfl,rfl,Nat.le_refl _,fun _ _=>rfl⟩),hid (below_drewN hbb.out 2)⟩
   case measure=>simp [intOf];omega
  obtain rfl:j=n:=(by omega);rw [hnn.out] at hr;go_wp2_with fail;exact bodyPost_ret (v:=.tuple #[.pointer (some ⟨b,0,none⟩),.int .i64 0]) (by simp [results,Tryz.results28,go_sem]) rfl ⟨_,rfl,⟨_,hr.out⟩,hb.out⟩
end Go.Proofs.YtnpdhidliaahbaaGreat
