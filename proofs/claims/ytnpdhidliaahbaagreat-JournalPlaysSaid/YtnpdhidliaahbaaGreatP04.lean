/- Devices: Write. -/
import Derived.Test.YtnpdhidliaahbaaGreatP02
import Derived.Test.YtnpdhidliaahbaaGreatP03
import Derived.Deep.RegionHeld3
set_option maxRecDepth 100000
set_option maxHeartbeats 32000000
set_option linter.unusedSimpArgs false
set_option linter.unusedVariables false
namespace Go.Proofs.YtnpdhidliaahbaaGreat
open Go.Lib (hid)
open Go Go.RowKit
variable {B b:Nat} {w:World} {y:Lay} {D:Dev}
theorem clone_any (s:ByteArray) (w:World) (hs:s.size<=281474976710656):Calls Tryz.prog 91 #[.string s] w fun e w'=>e=.returned (.string s)/\Below w.heap.size w w':=by
 have hc:=hid (Tryz.stringslite_Clone s w hs);go_enter Tryz.func91,Tryz.ntmps91;go_wp2_with fail;refine hc.out.mono ?_;rintro e w' ⟨rfl,hb⟩;go_wp2_with fail;go_ret;exact ⟨rfl,hb⟩
theorem ownsRow_free1 {T:TypeId} {xs:List Value} {n g cap size:Nat} (h:w.ownsRow B T size (.slice (some ⟨g,0,none⟩) n cap) n xs) (k:Nat):w.frozen? ⟨g,k,none⟩=false:=by
 rcases h.2 with ⟨hv,_⟩ | ⟨g',cap',cur,hv,hb,hg,_⟩
 ·cases hv
 ·cases hv;simp [World.frozen?,hg]
def Dev.put (D:Dev) (k:Nat) (t:ByteArray):Dev := { D with now:=D.now.set k t,pend:=D.pend.set k true }
theorem own_below {w w':World} {base size n:Nat} {e:TypeId} {v:Value} {xs:List Value} (h:w.ownsRow base e size v n xs) (hb:Below w.heap.size w w'):w'.ownsRow base e size v n xs:=by
 obtain ⟨h1,h2⟩:=h;refine ⟨h1,?_⟩;rcases h2 with h2 | ⟨g,cap,cur,hv,hg,hh,r⟩
 ·exact .inl h2
 ·exact .inr ⟨g,cap,cur,hv,hg,by rw [hb.block g (lt_of_block hh)];exact hh,r⟩
theorem ownsRow_set {w:World} {base size n g cap:Nat} {e:TypeId} {xs:List Value} (h:w.ownsRow base e size (.slice (some ⟨g,0,none⟩) n cap) n xs) (k:Nat) (u:Value) :
  (w.setCell ⟨g,k,none⟩ u).ownsRow base e size (.slice (some ⟨g,0,none⟩) n cap) n (xs.set k u):=by
 obtain ⟨h1,h2⟩:=h
 refine ⟨by simpa using h1,?_⟩
 rcases h2 with ⟨hv,_⟩ | ⟨g',cap',cur,hv,hb,hg,hc1,hc2,hsz,htk⟩
 ·cases hv
 ·cases hv;refine .inr ⟨g,cap,cur.set! k u,rfl,hb,?_,hc1,hc2,by simpa using hsz,?_⟩
  ·have hlt:=lt_of_block hg;have h':w.heap[g]=.cells cur e (0,0):=(by simpa [Array.getElem?_eq_getElem hlt] using hg);show (w.heap.modify g _)[g]?=_;rw [Array.getElem?_eq_getElem (by simpa using hlt),Array.getElem_modify_self,h'];simp
  rw [<- htk];simp [List.take_set]
theorem DevAt.below {w':World} (h:DevAt B w b y D) (hb:Below w.heap.size w w'):DevAt B w' b y D:=
 ⟨h.own,h.cells.below hb h.cells.lt,own_below h.kept hb,own_below h.now hb,own_below h.pend hb,h.ne,h.pos,h.left,h.acts⟩
theorem DevAt.put (h:DevAt B w b y D) (k:Nat) (t:ByteArray) (_hk:k < D.kept.length):DevAt B ((w.setCell ⟨y.gn,k,none⟩ (.string t)).setCell ⟨y.gp,k,none⟩ (.bool true)) b y (D.put k t):=by
 obtain ⟨n1,n2,n3,n4,n5,n6⟩:=h.ne;refine ⟨h.own,(h.cells.other (fun e=>n2 e.symm) _).other (fun e=>n3 e.symm) _,?_,?_,?_,h.ne,h.pos,h.left,h.acts⟩
 ·exact ownsRow_setCell_other (ownsRow_setCell_other h.kept (by simp [Value.ownBlock];exact n4) _) (by simp [Value.ownBlock];exact n5) _
 ·have:=ownsRow_setCell_other (ownsRow_set h.now k (.string t)) (a:=⟨y.gp,k,none⟩) (by simp [Value.ownBlock];exact n6) (.bool true);simpa [Dev.put,strs,List.map_set] using this
 ·have:=ownsRow_set (ownsRow_setCell_other h.pend (a:=⟨y.gn,k,none⟩) (by simp [Value.ownBlock];exact fun e=>n6 e.symm) (.string t)) k (.bool true);simpa [Dev.put,bools,List.map_set] using this
theorem write_ok (h:DevAt B w b y D) (k:Nat) (t:ByteArray) (hk:k < D.kept.length) (ht:t.size=128) (hd:D.dead=false) (ha:D.acts < 1000000000000) :
  Calls Tryz.prog 53 #[.pointer (some ⟨b,0,none⟩),.int .i64 k,.string t] w fun e w'=>e=.returned (.int .i64 0)/\DevAt B w' b y (D.acted.put k t)/\Only [b,y.gn,y.gp] w w':=by
 have hask:=ask_any h k
 have hk0:D.ask k=0:=by unfold Dev.ask;rw [if_neg (by omega)]
 rw [hk0] at hask
 have hact:=act_any h ha
 rw [hd] at hact
 simp only [Bool.false_eq_true,if_false] at hact
 have HASK:=hid hask
 have HACT:=hid hact
 have hcl:=hid (fun w=>clone_any t w (by omega))
 have hkn:k < D.acted.kept.length:=hk
 clear h hask hact hk0 hd ha hk
 generalize D.acted=E at *
 go_enter Tryz.func53,Tryz.ntmps53
 go_wp2_with fail
 refine HASK.out.mono ?_
 rintro e w' ⟨rfl,rfl⟩
 go_wp2_with fail
 refine HACT.out.mono ?_
 rintro e w2 ⟨rfl,hE,hO⟩
 have c1:=hE.c1
 have c2:=hE.c2
 have lb:=hE.cells.lt
 have fgn:=ownsRow_free1 hE.now k
 have fgp:=ownsRow_free1 hE.pend k
 have lgn:=(hE.now.lt _ rfl).2
 have lgp:=(hE.pend.lt _ rfl).2
 have cgn:∃ u,w2.cell? ⟨y.gn,k,none⟩=some u:=⟨_,own_cellAt hE.now (List.getElem?_eq_getElem (by rw [hE.now.1];omega))⟩
 have cgp:∃ u,w2.cell? ⟨y.gp,k,none⟩=some u:=⟨_,own_cellAt hE.pend (List.getElem?_eq_getElem (by rw [hE.pend.1];omega))⟩
 obtain ⟨u1,cgn⟩:=cgn
 obtain ⟨u2,cgp⟩:=cgp
 have HE:=hid hE
 have HO:=hid hO
 obtain ⟨n1,n2,n3,_⟩:=hE.ne
 have i0:(0:Int)<=(k:Int):=by omega
 have i1:(k:Int) < (E.kept.length:Int):=by omega
 clear hE hO
 go_wp2_with fail
 go_region_held3 (fun w'=>w'.cell? ⟨b,1,none⟩=some (.slice (some ⟨y.gn,0,none⟩) E.kept.length y.cn)/\w'.cell? ⟨b,2,none⟩=some (.slice (some ⟨y.gp,0,none⟩) E.kept.length y.cp))
  (first | exact ⟨c1,c2⟩ | exact ⟨(hb1.cell (p:=⟨_,_,none⟩) lb).trans c1,(hb1.cell (p:=⟨_,_,none⟩) lb).trans c2⟩ | exact ⟨(World.cell?_setCell_other _ _ _ _ (by first | (simp;done) | (simp;omega))).trans ((hb1.cell (p:=⟨_,_,none⟩) lb).trans c1),(World.cell?_setCell_other _ _ _ _ (by first | (simp;done) | (simp;omega))).trans ((hb1.cell (p:=⟨_,_,none⟩) lb).trans c2)⟩ | exact ⟨(World.cell?_setCell_other _ _ _ _ (by first | (simp;done) | (simp;omega))).trans ((World.cell?_setCell_other _ _ _ _ (by first | (simp;done) | (simp;omega))).trans ((hb1.cell (p:=⟨_,_,none⟩) lb).trans c1)),(World.cell?_setCell_other _ _ _ _ (by first | (simp;done) | (simp;omega))).trans ((World.cell?_setCell_other _ _ _ _ (by first | (simp;done) | (simp;omega))).trans ((hb1.cell (p:=⟨_,_,none⟩) lb).trans c2))⟩)
  (first | (go_at_call 91;refine (hcl.out _).mono ?_;rintro e w1 ⟨rfl,hb1⟩;have k1:=(hb1.cell (p:=⟨y.gn,k,none⟩) lgn).trans cgn;have k2:=(hb1.cell (p:=⟨y.gp,k,none⟩) lgp).trans cgp;have k3:=(hb1.frozen (p:=⟨y.gn,k,none⟩) lgn).trans fgn;have k4:=(hb1.frozen (p:=⟨y.gp,k,none⟩) lgp).trans fgp))
 go_wp2_with fail
 go_ret
 have hb2:Below w2.heap.size w2 w1:=⟨hb1.os,hb1.tape,hb1.output,hb1.size,hb1.block⟩
 refine ⟨rfl,(HE.out.below hb2).put k t hkn,?_⟩
 exact ((HO.out.sub (by simp)).trans (.ofBelow hb2)).trans ((Only.setCell _ _ _ (by simp)).trans (Only.setCell _ _ _ (by simp)))
def Dev.writeE (D:Dev) (i:Int) (t:ByteArray):Int:=if D.ask i ≠ 0 then D.ask i else if t.size ≠ 128 then 2 else if D.dead then 61 else 0
def Dev.write (D:Dev) (i:Int) (t:ByteArray):Dev:=if D.writeE i t=0 then D.acted.put i.toNat t else D
theorem write_any (h:DevAt B w b y D) (i:Int) (t:ByteArray) (_ht:t.size<=9223372036854775807) (ha:D.acts < 1000000000000) :
  Calls Tryz.prog 53 #[.pointer (some ⟨b,0,none⟩),.int .i64 i,.string t] w fun e w'=>e=.returned (.int .i64 (D.writeE i t))/\DevAt B w' b y (D.write i t)/\Only [b,y.gn,y.gp] w w':=by
 have hask:=ask_any h i
 by_cases hi:i < 0 ∨ (D.kept.length:Int)<=i
 ·have hk:D.ask i=60:=(by unfold Dev.ask;rw [if_pos hi]);have e1:D.writeE i t=60:=(by unfold Dev.writeE;rw [hk];rfl);have e2:D.write i t=D:=(by unfold Dev.write;rw [e1];rfl);rw [e1,e2];rw [hk] at hask;have HA:=hid hask;have HH:=hid h;clear h hask hi hk e1 e2;go_enter Tryz.func53,Tryz.ntmps53;go_wp2_with fail;refine HA.out.mono ?_;rintro e w' ⟨rfl,rfl⟩;go_wp2_with fail;go_ret;exact ⟨rfl,HH.out,Only.refl _ _⟩
 ·have hk:D.ask i=0:=(by unfold Dev.ask;rw [if_neg hi]);by_cases hs:t.size=128
  ·cases hd:D.dead
   ·obtain ⟨k,rfl⟩:=Int.eq_ofNat_of_zero_le (show 0<=i by omega);have e1:D.writeE k t=0:=(by unfold Dev.writeE;rw [hk,hs,hd];rfl);have e2:D.write k t=D.acted.put k t:=(by unfold Dev.write;rw [e1];rfl);rw [e1,e2];exact write_ok h k t (by omega) hs hd ha
   have e1:D.writeE i t=61:=(by unfold Dev.writeE;rw [hk,hs,hd];rfl);have e2:D.write i t=D:=(by unfold Dev.write;rw [e1];rfl);rw [e1,e2];have hact:=act_any h ha;rw [hd] at hact;simp only [if_true] at hact;rw [hk] at hask;have HA:=hid hask;have HC:=hid hact;have HH:=hid h;clear h hask hact hi hk hd e1 e2 ha;go_enter Tryz.func53,Tryz.ntmps53;go_wp2_with fail;refine HA.out.mono ?_;rintro e w' ⟨rfl,rfl⟩;go_wp2_with fail;refine HC.out.mono ?_;rintro e w' ⟨rfl,rfl⟩;go_wp2_with fail;go_ret;exact ⟨rfl,HH.out,Only.refl _ _⟩
  have e1:D.writeE i t=2:=(by unfold Dev.writeE;rw [hk];simp [hs]);have e2:D.write i t=D:=(by unfold Dev.write;rw [e1];rfl);rw [e1,e2];rw [hk] at hask;have HA:=hid hask;have HH:=hid h;clear h hask hi hk e1 e2 ha;go_enter Tryz.func53,Tryz.ntmps53;go_wp2_with fail;refine HA.out.mono ?_;rintro e w' ⟨rfl,rfl⟩;go_wp2_with fail;go_ret;exact ⟨rfl,HH.out,Only.refl _ _⟩
end Go.Proofs.YtnpdhidliaahbaaGreat
namespace Go.Proofs.YtnpdhidliaahbaaGreat
open Go.Lib (hid)
open Go Go.RowKit
variable {B b:Nat} {w:World} {y:Lay} {D:Dev}
def pendTo (l:List Bool):Nat->List Nat
 | 0=>[]
 | k+1=>if l.getD k false then pendTo l k ++ [k] else pendTo l k
theorem pendTo_length (l:List Bool) (k:Nat):(pendTo l k).length<=k:=by
 induction k with
 | zero=>exact Nat.le_refl _
 | succ k ih =>
  show (if l.getD k false=true then pendTo l k ++ [k] else pendTo l k).length<=k+1;split
  ·rw [List.length_append];simp;exact ih
  omega
def natVs (l:List Nat):List Value:=l.map fun (n:Nat)=>Value.int .i64 (n:Int)
theorem info_int:(Tryz.prog.info? 3).map (fun i=>(i.zero,i.size,i.bytes))=some (some (.int .i64 0),1,8):=by kernel_rfl
theorem pending_any (h:DevAt B w b y D):Calls Tryz.prog 36 #[.pointer (some ⟨b,0,none⟩)] w fun e w' =>
  ∃ v,e=.returned v/\w'.ownsRow w.heap.size 3 1 v (pendTo D.pend D.pend.length).length (natVs (pendTo D.pend D.pend.length))/\Below w.heap.size w w':=by
 obtain ⟨i0,hi0,hz0,hz1,hz2⟩:=info_parts info_int
 have c2:=h.c2
 have hlen:D.pend.length=D.kept.length:=by have:=h.pend.1;simpa [bools] using this
 have hcell:∀ k,k < D.kept.length->w.cell? ⟨y.gp,k,none⟩=some (.bool (D.pend.getD k false)):=fun k hk=>own_cellAt h.pend (by simp [bools,List.getD,hlen,hk])
 have hgp:=(h.pend.lt _ rfl).2
 have hp:=h.pos
 have HC:=hid hcell
 rw [hlen]
 clear h hcell hlen
 generalize D.kept.length=n at *
 generalize D.pend=L at *
 go_enter Tryz.func36,Tryz.ntmps36
 go_wp2_with fail
 go_loopw [3,13] (fun v q wr=>∃ (j:Nat) (u:Value),j<=n/\u=v/\q=.int .i64 j/\Hid (wr.ownsRow w.heap.size 3 1 u (pendTo L j).length (natVs (pendTo L j)))/\Below w.heap.size w wr) (fun _ q _=>n - (intOf q).toNat)
 case atStart=>exact ⟨0,_,by omega,rfl,rfl,hid (World.ownsRow_nil _ _ _ _),Below.refl _ _⟩
 case round =>
  obtain ⟨j,v,hj,rfl,rfl,hg,hbw⟩:=hrel;by_cases hlt:j < n
  ·have hc:=(hbw.cell (p:=⟨y.gp,j,none⟩) hgp).trans (HC.out j hlt);have i0':(0:Int)<=(j:Int):=(by omega);have i1:(j:Int) < (n:Int):=(by omega);have hl:=pendTo_length L j;cases hb:L.getD j false
   ·have hr:Hid (pendTo L (j+1)=pendTo L j):=hid (by show (if L.getD j false=true then pendTo L j ++ [j] else pendTo L j)=_;rw [hb];rfl);rw [hb] at hc;clear hb;go_wp2_with fail;go_roundw;case rel=>exact ⟨j+1,_,by omega,rfl,by go_num,by rw [hr.out];exact hg,hbw⟩
    case measure=>simp [intOf];omega
   have hr:Hid (pendTo L (j+1)=pendTo L j ++ [j]):=hid (by show (if L.getD j false=true then pendTo L j ++ [j] else pendTo L j)=_;rw [hb];rfl);rw [hb] at hc;clear hb;generalize pendTo L j=P at *;have hone:∀ u ∈ ([.int .i64 (j:Int)]:List Value),u.oneCell'=true:=by simp [Value.oneCell']
   go_wp2_with (first
    | (at_builtin;refine wpList_append_own _ rfl _ _ 23 rfl w.heap.size 3 i0 (.int .i64 0) 1 8 Tryz.underlying23 hi0 hz0 hz1 hz2 rfl (by decide) _ P.length _ rfl (hg.out.alloc _) ⟨wr.heap.size,0,none⟩ 1 1 [.int .i64 j] rfl rfl (World.news_of_block (heap_alloc_new _ _)) hone (by unfold maxLen;omega) (by omega) (by have:=hbw.size;simp;omega) ?_))
   intro v' w1 hown hgrow _;have hW:Below w.heap.size w w1:=(hbw.alloc hbw.size (.cells #[.int .i64 j] 3)).grown hgrow (by have:=hbw.size;simp;omega) (fun k hk=>(hg.out.lt k hk).1);have hG:Hid (w1.ownsRow w.heap.size 3 1 v' (P ++ [j]).length (natVs (P ++ [j]))):=hid (by
    have e:natVs (P ++ [j])=natVs P ++ [.int .i64 (j:Int)]:=(by simp [natVs]);rw [e,List.length_append];exact hown)
   clear hown hgrow;go_wp2_with fail;go_roundw;case rel=>exact ⟨j+1,v',by omega,rfl,by go_num,by rw [hr.out];exact hG,hW⟩
   case measure=>simp [intOf];omega
  obtain rfl:j=n:=(by omega);go_wp2_with fail;go_ret;exact ⟨_,rfl,hg.out,hbw⟩
end Go.Proofs.YtnpdhidliaahbaaGreat
