/- Devices: Flush. -/
import Derived.Test.YtnpdhidliaahbaaGreatP04
import Derived.Lib.SliceRun
import Derived.StillTailTactics
set_option maxRecDepth 100000
set_option maxHeartbeats 32000000
set_option linter.unusedSimpArgs false
set_option linter.unusedVariables false
namespace Go.Proofs.YtnpdhidliaahbaaGreat
open Go.Lib (hid)
open Go Go.RowKit
variable {B b:Nat} {w:World} {y:Lay} {D:Dev}
theorem ownsRow_setCells {T:TypeId} {n g cap:Nat}:∀ (vs:List Value) (o:Nat) (w:World) (xs:List Value),w.ownsRow B T 1 (.slice (some ⟨g,0,none⟩) n cap) n xs ->
  (w.setCells g o vs).ownsRow B T 1 (.slice (some ⟨g,0,none⟩) n cap) n (List.foldl (fun (p:List Value × Nat) v=>(p.1.set p.2 v,p.2+1)) (xs,o) vs).1:=by
 intro vs
 induction vs with
 | nil=>intro o w xs h;exact h
 | cons v vs ih=>intro o w xs h;exact ih (o+1) _ _ (ownsRow_set h o v)
theorem ownsRow_setCells_other {T:TypeId} {n g gg cap:Nat} {xs:List Value} (hne:g ≠ gg):∀ (vs:List Value) (o:Nat) (w:World),w.ownsRow B T 1 (.slice (some ⟨g,0,none⟩) n cap) n xs ->
  (w.setCells gg o vs).ownsRow B T 1 (.slice (some ⟨g,0,none⟩) n cap) n xs:=by
 intro vs
 induction vs with
 | nil=>intro o w h;exact h
 | cons v vs ih=>intro o w h;exact ih (o+1) _ (ownsRow_setCell_other h (by simp [Value.ownBlock];exact hne) v)
theorem row_setCells_other {T:TypeId} {g gg:Nat} {xs:List Value} (hne:g ≠ gg):∀ (vs:List Value) (o:Nat) (w:World),Row w g T xs->Row (w.setCells gg o vs) g T xs:=by
 intro vs;induction vs with
 | nil=>intro o w h;exact h
 | cons v vs ih=>intro o w h;exact ih (o+1) _ (h.other (fun e=>hne e.symm) v)
theorem only_setCells {S:List Nat} {g:Nat} (hS:g ∈ S):∀ (vs:List Value) (o:Nat) (w:World),Only S w (w.setCells g o vs):=by
 intro vs;induction vs with
 | nil=>intro o w;exact Only.refl _ _
 | cons v vs ih=>intro o w;exact (Only.setCell w _ v hS).trans (ih (o+1) _)
theorem fold_set (vs:List Value):∀ (o:Nat) (xs:List Value),o+vs.length=xs.length->(List.foldl (fun (p:List Value × Nat) v=>(p.1.set p.2 v,p.2+1)) (xs,o) vs).1=xs.take o ++ vs:=by
 induction vs with
 | nil=>intro o xs h;simp at h ⊢;rw [List.take_of_length_le (by omega)]
 | cons v vs ih =>
  intro o xs h;simp only [List.length_cons] at h;rw [List.foldl_cons,ih (o+1) (xs.set o v) (by simp;omega),List.take_succ_eq_append_getElem (by simp;omega),List.take_set_of_le (Nat.le_refl _)];simp
theorem own_same {T:TypeId} {n g cap:Nat} {xs:List Value} {w':World} (h:w.ownsRow B T 1 (.slice (some ⟨g,0,none⟩) n cap) n xs) (he:w'.heap[g]?=w.heap[g]?):w'.ownsRow B T 1 (.slice (some ⟨g,0,none⟩) n cap) n xs:=by
 refine ⟨h.1,?_⟩;rcases h.2 with ⟨hv,_⟩ | ⟨g',cap',cur,hv,hb,hg,r⟩
 ·cases hv
 ·cases hv;exact .inr ⟨g,cap,cur,rfl,hb,by rw [he];exact hg,r⟩
theorem row_same {T:TypeId} {g:Nat} {xs:List Value} {w':World} (h:Row w g T xs) (he:w'.heap[g]?=w.heap[g]?):Row w' g T xs:=by
 obtain ⟨fr,h,hf⟩:=h;exact ⟨fr,by rw [he];exact h,hf⟩
def Dev.flushed (D:Dev):Dev := { D with kept:=D.now,pend:=List.replicate D.kept.length false }
theorem DevAt.copied (h:DevAt B w b y D) (cur:Array Value) (hg:w.heap[y.gk]?=some (.cells cur 9 (0,0))) (_hsz:D.kept.length<=cur.size) :
  DevAt B (w.setRow y.gk (cur.toList.take 0 ++ (strs D.now ++ cur.toList.drop (0+(strs D.now).length))).toArray) b y { D with kept:=D.now }:=by
 obtain ⟨n1,n2,n3,n4,n5,n6⟩:=h.ne
 have hl:D.now.length=D.kept.length:=by have:=h.now.1;simpa [strs] using this
 have hl2:(strs D.now).length=D.kept.length:=by simp [strs,hl]
 have ho:∀ k,k ≠ y.gk->(w.setRow y.gk (cur.toList.take 0 ++ (strs D.now ++ cur.toList.drop (0+(strs D.now).length))).toArray).heap[k]?=w.heap[k]?:=fun k hk=>setRow_other w _ k _ hk
 refine ⟨h.own,?_,?_,?_,?_,h.ne,by dsimp only;rw [hl];exact h.pos,h.left,h.acts⟩
 ·dsimp only;rw [hl];exact row_same h.cells (ho _ n1)
 ·dsimp only;rw [hl];refine ⟨by simp [hl2],?_⟩;rcases h.kept.2 with ⟨hv,_⟩ | ⟨g',cap',cur',hv,hb,hg',r1,r2,r3,r4⟩
  ·cases hv
  cases hv;rw [hg] at hg';cases hg';refine .inr ⟨y.gk,y.ck,_,rfl,hb,setRow_heap w _ _ _ _ _ hg,r1,r2,?_,?_⟩
  ·simp [hl2];omega
  simp [hl2]
 ·dsimp only;rw [hl];exact own_same h.now (ho _ (fun e=>n4 e.symm))
 ·dsimp only;rw [hl];exact own_same h.pend (ho _ (fun e=>n5 e.symm))
theorem DevAt.cleared (h:DevAt B w b y D):DevAt B (w.setCells y.gp 0 (List.replicate D.kept.length (.bool false))) b y { D with pend:=List.replicate D.kept.length false }:=by
 obtain ⟨n1,n2,n3,n4,n5,n6⟩:=h.ne;refine ⟨h.own,row_setCells_other n3 _ _ _ h.cells,ownsRow_setCells_other n5 _ _ _ h.kept,ownsRow_setCells_other n6 _ _ _ h.now,?_,h.ne,h.pos,h.left,h.acts⟩;have:=ownsRow_setCells (List.replicate D.kept.length (.bool false)) 0 w _ h.pend;rw [fold_set _ _ _ (by have:=h.pend.1;simpa using this.symm)] at this;simpa [bools] using this
end Go.Proofs.YtnpdhidliaahbaaGreat
namespace Go.Proofs.YtnpdhidliaahbaaGreat
open Go.Lib (hid)
open Go Go.RowKit
variable {B b:Nat} {w:World} {y:Lay} {D:Dev}
theorem flush_ok (h:DevAt B w b y D) (hd:D.dead=false) (ha:D.acts < 1000000000000) :
  Calls Tryz.prog 70 #[.pointer (some ⟨b,0,none⟩)] w fun e w'=>e=.returned (.int .i64 0)/\DevAt B w' b y D.acted.flushed/\Only [b,y.gk,y.gp] w w':=by
 have hask:=ask_any h 0
 have hk0:D.ask 0=0:=by unfold Dev.ask;have:=h.pos;rw [if_neg (by omega)]
 rw [hk0] at hask
 have hact:=act_any h ha
 rw [hd] at hact
 simp only [Bool.false_eq_true,if_false] at hact
 have HASK:=hid hask
 have HACT:=hid hact
 clear h hask hact hk0 hd ha
 generalize D.acted=E at *
 go_enter Tryz.func70,Tryz.ntmps70
 go_wp2_with fail
 refine HASK.out.mono ?_
 rintro e w' ⟨rfl,rfl⟩
 go_wp2_with fail
 refine HACT.out.mono ?_
 rintro e w2 ⟨rfl,hE,hO⟩
 have c0:=hE.c0
 have c1:=hE.c1
 have HE:=hid hE
 have HO:=hid hO
 obtain ⟨cur,hcur,hsz⟩:∃ cur,w2.heap[y.gk]?=some (.cells cur 9 (0,0))/\E.kept.length<=cur.size:=by
  rcases hE.kept.2 with ⟨hv,_⟩ | ⟨g',cap',cur',hv,hb,hg',r1,r2,r3,r4⟩
  ·cases hv
  cases hv;exact ⟨cur',hg',by omega⟩
 have hl2:(strs E.now).length=E.kept.length:=hE.now.1.trans (Nat.mul_one _)
 have hsrc:∀ j v,(strs E.now)[j]?=some v->w2.cell? ((⟨y.gn,0,none⟩:Addr).add j)=some v:=hE.now.cells rfl
 have hone:∀ v ∈ strs E.now,v.oneCell'=true:=by intro v hv;simp [strs] at hv;obtain ⟨_,_,rfl⟩:=hv;rfl
 have hEd:DevAt B w2.drew b y E:=hE.below ⟨rfl,rfl,rfl,Nat.le_refl _,fun _ _=>rfl⟩
 have hcp:=hEd.copied cur hcur hsz
 have hO3:Only [b,y.gk,y.gp] w (w2.drew.setRow y.gk (cur.toList.take 0 ++ (strs E.now ++ cur.toList.drop (0+(strs E.now).length))).toArray):=
  (hO.sub (by simp)).trans ⟨rfl,rfl,rfl,by simp [World.setRow],fun k _ hn=>setRow_other _ _ _ _ (fun e=>hn (by simp [e]))⟩
 clear hE hO
 go_wp2_with fail
 go_still_tail 8,(by kernel_rfl)
 refine wpList_copy_own rfl _ _ 39 39 rfl 9 Tryz.underlying39 (by kernel_rfl) y.gk 0 E.kept.length y.ck ⟨y.gn,0,none⟩ E.kept.length y.cn rfl rfl cur 9 hcur (strs E.now) (by rw [hl2];simp) hsrc (by omega) hone ?_
 have he:cur.toList.take 0 ++ (strs E.now ++ cur.toList.drop (0+(strs E.now).length))=strs E.now ++ List.drop E.kept.length cur.toList:=by simp [hl2]
 rw [he] at hcp hO3
 rw [he]
 have z2:=hcp.c2
 dsimp only at z2
 have HCL:=hid hcp.cleared
 have hcl:∀ ty,(Builtin.clear_ #[40] ty #[.slice (some ⟨y.gp,0,none⟩) E.now.length y.cp]).run Tryz.prog (w2.drew.setRow y.gk (strs E.now ++ List.drop E.kept.length cur.toList).toArray)=.ok (.tuple #[]) ((w2.drew.setRow y.gk (strs E.now ++ List.drop E.kept.length cur.toList).toArray).setCells y.gp 0 (List.replicate E.now.length (.bool false))):=fun ty =>
  Lib.run_clear_slice (w2.drew.setRow y.gk (strs E.now ++ List.drop E.kept.length cur.toList).toArray) _ _ ty _ Tryz.underlying40 (fun _=>rfl) rfl rfl y.gp 0 _ _ hcp.pos.1 (fun j hj=>by
   rw [Nat.zero_add,own_cellAt hcp.pend (List.getElem?_eq_getElem (by rw [hcp.pend.1];simpa using hj))];rfl) (fun j _=>by rw [Nat.zero_add];exact ownsRow_free1 hcp.pend j)
 have hO4:Only [b,y.gk,y.gp] w ((w2.drew.setRow y.gk (strs E.now ++ List.drop E.kept.length cur.toList).toArray).setCells y.gp 0 (List.replicate E.now.length (.bool false))):=hO3.trans (only_setCells (by simp) _ _ _)
 have hEn:E.now.length=E.kept.length:=by rw [<- hl2];simp [strs]
 have HFL:Hid (DevAt B ((w2.drew.setRow y.gk (strs E.now ++ List.drop E.kept.length cur.toList).toArray).setCells y.gp 0 (List.replicate E.now.length (.bool false))) b y E.flushed):=hid (by
  have e:E.flushed = { E with kept:=E.now,pend:=List.replicate E.now.length false }:=(by unfold Dev.flushed;rw [hEn]);rw [e];exact HCL.out)
 have HO4:=hid hO4
 clear he
 clear hO4 hO3 hcp hEd hEn HCL HE HO hsrc hone
 go_wp2_with fail
 go_ret
 exact ⟨rfl,HFL.out,HO4.out⟩
def Dev.flushE (D:Dev):Int:=if D.dead then 61 else 0
def Dev.flush (D:Dev):Dev:=if D.dead then D else D.acted.flushed
theorem flush_any (h:DevAt B w b y D) (ha:D.acts < 1000000000000) :
  Calls Tryz.prog 70 #[.pointer (some ⟨b,0,none⟩)] w fun e w'=>e=.returned (.int .i64 D.flushE)/\DevAt B w' b y D.flush/\Only [b,y.gk,y.gp] w w':=by
 cases hd:D.dead
 ·have e1:D.flushE=0:=(by unfold Dev.flushE;rw [hd];rfl);have e2:D.flush=D.acted.flushed:=(by unfold Dev.flush;rw [hd];rfl);rw [e1,e2];exact flush_ok h hd ha
 ·have e1:D.flushE=61:=(by unfold Dev.flushE;rw [hd];rfl);have e2:D.flush=D:=(by unfold Dev.flush;rw [hd];rfl);rw [e1,e2];have hask:=ask_any h 0;have hk0:D.ask 0=0:=(by unfold Dev.ask;have:=h.pos;rw [if_neg (by omega)]);rw [hk0] at hask;have hact:=act_any h ha;rw [hd] at hact;simp only [if_true] at hact;have HASK:=hid hask;have HACT:=hid hact;have HH:=hid h;clear h hask hact hk0 hd ha e1 e2;go_enter Tryz.func70,Tryz.ntmps70;go_wp2_with fail;refine HASK.out.mono ?_;rintro e w' ⟨rfl,rfl⟩;go_wp2_with fail;refine HACT.out.mono ?_;rintro e w' ⟨rfl,rfl⟩;go_wp2_with fail;go_ret;exact ⟨rfl,HH.out,Only.refl _ _⟩
end Go.Proofs.YtnpdhidliaahbaaGreat
