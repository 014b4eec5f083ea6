/- Records: Decode. -/
import Derived.Test.YtnpdhidliaahbaaGreatP17
import Derived.Test.YtnpdhidliaahbaaGreatP04
import Derived.Deep.DeepCutAuto
set_option maxRecDepth 100000
set_option maxHeartbeats 32000000
set_option linter.unusedSimpArgs false
set_option linter.unusedVariables false
namespace Go.Proofs.YtnpdhidliaahbaaGreat
open Go.Lib (hid)
open Go Go.RowKit
theorem own_setR {w:World} {a:Addr} {u v:Value} {S:TypeId} {cs':List Value} {base size n:Nat} {e:TypeId} {xs:List Value} (ha:Row w a.block S cs') (h:w.ownsRow base e size v n xs) (hT:e ≠ S):(w.setCell a u).ownsRow base e size v n xs:=by
 obtain ⟨fr,ha,-⟩:=ha;refine ⟨h.1,h.2.imp id ?_⟩;rintro ⟨g,cap,cur,rfl,hg',hh,r⟩;refine ⟨g,cap,cur,rfl,hg',?_,r⟩;rw [Below.heap_setCell _ _ _ _ (fun h=>?_)]
 ·exact hh
 subst h;rw [ha] at hh;cases hh;exact hT rfl
theorem row_grownR {w w':World} {v:Value} {base size n:Nat} {e T:TypeId} {xs cs:List Value} {b:Nat} (h:Row w b T cs) (hown:w.ownsRow base e size v n xs) (hg:w.grownBy w' v.ownBlock) (hT:T ≠ e):Row w' b T cs:=by
 refine h.grown hg (fun he=>?_);obtain ⟨fr,hb,-⟩:=h;rcases hown.2 with ⟨rfl,_⟩ | ⟨g,cap,cur,rfl,_,hh,_⟩
 ·simp [Value.ownBlock] at he
 ·simp only [Value.ownBlock,Option.some.injEq] at he;subst he;rw [hh] at hb;cases hb;exact hT rfl
theorem own_onlyR {w w':World} {v:Value} {base size n:Nat} {e T:TypeId} {xs cs:List Value} {b:Nat} (h:w.ownsRow base e size v n xs) (hr:Row w b T cs) (ho:Only [b] w w') (hT:e ≠ T):w'.ownsRow base e size v n xs:=by
 obtain ⟨fr,hb,-⟩:=hr;refine ⟨h.1,h.2.imp id ?_⟩;rintro ⟨g,cap,cur,rfl,hg',hh,r⟩;refine ⟨g,cap,cur,rfl,hg',?_,r⟩;rw [ho.block g (lt_of_block hh) (fun hg=>?_)]
 ·exact hh
 rw [List.mem_singleton.1 hg,hb] at hh;cases hh;exact hT rfl
theorem own_otherR {w w':World} {v u:Value} {base size n base' size' n':Nat} {e e':TypeId} {xs ys:List Value} (h:w.ownsRow base' e' size' u n' ys) (hown:w.ownsRow base e size v n xs) (hg:w.grownBy w' v.ownBlock) (hT:e' ≠ e):w'.ownsRow base' e' size' u n' ys:=by
 refine ⟨h.1,h.2.imp id ?_⟩;rintro ⟨g,cap,cur,rfl,hg',hh,r⟩;refine ⟨g,cap,cur,rfl,hg',?_,r⟩;rw [hg.block g (lt_of_block hh) (fun he=>?_)]
 ·exact hh
 rcases hown.2 with ⟨rfl,_⟩ | ⟨g2,cap2,cur2,rfl,_,hh2,_⟩
 ·simp [Value.ownBlock] at he
 ·simp only [Value.ownBlock,Option.some.injEq] at he;subst he;rw [hh2] at hh;cases hh;exact hT rfl
namespace Rec
open Go.Lib (hid)
def none_:V:=⟨0,0,0,[],[],0⟩
def decV (s:Bytes):V:=(dec s).getD none_
def decE (s:Bytes):Int:=if (dec s).isSome=true then 0 else 80
theorem dec_no {s:Bytes} (h:dec s=none):decV s=none_/\decE s=80:=by unfold decV decE;rw [h];exact ⟨rfl,rfl⟩
theorem dec_yes {s:Bytes} {x:V} (h:dec s=some x):decV s=x/\decE s=0:=by unfold decV decE;rw [h];exact ⟨rfl,rfl⟩
theorem dec_short {s:Bytes} (h:s.length ≠ 128 ∨ s.take 4 ≠ magic):dec s=none:=by
 cases e:dec s with
 | none=>rfl
 | some x =>
  rcases h with h | h
  ·exact absurd (dec_some e).1 h
  exact absurd (dec_magic e) h
theorem dec_end {s:Bytes} (hl:s.length=128) {x:V} {bad:Bool} (h:(bad=false/\x=raw s) ∨ (may (raw s)=false/\(bad=true ∨ may x=false))) :
  dec s=if bad=false/\(encR x).2=0/\(encR x).1=s then some x else none:=by
 rcases h with ⟨h1,rfl⟩ | ⟨h1,h2⟩
 ·unfold dec encR;by_cases k:may (raw s)=true
  ·rw [if_pos k];dsimp only;by_cases k2:rb (raw s)=s
   ·rw [if_pos ⟨hl,k,k2⟩,if_pos ⟨h1,rfl,k2⟩]
   rw [if_neg (fun h=>k2 h.2.2),if_neg (fun h=>k2 h.2.2)]
  rw [if_neg k,if_neg (fun h=>k h.2.1),if_neg (fun h=>absurd h.2.1 (by decide))]
 ·have e1:dec s=none:=(by unfold dec;rw [if_neg (fun h=>by rw [h1] at h;exact absurd h.2.1 (by decide))]);rw [e1,if_neg];rintro ⟨g1,g2,g3⟩;rcases h2 with h2 | h2
  ·rw [h2] at g1;cases g1
  unfold encR at g2;rw [if_neg (by rw [h2];decide)] at g2;exact absurd g2 (by decide)
end Rec
def RecOwn (B:Nat) (w:World) (v:Value) (x:Rec.V):Prop:=∃ h m,v=.agg #[.int .i64 x.kind,.int .u64 x.seq,.int .i64 x.at_,h,m,.int .u32 x.sum]/\OwnInts B w h x.homes/\OwnFlags B w m x.masked
theorem recown_none (B:Nat) (w:World):RecOwn B w (.agg #[.int .i64 0,.int .u64 0,.int .i64 0,.slice none 0 0,.slice none 0 0,.int .u32 0]) Rec.none_:=⟨_,_,rfl,World.ownsRow_nil _ _ _ _,World.ownsRow_nil _ _ _ _⟩
theorem recat_none (w:World):RecAt w (.agg #[.int .i64 0,.int .u64 0,.int .i64 0,.slice none 0 0,.slice none 0 0,.int .u32 0]) Rec.none_:=
 ⟨⟨_,_,rfl,.inl ⟨rfl,rfl⟩,.inl ⟨rfl,rfl⟩⟩,by decide,by decide,by decide,by decide,by decide⟩
def DecEnd (l:Bytes) (bad:Bool) (x:Rec.V):Prop:=Rec.dec l=if bad=false/\(Rec.encR x).2=0/\(Rec.encR x).1=l then some x else none
theorem box1 (w:World) (v:Value) (T:TypeId):∀ jj uu,[v][jj]?=some uu->(w.alloc (.cells #[v] T)).cell? ((⟨w.heap.size,0,none⟩:Addr).add jj)=some uu:=fun jj uu hjj=>by
 have hadd:(⟨w.heap.size,0,none⟩:Addr).add jj=⟨w.heap.size,jj,none⟩:=(by unfold Addr.add;split <;> simp_all);rw [hadd];exact (World.cell?_alloc_at (w:=w) _ _ _ jj rfl).trans (by simpa using hjj)
theorem own_new1 {w:World} {B:Nat} {E:TypeId} {size n:Nat} {v:Value} {xs:List Value} (h:w.ownsRow B E size v n xs) (o:Obj):(w.alloc o).ownsRow B E size v n xs:=own_below h ((Below.refl _ _).alloc (Nat.le_refl _) o)
theorem dec_keep {A X k n m:Nat} {w9 w5:World} {E E':TypeId} {v v5 u:Value} {ys xs zs:List Value} {o:Obj} (rX:Row w9 X 61 xs) (ho:(w9.alloc o).ownsRow A E 1 v n ys) (hgrow:(w9.alloc o).grownBy w5 v.ownBlock) (hu:w9.ownsRow A E' 1 u m zs) (h1:E' ≠ E) (h2:E' ≠ 61) (h3:E ≠ 61):(w5.setCell ⟨X,k,none⟩ v5).ownsRow A E' 1 u m zs:=
 own_setR (a:=⟨X,k,none⟩) (row_grownR (rX.alloc o) ho hgrow (Ne.symm h3)) (own_otherR (own_new1 hu o) ho hgrow h1) h2
theorem infoFlag:(Tryz.prog.info? 4).map (fun i=>(i.zero,i.size,i.bytes))=some (some (.bool false),1,1):=by kernel_rfl
theorem raw_long {x:Rec.V} (hk:x.kind=2 ∨ x.kind=3) (h:28 < x.homes.length ∨ (x.kind=2/\24 < x.homes.length)):Rec.may x=false:=by
 rw [Bool.eq_false_iff];intro hm;rcases Rec.may_cases hm with ⟨k,-⟩ | ⟨k,-,-,-,-,k5,-⟩ | ⟨k,-,-,-,-,k5,-⟩ | ⟨k,-⟩
 ·omega
 ·omega
 ·omega
 ·omega
theorem dec_push {A X R k n n5:Nat} {w w9 w5:World} {E:TypeId} {v v5:Value} {ys ys5 zs xs rs:List Value} {o:Obj} (hAX:A < X) (hXR:X < R) (rA:Row w9 A 61 zs) (rX:Row w9 X 61 xs) (rR:Row w9 R 208 rs) (ho:(w9.alloc o).ownsRow A E 1 v n ys) (B:Below A w w9) (hA:A<=w.heap.size) (hgrow:(w9.alloc o).grownBy w5 v.ownBlock) (hown:w5.ownsRow A E 1 v5 n5 ys5) (h1:E ≠ 61) (h2:E ≠ 208) :
  Row (w5.setCell ⟨X,k,none⟩ v5) A 61 zs/\Row (w5.setCell ⟨X,k,none⟩ v5) X 61 (xs.set k v5)/\Row (w5.setCell ⟨X,k,none⟩ v5) R 208 rs/\(w5.setCell ⟨X,k,none⟩ v5).ownsRow A E 1 v5 n5 ys5/\Below A w (w5.setCell ⟨X,k,none⟩ v5):=by
 have rA5:=row_grownR (rA.alloc o) ho hgrow (Ne.symm h1)
 have rX5:=row_grownR (rX.alloc o) ho hgrow (Ne.symm h1)
 have rR5:=row_grownR (rR.alloc o) ho hgrow (Ne.symm h2)
 have hs:=B.size
 have B5:Below A w w5:=(B.alloc (Nat.le_trans hA hs) o).grown hgrow (by simp;omega) (fun j hj=>(World.ownsRow.lt ho j hj).1)
 exact ⟨rA5.other (by dsimp only;omega) _,rX5.set k _,rR5.other (by dsimp only;omega) _,own_setR (a:=⟨X,k,none⟩) rX5 hown h1,B5.setCell (by dsimp only;omega) _⟩
theorem home_get (s:ByteArray) (hl:s.size=128) (R i:Nat) (H:List Int) (hH:H=Rec.getH s.data.toList i) (hi:i<=57):∃ (V:Int) (bd:Bool),(bd=false->i+1<=57/\H ++ [V]=Rec.getH s.data.toList (i+1))/\(bd=true->i+1=58) /\
  ∀ w,Row w R 208 [.string s,.int .i64 ((14+2 * i:Nat):Int),.bool false]->Calls Tryz.prog 135 #[.pointer (some ⟨R,0,none⟩),.int .i64 2] w fun e w'=>e=.returned (.int .i64 V)/\Row w' R 208 [.string s,.int .i64 ((14+2 * (i+1):Nat):Int),.bool bd]/\Only [R] w w':=by
 have h2:=getW_lt s.data.toList (14+2 * i) 2
 have h16:(256:Nat) ^ 2=65536:=by decide
 by_cases k:i<=56
 ·refine ⟨((getW s.data.toList (14+2 * i) 2:Nat):Int),false,fun _=>⟨by omega,by rw [Rec.getH_succ,hH]⟩,(fun h=>by cases h),fun w h=>?_⟩;exact rget_yes R s (14+2 * i) 2 false (.inr (.inl rfl)) (by omega) (by omega) (by omega) (by omega) w h
 ·refine ⟨0,true,(fun h=>by cases h),(fun _=>by omega),fun w h=>?_⟩;exact rget_no R s (14+2 * i) 2 false (.inr (.inl rfl)) (by omega) (by omega) (by omega) w h
theorem flag_get (s:ByteArray) (hl:s.size=128) (R a j:Nat) (ha:a<=128) (M:List Bool) (hM:M=Rec.getM s.data.toList a j) (hj:a+j<=128):∃ (V:Int) (bd:Bool),(bd=false->a+(j+1)<=128/\M ++ [V == 1]=Rec.getM s.data.toList a (j+1))/\(bd=true->128 < a+(j+1)) /\
  ∀ w,Row w R 208 [.string s,.int .i64 ((a+j:Nat):Int),.bool false]->Calls Tryz.prog 135 #[.pointer (some ⟨R,0,none⟩),.int .i64 1] w fun e w'=>e=.returned (.int .i64 V)/\Row w' R 208 [.string s,.int .i64 ((a+(j+1):Nat):Int),.bool bd]/\Only [R] w w':=by
 have h2:=getW_lt s.data.toList (a+j) 1
 by_cases k:a+(j+1)<=128
 ·refine ⟨((getW s.data.toList (a+j) 1:Nat):Int),false,fun _=>⟨by omega,?_⟩,(fun h=>by cases h),fun w h=>?_⟩
  ·rw [Rec.getM_succ,hM];congr 2;generalize getW s.data.toList (a+j) 1=n;rw [Bool.eq_iff_iff];simp;omega
  exact rget_yes R s (a+j) 1 false (.inl rfl) (by omega) (by omega) (by omega) (by omega) w h
 ·refine ⟨0,true,(fun h=>by cases h),(fun _=>by omega),fun w h=>?_⟩;exact rget_no R s (a+j) 1 false (.inl rfl) (by omega) (by omega) (by omega) w h
theorem decode_any (s:ByteArray) (w:World) (hs:s.size<=140737488351232) :
  Calls Tryz.prog 97 #[.string s] w fun e w'=>∃ v,e=.returned (.tuple #[v,.int .i64 (Rec.decE s.data.toList)])/\RecAt w' v (Rec.decV s.data.toList)/\RecOwn w.heap.size w' v (Rec.decV s.data.toList)/\Below w.heap.size w w':=by
 have hp:∀ w,Calls Tryz.prog 114 #[.string s,.string ⟨#[71,76,74,119]⟩] w fun e w'=>e=.returned (.bool (decide (s.data.toList.take 4=Rec.magic)))/\w'=w:=fun w=>by
  have:=Tryz.strings_HasPrefix s ⟨#[71,76,74,119]⟩ w;rwa [magic_prefix] at this
 have BA:=hid ((Below.refl w.heap.size w).alloc (Nat.le_refl _) (.cells #[.int .i64 0,.int .u64 0,.int .i64 0,.slice none 0 0,.slice none 0 0,.int .u32 0] 61))
 by_cases h1:s.size=128
 case neg =>
  obtain ⟨e1,e2⟩:=Rec.dec_no (Rec.dec_short (s:=s.data.toList) (.inl (by rw [list_length];exact h1)));rw [e1,e2];have h1':((s.size:Int) != 128)=true:=(by rw [bne_iff_ne];omega);clear e1 e2 hp;go_enter Tryz.func97,Tryz.ntmps97;go_wp2_with fail;exact bodyPost_ret (v:=.tuple #[.agg #[.int .i64 0,.int .u64 0,.int .i64 0,.slice none 0 0,.slice none 0 0,.int .u32 0],.int .i64 80]) (by simp [results,Tryz.results97,go_sem]) rfl ⟨_,rfl,recat_none _,recown_none _ _,BA.out⟩
 by_cases h2:s.data.toList.take 4=Rec.magic
 case neg =>
  obtain ⟨e1,e2⟩:=Rec.dec_no (Rec.dec_short (s:=s.data.toList) (.inr h2));rw [e1,e2];have hq:=hid hp;rw [decide_eq_false h2] at hq;have h1':((s.size:Int) != 128)=false:=(by rw [bne_eq_false_iff_eq];omega);clear e1 e2 hp h2;go_enter Tryz.func97,Tryz.ntmps97;go_wp2_with (go_at_call 114;refine (hq.out _).mono ?_;rintro e w1 ⟨rfl,rfl⟩);exact bodyPost_ret (v:=.tuple #[.agg #[.int .i64 0,.int .u64 0,.int .i64 0,.slice none 0 0,.slice none 0 0,.int .u32 0],.int .i64 80]) (by simp [results,Tryz.results97,go_sem]) rfl ⟨_,rfl,recat_none _,recown_none _ _,BA.out⟩
 have hl:s.data.toList.length=128:=by rw [list_length];exact h1
 have hq:=hid hp
 rw [decide_eq_true h2] at hq
 have h1':((s.size:Int) != 128)=false:=by rw [bne_eq_false_iff_eq];omega
 have hw8:=getW_lt s.data.toList 4 1
 have hw64:=getW_lt s.data.toList 5 8
 have HL:=hid hl
 have HS:=hid h1
 have raw1:Hid (getW s.data.toList 4 1=1->Rec.raw s.data.toList=⟨1,getW s.data.toList 5 8,(getW s.data.toList 13 2:Nat),[],[],0⟩):=hid (fun h=>by unfold Rec.raw;rw [if_pos h])
 have raw4:Hid (getW s.data.toList 4 1=4->Rec.raw s.data.toList=⟨4,getW s.data.toList 5 8,0,[],[],getW s.data.toList 13 4⟩):=hid (fun h=>by unfold Rec.raw;rw [if_neg (by omega),if_pos h])
 have raw2:Hid (getW s.data.toList 4 1=2->Rec.raw s.data.toList=⟨2,getW s.data.toList 5 8,0,Rec.getH s.data.toList (getW s.data.toList 13 1),Rec.getM s.data.toList (14+2 * getW s.data.toList 13 1) (getW s.data.toList 13 1),0⟩):=hid (fun h=>by unfold Rec.raw;rw [if_neg (by omega),if_neg (by omega),if_pos h])
 have raw3:Hid (getW s.data.toList 4 1=3->Rec.raw s.data.toList=⟨3,getW s.data.toList 5 8,0,Rec.getH s.data.toList (getW s.data.toList 13 1),[],0⟩):=hid (fun h=>by unfold Rec.raw;rw [if_neg (by omega),if_neg (by omega),if_neg (by omega),if_pos h])
 have raw0:Hid (getW s.data.toList 4 1 ≠ 1->getW s.data.toList 4 1 ≠ 2->getW s.data.toList 4 1 ≠ 3->getW s.data.toList 4 1 ≠ 4->Rec.raw s.data.toList=⟨(getW s.data.toList 4 1:Nat),getW s.data.toList 5 8,0,[],[],0⟩):=hid (fun h1 h2 h3 h4=>by unfold Rec.raw;rw [if_neg h1,if_neg h4,if_neg h2,if_neg h3])
 have hget:∀ (R at_ k:Nat) (w:World),SizeOk k->k<=4->at_+k<=128->Row w R 208 [.string s,.int .i64 (at_:Int),.bool false]->Calls Tryz.prog 135 #[.pointer (some ⟨R,0,none⟩),.int .i64 k] w fun e w'=>e=.returned (.int .i64 (getW s.data.toList at_ k:Nat))/\Row w' R 208 [.string s,.int .i64 ((at_+k:Nat):Int),.bool false]/\Only [R] w w':=fun R at_ k w hk h4 ha h=>by
  have hlt:=getW_lt s.data.toList at_ k;have hle:(256:Nat) ^ k<=256 ^ 4:=Nat.pow_le_pow_right (by decide) h4
  exact rget_yes R s at_ k false hk hs (by omega) (by omega) (by (have:(256:Nat) ^ 4=4294967296:=by decide);omega) w h
 have HG:=hid hget
 have qg:Hid (∀ w,Calls Tryz.prog 136 #[.string s,.int .i64 5,.int .i64 8] w fun e w'=>e=.returned (.tuple #[.int .u64 (getW s.data.toList 5 8:Nat),.bool true])/\w=w'):=hid (fun w=>get_yes s 5 8 (.inr (.inr (.inr rfl))) hs (by omega) w)
 have rA:=((Row.new w 61 [.int .i64 0,.int .u64 0,.int .i64 0,.slice none 0 0,.slice none 0 0,.int .u32 0] rfl).alloc (.cells #[.int .i64 0,.int .u64 0,.int .i64 0,.slice none 0 0,.slice none 0 0,.int .u32 0] 61)).alloc (.cells #[.string s,.int .i64 4,.bool false] 208)
 have rX:=(Row.new (w.alloc (.cells #[.int .i64 0,.int .u64 0,.int .i64 0,.slice none 0 0,.slice none 0 0,.int .u32 0] 61)) 61 [.int .i64 0,.int .u64 0,.int .i64 0,.slice none 0 0,.slice none 0 0,.int .u32 0] rfl).alloc (.cells #[.string s,.int .i64 4,.bool false] 208)
 have rR:=Row.new ((w.alloc (.cells #[.int .i64 0,.int .u64 0,.int .i64 0,.slice none 0 0,.slice none 0 0,.int .u32 0] 61)).alloc (.cells #[.int .i64 0,.int .u64 0,.int .i64 0,.slice none 0 0,.slice none 0 0,.int .u32 0] 61)) 208 [.string s,.int .i64 4,.bool false] rfl
 have hBW:=hid ((BA.out.alloc (by simp) (.cells #[.int .i64 0,.int .u64 0,.int .i64 0,.slice none 0 0,.slice none 0 0,.int .u32 0] 61)).alloc (by simp;omega) (.cells #[.string s,.int .i64 4,.bool false] 208))
 rw [World.size_alloc] at rX
 rw [World.size_alloc,World.size_alloc] at rR
 have RA:=hid rA
 have RX:=hid rX
 have RR:=hid rR
 clear hp h1 h2 hl rA rX rR hget BA
 generalize getW s.data.toList 5 8=Q at *
 go_enter Tryz.func97,Tryz.ntmps97
 go_wp2_with (go_at_call 114;refine (hq.out _).mono ?_;rintro e w1 ⟨rfl,rfl⟩)
 have n1:w.heap.size < w.heap.size+1:=by omega
 have n2:w.heap.size+1 < w.heap.size+1+1:=by omega
 generalize ((w.alloc _).alloc _).alloc _=w3 at *
 generalize w.heap.size+1+1=R at *
 generalize w.heap.size+1=X at *
 have g1:=hid (HG.out R 4 1 w3 (.inl rfl) (by decide) (by decide) RR.out)
 refine (show Calls Tryz.prog 135 #[.pointer (some ⟨R,0,none⟩),.int .i64 1] w3 _ from g1.out).mono ?_
 rintro e w4 ⟨rfl,rR4,o4⟩
 have rX4:=o4.row RX.out (by simp;omega)
 have rA4:=o4.row RA.out (by simp;omega)
 have B4:=hid (hBW.out.trans (o4.below hBW.out.size (by simp;omega)))
 clear g1 RA RX RR hBW o4
 generalize getW s.data.toList 4 1=K at *
 have rX5:=rX4.set 0 (.int .i64 (K:Int))
 have rR5:=rR4.other (a:=⟨X,0,none⟩) (by simp;omega) (.int .i64 (K:Int))
 have rA5:=rA4.other (a:=⟨X,0,none⟩) (by simp;omega) (.int .i64 (K:Int))
 have rX6:=rX5.set 1 (.int .u64 (Q:Int))
 have rR6:=rR5.other (a:=⟨X,1,none⟩) (by simp;omega) (.int .u64 (Q:Int))
 have rA6:=rA5.other (a:=⟨X,1,none⟩) (by simp;omega) (.int .u64 (Q:Int))
 have rX7:=rX6.other (a:=⟨R,1,none⟩) (by simp;omega) (.int .i64 13)
 have rR7:=rR6.set 1 (.int .i64 13)
 have rA7:=rA6.other (a:=⟨R,1,none⟩) (by simp;omega) (.int .i64 13)
 have B7:=hid (((B4.out.setCell (p:=⟨X,0,none⟩) (by dsimp only;omega) (.int .i64 (K:Int))).setCell (p:=⟨X,1,none⟩) (by dsimp only;omega) (.int .u64 (Q:Int))).setCell (p:=⟨R,1,none⟩) (by dsimp only;omega) (.int .i64 13))
 have x0:=rX4.cellAt 0 rfl
 have fx0:=rX4.free 0 (by simp)
 have x1:=rX5.cellAt 1 rfl
 have fx1:=rX5.free 1 (by simp)
 have r1:=rR5.cellAt 1 rfl
 have r1':=rR6.cellAt 1 rfl
 have fr1:=rR6.free 1 (by simp)
 have xk:=rX7.cellAt 0 rfl
 have RX7:=hid rX7
 have RR7:=hid rR7
 have RA7:=hid rA7
 clear rX4 rR4 rA4 rX5 rR5 rA5 rX6 rR6 rA6 rX7 rR7 rA7 B4
 go_upto_region 8 with (go_at_call 136;refine (qg.out _).mono ?_;rintro e w5 ⟨rfl,rfl⟩)
 generalize ((w4.setCell _ _).setCell _ _).setCell _ _=w7 at *
 clear x0 fx0 x1 fx1 r1 r1' fr1
 iterate 10 go_step
 go_cut [] (fun wx=>∃ (x:Rec.V) (ah:Option Addr) (ch:Nat) (am:Option Addr) (cm:Nat) (nr:Int) (bd:Bool),Hid (Row wx w.heap.size 61 [.int .i64 0,.int .u64 0,.int .i64 0,.slice none 0 0,.slice none 0 0,.int .u32 0])/\Hid (Row wx X 61 [.int .i64 x.kind,.int .u64 (x.seq:Int),.int .i64 x.at_,.slice ah x.homes.length ch,.slice am x.masked.length cm,.int .u32 (x.sum:Int)])/\Hid (Row wx R 208 [.string s,.int .i64 nr,.bool bd])/\Hid (RecAt wx (.agg #[.int .i64 x.kind,.int .u64 (x.seq:Int),.int .i64 x.at_,.slice ah x.homes.length ch,.slice am x.masked.length cm,.int .u32 (x.sum:Int)]) x)/\Hid (OwnInts w.heap.size wx (.slice ah x.homes.length ch) x.homes)/\Hid (OwnFlags w.heap.size wx (.slice am x.masked.length cm) x.masked)/\Hid (Below w.heap.size w wx)/\Hid (DecEnd s.data.toList bd x))
 case rest =>
  clear HG raw1 raw2 raw3 raw4 raw0 RA7 RX7 RR7 B7 xk;obtain ⟨x,ah,ch,am,cm,nr,bd,RA9,RX9,RR9,HR,hO,hF,B9,hend⟩:=hcut;have HE:=hid (encode_any _ x wc HR.out);replace hend:=hend.out;unfold DecEnd at hend;replace hend:=hid hend;have hE2:(Rec.encR x).2=0 ∨ (Rec.encR x).2=2:=by unfold Rec.encR;split <;> simp
  generalize Rec.encR x=ER at *;obtain ⟨e1,e2⟩:=ER;obtain ⟨x0,x1,x2,x3,x4,x5⟩:=RX9.out.c6;dsimp only at hE2 HE hend;cases bd;case true =>
   obtain ⟨d1,d2⟩:=Rec.dec_no (show Rec.dec s.data.toList=none from by rw [hend.out,if_neg (fun h=>absurd h.1 (by decide))]);have D1:=hid d1;have D2:=hid d2;clear d1 d2;go_wp2_with (go_at_call 23;(with_reducible refine HE.out.mono ?_);rintro e wE ⟨rfl,hbE⟩;have rAE:=RA9.out.below hbE RA9.out.lt;have rXE:=RX9.out.below hbE RX9.out.lt;have rRE:=RR9.out.below hbE RR9.out.lt;have bd:=rRE.cellAt 2 rfl;obtain ⟨a0,fa0,a1,fa1,a2,fa2,a3,fa3,a4,fa4,a5,fa5⟩:=rAE.f6;obtain ⟨y0,y1,y2,y3,y4,y5⟩:=rXE.c6);have rF:=((((((rAE.set 0 (.int .i64 0)).set 1 (.int .u64 0)).set 2 (.int .i64 0)).set 3 (.slice none 0 0)).set 4 (.slice none 0 0)).set 5 (.int .u32 0));obtain ⟨c0,c1,c2,c3,c4,c5⟩:=rF.c6;exact bodyPost_ret (v:=.tuple #[.agg #[.int .i64 0,.int .u64 0,.int .i64 0,.slice none 0 0,.slice none 0 0,.int .u32 0],.int .i64 80]) (by simp [results,Tryz.results97,go_sem,c0,c1,c2,c3,c4,c5]) rfl ⟨_,by rw [D2.out],by rw [D1.out];exact recat_none _,by rw [D1.out];exact recown_none _ _,(((((((B9.out.trans (hbE.mono B9.out.size)).sC 0 (.int .i64 0)).sC 1 (.int .u64 0)).sC 2 (.int .i64 0)).sC 3 (.slice none 0 0)).sC 4 (.slice none 0 0)).sC 5 (.int .u32 0))⟩
  rcases hE2 with rfl | rfl
  ·by_cases hY:txt e1=s
   ·obtain ⟨d1,d2⟩:=Rec.dec_yes (show Rec.dec s.data.toList=some x from by rw [hend.out,if_pos ⟨rfl,rfl,by rw [<- hY,txt_list]⟩]);have D1:=hid d1;have D2:=hid d2;rw [hY] at HE;clear d1 d2 hY;go_wp2_with (go_at_call 23;(with_reducible refine HE.out.mono ?_);rintro e wE ⟨rfl,hbE⟩;have rAE:=RA9.out.below hbE RA9.out.lt;have rXE:=RX9.out.below hbE RX9.out.lt;have rRE:=RR9.out.below hbE RR9.out.lt;have bd:=rRE.cellAt 2 rfl;obtain ⟨a0,fa0,a1,fa1,a2,fa2,a3,fa3,a4,fa4,a5,fa5⟩:=rAE.f6;obtain ⟨y0,y1,y2,y3,y4,y5⟩:=rXE.c6);have rF:=((((((rAE.set 0 (.int .i64 x.kind)).set 1 (.int .u64 (x.seq:Int))).set 2 (.int .i64 x.at_)).set 3 (.slice ah x.homes.length ch)).set 4 (.slice am x.masked.length cm)).set 5 (.int .u32 (x.sum:Int)));obtain ⟨c0,c1,c2,c3,c4,c5⟩:=rF.c6;have hOE:=hid (show OwnInts _ _ _ _ from (own_setR (a:=⟨w.heap.size,5,none⟩) (u:=.int .u32 (x.sum:Int)) (((((rAE.set 0 (.int .i64 x.kind)).set 1 (.int .u64 (x.seq:Int))).set 2 (.int .i64 x.at_)).set 3 (.slice ah x.homes.length ch)).set 4 (.slice am x.masked.length cm)) (own_setR (a:=⟨w.heap.size,4,none⟩) (u:=.slice am x.masked.length cm) ((((rAE.set 0 (.int .i64 x.kind)).set 1 (.int .u64 (x.seq:Int))).set 2 (.int .i64 x.at_)).set 3 (.slice ah x.homes.length ch)) (own_setR (a:=⟨w.heap.size,3,none⟩) (u:=.slice ah x.homes.length ch) (((rAE.set 0 (.int .i64 x.kind)).set 1 (.int .u64 (x.seq:Int))).set 2 (.int .i64 x.at_)) (own_setR (a:=⟨w.heap.size,2,none⟩) (u:=.int .i64 x.at_) ((rAE.set 0 (.int .i64 x.kind)).set 1 (.int .u64 (x.seq:Int))) (own_setR (a:=⟨w.heap.size,1,none⟩) (u:=.int .u64 (x.seq:Int)) (rAE.set 0 (.int .i64 x.kind)) (own_setR (a:=⟨w.heap.size,0,none⟩) (u:=.int .i64 x.kind) rAE (own_below hO.out hbE) (by decide)) (by decide)) (by decide)) (by decide)) (by decide)) (by decide)));have hFE:=hid (show OwnFlags _ _ _ _ from (own_setR (a:=⟨w.heap.size,5,none⟩) (u:=.int .u32 (x.sum:Int)) (((((rAE.set 0 (.int .i64 x.kind)).set 1 (.int .u64 (x.seq:Int))).set 2 (.int .i64 x.at_)).set 3 (.slice ah x.homes.length ch)).set 4 (.slice am x.masked.length cm)) (own_setR (a:=⟨w.heap.size,4,none⟩) (u:=.slice am x.masked.length cm) ((((rAE.set 0 (.int .i64 x.kind)).set 1 (.int .u64 (x.seq:Int))).set 2 (.int .i64 x.at_)).set 3 (.slice ah x.homes.length ch)) (own_setR (a:=⟨w.heap.size,3,none⟩) (u:=.slice ah x.homes.length ch) (((rAE.set 0 (.int .i64 x.kind)).set 1 (.int .u64 (x.seq:Int))).set 2 (.int .i64 x.at_)) (own_setR (a:=⟨w.heap.size,2,none⟩) (u:=.int .i64 x.at_) ((rAE.set 0 (.int .i64 x.kind)).set 1 (.int .u64 (x.seq:Int))) (own_setR (a:=⟨w.heap.size,1,none⟩) (u:=.int .u64 (x.seq:Int)) (rAE.set 0 (.int .i64 x.kind)) (own_setR (a:=⟨w.heap.size,0,none⟩) (u:=.int .i64 x.kind) rAE (own_below hF.out hbE) (by decide)) (by decide)) (by decide)) (by decide)) (by decide)) (by decide)));exact bodyPost_ret (v:=.tuple #[.agg #[.int .i64 x.kind,.int .u64 (x.seq:Int),.int .i64 x.at_,.slice ah x.homes.length ch,.slice am x.masked.length cm,.int .u32 (x.sum:Int)],.int .i64 0]) (by simp [results,Tryz.results97,go_sem,c0,c1,c2,c3,c4,c5]) rfl ⟨_,by rw [D2.out],by rw [D1.out];exact ⟨⟨_,_,rfl,hOE.out.at,hFE.out.at⟩,HR.out.seq,HR.out.sum,HR.out.kind,HR.out.at_,HR.out.len⟩,by rw [D1.out];exact ⟨_,_,rfl,hOE.out,hFE.out⟩,(((((((B9.out.trans (hbE.mono B9.out.size)).sC 0 (.int .i64 x.kind)).sC 1 (.int .u64 (x.seq:Int))).sC 2 (.int .i64 x.at_)).sC 3 (.slice ah x.homes.length ch)).sC 4 (.slice am x.masked.length cm)).sC 5 (.int .u32 (x.sum:Int)))⟩
   obtain ⟨d1,d2⟩:=Rec.dec_no (show Rec.dec s.data.toList=none from by rw [hend.out,if_neg (fun h=>hY (by rw [h.2.2,txt_of]))]);have D1:=hid d1;have D2:=hid d2;have hYs:((txt e1).toList == s.toList)=false:=(by rw [beq_eq_false_iff_ne];intro h;rw [ByteArray.toList_eq,ByteArray.toList_eq] at h;exact hY (by rw [<- txt_of (txt e1),h,txt_of]));generalize txt e1=Y at *;clear hY;clear d1 d2;go_wp2_with (go_at_call 23;(with_reducible refine HE.out.mono ?_);rintro e wE ⟨rfl,hbE⟩;have rAE:=RA9.out.below hbE RA9.out.lt;have rXE:=RX9.out.below hbE RX9.out.lt;have rRE:=RR9.out.below hbE RR9.out.lt;have bd:=rRE.cellAt 2 rfl;obtain ⟨a0,fa0,a1,fa1,a2,fa2,a3,fa3,a4,fa4,a5,fa5⟩:=rAE.f6;obtain ⟨y0,y1,y2,y3,y4,y5⟩:=rXE.c6);have rF:=((((((rAE.set 0 (.int .i64 0)).set 1 (.int .u64 0)).set 2 (.int .i64 0)).set 3 (.slice none 0 0)).set 4 (.slice none 0 0)).set 5 (.int .u32 0));obtain ⟨c0,c1,c2,c3,c4,c5⟩:=rF.c6;exact bodyPost_ret (v:=.tuple #[.agg #[.int .i64 0,.int .u64 0,.int .i64 0,.slice none 0 0,.slice none 0 0,.int .u32 0],.int .i64 80]) (by simp [results,Tryz.results97,go_sem,c0,c1,c2,c3,c4,c5]) rfl ⟨_,by rw [D2.out],by rw [D1.out];exact recat_none _,by rw [D1.out];exact recown_none _ _,(((((((B9.out.trans (hbE.mono B9.out.size)).sC 0 (.int .i64 0)).sC 1 (.int .u64 0)).sC 2 (.int .i64 0)).sC 3 (.slice none 0 0)).sC 4 (.slice none 0 0)).sC 5 (.int .u32 0))⟩
  obtain ⟨d1,d2⟩:=Rec.dec_no (show Rec.dec s.data.toList=none from by rw [hend.out,if_neg (fun h=>absurd h.2.1 (by decide))]);have D1:=hid d1;have D2:=hid d2;clear d1 d2;go_wp2_with (go_at_call 23;(with_reducible refine HE.out.mono ?_);rintro e wE ⟨rfl,hbE⟩;have rAE:=RA9.out.below hbE RA9.out.lt;have rXE:=RX9.out.below hbE RX9.out.lt;have rRE:=RR9.out.below hbE RR9.out.lt;have bd:=rRE.cellAt 2 rfl;obtain ⟨a0,fa0,a1,fa1,a2,fa2,a3,fa3,a4,fa4,a5,fa5⟩:=rAE.f6;obtain ⟨y0,y1,y2,y3,y4,y5⟩:=rXE.c6);have rF:=((((((rAE.set 0 (.int .i64 0)).set 1 (.int .u64 0)).set 2 (.int .i64 0)).set 3 (.slice none 0 0)).set 4 (.slice none 0 0)).set 5 (.int .u32 0));obtain ⟨c0,c1,c2,c3,c4,c5⟩:=rF.c6;exact bodyPost_ret (v:=.tuple #[.agg #[.int .i64 0,.int .u64 0,.int .i64 0,.slice none 0 0,.slice none 0 0,.int .u32 0],.int .i64 80]) (by simp [results,Tryz.results97,go_sem,c0,c1,c2,c3,c4,c5]) rfl ⟨_,by rw [D2.out],by rw [D1.out];exact recat_none _,by rw [D1.out];exact recown_none _ _,(((((((B9.out.trans (hbE.mono B9.out.size)).sC 0 (.int .i64 0)).sC 1 (.int .u64 0)).sC 2 (.int .i64 0)).sC 3 (.slice none 0 0)).sC 4 (.slice none 0 0)).sC 5 (.int .u32 0))⟩
 have HQ:Hid (Q < 2 ^ 64):=hid (by omega)
 by_cases e1:K=1
 ·subst e1;have hr:=raw1.out rfl;have g2:=hid (HG.out R 13 2 w7 (.inr (.inl rfl)) (by decide) (by decide) RR7.out);have hv2:=getW_lt s.data.toList 13 2;clear raw1 raw2 raw3 raw4 raw0 HG;generalize getW s.data.toList 13 2=V at *;have G2:Hid (Calls Tryz.prog 135 #[.pointer (some ⟨R,0,none⟩),.int .i64 2] w7 fun e w'=>e=.returned (.int .i64 (V:Int))/\Row w' R 208 [.string s,.int .i64 15,.bool false]/\Only [R] w7 w'):=hid g2.out;have HRW:=hid hr;clear g2 hr;go_wp2_with fail;refine G2.out.mono ?_;rintro e w8 ⟨rfl,rR8,o8⟩;have rX8:=o8.row RX7.out (by simp;omega);have rA8:=o8.row RA7.out (by simp;omega);have x2:=rX8.cellAt 2 rfl;have f2:=rX8.free 2 (by simp);have RX9:=hid (rX8.set 2 (.int .i64 (V:Int)));have RR9:=hid (rR8.other (a:=⟨X,2,none⟩) (by simp;omega) (.int .i64 (V:Int)));have RA9:=hid (rA8.other (a:=⟨X,2,none⟩) (by simp;omega) (.int .i64 (V:Int)));have B9:=hid ((B7.out.trans (o8.below B7.out.size (by simp;omega))).setCell (p:=⟨X,2,none⟩) (by dsimp only;omega) (.int .i64 (V:Int)));clear G2 rX8 rA8 rR8 o8 RX7 RR7 RA7 B7 xk;go_wp2_with fail;generalize w8.setCell _ _=w9 at *;clear x2 f2;go_meet;exact ⟨⟨1,Q,(V:Int),[],[],0⟩,_,_,_,_,_,_,RA9,RX9,RR9,hid ⟨⟨_,_,rfl,.inl ⟨rfl,rfl⟩,.inl ⟨rfl,rfl⟩⟩,HQ.out,(by decide:(0:Nat) < 2 ^ 32),by dsimp only;omega,by dsimp only;omega,by dsimp only;simp⟩,hid (World.ownsRow_nil _ _ _ _),hid (World.ownsRow_nil _ _ _ _),B9,hid (Rec.dec_end HL.out (bad:=false) (.inl ⟨rfl,HRW.out.symm⟩))⟩
 have e1':¬ (K:Int)=1:=by omega
 by_cases e4:K=4
 ·subst e4;have hr:=raw4.out rfl;have g2:=hid (HG.out R 13 4 w7 (.inr (.inr (.inl rfl))) (by decide) (by decide) RR7.out);have hv2:=getW_lt s.data.toList 13 4;clear raw1 raw2 raw3 raw4 raw0 HG e1 e1';generalize getW s.data.toList 13 4=V at *
  have HV:Hid (V < 2 ^ 32):=hid (by (have:(256:Nat) ^ 4=2 ^ 32:=by decide);omega)
  have hw:IntKind.u32.wrap (V:Int)=(V:Int):=by
   have:=HV.out;simp only [IntKind.wrap,IntKind.bits,IntKind.signed];exact Int.emod_eq_of_lt (by omega) (by omega)
  have G2:Hid (Calls Tryz.prog 135 #[.pointer (some ⟨R,0,none⟩),.int .i64 4] w7 fun e w'=>e=.returned (.int .i64 (V:Int))/\Row w' R 208 [.string s,.int .i64 17,.bool false]/\Only [R] w7 w'):=hid g2.out;have HRW:=hid hr;clear g2 hr hv2;go_wp2_with fail;refine G2.out.mono ?_;rintro e w8 ⟨rfl,rR8,o8⟩;have rX8:=o8.row RX7.out (by simp;omega);have rA8:=o8.row RA7.out (by simp;omega);have x5:=rX8.cellAt 5 rfl;have f5:=rX8.free 5 (by simp);have RX9:=hid (rX8.set 5 (.int .u32 (V:Int)));have RR9:=hid (rR8.other (a:=⟨X,5,none⟩) (by simp;omega) (.int .u32 (V:Int)));have RA9:=hid (rA8.other (a:=⟨X,5,none⟩) (by simp;omega) (.int .u32 (V:Int)));have B9:=hid ((B7.out.trans (o8.below B7.out.size (by simp;omega))).setCell (p:=⟨X,5,none⟩) (by dsimp only;omega) (.int .u32 (V:Int)));clear G2 rX8 rA8 rR8 o8 RX7 RR7 RA7 B7 xk;go_wp2_with fail;generalize w8.setCell _ _=w9 at *;clear x5 f5 hw;go_meet;exact ⟨⟨4,Q,0,[],[],V⟩,_,_,_,_,_,_,RA9,RX9,RR9,hid ⟨⟨_,_,rfl,.inl ⟨rfl,rfl⟩,.inl ⟨rfl,rfl⟩⟩,HQ.out,HV.out,by dsimp only;omega,by dsimp only;omega,by dsimp only;simp⟩,hid (World.ownsRow_nil _ _ _ _),hid (World.ownsRow_nil _ _ _ _),B9,hid (Rec.dec_end HL.out (bad:=false) (.inl ⟨rfl,HRW.out.symm⟩))⟩
 have e4':¬ (K:Int)=4:=by omega
 by_cases e2:K=2
 case pos =>
  subst e2;have HRW:=hid (raw2.out rfl);have HGG:=HG;clear raw1 raw2 raw3 raw4 raw0 HG e1 e1' e4 e4';have hn:=getW_lt s.data.toList 13 1;have g2:=hid (HGG.out R 13 1 w7 (.inl rfl) (by decide) (by decide) RR7.out);generalize getW s.data.toList 13 1=n at *;have G2:Hid (Calls Tryz.prog 135 #[.pointer (some ⟨R,0,none⟩),.int .i64 1] w7 fun e w'=>e=.returned (.int .i64 (n:Int))/\Row w' R 208 [.string s,.int .i64 14,.bool false]/\Only [R] w7 w'):=hid g2.out;clear g2 HGG;have KL:Hid (28 < n->Rec.may (Rec.raw s.data.toList)=false):=hid (fun h=>by rw [HRW.out];exact raw_long (.inl rfl) (.inl (by dsimp only;rw [Rec.getH_length];exact h)));have KL2:Hid (24 < n->Rec.may (Rec.raw s.data.toList)=false):=hid (fun h=>by rw [HRW.out];exact raw_long (.inl rfl) (.inr ⟨rfl,by dsimp only;rw [Rec.getH_length];exact h⟩));go_wp2_with fail;refine G2.out.mono ?_;rintro e w8 ⟨rfl,rR8,o8⟩;have RX8:=hid (o8.row RX7.out (by simp;omega));have RA8:=hid (o8.row RA7.out (by simp;omega));have RR8:=hid rR8;have B8:=hid (B7.out.trans (o8.below B7.out.size (by simp;omega)));clear G2 rR8 o8 RX7 RR7 RA7 B7 xk;have hn256:n < 256:=hn;clear hn;obtain ⟨i0,hi0,hz0,hz1,hz2⟩:=info_parts infoInt;obtain ⟨j0,hj0,jz0,jz1,jz2⟩:=info_parts infoFlag;go_wp2_with fail;go_loopw [7] (fun q wr=>∃ (i:Nat) (H:List Int) (hv:Value) (bd:Bool),q=.int .i64 i/\i<=n/\Hid (H.length=i/\(bd=false->i<=57/\H=Rec.getH s.data.toList i)/\(bd=true->i=58))/\Hid (Row wr w.heap.size 61 [.int .i64 0,.int .u64 0,.int .i64 0,.slice none 0 0,.slice none 0 0,.int .u32 0])/\Hid (Row wr X 61 [.int .i64 2,.int .u64 (Q:Int),.int .i64 0,hv,.slice none 0 0,.int .u32 0])/\Hid (Row wr R 208 [.string s,.int .i64 ((14+2 * i:Nat):Int),.bool bd])/\Hid (OwnInts w.heap.size wr hv H)/\Hid (Below w.heap.size w wr)) (fun q _=>n - (intOf q).toNat);case atStart=>exact ⟨0,[],.slice none 0 0,false,rfl,by omega,hid ⟨rfl,fun _=>⟨by omega,rfl⟩,(fun h=>by cases h)⟩,RA8,RX8,RR8,hid (World.ownsRow_nil _ _ _ _),B8⟩
  case round =>
   obtain ⟨i,H,hv,bd,rfl,hin,hst,hA,hX,hR,hO,hB⟩:=hrel;have xk:=hX.out.cellAt 0 rfl;have x3:=hX.out.cellAt 3 rfl;have r2:=hR.out.cellAt 2 rfl;have f3:=hX.out.free 3 (by simp);cases bd
   ·by_cases hlt:i < n
    ·have i1:(i:Int) < (n:Int):=(by omega);obtain ⟨V,bd',hb1,hb2,hcall⟩:=home_get s HS.out R i H (hst.out.2.1 rfl).2 (hst.out.2.1 rfl).1;replace hb1:=hid hb1;replace hb2:=hid hb2;have HC:=hid hcall;have hin2:i<=57:=(hst.out.2.1 rfl).1;have hOl:H.length=i:=hst.out.1;have HOL:=hid hOl;clear hcall;go_wp2_with fail;obtain ⟨ah,ch,rfl⟩:=OwnInts.slice hO.out;have hO':Hid (wr.ownsRow w.heap.size 3 1 (.slice ah H.length ch) H.length (icells H)):=hid hO.out;rw [hOl] at hO' hX x3;clear hOl;have hV1:∀ u ∈ [Value.int .i64 V],u.oneCell'=true:=(by intro u hu;rw [List.mem_singleton.1 hu];rfl);go_region_law (first | (go_simp;go_at_call 135;refine (HC.out _ hR.out.drew).mono ?_;rintro e w9 ⟨rfl,rR9,o9⟩;have rX9:=o9.row hX.out.drew (by simp;omega);have rA9:=o9.row hA.out.drew (by simp;omega);have x9:=rX9.cellAt 3 rfl;have x9b:=(rX9.alloc (.cells #[.int .i64 V] 3)).cellAt 3 rfl;have O9:=own_onlyR (w:=wr.drew) hO'.out hR.out.drew o9 (by decide);have B9:Below w.heap.size w w9:=hB.out.drew.trans (o9.below hB.out.drew.size (by simp;omega));have G9:=hid (own_new1 O9 (.cells #[.int .i64 V] 3));have NN9:=hid (box1 w9 (.int .i64 V) 3);have hs9:w.heap.size<=(w9.alloc (.cells #[.int .i64 V] 3)).heap.size:=by have:=B9.size;simp;omega) | (refine step_append_lies _ rfl (.tmp 70) (.tmp 73) 23 rfl w.heap.size 3 i0 (.int .i64 0) 1 8 Tryz.underlying23 hi0 hz0 hz1 hz2 rfl (by decide) (.slice ah i ch) i (icells H) (by simp [Act.eval,Act.put];done) G9.out ⟨w9.heap.size,0,none⟩ 1 1 [.int .i64 V] (by simp [Act.eval,Act.put];done) rfl NN9.out hV1 (by decide) (by unfold maxLen;omega) (by omega) hs9 _ rfl ?_;intro g5 c5 w5 hown hgrow hat hlt5;have rX5:=row_grownR (rX9.alloc (.cells #[.int .i64 V] 3)) G9.out hgrow (by decide);have cX5:=rX5.cellAt 3 rfl;have fX5:=rX5.free 3 (by simp);have P5:=hid (dec_push (k:=3) n1 n2 rA9 rX9 rR9 G9.out B9 (Nat.le_refl _) hgrow hown (by decide) (by decide))) | fail "none")
     all_goals
      clear hgrow hat hlt5 rX5 rX9 rA9 rR9 x9 x9b O9 B9 G9 NN9 hs9 hA hX hR hO hO' hB hst;go_wp2_with fail;go_roundw
     all_goals first | exact ⟨i+1,H ++ [V],_,bd',by go_num,by omega,hid ⟨by rw [List.length_append,HOL.out];rfl,hb1.out,hb2.out⟩,hid P5.out.1,hid P5.out.2.1,hid P5.out.2.2.1,hid (by unfold OwnInts;rw [List.length_append,HOL.out,icells_append];exact P5.out.2.2.2.1),hid P5.out.2.2.2.2⟩ | (simp [intOf];omega)
    obtain rfl:i=n:=(by omega);have hi57:i<=57:=(hst.out.2.1 rfl).1;have HH:Hid (H=Rec.getH s.data.toList i):=hid (hst.out.2.1 rfl).2;have HHL:=hid hst.out.1;have HLE:Hid (H.length<=1000000000):=hid (by rw [hst.out.1];omega);obtain ⟨ah,ch,rfl⟩:=OwnInts.slice hO.out;clear hst KL;rename World=>wA
    go_wp2_with fail;go_loopw [8] (fun q wr=>∃ (j:Nat) (M:List Bool) (mv:Value) (bd:Bool),q=.int .i64 j/\j<=i/\Hid (M.length=j/\(bd=false->14+2 * i+j<=128/\M=Rec.getM s.data.toList (14+2 * i) j)/\(bd=true->128 < 14+2 * i+j))/\Hid (Row wr w.heap.size 61 [.int .i64 0,.int .u64 0,.int .i64 0,.slice none 0 0,.slice none 0 0,.int .u32 0])/\Hid (Row wr X 61 [.int .i64 2,.int .u64 (Q:Int),.int .i64 0,.slice ah H.length ch,mv,.int .u32 0])/\Hid (Row wr R 208 [.string s,.int .i64 ((14+2 * i+j:Nat):Int),.bool bd])/\Hid (OwnInts w.heap.size wr (.slice ah H.length ch) H)/\Hid (OwnFlags w.heap.size wr mv M)/\Hid (Below w.heap.size w wr)) (fun q _=>i - (intOf q).toNat);case atStart=>exact ⟨0,[],.slice none 0 0,false,rfl,by omega,hid ⟨rfl,fun _=>⟨by omega,rfl⟩,(fun h=>by cases h)⟩,hA,hX,hR,hO,hid (World.ownsRow_nil _ _ _ _),hB⟩
    case round =>
     clear hA hX hR hO hB xk x3 r2 f3;obtain ⟨j,M,mv,bd,rfl,hjn,hst,hA,hX,hR,hO,hM,hB⟩:=hrel;have xk:=hX.out.cellAt 0 rfl;have x4:=hX.out.cellAt 4 rfl;have r2:=hR.out.cellAt 2 rfl;have f4:=hX.out.free 4 (by simp);cases bd
     ·by_cases hlt:j < i
      ·have i1:(j:Int) < (i:Int):=(by omega);obtain ⟨V,bd',hb1,hb2,hcall⟩:=flag_get s HS.out R (14+2 * i) j (by omega) M (hst.out.2.1 rfl).2 (hst.out.2.1 rfl).1;replace hb1:=hid hb1;replace hb2:=hid hb2;have HC:=hid hcall;have hOl:M.length=j:=hst.out.1;have HOL:=hid hOl;clear hcall;go_wp2_with fail;obtain ⟨am,cm,rfl⟩:=OwnFlags.slice hM.out;have hM':Hid (wr.ownsRow w.heap.size 4 1 (.slice am M.length cm) M.length (fcells M)):=hid hM.out;rw [hOl] at hM' hX x4;clear hOl;have hV1:∀ u ∈ [Value.bool (V == 1)],u.oneCell'=true:=(by intro u hu;rw [List.mem_singleton.1 hu];rfl);go_region_law (first | (go_simp;go_at_call 135;refine (HC.out _ hR.out.drew).mono ?_;rintro e w9 ⟨rfl,rR9,o9⟩;have rX9:=o9.row hX.out.drew (by simp;omega);have rA9:=o9.row hA.out.drew (by simp;omega);have x9:=rX9.cellAt 4 rfl;have x9b:=(rX9.alloc (.cells #[.bool (V == 1)] 4)).cellAt 4 rfl;have O9:=own_onlyR (w:=wr.drew) hM'.out hR.out.drew o9 (by decide);have I9:=hid (own_onlyR (w:=wr.drew) (show wr.ownsRow w.heap.size 3 1 (.slice ah H.length ch) H.length (icells H) from hO.out) hR.out.drew o9 (by decide));have B9:Below w.heap.size w w9:=hB.out.drew.trans (o9.below hB.out.drew.size (by simp;omega));have G9:=hid (own_new1 O9 (.cells #[.bool (V == 1)] 4));have NN9:=hid (box1 w9 (.bool (V == 1)) 4);have hs9:w.heap.size<=(w9.alloc (.cells #[.bool (V == 1)] 4)).heap.size:=by have:=B9.size;simp;omega) | (refine step_append_lies _ rfl (.tmp 94) (.tmp 98) 40 rfl w.heap.size 4 j0 (.bool false) 1 1 Tryz.underlying40 hj0 jz0 jz1 jz2 rfl (by decide) (.slice am j cm) j (fcells M) (by simp [Act.eval,Act.put];done) G9.out ⟨w9.heap.size,0,none⟩ 1 1 [.bool (V == 1)] (by simp [Act.eval,Act.put];done) rfl NN9.out hV1 (by decide) (by unfold maxLen;omega) (by omega) hs9 _ rfl ?_;intro g5 c5 w5 hown hgrow hat hlt5;have rX5:=row_grownR (rX9.alloc (.cells #[.bool (V == 1)] 4)) G9.out hgrow (by decide);have cX5:=rX5.cellAt 4 rfl;have fX5:=rX5.free 4 (by simp);have P5:=hid (dec_push (k:=4) n1 n2 rA9 rX9 rR9 G9.out B9 (Nat.le_refl _) hgrow hown (by decide) (by decide));have Q5:=hid (dec_keep (k:=4) (v5:=.slice (some ⟨g5,0,none⟩) (j+1) c5) rX9 G9.out hgrow I9.out (by decide) (by decide) (by decide))) | fail "none")
       all_goals
        clear hgrow hat hlt5 rX5 rX9 rA9 rR9 x9 x9b O9 B9 G9 NN9 hs9 I9 hA hX hR hO hM hM' hB hst;go_wp2_with fail;go_roundw
       all_goals first | exact ⟨j+1,M ++ [V == 1],_,bd',by go_num,by omega,hid ⟨by rw [List.length_append,HOL.out];rfl,hb1.out,hb2.out⟩,hid P5.out.1,hid P5.out.2.1,hid P5.out.2.2.1,hid Q5.out,hid (by unfold OwnFlags;rw [List.length_append,HOL.out,fcells_append];exact P5.out.2.2.2.1),hid P5.out.2.2.2.2⟩ | (simp [intOf];omega)
      obtain rfl:j=i:=(by omega);have HM:Hid (M=Rec.getM s.data.toList (14+2 * j) j):=hid (hst.out.2.1 rfl).2;have HLM:Hid (M.length<=1000000000):=hid (by rw [hst.out.1];omega);obtain ⟨am,cm,rfl⟩:=OwnFlags.slice hM.out;clear hst;go_wp2_with fail;clear xk x4 r2 f4;go_meet;exact ⟨⟨2,Q,0,H,M,0⟩,_,_,_,_,_,_,hA,hX,hR,hid ⟨⟨_,_,rfl,hO.out.at,hM.out.at⟩,HQ.out,(by decide:(0:Nat) < 2 ^ 32),by dsimp only;omega,by dsimp only;omega,HLE.out,HLM.out⟩,hO,hM,hB,hid (Rec.dec_end HL.out (bad:=false) (.inl ⟨rfl,by rw [HRW.out,HH.out,HM.out]⟩))⟩
     have hbig:128 < 14+2 * i+j:=hst.out.2.2 rfl;have HLM:Hid (M.length<=1000000000):=hid (by rw [hst.out.1];omega);obtain ⟨am,cm,rfl⟩:=OwnFlags.slice hM.out;clear hst;by_cases hlt:j < i
     ·have i1:(j:Int) < (i:Int):=(by omega);go_wp2_with fail;clear xk x4 r2 f4;go_meet;exact ⟨⟨2,Q,0,H,M,0⟩,_,_,_,_,_,_,hA,hX,hR,hid ⟨⟨_,_,rfl,hO.out.at,hM.out.at⟩,HQ.out,(by decide:(0:Nat) < 2 ^ 32),by dsimp only;omega,by dsimp only;omega,HLE.out,HLM.out⟩,hO,hM,hB,hid (Rec.dec_end HL.out (bad:=true) (.inr ⟨KL2.out (by omega),.inl rfl⟩))⟩
     have i1:¬ (j:Int) < (i:Int):=(by omega);go_wp2_with fail;clear xk x4 r2 f4;go_meet;exact ⟨⟨2,Q,0,H,M,0⟩,_,_,_,_,_,_,hA,hX,hR,hid ⟨⟨_,_,rfl,hO.out.at,hM.out.at⟩,HQ.out,(by decide:(0:Nat) < 2 ^ 32),by dsimp only;omega,by dsimp only;omega,HLE.out,HLM.out⟩,hO,hM,hB,hid (Rec.dec_end HL.out (bad:=true) (.inr ⟨KL2.out (by omega),.inl rfl⟩))⟩
   have hi58:i=58:=hst.out.2.2 rfl;have HLE:Hid (H.length<=1000000000):=hid (by rw [hst.out.1];omega);obtain ⟨ah,ch,rfl⟩:=OwnInts.slice hO.out;have hn58:58<=n:=(by omega);have n0':(0:Int) < (n:Int):=(by omega);clear hst;by_cases hlt:i < n
   ·have i1:(i:Int) < (n:Int):=(by omega);go_wp2_with fail;refine wp_loop_rounds 1 ?_;rw [rounds_succ];go_wp2_with fail;clear xk x3 r2 f3;go_meet;exact ⟨⟨2,Q,0,H,[],0⟩,_,_,_,_,_,_,hA,hX,hR,hid ⟨⟨_,_,rfl,hO.out.at,.inl ⟨rfl,rfl⟩⟩,HQ.out,(by decide:(0:Nat) < 2 ^ 32),by dsimp only;omega,by dsimp only;omega,HLE.out,by dsimp only;simp⟩,hO,hid (World.ownsRow_nil _ _ _ _),hB,hid (Rec.dec_end HL.out (bad:=true) (.inr ⟨KL.out (by omega),.inl rfl⟩))⟩
   have i1:¬ (i:Int) < (n:Int):=(by omega);go_wp2_with fail;refine wp_loop_rounds 1 ?_;rw [rounds_succ];go_wp2_with fail;clear xk x3 r2 f3;go_meet;exact ⟨⟨2,Q,0,H,[],0⟩,_,_,_,_,_,_,hA,hX,hR,hid ⟨⟨_,_,rfl,hO.out.at,.inl ⟨rfl,rfl⟩⟩,HQ.out,(by decide:(0:Nat) < 2 ^ 32),by dsimp only;omega,by dsimp only;omega,HLE.out,by dsimp only;simp⟩,hO,hid (World.ownsRow_nil _ _ _ _),hB,hid (Rec.dec_end HL.out (bad:=true) (.inr ⟨KL.out (by omega),.inl rfl⟩))⟩
 have e2':¬ (K:Int)=2:=by omega
 by_cases e3:K=3
 case pos =>
  subst e3;have HRW:=hid (raw3.out rfl);have HGG:=HG;clear raw1 raw2 raw3 raw4 raw0 HG e1 e1' e4 e4' e2 e2';have hn:=getW_lt s.data.toList 13 1;have g2:=hid (HGG.out R 13 1 w7 (.inl rfl) (by decide) (by decide) RR7.out);generalize getW s.data.toList 13 1=n at *;have G2:Hid (Calls Tryz.prog 135 #[.pointer (some ⟨R,0,none⟩),.int .i64 1] w7 fun e w'=>e=.returned (.int .i64 (n:Int))/\Row w' R 208 [.string s,.int .i64 14,.bool false]/\Only [R] w7 w'):=hid g2.out;clear g2 HGG;have KL:Hid (28 < n->Rec.may (Rec.raw s.data.toList)=false):=hid (fun h=>by rw [HRW.out];exact raw_long (.inr rfl) (.inl (by dsimp only;rw [Rec.getH_length];exact h)));go_wp2_with fail;refine G2.out.mono ?_;rintro e w8 ⟨rfl,rR8,o8⟩;have RX8:=hid (o8.row RX7.out (by simp;omega));have RA8:=hid (o8.row RA7.out (by simp;omega));have RR8:=hid rR8;have B8:=hid (B7.out.trans (o8.below B7.out.size (by simp;omega)));clear G2 rR8 o8 RX7 RR7 RA7 B7 xk;have hn256:n < 256:=hn;clear hn;obtain ⟨i0,hi0,hz0,hz1,hz2⟩:=info_parts infoInt;obtain ⟨j0,hj0,jz0,jz1,jz2⟩:=info_parts infoFlag;go_wp2_with fail;go_loopw [7] (fun q wr=>∃ (i:Nat) (H:List Int) (hv:Value) (bd:Bool),q=.int .i64 i/\i<=n/\Hid (H.length=i/\(bd=false->i<=57/\H=Rec.getH s.data.toList i)/\(bd=true->i=58))/\Hid (Row wr w.heap.size 61 [.int .i64 0,.int .u64 0,.int .i64 0,.slice none 0 0,.slice none 0 0,.int .u32 0])/\Hid (Row wr X 61 [.int .i64 3,.int .u64 (Q:Int),.int .i64 0,hv,.slice none 0 0,.int .u32 0])/\Hid (Row wr R 208 [.string s,.int .i64 ((14+2 * i:Nat):Int),.bool bd])/\Hid (OwnInts w.heap.size wr hv H)/\Hid (Below w.heap.size w wr)) (fun q _=>n - (intOf q).toNat);case atStart=>exact ⟨0,[],.slice none 0 0,false,rfl,by omega,hid ⟨rfl,fun _=>⟨by omega,rfl⟩,(fun h=>by cases h)⟩,RA8,RX8,RR8,hid (World.ownsRow_nil _ _ _ _),B8⟩
  case round =>
   obtain ⟨i,H,hv,bd,rfl,hin,hst,hA,hX,hR,hO,hB⟩:=hrel;have xk:=hX.out.cellAt 0 rfl;have x3:=hX.out.cellAt 3 rfl;have r2:=hR.out.cellAt 2 rfl;have f3:=hX.out.free 3 (by simp);cases bd
   ·by_cases hlt:i < n
    ·have i1:(i:Int) < (n:Int):=(by omega);obtain ⟨V,bd',hb1,hb2,hcall⟩:=home_get s HS.out R i H (hst.out.2.1 rfl).2 (hst.out.2.1 rfl).1;replace hb1:=hid hb1;replace hb2:=hid hb2;have HC:=hid hcall;have hin2:i<=57:=(hst.out.2.1 rfl).1;have hOl:H.length=i:=hst.out.1;have HOL:=hid hOl;clear hcall;go_wp2_with fail;obtain ⟨ah,ch,rfl⟩:=OwnInts.slice hO.out;have hO':Hid (wr.ownsRow w.heap.size 3 1 (.slice ah H.length ch) H.length (icells H)):=hid hO.out;rw [hOl] at hO' hX x3;clear hOl;have hV1:∀ u ∈ [Value.int .i64 V],u.oneCell'=true:=(by intro u hu;rw [List.mem_singleton.1 hu];rfl);go_region_law (first | (go_simp;go_at_call 135;refine (HC.out _ hR.out.drew).mono ?_;rintro e w9 ⟨rfl,rR9,o9⟩;have rX9:=o9.row hX.out.drew (by simp;omega);have rA9:=o9.row hA.out.drew (by simp;omega);have x9:=rX9.cellAt 3 rfl;have x9b:=(rX9.alloc (.cells #[.int .i64 V] 3)).cellAt 3 rfl;have O9:=own_onlyR (w:=wr.drew) hO'.out hR.out.drew o9 (by decide);have B9:Below w.heap.size w w9:=hB.out.drew.trans (o9.below hB.out.drew.size (by simp;omega));have G9:=hid (own_new1 O9 (.cells #[.int .i64 V] 3));have NN9:=hid (box1 w9 (.int .i64 V) 3);have hs9:w.heap.size<=(w9.alloc (.cells #[.int .i64 V] 3)).heap.size:=by have:=B9.size;simp;omega) | (refine step_append_lies _ rfl (.tmp 70) (.tmp 73) 23 rfl w.heap.size 3 i0 (.int .i64 0) 1 8 Tryz.underlying23 hi0 hz0 hz1 hz2 rfl (by decide) (.slice ah i ch) i (icells H) (by simp [Act.eval,Act.put];done) G9.out ⟨w9.heap.size,0,none⟩ 1 1 [.int .i64 V] (by simp [Act.eval,Act.put];done) rfl NN9.out hV1 (by decide) (by unfold maxLen;omega) (by omega) hs9 _ rfl ?_;intro g5 c5 w5 hown hgrow hat hlt5;have rX5:=row_grownR (rX9.alloc (.cells #[.int .i64 V] 3)) G9.out hgrow (by decide);have cX5:=rX5.cellAt 3 rfl;have fX5:=rX5.free 3 (by simp);have P5:=hid (dec_push (k:=3) n1 n2 rA9 rX9 rR9 G9.out B9 (Nat.le_refl _) hgrow hown (by decide) (by decide))) | fail "none")
     all_goals
      clear hgrow hat hlt5 rX5 rX9 rA9 rR9 x9 x9b O9 B9 G9 NN9 hs9 hA hX hR hO hO' hB hst;go_wp2_with fail;go_roundw
     all_goals first | exact ⟨i+1,H ++ [V],_,bd',by go_num,by omega,hid ⟨by rw [List.length_append,HOL.out];rfl,hb1.out,hb2.out⟩,hid P5.out.1,hid P5.out.2.1,hid P5.out.2.2.1,hid (by unfold OwnInts;rw [List.length_append,HOL.out,icells_append];exact P5.out.2.2.2.1),hid P5.out.2.2.2.2⟩ | (simp [intOf];omega)
    obtain rfl:i=n:=(by omega);have hi57:i<=57:=(hst.out.2.1 rfl).1;have HH:Hid (H=Rec.getH s.data.toList i):=hid (hst.out.2.1 rfl).2;obtain ⟨ah,ch,rfl⟩:=OwnInts.slice hO.out;have HLE:Hid (H.length<=1000000000):=hid (by rw [hst.out.1];omega);clear KL;go_wp2_with fail;refine wp_loop_rounds 1 ?_;rw [rounds_succ];have HI2:=hid (hst.out.1);clear hst;by_cases hn0:i=0
    ·have i0':¬ (0:Int) < (i:Int):=(by omega);go_wp2_with fail;clear xk x3 r2 f3;go_meet;exact ⟨⟨3,Q,0,H,[],0⟩,_,_,_,_,_,_,hA,hX,hR,hid ⟨⟨_,_,rfl,hO.out.at,.inl ⟨rfl,rfl⟩⟩,HQ.out,(by decide:(0:Nat) < 2 ^ 32),by dsimp only;omega,by dsimp only;omega,HLE.out,by dsimp only;simp⟩,hO,hid (World.ownsRow_nil _ _ _ _),hB,hid (Rec.dec_end HL.out (bad:=false) (.inl ⟨rfl,by rw [HRW.out,HH.out]⟩))⟩
    have i0':(0:Int) < (i:Int):=(by omega);go_wp2_with fail;clear xk x3 r2 f3;go_meet;exact ⟨⟨3,Q,0,H,[],0⟩,_,_,_,_,_,_,hA,hX,hR,hid ⟨⟨_,_,rfl,hO.out.at,.inl ⟨rfl,rfl⟩⟩,HQ.out,(by decide:(0:Nat) < 2 ^ 32),by dsimp only;omega,by dsimp only;omega,HLE.out,by dsimp only;simp⟩,hO,hid (World.ownsRow_nil _ _ _ _),hB,hid (Rec.dec_end HL.out (bad:=false) (.inl ⟨rfl,by rw [HRW.out,HH.out]⟩))⟩
   have hi58:i=58:=hst.out.2.2 rfl;have HLE:Hid (H.length<=1000000000):=hid (by rw [hst.out.1];omega);obtain ⟨ah,ch,rfl⟩:=OwnInts.slice hO.out;have hn58:58<=n:=(by omega);have n0':(0:Int) < (n:Int):=(by omega);clear hst;by_cases hlt:i < n
   ·have i1:(i:Int) < (n:Int):=(by omega);go_wp2_with fail;refine wp_loop_rounds 1 ?_;rw [rounds_succ];go_wp2_with fail;clear xk x3 r2 f3;go_meet;exact ⟨⟨3,Q,0,H,[],0⟩,_,_,_,_,_,_,hA,hX,hR,hid ⟨⟨_,_,rfl,hO.out.at,.inl ⟨rfl,rfl⟩⟩,HQ.out,(by decide:(0:Nat) < 2 ^ 32),by dsimp only;omega,by dsimp only;omega,HLE.out,by dsimp only;simp⟩,hO,hid (World.ownsRow_nil _ _ _ _),hB,hid (Rec.dec_end HL.out (bad:=true) (.inr ⟨KL.out (by omega),.inl rfl⟩))⟩
   have i1:¬ (i:Int) < (n:Int):=(by omega);go_wp2_with fail;refine wp_loop_rounds 1 ?_;rw [rounds_succ];go_wp2_with fail;clear xk x3 r2 f3;go_meet;exact ⟨⟨3,Q,0,H,[],0⟩,_,_,_,_,_,_,hA,hX,hR,hid ⟨⟨_,_,rfl,hO.out.at,.inl ⟨rfl,rfl⟩⟩,HQ.out,(by decide:(0:Nat) < 2 ^ 32),by dsimp only;omega,by dsimp only;omega,HLE.out,by dsimp only;simp⟩,hO,hid (World.ownsRow_nil _ _ _ _),hB,hid (Rec.dec_end HL.out (bad:=true) (.inr ⟨KL.out (by omega),.inl rfl⟩))⟩
 have e3':¬ (K:Int)=3:=by omega
 have HRW:=hid (raw0.out e1 e2 e3 e4)
 clear raw1 raw2 raw3 raw4 raw0 HG
 go_wp2_with fail
 clear e1 e2 e3 e4 e1' e2' e3' e4' xk
 go_meet
 exact ⟨⟨(K:Int),Q,0,[],[],0⟩,_,_,_,_,_,_,RA7,RX7,RR7,hid ⟨⟨_,_,rfl,.inl ⟨rfl,rfl⟩,.inl ⟨rfl,rfl⟩⟩,HQ.out,(by decide:(0:Nat) < 2 ^ 32),by dsimp only;omega,by dsimp only;omega,by dsimp only;simp⟩,hid (World.ownsRow_nil _ _ _ _),hid (World.ownsRow_nil _ _ _ _),B7,hid (Rec.dec_end HL.out (bad:=false) (.inl ⟨rfl,HRW.out.symm⟩))⟩
end Go.Proofs.YtnpdhidliaahbaaGreat
