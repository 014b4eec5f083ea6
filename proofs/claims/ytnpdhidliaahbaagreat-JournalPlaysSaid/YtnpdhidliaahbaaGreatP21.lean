/- The journal's reader: what a descriptor names. -/
import Derived.Test.YtnpdhidliaahbaaGreatP17
import Derived.Test.YtnpdhidliaahbaaGreatP19
import Derived.BigQuiet
import Derived.Deep.QuietTactic
import Derived.Test.YtnpdhidliaahbaaGreatP13
set_option maxRecDepth 100000
set_option maxHeartbeats 32000000
set_option linter.unusedSimpArgs false
set_option linter.unusedVariables false
namespace Go.Proofs.YtnpdhidliaahbaaGreat
open Go.Lib (hid)
open Go Go.RowKit
namespace Jr
open Go.Lib (hid)
theorem said_snoc:∀ (hs:List Int) (ms:List Bool) (bs:List ByteArray) (i:Nat) (h:Int) (m:Bool) (s:ByteArray),hs[i]?=some h->ms[i]?=some m->bs[i]?=some s ->
  said (hs.take (i+1)) ms bs=said (hs.take i) ms bs ++ [(h,if m=true then txt (Rec.unmask s.data.toList) else s)]
 | [],_,_,_,_,_,_,h,_,_=>by cases h
 | _ :: _,[],_,_,_,_,_,_,h,_=>by cases h
 | _ :: _,_ :: _,[],_,_,_,_,_,_,h=>by cases h
 | x :: hs,y :: ms,z :: bs,0,h,m,s,h1,h2,h3=>by
  cases h1;cases h2;cases h3;simp [said]
 | x :: hs,y :: ms,z :: bs,i+1,h,m,s,h1,h2,h3=>by
  rw [List.take_succ_cons,List.take_succ_cons];unfold said;rw [said_snoc hs ms bs i h m s (by simpa using h1) (by simpa using h2) (by simpa using h3)];rfl
theorem said_zero (hs:List Int) (ms:List Bool) (bs:List ByteArray):said (hs.take 0) ms bs = []:=by rw [List.take_zero];unfold said;rfl
theorem said_length:∀ (hs:List Int) (ms:List Bool) (bs:List ByteArray),(said hs ms bs).length<=hs.length
 | [],_,_=>by simp [said]
 | _ :: _,[],_=>by simp [said]
 | _ :: _,_ :: _,[]=>by simp [said]
 | _ :: hs,_ :: ms,_ :: bs=>by
  have:=said_length hs ms bs;simp [said];omega
end Jr
def chgC (l:List Jr.Chg):List Value:=l.flatMap fun c=>[.int .i64 c.1,.string c.2]
theorem chgC_length (l:List Jr.Chg):(chgC l).length=l.length * 2:=by
 induction l with
 | nil=>rfl
 | cons c l ih =>
  have:chgC (c :: l) = [.int .i64 c.1,.string c.2] ++ chgC l:=rfl;rw [this,List.length_append,ih,List.length_cons];simp;omega
theorem chgC_append (a b:List Jr.Chg):chgC (a ++ b)=chgC a ++ chgC b:=by simp [chgC]
def OwnC (B:Nat) (w:World) (v:Value) (l:List Jr.Chg):Prop:=w.ownsRow B 68 2 v l.length (chgC l)
theorem infoChg:(Tryz.prog.info? 68).map (fun i=>(i.zero,i.size,i.bytes))=some (some (.agg #[.int .i64 0,.string ⟨#[]⟩]),2,24):=by kernel_rfl
theorem OwnC.slice {B:Nat} {w:World} {v:Value} {l:List Jr.Chg} (h:OwnC B w v l):∃ ad c,v=.slice ad l.length c:=by
 rcases h.2 with ⟨rfl,hn⟩ | ⟨g,cap,cur,rfl,_⟩
 ·exact ⟨none,0,by rw [hn]⟩
 ·exact ⟨_,_,rfl⟩
theorem ring_blkat (g:Geo.G) (now:List ByteArray) (n p i:Nat) (h:i < n):(Jr.ring g now p n)[i]?=some (Jr.blk now (Jr.pb g (p+i))):=Jr.ring_getD g now n p i h
theorem more_cat (all:Bytes) (s:ByteArray):more (more 0#32 all) s.data.toList=more 0#32 (all ++ s.data.toList):=(more_append _ _ _).symm
theorem own_belowB {w w':World} {B base size n:Nat} {e:TypeId} {v:Value} {xs:List Value} (h:w.ownsRow base e size v n xs) (hb:Below B w w') (hB:∀ k,v.ownBlock=some k->k < B):w'.ownsRow base e size v n xs:=by
 refine ⟨h.1,h.2.imp id ?_⟩;rintro ⟨g,cap,cur,rfl,hg,hh,r⟩;exact ⟨g,cap,cur,rfl,hg,by rw [hb.block g (hB g rfl)];exact hh,r⟩
theorem DevAt.belowB {Bd b:Nat} {w w':World} {db:Nat} {y:Lay} {D:Dev} (h:DevAt Bd w db y D) (hb:Below b w w') (hlt:∀ k ∈ devB db y,k < b):DevAt Bd w' db y D:=by
 have h0:=hlt db (by simp [devB]);have h1:=hlt y.gk (by simp [devB]);have h2:=hlt y.gn (by simp [devB]);have h3:=hlt y.gp (by simp [devB]);refine ⟨h.own,h.cells.below hb h0,own_belowB h.kept hb ?_,own_belowB h.now hb ?_,own_belowB h.pend hb ?_,h.ne,h.pos,h.left,h.acts⟩
 all_goals
  intro k hk;simp only [Value.ownBlock,Option.some.injEq] at hk;omega
theorem desc_push {b X n n5:Nat} {w w2 w5:World} {v v5 rv:Value} {ys ys5 rs xs zs:List Value} {m:Nat} {o:Obj} (hbX:b < X) (rR:Row w2 b 171 rs) (rX:Row w2 X 61 xs) (ho:(w2.alloc o).ownsRow b 68 2 v n ys) (hI:w2.ownsRow b 3 1 rv m zs) (B:Below b w w2) (hgrow:(w2.alloc o).grownBy w5 v.ownBlock) (hown:w5.ownsRow b 68 2 v5 n5 ys5) (hb:b<=w.heap.size) :
  Row (w5.setCell ⟨b,14,none⟩ v5) b 171 (rs.set 14 v5)/\Row (w5.setCell ⟨b,14,none⟩ v5) X 61 xs/\(w5.setCell ⟨b,14,none⟩ v5).ownsRow b 68 2 v5 n5 ys5/\(w5.setCell ⟨b,14,none⟩ v5).ownsRow b 3 1 rv m zs/\Below b w (w5.setCell ⟨b,14,none⟩ v5):=by
 have rR5:=row_grownR (rR.alloc o) ho hgrow (by decide)
 have rX5:=row_grownR (rX.alloc o) ho hgrow (by decide)
 have hs:=B.size
 have B5:Below b w w5:=(B.alloc (Nat.le_trans hb hs) o).grown hgrow (by simp;omega) (fun j hj=>(World.ownsRow.lt ho j hj).1)
 have hI5:=own_otherR (own_new1 hI o) ho hgrow (by decide)
 exact ⟨rR5.set 14 _,rX5.other (by dsimp only;omega) _,own_setR (a:=⟨b,14,none⟩) rR5 hown (by decide),own_setR (a:=⟨b,14,none⟩) rR5 hI5 (by decide),B5.setCell (Nat.le_refl _) _⟩
theorem desc_keep {b Bx n m:Nat} {w2 w5:World} {E:TypeId} {v v5 u:Value} {ys rs zs:List Value} {o:Obj} (rR:Row w2 b 171 rs) (ho:(w2.alloc o).ownsRow b 68 2 v n ys) (hgrow:(w2.alloc o).grownBy w5 v.ownBlock) (hu:w2.ownsRow Bx E 1 u m zs) (h1:E ≠ 68) (h2:E ≠ 171):(w5.setCell ⟨b,14,none⟩ v5).ownsRow Bx E 1 u m zs:=
 own_setR (a:=⟨b,14,none⟩) (row_grownR (rR.alloc o) ho hgrow (by decide)) (own_otherR (own_new1 hu o) ho hgrow h1) h2
theorem desc_any {Bd Bx:Nat} {y:Lay} {D:Dev} (db b place left seq:Nat) (g:Geo.G) (hg:Geo.May g) (all:Bytes) (ch:List Jr.Chg) (rl:List Int) (cv rv v:Value) (x:Rec.V) (w:World)
  (hD:DevAt Bd w db y D) (hdb:∀ k ∈ devB db y,k < b) (hk:(D.kept.length:Int)=g.blocks) (hsz:sized D.now) (hlen:D.now.length=D.kept.length) (hp:place<=1000000) (hl:left<=1000000) (hcl:ch.length<=1000000)
  (h:Row w b 171 (readerC db g place left seq (sumV all) cv rv)) (hC:OwnC b w cv ch) (hI:OwnInts b w rv rl) (hx:RecOwn Bx w v x) (hBx:b < Bx) (hml:x.masked.length=x.homes.length) (hh:x.homes.length<=28) :
  Calls Tryz.prog 140 #[.pointer (some ⟨b,0,none⟩),v] w fun e w' =>
   (left < x.homes.length/\e=.returned (.bool false)/\Below b w w') ∨ (¬ left < x.homes.length /\
   e=.returned (.bool true)/\Below b w w'/\∃ cv',Row w' b 171 (readerC db g (place+x.homes.length) (left - x.homes.length) seq (sumV (all ++ cat ((Jr.ring g D.now place left).take x.homes.length))) cv' rv)/\OwnC b w' cv' (ch ++ Jr.said x.homes x.masked (Jr.ring g D.now place left))/\OwnInts b w' rv rl):=by
 obtain ⟨i0,hi0,hz0,hz1,hz2⟩:=info_parts infoChg
 obtain ⟨hv,mv,rfl,hH,hM⟩:=hx
 obtain ⟨a1,c1,rfl⟩:=OwnInts.slice hH
 obtain ⟨a2,c2,rfl⟩:=OwnFlags.slice hM
 have hb:=h.lt
 have RX:=Row.new w 61 [.int .i64 x.kind,.int .u64 (x.seq:Int),.int .i64 x.at_,.slice a1 x.homes.length c1,.slice a2 x.masked.length c2,.int .u32 (x.sum:Int)] rfl
 have BA:=(Below.refl w.heap.size w).alloc (Nat.le_refl _) (.cells #[.int .i64 x.kind,.int .u64 (x.seq:Int),.int .i64 x.at_,.slice a1 x.homes.length c1,.slice a2 x.masked.length c2,.int .u32 (x.sum:Int)] 61)
 have HX:=hid RX
 have HBA:=hid (BA.mono (Nat.le_of_lt hb))
 have HH:=hid (show World.ownsRow (w.alloc (.cells #[.int .i64 x.kind,.int .u64 (x.seq:Int),.int .i64 x.at_,.slice a1 x.homes.length c1,.slice a2 x.masked.length c2,.int .u32 (x.sum:Int)] 61)) Bx 3 1 (.slice a1 x.homes.length c1) x.homes.length (icells x.homes) from own_new1 hH _)
 have HM:=hid (show World.ownsRow (w.alloc (.cells #[.int .i64 x.kind,.int .u64 (x.seq:Int),.int .i64 x.at_,.slice a1 x.homes.length c1,.slice a2 x.masked.length c2,.int .u32 (x.sum:Int)] 61)) Bx 4 1 (.slice a2 x.masked.length c2) x.masked.length (fcells x.masked) from own_new1 hM _)
 have HD:=hid hD
 have HDB:=hid hdb
 have HR:=hid (h.below BA hb)
 have HC:=hid (show OwnC b (w.alloc (.cells #[.int .i64 x.kind,.int .u64 (x.seq:Int),.int .i64 x.at_,.slice a1 x.homes.length c1,.slice a2 x.masked.length c2,.int .u32 (x.sum:Int)] 61)) cv ch from own_new1 hC _)
 have HI:=hid (show OwnInts b (w.alloc (.cells #[.int .i64 x.kind,.int .u64 (x.seq:Int),.int .i64 x.at_,.slice a1 x.homes.length c1,.slice a2 x.masked.length c2,.int .u32 (x.sum:Int)] 61)) rv rl from own_new1 hI _)
 have HSZ:=hid hsz
 have HK:=hid hk
 have HLEN:=hid hlen
 have HML:=hid hml
 have HG:=hid hg
 have x3:=RX.cellAt 3 rfl
 have hbs:b<=w.heap.size:=Nat.le_of_lt hb
 clear hH hM hD hdb h hC hI hsz hk hlen hml RX BA hg
 go_enter Tryz.func140,Tryz.ntmps140
 go_wp2_with fail
 generalize w.alloc _=wX at *
 go_loopw [5,6,7,8,12] (fun _ _ _ _ q wr=>∃ (i:Nat) (cv':Value),i<=x.homes.length/\i<=left/\q=.int .i64 i/\Hid (Row wr b 171 (readerC db g (place+i) (left - i) seq (sumV (all ++ cat ((Jr.ring g D.now place left).take i))) cv' rv))/\Hid (OwnC b wr cv' (ch ++ Jr.said (x.homes.take i) x.masked (Jr.ring g D.now place left)))/\Hid (OwnInts b wr rv rl)/\Hid (Row wr w.heap.size 61 [.int .i64 x.kind,.int .u64 (x.seq:Int),.int .i64 x.at_,.slice a1 x.homes.length c1,.slice a2 x.masked.length c2,.int .u32 (x.sum:Int)])/\Hid (Below b w wr)/\Hid (wr.ownsRow Bx 3 1 (.slice a1 x.homes.length c1) x.homes.length (icells x.homes))/\Hid (wr.ownsRow Bx 4 1 (.slice a2 x.masked.length c2) x.masked.length (fcells x.masked))) (fun _ _ _ _ q _=>x.homes.length - (intOf q).toNat)
 case atStart=>exact ⟨0,cv,by omega,by omega,rfl,hid (by rw [List.take_zero,Jr.cat_nil,List.append_nil];exact HR.out),hid (by rw [Jr.said_zero,List.append_nil];exact HC.out),HI,HX,HBA,HH,HM⟩
 case round =>
  obtain ⟨i,cv',hi,hil,rfl,hR,hC,hI,hX,hB,hH,hM⟩:=hrel;by_cases hlt:i < x.homes.length
  ·have j0:(0:Int)<=(i:Int):=(by omega);have j1:(i:Int) < (x.homes.length:Int):=(by omega);have hn0:0 < x.homes.length:=(by omega);obtain ⟨gh,ch2,eh⟩:=own_some hH.out hn0;obtain ⟨gm,cm2,em⟩:=own_some hM.out (by rw [HML.out];exact hn0);cases eh;cases em;have hlt2:i < x.masked.length:=(by rw [HML.out];exact hlt);by_cases hl0:i < left
   ·have hnx:=hid (next_some db b (place+i) (left - i - 1) seq g HG.out (sumV (all ++ cat ((Jr.ring g D.now place left).take i))) cv' rv wr (HD.out.belowB hB.out HDB.out) HK.out (by omega) (by omega) (by rw [show left - i - 1+1=left - i by omega];exact hR.out) ⟨_,rfl⟩);obtain ⟨T,hT⟩:∃ T,Jr.blk D.now (Jr.pb g (place+i))=T:=⟨_,rfl⟩;have hTs:T.size=128:=by
     have h1:=Jr.pb_lt HG.out (place+i);have h2:=HK.out;have h3:=HLEN.out;have hlt3:Jr.pb g (place+i) < D.now.length:=(by omega);rw [<- hT];unfold Jr.blk;rw [show D.now.getD (Jr.pb g (place+i)) ⟨#[]⟩=D.now[Jr.pb g (place+i)] by simp [List.getD,hlt3]];exact HSZ.out _ (List.getElem_mem hlt3)
    rw [hT] at hnx;have hbi:(Jr.ring g D.now place left)[i]?=some T:=by rw [ring_blkat g D.now left place i hl0,hT]
    have hsn:=Jr.said_snoc x.homes x.masked (Jr.ring g D.now place left) i (x.homes.getD i 0) (x.masked.getD i false) T (by simp [List.getD,hlt]) (by simp [List.getD,hlt2]) hbi;have hcat:cat ((Jr.ring g D.now place left).take (i+1))=cat ((Jr.ring g D.now place left).take i) ++ T.data.toList:=by
     obtain ⟨hi3,hi4⟩:=List.getElem?_eq_some_iff.1 hbi;rw [List.take_succ_eq_append_getElem hi3,Jr.cat_append,hi4];simp [cat]
    have hmore:=hid (more_any (more 0#32 (all ++ cat ((Jr.ring g D.now place left).take i))) T (by omega));rw [more_cat,List.append_assoc,<- hcat] at hmore;have hun:=hid (fun w=>(unmask_any T w (by omega)).mono (R':=fun e w'=>e=.returned (.string (txt (Rec.unmask T.data.toList)))/\w=w') (fun e w' h=>⟨h.1,h.2.symm⟩));obtain ⟨L,hL⟩:∃ L,ch ++ Jr.said (x.homes.take i) x.masked (Jr.ring g D.now place left)=L:=⟨_,rfl⟩;have hLlen:L.length<=1000100:=by
     rw [<- hL,List.length_append];have:=Jr.said_length (x.homes.take i) x.masked (Jr.ring g D.now place left);rw [List.length_take] at this;omega
    rw [hL] at hC;obtain ⟨ac,cc,rfl⟩:=OwnC.slice hC.out;have HL:=hid hL;have HCAT:=hid hcat;clear hL hcat hbi hT;obtain ⟨S1,hS1⟩:∃ S1:Int,Go.Proofs.YtnpdhidliaahbaaGreat.u32 (more 0#32 (all ++ cat ((Jr.ring g D.now place left).take i)))=S1:=⟨_,rfl⟩;obtain ⟨S2i,hS2⟩:∃ S2i:Int,Go.Proofs.YtnpdhidliaahbaaGreat.u32 (more 0#32 (all ++ cat ((Jr.ring g D.now place left).take (i+1))))=S2i:=⟨_,rfl⟩;obtain ⟨S2,hS2v⟩:∃ S2:Value,Value.int .u32 S2i=S2:=⟨_,rfl⟩;unfold sumV at hnx hR;rw [hS1] at hnx hR hmore;rw [hS2] at hmore;have HS2:=hid (show sumV (all ++ cat ((Jr.ring g D.now place left).take (i+1)))=S2 by unfold sumV;rw [hS2,hS2v]);subst hS2v;clear hS1 hS2;have cH:=own_cellAt hH.out (icells_at x.homes i hlt);obtain ⟨hx,hhx⟩:∃ hx,x.homes.getD i 0=hx:=⟨_,rfl⟩;rw [hhx] at cH hsn;clear hhx;go_wp2_with fail;refine hnx.out.mono ?_;rintro e w1 ⟨rfl,hR1,hO1⟩;have hbX:b < w.heap.size:=by omega
    have hX1:=hO1.row hX.out (by simp;omega);have hM1:=own_onlyR hM.out hR.out hO1 (by decide);have hH1:=own_onlyR hH.out hR.out hO1 (by decide);have hC1:=own_onlyR (show wr.ownsRow b 68 2 (.slice ac L.length cc) L.length (chgC L) from hC.out) hR.out hO1 (by decide);have hI1:=own_onlyR (show wr.ownsRow b 3 1 rv rl.length (icells rl) from hI.out) hR.out hO1 (by decide);have hB1:=hB.out.trans (hO1.below (Nat.le_trans hbs hB.out.size) (by simp));have c13:=hR1.cellAt 13 rfl;have f13:=hR1.free 13 (by simp [readerC]);have HR2:=hid (hR1.set 13 (.int .u32 S2i));have HX2:=hid (hX1.other (a:=⟨b,13,none⟩) (by simp;omega) (.int .u32 S2i));have hM2:=own_setR (a:=⟨b,13,none⟩) (u:=.int .u32 S2i) hR1 hM1 (by decide);have HH2:=hid (own_setR (a:=⟨b,13,none⟩) (u:=.int .u32 S2i) hR1 hH1 (by decide));have HO:=hid (own_setR (a:=⟨b,13,none⟩) (u:=.int .u32 S2i) hR1 hC1 (by decide));have HI2:=hid (own_setR (a:=⟨b,13,none⟩) (u:=.int .u32 S2i) hR1 hI1 (by decide));have HB2:=hid (hB1.setCell (p:=⟨b,13,none⟩) (Nat.le_refl _) (.int .u32 S2i));have c14:=HR2.out.cellAt 14 rfl;have f14:=HR2.out.free 14 (by simp [readerC]);have x4:=HX2.out.cellAt 4 rfl;have cM:=own_cellAt hM2 (fcells_at x.masked i hlt2);have HM2:=hid hM2;have j2:(i:Int) < (x.masked.length:Int):=(by omega);clear hM2 hX1 hM1 hH1 hC1 hI1 hB1 hR1 hO1 hnx hR hC hI hX hB hH hM;go_upto_region 8 with (first | (go_at_call 139;refine (hmore.out _).mono ?_;rintro e w3 ⟨rfl,rfl⟩) | fail "none")
    generalize w1.setCell ⟨b,13,none⟩ (.int .u32 S2i)=w2 at *;cases hm:x.masked.getD i false
    ·rw [hm] at cM hsn;go_wp2_with (first | (at_builtin;refine wpList_append_own _ rfl (.tmp 45) (.tmp 49) 22 rfl b 68 i0 (.agg #[.int .i64 0,.string ⟨#[]⟩]) 2 24 Tryz.underlying22 hi0 hz0 hz1 hz2 rfl (by decide) _ L.length _ rfl (own_new1 HO.out _) ⟨w2.heap.size,0,none⟩ 1 1 [.int .i64 hx,.string T] rfl rfl (World.news_of_block (heap_alloc_new _ _)) (by intro u hu;simp at hu;rcases hu with rfl | rfl <;> rfl) (by unfold maxLen;omega) (by omega) (by have:=HB2.out.size;simp at this ⊢;omega) ?_;intro v' w5 hown hgrow _;obtain ⟨g5,c5,rfl⟩:=own_some hown (Nat.succ_pos _);have rR5:=row_grownR (HR2.out.alloc (.cells #[.int .i64 hx,.string T] 68)) (own_new1 HO.out _) hgrow (by decide);have c14':=rR5.cellAt 14 rfl;have f14':=rR5.free 14 (by simp [readerC]);have P5:=hid (desc_push hbX HR2.out HX2.out (own_new1 HO.out _) HI2.out HB2.out hgrow hown hbs);have Q5:=hid (desc_keep (v5:=.slice (some ⟨g5,0,none⟩) (L.length+1) c5) HR2.out (own_new1 HO.out _) hgrow HH2.out (by decide) (by decide));have U5:=hid (desc_keep (v5:=.slice (some ⟨g5,0,none⟩) (L.length+1) c5) HR2.out (own_new1 HO.out _) hgrow HM2.out (by decide) (by decide))) | fail "none");go_roundw;case rel =>
      refine ⟨i+1,.slice (some ⟨g5,0,none⟩) (L.length+1) c5,by omega,by omega,by go_num,hid (by rw [HS2.out];have:=P5.out.1;rw [show left - (i+1)=left - i - 1 by omega];exact this),hid (by unfold OwnC;rw [hsn,<- List.append_assoc,HL.out,List.length_append,chgC_append];exact P5.out.2.2.1),hid P5.out.2.2.2.1,hid P5.out.2.1,hid P5.out.2.2.2.2,?_,?_⟩
      ·exact hid Q5.out
      exact hid U5.out
     case measure=>simp [intOf];omega
    rw [hm] at cM hsn;obtain ⟨T2,hT2⟩:∃ T2,txt (Rec.unmask T.data.toList)=T2:=⟨_,rfl⟩;rw [hT2] at hun hsn;clear hT2;go_wp2_with (first | (go_at_call 163;refine (hun.out _).mono ?_;rintro e w3 ⟨rfl,rfl⟩) | (at_builtin;refine wpList_append_own _ rfl (.tmp 45) (.tmp 49) 22 rfl b 68 i0 (.agg #[.int .i64 0,.string ⟨#[]⟩]) 2 24 Tryz.underlying22 hi0 hz0 hz1 hz2 rfl (by decide) _ L.length _ rfl (own_new1 HO.out _) ⟨w2.heap.size,0,none⟩ 1 1 [.int .i64 hx,.string T2] rfl rfl (World.news_of_block (heap_alloc_new _ _)) (by intro u hu;simp at hu;rcases hu with rfl | rfl <;> rfl) (by unfold maxLen;omega) (by omega) (by have:=HB2.out.size;simp at this ⊢;omega) ?_;intro v' w5 hown hgrow _;obtain ⟨g5,c5,rfl⟩:=own_some hown (Nat.succ_pos _);have rR5:=row_grownR (HR2.out.alloc (.cells #[.int .i64 hx,.string T2] 68)) (own_new1 HO.out _) hgrow (by decide);have c14':=rR5.cellAt 14 rfl;have f14':=rR5.free 14 (by simp [readerC]);have P5:=hid (desc_push hbX HR2.out HX2.out (own_new1 HO.out _) HI2.out HB2.out hgrow hown hbs);have Q5:=hid (desc_keep (v5:=.slice (some ⟨g5,0,none⟩) (L.length+1) c5) HR2.out (own_new1 HO.out _) hgrow HH2.out (by decide) (by decide));have U5:=hid (desc_keep (v5:=.slice (some ⟨g5,0,none⟩) (L.length+1) c5) HR2.out (own_new1 HO.out _) hgrow HM2.out (by decide) (by decide))) | fail "none");go_roundw;case rel =>
     refine ⟨i+1,.slice (some ⟨g5,0,none⟩) (L.length+1) c5,by omega,by omega,by go_num,hid (by rw [HS2.out];have:=P5.out.1;rw [show left - (i+1)=left - i - 1 by omega];exact this),hid (by unfold OwnC;rw [hsn,<- List.append_assoc,HL.out,List.length_append,chgC_append];exact P5.out.2.2.1),hid P5.out.2.2.2.1,hid P5.out.2.1,hid P5.out.2.2.2.2,?_,?_⟩
     ·exact hid Q5.out
     exact hid U5.out
    case measure=>simp [intOf];omega
   have hz:left - i=0:=(by omega);rw [hz] at hR;have cH:=own_cellAt hH.out (icells_at x.homes i hlt);have hnx:=hid (next_none db b (place+i) seq g (sumV (all ++ cat ((Jr.ring g D.now place left).take i))) cv' rv wr hR.out);generalize x.homes.getD i 0=hx at *;clear hR hC hI hX hH hM;go_wp2_with fail;refine hnx.out.mono ?_;rintro e w1 ⟨rfl,rfl⟩;go_wp2_with fail;go_ret;exact .inl ⟨by omega,rfl,hB.out⟩
  obtain rfl:i=x.homes.length:=(by omega);rw [List.take_length] at hC;clear hX hH hM;go_wp2_with fail;go_ret;exact .inr ⟨by omega,rfl,hB.out,cv',hR.out,hC.out,hI.out⟩
end Go.Proofs.YtnpdhidliaahbaaGreat
namespace Go.Proofs.YtnpdhidliaahbaaGreat
open Go.Lib (hid)
open Go Go.RowKit
def WholeTold (db b place left seq:Nat) (g:Geo.G) (RES:Option (Jr.Txn × List ByteArray)) (w:World) (e:Ending) (w':World):Prop:=
 (RES=none/\e=.returned (.bool false)/\Below b w w') ∨ ∃ (t:Jr.Txn) (rest:List ByteArray) (cv' rv' sv':Value),RES=some (t,rest)/\e=.returned (.bool true)/\Below b w w'/\rest.length<=left/\Row w' b 171 (readerC db g (place+(left - rest.length)) rest.length seq sv' cv' rv')/\OwnC b w' cv' t.ch/\OwnInts b w' rv' t.rv
def leftOf (b:Nat) (w:World):Nat:=match w.cell? ⟨b,11,none⟩ with | some (.int _ z)=>z.toNat | _=>0
theorem leftOf_row {db b place left seq:Nat} {g:Geo.G} {sv cv rv:Value} {w:World} (h:Row w b 171 (readerC db g place left seq sv cv rv)):leftOf b w=left:=by
 unfold leftOf;rw [h.cellAt 11 rfl];rfl
theorem whole_any {Bd:Nat} {y:Lay} {D:Dev} (db b place left seq:Nat) (g:Geo.G) (hg:Geo.May g) (cv rv:Value) (w:World)
  (hD:DevAt Bd w db y D) (hdb:∀ k ∈ devB db y,k < b) (hk:(D.kept.length:Int)=g.blocks) (hsz:sized D.now) (hlen:D.now.length=D.kept.length) (hp:place<=10000) (hl:left<=600) (hq:seq < 2 ^ 64)
  (h:Row w b 171 (readerC db g place left seq (sumV []) cv rv)) (hC:OwnC b w cv []) (hI:OwnInts b w rv []) :
  Calls Tryz.prog 98 #[.pointer (some ⟨b,0,none⟩)] w fun e w'=>WholeTold db b place left seq g (Jr.parseA (Geo.home g) seq (Jr.ring g D.now place left) [] Jr.none_) w e w':=by
 obtain ⟨RES,hRES⟩:∃ RES,Jr.parseA (Geo.home g) seq (Jr.ring g D.now place left) [] Jr.none_=RES:=⟨_,rfl⟩
 rw [hRES]
 obtain ⟨i0,hi0,hz0,hz1,hz2⟩:=info_parts infoInt
 have HR:=hid h
 have HC:=hid hC
 have HI:=hid hI
 have HD:=hid hD
 have HDB:=hid hdb
 have HSZ:=hid hsz
 have HK:=hid hk
 have HLEN:=hid hlen
 have HG:=hid hg
 have HRES:=hid hRES
 have hb:=h.lt
 clear hRES h hC hI hD hdb hsz hk hlen hg
 have TN:Hid (∀ w',RES=none->Below b w w'->WholeTold db b place left seq g RES w (.returned (.bool false)) w'):=hid (fun w' h1 h2=>.inl ⟨h1,rfl,h2⟩)
 have TS:Hid (∀ (w':World) (t:Jr.Txn) (rest:List ByteArray) (cv' rv' sv':Value),RES=some (t,rest)->Below b w w'->rest.length<=left->Row w' b 171 (readerC db g (place+(left - rest.length)) rest.length seq sv' cv' rv')->OwnC b w' cv' t.ch->OwnInts b w' rv' t.rv->WholeTold db b place left seq g RES w (.returned (.bool true)) w'):=hid (fun w' t rest cv' rv' sv' h1 h2 h3 h4 h5 h6=>.inr ⟨t,rest,cv',rv',sv',h1,rfl,h2,h3,h4,h5,h6⟩)
 generalize WholeTold db b place left seq g RES w=P at *
 go_enter Tryz.func98,Tryz.ntmps98
 go_wp2_with fail
 go_loopw [] (fun wr=>∃ (p l:Nat) (all:Bytes) (t:Jr.Txn) (cv' rv':Value),p+l=place+left/\l<=left/\t.ch.length<=p * 28/\t.rv.length<=p * 28/\Hid (Jr.parseA (Geo.home g) seq (Jr.ring g D.now p l) all t=RES)/\Hid (Row wr b 171 (readerC db g p l seq (sumV all) cv' rv'))/\Hid (OwnC b wr cv' t.ch)/\Hid (OwnInts b wr rv' t.rv)/\Hid (Below b w wr)) (fun wr=>leftOf b wr)
 case atStart=>exact ⟨place,left,[],Jr.none_,cv,rv,rfl,Nat.le_refl _,by simp [Jr.none_],by simp [Jr.none_],HRES,HR,HC,HI,hid (Below.refl _ _)⟩
 case round =>
  obtain ⟨p,l,all,t,cv',rv',hpl,hll,htc,htr,hres,hR,hC,hI,hB⟩:=hrel;have hp1:p<=20000:=(by omega);have HM0:=hid (leftOf_row hR.out);cases l with
  | zero =>
   have hnx:=hid (next_none db b p seq g (sumV all) cv' rv' wr hR.out);have hdc:=hid (decode_any ⟨#[]⟩ wr (by decide));rw [(Rec.dec_no (s:=(⟨#[]⟩:ByteArray).data.toList) (Rec.dec_short (.inl (by decide)))).1,(Rec.dec_no (s:=(⟨#[]⟩:ByteArray).data.toList) (Rec.dec_short (.inl (by decide)))).2] at hdc;have hnone:Hid (RES=none):=hid (by rw [<- hres.out];rfl);clear hR hC hI hres;go_wp2_with fail;refine hnx.out.mono ?_;rintro e w1 ⟨rfl,rfl⟩;go_wp2_with fail;refine hdc.out.mono ?_;rintro e w2 ⟨v,rfl,-,⟨hv,mv,rfl,oH,oM⟩,hb2⟩;obtain ⟨a1,c1,rfl⟩:=OwnInts.slice oH;obtain ⟨a2,c2,rfl⟩:=OwnFlags.slice oM;have HB2:=hid (hB.out.trans (hb2.mono (Nat.le_trans (Nat.le_of_lt hb) hB.out.size)));clear oH oM hb2;go_wp2_with fail;go_quiet (fail);go_wp2_with fail;exact TN.out _ hnone.out (below_drewN (HB2.out.alloc (Nat.le_trans (Nat.le_of_lt hb) HB2.out.size) _) _)
  | succ l =>
   have hnx:=hid (next_some db b p l seq g HG.out (sumV all) cv' rv' wr (HD.out.belowB hB.out HDB.out) HK.out (by omega) (by omega) hR.out ⟨_,rfl⟩);have hring:Jr.ring g D.now p (l+1)=Jr.blk D.now (Jr.pb g p) :: Jr.ring g D.now (p+1) l:=rfl;obtain ⟨T,hT⟩:∃ T,Jr.blk D.now (Jr.pb g p)=T:=⟨_,rfl⟩;have hTs:T.size=128:=by
    have h1:=Jr.pb_lt HG.out p;have h2:=HK.out;have h3:=HLEN.out;have hlt3:Jr.pb g p < D.now.length:=(by omega);rw [<- hT];unfold Jr.blk;rw [show D.now.getD (Jr.pb g p) ⟨#[]⟩=D.now[Jr.pb g p] by simp [List.getD,hlt3]];exact HSZ.out _ (List.getElem_mem hlt3)
   rw [hring,hT,Jr.parseA_cons] at hres;rw [hT] at hnx;have hdc:=hid (fun w=>decode_any T w (by omega));clear hring hT;go_wp2_with fail;refine hnx.out.mono ?_;rintro e w1 ⟨rfl,hR1,hO1⟩;have hC1:=own_onlyR (show wr.ownsRow b 68 2 cv' t.ch.length (chgC t.ch) from hC.out) hR.out hO1 (by decide);have hI1:=own_onlyR (show wr.ownsRow b 3 1 rv' t.rv.length (icells t.rv) from hI.out) hR.out hO1 (by decide);have hbr:b<=wr.heap.size:=Nat.le_trans (Nat.le_of_lt hb) hB.out.size;have hB1:=hB.out.trans (hO1.below hbr (by simp));have hb1:b < w1.heap.size:=hR1.lt;have HR1:=hid hR1;have HC1:=hid hC1;have HI1:=hid hI1;have HB1:=hid hB1;clear hR hC hI hB hnx hO1 hR1 hC1 hI1 hB1;go_wp2_with fail;refine (hdc.out _).mono ?_;rintro e w2 ⟨v,rfl,hra,hro,hb2⟩;clear hdc;have HR2:=hid (HR1.out.below hb2 hb1);have HC2:=hid (own_below HC1.out hb2);have HI2:=hid (own_below HI1.out hb2);have HB2:=hid (HB1.out.trans (hb2.mono (Nat.le_of_lt hb1)));have hb12:w1.heap.size<=w2.heap.size:=hb2.size;clear HR1 HC1 HI1 HB1 hb2;have hra':=hid hra;obtain ⟨hv,mv,rfl,oH,oM⟩:=hro;obtain ⟨a1,c1,rfl⟩:=OwnInts.slice oH;obtain ⟨a2,c2,rfl⟩:=OwnFlags.slice oM;have OH:=hid oH;have OM:=hid oM;clear oH oM hra;cases hdec:Rec.dec T.data.toList with
   | none =>
    rw [hdec] at hres;have hnone:Hid (RES=none):=hid hres.out.symm;rw [(Rec.dec_no hdec).1,(Rec.dec_no hdec).2];clear hres hra' OH OM;go_wp2_with fail;go_quiet (fail);go_wp2_with fail;exact TN.out _ hnone.out (below_drewN (HB2.out.alloc (by omega) _) _)
   | some x =>
    rw [hdec] at hres;obtain ⟨e1,e2⟩:=Rec.dec_yes hdec;rw [e1] at hra' OH OM;rw [e1,e2];have hmay:=hid (Rec.may_cases (Rec.dec_some hdec).2.1);obtain ⟨hxq,hxs⟩:x.seq < 2 ^ 64/\x.sum < 2 ^ 32:=⟨hra'.out.seq,hra'.out.sum⟩;dsimp only at hres;clear e1 e2 hdec;have RX:=Row.new w2 61 [.int .i64 x.kind,.int .u64 (x.seq:Int),.int .i64 x.at_,.slice a1 x.homes.length c1,.slice a2 x.masked.length c2,.int .u32 (x.sum:Int)] rfl;have bX:=(Below.refl w2.heap.size w2).alloc (Nat.le_refl _) (.cells #[.int .i64 x.kind,.int .u64 (x.seq:Int),.int .i64 x.at_,.slice a1 x.homes.length c1,.slice a2 x.masked.length c2,.int .u32 (x.sum:Int)] 61);have HX:=hid RX;have HR3:=hid (HR2.out.below bX (by omega));have HC3:=hid (own_below HC2.out bX);have HI3:=hid (own_below HI2.out bX);have HB3:=hid (HB2.out.trans (bX.mono (by omega)));have RA3:=hid (hra'.out.below bX);have OH3:=hid (own_below (show w2.ownsRow w1.heap.size 3 1 (.slice a1 x.homes.length c1) x.homes.length (icells x.homes) from OH.out) bX);have OM3:=hid (own_below (show w2.ownsRow w1.heap.size 4 1 (.slice a2 x.masked.length c2) x.masked.length (fcells x.masked) from OM.out) bX);have z1:=RX.cellAt 1 rfl;have y12:=HR3.out.cellAt 12 rfl;have bX':w2.heap.size+1<=(w2.alloc (.cells #[.int .i64 x.kind,.int .u64 (x.seq:Int),.int .i64 x.at_,.slice a1 x.homes.length c1,.slice a2 x.masked.length c2,.int .u32 (x.sum:Int)] 61)).heap.size:=by simp
    clear HR2 HC2 HI2 HB2 hra' OH OM bX RX;by_cases hsq:x.seq=seq;case neg =>
     have hnone:Hid (RES=none):=hid (by rw [<- hres.out,if_pos (.inl hsq)]);have hne:((x.seq:Int) != (seq:Int))=true:=(by rw [bne_iff_ne];omega);clear hres;go_wp2_with fail;generalize w2.alloc _=w3 at *;go_quiet (fail);go_wp2_with fail;exact TN.out _ hnone.out (below_drewN HB3.out _)
    have hsf:((x.seq:Int) != (seq:Int))=false:=(by rw [bne_eq_false_iff_eq,hsq]);have hrng:∀ z ∈ x.homes,-9223372036854775808<=z/\z<=9223372036854775807:=by
     intro z hz;have:0<=z/\z < 4096:=by
      rcases hmay.out with ⟨-,-,-,-,k,-⟩ | ⟨-,-,-,k,-⟩ | ⟨-,-,-,k,-⟩ | ⟨-,-,k,-⟩
      ·rw [k] at hz;cases hz
      ·exact Rec.blockOk_iff.1 (Rec.rises_mem k z hz)
      ·exact Rec.blockOk_iff.1 (Rec.rises_mem k z hz)
      rw [k] at hz;cases hz
     omega
    have hlx:x.homes.length<=28:=by
     rcases hmay.out with ⟨-,-,-,-,k,-⟩ | ⟨-,-,-,-,-,k,-⟩ | ⟨-,-,-,-,-,k,-⟩ | ⟨-,-,k,-⟩
     ·rw [k];simp
     ·omega
     ·omega
     rw [k];simp
    have z3:=HX.out.cellAt 3 rfl;have Q138:Hid (∀ wz,Below (w2.alloc (.cells #[.int .i64 x.kind,.int .u64 (x.seq:Int),.int .i64 x.at_,.slice a1 x.homes.length c1,.slice a2 x.masked.length c2,.int .u32 (x.sum:Int)] 61)).heap.size (w2.alloc (.cells #[.int .i64 x.kind,.int .u64 (x.seq:Int),.int .i64 x.at_,.slice a1 x.homes.length c1,.slice a2 x.masked.length c2,.int .u32 (x.sum:Int)] 61)) wz->Calls Tryz.prog 138 #[.pointer (some ⟨b,0,none⟩),.slice a1 x.homes.length c1] wz fun e w'=>e=.returned (.bool (x.homes.all (Geo.home g)))/\Below wz.heap.size wz w'):=hid (fun wz hz=>by
     have hI3:IntsAt (w2.alloc (.cells #[.int .i64 x.kind,.int .u64 (x.seq:Int),.int .i64 x.at_,.slice a1 x.homes.length c1,.slice a2 x.masked.length c2,.int .u32 (x.sum:Int)] 61)) (.slice a1 x.homes.length c1) x.homes:=OwnInts.at OH3.out;exact readhomes_any db b (p+1) l seq g HG.out (sumV all) cv' rv' _ x.homes (by omega) hrng wz (hI3.below hz) (HR3.out.below hz (by simp;omega)))
    have hc:(x.seq ≠ seq ∨ x.homes.all (Geo.home g)=false)=(x.homes.all (Geo.home g)=false):=(by rw [hsq];simp);simp only [hc] at hres;clear hc;clear hsq hrng;go_wp2_with fail;generalize w2.alloc _=w3 at *;generalize hall:x.homes.all (Geo.home g)=HA at *
    go_region_held3 (fun w'=>w'.cell? ⟨w2.heap.size,1,none⟩=some (.int .u64 (x.seq:Int))/\w'.cell? ⟨w2.heap.size,3,none⟩=some (.slice a1 x.homes.length c1)/\w'.cell? ⟨b,12,none⟩=some (.int .u64 (seq:Int)))
     (first | exact ⟨z1,z3,y12⟩ | exact ⟨q1,q3,q12⟩)
     (first | (go_at_call 138;refine (Q138.out _ (Below.refl _ _).drew).mono ?_;rintro e w4 ⟨rfl,hb4'⟩;have hb4:Below w3.heap.size w3 w4:=⟨hb4'.os,hb4'.tape,hb4'.output,hb4'.size,hb4'.block⟩;have rX4:=HX.out.below hb4 HX.out.lt;have rR4:=HR3.out.below hb4 HR3.out.lt;have q1:=rX4.cellAt 1 rfl;have q3:=rX4.cellAt 3 rfl;have q12:=rR4.cellAt 12 rfl) | fail "none")
    have HR4:=hid rR4;have HX4:=hid rX4;have HC4:=hid (own_below HC3.out hb4);have HI4:=hid (own_below HI3.out hb4);have HB4:=hid (HB3.out.trans (hb4.mono (Nat.le_of_lt HR3.out.lt)));have OH4:=hid (own_below OH3.out hb4);have OM4:=hid (own_below OM3.out hb4);clear q1 q3 q12 rX4 rR4 hb4' hb4 HR3 HX HC3 HI3 HB3 OH3 OM3 RA3 Q138 z1 z3 y12;cases HA
    ·have hnone:Hid (RES=none):=hid (by rw [<- hres.out,if_pos rfl]);clear hres;go_wp2_with fail;exact TN.out _ hnone.out HB4.out
    have hres2:=hres.out;rw [if_neg (by decide)] at hres2;have hmore:=hid (more_any (more 0#32 all) T (by omega));rw [more_cat] at hmore;obtain ⟨S1,hS1⟩:∃ S1:Int,Go.Proofs.YtnpdhidliaahbaaGreat.u32 (more 0#32 all)=S1:=⟨_,rfl⟩;obtain ⟨S2,hS2⟩:∃ S2:Int,Go.Proofs.YtnpdhidliaahbaaGreat.u32 (more 0#32 (all ++ T.data.toList))=S2:=⟨_,rfl⟩;have HS2:=hid (show sumV (all ++ T.data.toList)=.int .u32 S2 by unfold sumV;rw [hS2]);have HS1:=hid (show ((Jr.sumB all:Nat):Int)=S1 from hS1);unfold sumV at HR4;rw [hS1] at HR4 hmore;rw [hS2] at hmore;have c13:=HR4.out.cellAt 13 rfl;have f13:=HR4.out.free 13 (by simp [readerC]);have HR5:=hid (HR4.out.set 13 (.int .u32 S2));have HX5:=hid (HX4.out.other (a:=⟨b,13,none⟩) (by simp;omega) (.int .u32 S2));have HC5:=hid (own_setR (a:=⟨b,13,none⟩) (u:=.int .u32 S2) HR4.out HC4.out (by decide));have HI5:=hid (own_setR (a:=⟨b,13,none⟩) (u:=.int .u32 S2) HR4.out HI4.out (by decide));have OH5:=hid (own_setR (a:=⟨b,13,none⟩) (u:=.int .u32 S2) HR4.out OH4.out (by decide));have OM5:=hid (own_setR (a:=⟨b,13,none⟩) (u:=.int .u32 S2) HR4.out OM4.out (by decide));have HB5:=hid (HB4.out.setCell (p:=⟨b,13,none⟩) (Nat.le_refl _) (.int .u32 S2));have k0:=HX5.out.cellAt 0 rfl;have HRES:=hid hres2;clear hS1 hS2 hres hres2 HR4 HX4 HC4 HI4 HB4 OH4 OM4;go_upto_region 9 with (first | (go_at_call 139;refine (hmore.out _).mono ?_;rintro e w6 ⟨rfl,rfl⟩) | fail "none")
    generalize w4.setCell ⟨b,13,none⟩ (.int .u32 S2)=w5 at *;clear c13 f13 hmore;rcases hmay.out with ⟨k,-⟩ | ⟨k,k1,k2,k3,k4,k5,k6⟩ | ⟨k,k1,k2,k3,k4,k5,k6⟩ | ⟨k,k1,k2,k3⟩
    ·have hnone:Hid (RES=none):=hid (by have:=HRES.out;rwa [if_neg (by omega),if_neg (by omega),if_neg (by omega),eq_comm] at this);clear HRES hmay;go_wp2_with fail;exact TN.out _ hnone.out HB5.out
    ·have hR:=HRES.out;rw [if_neg (by omega),if_neg (by omega),if_pos k,Jr.ring_length,Jr.ring_drop] at hR;have hml:x.masked.length=x.homes.length:=k6;have HDN:=hid (HD.out.belowB HB5.out HDB.out);have hde:=hid (desc_any db b (p+1) l seq g HG.out (all ++ T.data.toList) t.ch t.rv cv' rv' (.agg #[.int .i64 x.kind,.int .u64 (x.seq:Int),.int .i64 x.at_,.slice a1 x.homes.length c1,.slice a2 x.masked.length c2,.int .u32 (x.sum:Int)]) x w5 HDN.out HDB.out HK.out HSZ.out HLEN.out (by omega) (by omega) (by omega) (by rw [HS2.out];exact HR5.out) HC5.out HI5.out ⟨_,_,rfl,OH5.out,OM5.out⟩ hb1 hml hlx);rw [k] at hde;have x1:=HX5.out.cellAt 1 rfl;have x2:=HX5.out.cellAt 2 rfl;have x3:=HX5.out.cellAt 3 rfl;have x4:=HX5.out.cellAt 4 rfl;have x5:=HX5.out.cellAt 5 rfl;have HRS:=hid hR;have HSL:=hid (Jr.said_length x.homes x.masked (Jr.ring g D.now (p+1) l));clear HRES hmay hR k1 k2 k3 k4 k5 k6 hml HR5 HC5 HI5 OH5 OM5 HDN HX5;go_wp2_with fail;(with_reducible refine hde.out.mono ?_);rintro e w6 (⟨hlt,rfl,hb6⟩ | ⟨hge,rfl,hb6,cv2,r6,c6,i6⟩)
     ·have hT4:=hid (TN.out w6 (by have:=HRS.out;rw [if_pos hlt] at this;exact this.symm) (HB5.out.trans hb6));clear hb6 HRS hde;go_wp2_with fail;exact hT4.out
     have HR6:=hid r6;have HC6:=hid c6;have HI6:=hid i6;have HB6:=hid (HB5.out.trans hb6);have HN:=hid (show Jr.parseA (Geo.home g) seq (Jr.ring g D.now (p+1+x.homes.length) (l - x.homes.length)) (all ++ T.data.toList ++ cat ((Jr.ring g D.now (p+1) l).take x.homes.length)) ⟨t.ch ++ Jr.said x.homes x.masked (Jr.ring g D.now (p+1) l),t.rv⟩=RES by have:=HRS.out;rwa [if_neg hge] at this);clear hb6 r6 c6 i6 HRS hde;go_wp2_with fail;go_roundw;case rel=>exact ⟨p+1+x.homes.length,l - x.homes.length,_,_,cv2,rv',by omega,by omega,by have:=HSL.out;simp only [List.length_append];omega,by dsimp only;omega,HN,HR6,HC6,HI6,HB6⟩
     case measure=>rw [leftOf_row HR6.out,HM0.out];omega
    ·have hR:=HRES.out;rw [if_neg (by omega),if_pos k] at hR;have hn0:0 < x.homes.length:=(by omega);obtain ⟨gh,ch2,eh⟩:=own_some OH5.out hn0;cases eh;obtain ⟨ar,cr,rfl⟩:=OwnInts.slice HI5.out;have x3:=HX5.out.cellAt 3 rfl;have y15:=HR5.out.cellAt 15 rfl;have NN:∀ (j:Nat) (u:Value),(icells x.homes)[j]?=some u->w5.drew.cell? ((⟨gh,0,none⟩:Addr).add j)=some u:=fun j u hu=>World.ownsRow.cells OH5.out rfl j u hu;have hone:∀ u ∈ icells x.homes,u.oneCell'=true:=by intro u hu;simp [icells] at hu;obtain ⟨z,-,rfl⟩:=hu;rfl
     have HO:=hid (show w5.drew.ownsRow b 3 1 (.slice ar t.rv.length cr) t.rv.length (icells t.rv) from HI5.out);have HNN:=hid NN;have HRS:=hid hR;have hbase:b<=w5.drew.heap.size:=Nat.le_of_lt HR5.out.lt;have HR5d:=hid HR5.out.drew;clear HRES hmay hR k1 k2 k3 k4 k5 k6 NN HI5 OH5 OM5;go_wp2_with fail;go_region_law (refine step_append_lies _ rfl (.tmp 68) (.tmp 70) 23 rfl b 3 i0 (.int .i64 0) 1 8 Tryz.underlying23 hi0 hz0 hz1 hz2 rfl (by decide) (.slice ar t.rv.length cr) t.rv.length (icells t.rv) (by simp [Act.eval,Act.put];done) HO.out ⟨gh,0,none⟩ x.homes.length c1 (icells x.homes) (by simp [Act.eval,Act.put];done) (by rw [icells_length,Nat.mul_one]) HNN.out hone hn0 (by unfold maxLen;omega) (by omega) hbase _ rfl ?_;intro g5 c5 w6 hown hgrow hat hlt5;have rR6:=row_grownR HR5d.out HO.out hgrow (by decide);have c15:=rR6.cellAt 15 rfl;have f15:=rR6.free 15 (by simp [readerC]))
     all_goals
      have HR7:=hid (rR6.set 15 (.slice (some ⟨g5,0,none⟩) (t.rv.length+x.homes.length) c5));have HI7:=hid (own_setR (a:=⟨b,15,none⟩) (u:=.slice (some ⟨g5,0,none⟩) (t.rv.length+x.homes.length) c5) rR6 hown (by decide));have HC7:=hid (own_setR (a:=⟨b,15,none⟩) (u:=.slice (some ⟨g5,0,none⟩) (t.rv.length+x.homes.length) c5) rR6 (own_otherR (show w5.drew.ownsRow b 68 2 cv' t.ch.length (chgC t.ch) from HC5.out) HO.out hgrow (by decide)) (by decide));have HB7:=hid ((HB5.out.drew.grown hgrow hbase (fun j hj=>(World.ownsRow.lt HO.out j hj).1)).setCell (p:=⟨b,15,none⟩) (Nat.le_refl _) (.slice (some ⟨g5,0,none⟩) (t.rv.length+x.homes.length) c5));clear hown hgrow hat hlt5 rR6 HX5;go_wp2_with fail;go_roundw
     all_goals first | exact ⟨p+1,l,all ++ T.data.toList,⟨t.ch,t.rv ++ x.homes⟩,cv',_,by omega,by omega,by dsimp only;omega,by simp only [List.length_append];omega,HRS,hid (by rw [HS2.out];exact HR7.out),HC7,hid (by unfold OwnInts;rw [List.length_append,icells_append];exact HI7.out),HB7⟩ | (rw [leftOf_row HR7.out,HM0.out];omega)
    have hR:=HRES.out;rw [if_pos k] at hR;have x5:=HX5.out.cellAt 5 rfl;by_cases hs:x.sum=Jr.sumB all
    ·rw [if_pos hs] at hR;have HRS:=hid hR.symm;have hsv:((x.sum:Int) == S1)=true:=by rw [beq_iff_eq,<- HS1.out,hs]
     have hT4:=hid (TS.out w5 t (Jr.ring g D.now (p+1) l) cv' rv' (.int .u32 S2) HRS.out HB5.out (by rw [Jr.ring_length];omega) (by rw [Jr.ring_length,show place+(left - l)=p+1 by omega];exact HR5.out) HC5.out HI5.out);clear HRES hmay hR hs k1 k2 k3 HRS;go_wp2_with fail;first | exact hT4.out | (rw [hsv];exact hT4.out)
    rw [if_neg hs] at hR;have hnone:Hid (RES=none):=hid hR.symm;have hsv:((x.sum:Int) == S1)=false:=by rw [beq_eq_false_iff_ne,<- HS1.out];omega
    have hT4:=hid (TN.out w5 hnone.out HB5.out);clear HRES hmay hR hs k1 k2 k3 hnone;go_wp2_with fail;first | exact hT4.out | (rw [hsv];exact hT4.out)
def SegAt (size:Nat) (w:World) (v:Value) (n:Nat) (xs:List Value):Prop:=
 (v=.slice none 0 0/\n=0) ∨ ∃ b off cap,v=.slice (some ⟨b,off,none⟩) n cap/\∀ j u,j < n * size->xs[j]?=some u->w.cell? ⟨b,off+j,none⟩=some u
theorem SegAt.below {size n:Nat} {w w':World} {v:Value} {xs:List Value} (h:SegAt size w v n xs) (hb:Below w.heap.size w w'):SegAt size w' v n xs:=by
 rcases h with h | ⟨b,off,cap,rfl,hc⟩
 ·exact .inl h
 ·exact .inr ⟨b,off,cap,rfl,fun j u hj hu=>(hb.cell (p:=⟨b,off+j,none⟩) (World.block_lt_of_cell? w _ (hc j u hj hu))).trans (hc j u hj hu)⟩
theorem SegAt.form {size n:Nat} {w:World} {v:Value} {xs:List Value} (h:SegAt size w v n xs):∃ ad cap,v=.slice ad n cap:=by
 rcases h with ⟨rfl,rfl⟩ | ⟨b,off,cap,rfl,_⟩
 ·exact ⟨_,_,rfl⟩
 ·exact ⟨_,_,rfl⟩
theorem SegAt.own {size n B:Nat} {E:TypeId} {w:World} {v:Value} {xs:List Value} (h:w.ownsRow B E size v n xs):SegAt size w v n xs:=by
 rcases h.2 with ⟨rfl,hn⟩ | ⟨g,cap,cur,rfl,hg,hh,h1,h2,h3,h4⟩
 ·exact .inl ⟨rfl,hn⟩
 ·refine .inr ⟨g,0,cap,rfl,fun j u hj hu=>?_⟩;rw [Nat.zero_add];have e:(cur.toList.take (n * size))[j]?=some u:=by rw [h4];exact hu
  rw [List.getElem?_take,if_pos hj,Array.getElem?_toList] at e;simp [World.cell?,hh,e]
def ChgsAt (w:World) (v:Value) (l:List Jr.Chg):Prop:=SegAt 2 w v l.length (chgC l)
theorem OwnC.at {B:Nat} {w:World} {v:Value} {l:List Jr.Chg} (h:OwnC B w v l):ChgsAt w v l:=SegAt.own h
theorem ChgsAt.below {w w':World} {v:Value} {l:List Jr.Chg} (h:ChgsAt w v l) (hb:Below w.heap.size w w'):ChgsAt w' v l:=SegAt.below h hb
theorem ChgsAt.form {w:World} {v:Value} {l:List Jr.Chg} (h:ChgsAt w v l):∃ ad cap,v=.slice ad l.length cap:=SegAt.form h
def txC (xs:List (Value × Value)):List Value:=xs.flatMap fun x=>[x.1,x.2]
theorem txC_append (a b:List (Value × Value)):txC (a ++ b)=txC a ++ txC b:=by simp [txC]
def TxsIn (w:World):List (Value × Value)->List Jr.Txn->Prop
 | x :: xs,t :: ts=>(ChgsAt w x.1 t.ch/\IntsAt w x.2 t.rv)/\TxsIn w xs ts
 | [],[]=>True
 | _,_=>False
theorem TxsIn.below {w w':World} (hb:Below w.heap.size w w'):∀ {xs:List (Value × Value)} {ts:List Jr.Txn},TxsIn w xs ts->TxsIn w' xs ts
 | x :: xs,t :: ts,h=>⟨⟨h.1.1.below hb,h.1.2.below hb⟩,TxsIn.below hb h.2⟩
 | [],[],_=>trivial
 | [],_ :: _,h=>h.elim
 | _ :: _,[],h=>h.elim
theorem TxsIn.length {w:World}:∀ {xs:List (Value × Value)} {ts:List Jr.Txn},TxsIn w xs ts->xs.length=ts.length
 | x :: xs,t :: ts,h=>by rw [List.length_cons,List.length_cons,TxsIn.length h.2]
 | [],[],_=>rfl
 | [],_ :: _,h=>h.elim
 | _ :: _,[],h=>h.elim
theorem TxsIn.snoc {w:World} {c r:Value} {t:Jr.Txn} (hc:ChgsAt w c t.ch) (hr:IntsAt w r t.rv):∀ {xs:List (Value × Value)} {ts:List Jr.Txn},TxsIn w xs ts->TxsIn w (xs ++ [(c,r)]) (ts ++ [t])
 | x :: xs,u :: ts,h=>⟨h.1,TxsIn.snoc hc hr h.2⟩
 | [],[],_=>⟨⟨hc,hr⟩,trivial⟩
 | [],_ :: _,h=>h.elim
 | _ :: _,[],h=>h.elim
theorem TxsIn.get {w:World} {t:Jr.Txn}:∀ {xs:List (Value × Value)} {ts:List Jr.Txn} {i:Nat},TxsIn w xs ts->ts[i]?=some t->∃ x,xs[i]?=some x/\ChgsAt w x.1 t.ch/\IntsAt w x.2 t.rv
 | x :: xs,u :: ts,0,h,e=>by injection e with e;subst e;exact ⟨x,rfl,h.1⟩
 | x :: xs,u :: ts,i+1,h,e=>by
  obtain ⟨y,hy,r⟩:=TxsIn.get h.2 e;exact ⟨y,hy,r⟩
 | [],_ :: _,_,h,_=>h.elim
 | _ :: _,[],_,h,_=>h.elim
def TxnsAt (w:World) (v:Value) (ts:List Jr.Txn):Prop:=∃ xs,SegAt 2 w v ts.length (txC xs)/\TxsIn w xs ts
theorem TxnsAt.below {w w':World} {v:Value} {ts:List Jr.Txn} (h:TxnsAt w v ts) (hb:Below w.heap.size w w'):TxnsAt w' v ts:=by
 obtain ⟨xs,h1,h2⟩:=h;exact ⟨xs,h1.below hb,h2.below hb⟩
theorem TxnsAt.form {w:World} {v:Value} {ts:List Jr.Txn} (h:TxnsAt w v ts):∃ ad cap,v=.slice ad ts.length cap:=by
 obtain ⟨xs,h1,h2⟩:=h;exact h1.form
def OwnTs (B:Nat) (w:World):List (Value × Value)->List Jr.Txn->Prop
 | x :: xs,t :: ts=>(OwnC B w x.1 t.ch/\OwnInts B w x.2 t.rv)/\OwnTs B w xs ts
 | [],[]=>True
 | _,_=>False
theorem OwnTs.map {B B':Nat} {w w':World} (h1:∀ v l,OwnC B w v l->OwnC B' w' v l) (h2:∀ v l,OwnInts B w v l->OwnInts B' w' v l):∀ {xs:List (Value × Value)} {ts:List Jr.Txn},OwnTs B w xs ts->OwnTs B' w' xs ts
 | x :: xs,t :: ts,h=>⟨⟨h1 _ _ h.1.1,h2 _ _ h.1.2⟩,OwnTs.map h1 h2 h.2⟩
 | [],[],_=>trivial
 | [],_ :: _,h=>h.elim
 | _ :: _,[],h=>h.elim
theorem OwnTs.length {B:Nat} {w:World}:∀ {xs:List (Value × Value)} {ts:List Jr.Txn},OwnTs B w xs ts->xs.length=ts.length
 | x :: xs,t :: ts,h=>by rw [List.length_cons,List.length_cons,OwnTs.length h.2]
 | [],[],_=>rfl
 | [],_ :: _,h=>h.elim
 | _ :: _,[],h=>h.elim
theorem OwnTs.snoc {B:Nat} {w:World} {c r:Value} {t:Jr.Txn} (hc:OwnC B w c t.ch) (hr:OwnInts B w r t.rv):∀ {xs:List (Value × Value)} {ts:List Jr.Txn},OwnTs B w xs ts->OwnTs B w (xs ++ [(c,r)]) (ts ++ [t])
 | x :: xs,u :: ts,h=>⟨h.1,OwnTs.snoc hc hr h.2⟩
 | [],[],_=>⟨⟨hc,hr⟩,trivial⟩
 | [],_ :: _,h=>h.elim
 | _ :: _,[],h=>h.elim
theorem OwnTs.at {B:Nat} {w:World}:∀ {xs:List (Value × Value)} {ts:List Jr.Txn},OwnTs B w xs ts->TxsIn w xs ts
 | x :: xs,t :: ts,h=>⟨⟨OwnC.at h.1.1,OwnInts.at h.1.2⟩,OwnTs.at h.2⟩
 | [],[],_=>trivial
 | [],_ :: _,h=>h.elim
 | _ :: _,[],h=>h.elim
def OwnT (B:Nat) (w:World) (v:Value) (ts:List Jr.Txn):Prop:=∃ xs,w.ownsRow B 25 2 v ts.length (txC xs)/\OwnTs B w xs ts
theorem OwnT.at {B:Nat} {w:World} {v:Value} {ts:List Jr.Txn} (h:OwnT B w v ts):TxnsAt w v ts:=by
 obtain ⟨xs,h1,h2⟩:=h;exact ⟨xs,SegAt.own h1,h2.at⟩
theorem OwnT.below {B:Nat} {w w':World} {v:Value} {ts:List Jr.Txn} (h:OwnT B w v ts) (hb:Below w.heap.size w w'):OwnT B w' v ts:=by
 obtain ⟨xs,h1,h2⟩:=h;exact ⟨xs,own_below h1 hb,h2.map (fun _ _ h=>own_below h hb) (fun _ _ h=>own_below h hb)⟩
theorem OwnT.mono {B B':Nat} {w:World} {v:Value} {ts:List Jr.Txn} (h:OwnT B w v ts) (hb:B'<=B):OwnT B' w v ts:=by
 obtain ⟨xs,h1,h2⟩:=h;exact ⟨xs,h1.mono hb,h2.map (fun _ _ h=>World.ownsRow.mono h hb) (fun _ _ h=>World.ownsRow.mono h hb)⟩
theorem OwnT.new1 {B:Nat} {w:World} {v:Value} {ts:List Jr.Txn} (h:OwnT B w v ts) (o:Obj):OwnT B (w.alloc o) v ts:=h.below ((Below.refl _ _).alloc (Nat.le_refl _) o)
theorem OwnT.set {B:Nat} {w:World} {a:Addr} {u v:Value} {S:TypeId} {cs:List Value} {ts:List Jr.Txn} (h:OwnT B w v ts) (ha:Row w a.block S cs) (hT:25 ≠ S) (hC:68 ≠ S) (hI:3 ≠ S):OwnT B (w.setCell a u) v ts:=by
 obtain ⟨xs,h1,h2⟩:=h;exact ⟨xs,own_setR ha h1 hT,h2.map (fun _ _ h=>own_setR ha h hC) (fun _ _ h=>own_setR ha h hI)⟩
theorem OwnT.drewN {B:Nat} {w:World} {v:Value} {ts:List Jr.Txn} (h:OwnT B w v ts) (n:Nat):OwnT B (w.drewN n) v ts:=h.below (below_drewN (Below.refl _ _) n)
theorem infoTxn:(Tryz.prog.info? 25).map (fun i=>(i.zero,i.size,i.bytes))=some (some (.agg #[.slice none 0 0,.slice none 0 0]),2,48):=by kernel_rfl
def stV (a u:Nat) (s:Nat) (v:Value):Value:=.agg #[.int .i64 (a:Int),.int .i64 (u:Int),.int .u64 (s:Int),v]
def ReadTold (RES:Option Jr.Log) (w:World) (e:Ending) (w':World):Prop:=
 (RES=none/\e=.returned (.tuple #[stV 0 0 0 (.slice none 0 0),.int .i64 80])/\Below w.heap.size w w') ∨
 ∃ L v,RES=some L/\e=.returned (.tuple #[stV L.at_ L.used ((L.seq+L.txns.length) % 18446744073709551616) v,.int .i64 0])/\Below w.heap.size w w'/\OwnT w.heap.size w' v L.txns
def usedOf (b:Nat) (w:World):Nat:=match w.cell? ⟨b,1,none⟩ with | some (.int _ z)=>z.toNat | _=>0
theorem ownTs_drew {B:Nat} {w:World} {xs:List (Value × Value)} {ts:List Jr.Txn} (h:OwnTs B w xs ts):OwnTs B w.drew xs ts:=OwnTs.map (w:=w) (w':=w.drew) (fun _ _ h=>h) (fun _ _ h=>h) h
theorem read_push {B X rb zb n n5:Nat} {w w2 w5:World} {v v5 c r:Value} {ys ys5 xs rs zs:List Value} {o:Obj} {pq:List (Value × Value)} {ts:List Jr.Txn} {t:Jr.Txn} (hwX:w.heap.size<=X) (hXB:X < B) (h1:rb ≠ X) (h2:zb ≠ X) (rX:Row w2 X 125 xs) (rR:Row w2 rb 34 rs) (rZ:Row w2 zb 125 zs) (ho:(w2.alloc o).ownsRow B 25 2 v n ys) (hT:OwnTs B w2 pq ts) (hc:OwnC B w2 c t.ch) (hr:OwnInts B w2 r t.rv) (HB:Below w.heap.size w w2) (hgrow:(w2.alloc o).grownBy w5 v.ownBlock) (hown:w5.ownsRow B 25 2 v5 n5 ys5) :
  Row (w5.setCell ⟨X,3,none⟩ v5) X 125 (xs.set 3 v5)/\Row (w5.setCell ⟨X,3,none⟩ v5) rb 34 rs/\Row (w5.setCell ⟨X,3,none⟩ v5) zb 125 zs/\(w5.setCell ⟨X,3,none⟩ v5).ownsRow B 25 2 v5 n5 ys5/\OwnTs B (w5.setCell ⟨X,3,none⟩ v5) (pq ++ [(c,r)]) (ts ++ [t])/\Below w.heap.size w (w5.setCell ⟨X,3,none⟩ v5):=by
 have rX5:=row_grownR (rX.alloc o) ho hgrow (by decide)
 have rR5:=row_grownR (rR.alloc o) ho hgrow (by decide)
 have rZ5:=row_grownR (rZ.alloc o) ho hgrow (by decide)
 have B5:Below w.heap.size w w5:=(HB.alloc HB.size o).grown hgrow (by simp;have:=HB.size;omega) (fun j hj=>by have:=(World.ownsRow.lt ho j hj).1;omega)
 have gC:∀ v l,OwnC B w2 v l->OwnC B (w5.setCell ⟨X,3,none⟩ v5) v l:=fun v l h=>own_setR (a:=⟨X,3,none⟩) rX5 (own_otherR (own_new1 h o) ho hgrow (by decide)) (by decide)
 have gI:∀ v l,OwnInts B w2 v l->OwnInts B (w5.setCell ⟨X,3,none⟩ v5) v l:=fun v l h=>own_setR (a:=⟨X,3,none⟩) rX5 (own_otherR (own_new1 h o) ho hgrow (by decide)) (by decide)
 exact ⟨rX5.set 3 _,rR5.other (by dsimp only;omega) _,rZ5.other (by dsimp only;omega) _,own_setR (a:=⟨X,3,none⟩) rX5 hown (by decide),(hT.map gC gI).snoc (gC _ _ hc) (gI _ _ hr),B5.setCell (p:=⟨X,3,none⟩) hwX _⟩
theorem readlog_any {Bd:Nat} {y:Lay} {D:Dev} (db:Nat) (g:Geo.G) (hg:Geo.May g) (w:World)
  (hD:DevAt Bd w db y D) (hk:(D.kept.length:Int)=g.blocks) (hsz:sized D.now) (hlen:D.now.length=D.kept.length) :
  Calls Tryz.prog 59 #[ringV (some ⟨db,0,none⟩) g] w fun e w'=>ReadTold (Jr.readL g D.now) w e w':=by
 obtain ⟨i0,hi0,hz0,hz1,hz2⟩:=info_parts infoTxn
 obtain ⟨RES,hRES⟩:∃ RES,Jr.readL g D.now=RES:=⟨_,rfl⟩
 rw [hRES]
 have HRES:=hid hRES
 have HG:=hid hg
 have HD:=hid hD
 have HK:=hid hk
 have HSZ:=hid hsz
 have HLEN:=hid hlen
 have q:=hid (places_any (some ⟨db,0,none⟩) g hg)
 have hlog:g.logAt=1:=hg.ok.2.1
 have h1k:1 < D.kept.length:=by have h0:=hg.ok;unfold Geo.asked at h0;omega
 obtain ⟨T,hT⟩:∃ T,Jr.blk D.now 1=T:=⟨_,rfl⟩
 have hTs:T.size=128:=by
  have hlt3:1 < D.now.length:=(by omega);rw [<- hT];unfold Jr.blk;rw [show D.now.getD 1 ⟨#[]⟩=D.now[1] by simp [List.getD,hlt3]];exact hsz _ (List.getElem_mem hlt3)
 have QR:Hid (∀ wx,Below w.heap.size w wx->Calls Tryz.prog 27 #[.pointer (some ⟨db,0,none⟩),.int .i64 1] wx fun e w'=>e=.returned (.tuple #[.string T,.int .i64 0])/\wx=w'):=hid (fun wx hb=>by
  have:=read_any (HD.out.below hb) 1;obtain ⟨e1,e2⟩:=readS_blk h1k;rw [show ((1:Nat):Int)=1 from rfl] at e1 e2;rw [e1,e2,hT] at this;exact this)
 have hdc:=hid (fun w=>decode_any T w (by omega))
 unfold Jr.readL at HRES
 rw [hT] at HRES
 clear hRES hg hD hk hsz hlen hT
 have TN:Hid (∀ w',RES=none->Below w.heap.size w w'->ReadTold RES w (.returned (.tuple #[stV 0 0 0 (.slice none 0 0),.int .i64 80])) w'):=hid (fun w' h1 h2=>.inl ⟨h1,rfl,h2⟩)
 have TS:Hid (∀ (w':World) (L:Jr.Log) (v:Value),RES=some L->Below w.heap.size w w'->OwnT w.heap.size w' v L.txns->ReadTold RES w (.returned (.tuple #[stV L.at_ L.used ((L.seq+L.txns.length) % 18446744073709551616) v,.int .i64 0])) w'):=hid (fun w' L v h1 h2 h3=>.inr ⟨L,v,h1,rfl,h2,h3⟩)
 generalize ReadTold RES w=P at *
 have GG:∃ G,G=g:=⟨_,rfl⟩
 obtain ⟨G,hG⟩:=GG
 obtain ⟨PL,hPL⟩:∃ PL,Jr.plc g=PL:=⟨_,rfl⟩
 rw [hPL] at HRES q
 have hPB:0 < PL/\PL<=600:=by have:=Jr.plc_of HG.out;omega
 rw [<- hG] at HRES HG HK hPL
 have HPL:=hid hPL
 clear hPL
 unfold ringV at q ⊢
 obtain ⟨g1,g2,g3,g4,g5,g6,g7,g8,g9⟩:=g
 have HGE:=hid hG
 clear hG
 dsimp only at *
 subst hlog
 have R0:=(Row.new w 34 [.pointer (some ⟨db,0,none⟩),.int .i64 g1,.int .i64 g2,.int .i64 g3,.int .i64 1,.int .i64 g5,.int .i64 g6,.int .i64 g7,.int .i64 g8,.int .i64 g9] rfl).alloc (.cells #[.int .i64 0,.int .i64 0,.int .u64 0,.slice none 0 0] 125)
 have Z0:=Row.new (w.alloc (.cells #[.pointer (some ⟨db,0,none⟩),.int .i64 g1,.int .i64 g2,.int .i64 g3,.int .i64 1,.int .i64 g5,.int .i64 g6,.int .i64 g7,.int .i64 g8,.int .i64 g9] 34)) 125 [.int .i64 0,.int .i64 0,.int .u64 0,.slice none 0 0] rfl
 rw [World.size_alloc] at Z0
 have BA:=hid (((Below.refl w.heap.size w).alloc (Nat.le_refl _) (.cells #[.pointer (some ⟨db,0,none⟩),.int .i64 g1,.int .i64 g2,.int .i64 g3,.int .i64 1,.int .i64 g5,.int .i64 g6,.int .i64 g7,.int .i64 g8,.int .i64 g9] 34)).alloc (by simp) (.cells #[.int .i64 0,.int .i64 0,.int .u64 0,.slice none 0 0] 125))
 obtain ⟨k0,k1,k2,k3,k4,k5,k6,k7,k8,k9⟩:=R0.c10
 obtain ⟨s0,s1,s2,s3⟩:=Z0.c4
 have HR:=hid R0
 have HZ:=hid Z0
 clear R0 Z0
 go_enter Tryz.func59,Tryz.ntmps59
 go_wp2_with fail
 refine (QR.out _ BA.out).mono ?_
 rintro e w1 ⟨rfl,rfl⟩
 go_wp2_with fail
 refine (hdc.out _).mono ?_
 rintro e w2 ⟨v,rfl,hra,hro,hb2⟩
 clear hdc
 have R2:=HR.out.below hb2 HR.out.lt
 have Z2:=HZ.out.below hb2 HZ.out.lt
 have B2:=hid (BA.out.trans (hb2.mono BA.out.size))
 have hX2:w.heap.size+2<=w2.heap.size:=Nat.le_trans (by simp) hb2.size
 have hra':=hid hra
 obtain ⟨hv,mv,rfl,oH,oM⟩:=hro
 obtain ⟨a1,c1,rfl⟩:=OwnInts.slice oH
 obtain ⟨a2,c2,rfl⟩:=OwnFlags.slice oM
 clear oH oM hra hb2 k0 k1 k2 k3 k4 k5 k6 k7 k8 k9 s0 s1 s2 s3
 have HR2:=hid R2
 have HZ2:=hid Z2
 clear R2 Z2
 cases hdec:Rec.dec T.data.toList with
 | none =>
  rw [hdec] at HRES;have hnone:Hid (RES=none):=hid HRES.out.symm;rw [(Rec.dec_no hdec).1,(Rec.dec_no hdec).2];clear HRES hra';have Z3:=(HZ2.out.alloc (.cells #[.int .i64 Rec.none_.kind,.int .u64 (Rec.none_.seq:Int),.int .i64 Rec.none_.at_,.slice a1 Rec.none_.homes.length c1,.slice a2 Rec.none_.masked.length c2,.int .u32 (Rec.none_.sum:Int)] 61));have B3:=hid (B2.out.alloc (by omega) (.cells #[.int .i64 Rec.none_.kind,.int .u64 (Rec.none_.seq:Int),.int .i64 Rec.none_.at_,.slice a1 Rec.none_.homes.length c1,.slice a2 Rec.none_.masked.length c2,.int .u32 (Rec.none_.sum:Int)] 61));go_wp2_with fail;generalize w2.alloc _=w3 at *;go_quiet (fail);have Z4:=Z3.drewN nq;have B4:=hid (below_drewN B3.out nq);obtain ⟨a0,a1,a2,a3⟩:=Z4.c4;have fa0:=Z4.free 0 (by simp);have fa1:=Z4.free 1 (by simp);have fa2:=Z4.free 2 (by simp);have fa3:=Z4.free 3 (by simp);generalize w3.drewN nq=w4 at *;go_wp2_with fail;have rF:=((((Z4.set 0 (.int .i64 0)).set 1 (.int .i64 0)).set 2 (.int .u64 0)).set 3 (.slice none 0 0));obtain ⟨c0,c1,c2,c3⟩:=rF.c4;refine bodyPost_ret (v:=.tuple #[stV 0 0 0 (.slice none 0 0),.int .i64 80]) (by simp [results,stV,Tryz.results59,go_sem,c0,c1,c2,c3]) rfl (TN.out _ hnone.out ((((B4.out.setCell (p:=⟨w.heap.size+1,0,none⟩) (by dsimp only;omega) (.int .i64 0)).setCell (p:=⟨w.heap.size+1,1,none⟩) (by dsimp only;omega) (.int .i64 0)).setCell (p:=⟨w.heap.size+1,2,none⟩) (by dsimp only;omega) (.int .u64 0)).setCell (p:=⟨w.heap.size+1,3,none⟩) (by dsimp only;omega) (.slice none 0 0)))
 | some x =>
  rw [hdec] at HRES;obtain ⟨e1,e2⟩:=Rec.dec_yes hdec;rw [e1] at hra';rw [e1,e2];have hmay:=hid (Rec.may_cases (Rec.dec_some hdec).2.1);obtain ⟨hxq,hxs⟩:x.seq < 2 ^ 64/\x.sum < 2 ^ 32:=⟨hra'.out.seq,hra'.out.sum⟩;have hxa:=hra'.out.at_;dsimp only at HRES;clear e1 e2 hdec hra';have Z3:=(HZ2.out.alloc (.cells #[.int .i64 x.kind,.int .u64 (x.seq:Int),.int .i64 x.at_,.slice a1 x.homes.length c1,.slice a2 x.masked.length c2,.int .u32 (x.sum:Int)] 61));have R3:=(HR2.out.alloc (.cells #[.int .i64 x.kind,.int .u64 (x.seq:Int),.int .i64 x.at_,.slice a1 x.homes.length c1,.slice a2 x.masked.length c2,.int .u32 (x.sum:Int)] 61));have X3:=Row.new w2 61 [.int .i64 x.kind,.int .u64 (x.seq:Int),.int .i64 x.at_,.slice a1 x.homes.length c1,.slice a2 x.masked.length c2,.int .u32 (x.sum:Int)] rfl;have B3:=hid (B2.out.alloc (by omega) (.cells #[.int .i64 x.kind,.int .u64 (x.seq:Int),.int .i64 x.at_,.slice a1 x.homes.length c1,.slice a2 x.masked.length c2,.int .u32 (x.sum:Int)] 61));have hs3:w2.heap.size < (w2.alloc (.cells #[.int .i64 x.kind,.int .u64 (x.seq:Int),.int .i64 x.at_,.slice a1 x.homes.length c1,.slice a2 x.masked.length c2,.int .u32 (x.sum:Int)] 61)).heap.size:=by simp
  by_cases hk1:x.kind=1;case neg =>
   have hkf:(x.kind != 1)=true:=(by rw [bne_iff_ne];exact hk1);have hnone:Hid (RES=none):=hid (by rw [<- HRES.out,if_neg (fun h=>hk1 h.1)]);clear HRES R3;obtain ⟨x0,x1,x2,x3,x4,x5⟩:=X3.c6;go_wp2_with fail;generalize w2.alloc _=w3 at *;go_quiet (fail);have Z4:=Z3.drewN nq;have B4:=hid (below_drewN B3.out nq);obtain ⟨a0,a1,a2,a3⟩:=Z4.c4;have fa0:=Z4.free 0 (by simp);have fa1:=Z4.free 1 (by simp);have fa2:=Z4.free 2 (by simp);have fa3:=Z4.free 3 (by simp);generalize w3.drewN nq=w4 at *;go_wp2_with fail;have rF:=((((Z4.set 0 (.int .i64 0)).set 1 (.int .i64 0)).set 2 (.int .u64 0)).set 3 (.slice none 0 0));obtain ⟨c0,c1,c2,c3⟩:=rF.c4;refine bodyPost_ret (v:=.tuple #[stV 0 0 0 (.slice none 0 0),.int .i64 80]) (by simp [results,stV,Tryz.results59,go_sem,c0,c1,c2,c3]) rfl (TN.out _ hnone.out ((((B4.out.setCell (p:=⟨w.heap.size+1,0,none⟩) (by dsimp only;omega) (.int .i64 0)).setCell (p:=⟨w.heap.size+1,1,none⟩) (by dsimp only;omega) (.int .i64 0)).setCell (p:=⟨w.heap.size+1,2,none⟩) (by dsimp only;omega) (.int .u64 0)).setCell (p:=⟨w.heap.size+1,3,none⟩) (by dsimp only;omega) (.slice none 0 0)))
  case pos =>
   have hkf:(x.kind != 1)=false:=(by rw [bne_eq_false_iff_eq];exact hk1);have HK1:=hid hk1;clear hk1;obtain ⟨x0,x1,x2,x3,x4,x5⟩:=X3.c6;obtain ⟨k0,k1,k2,k3,k4,k5,k6,k7,k8,k9⟩:=R3.c10;have RH3:=hid R3;have ZH3:=hid Z3;have XH3:=hid X3;clear R3 Z3 X3;go_wp2_with fail;generalize w2.alloc _=w3 at *
   go_region_held3 (fun w'=>w'.cell? ⟨w.heap.size,0,none⟩=some (.pointer (some ⟨db,0,none⟩))/\w'.cell? ⟨w.heap.size,1,none⟩=some (.int .i64 g1)/\w'.cell? ⟨w.heap.size,2,none⟩=some (.int .i64 g2)/\w'.cell? ⟨w.heap.size,3,none⟩=some (.int .i64 g3)/\w'.cell? ⟨w.heap.size,4,none⟩=some (.int .i64 1)/\w'.cell? ⟨w.heap.size,5,none⟩=some (.int .i64 g5)/\w'.cell? ⟨w.heap.size,6,none⟩=some (.int .i64 g6)/\w'.cell? ⟨w.heap.size,7,none⟩=some (.int .i64 g7)/\w'.cell? ⟨w.heap.size,8,none⟩=some (.int .i64 g8)/\w'.cell? ⟨w.heap.size,9,none⟩=some (.int .i64 g9)/\w'.cell? ⟨w2.heap.size,0,none⟩=some (.int .i64 x.kind)/\w'.cell? ⟨w2.heap.size,2,none⟩=some (.int .i64 x.at_))
    (first | exact ⟨k0,k1,k2,k3,k4,k5,k6,k7,k8,k9,x0,x2⟩ | exact ⟨z0,z1,z2,z3,z4,z5,z6,z7,z8,z9,y0,y2⟩)
    (first | (go_at_call 66;refine (q.out _).mono ?_;rintro e w4 ⟨rfl,hb4'⟩;have hb4:Below w3.heap.size w3 w4:=⟨hb4'.os,hb4'.tape,hb4'.output,hb4'.size,hb4'.block⟩;have R4:=RH3.out.below hb4 RH3.out.lt;have X4:=XH3.out.below hb4 XH3.out.lt;obtain ⟨z0,z1,z2,z3,z4,z5,z6,z7,z8,z9⟩:=R4.c10;have y0:=X4.cellAt 0 rfl;have y2:=X4.cellAt 2 rfl) | fail "none")
   have Z4:=ZH3.out.below hb4 ZH3.out.lt;have B4:=hid (B3.out.trans (hb4.mono B3.out.size));by_cases hlt:x.at_ < (PL:Int);case neg =>
    have hnone:Hid (RES=none):=hid (by rw [<- HRES.out,if_neg (fun h=>hlt h.2)]);have hge:(PL:Int)<=x.at_:=(by omega);obtain ⟨a0,a1,a2,a3⟩:=Z4.c4;have fa0:=Z4.free 0 (by simp);have fa1:=Z4.free 1 (by simp);have fa2:=Z4.free 2 (by simp);have fa3:=Z4.free 3 (by simp);go_wp2_with fail;have rF:=((((Z4.set 0 (.int .i64 0)).set 1 (.int .i64 0)).set 2 (.int .u64 0)).set 3 (.slice none 0 0));obtain ⟨c0,c1,c2,c3⟩:=rF.c4;refine bodyPost_ret (v:=.tuple #[stV 0 0 0 (.slice none 0 0),.int .i64 80]) (by simp [results,stV,Tryz.results59,go_sem,c0,c1,c2,c3]) rfl (TN.out _ hnone.out ((((B4.out.setCell (p:=⟨w.heap.size+1,0,none⟩) (by dsimp only;omega) (.int .i64 0)).setCell (p:=⟨w.heap.size+1,1,none⟩) (by dsimp only;omega) (.int .i64 0)).setCell (p:=⟨w.heap.size+1,2,none⟩) (by dsimp only;omega) (.int .u64 0)).setCell (p:=⟨w.heap.size+1,3,none⟩) (by dsimp only;omega) (.slice none 0 0)))
   case pos =>
    have hge:¬ (PL:Int)<=x.at_:=(by omega);have y1:=X4.cellAt 1 rfl;have hnn:0<=x.at_:=by
     rcases hmay.out with ⟨-,k,-⟩ | ⟨k,-⟩ | ⟨k,-⟩ | ⟨k,-⟩
     ·exact k
     all_goals (have:=HK1.out;omega)
    obtain ⟨a0,ha0⟩:∃ a:Nat,x.at_=(a:Int):=⟨x.at_.toNat,by omega⟩;have hsome:=HRES.out.symm;rw [if_pos ⟨HK1.out,hlt⟩,show x.at_.toNat=a0 by omega] at hsome;obtain ⟨RT,hRT⟩:∃ R,Jr.readR (Geo.home G) x.seq (Jr.ring G D.now a0 PL)=R:=⟨_,rfl⟩;rw [hRT] at hsome;have HS:=hid hsome;have HRT:=hid hRT;clear HRES hsome hRT;have hX4:=hb4.size;have X5:=Row.new w4 125 [.int .i64 (a0:Int),.int .i64 0,.int .u64 (x.seq:Int),.slice none 0 0] rfl;have R5:=hid ((RH3.out.below hb4 RH3.out.lt).alloc (.cells #[.int .i64 (a0:Int),.int .i64 0,.int .u64 (x.seq:Int),.slice none 0 0] 125));have Z5:=hid (Z4.alloc (.cells #[.int .i64 (a0:Int),.int .i64 0,.int .u64 (x.seq:Int),.slice none 0 0] 125));have XX5:=hid X5;have B5:=hid (B4.out.alloc (by omega) (.cells #[.int .i64 (a0:Int),.int .i64 0,.int .u64 (x.seq:Int),.slice none 0 0] 125));clear x0 x1 x2 x3 x4 x5 k0 k1 k2 k3 k4 k5 k6 k7 k8 k9 X5 RH3 ZH3 XH3 B3 Z4 B4 X4 R4 B2 HR2 HZ2;go_wp2_with fail;clear y0 y1 y2 z0 z1 z2 z3 z4 z5 z6 z7 z8 z9;go_loopw [] (fun wr=>∃ (u:Nat) (ts:List Jr.Txn) (v:Value),u<=PL/\ts.length<=u/\Hid (ts ++ (Jr.readR (Geo.home G) ((x.seq+ts.length) % 18446744073709551616) (Jr.ring G D.now (a0+u) (PL - u))).1=RT.1/\(Jr.readR (Geo.home G) ((x.seq+ts.length) % 18446744073709551616) (Jr.ring G D.now (a0+u) (PL - u))).2=RT.2)/\Hid (Row wr w4.heap.size 125 [.int .i64 (a0:Int),.int .i64 (u:Int),.int .u64 (((x.seq+ts.length) % 18446744073709551616:Nat):Int),v])/\Hid (OwnT (w4.heap.size+1) wr v ts)/\Hid (Row wr w.heap.size 34 [.pointer (some ⟨db,0,none⟩),.int .i64 g1,.int .i64 g2,.int .i64 g3,.int .i64 1,.int .i64 g5,.int .i64 g6,.int .i64 g7,.int .i64 g8,.int .i64 g9])/\Hid (Row wr (w.heap.size+1) 125 [.int .i64 0,.int .i64 0,.int .u64 0,.slice none 0 0])/\Hid (Below w.heap.size w wr)) (fun wr=>PL - usedOf w4.heap.size wr);case atStart =>
     refine ⟨0,[],.slice none 0 0,Nat.zero_le _,Nat.le_refl _,hid ?_,?_,hid ⟨[],World.ownsRow_nil _ _ _ _,trivial⟩,R5,Z5,B5⟩
     ·rw [List.length_nil,Nat.add_zero,Nat.mod_eq_of_lt hxq,Nat.add_zero,Nat.sub_zero,HRT.out];exact ⟨rfl,rfl⟩
     rw [List.length_nil,Nat.add_zero,Nat.mod_eq_of_lt hxq];exact XX5
    case round =>
     obtain ⟨u,ts,v,hu,htu,hre,hX,hT,hR,hZ,hB⟩:=hrel;obtain ⟨av,cvp,rfl⟩:∃ ad cp,v=.slice ad ts.length cp:=by
      obtain ⟨_,h,_⟩:=hT.out;obtain ⟨ad,cp,h,_⟩:=own_opens h;exact ⟨ad,cp,h⟩
     obtain ⟨sq,hsq⟩:∃ sq,(x.seq+ts.length) % 18446744073709551616=sq:=⟨_,rfl⟩;have hsq2:sq < 2 ^ 64:=(by rw [<- hsq];exact Nat.mod_lt _ (by decide));rw [hsq] at hre hX;have HSQ:=hid hsq;clear hsq;have hM0:Hid (usedOf w4.heap.size wr=u):=hid (by unfold usedOf;rw [hX.out.cellAt 1 rfl];rfl);have hw1:IntKind.i64.wrap ((a0:Int)+(u:Int))=((a0+u:Nat):Int):=(by rw [IntWalk.i64_in _ (by omega)];omega);have hw2:IntKind.i64.wrap ((PL:Int) - (u:Int))=((PL - u:Nat):Int):=(by rw [IntWalk.i64_in _ (by omega)];omega);obtain ⟨k0,k1,k2,k3,k4,k5,k6,k7,k8,k9⟩:=hR.out.c10;have x0:=hX.out.cellAt 0 rfl;have x1:=hX.out.cellAt 1 rfl;have x2:=hX.out.cellAt 2 rfl;go_wp2_with fail
     go_region_held3 (fun w'=>w'.cell? ⟨w.heap.size,0,none⟩=some (.pointer (some ⟨db,0,none⟩))/\w'.cell? ⟨w.heap.size,1,none⟩=some (.int .i64 g1)/\w'.cell? ⟨w.heap.size,2,none⟩=some (.int .i64 g2)/\w'.cell? ⟨w.heap.size,3,none⟩=some (.int .i64 g3)/\w'.cell? ⟨w.heap.size,4,none⟩=some (.int .i64 1)/\w'.cell? ⟨w.heap.size,5,none⟩=some (.int .i64 g5)/\w'.cell? ⟨w.heap.size,6,none⟩=some (.int .i64 g6)/\w'.cell? ⟨w.heap.size,7,none⟩=some (.int .i64 g7)/\w'.cell? ⟨w.heap.size,8,none⟩=some (.int .i64 g8)/\w'.cell? ⟨w.heap.size,9,none⟩=some (.int .i64 g9)/\w'.cell? ⟨w4.heap.size,0,none⟩=some (.int .i64 (a0:Int))/\w'.cell? ⟨w4.heap.size,1,none⟩=some (.int .i64 (u:Int))/\w'.cell? ⟨w4.heap.size,2,none⟩=some (.int .u64 (sq:Int)))
      (first | exact ⟨k0,k1,k2,k3,k4,k5,k6,k7,k8,k9,x0,x1,x2⟩ | exact ⟨z0,z1,z2,z3,z4,z5,z6,z7,z8,z9,y0,y1,y2⟩ | exact ⟨t0 _,t1 _,t2 _,t3 _,t4 _,t5 _,t6 _,t7 _,t8 _,t9 _,v0 _,v1 _,v2 _⟩)
      (first | (go_at_call 66;refine (q.out _).mono ?_;rintro e w6 ⟨rfl,hb6'⟩;have hb6:Below wr.heap.size wr w6:=⟨hb6'.os,hb6'.tape,hb6'.output,hb6'.size,hb6'.block⟩;have R6:=hR.out.below hb6 hR.out.lt;have X6:=hX.out.below hb6 hX.out.lt;obtain ⟨z0,z1,z2,z3,z4,z5,z6,z7,z8,z9⟩:=R6.c10;have y0:=X6.cellAt 0 rfl;have y1:=X6.cellAt 1 rfl;have y2:=X6.cellAt 2 rfl;have v0:=fun o=>(X6.alloc o).cellAt 0 rfl;have v1:=fun o=>(X6.alloc o).cellAt 1 rfl;have v2:=fun o=>(X6.alloc o).cellAt 2 rfl;have t0:=fun o=>(R6.alloc o).cellAt 0 rfl;have t1:=fun o=>(R6.alloc o).cellAt 1 rfl;have t2:=fun o=>(R6.alloc o).cellAt 2 rfl;have t3:=fun o=>(R6.alloc o).cellAt 3 rfl;have t4:=fun o=>(R6.alloc o).cellAt 4 rfl;have t5:=fun o=>(R6.alloc o).cellAt 5 rfl;have t6:=fun o=>(R6.alloc o).cellAt 6 rfl;have t7:=fun o=>(R6.alloc o).cellAt 7 rfl;have t8:=fun o=>(R6.alloc o).cellAt 8 rfl;have t9:=fun o=>(R6.alloc o).cellAt 9 rfl) | fail "none")
     clear k0 k1 k2 k3 k4 k5 k6 k7 k8 k9 x0 x1 x2 hb6';have B6:=hB.out.trans (hb6.mono hB.out.size);have hdevb:=HD.out.bounds;have hs0:w.heap.size<=w6.heap.size:=B6.size;have hs1:wr.heap.size<=w6.heap.size:=hb6.size;have hs2:w4.heap.size < w6.heap.size:=X6.lt;have hwl:Hid (Calls Tryz.prog 98 #[.pointer (some ⟨w6.heap.size,0,none⟩)] (w6.alloc (.cells #[.pointer (some ⟨db,0,none⟩),.int .i64 g1,.int .i64 g2,.int .i64 g3,.int .i64 1,.int .i64 g5,.int .i64 g6,.int .i64 g7,.int .i64 g8,.int .i64 g9,.int .i64 ((a0+u:Nat):Int),.int .i64 ((PL - u:Nat):Int),.int .u64 (sq:Int),.int .u32 0,.slice none 0 0,.slice none 0 0] 171)) fun e w'=>WholeTold db w6.heap.size (a0+u) (PL - u) sq G (Jr.parseA (Geo.home G) sq (Jr.ring G D.now (a0+u) (PL - u)) [] Jr.none_) (w6.alloc (.cells #[.pointer (some ⟨db,0,none⟩),.int .i64 g1,.int .i64 g2,.int .i64 g3,.int .i64 1,.int .i64 g5,.int .i64 g6,.int .i64 g7,.int .i64 g8,.int .i64 g9,.int .i64 ((a0+u:Nat):Int),.int .i64 ((PL - u:Nat):Int),.int .u64 (sq:Int),.int .u32 0,.slice none 0 0,.slice none 0 0] 171)) e w'):=hid (by
      refine whole_any db w6.heap.size (a0+u) (PL - u) sq G HG.out (.slice none 0 0) (.slice none 0 0) _ (HD.out.below (B6.alloc hs0 _)) (fun k hk=>?_) HK.out HSZ.out HLEN.out (by omega) (by omega) hsq2 ?_ (World.ownsRow_nil _ _ _ _) (World.ownsRow_nil _ _ _ _)
      ·simp only [devB,List.mem_cons,List.not_mem_nil,or_false] at hk;omega
      rw [HGE.out];exact Row.new w6 171 [.pointer (some ⟨db,0,none⟩),.int .i64 g1,.int .i64 g2,.int .i64 g3,.int .i64 1,.int .i64 g5,.int .i64 g6,.int .i64 g7,.int .i64 g8,.int .i64 g9,.int .i64 ((a0+u:Nat):Int),.int .i64 ((PL - u:Nat):Int),.int .u64 (sq:Int),.int .u32 0,.slice none 0 0,.slice none 0 0] rfl)
     have T6:=hid (show OwnT (w4.heap.size+1) w6 (.slice av ts.length cvp) ts from hT.out.below hb6);have R7:=hid (R6.alloc (.cells #[.pointer (some ⟨db,0,none⟩),.int .i64 g1,.int .i64 g2,.int .i64 g3,.int .i64 1,.int .i64 g5,.int .i64 g6,.int .i64 g7,.int .i64 g8,.int .i64 g9,.int .i64 ((a0+u:Nat):Int),.int .i64 ((PL - u:Nat):Int),.int .u64 (sq:Int),.int .u32 0,.slice none 0 0,.slice none 0 0] 171));have X7:=hid (X6.alloc (.cells #[.pointer (some ⟨db,0,none⟩),.int .i64 g1,.int .i64 g2,.int .i64 g3,.int .i64 1,.int .i64 g5,.int .i64 g6,.int .i64 g7,.int .i64 g8,.int .i64 g9,.int .i64 ((a0+u:Nat):Int),.int .i64 ((PL - u:Nat):Int),.int .u64 (sq:Int),.int .u32 0,.slice none 0 0,.slice none 0 0] 171));have Z7:=hid ((hZ.out.below hb6 hZ.out.lt).alloc (.cells #[.pointer (some ⟨db,0,none⟩),.int .i64 g1,.int .i64 g2,.int .i64 g3,.int .i64 1,.int .i64 g5,.int .i64 g6,.int .i64 g7,.int .i64 g8,.int .i64 g9,.int .i64 ((a0+u:Nat):Int),.int .i64 ((PL - u:Nat):Int),.int .u64 (sq:Int),.int .u32 0,.slice none 0 0,.slice none 0 0] 171));have B7:=hid (B6.alloc hs0 (.cells #[.pointer (some ⟨db,0,none⟩),.int .i64 g1,.int .i64 g2,.int .i64 g3,.int .i64 1,.int .i64 g5,.int .i64 g6,.int .i64 g7,.int .i64 g8,.int .i64 g9,.int .i64 ((a0+u:Nat):Int),.int .i64 ((PL - u:Nat):Int),.int .u64 (sq:Int),.int .u32 0,.slice none 0 0,.slice none 0 0] 171));have hs7:(w6.alloc (.cells #[.pointer (some ⟨db,0,none⟩),.int .i64 g1,.int .i64 g2,.int .i64 g3,.int .i64 1,.int .i64 g5,.int .i64 g6,.int .i64 g7,.int .i64 g8,.int .i64 g9,.int .i64 ((a0+u:Nat):Int),.int .i64 ((PL - u:Nat):Int),.int .u64 (sq:Int),.int .u32 0,.slice none 0 0,.slice none 0 0] 171)).heap.size=w6.heap.size+1:=World.size_alloc _ _;clear R6 X6 B6 hX hT hR hZ hB z0 z1 z2 z3 z4 z5 z6 z7 z8 z9 y0 y1 y2 t0 t1 t2 t3 t4 t5 t6 t7 t8 t9 v0 v1 v2;go_wp2_with fail;refine hwl.out.mono ?_;rintro e w8 hw8;obtain ⟨RES2,hRES2⟩:∃ R,Jr.parseA (Geo.home G) sq (Jr.ring G D.now (a0+u) (PL - u)) [] Jr.none_=R:=⟨_,rfl⟩;rw [hRES2] at hw8;rcases hw8 with ⟨rfl,rfl,hb8⟩ | ⟨t,rest,cv2,rv2,sv2,rfl,rfl,hb8,hrl,hR8,hC8,hI8⟩
     ·have hn:=Jr.readR_none hRES2;rw [hn,List.append_nil] at hre;obtain ⟨h1,h2⟩:=hre.out;have hlen2:RT.2.length=PL - u:=(by rw [<- h2];exact Jr.ring_length _ _ _ _);have hP:=hid (fun w' (hb:Below w.heap.size w w') (ho:OwnT w.heap.size w' (.slice av ts.length cvp) ts)=>by
       have:=TS.out w' ⟨a0,x.seq,RT.1,PL - RT.2.length⟩ (.slice av ts.length cvp) HS.out hb (by rw [<- h1];exact ho);dsimp only at this;rw [<- h1,HSQ.out,hlen2,show PL - (PL - u)=u by omega] at this;exact this)
      have X8:=X7.out.below hb8 (by omega);have Z8:=Z7.out.below hb8 (by omega);have T8:=hid ((show OwnT (w4.heap.size+1) w8 (.slice av ts.length cvp) ts from T6.out.below (((Below.refl w6.heap.size w6).alloc (Nat.le_refl _) (.cells #[.pointer (some ⟨db,0,none⟩),.int .i64 g1,.int .i64 g2,.int .i64 g3,.int .i64 1,.int .i64 g5,.int .i64 g6,.int .i64 g7,.int .i64 g8,.int .i64 g9,.int .i64 ((a0+u:Nat):Int),.int .i64 ((PL - u:Nat):Int),.int .u64 (sq:Int),.int .u32 0,.slice none 0 0,.slice none 0 0] 171)).trans hb8)).mono (show w.heap.size<=w4.heap.size+1 by omega));have B8:=hid (B7.out.trans (hb8.mono hs0));clear hwl h1 h2 hlen2 hn hre hRES2 X7 Z7 B7 R7 T6 hb8;obtain ⟨x0,x1,x2,x3⟩:=X8.c4;obtain ⟨aa0,aa1,aa2,aa3⟩:=Z8.c4;have fa0:=Z8.free 0 (by simp);have fa1:=Z8.free 1 (by simp);have fa2:=Z8.free 2 (by simp);have fa3:=Z8.free 3 (by simp);go_wp2_with fail;have r1:=Z8.set 0 (.int .i64 (a0:Int));have r2:=r1.set 1 (.int .i64 (u:Int));have r3:=r2.set 2 (.int .u64 (sq:Int));have rF:=r3.set 3 (.slice av ts.length cvp);have TF:=(((T8.out.set (a:=⟨w.heap.size+1,0,none⟩) (u:=.int .i64 (a0:Int)) Z8 (by decide) (by decide) (by decide)).set (a:=⟨w.heap.size+1,1,none⟩) (u:=.int .i64 (u:Int)) r1 (by decide) (by decide) (by decide)).set (a:=⟨w.heap.size+1,2,none⟩) (u:=.int .u64 (sq:Int)) r2 (by decide) (by decide) (by decide)).set (a:=⟨w.heap.size+1,3,none⟩) (u:=.slice av ts.length cvp) r3 (by decide) (by decide) (by decide);obtain ⟨c0,c1,c2,c3⟩:=rF.c4;refine bodyPost_ret (v:=.tuple #[stV a0 u sq (.slice av ts.length cvp),.int .i64 0]) ?_ rfl ?_
      ·simp [results,stV,Tryz.results59,go_sem,c0,c1,c2,c3]
      exact hP.out _ ((((B8.out.setCell (p:=⟨w.heap.size+1,0,none⟩) (by dsimp only;omega) (.int .i64 (a0:Int))).setCell (p:=⟨w.heap.size+1,1,none⟩) (by dsimp only;omega) (.int .i64 (u:Int))).setCell (p:=⟨w.heap.size+1,2,none⟩) (by dsimp only;omega) (.int .u64 (sq:Int))).setCell (p:=⟨w.heap.size+1,3,none⟩) (by dsimp only;omega) (.slice av ts.length cvp)) TF
     obtain ⟨k,hk1,hk2,hk3⟩:=Jr.parseA_rest hRES2;have hrs:=Jr.readR_some hRES2;rw [Jr.ring_length] at hk2;rw [Jr.ring_drop] at hk3;subst hk3;rw [Jr.ring_length] at hrl hR8;rw [show a0+u+(PL - u - (PL - u - k))=a0+(u+k) by omega] at hR8;have HN:Hid ((ts ++ [t]) ++ (Jr.readR (Geo.home G) ((x.seq+(ts ++ [t]).length) % 18446744073709551616) (Jr.ring G D.now (a0+(u+k)) (PL - (u+k)))).1=RT.1/\(Jr.readR (Geo.home G) ((x.seq+(ts ++ [t]).length) % 18446744073709551616) (Jr.ring G D.now (a0+(u+k)) (PL - (u+k)))).2=RT.2):=hid (by
      have h:=hre.out;rw [hrs] at h;have e:(x.seq+(ts ++ [t]).length) % 18446744073709551616=Jr.nx sq:=by
       rw [List.length_append,List.length_singleton];have:=HSQ.out;unfold Jr.nx;omega
      rw [e,show a0+(u+k)=a0+u+k by omega,show PL - (u+k)=PL - u - k by omega,List.append_assoc];exact h)
     have HE:Hid ((x.seq+(ts ++ [t]).length) % 18446744073709551616=(sq+1) % 18446744073709551616):=hid (by
       rw [List.length_append,List.length_singleton];have:=HSQ.out;omega)
     obtain ⟨pq,oT,hTs⟩:=T6.out.below (((Below.refl w6.heap.size w6).alloc (Nat.le_refl _) (.cells #[.pointer (some ⟨db,0,none⟩),.int .i64 g1,.int .i64 g2,.int .i64 g3,.int .i64 1,.int .i64 g5,.int .i64 g6,.int .i64 g7,.int .i64 g8,.int .i64 g9,.int .i64 ((a0+u:Nat):Int),.int .i64 ((PL - u:Nat):Int),.int .u64 (sq:Int),.int .u32 0,.slice none 0 0,.slice none 0 0] 171)).trans hb8);have X8:=X7.out.below hb8 (by omega);have Z8:=hid (Z7.out.below hb8 (by omega));have R8:=hid (R7.out.below hb8 (by omega));have B8:=hid (B7.out.trans (hb8.mono hs0));have hX0:w.heap.size+1 < w4.heap.size:=(by omega);have htl:ts.length<=1000000:=(by omega);have x0:=X8.cellAt 0 rfl;have x1:=X8.cellAt 1 rfl;have f1:=X8.free 1 (by simp);have r10:w8.cell? ⟨w6.heap.size,10,none⟩=some (.int .i64 ((a0+(u+k):Nat):Int)):=hR8.cellAt 10 rfl;have hw3:IntKind.i64.wrap (((a0+(u+k):Nat):Int) - (a0:Int))=((u+k:Nat):Int):=(by rw [IntWalk.i64_in _ (by omega)];omega);have HR8:=hid hR8;have HC8:=hid (own_mono hC8 (show w4.heap.size+1<=w6.heap.size by omega));have HI8:=hid (own_mono hI8 (show w4.heap.size+1<=w6.heap.size by omega));have HO8:=hid oT;have HT8:=hid hTs;have HX8:=hid X8;clear hwl hrs hre hRES2 X7 Z7 B7 R7 T6 hb8 oT hTs X8 hR8 hC8 hI8 HSQ hrl;go_wp2_with fail;go_region;have e3:((a0:Int)+((u:Int)+(k:Int)) - (a0:Int))=((u+k:Nat):Int):=(by omega);rw [e3];have X9:=(HX8.out.set 1 (.int .i64 ((u+k:Nat):Int))).drew;have R9:=(R8.out.other (a:=⟨w4.heap.size,1,none⟩) (by dsimp only;omega) (.int .i64 ((u+k:Nat):Int))).drew;have Z9:=(Z8.out.other (a:=⟨w4.heap.size,1,none⟩) (by dsimp only;omega) (.int .i64 ((u+k:Nat):Int))).drew;have HR9:=(HR8.out.other (a:=⟨w4.heap.size,1,none⟩) (by dsimp only;omega) (.int .i64 ((u+k:Nat):Int))).drew;have C9:=own_setR (a:=⟨w4.heap.size,1,none⟩) (u:=.int .i64 ((u+k:Nat):Int)) HX8.out HC8.out (by decide);have I9:=own_setR (a:=⟨w4.heap.size,1,none⟩) (u:=.int .i64 ((u+k:Nat):Int)) HX8.out HI8.out (by decide);have O9:=own_setR (a:=⟨w4.heap.size,1,none⟩) (u:=.int .i64 ((u+k:Nat):Int)) HX8.out HO8.out (by decide);have T9:=HT8.out.map (fun _ _ h=>own_setR (a:=⟨w4.heap.size,1,none⟩) (u:=.int .i64 ((u+k:Nat):Int)) HX8.out h (by decide)) (fun _ _ h=>own_setR (a:=⟨w4.heap.size,1,none⟩) (u:=.int .i64 ((u+k:Nat):Int)) HX8.out h (by decide));have B9:=(B8.out.setCell (p:=⟨w4.heap.size,1,none⟩) (by dsimp only;omega) (.int .i64 ((u+k:Nat):Int))).drew;have C9:=hid (show World.ownsRow (w8.setCell ⟨w4.heap.size,1,none⟩ (.int .i64 ((u+k:Nat):Int))).drew (w4.heap.size+1) 68 2 cv2 t.ch.length (chgC t.ch) from C9);have I9:=hid (show World.ownsRow (w8.setCell ⟨w4.heap.size,1,none⟩ (.int .i64 ((u+k:Nat):Int))).drew (w4.heap.size+1) 3 1 rv2 t.rv.length (icells t.rv) from I9);have O9:=hid (show World.ownsRow (w8.setCell ⟨w4.heap.size,1,none⟩ (.int .i64 ((u+k:Nat):Int))).drew (w4.heap.size+1) 25 2 (.slice av ts.length cvp) ts.length (txC pq) from O9);have T9:=hid (ownTs_drew T9);have X9:=hid X9;have R9:=hid R9;have Z9:=hid Z9;have HR9:=hid HR9;have B9:=hid B9;generalize (w8.setCell ⟨w4.heap.size,1,none⟩ (.int .i64 ((u+k:Nat):Int))).drew=w9 at *;clear HX8 R8 Z8 HR8 HC8 HI8 HO8 HT8 B8 x0 x1 f1 r10 e3;have x2:=X9.out.cellAt 2 rfl;have f2:=X9.out.free 2 (by simp);go_upto_region 13 with fail;have e4:IntKind.u64.wrap ((sq:Int)+1)=(((sq+1) % 18446744073709551616:Nat):Int):=(by show ((sq:Int)+1) % 18446744073709551616=_;omega);rw [e4];have X10:=hid (X9.out.set 2 (.int .u64 (((sq+1) % 18446744073709551616:Nat):Int))).drew;have R10:=hid (R9.out.other (a:=⟨w4.heap.size,2,none⟩) (by dsimp only;omega) (.int .u64 (((sq+1) % 18446744073709551616:Nat):Int))).drew;have Z10:=hid (Z9.out.other (a:=⟨w4.heap.size,2,none⟩) (by dsimp only;omega) (.int .u64 (((sq+1) % 18446744073709551616:Nat):Int))).drew;have HR10:=hid (HR9.out.other (a:=⟨w4.heap.size,2,none⟩) (by dsimp only;omega) (.int .u64 (((sq+1) % 18446744073709551616:Nat):Int))).drew;have C10:=hid (show World.ownsRow (w9.setCell ⟨w4.heap.size,2,none⟩ (.int .u64 (((sq+1) % 18446744073709551616:Nat):Int))).drew (w4.heap.size+1) 68 2 cv2 t.ch.length (chgC t.ch) from own_setR (a:=⟨w4.heap.size,2,none⟩) (u:=.int .u64 (((sq+1) % 18446744073709551616:Nat):Int)) X9.out C9.out (by decide));have I10:=hid (show World.ownsRow (w9.setCell ⟨w4.heap.size,2,none⟩ (.int .u64 (((sq+1) % 18446744073709551616:Nat):Int))).drew (w4.heap.size+1) 3 1 rv2 t.rv.length (icells t.rv) from own_setR (a:=⟨w4.heap.size,2,none⟩) (u:=.int .u64 (((sq+1) % 18446744073709551616:Nat):Int)) X9.out I9.out (by decide));have O10:=hid (show World.ownsRow (w9.setCell ⟨w4.heap.size,2,none⟩ (.int .u64 (((sq+1) % 18446744073709551616:Nat):Int))).drew (w4.heap.size+1) 25 2 (.slice av ts.length cvp) ts.length (txC pq) from own_setR (a:=⟨w4.heap.size,2,none⟩) (u:=.int .u64 (((sq+1) % 18446744073709551616:Nat):Int)) X9.out O9.out (by decide));have T10:=hid (T9.out.map (w':=(w9.setCell ⟨w4.heap.size,2,none⟩ (.int .u64 (((sq+1) % 18446744073709551616:Nat):Int))).drew) (fun _ _ h=>own_setR (a:=⟨w4.heap.size,2,none⟩) (u:=.int .u64 (((sq+1) % 18446744073709551616:Nat):Int)) X9.out h (by decide)) (fun _ _ h=>own_setR (a:=⟨w4.heap.size,2,none⟩) (u:=.int .u64 (((sq+1) % 18446744073709551616:Nat):Int)) X9.out h (by decide)));have B10:=hid (B9.out.setCell (p:=⟨w4.heap.size,2,none⟩) (by dsimp only;omega) (.int .u64 (((sq+1) % 18446744073709551616:Nat):Int))).drew;have X10n:=hid (X9.out.set 2 (.int .u64 (((sq+1) % 18446744073709551616:Nat):Int)));have x3:(w9.setCell ⟨w4.heap.size,2,none⟩ (.int .u64 (((sq+1) % 18446744073709551616:Nat):Int))).cell? ⟨w4.heap.size,3,none⟩=some (.slice av ts.length cvp):=X10.out.cellAt 3 rfl;have r14:(w9.setCell ⟨w4.heap.size,2,none⟩ (.int .u64 (((sq+1) % 18446744073709551616:Nat):Int))).cell? ⟨w6.heap.size,14,none⟩=some cv2:=HR10.out.cellAt 14 rfl;have r15:(w9.setCell ⟨w4.heap.size,2,none⟩ (.int .u64 (((sq+1) % 18446744073709551616:Nat):Int))).cell? ⟨w6.heap.size,15,none⟩=some rv2:=HR10.out.cellAt 15 rfl;obtain ⟨ac,cc,rfl⟩:=OwnC.slice (show OwnC _ _ cv2 t.ch from C10.out);obtain ⟨ar,cr,rfl⟩:=OwnInts.slice (show OwnInts _ _ rv2 t.rv from I10.out);have x3b:=(X10n.out.alloc (.cells #[.slice ac t.ch.length cc,.slice ar t.rv.length cr] 25)).cellAt 3 rfl;have HG10:=hid (own_new1 O10.out (.cells #[.slice ac t.ch.length cc,.slice ar t.rv.length cr] 25));have HNN:=hid (show ∀ j u,[Value.slice ac t.ch.length cc,.slice ar t.rv.length cr][j]?=some u->((w9.setCell ⟨w4.heap.size,2,none⟩ (.int .u64 (((sq+1) % 18446744073709551616:Nat):Int))).drew.alloc (.cells #[.slice ac t.ch.length cc,.slice ar t.rv.length cr] 25)).cell? ((⟨(w9.setCell ⟨w4.heap.size,2,none⟩ (.int .u64 (((sq+1) % 18446744073709551616:Nat):Int))).drew.heap.size,0,none⟩:Addr).add j)=some u from World.news_of_block (heap_alloc_new _ _));have hone:∀ u ∈ [Value.slice ac t.ch.length cc,.slice ar t.rv.length cr],u.oneCell'=true:=(by intro u hu;simp at hu;rcases hu with rfl | rfl <;> rfl);have hbase:w4.heap.size+1<=((w9.setCell ⟨w4.heap.size,2,none⟩ (.int .u64 (((sq+1) % 18446744073709551616:Nat):Int))).drew.alloc (.cells #[.slice ac t.ch.length cc,.slice ar t.rv.length cr] 25)).heap.size:=(by have:=X10.out.lt;simp only [World.size_alloc];omega);clear X9 R9 Z9 HR9 C9 I9 O9 T9 B9 x2 f2 e4;generalize w9.setCell ⟨w4.heap.size,2,none⟩ (.int .u64 (((sq+1) % 18446744073709551616:Nat):Int))=w10 at *;go_region_law (refine step_append_lies _ rfl (.tmp 79) (.tmp 84) 43 rfl (w4.heap.size+1) 25 i0 (.agg #[.slice none 0 0,.slice none 0 0]) 2 48 Tryz.underlying43 hi0 hz0 hz1 hz2 rfl (by decide) (.slice av ts.length cvp) ts.length (txC pq) (by simp [Act.eval,Act.put];done) HG10.out ⟨w10.drew.heap.size,0,none⟩ 1 1 [.slice ac t.ch.length cc,.slice ar t.rv.length cr] (by simp [Act.eval,Act.put];done) rfl HNN.out hone (by decide) (by unfold maxLen;omega) (by omega) hbase _ rfl ?_;intro gq c5 w5 hown hgrow hat hlt5;have rX5:=row_grownR (X10.out.alloc _) HG10.out hgrow (by decide);have c3:=rX5.cellAt 3 rfl;have f3:=rX5.free 3 (by simp))
     all_goals
      have hbr:w.heap.size<=w4.heap.size:=(by omega);have P5:=hid (read_push (t:=t) hbr (Nat.lt_succ_self _) (by omega) (by omega) X10.out R10.out Z10.out HG10.out T10.out C10.out I10.out B10.out hgrow hown);clear hown hgrow hat hlt5 rX5 X10 X10n R10 Z10 HR10 C10 I10 O10 T10 B10 HG10 HNN hone hbase;go_wp2_with fail;go_roundw
     all_goals first | exact ⟨u+k,ts ++ [t],_,by omega,by simp only [List.length_append,List.length_singleton];omega,HN,hid (by rw [HE.out];exact P5.out.1),hid ⟨_,by rw [List.length_append,txC_append];exact P5.out.2.2.2.1,P5.out.2.2.2.2.1⟩,hid P5.out.2.1,hid P5.out.2.2.1,hid P5.out.2.2.2.2.2⟩ | (rw [show usedOf w4.heap.size _=u+k by unfold usedOf;rw [P5.out.1.cellAt 1 rfl];rfl,hM0.out];omega)
theorem Jr.cdiv_parts (n k:Nat) (hk:0 < k):n / k+(n % k+k - 1) / k=Jr.cdiv n k:=by
 unfold Jr.cdiv;have h:=Nat.div_add_mod n k;have e:n+k - 1=(n % k+k - 1)+k * (n / k):=by
  have:=Nat.mod_lt n hk;omega
 rw [e,Nat.add_mul_div_left _ _ hk,Nat.add_comm]
theorem many_any (n k:Nat) (hk:k=24 ∨ k=28) (hn:n<=1000000000) (w:World) :
  Calls Tryz.prog 56 #[.int .i64 (n:Int),.int .i64 (k:Int)] w fun e w'=>e=.returned (.int .i64 ((Jr.cdiv n k:Nat):Int))/\∃ m,w'=w.drewN m:=by
 rw [<- Jr.cdiv_parts n k (by omega)]
 have hk0:¬ ((k:Nat):Int)=0:=by omega
 have hk1:¬ k=0:=by omega
 have hmlt:=Nat.mod_lt n (show 0 < k by omega)
 have e1:(n:Int).tdiv (k:Int)=((n / k:Nat):Int):=by rw [Int.tdiv_eq_ediv_of_nonneg (by omega)];simp
 have e1':(n:Int) / (k:Int)=((n / k:Nat):Int):=by simp
 have e2:(n:Int).tmod (k:Int)=((n % k:Nat):Int):=by rw [Int.tmod_eq_emod_of_nonneg (by omega)];simp
 have e2':(n:Int) % (k:Int)=((n % k:Nat):Int):=by simp
 have hd:n / k<=n:=Nat.div_le_self n k
 have hd2:(n % k+k - 1) / k<=n % k+k - 1:=Nat.div_le_self _ _
 have e3:((n % k:Nat):Int)+(k:Int) - 1=((n % k+k - 1:Nat):Int):=by omega
 have e4:((n % k+k - 1:Nat):Int).tdiv (k:Int)=(((n % k+k - 1) / k:Nat):Int):=by rw [Int.tdiv_eq_ediv_of_nonneg (by omega)];simp
 generalize n / k=A at *
 generalize n % k=M at *
 generalize hQ:(M+k - 1) / k=Q at *
 obtain ⟨S,hS⟩:∃ S:Int,(M:Int)+(k:Int) - 1=S:=⟨_,rfl⟩
 have u1:IntKind.i64.wrap ((M:Int)+k)=(M:Int)+k:=IntWalk.i64_in _ (by omega)
 have u2:IntKind.i64.wrap ((M:Int)+k - 1)=S:=by rw [hS];exact IntWalk.i64_in _ (by omega)
 have u3:S.tdiv (k:Int)=(Q:Int):=by rw [<- hS,e3,e4]
 have u3':S / (k:Int)=(Q:Int):=by rw [<- u3,Int.tdiv_eq_ediv_of_nonneg (by omega)]
 have u4:IntKind.i64.wrap ((A:Int)+Q)=(A:Int)+Q:=IntWalk.i64_in _ (by omega)
 have u5:IntKind.i64.wrap (A:Int)=A:=IntWalk.i64_in _ (by omega)
 have u6:IntKind.i64.wrap (Q:Int)=Q:=IntWalk.i64_in _ (by omega)
 have u7:IntKind.i64.wrap (M:Int)=M:=IntWalk.i64_in _ (by omega)
 clear e3 e4 hQ hS hd hd2 hmlt hk hn
 go_enter Tryz.func56,Tryz.ntmps56
 go_wp2_with fail
 go_quiet (fail)
 go_wp2_with fail
 go_ret
 exact ⟨by simp,_,rfl⟩
theorem Jr.cdiv_le (n k:Nat) (hk:0 < k):Jr.cdiv n k<=n:=by
 unfold Jr.cdiv;rcases Nat.eq_zero_or_pos n with h | h
 ·subst h;rw [Nat.zero_add,Nat.div_eq_of_lt (by omega)];exact Nat.le_refl _
 ·have h2:n+k - 1<=k * n:=by
   have:n - 1<=k * (n - 1):=Nat.le_mul_of_pos_left _ hk;have e:k * n=k * (n - 1)+k:=by
    conv=>lhs;rw [show n=(n - 1)+1 by omega,Nat.mul_add,Nat.mul_one]
   omega
  exact Nat.div_le_of_le_mul h2
def Jr.cdZ (n:Nat) (z:Int):Int:=((Jr.cdiv n z.toNat:Nat):Int)
theorem size_any (a1 a2:Option Addr) (nc nr c1 c2:Nat) (h1:nc<=1000000) (h2:nr<=1000000) (w:World) :
  Calls Tryz.prog 12 #[.agg #[.slice a1 nc c1,.slice a2 nr c2]] w fun e w'=>e=.returned (.int .i64 ((Jr.cdiv nr 28+Jr.cdiv nc 24+nc+1:Nat):Int))/\Below w.heap.size w w':=by
 have QK:Hid (∀ (n:Nat) (z:Int),((z=28 ∨ z=24)/\n<=1000000)->∀ w,Calls Tryz.prog 56 #[.int .i64 (n:Int),.int .i64 z] w fun e w'=>e=.returned (.int .i64 (Jr.cdZ n z))/\∃ m,w'=w.drewN m):=hid (fun n z hz w=>by
  rcases hz with ⟨rfl | rfl,hn⟩
  ·exact many_any n 28 (.inr rfl) (by omega) w
  exact many_any n 24 (.inl rfl) (by omega) w)
 have z1:Jr.cdZ nr 28=((Jr.cdiv nr 28:Nat):Int):=rfl
 have z2:Jr.cdZ nc 24=((Jr.cdiv nc 24:Nat):Int):=rfl
 have b1:=Jr.cdiv_le nr 28 (by decide)
 have b2:=Jr.cdiv_le nc 24 (by decide)
 generalize Jr.cdiv nr 28=A at *
 generalize Jr.cdiv nc 24=C at *
 have u1:IntKind.i64.wrap ((A:Int)+C)=(A:Int)+C:=IntWalk.i64_in _ (by omega)
 have u2:IntKind.i64.wrap ((A:Int)+C+nc)=(A:Int)+C+nc:=IntWalk.i64_in _ (by omega)
 have u3:IntKind.i64.wrap ((A:Int)+C+nc+1)=(A:Int)+C+nc+1:=IntWalk.i64_in _ (by omega)
 have R0:=Row.new w 25 [.slice a1 nc c1,.slice a2 nr c2] rfl
 have BA:=hid ((Below.refl w.heap.size w).alloc (Nat.le_refl _) (.cells #[.slice a1 nc c1,.slice a2 nr c2] 25))
 have k0:=R0.cellAt 0 rfl
 have k1:=R0.cellAt 1 rfl
 clear R0
 go_enter Tryz.func12,Tryz.ntmps12
 go_wp2_with fail
 generalize w.alloc _=w1 at *
 go_quiet ((go_at_call 56;exact Calls.quiet_of (QK.out _ _ ⟨by first | exact .inl rfl | exact .inr rfl,by omega⟩ _)))
 go_wp2_with fail
 go_ret
 exact ⟨by simp,below_drewN BA.out _⟩
end Go.Proofs.YtnpdhidliaahbaaGreat
