/- The keys of a map, sorted. -/
import Derived.Test.YtnpdhidliaahbaaGreatP22
import Derived.Test.YtnpdhidliaahbaaGreatP18
import Derived.Maps.OwnOps
import Derived.Maps.OwnSet
import Derived.Maps.StringElems
import Derived.Test.YtnpdhidliaahbaaGreatP21
import Derived.Test.YtnpdhidliaahbaaGreatP01
import Derived.Test.YtnpdhidliaahbaaGreatP20
import Derived.Test.YtnpdhidliaahbaaGreatP03
import Derived.Test.YtnpdhidliaahbaaGreatP07
set_option maxRecDepth 100000
set_option maxHeartbeats 32000000
set_option linter.unusedSimpArgs false
set_option linter.unusedVariables false
namespace Go.Proofs.YtnpdhidliaahbaaGreat
open Go.Lib (hid)
open Go Go.RowKit Go.Maps Go.Sort Go.Shelf Go.Proofs
theorem sortsM (m:Nat):AnyZI.SortsIn Tryz.prog Tryz.sortedM_ren Fence.wide m:=
  ⟨fun blk off cap ss W hH hblk hsz=>callsIn_wide.2 (AnyM.slices_Sort_int Tryz.sortM blk off cap ss W hH hblk hsz),
   fun p cap W=>callsIn_wide.2 (AnyM.slices_Sort_int_none Tryz.sortM p cap W)⟩
theorem mapkeys_any (mb:Option Nat) (w:World):Calls Tryz.prog 62 #[.map mb] w fun e w'=>e=.returned (.func (.func 101) #[] #[.pointer (some ⟨w.heap.size,0,none⟩)])/\w'=w.alloc (.cells #[.map mb] 129):=
 (callsIn_wide (n:=5)).1 (AnyZI.keys_in Tryz.keysM Fence.wide 5 trivial rfl mb w)
theorem sortedkeys_any {H:Type} (kb b nn:Nat) (D0:DataW H) (R:Value->Option (DataW H × List MemPlace)) (w:World) (hkb:kb < w.heap.size) (hm:w.cell? ⟨kb,0,none⟩=some (.map (some b))) (hown:w.ownsMap Tryz.prog 3 R b nn D0) (hmax:Maps.size D0<=maxLen) (hbytes:Maps.size D0 * 8<=140737488355328) :
  Calls Tryz.prog 61 #[.func (.func 101) #[] #[.pointer (some ⟨kb,0,none⟩)]] w fun e w'=>∃ (v:Value) (ss:List Int),e=.returned v/\ss.Perm (intKeys D0) /\
   w'.ownsRow w.heap.size 3 1 v ss.length ((ss.mergeSort (fun x y=>decide (x<=y))).map encZ)/\Below w.heap.size w w':=by
 refine (callsIn_wide (n:=5)).1 ?_
 have hseq:SeqGives Fence.wide 2 Tryz.prog 101 #[.pointer (some ⟨kb,0,none⟩)] encZ (fun ss=>ss.Perm (intKeys D0)) (Maps.size D0) w:=
  AnyZI.keys_gives (ρ:=Tryz.keysM_ren) { Tryz.keysM with } Fence.wide _ trivial rfl (by omega) kb b nn D0 _ hkb hm hown
 have cS:=AnyZI.sorted_in Tryz.sortedM Fence.wide 5 trivial trivial trivial trivial rfl (by omega) (sortsM _) (enters_of Tryz.func100 (by kernel_rfl) rfl) 101 #[.pointer (some ⟨kb,0,none⟩)] trivial (enters_of Tryz.func101 (by kernel_rfl) rfl) _ _ hmax hbytes _ hseq
 change CallsIn _ _ Tryz.prog 61 _ _ _ at cS
 refine cS.mono ?_
 rintro e w' ⟨v,ss,rfl,hS,hrow,_,hb⟩
 exact ⟨v,ss,rfl,hS,hrow,hb⟩
theorem strict_ext:∀ (a b:List Int),a.Pairwise (· < ·)->b.Pairwise (· < ·)->(∀ x,x ∈ a ↔ x ∈ b)->a=b
 | [],[],_,_,_=>rfl
 | [],y :: b,_,_,h=>absurd ((h y).2 (by simp)) (by simp)
 | x :: a,[],_,_,h=>absurd ((h x).1 (by simp)) (by simp)
 | x :: a,y :: b,ha,hb,h=>by
  rw [List.pairwise_cons] at ha hb;have hxy:x=y:=by
   have h1:=(h x).1 (by simp);have h2:=(h y).2 (by simp);rcases List.mem_cons.1 h1 with e | h1
   ·exact e
   rcases List.mem_cons.1 h2 with e | h2
   ·exact e.symm
   have:=ha.1 y h2;have:=hb.1 x h1;omega
  subst hxy;congr 1;refine strict_ext a b ha.2 hb.2 fun z=>?_;constructor
  ·intro hz;rcases List.mem_cons.1 ((h z).1 (by simp [hz])) with e | h1
   ·have:=ha.1 z hz;omega
   exact h1
  ·intro hz;rcases List.mem_cons.1 ((h z).2 (by simp [hz])) with e | h1
   ·have:=hb.1 z hz;omega
   exact h1
theorem mergeSort_is {ss L:List Int} (hn:ss.Nodup) (hL:L.Pairwise (· < ·)) (h:∀ x,x ∈ ss ↔ x ∈ L):ss.mergeSort (fun x y=>decide (x<=y))=L:=by
 have hp:=List.mergeSort_perm ss (fun x y=>decide (x<=y));refine strict_ext _ _ ?_ hL fun x=>by rw [hp.mem_iff];exact h x
 have h1:(ss.mergeSort (fun x y=>decide (x<=y))).Pairwise (fun x y=>decide (x<=y)=true):=List.pairwise_mergeSort (fun a b c h1 h2=>by simp at *;omega) (fun a b=>by simp;omega) ss;have h2:(ss.mergeSort (fun x y=>decide (x<=y))).Nodup:=hp.nodup_iff.2 hn;refine (h1.and h2).imp fun {a b} h=>?_;obtain ⟨h3,h4⟩:=h;simp at h3;have:a ≠ b:=h4;omega
def mput (D:DataW Unit) (c:Jr.Chg):DataW Unit:=D.put (.int .i64 c.1) (.lit (.string c.2.data.toList))
def mdel (D:DataW Unit) (b:Int):DataW Unit:=D.del (.int .i64 b)
def mone (D:DataW Unit) (t:Jr.Txn):DataW Unit:=t.rv.foldl mdel (t.ch.foldl mput D)
def mall (l:List Jr.Txn):DataW Unit:=l.foldl mone (.map [])
theorem key_int (b:Int):WideAt.IsKeyLit (.int .i64 b):=trivial
theorem lit_ne {a b:Int} (h:a ≠ b):(Lit.int .i64 a) ≠ (Lit.int .i64 b):=fun e=>h (by injection e)
structure Rep (D:DataW Unit) (f:Int->Option ByteArray):Prop where
 map:IsMap D
 has:∀ b,Maps.has D (.int .i64 b)=(f b).isSome
 at_:∀ b z,D.atKey (.int .i64 b) z=match f b with | some s=>.lit (.string s.data.toList) | none=>z
theorem Rep.congr {D:DataW Unit} {f g:Int->Option ByteArray} (h:Rep D f) (e:∀ b,g b=f b):Rep D g:=by
 have:g=f:=funext e;subst this;exact h
theorem Rep.empty:Rep (.map []) (fun _=>none):=⟨isMap_empty,fun _=>rfl,fun _ _=>rfl⟩
theorem Rep.put {D:DataW Unit} {f:Int->Option ByteArray} (h:Rep D f) (c:Jr.Chg):Rep (mput D c) (fun b=>if b=c.1 then some c.2 else f b):=by
 refine ⟨h.map.put _ _,fun b=>?_,fun b z=>?_⟩
 ·by_cases e:b=c.1
  ·subst e;simp only [if_pos];exact has_put_same h.map (key_int _) _
  simp only [if_neg e];rw [<- h.has b];exact has_put_other (lit_ne e) _
 ·by_cases e:b=c.1
  ·subst e;simp only [if_pos];exact atKey_put_same h.map (key_int _) _ _
  simp only [if_neg e];rw [<- h.at_ b z];exact atKey_put_other (lit_ne e) _ _
theorem Rep.del {D:DataW Unit} {f:Int->Option ByteArray} (h:Rep D f) (b0:Int):Rep (mdel D b0) (fun b=>if b=b0 then none else f b):=by
 refine ⟨h.map.del _,fun b=>?_,fun b z=>?_⟩
 ·by_cases e:b=b0
  ·subst e;simp only [if_pos];exact has_del_same
  simp only [if_neg e];rw [<- h.has b];exact has_del_other (lit_ne e)
 ·by_cases e:b=b0
  ·subst e;simp only [if_pos];exact atKey_del_same _
  simp only [if_neg e];rw [<- h.at_ b z];exact atKey_del_other (lit_ne e) _
theorem Rep.puts:∀ (l:List Jr.Chg) {D:DataW Unit} {f:Int->Option ByteArray},Rep D f->Rep (l.foldl mput D) (fun b=>match l.reverse.find? (fun c=>c.1 == b) with | some c=>some c.2 | none=>f b)
 | [],D,f,h=>h
 | c :: l,D,f,h=>by
  refine (Rep.puts l (h.put c)).congr fun b=>?_;rw [List.reverse_cons,List.find?_append];cases l.reverse.find? (fun c=>c.1 == b) with
  | some d=>rfl
  | none =>
   by_cases e:b=c.1
   ·subst e;simp
   have:(c.1 == b)=false:=(by rw [beq_eq_false_iff_ne];exact fun k=>e k.symm);simp [this,e]
theorem Rep.dels:∀ (l:List Int) {D:DataW Unit} {f:Int->Option ByteArray},Rep D f->Rep (l.foldl mdel D) (fun b=>if b ∈ l then none else f b)
 | [],D,f,h=>h.congr fun b=>by simp
 | c :: l,D,f,h=>by
  refine (Rep.dels l (h.del c)).congr fun b=>?_;by_cases e:b ∈ l
  ·simp [e]
  ·by_cases e2:b=c
   ·subst e2;simp
   simp [e,e2]
theorem Rep.one {D:DataW Unit} {f:Int->Option ByteArray} (h:Rep D f) (t:Jr.Txn):Rep (mone D t) (fun b=>Jr.look1 t b (f b)):=(h.puts t.ch).dels t.rv
theorem Rep.many:∀ (l:List Jr.Txn) {D:DataW Unit} {f:Int->Option ByteArray},Rep D f->Rep (l.foldl mone D) (fun b=>l.foldl (fun o t=>Jr.look1 t b o) (f b))
 | [],D,f,h=>h
 | t :: l,D,f,h=>Rep.many l (h.one t)
theorem mall_rep (l:List Jr.Txn):Rep (mall l) (fun b=>Jr.look l b):=Rep.empty.many l
theorem comes_sorted (n:Nat) (l:List Jr.Txn):((Jr.comes n l).map (·.1)).Pairwise (· < ·):=by
 unfold Jr.comes;rw [List.pairwise_map,List.pairwise_filterMap];refine List.pairwise_lt_range.imp fun {a b} hab x hx y hy=>?_;cases h1:Jr.look l a with
 | none=>rw [h1] at hx;cases hx
 | some s =>
  cases h2:Jr.look l b with
  | none=>rw [h2] at hy;cases hy
  | some s2 =>
   rw [h1] at hx;rw [h2] at hy;injection hx with hx
   injection hy with hy
   subst hx hy;show (a:Int) < (b:Int);omega
def Fits (hm:Int->Bool) (t:Jr.Txn):Prop:=(∀ c ∈ t.ch,hm c.1=true/\c.2.size=128)/\∀ b ∈ t.rv,hm b=true
theorem look1_fits {hm:Int->Bool} {t:Jr.Txn} (ht:Fits hm t) {b:Int} {o:Option ByteArray} {s:ByteArray} (h:Jr.look1 t b o=some s):(hm b=true/\s.size=128) ∨ o=some s:=by
 unfold Jr.look1 at h;split at h
 ·cases h
 ·split at h
  ·rename_i c hc;have h1:c ∈ t.ch:=List.mem_reverse.1 (List.mem_of_find?_eq_some hc);have h2:=List.find?_some hc;have h3:c.1=b:=by simpa using h2
   injection h with h
   rw [<- h,<- h3];exact .inl (ht.1 c h1)
  exact .inr h
theorem look_fits {hm:Int->Bool}:∀ (n:Nat) (l:List Jr.Txn),l.length=n->(∀ t ∈ l,Fits hm t)->∀ {b:Int} {s:ByteArray},Jr.look l b=some s->hm b=true/\s.size=128
 | 0,l,hn,_,b,s,h=>by
  obtain rfl:l = []:=List.length_eq_zero_iff.1 hn;cases h
 | n+1,l,hn,hl,b,s,h=>by
  rcases List.eq_nil_or_concat l with rfl | ⟨l',t,rfl⟩
  ·cases hn
  rw [List.concat_eq_append] at *;rw [Jr.look_snoc] at h;rcases look1_fits (hl t (by simp)) h with h | h
  ·exact h
  exact look_fits n l' (by simpa using hn) (fun u hu=>hl u (by simp [hu])) h
theorem keys_comes {g:Geo.G} {l:List Jr.Txn} (hl:∀ t ∈ l,Fits (Geo.home g) t) {P:Program} {k:TypeId} {R:Value->Option (DataW Unit × List MemPlace)} {w:World} {b nn:Nat} (hown:w.ownsMap P k R b nn (mall l)) (K:Keyed P k) (hk:P.underlying k=some (.int .i64)) {ss:List Int} (h:ss.Perm (intKeys (mall l))):ss.mergeSort (fun x y=>decide (x<=y))=(Jr.comes g.blocks.toNat l).map (·.1):=by
 obtain ⟨es,hD,hpw,_⟩:=hown.entries K;obtain ⟨es',hD',hko⟩:=hown.keysOf;obtain rfl:es=es':=(by rw [hD] at hD';simpa using hD');have hrep:=mall_rep l;have hs:=comes_sorted g.blocks.toNat l;have hnd:((Jr.comes g.blocks.toNat l).map (·.1)).Nodup:=hs.imp fun {a b} h=>by omega
 have hp:=perm_intKeys hpw (fun p hp=>by obtain ⟨v,hv⟩:=hko p hp;obtain ⟨x,_,hx,_⟩:=Maps.keyOf_i64 hk hv;exact ⟨x,hx⟩) hnd (fun x=>by
  rw [<- hD,hrep.has x,List.mem_map];constructor
  ·rintro ⟨c,hc,rfl⟩;obtain ⟨b,h1,h2,h3⟩:=Jr.comes_mem.1 hc;rw [h3];rfl
  intro hx;obtain ⟨s,hs⟩:=Option.isSome_iff_exists.1 hx;have h1:=Jr.home_iff.1 (look_fits _ l rfl hl hs).1;exact ⟨(x,s),Jr.comes_mem.2 ⟨x.toNat,by omega,by dsimp only;omega,hs⟩,rfl⟩)
 rw [<- hD] at hp;exact mergeSort_is ((h.nodup_iff).2 (hp.nodup_iff.1 hnd)) hs (fun x=>by rw [h.mem_iff,<- hp.mem_iff])
open Go Go.RowKit Go.Maps
theorem pair_at {α:Type} (f g:α->Value):∀ (xs:List α) (i:Nat) (x:α),xs[i]?=some x->(xs.flatMap fun x=>[f x,g x])[i * 2]?=some (f x)/\(xs.flatMap fun x=>[f x,g x])[i * 2+1]?=some (g x)
 | y :: xs,0,x,h=>by
  rw [List.getElem?_cons_zero] at h;injection h with h
  subst h;exact ⟨rfl,rfl⟩
 | y :: xs,i+1,x,h=>by
  rw [List.getElem?_cons_succ] at h;obtain ⟨h1,h2⟩:=pair_at f g xs i x h;rw [List.flatMap_cons,show (i+1) * 2=i * 2+1+1 by omega];exact ⟨h1,h2⟩
theorem ChgsAt.cells {w:World} {ad:Option Addr} {n cap:Nat} {l:List Jr.Chg} (h:ChgsAt w (.slice ad n cap) l) {i:Nat} {c:Jr.Chg} (hc:l[i]?=some c):∃ g off,ad=some ⟨g,off,none⟩/\w.cell? ⟨g,off+i * 2,none⟩=some (.int .i64 c.1)/\w.cell? ⟨g,off+i * 2+1,none⟩=some (.string c.2):=by
 have hi:i < l.length:=(List.getElem?_eq_some_iff.1 hc).1;rcases h with ⟨_,h⟩ | ⟨g,off,cap',e,h⟩
 ·omega
 cases e;obtain ⟨h1,h2⟩:=pair_at (fun c:Jr.Chg=>Value.int .i64 c.1) (fun c=>Value.string c.2) l i c hc;exact ⟨g,off,rfl,h _ _ (by omega) h1,by rw [Nat.add_assoc];exact h _ _ (by omega) h2⟩
theorem TxnsAt.cells {w:World} {ad:Option Addr} {n cap:Nat} {l:List Jr.Txn} (h:TxnsAt w (.slice ad n cap) l) {i:Nat} {t:Jr.Txn} (ht:l[i]?=some t):∃ g off c r,ad=some ⟨g,off,none⟩/\w.cell? ⟨g,off+i * 2,none⟩=some c/\w.cell? ⟨g,off+i * 2+1,none⟩=some r/\ChgsAt w c t.ch/\IntsAt w r t.rv:=by
 obtain ⟨xs,h,hx⟩:=h;have hi:i < l.length:=(List.getElem?_eq_some_iff.1 ht).1;rcases h with ⟨_,h⟩ | ⟨g,off,cap',e,h⟩
 ·omega
 cases e;obtain ⟨x,h0,h3,h4⟩:=hx.get ht;obtain ⟨h1,h2⟩:=pair_at (fun c:Value × Value=>c.1) (fun c=>c.2) xs i x h0;exact ⟨g,off,x.1,x.2,rfl,h _ _ (by omega) h1,by rw [Nat.add_assoc];exact h _ _ (by omega) h2,h3,h4⟩
theorem mone_take (t:Jr.Txn) (D:DataW Unit) (i:Nat) (c:Jr.Chg) (h:t.ch[i]?=some c):(t.ch.take (i+1)).foldl mput D=mput ((t.ch.take i).foldl mput D) c:=by
 obtain ⟨hi,rfl⟩:=List.getElem?_eq_some_iff.1 h;rw [List.take_succ_eq_append_getElem hi,List.foldl_append];rfl
theorem mdel_take (l:List Int) (D:DataW Unit) (i:Nat) (hi:i < l.length):(l.take (i+1)).foldl mdel D=mdel ((l.take i).foldl mdel D) (l.getD i 0):=by
 rw [List.take_succ_eq_append_getElem hi,List.foldl_append,show l.getD i 0=l[i] by simp [List.getD,hi]];rfl
theorem mall_take (l:List Jr.Txn) (i:Nat) (t:Jr.Txn) (h:l[i]?=some t):mall (l.take (i+1))=mone (mall (l.take i)) t:=by
 obtain ⟨hi,rfl⟩:=List.getElem?_eq_some_iff.1 h;unfold mall;rw [List.take_succ_eq_append_getElem hi,List.foldl_append];rfl
def chgs (l:List Jr.Txn):Nat:=(l.map fun t=>t.ch.length).sum
theorem chgs_take (l:List Jr.Txn) (i:Nat) (t:Jr.Txn) (h:l[i]?=some t):chgs (l.take (i+1))=chgs (l.take i)+t.ch.length:=by
 obtain ⟨hi,rfl⟩:=List.getElem?_eq_some_iff.1 h;unfold chgs;rw [List.take_succ_eq_append_getElem hi,List.map_append,List.sum_append];simp
theorem chgs_le (l:List Jr.Txn) (i:Nat):chgs (l.take i)<=chgs l:=by
 conv=>rhs;rw [<- List.take_append_drop i l]
 unfold chgs;rw [List.map_append,List.sum_append];omega
theorem keyLaw:Keyed Tryz.prog 3:=int_keyed Tryz.underlying3
theorem comes_any (g:Geo.G) (hg:Geo.May g) (v:Value) (l:List Jr.Txn) (w:World) (hT:TxnsAt w v l) (hl:l.length<=1000000) (hfit:∀ t ∈ l,Fits (Geo.home g) t) (hN:chgs l<=1000000) (hrv:∀ t ∈ l,t.rv.length<=1000000) :
  Calls Tryz.prog 60 #[v] w fun e w'=>∃ B,e=.returned (.map (some B))/\w.heap.size<=B/\w'.ownsMap Tryz.prog 3 (plainElem Tryz.prog 9) B (chgs l) (mall l)/\Below w.heap.size w w':=by
 obtain ⟨ad,cap,rfl⟩:=hT.form
 have HT:=hid hT
 have HF:=hid hfit
 have HN:=hid hN
 have HRV:=hid hrv
 have HG:=hid hg
 clear hT hfit hN hrv hg
 have hmm:=@run_makeMap Tryz.prog
 go_enter Tryz.func60,Tryz.ntmps60
 go_wp2_with fail
 go_loopw [13] (fun q wr=>∃ i:Nat,i<=l.length/\q=.int .i64 i/\Hid (wr.ownsMap Tryz.prog 3 (plainElem Tryz.prog 9) w.heap.size (chgs (l.take i)) (mall (l.take i)))/\Hid (Below w.heap.size w wr)) (fun q _=>l.length - (intOf q).toNat)
 case atStart=>exact ⟨0,Nat.zero_le _,rfl,hid (World.ownsMap_made _ _ _ _),hid ((Below.refl _ _).alloc (Nat.le_refl _) _)⟩
 case round =>
  obtain ⟨i,hi,rfl,hM,hB⟩:=hrel;by_cases hlt:i < l.length
  ·have i0:(0:Int)<=(i:Int):=(by omega);have i1:(i:Int) < (l.length:Int):=(by omega);obtain ⟨t,ht⟩:∃ t,l[i]?=some t:=⟨_,List.getElem?_eq_getElem hlt⟩;have htm:t ∈ l:=List.mem_of_getElem? ht;obtain ⟨gx,off,cv,rv,rfl,c0w,c1w,hC,hI⟩:=HT.out.cells ht;have c0:=(hB.out.cell (p:=⟨gx,off+i * 2,none⟩) (World.block_lt_of_cell? w _ c0w)).trans c0w;have c1:=(hB.out.cell (p:=⟨gx,off+i * 2+1,none⟩) (World.block_lt_of_cell? w _ c1w)).trans c1w;obtain ⟨ac,cc,rfl⟩:=hC.form;obtain ⟨ar,cr,rfl⟩:=hI.form;have HC:=hid hC;have HI:=hid hI;have HTF:=hid (HF.out t htm);have HTR:=hid (HRV.out t htm);have HST:=hid (show mall (l.take (i+1))=t.rv.foldl mdel (t.ch.foldl mput (mall (l.take i))) from mall_take l i t ht);have HSC:=hid (chgs_take l i t ht);have hcl:t.ch.length<=1000000:=(by have:=HN.out;have:=chgs_le l (i+1);have:=HSC.out;omega);have hrl:t.rv.length<=1000000:=HTR.out;have hkk:chgs (l.take i)+t.ch.length<=1000000:=(by have:=HN.out;have:=chgs_le l (i+1);have:=HSC.out;omega);have hws:w.heap.size<=wr.heap.size:=hB.out.size;have hne:w.heap.size < wr.heap.size:=hM.out.lt;have HRX:=hid (Row.new wr 25 [.slice ac t.ch.length cc,.slice ar t.rv.length cr] rfl);have HB1:=hid (hB.out.alloc hws (.cells #[.slice ac t.ch.length cc,.slice ar t.rv.length cr] 25));have HM1:=hid (hM.out.alloc (.cells #[.slice ac t.ch.length cc,.slice ar t.rv.length cr] 25));have r0:=HRX.out.cellAt 0 rfl;clear hC hI hM hB ht htm c0w c1w;generalize mall (l.take i)=D0 at *;generalize chgs (l.take i)=N0 at *;go_wp2_with fail;clear r0 c0 c1;have HB1':=HB1;generalize wr.alloc _=w1 at *;go_loopw [20] (fun q wr2=>∃ j:Nat,j<=t.ch.length/\q=.int .i64 j/\Hid (wr2.ownsMap Tryz.prog 3 (plainElem Tryz.prog 9) w.heap.size (N0+j) ((t.ch.take j).foldl mput D0))/\Hid (Below w.heap.size w wr2)/\Hid (Row wr2 wr.heap.size 25 [.slice ac t.ch.length cc,.slice ar t.rv.length cr])) (fun q _=>t.ch.length - (intOf q).toNat);case atStart=>exact ⟨0,Nat.zero_le _,rfl,HM1,HB1,HRX⟩
   case round =>
    rename World=>wr2
    obtain ⟨j,hj,rfl,hM2,hB2,hR2⟩:=hrel;by_cases hjl:j < t.ch.length
    ·have j0:(0:Int)<=(j:Int):=(by omega);have j1:(j:Int) < (t.ch.length:Int):=(by omega);obtain ⟨c,hc⟩:∃ c,t.ch[j]?=some c:=⟨_,List.getElem?_eq_getElem hjl⟩;obtain ⟨gy,offy,rfl,d0,d1⟩:=(HC.out.below hB2.out).cells hc;have hcf:=HTF.out.1 c (List.mem_of_getElem? hc);have hch:=Jr.home_iff.1 hcf.1;have hgo:=HG.out.ok.1;unfold Geo.asked at hgo;have hkey:keyOf Tryz.prog 3 (.int .i64 c.1)=some (.int .i64 c.1):=keyOf_int_mk Tryz.underlying3 (WalkArith.wf_i64 (by omega));have hel:=plainElem_string (H:=Unit) Tryz.underlying9 (s:=c.2) (by unfold maxLen;omega);have HST2:=hid (mone_take t D0 j c hc);have HKEY:=hid hkey;have HEL:=hid hel;have hws2:w.heap.size<=wr2.heap.size:=hB2.out.size;have hB3:=hid (hB2.out.alloc hws2 (.cells #[.int .i64 c.1,.string c.2] 68));have hM3:=hid (hM2.out.alloc (.cells #[.int .i64 c.1,.string c.2] 68));have hR3:=hid (hR2.out.alloc (.cells #[.int .i64 c.1,.string c.2] 68));have bx:=(Below.refl wr2.heap.size wr2).alloc (Nat.le_refl _) (.cells #[.int .i64 c.1,.string c.2] 68);have hlt3:w.heap.size < wr2.heap.size:=hM2.out.lt;clear hc hcf hch hgo hkey hel hM2 hB2 hR2 bx;obtain ⟨x1,x2⟩:=c;dsimp only at *;go_wp2_with (first | (at_mapUpdate;refine wpList_mapUpdate_own _ rfl _ _ _ 129 rfl 3 9 keyLaw Tryz.underlying129 _ w.heap.size (N0+j) _ rfl hM3.out (by unfold maxLen;omega) _ _ _ rfl rfl HKEY.out _ [] HEL.out ?_;intro w4 hown4 hgrow4) | fail "none");have hB4:=hid (hB3.out.grown hgrow4 (by have:=hB3.out.size;omega) (fun k hk=>by cases hk;exact Nat.le_refl _));have hR4:=hid (row_same hR3.out (hgrow4.block _ hR3.out.lt (fun e=>absurd (Option.some.inj e) (by omega))));have hM4:=hid hown4;clear hown4 hgrow4;exact ⟨⟨j+1,by omega,by go_num,hid (by rw [HST2.out];exact hM4.out),hB4,hR4⟩,by simp [intOf];omega⟩
    obtain rfl:j=t.ch.length:=(by omega);rw [List.take_length] at hM2;have r1:=hR2.out.cellAt 1 rfl;generalize N0+t.ch.length=N1 at *;generalize List.foldl mput D0 t.ch=D1 at *;go_wp2_with fail;clear r1 hR2;go_loopw [33] (fun q wr3=>∃ j:Nat,j<=t.rv.length/\q=.int .i64 j/\Hid (wr3.ownsMap Tryz.prog 3 (plainElem Tryz.prog 9) w.heap.size N1 ((t.rv.take j).foldl mdel D1))/\Hid (Below w.heap.size w wr3)) (fun q _=>t.rv.length - (intOf q).toNat);case atStart=>exact ⟨0,Nat.zero_le _,rfl,hM2,hB2⟩
    case round =>
     rename World=>wr3
     obtain ⟨j,hj,rfl,hM3,hB3⟩:=hrel;by_cases hjl:j < t.rv.length
     ·have j0:(0:Int)<=(j:Int):=(by omega);have j1:(j:Int) < (t.rv.length:Int):=(by omega);obtain ⟨gy,offy,rfl,d0⟩:=(HI.out.below hB3.out).cells j hjl;have hcf:=HTF.out.2 (t.rv.getD j 0) (by rw [show t.rv.getD j 0=t.rv[j] by simp [List.getD,hjl]];exact List.getElem_mem hjl);have hch:=Jr.home_iff.1 hcf;have hgo:=HG.out.ok.1;unfold Geo.asked at hgo;have HKEY:=hid (show keyOf Tryz.prog 3 (.int .i64 (t.rv.getD j 0))=some (.int .i64 (t.rv.getD j 0)) from keyOf_int_mk Tryz.underlying3 (WalkArith.wf_i64 (by omega)));have HST2:=hid (mdel_take t.rv D1 j hjl);clear hcf hch hgo;generalize t.rv.getD j 0=x0 at *;go_wp2_with (first | (at_delete;refine wpList_delete_own _ rfl _ _ 129 3 rfl 9 keyLaw Tryz.underlying129 _ w.heap.size N1 _ rfl hM3.out _ _ rfl HKEY.out ?_;intro w4 hown4 hgrow4) | fail "none");exact ⟨⟨j+1,by omega,by go_num,hid (by rw [HST2.out];exact hown4),hid (hB3.out.grown hgrow4.grown hB3.out.size (fun k hk=>by cases hk;exact Nat.le_refl _))⟩,by simp [intOf];omega⟩
     obtain rfl:j=t.rv.length:=(by omega);rw [List.take_length] at hM3;go_wp2_with fail;exact ⟨⟨i+1,by omega,by go_num,hid (by rw [HST.out,HSC.out];exact hM3.out),hB3⟩,by simp [intOf];omega⟩
  obtain rfl:i=l.length:=(by omega);rw [List.take_length] at hM;go_wp2_with fail;go_ret;exact ⟨w.heap.size,rfl,Nat.le_refl _,hM.out,hB.out⟩
open Go Go.RowKit
def SegV (size:Nat) (w:World) (v:Value) (n:Nat) (xs:List Value):Prop:=
 ∃ ad cap,v=.slice ad n cap/\(0 < n->∃ b off,ad=some ⟨b,off,none⟩/\∀ j u,j < n * size->xs[j]?=some u->w.cell? ⟨b,off+j,none⟩=some u)
theorem SegV.below {size n:Nat} {w w':World} {v:Value} {xs:List Value} (h:SegV size w v n xs) (hb:Below w.heap.size w w'):SegV size w' v n xs:=by
 obtain ⟨ad,cap,rfl,h⟩:=h;refine ⟨ad,cap,rfl,fun hn=>?_⟩;obtain ⟨b,off,e,hc⟩:=h hn;exact ⟨b,off,e,fun j u hj hu=>(hb.cell (p:=⟨b,off+j,none⟩) (World.block_lt_of_cell? w _ (hc j u hj hu))).trans (hc j u hj hu)⟩
theorem SegV.form {size n:Nat} {w:World} {v:Value} {xs:List Value} (h:SegV size w v n xs):∃ ad cap,v=.slice ad n cap:=by
 obtain ⟨ad,cap,e,_⟩:=h;exact ⟨ad,cap,e⟩
theorem SegAt.weak {size n:Nat} {w:World} {v:Value} {xs:List Value} (h:SegAt size w v n xs):SegV size w v n xs:=by
 rcases h with ⟨rfl,rfl⟩ | ⟨b,off,cap,rfl,hc⟩
 ·exact ⟨none,0,rfl,fun h=>absurd h (Nat.lt_irrefl _)⟩
 ·exact ⟨_,cap,rfl,fun _=>⟨b,off,rfl,hc⟩⟩
theorem SegV.strict {size n:Nat} {w:World} {v:Value} {xs:List Value} (h:SegV size w v n xs) (hn:0 < n):SegAt size w v n xs:=by
 obtain ⟨ad,cap,rfl,h⟩:=h;obtain ⟨b,off,rfl,hc⟩:=h hn;exact .inr ⟨b,off,cap,rfl,hc⟩
def ChgsV (w:World) (v:Value) (l:List Jr.Chg):Prop:=SegV 2 w v l.length (chgC l)
def IntsV (w:World) (v:Value) (l:List Int):Prop:=SegV 1 w v l.length (icells l)
theorem ChgsAt.weak {w:World} {v:Value} {l:List Jr.Chg} (h:ChgsAt w v l):ChgsV w v l:=SegAt.weak h
theorem ChgsV.below {w w':World} {v:Value} {l:List Jr.Chg} (h:ChgsV w v l) (hb:Below w.heap.size w w'):ChgsV w' v l:=SegV.below h hb
theorem ChgsV.form {w:World} {v:Value} {l:List Jr.Chg} (h:ChgsV w v l):∃ ad cap,v=.slice ad l.length cap:=SegV.form h
theorem ChgsV.cells {w:World} {ad:Option Addr} {n cap:Nat} {l:List Jr.Chg} (h:ChgsV w (.slice ad n cap) l) {i:Nat} {c:Jr.Chg} (hc:l[i]?=some c):∃ g off,ad=some ⟨g,off,none⟩/\w.cell? ⟨g,off+i * 2,none⟩=some (.int .i64 c.1)/\w.cell? ⟨g,off+i * 2+1,none⟩=some (.string c.2):=
 ChgsAt.cells (SegV.strict h (by have:=(List.getElem?_eq_some_iff.1 hc).1;omega)) hc
theorem IntsAt.weak {w:World} {v:Value} {l:List Int} (h:IntsAt w v l):IntsV w v l:=by
 rcases h with ⟨rfl,rfl⟩ | ⟨b,off,cap,rfl,hc⟩
 ·exact ⟨none,0,rfl,fun h=>absurd h (Nat.lt_irrefl _)⟩
 ·exact ⟨_,cap,rfl,fun _=>⟨b,off,rfl,fun j u _ hu=>hc j u hu⟩⟩
theorem IntsV.below {w w':World} {v:Value} {l:List Int} (h:IntsV w v l) (hb:Below w.heap.size w w'):IntsV w' v l:=SegV.below h hb
theorem IntsV.form {w:World} {v:Value} {l:List Int} (h:IntsV w v l):∃ ad cap,v=.slice ad l.length cap:=SegV.form h
theorem IntsV.strict {w:World} {v:Value} {l:List Int} (h:IntsV w v l) (hn:0 < l.length):IntsAt w v l:=by
 obtain ⟨ad,cap,rfl,h⟩:=h;obtain ⟨b,off,rfl,hc⟩:=h hn;refine .inr ⟨b,off,cap,rfl,fun j u hu=>hc j u ?_ hu⟩;have:=(List.getElem?_eq_some_iff.1 hu).1;rw [icells_length] at this;omega
theorem IntsV.cells {w:World} {ad:Option Addr} {n cap:Nat} {l:List Int} (h:IntsV w (.slice ad n cap) l) (i:Nat) (hi:i < l.length):∃ g off,ad=some ⟨g,off,none⟩/\w.cell? ⟨g,off+i,none⟩=some (.int .i64 (l.getD i 0)):=
 IntsAt.cells (h.strict (by omega)) i hi
theorem cdiv_of {n m k:Nat} (hm:0 < m) (h1:k=0 ∨ (k - 1) * m < n) (h2:n<=k * m):k=Jr.cdiv n m:=by
 unfold Jr.cdiv;symm;rw [Nat.div_eq_iff hm];rcases Nat.eq_zero_or_pos k with rfl | hk
 ·omega
 ·have h3:(k - 1) * m < n:=by
   rcases h1 with h | h
   ·omega
   exact h
  have h4:k * m=(k - 1) * m+m:=by
   obtain ⟨j,rfl⟩:∃ j,k=j+1:=⟨k - 1,by omega⟩;rw [Nat.add_sub_cancel,Nat.succ_mul]
  omega
theorem refsize_any (a1 a2:Option Addr) (nc nr c1 c2:Nat) (h1:nc<=100000) (h2:nr<=100000) (w:World) :
  Calls Tryz.prog 13 #[.agg #[.slice a1 nc c1,.slice a2 nr c2]] w fun e w'=>e=.returned (.int .i64 ((Jr.cdiv nr 28+Jr.cdiv nc 24+nc+1:Nat):Int))/\Below w.heap.size w w':=by
 have BA:Below w.heap.size w (w.alloc (.cells #[.slice a1 nc c1,.slice a2 nr c2] 25)):=(Below.refl w.heap.size w).alloc (Nat.le_refl _) _
 have R:=Row.new w 25 [.slice a1 nc c1,.slice a2 nr c2] rfl
 have t0:=R.cellAt 0 rfl
 have t1:=R.cellAt 1 rfl
 have HR:=hid R
 have HBA:=hid BA
 clear BA R
 go_enter Tryz.func13,Tryz.ntmps13
 go_upto_region 3 with fail
 generalize w.alloc _=w1 at *
 go_wp2_with fail
 go_loopw [3,4] (fun t3 t4 wr=>∃ (k:Nat),(k=0 ∨ (k - 1) * 28 < nr)/\k<=nr/\t3=.int .i64 ((1+nc+k:Nat):Int)/\t4=.int .i64 ((k * 28:Nat):Int)/\wr=w1) (fun _ t4 _=>nr+28 - (intOf t4).toNat)
 case atStart=>exact ⟨0,.inl rfl,Nat.zero_le _,by go_num,rfl,rfl⟩
 case round =>
  obtain ⟨k,hk,hkn,rfl,rfl,rfl⟩:=hrel;by_cases hlt:k * 28 < nr
  ·have i1:((k:Int) * 28) < (nr:Int):=(by omega);go_wp2_with fail;go_roundw;case rel=>exact ⟨k+1,.inr (by simpa using hlt),by omega,by go_num,by go_num,trivial⟩
   case measure=>simp [intOf];omega
  have i1:¬ ((k:Int) * 28) < (nr:Int):=(by omega);have hk1:k=Jr.cdiv nr 28:=cdiv_of (by decide) hk (by omega);have HK:=hid hk1;clear hk1 hk hlt;go_wp2_with fail;go_loopw [3,5] (fun t3 t5 wr2=>∃ (m:Nat),(m=0 ∨ (m - 1) * 24 < nc)/\m<=nc/\t3=.int .i64 ((1+nc+k+m:Nat):Int)/\t5=.int .i64 ((m * 24:Nat):Int)/\wr2=wr) (fun _ t5 _=>nc+24 - (intOf t5).toNat);case atStart=>exact ⟨0,.inl rfl,Nat.zero_le _,by go_num,rfl,rfl⟩
  case round =>
   obtain ⟨m,hm,hmn,rfl,rfl,rfl⟩:=hrel;by_cases hlt2:m * 24 < nc
   ·have i2:((m:Int) * 24) < (nc:Int):=(by omega);go_wp2_with fail;go_roundw;case rel=>exact ⟨m+1,.inr (by simpa using hlt2),by omega,by go_num,by go_num,trivial⟩
    case measure=>simp [intOf];omega
   have i2:¬ ((m:Int) * 24) < (nc:Int):=(by omega);have hm1:m=Jr.cdiv nc 24:=cdiv_of (by decide) hm (by omega);have HM:=hid hm1;clear hm1 hm hlt2;go_wp2_with fail;go_ret;have e1:=HK.out;have e2:=HM.out;have e3:(1:Int)+(nc:Int)+(k:Int)+(m:Int)=(Jr.cdiv nr 28:Int)+(Jr.cdiv nc 24:Int)+(nc:Int)+1:=(by omega);exact ⟨by rw [<- e3];rfl,HBA.out⟩
theorem Rec.unmask_length (s:Bytes):(Rec.unmask s).length=s.length:=by
 unfold Rec.unmask;split
 ·rfl
 ·rename_i h;have:Rec.magic.length=4:=rfl;rw [List.length_append,List.length_drop];omega
theorem txt_of_size (s:ByteArray):s.data.toList.length=s.size:=Array.length_toList
theorem said_fits {hm:Int->Bool}:∀ (hs:List Int) (ms:List Bool) (bs:List ByteArray),(∀ b ∈ hs,hm b=true)->(∀ s ∈ bs,s.size=128)->∀ c ∈ Jr.said hs ms bs,hm c.1=true/\c.2.size=128
 | [],_,_,_,_,c,h=>by simp [Jr.said] at h
 | _ :: _,[],_,_,_,c,h=>by simp [Jr.said] at h
 | _ :: _,_ :: _,[],_,_,c,h=>by simp [Jr.said] at h
 | b :: hs,m :: ms,s :: ss,h1,h2,c,h=>by
  unfold Jr.said at h;rcases List.mem_cons.1 h with rfl | h
  ·refine ⟨h1 b (by simp),?_⟩;dsimp only;split
   ·rw [txt_size,Rec.unmask_length,txt_of_size];exact h2 s (by simp)
   exact h2 s (by simp)
  ·exact said_fits hs ms ss (fun b hb=>h1 b (by simp [hb])) (fun s hs=>h2 s (by simp [hs])) c h
structure FitN (hm:Int->Bool) (n:Nat) (t:Jr.Txn):Prop where
 fits:Fits hm t
 ch:t.ch.length<=n
 rv:t.rv.length<=28 * n
theorem parse_fits {hm:Int->Bool} {seq:Nat}:∀ (f:Nat) (bs:List ByteArray) (all:Bytes) (t t':Jr.Txn) (r:List ByteArray) (n:Nat),(∀ s ∈ bs,s.size=128)->FitN hm n t->Jr.parse hm seq f bs all t=some (t',r)->FitN hm (n+bs.length - r.length) t'/\r.length<=bs.length
 | f+1,s :: bs,all,t,t',r,n,hs,ht,h=>by
  unfold Jr.parse at h;cases e:Rec.dec s.data.toList with
  | none=>rw [e] at h;cases h
  | some x =>
   rw [e] at h;dsimp only at h;have hmay:=Rec.may_cases (Rec.dec_some e).2.1;split at h
   ·cases h
   rename_i k0;have hall:x.homes.all hm=true:=by
    cases e2:x.homes.all hm
    ·exact absurd (.inr e2) k0
    rfl
   have hall2:∀ b ∈ x.homes,hm b=true:=fun b hb=>List.all_eq_true.1 hall b hb;have hs2:∀ s ∈ bs,s.size=128:=fun s h=>hs s (by simp [h]);split at h
   ·split at h
    ·injection h with h
     injection h with h1 h2
     subst h1 h2;refine ⟨⟨ht.fits,?_,?_⟩,by simp⟩
     ·have:=ht.ch;rw [List.length_cons];omega
     have:=ht.rv;rw [List.length_cons];omega
    cases h
   split at h
   ·have hh:x.homes.length<=28:=by
     rcases hmay with ⟨k,-⟩ | ⟨k,-⟩ | ⟨k,k1,k2,k3,k4,k5,k6⟩ | ⟨k,-⟩;all_goals omega
    have ih:=parse_fits f bs (all ++ s.data.toList) ⟨t.ch,t.rv ++ x.homes⟩ t' r (n+1) hs2 ⟨⟨ht.fits.1,fun b hb=>by
     rcases List.mem_append.1 hb with hb | hb
     ·exact ht.fits.2 b hb
     exact hall2 b hb⟩,by have:=ht.ch;dsimp only;omega,by have:=ht.rv;dsimp only;rw [List.length_append];omega⟩ h
    refine ⟨?_,by rw [List.length_cons];omega⟩;rw [List.length_cons,show n+(bs.length+1) - r.length=n+1+bs.length - r.length by omega];exact ih.1
   split at h
   ·split at h
    ·cases h
    rename_i k1 k2 k3 k4;have hsl:=Jr.said_length x.homes x.masked bs;have ih:=parse_fits f (bs.drop x.homes.length) (all ++ s.data.toList ++ cat (bs.take x.homes.length)) ⟨t.ch ++ Jr.said x.homes x.masked bs,t.rv⟩ t' r (n+1+x.homes.length) (fun s h=>hs2 s (List.mem_of_mem_drop h)) ⟨⟨fun c hc=>by
     rcases List.mem_append.1 hc with hc | hc
     ·exact ht.fits.1 c hc
     exact said_fits _ _ _ hall2 hs2 c hc,ht.fits.2⟩,by have:=ht.ch;dsimp only;rw [List.length_append];omega,by have:=ht.rv;dsimp only;omega⟩ h
    rw [List.length_drop] at ih;refine ⟨?_,by rw [List.length_cons];omega⟩;rw [List.length_cons,show n+(bs.length+1) - r.length=n+1+x.homes.length+(bs.length - x.homes.length) - r.length by omega];exact ih.1
   cases h
theorem fitN_none (hm:Int->Bool):FitN hm 0 Jr.none_:=⟨⟨(fun c h=>nomatch h),(fun b h=>nomatch h)⟩,Nat.le_refl _,Nat.zero_le _⟩
theorem readAll_fits {hm:Int->Bool}:∀ (f seq:Nat) (bs:List ByteArray),(∀ s ∈ bs,s.size=128)->(∀ t ∈ (Jr.readAll hm f seq bs).1,FitN hm bs.length t)/\((Jr.readAll hm f seq bs).1.map fun t=>t.ch.length).sum<=bs.length
 | 0,seq,bs,hs=>⟨(fun t h=>nomatch h),Nat.zero_le _⟩
 | f+1,seq,bs,hs=>by
  cases e:Jr.parseA hm seq bs [] Jr.none_ with
  | none=>rw [Jr.readAll_none e];exact ⟨(fun t h=>nomatch h),Nat.zero_le _⟩
  | some q =>
   obtain ⟨t,r⟩:=q;obtain ⟨h1,h2⟩:=parse_fits _ _ _ _ _ _ 0 hs (fitN_none hm) e;obtain ⟨n,hn1,hn2,rfl⟩:=Jr.parseA_rest e;rw [Jr.readAll_some e];obtain ⟨g1,g2⟩:=readAll_fits (hm:=hm) f (Jr.nx seq) (bs.drop n) (fun s h=>hs s (List.mem_of_mem_drop h));rw [List.length_drop] at g1 g2 h1;refine ⟨fun u hu=>?_,?_⟩
   ·rcases List.mem_cons.1 hu with rfl | hu
    ·exact ⟨h1.fits,by have:=h1.ch;omega,by have:=h1.rv;omega⟩
    have:=g1 u hu;exact ⟨this.fits,by have:=this.ch;omega,by have:=this.rv;omega⟩
   dsimp only;rw [List.map_cons,List.sum_cons];have:=h1.ch;omega
theorem ring_sized {g:Geo.G} (hg:Geo.May g) {now:List ByteArray} (hz:sized now) (hn:g.blocks<=(now.length:Int)) (p:Nat):∀ n q,∀ s ∈ Jr.ring g now q n,s.size=128
 | 0,q,s,h=>by cases h
 | n+1,q,s,h=>by
  rcases List.mem_cons.1 h with rfl | h
  ·have:=Jr.pb_lt hg q;unfold Jr.blk;have hlt:Jr.pb g q < now.length:=(by omega);rw [show now.getD (Jr.pb g q) ⟨#[]⟩=now[Jr.pb g q] by simp [List.getD,hlt]];exact hz _ (List.getElem_mem hlt)
  ·exact ring_sized hg hz hn p n (q+1) s h
theorem readL_fits {g:Geo.G} (hg:Geo.May g) {now:List ByteArray} (hz:sized now) (hn:g.blocks<=(now.length:Int)) {L:Jr.Log} (h:Jr.readL g now=some L) :
  (∀ t ∈ L.txns,Fits (Geo.home g) t/\t.ch.length<=600/\t.rv.length<=20000)/\(L.txns.map fun t=>t.ch.length).sum<=600/\L.txns.length<=600/\L.used<=Jr.plc g/\L.at_ < Jr.plc g/\L.seq < 2 ^ 64/\L.txns.length<=L.used:=by
 unfold Jr.readL at h
 cases e:Rec.dec (Jr.blk now 1).data.toList with
 | none=>rw [e] at h;cases h
 | some x =>
  rw [e] at h;dsimp only at h;split at h
  ·rename_i k;injection h with h
   subst h;have hp:=Jr.plc_of hg;have hr:=ring_sized hg hz hn 0 (Jr.plc g) x.at_.toNat;obtain ⟨h1,h2⟩:=readAll_fits (hm:=Geo.home g) ((Jr.ring g now x.at_.toNat (Jr.plc g)).length+1) x.seq _ hr;obtain ⟨n,m1,m2,m3⟩:=Jr.readR_rest (hm:=Geo.home g) x.seq (Jr.ring g now x.at_.toNat (Jr.plc g));rw [Jr.ring_length] at h1 h2 m1;have hlen:(Jr.readR (Geo.home g) x.seq (Jr.ring g now x.at_.toNat (Jr.plc g))).2.length=Jr.plc g - n:=by rw [m2,List.length_drop,Jr.ring_length]
   refine ⟨fun t ht=>?_,?_,by dsimp only;omega,by dsimp only;omega,?_,?_,by dsimp only;omega⟩
   ·have:=h1 t (by dsimp only at ht;unfold Jr.readR at ht;rw [Jr.ring_length] at ht;exact ht);exact ⟨this.fits,by have:=this.ch;omega,by have:=this.rv;omega⟩
   ·dsimp only;unfold Jr.readR;rw [Jr.ring_length];omega
   ·dsimp only;rcases Rec.may_cases (Rec.dec_some e).2.1 with ⟨k1,k2,-⟩ | ⟨k1,-⟩ | ⟨k1,-⟩ | ⟨k1,-⟩
    ·omega
    all_goals omega
   dsimp only;rw [(Rec.dec_some e).2.2.2];exact (Rec.raw_seq _).1
  cases h
theorem wpList_lookup_str {H:Type} {P:Program} (w:World) {ops:Array Oper} {rest:List Oper} {o:Oper} {a:Act} {Q:Exit->Act->World->Prop}
  (hg:o.guard=none) (m x:Operand) (t:TypeId) (hop:o.op=Op.lookup t m x false)
  (k e:TypeId) (K:Keyed P k) (ht:P.underlying t=some (.map k e)) (he:P.underlying e=some .string) (hz:(zeroValue e).run P w=.ok (.string ⟨#[]⟩) w) (b n:Nat) (D:DataW H)
  (hm:a.eval m=.map (some b)) (hown:w.ownsMap P k (plainElem P e) b n D) (key:Value) (kl:Lit) (hx:a.eval x=key) (hkey:keyOf P k key=some kl)
  (s:ByteArray) (hat:D.atKey kl (.lit (.string []))=.lit (.string s.data.toList))
  (hK:wpList P ops Q rest (a.put o.dst (.string s)) w) :
  wpList P ops Q (o :: rest) a w:=by
 refine wpList_plain hg fun K' hK'=>?_
 obtain ⟨v,ps,hrun,hv⟩:=hown.lookup K ht hz (plainElem_string he (show (⟨#[]⟩:ByteArray).size<=maxLen by decide)) hkey
 obtain ⟨c,rfl,hc,_⟩:=plainElem_string_inv he hv
 simp only [Prod.mk.injEq] at hc
 have e2:c=s:=by
  have:=hc.1;rw [hat] at this;injection this with this
  injection this with this
  have h3:=congrArg txt this;rw [txt_of,txt_of] at h3;exact h3.symm
 subst e2
 unfold Oper.wp
 simp [execOp,hop,hm,hx,hrun,Result.andThen]
 exact hK' _ _ hK
theorem ownsMap_below {H:Type} {P:Program} {k:TypeId} {R:Value->Option (DataW H × List MemPlace)} {b n:Nat} {D:DataW H} {w w':World} (h:w.ownsMap P k R b n D) (hb:Below w.heap.size w w'):w'.ownsMap P k R b n D:=by
 have hl:=h.lt;obtain ⟨es,clock,h1,h2⟩:=h;exact ⟨es,clock,(hb.block b hl).trans h1,h2⟩
theorem ownsMap_size {H:Type} {P:Program} {k:TypeId} {R:Value->Option (DataW H × List MemPlace)} {b n:Nat} {D:DataW H} {w:World} (h:w.ownsMap P k R b n D):Maps.size D<=n:=by
 obtain ⟨es,clock,_,_,hs,rfl⟩:=h;rw [Maps.size_eq,length_sorted];simpa using hs
theorem sorted_row {g:Geo.G} {l:List Jr.Txn} {nn b B:Nat} {R:Value->Option (DataW Unit × List MemPlace)} {w w':World} {v:Value} {ss:List Int} (hl:∀ t ∈ l,Fits (Geo.home g) t) (hown:w.ownsMap Tryz.prog 3 R b nn (mall l)) (hp:ss.Perm (intKeys (mall l))) (hr:w'.ownsRow B 3 1 v ss.length ((ss.mergeSort (fun x y=>decide (x<=y))).map encZ)) :
  w'.ownsRow B 3 1 v (Jr.comes g.blocks.toNat l).length ((Jr.comes g.blocks.toNat l).map fun c=>.int .i64 c.1)/\(Jr.comes g.blocks.toNat l).length<=nn:=by
 have e:=keys_comes (g:=g) hl hown keyLaw Tryz.underlying3 hp
 have h1:ss.length=(Jr.comes g.blocks.toNat l).length:=by
  have:=congrArg List.length e;rw [List.length_mergeSort,List.length_map] at this;exact this
 have h2:=hp.length_eq
 have h3:=ownsMap_size hown
 have h4:(intKeys (mall l)).length=Maps.size (mall l):=by
  obtain ⟨es,he⟩:=(mall_rep l).map;rw [he];simp [intKeys,Maps.size]
 rw [e,h1,List.map_map] at hr
 exact ⟨hr,by omega⟩
theorem zeroStr (w:World):(zeroValue 9).run Tryz.prog w=.ok (.string ⟨#[]⟩) w:=by kernel_rfl
def Jr.Log.place (L:Jr.Log) (g:Geo.G):Nat:=(L.at_+L.used) % Jr.plc g
def Jr.Log.next (L:Jr.Log):Nat:=(L.seq+L.txns.length) % 18446744073709551616
def ReplayTold (Bd db:Nat) (y:Lay) (g:Geo.G) (D:Dev) (RES:Option Jr.Log) (w:World) (e:Ending) (w':World):Prop:=
 (RES=none/\e=.returned (.tuple #[.slice none 0 0,.int .i64 80])/\DevAt Bd w' db y D/\Only (devB db y) w w') ∨
 (∃ L,RES=some L/\L.txns = []/\e=.returned (.tuple #[.slice none 0 0,.int .i64 0])/\DevAt Bd w' db y D/\Only (devB db y) w w') ∨
 (∃ L,RES=some L/\L.txns ≠ []/\(Jr.doA (Jr.replayA g L.txns (L.place g) L.next) D).2 ≠ 0/\e=.returned (.tuple #[.slice none 0 0,.int .i64 (Jr.doA (Jr.replayA g L.txns (L.place g) L.next) D).2])/\DevAt Bd w' db y (Jr.doA (Jr.replayA g L.txns (L.place g) L.next) D).1/\Only (devB db y) w w') ∨
 (∃ L v,RES=some L/\L.txns ≠ []/\(Jr.doA (Jr.replayA g L.txns (L.place g) L.next) D).2=0/\e=.returned (.tuple #[v,.int .i64 0])/\OwnT w.heap.size w' v L.txns/\DevAt Bd w' db y (Jr.doA (Jr.replayA g L.txns (L.place g) L.next) D).1/\Only (devB db y) w w')
theorem Only.belowOf {S:List Nat} {w w':World} {M:Nat} (h:Only S w w') (hS:∀ k ∈ S,k < M):∀ {B:Nat} {e:TypeId} {size n:Nat} {v:Value} {xs:List Value},M<=B->w.ownsRow B e size v n xs->w'.ownsRow B e size v n xs:=by
 intro B e size n v xs hB ho;refine ⟨ho.1,ho.2.imp id fun ⟨g,cap,cur,hv,hg,hh,r⟩=>⟨g,cap,cur,hv,hg,?_,r⟩⟩;have hl:g < w.heap.size:=(Array.getElem?_eq_some_iff.1 hh).1;exact (h.block g hl (fun hm=>by have:=hS g hm;omega)).trans hh
theorem OwnT.only {S:List Nat} {w w':World} {M B:Nat} {v:Value} {ts:List Jr.Txn} (h:OwnT B w v ts) (ho:Only S w w') (hS:∀ k ∈ S,k < M) (hB:M<=B):OwnT B w' v ts:=by
 obtain ⟨xs,h1,h2⟩:=h;exact ⟨xs,ho.belowOf hS hB h1,h2.map (fun _ _ h=>ho.belowOf hS hB h) (fun _ _ h=>ho.belowOf hS hB h)⟩
theorem replay_bad {Bd db:Nat} {y:Lay} {D:Dev} (g:Geo.G) (w:World) (hD:DevAt Bd w db y D) (h:¬ (Geo.May g/\(D.kept.length:Int)=g.blocks)) :
  Calls Tryz.prog 15 #[.pointer (some ⟨db,0,none⟩),.agg (Geo.cells g)] w fun e w'=>e=.returned (.tuple #[.slice none 0 0,.int .i64 2])/\Below w.heap.size w w':=by
 have q:=hid (fun wz (hz:Below w.heap.size w wz)=>ringof_bad g wz (hD.below hz) h)
 clear hD h
 unfold Geo.cells at *
 obtain ⟨g1,g2,g3,g4,g5,g6,g7,g8,g9⟩:=g
 dsimp only at *
 have R0:=Row.new w 30 [.int .i64 g1,.int .i64 g2,.int .i64 g3,.int .i64 g4,.int .i64 g5,.int .i64 g6,.int .i64 g7,.int .i64 g8,.int .i64 g9] rfl
 have BA:Below w.heap.size w (w.alloc (.cells #[.int .i64 g1,.int .i64 g2,.int .i64 g3,.int .i64 g4,.int .i64 g5,.int .i64 g6,.int .i64 g7,.int .i64 g8,.int .i64 g9] 30)):=(Below.refl w.heap.size w).alloc (Nat.le_refl _) _
 have HBA:=hid BA
 obtain ⟨k0,k1,k2,k3,k4,k5,k6,k7,k8⟩:=R0.c9
 clear R0 BA
 go_enter Tryz.func15,Tryz.ntmps15
 go_wp2_with fail
 generalize w.alloc _=w1 at *
 refine (q.out _ HBA.out).mono ?_
 rintro e w2 ⟨rfl,hb2⟩
 have B2:=hid (below_next HBA.out hb2)
 clear hb2
 go_wp2_with fail
 go_ret2
 exact ⟨rfl,B2.out.alloc B2.out.size _⟩
theorem replay_ok {Bd db:Nat} {y:Lay} {D:Dev} (g:Geo.G) (w:World) (hD:DevAt Bd w db y D) (hg:Geo.May g) (hn:(D.kept.length:Int)=g.blocks) (hsz:sized D.now) (hlen:D.now.length=D.kept.length) (ha:D.acts+2000 < 1000000000000) :
  Calls Tryz.prog 15 #[.pointer (some ⟨db,0,none⟩),.agg (Geo.cells g)] w fun e w'=>ReplayTold Bd db y g D (Jr.readL g D.now) w e w':=by
 obtain ⟨i0,hi0,hz0,hz1,hz2⟩:=info_parts infoAct
 obtain ⟨RES,hRES⟩:∃ RES,Jr.readL g D.now=RES:=⟨_,rfl⟩
 rw [hRES]
 have hfits:Hid (∀ L,RES=some L->(∀ t ∈ L.txns,Fits (Geo.home g) t/\t.ch.length<=600/\t.rv.length<=20000)/\(L.txns.map fun t=>t.ch.length).sum<=600/\L.txns.length<=600/\L.used<=Jr.plc g/\L.at_ < Jr.plc g/\L.seq < 2 ^ 64/\L.txns.length<=L.used):=hid (fun L h=>readL_fits hg hsz (by omega) (hRES.trans h))
 have q:=hid (fun wz (hz:Below w.heap.size w wz)=>ringof_ok g wz (hD.below hz) hg hn)
 have qR:=hid (fun wz (hz:Below w.heap.size w wz)=>readlog_any db g hg wz (hD.below hz) hn hsz hlen)
 rw [hRES] at qR
 have qW:=hid (fun b s (hs:s.size<=9223372036854775807) wz=>ringwrite_any db g b s hs wz)
 have qH:=hid (fun n seq (h1:n<=4611686018427387904) (h2:seq < 2 ^ 64) wz=>begin_any db g hg n seq h1 h2 wz)
 have hdb:=hD.bounds
 have HDB:Hid (∀ k ∈ devB db y,k < w.heap.size):=hid (by simp [devB];omega)
 have qD:=hid (fun (wz:World) (v:Value) (l:List Jr.Act) (M:Nat) (hM:w.heap.size<=M) (hz:Below w.heap.size w wz) (hl:ActsAt M db wz v l) (h1:l.length<=1000)=>do_any (hD.below hz) M (fun k hk=>Nat.lt_of_lt_of_le (HDB.out k hk) hM) v l hl (by omega) (by omega))
 have HD:=hid hD
 have HG:=hid hg
 have hpl:=(Jr.plc_of hg).2.1
 have hlog:=hg.ok.2.1
 have TN:Hid (∀ w',RES=none->Below w.heap.size w w'->ReplayTold Bd db y g D RES w (.returned (.tuple #[.slice none 0 0,.int .i64 80])) w'):=hid (fun w' h hb=>.inl ⟨h,rfl,HD.out.below hb,Only.ofBelow hb⟩)
 have T0:Hid (∀ w' L,RES=some L->L.txns = []->Below w.heap.size w w'->ReplayTold Bd db y g D RES w (.returned (.tuple #[.slice none 0 0,.int .i64 0])) w'):=hid (fun w' L h h2 hb=>.inr (.inl ⟨L,h,h2,rfl,HD.out.below hb,Only.ofBelow hb⟩))
 have TE:Hid (∀ w' L (E:Int),RES=some L->L.txns ≠ []->E ≠ 0->(Jr.doA (Jr.replayA g L.txns (L.place g) L.next) D).2=E->DevAt Bd w' db y (Jr.doA (Jr.replayA g L.txns (L.place g) L.next) D).1->Only (devB db y) w w'->ReplayTold Bd db y g D RES w (.returned (.tuple #[.slice none 0 0,.int .i64 E])) w'):=hid (fun w' L E h h2 h3 h4 h5 h6=>.inr (.inr (.inl ⟨L,h,h2,by rw [h4];exact h3,by rw [h4],h5,h6⟩)))
 have TS:Hid (∀ w' L v,RES=some L->L.txns ≠ []->(Jr.doA (Jr.replayA g L.txns (L.place g) L.next) D).2=0->OwnT w.heap.size w' v L.txns->DevAt Bd w' db y (Jr.doA (Jr.replayA g L.txns (L.place g) L.next) D).1->Only (devB db y) w w'->ReplayTold Bd db y g D RES w (.returned (.tuple #[v,.int .i64 0])) w'):=hid (fun w' L v h h2 h3 h4 h5 h6=>.inr (.inr (.inr ⟨L,v,h,h2,h3,rfl,h4,h5,h6⟩)))
 generalize ReplayTold Bd db y g D RES w=P at *
 clear hD hn hsz hlen ha hdb hg hRES
 obtain ⟨G,hG⟩:∃ G,G=g:=⟨_,rfl⟩
 have HGE:=hid hG
 unfold ringV Geo.cells at *
 rw [<- hG] at hfits HG TE TS
 have hpl2:Jr.plc G<=511:=by rw [hG];exact hpl
 obtain ⟨PLN,hPLN⟩:∃ PLN,Jr.plc g=PLN:=⟨_,rfl⟩
 rw [hPLN] at qH
 have HPLN:Hid (Jr.plc G=PLN):=hid (by rw [hG];exact hPLN)
 clear hG hpl hPLN
 obtain ⟨g1,g2,g3,g4,g5,g6,g7,g8,g9⟩:=g
 dsimp only at *
 subst hlog
 have R0:=Row.new w 30 [.int .i64 g1,.int .i64 g2,.int .i64 g3,.int .i64 1,.int .i64 g5,.int .i64 g6,.int .i64 g7,.int .i64 g8,.int .i64 g9] rfl
 have BA:Below w.heap.size w (w.alloc (.cells #[.int .i64 g1,.int .i64 g2,.int .i64 g3,.int .i64 1,.int .i64 g5,.int .i64 g6,.int .i64 g7,.int .i64 g8,.int .i64 g9] 30)):=(Below.refl w.heap.size w).alloc (Nat.le_refl _) _
 have HBA:=hid BA
 obtain ⟨k0,k1,k2,k3,k4,k5,k6,k7,k8⟩:=R0.c9
 clear R0 BA
 go_enter Tryz.func15,Tryz.ntmps15
 go_wp2_with fail
 generalize w.alloc _=w1 at *
 refine (q.out _ HBA.out).mono ?_
 rintro e w2 ⟨rfl,hb2⟩
 have B2:=hid (below_next HBA.out hb2)
 clear hb2 q HBA k0 k1 k2 k3 k4 k5 k6 k7 k8
 have R2:=hid (Row.new w2 34 [.pointer (some ⟨db,0,none⟩),.int .i64 g1,.int .i64 g2,.int .i64 g3,.int .i64 1,.int .i64 g5,.int .i64 g6,.int .i64 g7,.int .i64 g8,.int .i64 g9] rfl)
 have B3:=hid (below_box B2.out (.cells #[.pointer (some ⟨db,0,none⟩),.int .i64 g1,.int .i64 g2,.int .i64 g3,.int .i64 1,.int .i64 g5,.int .i64 g6,.int .i64 g7,.int .i64 g8,.int .i64 g9] 34))
 have hs2:=B2.out.size
 obtain ⟨r0,r1,r2,r3,r4,r5,r6,r7,r8,r9⟩:=R2.out.c10
 go_upto_region 4 with fail
 generalize w2.alloc _=w3 at *
 have hs3:w.heap.size<=w3.heap.size:=B3.out.size
 have qR3:=hid (qR.out _ B3.out)
 clear qR
 go_wp2_with fail
 refine qR3.out.mono ?_
 rintro e w4 hT
 rcases hT with ⟨hRn,rfl,hb4⟩ | ⟨L,v,hRs,rfl,hb4,hO⟩
 ·have B4:=hid (below_next B3.out hb4);have HT:=hid (fun w' hb=>TN.out w' hRn hb);clear hb4 TN T0 TE TS R2 B3 qR3 hRn r0 r1 r2 r3 r4 r5 r6 r7 r8 r9;unfold stV;go_wp2_with fail;exact HT.out _ (below_box B4.out _)
 have HRS:=hid hRs
 obtain ⟨hf1,hf2,hf3,hf4,hf5,hf6,hf7⟩:=hfits.out L hRs
 have HF1:=hid hf1
 have HF2:=hid hf2
 have B4:=hid (below_next B3.out hb4)
 have R4:=hid (R2.out.below hb4 R2.out.lt)
 have HO:=hid hO
 obtain ⟨av,cv,rfl⟩:∃ ad cp,v=.slice ad L.txns.length cp:=by
  obtain ⟨_,h,_⟩:=hO;exact own_form h
 obtain ⟨SQ,hSQ⟩:∃ SQ,(L.seq+L.txns.length) % 18446744073709551616=SQ:=⟨_,rfl⟩
 have hsq:SQ < 2 ^ 64:=by rw [<- hSQ];exact Nat.mod_lt _ (by decide)
 unfold stV
 rw [hSQ]
 have HSQ:=hid hSQ
 have hs24:w2.heap.size < w4.heap.size:=R4.out.lt
 clear hb4 hO hRs hf1 hf2 TN R2 B3 qR3 hSQ r0 r1 r2 r3 r4 r5 r6 r7 r8 r9
 have X5:=hid (Row.new w4 125 [.int .i64 (L.at_:Int),.int .i64 (L.used:Int),.int .u64 (SQ:Int),.slice av L.txns.length cv] rfl)
 have B5:=hid (below_box B4.out (.cells #[.int .i64 (L.at_:Int),.int .i64 (L.used:Int),.int .u64 (SQ:Int),.slice av L.txns.length cv] 125))
 have R5:=hid (R4.out.alloc (.cells #[.int .i64 (L.at_:Int),.int .i64 (L.used:Int),.int .u64 (SQ:Int),.slice av L.txns.length cv] 125))
 have O5:=hid (OwnT.new1 HO.out (.cells #[.int .i64 (L.at_:Int),.int .i64 (L.used:Int),.int .u64 (SQ:Int),.slice av L.txns.length cv] 125))
 have x3:=X5.out.cellAt 3 rfl
 by_cases hnil:L.txns = []
 ·have h0:L.txns.length=0:=(by rw [hnil];rfl);have HT:=hid (fun w' hb=>T0.out w' L HRS.out hnil hb);rw [h0] at *;clear hnil T0 TE TS HSQ h0 O5 R5 X5 HO;go_wp2_with fail;exact HT.out _ (below_box B4.out _)
 have h0:0 < L.txns.length:=List.length_pos_iff.2 hnil
 have HNIL:=hid hnil
 clear hnil T0
 go_upto_region 8 with fail
 have hcN:chgs L.txns<=600:=HF2.out
 have hqC:=hid (comes_any G HG.out (.slice av L.txns.length cv) L.txns (w4.alloc (.cells #[.int .i64 (L.at_:Int),.int .i64 (L.used:Int),.int .u64 (SQ:Int),.slice av L.txns.length cv] 125)) O5.out.at (by omega) (fun t ht=>(HF1.out t ht).1) (by omega) (fun t ht=>Nat.le_trans (HF1.out t ht).2.2 (by decide)))
 have hs45:w4.heap.size < (w4.alloc (.cells #[.int .i64 (L.at_:Int),.int .i64 (L.used:Int),.int .u64 (SQ:Int),.slice av L.txns.length cv] 125)).heap.size:=by simp
 generalize w4.alloc _=w5 at *
 go_wp2_with fail
 refine hqC.out.mono ?_
 rintro e w6 ⟨Bm,rfl,hBm,hM,hb6⟩
 clear hqC x3
 have X6:=hid (X5.out.below hb6 X5.out.lt)
 have R6:=hid (R5.out.below hb6 R5.out.lt)
 have O6:=hid (show OwnT w3.heap.size w6 (.slice av L.txns.length cv) L.txns from O5.out.below hb6)
 have B6:=hid (below_next B5.out hb6)
 have HM:=hid hM
 clear hb6 hM X5 R5 O5 B5
 go_wp2_with fail
 refine (mapkeys_any (some Bm) w6).mono ?_
 rintro e w7 ⟨rfl,rfl⟩
 have hqS:=hid (sortedkeys_any w6.heap.size Bm _ (mall L.txns) _ (w6.alloc (.cells #[.map (some Bm)] 129)) (by simp) (World.cell?_alloc_at (w:=w6) _ _ _ 0 rfl) (HM.out.alloc _) (Nat.le_trans (ownsMap_size HM.out) (by unfold maxLen;omega)) (by have:=ownsMap_size HM.out;omega))
 have X7:=hid (X6.out.alloc (.cells #[.map (some Bm)] 129))
 have R7:=hid (R6.out.alloc (.cells #[.map (some Bm)] 129))
 have O7:=hid (OwnT.new1 O6.out (.cells #[.map (some Bm)] 129))
 have B7:=hid (below_box B6.out (.cells #[.map (some Bm)] 129))
 have M7:=hid (HM.out.alloc (.cells #[.map (some Bm)] 129))
 clear X6 R6 O6 B6 HM
 generalize w6.alloc _=w7 at *
 go_wp2_with fail
 refine hqS.out.mono ?_
 rintro e w8 ⟨vk,ss,rfl,hperm,hrow,hb8⟩
 clear hqS
 obtain ⟨hK,hCl⟩:=sorted_row (g:=G) (fun t ht=>(HF1.out t ht).1) M7.out hperm hrow
 have HKEYS:=hid hK
 have X8:=hid (X7.out.below hb8 X7.out.lt)
 have R8:=hid (R7.out.below hb8 R7.out.lt)
 have O8:=hid (show OwnT w3.heap.size w8 (.slice av L.txns.length cv) L.txns from O7.out.below hb8)
 have M8:=hid (ownsMap_below M7.out hb8)
 have B8:=hid (below_next B7.out hb8)
 obtain ⟨ak,ck,rfl⟩:=own_form hK
 have hs8:w.heap.size<=w8.heap.size:=B8.out.size
 clear hb8 hperm hrow hK X7 R7 O7 B7 M7
 obtain ⟨C,hC⟩:∃ C,Jr.comes G.blocks.toNat L.txns=C:=⟨_,rfl⟩
 have HC:=hid hC
 rw [hC] at HKEYS hCl ⊢
 clear hC
 have hCl2:C.length<=600:=by omega
 go_wp2_with fail
 go_loopw [9,44] (fun t9 t44 wr=>∃ (i:Nat),i<=C.length/\t44=.int .i64 (i:Int)/\Hid (OwnActs w8.heap.size db wr t9 ((C.take i).map Jr.wr))/\Hid (Below w8.heap.size w8 wr)) (fun _ t44 _=>C.length - (intOf t44).toNat)
 case atStart=>exact ⟨0,Nat.zero_le _,rfl,hid (OwnActs.nil _ _ _),hid (Below.refl _ _)⟩
 case round =>
  obtain ⟨i,hi,rfl,hO,hB⟩:=hrel;by_cases hlt:i < C.length
  ·have i0':(0:Int)<=(i:Int):=(by omega);have i1':(i:Int) < (C.length:Int):=(by omega);obtain ⟨c,hc⟩:∃ c,C[i]?=some c:=⟨_,List.getElem?_eq_getElem hlt⟩;have hcm:c ∈ Jr.comes G.blocks.toNat L.txns:=(by rw [HC.out];exact List.mem_of_getElem? hc);obtain ⟨bn,hb1,hb2,hlook⟩:=Jr.comes_mem.1 hcm;obtain ⟨hhome,hc128⟩:=look_fits _ L.txns rfl (fun t ht=>(HF1.out t ht).1) hlook;have hgo:=HG.out.ok.1;unfold Geo.asked at hgo;have HKEY:=hid (show keyOf Tryz.prog 3 (.int .i64 c.1)=some (.int .i64 c.1) from keyOf_int_mk Tryz.underlying3 (WalkArith.wf_i64 (by omega)));have HAT:=hid (show (mall L.txns).atKey (.int .i64 c.1) (.lit (.string []))=.lit (.string c.2.data.toList) from by rw [(mall_rep L.txns).at_ c.1,hlook]);have HTK:=hid (show (C.take (i+1)).map Jr.wr=(C.take i).map Jr.wr ++ [Jr.Act.write c.1 c.2] from by
    obtain ⟨h1,rfl⟩:=List.getElem?_eq_some_iff.1 hc;rw [List.take_succ_eq_append_getElem h1,List.map_append];rfl)
   have hM:=hid (ownsMap_below M8.out hB.out);have hK:=own_below HKEYS.out hB.out;obtain ⟨gk,ck2,ek⟩:=own_some hK (by omega);cases ek;have hcell:=own_cellAt hK (j:=i) (u:=.int .i64 c.1) (by rw [List.getElem?_map,hc];rfl);have hR:=hid (R8.out.below hB.out R8.out.lt);have hRR:=hR.out;obtain ⟨r0,r1,r2,r3,r4,r5,r6,r7,r8,r9⟩:=hRR.c10;obtain ⟨h0,xs,hown,hxa⟩:=hO.out;have hll:((C.take i).map Jr.wr).length=i:=(by rw [List.length_map,List.length_take];omega);rw [hll] at hown;have HLL:=hid hll;obtain ⟨a9,c9,rfl⟩:=own_form hown;have HOW:=hid hown;have HXA:=hid hxa;have H0:=hid h0;have qWc:=hid (qW.out c.1 c.2 (by omega));obtain ⟨c1,c2⟩:=c;dsimp only at *;clear hown hxa h0 hO hc hcm hb1 hb2 hlook hhome hc128 hgo hRR hll hK;go_wp2_with (first | (at_lookup;refine wpList_lookup_str _ rfl _ _ 129 rfl 3 9 keyLaw Tryz.underlying129 Tryz.underlying9 (zeroStr _) Bm _ _ rfl hM.out _ _ rfl HKEY.out c2 HAT.out ?_) | (go_at_call 63;(with_reducible refine (qWc.out _).mono ?_);rintro e wc ⟨u,rfl,hu,bc⟩;have hu2:=hu;obtain ⟨x1,x2,x3,rfl,-⟩:=hu2;have G1:=hid (own_new1 (own_below HOW.out bc) (.cells #[.func (.func 102) #[] #[.pointer (some ⟨x1,0,none⟩),.pointer (some ⟨x2,0,none⟩),.pointer (some ⟨x3,0,none⟩)]] 135));have NN:=hid (box1 wc (.func (.func 102) #[] #[.pointer (some ⟨x1,0,none⟩),.pointer (some ⟨x2,0,none⟩),.pointer (some ⟨x3,0,none⟩)]) 135);have H1:=act_one hu;have HU:=hid hu;have hsz:w8.heap.size<=(wc.alloc (.cells #[.func (.func 102) #[] #[.pointer (some ⟨x1,0,none⟩),.pointer (some ⟨x2,0,none⟩),.pointer (some ⟨x3,0,none⟩)]] 135)).heap.size:=by have h1:=bc.size;have h2:=hB.out.size;simp;omega) | (at_builtin;refine wpList_append_own _ rfl (.tmp 48) (.tmp 55) 128 rfl w8.heap.size 135 i0 .nilFunc 1 8 Tryz.underlying128 hi0 hz0 hz1 hz2 rfl (by decide) _ i _ rfl G1.out ⟨wc.heap.size,0,none⟩ 1 1 [.func (.func 102) #[] #[.pointer (some ⟨x1,0,none⟩),.pointer (some ⟨x2,0,none⟩),.pointer (some ⟨x3,0,none⟩)]] rfl rfl NN.out H1 (by unfold maxLen;omega) (by omega) hsz ?_;intro v5 w5 hown hgrow _) | fail "none");have P5:=hid (OwnActs.push HLL.out H0.out HOW.out HXA.out bc HU.out hB.out.size hgrow hown);have B5:=hid (((hB.out.trans (bc.mono hB.out.size)).alloc (Nat.le_trans hB.out.size bc.size) _).grown hgrow hsz (fun k hk=>(World.ownsRow.lt G1.out k hk).1));exact ⟨⟨i+1,by omega,by go_num,hid (by rw [HTK.out];exact P5.out),B5⟩,by simp [intOf];omega⟩
  obtain rfl:i=C.length:=(by omega);rw [List.take_length] at hO;have hX:=(X8.out.below hB.out X8.out.lt);have hR:=(R8.out.below hB.out R8.out.lt);have hx0:=hX.cellAt 0 rfl;have hx1:=hX.cellAt 1 rfl;have hx2:=hX.cellAt 2 rfl;obtain ⟨r0,r1,r2,r3,r4,r5,r6,r7,r8,r9⟩:=hR.c10;obtain ⟨h0',xs,hown,hxa⟩:=hO.out;rw [List.length_map] at hown;obtain ⟨a9,c9,rfl⟩:=own_form hown;have HOW:=hid hown;have HXA:=hid hxa;have H0:=hid h0';have hbs:w8.heap.size<=wr.heap.size:=hB.out.size;have qHc:=hid (show ∀ wz,Calls Tryz.prog 65 #[.agg #[.pointer (some ⟨db,0,none⟩),.int .i64 g1,.int .i64 g2,.int .i64 g3,.int .i64 1,.int .i64 g5,.int .i64 g6,.int .i64 g7,.int .i64 g8,.int .i64 g9],.int .i64 ((L.at_:Int)+(L.used:Int)),.int .u64 (SQ:Int)] wz _ from fun wz=>by
   have:=qH.out (L.at_+L.used) SQ (by omega) hsq wz;rw [show ((L.at_+L.used:Nat):Int)=(L.at_:Int)+(L.used:Int) from by omega] at this;exact this)
  have hw1:IntKind.i64.wrap ((L.at_:Int)+(L.used:Int))=(L.at_:Int)+(L.used:Int):=IntWalk.i64_in _ (by omega);have HFA:Hid (Jr.replayA G L.txns (L.place G) L.next=C.map Jr.wr ++ Jr.headA ((L.at_+L.used) % PLN) SQ):=hid (by
   unfold Jr.replayA Jr.Log.place Jr.Log.next;rw [HC.out,HPLN.out,HSQ.out])
  have HANE:Hid (Jr.headA ((L.at_+L.used) % PLN) SQ ≠ []):=hid (by unfold Jr.headA;simp);have HAL:Hid ((Jr.headA ((L.at_+L.used) % PLN) SQ).length=3):=hid rfl;generalize Jr.headA ((L.at_+L.used) % PLN) SQ=HA at *;obtain ⟨FA,hFE⟩:∃ FA,Jr.replayA G L.txns (L.place G) L.next=FA:=⟨_,rfl⟩;rw [hFE] at HFA;have HFE:=hid hFE;clear hFE;clear hown hxa h0' hO hX hR qH;go_wp2_with fail;refine (qHc.out _).mono ?_;rintro e wa ⟨v2,rfl,ha2,ba⟩;obtain ⟨ad2,cap2,rfl⟩:=ha2.form;obtain ⟨gb,off,rfl,hnl2,news,hnl,hnn,hna,hn1⟩:=ha2.vals HANE.out;have hl3:=HAL.out;have O2:=hid (own_below HOW.out ba);have HNN:=hid hnn;have HNL:=hid (show news.length=HA.length * 1 by omega);have HNA:=hid hna;have BA2:=hid (hB.out.trans (ba.mono hB.out.size));have hbs2:w8.heap.size<=wa.heap.size:=BA2.out.size;have HBS:=hid hbs;have hH0:0 < HA.length:=(by omega);have HXB:=hid (fun (j:Nat) (a:Jr.Act) (h:(C.map Jr.wr)[j]?=some a)=>by
   obtain ⟨u,hu,hx⟩:=HXA.out j a h;exact (⟨u,hu,hx.above (Above.ofBelow ba)⟩:∃ u:Value,xs[j]?=some u/\ActAt w8.heap.size db wa u a))
  clear ha2 hnl2 hnl hnn hna hB ba HOW HXA hw1 qHc hx0 hx1 hx2 r0 r1 r2 r3 r4 r5 r6 r7 r8 r9;have hl4:C.length+HA.length<=1000:=by omega
  have HL3:=hid hl3;clear hl3;go_wp2_with (first | (at_builtin;refine wpList_append_own _ rfl (.tmp 58) (.tmp 67) 128 rfl w8.heap.size 135 i0 .nilFunc 1 8 Tryz.underlying128 hi0 hz0 hz1 hz2 rfl (by decide) _ C.length _ rfl O2.out ⟨gb,off,none⟩ HA.length cap2 news rfl HNL.out HNN.out hn1 (by unfold maxLen;omega) (by omega) hbs2 ?_;intro v5 w5 hown hgrow _) | fail "none");have hA5:=OwnActs.grow (l:=C.map Jr.wr) (r:=HA) H0.out (by rw [List.length_map];exact O2.out) HXB.out (by rw [List.length_map];have:=O2.out.1;omega) (fun j a h=>by obtain ⟨u,h1,h2⟩:=HNA.out j a h;exact ⟨u,h1,h2.mono HBS.out⟩) HANE.out hgrow (by rw [List.length_map];exact hown);rw [<- HFA.out] at hA5;have B5:=BA2.out.grown hgrow hbs2 (fun k hk=>(World.ownsRow.lt O2.out k hk).1);have qD5:=hid (qD.out w5 v5 FA w8.heap.size hs8 (below_next B8.out (B5.mono (Nat.le_refl _))) hA5.at (by rw [HFA.out,List.length_append,List.length_map];omega));have HB5:=hid B5;clear hown hgrow O2 hA5 B5 qD;obtain ⟨RE,hRE⟩:∃ RE,(Jr.doA FA D).2=RE:=⟨_,rfl⟩;obtain ⟨RD,hRD⟩:∃ RD,(Jr.doA FA D).1=RD:=⟨_,rfl⟩;rw [hRE,hRD] at qD5;have HRE:=hid hRE;have HRD:=hid hRD;clear hRE hRD;go_wp2_with fail;refine qD5.out.mono ?_;rintro e w6 ⟨rfl,h1,h2⟩;have HD6:=hid h1;have HO6:=hid ((Only.ofBelow (below_next B8.out HB5.out)).trans h2);have hdb:∀ k ∈ devB db y,k < w.heap.size:=HDB.out;have HX6:=hid (h2.row (X8.out.below HB5.out X8.out.lt) (fun hm=>by have:=hdb _ hm;omega));have HT6:=hid ((OwnT.only (show OwnT w3.heap.size w5 (.slice av L.txns.length cv) L.txns from O8.out.below HB5.out) h2 hdb (by omega)).mono (show w.heap.size<=w3.heap.size by omega));clear h1 h2 qD5;by_cases hE:RE=0
  ·subst hE;have x3:=HX6.out.cellAt 3 rfl;have HP:=hid (TS.out w6 L _ HRS.out HNIL.out (by rw [HFE.out];exact HRE.out) HT6.out (by rw [HFE.out,HRD.out];exact HD6.out) HO6.out);clear HX6 TE TS;go_wp2_with fail;exact HP.out
  have HP:=hid (TE.out w6 L RE HRS.out HNIL.out hE (by rw [HFE.out];exact HRE.out) (by rw [HFE.out,HRD.out];exact HD6.out) HO6.out);clear HX6 TE TS;go_wp2_with fail;exact HP.out
structure LogV where
 place:Nat
 used:Nat
 seq:Nat
 bad:Int
 deriving DecidableEq
def logC (db:Nat) (g:Geo.G) (V:LogV):List Value:=[.bool true,.pointer (some ⟨db,0,none⟩),.int .i64 g.blocks,.int .i64 g.log,.int .i64 g.inodes,.int .i64 g.logAt,.int .i64 g.mapAt,.int .i64 g.mapLen,.int .i64 g.tableAt,.int .i64 g.tableLen,.int .i64 g.dataAt,.int .i64 (V.place:Int),.int .i64 (V.used:Int),.int .u64 (V.seq:Int),.int .i64 V.bad]
def LogAt (lb db:Nat) (g:Geo.G) (V:LogV) (w:World):Prop:=Row w lb 38 (logC db g V)
def Jr.Log.v (L:Jr.Log) (g:Geo.G):LogV:=⟨L.place g,L.used,L.next,0⟩
def OpenTold (db:Nat) (g:Geo.G) (RES:Option Jr.Log) (w:World) (e:Ending) (w':World):Prop:=
 (RES=none/\e=.returned (.tuple #[.pointer none,.int .i64 80])/\Below w.heap.size w w') ∨
 (∃ L lb,RES=some L/\e=.returned (.tuple #[.pointer (some ⟨lb,0,none⟩),.int .i64 0])/\LogAt lb db g (L.v g) w'/\w.heap.size<=lb/\Below w.heap.size w w')
theorem openlog_ok {Bd db:Nat} {y:Lay} {D:Dev} (g:Geo.G) (w:World) (hD:DevAt Bd w db y D) (hg:Geo.May g) (hn:(D.kept.length:Int)=g.blocks) (hsz:sized D.now) (hlen:D.now.length=D.kept.length) :
  Calls Tryz.prog 16 #[.pointer (some ⟨db,0,none⟩),.agg (Geo.cells g)] w fun e w'=>OpenTold db g (Jr.readL g D.now) w e w':=by
 obtain ⟨RES,hRES⟩:∃ RES,Jr.readL g D.now=RES:=⟨_,rfl⟩
 rw [hRES]
 have hfits:Hid (∀ L,RES=some L->L.used<=Jr.plc g/\L.at_ < Jr.plc g):=hid (fun L h=>by
  have:=readL_fits hg hsz (by omega) (hRES.trans h);exact ⟨this.2.2.2.1,this.2.2.2.2.1⟩)
 have q:=hid (fun wz (hz:Below w.heap.size w wz)=>ringof_ok g wz (hD.below hz) hg hn)
 have qR:=hid (fun wz (hz:Below w.heap.size w wz)=>readlog_any db g hg wz (hD.below hz) hn hsz hlen)
 rw [hRES] at qR
 have qP:=hid (places_any (some ⟨db,0,none⟩) g hg)
 obtain ⟨hp1,hp2,-⟩:=Jr.plc_of hg
 have hlog:=hg.ok.2.1
 have TN:Hid (∀ w',RES=none->Below w.heap.size w w'->OpenTold db g RES w (.returned (.tuple #[.pointer none,.int .i64 80])) w'):=hid (fun w' h hb=>.inl ⟨h,rfl,hb⟩)
 have TS:Hid (∀ w' L lb,RES=some L->LogAt lb db g (L.v g) w'->w.heap.size<=lb->Below w.heap.size w w'->OpenTold db g RES w (.returned (.tuple #[.pointer (some ⟨lb,0,none⟩),.int .i64 0])) w'):=hid (fun w' L lb h h2 h3 h4=>.inr ⟨L,lb,h,rfl,h2,h3,h4⟩)
 unfold LogAt logC Jr.Log.v Jr.Log.place Jr.Log.next at TS
 generalize OpenTold db g RES w=P at *
 clear hD hn hsz hlen hg hRES
 generalize Jr.plc g=PL at *
 unfold ringV Geo.cells at *
 obtain ⟨g1,g2,g3,g4,g5,g6,g7,g8,g9⟩:=g
 dsimp only at *
 subst hlog
 have R0:=Row.new w 30 [.int .i64 g1,.int .i64 g2,.int .i64 g3,.int .i64 1,.int .i64 g5,.int .i64 g6,.int .i64 g7,.int .i64 g8,.int .i64 g9] rfl
 have BA:Below w.heap.size w (w.alloc (.cells #[.int .i64 g1,.int .i64 g2,.int .i64 g3,.int .i64 1,.int .i64 g5,.int .i64 g6,.int .i64 g7,.int .i64 g8,.int .i64 g9] 30)):=(Below.refl w.heap.size w).alloc (Nat.le_refl _) _
 have HBA:=hid BA
 obtain ⟨k0,k1,k2,k3,k4,k5,k6,k7,k8⟩:=R0.c9
 clear R0 BA
 go_enter Tryz.func16,Tryz.ntmps16
 go_wp2_with fail
 generalize w.alloc _=w1 at *
 refine (q.out _ HBA.out).mono ?_
 rintro e w2 ⟨rfl,hb2⟩
 have B2:=hid (below_next HBA.out hb2)
 clear hb2 q HBA k0 k1 k2 k3 k4 k5 k6 k7 k8
 have R2:=hid (Row.new w2 34 [.pointer (some ⟨db,0,none⟩),.int .i64 g1,.int .i64 g2,.int .i64 g3,.int .i64 1,.int .i64 g5,.int .i64 g6,.int .i64 g7,.int .i64 g8,.int .i64 g9] rfl)
 have B3:=hid (below_box B2.out (.cells #[.pointer (some ⟨db,0,none⟩),.int .i64 g1,.int .i64 g2,.int .i64 g3,.int .i64 1,.int .i64 g5,.int .i64 g6,.int .i64 g7,.int .i64 g8,.int .i64 g9] 34))
 have hs2:=B2.out.size
 obtain ⟨r0,r1,r2,r3,r4,r5,r6,r7,r8,r9⟩:=R2.out.c10
 go_upto_region 4 with fail
 generalize w2.alloc _=w3 at *
 have qR3:=hid (qR.out _ B3.out)
 clear qR
 go_wp2_with fail
 refine qR3.out.mono ?_
 rintro e w4 hT
 rcases hT with ⟨hRn,rfl,hb4⟩ | ⟨L,v,hRs,rfl,hb4,hO⟩
 ·have B4:=hid (below_next B3.out hb4);have HT:=hid (fun w' hb=>TN.out w' hRn hb);clear hb4 TN TS R2 B3 qR3 hRn r0 r1 r2 r3 r4 r5 r6 r7 r8 r9;unfold stV;go_wp2_with fail;exact HT.out _ (below_box B4.out _)
 have HRS:=hid hRs
 obtain ⟨hf4,hf5⟩:=hfits.out L hRs
 have B4:=hid (below_next B3.out hb4)
 have R4:=hid (R2.out.below hb4 R2.out.lt)
 obtain ⟨av,cv,rfl⟩:∃ ad cp,v=.slice ad L.txns.length cp:=by
  obtain ⟨_,h,_⟩:=hO;exact own_form h
 obtain ⟨SQ,hSQ⟩:∃ SQ,(L.seq+L.txns.length) % 18446744073709551616=SQ:=⟨_,rfl⟩
 unfold stV
 rw [hSQ]
 have HT:=hid (fun w' lb=>TS.out w' L lb hRs)
 rw [hSQ] at HT
 have hs24:w2.heap.size < w4.heap.size:=R4.out.lt
 clear hb4 hO hRs TN R2 B3 qR3 hSQ TS r0 r1 r2 r3 r4 r5 r6 r7 r8 r9
 have X5:=hid (Row.new w4 125 [.int .i64 (L.at_:Int),.int .i64 (L.used:Int),.int .u64 (SQ:Int),.slice av L.txns.length cv] rfl)
 have B5:=hid (below_box B4.out (.cells #[.int .i64 (L.at_:Int),.int .i64 (L.used:Int),.int .u64 (SQ:Int),.slice av L.txns.length cv] 125))
 have R5:=hid (R4.out.alloc (.cells #[.int .i64 (L.at_:Int),.int .i64 (L.used:Int),.int .u64 (SQ:Int),.slice av L.txns.length cv] 125))
 go_upto_region 7 with fail
 generalize w4.alloc _=w5 at *
 have k0:=R5.out.cellAt 0 rfl
 obtain ⟨k0,k1,k2,k3,k4,k5,k6,k7,k8,k9⟩:=R5.out.c10
 have x0:=X5.out.cellAt 0 rfl;have x1:=X5.out.cellAt 1 rfl;have x2:=X5.out.cellAt 2 rfl
 have hw1:IntKind.i64.wrap ((L.at_:Int)+(L.used:Int))=((L.at_+L.used:Nat):Int):=by rw [IntWalk.i64_in _ (by omega)];omega
 have hmod:((L.at_+L.used:Nat):Int).tmod (PL:Int)=(((L.at_+L.used) % PL:Nat):Int):=by rw [Int.tmod_eq_emod_of_nonneg (by omega)];omega
 have hmod2:((L.at_+L.used:Nat):Int) % (PL:Int)=(((L.at_+L.used) % PL:Nat):Int):=by omega
 have hlt:=Nat.mod_lt (L.at_+L.used) (show 0 < PL by omega)
 have hP0:¬ ((PL:Nat):Int)=0:=by omega
 have hP1:¬ PL=0:=by omega
 have hw2:IntKind.i64.wrap ((((L.at_+L.used) % PL:Nat):Int))=(((L.at_+L.used) % PL:Nat):Int):=IntWalk.i64_in _ (by omega)
 have hmod3:((L.at_:Int)+(L.used:Int)).tmod (PL:Int)=(((L.at_+L.used) % PL:Nat):Int):=by rw [<- hmod,show ((L.at_+L.used:Nat):Int)=(L.at_:Int)+(L.used:Int) from by omega]
 generalize (L.at_+L.used) % PL=PLACE at *
 go_region_held3 (fun w'=>w'.cell? ⟨w2.heap.size,0,none⟩=some (.pointer (some ⟨db,0,none⟩))/\w'.cell? ⟨w2.heap.size,1,none⟩=some (.int .i64 g1)/\w'.cell? ⟨w2.heap.size,2,none⟩=some (.int .i64 g2)/\w'.cell? ⟨w2.heap.size,3,none⟩=some (.int .i64 g3)/\w'.cell? ⟨w2.heap.size,4,none⟩=some (.int .i64 1)/\w'.cell? ⟨w2.heap.size,5,none⟩=some (.int .i64 g5)/\w'.cell? ⟨w2.heap.size,6,none⟩=some (.int .i64 g6)/\w'.cell? ⟨w2.heap.size,7,none⟩=some (.int .i64 g7)/\w'.cell? ⟨w2.heap.size,8,none⟩=some (.int .i64 g8)/\w'.cell? ⟨w2.heap.size,9,none⟩=some (.int .i64 g9)/\w'.cell? ⟨w4.heap.size,0,none⟩=some (.int .i64 (L.at_:Int))/\w'.cell? ⟨w4.heap.size,1,none⟩=some (.int .i64 (L.used:Int))/\w'.cell? ⟨w4.heap.size,2,none⟩=some (.int .u64 (SQ:Int)))
  (first | exact ⟨k0,k1,k2,k3,k4,k5,k6,k7,k8,k9,x0,x1,x2⟩ | exact ⟨R6.cellAt 0 rfl,R6.cellAt 1 rfl,R6.cellAt 2 rfl,R6.cellAt 3 rfl,R6.cellAt 4 rfl,R6.cellAt 5 rfl,R6.cellAt 6 rfl,R6.cellAt 7 rfl,R6.cellAt 8 rfl,R6.cellAt 9 rfl,X6.cellAt 0 rfl,X6.cellAt 1 rfl,X6.cellAt 2 rfl⟩ | exact ⟨(R6.alloc _).cellAt 0 rfl,(R6.alloc _).cellAt 1 rfl,(R6.alloc _).cellAt 2 rfl,(R6.alloc _).cellAt 3 rfl,(R6.alloc _).cellAt 4 rfl,(R6.alloc _).cellAt 5 rfl,(R6.alloc _).cellAt 6 rfl,(R6.alloc _).cellAt 7 rfl,(R6.alloc _).cellAt 8 rfl,(R6.alloc _).cellAt 9 rfl,(X6.alloc _).cellAt 0 rfl,(X6.alloc _).cellAt 1 rfl,(X6.alloc _).cellAt 2 rfl⟩)
  (first | (go_at_call 66;refine (qP.out _).mono ?_;rintro e w6 ⟨rfl,hb6'⟩;have hb6:Below w5.heap.size w5 w6:=⟨hb6'.os,hb6'.tape,hb6'.output,hb6'.size,hb6'.block⟩;have R6:=R5.out.below hb6 R5.out.lt;have X6:=X5.out.below hb6 X5.out.lt) | fail "none")
 have B6:=hid (below_next B5.out hb6)
 have hs6:w.heap.size<=w6.heap.size:=B6.out.size
 try rw [hmod3]
 clear hmod hmod2 hmod3 hw1 hw2 R6 X6 hb6 hb6'
 go_wp2_with fail
 exact HT.out _ _ (Row.new w6 38 [.bool true,.pointer (some ⟨db,0,none⟩),.int .i64 g1,.int .i64 g2,.int .i64 g3,.int .i64 1,.int .i64 g5,.int .i64 g6,.int .i64 g7,.int .i64 g8,.int .i64 g9,.int .i64 (PLACE:Int),.int .i64 (L.used:Int),.int .u64 (SQ:Int),.int .i64 0] rfl) hs6 (below_box B6.out _)
theorem logthere_any {lb db:Nat} {g:Geo.G} {V:LogV} (w:World) (h:LogAt lb db g V w):Calls Tryz.prog 67 #[.pointer (some ⟨lb,0,none⟩)] w fun e w'=>e=.returned (.bool true)/\w=w':=by
 have c0:=h.cellAt 0 rfl;clear h;go_enter Tryz.func67,Tryz.ntmps67;go_wp2_with fail;go_ret;exact ⟨rfl,rfl⟩
theorem next_any {lb db:Nat} {g:Geo.G} {V:LogV} (w:World) (h:LogAt lb db g V w):Calls Tryz.prog 18 #[.pointer (some ⟨lb,0,none⟩)] w fun e w'=>e=.returned (.int .u64 (V.seq:Int))/\w=w':=by
 have c13:=h.cellAt 13 rfl;have q:=hid (logthere_any w h);clear h;go_enter Tryz.func18,Tryz.ntmps18;go_wp2_with (first | (go_at_call 67;refine q.out.mono ?_;rintro e w1 ⟨rfl,rfl⟩) | fail "none");go_ret;exact ⟨rfl,rfl⟩
theorem room_any {lb db:Nat} {g:Geo.G} {V:LogV} (hg:Geo.May g) (w:World) (h:LogAt lb db g V w) (hu:V.used<=100000):Calls Tryz.prog 17 #[.pointer (some ⟨lb,0,none⟩)] w fun e w'=>e=.returned (.int .i64 ((Jr.plc g:Nat) - (V.used:Int)))/\Below w.heap.size w w':=by
 have q:=hid (logthere_any w h);have qP:=hid (places_any (some ⟨db,0,none⟩) g hg);obtain ⟨hp1,hp2,-⟩:=Jr.plc_of hg;have hlog:=hg.ok.2.1;unfold LogAt logC at h;clear hg;generalize Jr.plc g=PL at *;unfold ringV at *;obtain ⟨g1,g2,g3,g4,g5,g6,g7,g8,g9⟩:=g;obtain ⟨v1,v2,v3,v4⟩:=V;dsimp only at *;subst hlog;have c0:=h.cellAt 1 rfl;have c1:=h.cellAt 2 rfl;have c2:=h.cellAt 3 rfl;have c3:=h.cellAt 4 rfl;have c4:=h.cellAt 5 rfl;have c5:=h.cellAt 6 rfl;have c6:=h.cellAt 7 rfl;have c7:=h.cellAt 8 rfl;have c8:=h.cellAt 9 rfl;have c9:=h.cellAt 10 rfl;have c12:=h.cellAt 12 rfl;have H:=hid h;clear h;go_enter Tryz.func17,Tryz.ntmps17;go_upto_region 3 with (first | (go_at_call 67;refine q.out.mono ?_;rintro e w1 ⟨rfl,rfl⟩) | fail "none")
 have hw:IntKind.i64.wrap ((PL:Int) - (v2:Int))=(PL:Int) - (v2:Int):=IntWalk.i64_in _ (by omega)
 go_region_held3 (fun w'=>w'.cell? ⟨lb,1,none⟩=some (.pointer (some ⟨db,0,none⟩))/\w'.cell? ⟨lb,2,none⟩=some (.int .i64 g1)/\w'.cell? ⟨lb,3,none⟩=some (.int .i64 g2)/\w'.cell? ⟨lb,4,none⟩=some (.int .i64 g3)/\w'.cell? ⟨lb,5,none⟩=some (.int .i64 1)/\w'.cell? ⟨lb,6,none⟩=some (.int .i64 g5)/\w'.cell? ⟨lb,7,none⟩=some (.int .i64 g6)/\w'.cell? ⟨lb,8,none⟩=some (.int .i64 g7)/\w'.cell? ⟨lb,9,none⟩=some (.int .i64 g8)/\w'.cell? ⟨lb,10,none⟩=some (.int .i64 g9)/\w'.cell? ⟨lb,12,none⟩=some (.int .i64 (v2:Int)))
  (first | exact ⟨c0,c1,c2,c3,c4,c5,c6,c7,c8,c9,c12⟩ | exact ⟨R6.cellAt 1 rfl,R6.cellAt 2 rfl,R6.cellAt 3 rfl,R6.cellAt 4 rfl,R6.cellAt 5 rfl,R6.cellAt 6 rfl,R6.cellAt 7 rfl,R6.cellAt 8 rfl,R6.cellAt 9 rfl,R6.cellAt 10 rfl,R6.cellAt 12 rfl⟩)
  (first | (go_at_call 66;refine (qP.out _).mono ?_;rintro e w6 ⟨rfl,hb6'⟩;have hb6:Below w.heap.size w w6:=⟨hb6'.os,hb6'.tape,hb6'.output,hb6'.size,hb6'.block⟩;have R6:=H.out.below hb6 H.out.lt) | fail "none")
 go_wp2_with fail;go_ret;exact ⟨rfl,hb6⟩
def In64 (x:Int):Prop := -9223372036854775808<=x/\x<=9223372036854775807
theorem rises_any (db:Nat) (g:Geo.G) (hg:Geo.May g) (v:Value) (l:List Int) (w:World) (h:IntsV w v l) (hl:l.length<=1000000000) (hx:∀ x ∈ l,In64 x) :
  Calls Tryz.prog 105 #[ringV (some ⟨db,0,none⟩) g,v] w fun e w'=>e=.returned (.bool (Rec.rises (Geo.home g) l))/\Below w.heap.size w w':=by
 have H:=hid h
 obtain ⟨ad,cap,rfl⟩:=h.form
 have qH:=hid (fun x (hx:x ∈ l) wz=>ringhome_any (some ⟨db,0,none⟩) g hg x (by have := ‹∀ x ∈ l,In64 x› x hx;exact this) wz)
 have hlog:=hg.ok.2.1
 clear h hx hg
 unfold Rec.rises
 unfold ringV at *
 generalize Geo.home g=HM at *
 obtain ⟨g1,g2,g3,g4,g5,g6,g7,g8,g9⟩:=g
 dsimp only at *
 subst hlog
 have R0:=hid (Row.new w 34 [.pointer (some ⟨db,0,none⟩),.int .i64 g1,.int .i64 g2,.int .i64 g3,.int .i64 1,.int .i64 g5,.int .i64 g6,.int .i64 g7,.int .i64 g8,.int .i64 g9] rfl)
 have B0:=hid ((Below.refl w.heap.size w).alloc (Nat.le_refl _) (.cells #[.pointer (some ⟨db,0,none⟩),.int .i64 g1,.int .i64 g2,.int .i64 g3,.int .i64 1,.int .i64 g5,.int .i64 g6,.int .i64 g7,.int .i64 g8,.int .i64 g9] 34))
 go_enter Tryz.func105,Tryz.ntmps105
 go_wp2_with fail
 go_loopw [5,6,9] (fun a b q wr=>∃ j:Nat,j<=l.length/\q=.int .i64 j/\Hid (Rec.risesTo HM l j=true)/\Hid (Row wr w.heap.size 34 [.pointer (some ⟨db,0,none⟩),.int .i64 g1,.int .i64 g2,.int .i64 g3,.int .i64 1,.int .i64 g5,.int .i64 g6,.int .i64 g7,.int .i64 g8,.int .i64 g9])/\Hid (Below w.heap.size w wr)) (fun _ _ q _=>l.length - (intOf q).toNat)
 case atStart=>exact ⟨0,by omega,rfl,hid rfl,R0,B0⟩
 case round =>
  obtain ⟨j,hj,rfl,hok,hR,hB⟩:=hrel;by_cases hlt:j < l.length
  ·have i0:(0:Int)<=(j:Int):=(by omega);have i1:(j:Int) < (l.length:Int):=(by omega);have hIr:=hid (H.out.below hB.out);obtain ⟨gb,off,rfl,c0⟩:=hIr.out.cells j hlt;have hnext:Hid (Rec.risesTo HM l (j+1)=(HM (l.getD j 0) && (decide (j=0) || decide (l.getD (j - 1) 0 < l.getD j 0)))):=hid (by
    show (Rec.risesTo _ l j && _)=_;rw [hok.out];rfl)
   have hfalse:Hid (Rec.risesTo HM l (j+1)=false->Rec.risesTo HM l l.length=false):=hid (fun h=>Rec.risesTo_false h (by omega));have qx:=hid (qH.out (l.getD j 0) (by rw [show l.getD j 0=l[j] by simp [List.getD,hlt]];exact List.getElem_mem hlt));have hRo:=hR.out;obtain ⟨k0,k1,k2,k3,k4,k5,k6,k7,k8,k9⟩:=hRo.c10;obtain ⟨gb',off',e,c1⟩:=hIr.out.cells (j - 1) (by omega);cases e;generalize hx:l.getD j 0=x at c0 qx hnext;generalize hy:l.getD (j - 1) 0=y at c1 hnext;clear hx hy;by_cases k0:j=0
   ·subst k0;rw [Nat.add_zero] at c0;have c0':wr.cell? ⟨gb,off+0,none⟩=some (.int .i64 x):=c0;have kd:decide ((0:Int) < ((0:Nat):Int))=false:=decide_eq_false (by omega);clear c1;cases hH:HM x
    ·rw [hH] at qx hnext;have hF:=hid (hfalse.out (by rw [hnext.out];rfl));clear hnext hfalse hRo;go_wp2_with (first | (go_at_call 144;refine (qx.out _).mono ?_;rintro e w1 ⟨rfl,hb⟩) | fail "none");go_ret;exact ⟨by rw [hF.out];first | done | rfl,hB.out.trans (hb.mono hB.out.size)⟩
    rw [hH] at qx hnext;clear hfalse hRo;go_wp2_with (first | (go_at_call 144;refine (qx.out _).mono ?_;rintro e w1 ⟨rfl,hb⟩) | fail "none");go_roundw;case rel=>exact ⟨1,by omega,by go_num,hid (by rw [hnext.out];rfl),hid (hR.out.below hb hR.out.lt),hid (hB.out.trans (hb.mono hB.out.size))⟩
    case measure=>simp [intOf];omega
   have kd:(0:Int) < (j:Int):=(by omega);have u1:IntKind.i64.wrap ((j:Int) - 1)=(j:Int) - 1:=IntWalk.i64_in _ (by omega);have u2:((j:Int) - 1).toNat=j - 1:=(by omega);have u3:(0:Int)<=(j:Int) - 1:=(by omega);have u4:(j:Int) - 1 < (l.length:Int):=(by omega);cases hH:HM x
   ·rw [hH] at qx hnext;have hF:=hid (hfalse.out (by rw [hnext.out];rfl));clear hnext hfalse hRo;go_wp2_with (first | (go_at_call 144;refine (qx.out _).mono ?_;rintro e w1 ⟨rfl,hb⟩) | fail "none");go_ret;exact ⟨by rw [hF.out];first | done | rfl,hB.out.trans (hb.mono hB.out.size)⟩
   rw [hH] at qx hnext;by_cases k3:x<=y
   ·have hF:=hid (hfalse.out (by rw [hnext.out];simp [k0];omega));clear hnext hfalse hRo;go_wp2_with (first | (go_at_call 144;refine (qx.out _).mono ?_;rintro e w1 ⟨rfl,hb⟩;have c1':=(hb.cell (p:=⟨gb,off+(j - 1),none⟩) (World.block_lt_of_cell? wr _ c1)).trans c1) | fail "none");go_ret;exact ⟨by rw [hF.out];first | done | rfl,hB.out.trans (hb.mono hB.out.size)⟩
   have hT:=hid (show Rec.risesTo HM l (j+1)=true by rw [hnext.out];simp [k0];omega);clear hnext hfalse hRo;go_wp2_with (first | (go_at_call 144;refine (qx.out _).mono ?_;rintro e w1 ⟨rfl,hb⟩;have c1':=(hb.cell (p:=⟨gb,off+(j - 1),none⟩) (World.block_lt_of_cell? wr _ c1)).trans c1) | fail "none");go_roundw;case rel=>exact ⟨j+1,by omega,by go_num,hT,hid (hR.out.below hb hR.out.lt),hid (hB.out.trans (hb.mono hB.out.size))⟩
   case measure=>simp [intOf];omega
  obtain rfl:j=l.length:=(by omega);clear hR;go_wp2_with fail;go_ret;exact ⟨by rw [hok.out];first | done | rfl,hB.out⟩
def BlocksTold (l:List Jr.Chg) (w:World) (e:Ending) (w':World):Prop:=
 (l.all (fun c=>decide (c.2.size=128))=false/\e=.returned (.tuple #[.slice none 0 0,.bool false])/\Below w.heap.size w w') ∨
 (l.all (fun c=>decide (c.2.size=128))=true/\∃ v,e=.returned (.tuple #[v,.bool true])/\OwnInts w.heap.size w' v (l.map (·.1))/\Below w.heap.size w w')
theorem blocksof_any (v:Value) (l:List Jr.Chg) (w:World) (h:ChgsV w v l) (hl:l.length<=1000000000) (hs:∀ c ∈ l,c.2.size<=9223372036854775807) :
  Calls Tryz.prog 104 #[v] w fun e w'=>BlocksTold l w e w':=by
 obtain ⟨i0,hi0,hz0,hz1,hz2⟩:=info_parts infoInt
 have H:=hid h
 have HS:=hid hs
 obtain ⟨ad,cap,rfl⟩:=h.form
 have TN:Hid (∀ w',l.all (fun c=>decide (c.2.size=128))=false->Below w.heap.size w w'->BlocksTold l w (.returned (.tuple #[.slice none 0 0,.bool false])) w'):=hid (fun w' h1 h2=>.inl ⟨h1,rfl,h2⟩)
 have TS:Hid (∀ w' v,l.all (fun c=>decide (c.2.size=128))=true->OwnInts w.heap.size w' v (l.map (·.1))->Below w.heap.size w w'->BlocksTold l w (.returned (.tuple #[v,.bool true])) w'):=hid (fun w' v h1 h2 h3=>.inr ⟨h1,v,rfl,h2,h3⟩)
 generalize BlocksTold l w=P at *
 clear h hs
 go_enter Tryz.func104,Tryz.ntmps104
 go_wp2_with fail
 go_loopw [4,9] (fun t q wr=>∃ i:Nat,i<=l.length/\q=.int .i64 i/\Hid ((l.take i).all (fun c=>decide (c.2.size=128))=true)/\Hid (OwnInts w.heap.size wr t ((l.take i).map (·.1)))/\Hid (Below w.heap.size w wr)) (fun _ q _=>l.length - (intOf q).toNat)
 case atStart=>exact ⟨0,Nat.zero_le _,rfl,hid rfl,hid (World.ownsRow_nil _ _ _ _),hid (Below.refl _ _)⟩
 case round =>
  obtain ⟨i,hi,rfl,hall,hO,hB⟩:=hrel;by_cases hlt:i < l.length
  ·have i0':(0:Int)<=(i:Int):=(by omega);have i1':(i:Int) < (l.length:Int):=(by omega);obtain ⟨c,hc⟩:∃ c,l[i]?=some c:=⟨_,List.getElem?_eq_getElem hlt⟩;have hcm:=List.mem_of_getElem? hc;obtain ⟨gb,off,rfl,c0,c1⟩:=(H.out.below hB.out).cells hc;have hsz:=HS.out c hcm;have hTK:=hid (show l.take (i+1)=l.take i ++ [c] from by
    obtain ⟨h1,rfl⟩:=List.getElem?_eq_some_iff.1 hc;exact List.take_succ_eq_append_getElem h1)
   have hwb:w.heap.size<=wr.heap.size:=hB.out.size;by_cases h128:c.2.size=128
   ·have hA2:=hid (show (l.take (i+1)).all (fun c=>decide (c.2.size=128))=true by rw [hTK.out,List.all_append,hall.out];simp [h128]);have hll:((l.take i).map (·.1)).length=i:=(by rw [List.length_map,List.length_take];omega);have hown:=hO.out;unfold OwnInts at hown;rw [hll] at hown;obtain ⟨a9,c9,rfl⟩:=own_form hown;have HTM:=hid (show (l.take (i+1)).map (·.1)=(l.take i).map (·.1) ++ [c.1] by rw [hTK.out,List.map_append];rfl);have hk:(((c.2.size:Nat):Int) != 128)=false:=(by rw [bne_eq_false_iff_eq];omega);have HLL:=hid hll;obtain ⟨x1,x2⟩:=c;dsimp only at *;have HB1:=hid (hB.out.alloc hwb (.cells #[.int .i64 x1,.string x2] 68));have HO1:=hid (own_new1 (own_new1 hown (.cells #[.int .i64 x1,.string x2] 68)) (.cells #[.int .i64 x1] 3));have hbs:w.heap.size<=((wr.alloc (.cells #[.int .i64 x1,.string x2] 68)).alloc (.cells #[.int .i64 x1] 3)).heap.size:=(by simp;omega);have hnn:=box1 (wr.alloc (.cells #[.int .i64 x1,.string x2] 68)) (.int .i64 x1) 3;rw [World.size_alloc] at hnn;have HNN:=hid hnn;clear hnn;have hone:∀ u ∈ [Value.int .i64 x1],u.oneCell'=true:=(by intro u hu;rw [List.mem_singleton.1 hu];rfl);clear hc hcm hown hll hO hsz h128 hB;go_wp2_with (first | (at_builtin;refine wpList_append_own _ rfl (.tmp 17) (.tmp 20) 23 rfl w.heap.size 3 i0 (.int .i64 0) 1 8 Tryz.underlying23 hi0 hz0 hz1 hz2 rfl (by decide) _ i _ rfl HO1.out ⟨wr.heap.size+1,0,none⟩ 1 1 [.int .i64 x1] rfl rfl HNN.out hone (by unfold maxLen;omega) (by omega) hbs ?_;intro v5 w5 hown hgrow _) | fail "none");have B5:=hid ((HB1.out.alloc HB1.out.size (.cells #[.int .i64 x1] 3)).grown hgrow hbs (fun k hk=>(World.ownsRow.lt HO1.out k hk).1));have O5:=hid (show OwnInts w.heap.size w5 v5 ((l.take (i+1)).map (·.1)) from by
     unfold OwnInts;rw [HTM.out,List.length_append,HLL.out];unfold icells at hown ⊢;rw [List.map_append];exact hown)
    clear hown hgrow;exact ⟨⟨i+1,by omega,by go_num,hA2,O5,B5⟩,by simp [intOf];omega⟩
   have hA2:l.all (fun c=>decide (c.2.size=128))=false:=List.all_eq_false.2 ⟨c,hcm,by simp [h128]⟩;have hk:(((c.2.size:Nat):Int) != 128)=true:=(by rw [bne_iff_ne];omega);obtain ⟨x1,x2⟩:=c;dsimp only at *;have HT:=hid (TN.out (wr.alloc (.cells #[.int .i64 x1,.string x2] 68)) hA2 (hB.out.alloc hwb _));clear hc hcm hA2 hall hO;go_wp2_with fail;exact HT.out
  obtain rfl:i=l.length:=(by omega);rw [List.take_length] at hall hO;have HT:=hid (TS.out wr _ hall.out hO.out hB.out);clear hall hO;go_wp2_with fail;exact HT.out
theorem mayc_any (X:Nat) (v:Value) (l:List Int) (x:Int) (w:World) (cX:w.cell? ⟨X,0,none⟩=some v) (h:IntsAt w v l) (hl:l.length<=1000000000) :
  Calls Tryz.prog 107 #[.int .i64 x,.pointer (some ⟨X,0,none⟩)] w fun e w'=>e=.returned (.bool (l.contains x))/\Below w.heap.size w w':=by
 have q:Hid (Calls Tryz.prog 108 #[v,.int .i64 x] w fun e w'=>e=.returned (.bool (l.contains x))/\w'=w):=hid (by
  rcases h with ⟨rfl,rfl⟩ | ⟨g,off,ct,rfl,hc⟩
  ·exact Tryz.slices_Contains_int_empty none 0 x w
  have:=Tryz.slices_Contains_int g off l.length ct l x w (Nat.le_refl _) (by omega) (fun j hj=>hc j _ (icells_at l j hj));rwa [List.take_length] at this)
 obtain ⟨ad,cap,rfl⟩:=h.form
 clear h
 generalize l.contains x=A at *
 go_enter Tryz.func107,Tryz.ntmps107
 go_wp2_with (first | (go_at_call 108;refine q.out.mono ?_;rintro e w1 ⟨rfl,rfl⟩) | fail "none")
 go_ret
 exact ⟨rfl,Below.refl _ _⟩
theorem idxmay_any (X:Nat) (vb v:Value) (bl l:List Int) (w:World) (cX:w.cell? ⟨X,0,none⟩=some vb) (hb:IntsAt w vb bl) (hbl:bl.length<=1000000000) (hI:IntsV w v l) (hl:l.length<=1000000000) :
  Calls Tryz.prog 145 #[v,.func (.func 107) #[] #[.pointer (some ⟨X,0,none⟩)]] w fun e w'=>∃ r:Int,e=.returned (.int .i64 r)/\decide (0<=r) = !(l.all (fun x => !bl.contains x))/\Below w.heap.size w w':=by
 have HI:=hid hI
 obtain ⟨ad,cap,rfl⟩:=hI.form
 have q:Hid (∀ wz,Below w.heap.size w wz->∀ x,x ∈ l->Calls Tryz.prog 107 #[.int .i64 x,.pointer (some ⟨X,0,none⟩)] wz fun e w'=>e=.returned (.bool (bl.contains x))/\Below wz.heap.size wz w'):=hid (fun wz hz x hm=>mayc_any X vb bl x wz ((hz.cell (p:=⟨X,0,none⟩) (World.block_lt_of_cell? w _ cX)).trans cX) (hb.below hz) hbl)
 clear hI cX hb
 generalize hP:(fun x=>bl.contains x)=PR at *
 have HP:Hid (∀ x,bl.contains x=PR x):=hid (fun x=>congrFun hP x)
 have q':Hid (∀ wz,Below w.heap.size w wz->∀ x,x ∈ l->Calls Tryz.prog 107 #[.int .i64 x,.pointer (some ⟨X,0,none⟩)] wz fun e w'=>e=.returned (.bool (PR x))/\Below wz.heap.size wz w'):=hid (fun wz hz x hm=>by rw [<- HP.out];exact q.out wz hz x hm)
 have e0:(fun x => !bl.contains x)=(fun x => !PR x):=funext fun x=>by rw [HP.out]
 rw [e0]
 clear q e0 HP hP
 go_enter Tryz.func145,Tryz.ntmps145
 go_wp2_with fail
 go_loopw [5,8] (fun z q wr=>∃ i:Nat,i<=l.length/\q=.int .i64 i/\Hid ((l.take i).all (fun x => !PR x)=true)/\Hid (Below w.heap.size w wr)) (fun _ q _=>l.length - (intOf q).toNat)
 case atStart=>exact ⟨0,by omega,rfl,hid rfl,hid (Below.refl _ _)⟩
 case round =>
  obtain ⟨i,hi,rfl,hall,hb⟩:=hrel;by_cases hlt:i < l.length
  ·have i0:(0:Int)<=(i:Int):=(by omega);have i1:(i:Int) < (l.length:Int):=(by omega);obtain ⟨gb,off,rfl,c0⟩:=HI.out.cells i hlt;have c0':=(hb.out.cell (p:=⟨gb,off+i,none⟩) (World.block_lt_of_cell? w _ c0)).trans c0;have hx:l.getD i 0=l[i]:=(by simp [List.getD,hlt]);have qx:=hid (q'.out wr hb.out (l.getD i 0) (by rw [hx];exact List.getElem_mem hlt));have hnext:Hid ((l.take (i+1)).all (fun x => !PR x) = !PR (l.getD i 0)):=hid (by rw [List.take_succ_eq_append_getElem hlt,List.all_append,hall.out,hx];simp);have hstop:Hid (PR (l.getD i 0)=true->l.all (fun x => !PR x)=false):=hid (fun hf=>by
    rw [hx] at hf;exact List.all_eq_false.2 ⟨_,List.getElem_mem hlt,by simp [hf]⟩)
   clear c0 hx;cases hv:PR (l.getD i 0)
   ·rw [hv] at qx hnext;generalize l.getD i 0=x at *;go_wp2_with fail;refine qx.out.mono ?_;rintro e w1 ⟨rfl,hb1⟩;go_wp2_with fail;go_roundw;case rel=>exact ⟨i+1,by omega,by go_num,hnext,hid (hb.out.trans (hb1.mono hb.out.size))⟩
    case measure=>simp [intOf];omega
   have hs:=hid (hstop.out hv);rw [hv] at qx;clear hstop;generalize l.getD i 0=x at *;go_wp2_with fail;refine qx.out.mono ?_;rintro e w1 ⟨rfl,hb1⟩;go_wp2_with fail;go_ret;exact ⟨_,rfl,by rw [hs.out];simp,hb.out.trans (hb1.mono hb.out.size)⟩
  obtain rfl:i=l.length:=(by omega);rw [List.take_length] at hall;go_wp2_with fail;go_ret;exact ⟨-1,rfl,by rw [hall.out];rfl,hb.out⟩
theorem conmay_any (X:Nat) (vb v:Value) (bl l:List Int) (w:World) (cX:w.cell? ⟨X,0,none⟩=some vb) (hb:IntsAt w vb bl) (hbl:bl.length<=1000000000) (hI:IntsV w v l) (hl:l.length<=1000000000) :
  Calls Tryz.prog 106 #[v,.func (.func 107) #[] #[.pointer (some ⟨X,0,none⟩)]] w fun e w'=>e=.returned (.bool (!(l.all (fun x => !bl.contains x))))/\Below w.heap.size w w':=by
 have q:=hid (idxmay_any X vb v bl l w cX hb hbl hI hl)
 obtain ⟨ad,cap,rfl⟩:=hI.form
 generalize l.all (fun x => !bl.contains x)=A at *
 clear hI cX hb
 go_enter Tryz.func106,Tryz.ntmps106
 go_wp2_with fail
 refine q.out.mono ?_
 rintro e w1 ⟨r,rfl,hr,hb⟩
 have hr':=hid hr
 clear hr
 go_wp2_with fail
 go_ret
 exact ⟨by rw [<- hr'.out];rfl,hb⟩
def mayB (hm:Int->Bool) (ch:List Jr.Chg) (rv:List Int):Bool:=ch.all (fun c=>decide (c.2.size=128)) && (Rec.rises hm (ch.map (·.1)) && (Rec.rises hm rv && rv.all (fun x => !(ch.map (·.1)).contains x)))
theorem may_any (db:Nat) (g:Geo.G) (hg:Geo.May g) (vc vr:Value) (ch:List Jr.Chg) (rv:List Int) (w:World) (hC:ChgsV w vc ch) (hI:IntsV w vr rv) (hl:ch.length<=1000000000) (hr:rv.length<=1000000000) (hcx:∀ c ∈ ch,In64 c.1/\c.2.size<=9223372036854775807) (hrx:∀ x ∈ rv,In64 x) :
  Calls Tryz.prog 68 #[ringV (some ⟨db,0,none⟩) g,vc,vr] w fun e w'=>e=.returned (.bool (mayB (Geo.home g) ch rv))/\Below w.heap.size w w':=by
 have HC:=hid hC
 have HI:=hid hI
 have HCX:=hid hcx
 have HRX:=hid hrx
 obtain ⟨ac,cc,rfl⟩:=hC.form
 obtain ⟨ar,cr,rfl⟩:=hI.form
 have qB:=hid (fun wz (hz:Below w.heap.size w wz)=>blocksof_any (.slice ac ch.length cc) ch wz (HC.out.below hz) hl (fun c hc=>(HCX.out c hc).2))
 have qR:=hid (fun wz v l (h:IntsV wz v l) (h1:l.length<=1000000000) (h2:∀ x ∈ l,In64 x)=>rises_any db g hg v l wz h h1 h2)
 have hlog:=hg.ok.2.1
 clear hC hI hcx hrx hg
 unfold mayB
 unfold ringV at *
 generalize Geo.home g=HM at *
 obtain ⟨g1,g2,g3,g4,g5,g6,g7,g8,g9⟩:=g
 dsimp only at *
 subst hlog
 obtain ⟨RB,hRB⟩:∃ RB,(ch.all (fun c=>decide (c.2.size=128)) && (Rec.rises HM (ch.map (·.1)) && (Rec.rises HM rv && rv.all (fun x => !(ch.map (·.1)).contains x))))=RB:=⟨_,rfl⟩
 rw [hRB]
 have HRB:=hid hRB
 clear hRB
 have R0:=hid (Row.new w 34 [.pointer (some ⟨db,0,none⟩),.int .i64 g1,.int .i64 g2,.int .i64 g3,.int .i64 1,.int .i64 g5,.int .i64 g6,.int .i64 g7,.int .i64 g8,.int .i64 g9] rfl)
 have B0:=hid ((Below.refl w.heap.size w).alloc (Nat.le_refl _) (.cells #[.pointer (some ⟨db,0,none⟩),.int .i64 g1,.int .i64 g2,.int .i64 g3,.int .i64 1,.int .i64 g5,.int .i64 g6,.int .i64 g7,.int .i64 g8,.int .i64 g9] 34))
 go_enter Tryz.func68,Tryz.ntmps68
 go_wp2_with fail
 generalize w.alloc _=w1 at *
 refine (qB.out _ B0.out).mono ?_
 rintro e w2 (⟨hall,rfl,hb2⟩ | ⟨hall,vb,rfl,hown,hb2⟩)
 ·have B2:=hid (below_next B0.out hb2);have hRB:RB=false:=(by rw [<- HRB.out,hall];rfl);subst hRB;clear hb2 R0 hall HRB;go_wp2_with fail;go_ret;exact ⟨rfl,below_box B2.out _⟩
 ·rw [hall,Bool.true_and] at HRB;have B2:=hid (below_next B0.out hb2);have R2:=hid (R0.out.below hb2 R0.out.lt);obtain ⟨ab,cb,rfl⟩:=OwnInts.slice hown;have HLM:=hid (show (ch.map (·.1)).length=ch.length from List.length_map _);have HO:=hid hown;have hI0:=hid (OwnInts.at (show OwnInts _ w2 _ (ch.map (·.1)) from hown));obtain ⟨NB,hNB⟩:∃ NB,(ch.map (·.1)).length=NB:=⟨_,rfl⟩;rw [hNB] at hI0 HO HLM ⊢;have X3:=hid (Row.new w2 23 [.slice ab NB cb] rfl);have B3:=hid (below_box B2.out (.cells #[.slice ab NB cb] 23));have R3:=hid (R2.out.alloc (.cells #[.slice ab NB cb] 23));have hI3:=hid (show IntsAt (w2.alloc (.cells #[.slice ab NB cb] 23)) (.slice ab NB cb) (ch.map (·.1)) from by
   have:=hI0.out.below ((Below.refl w2.heap.size w2).alloc (Nat.le_refl _) (.cells #[.slice ab NB cb] 23));exact this)
  have hcl:(ch.map (·.1)).length<=1000000000:=(by rw [hNB,HLM.out];exact hl);have hcx:∀ x ∈ ch.map (·.1),In64 x:=fun x hx=>by
   obtain ⟨c,hc,rfl⟩:=List.mem_map.1 hx;exact (HCX.out c hc).1
  have HCL:=hid hcl;have q1:=hid (qR.out _ _ _ hI3.out.weak hcl hcx);clear hb2 R0 hall hown R2 hcl hcx hNB HLM;generalize ch.map (·.1)=BL at *;go_upto_region 2 with fail
  generalize w2.alloc _=w3 at *;have R3o:=R3.out;obtain ⟨k0,k1,k2,k3,k4,k5,k6,k7,k8,k9⟩:=R3o.c10;have x0:=X3.out.cellAt 0 rfl;clear R3o;cases hA:Rec.rises HM BL
  ·have hRB:RB=false:=(by rw [<- HRB.out,hA];rfl);subst hRB;rw [hA] at q1;clear hA HRB;go_wp2_with (first | (go_at_call 105;refine q1.out.mono ?_;rintro e w4 ⟨rfl,hb4⟩) | fail "none");go_ret;exact ⟨rfl,below_next B3.out hb4⟩
  rw [hA,Bool.true_and] at HRB;rw [hA] at q1;clear hA;have q2:=hid (fun wz (hz:Below w.heap.size w wz)=>qR.out wz (.slice ar rv.length cr) rv (HI.out.below hz) hr HRX.out);have q3:=hid (fun wz (hz:Below w3.heap.size w3 wz)=>conmay_any w2.heap.size (.slice ab NB cb) (.slice ar rv.length cr) BL rv wz ((X3.out.below hz X3.out.lt).cellAt 0 rfl) (hI3.out.below hz) HCL.out (HI.out.below (below_next B3.out hz)) hr);cases hA2:Rec.rises HM rv
  ·have hRB:RB=false:=(by rw [<- HRB.out,hA2];rfl);subst hRB;rw [hA2] at q2;clear hA2 HRB;go_wp2_with (first | (go_at_call 105;first | ((with_reducible refine q1.out.mono ?_);rintro e w4 ⟨rfl,hb4⟩;have R4:=R3.out.below hb4 R3.out.lt;obtain ⟨z0,z1,z2,z3,z4,z5,z6,z7,z8,z9⟩:=R4.c10;have B4:=below_next B3.out hb4) | ((with_reducible refine (q2.out _ B4).mono ?_);rintro e w5 ⟨rfl,hb5⟩)) | fail "none");go_ret;exact ⟨rfl,below_next B4 hb5⟩
  rw [hA2,Bool.true_and] at HRB;rw [hA2] at q2;have hR3:=HRB.out;rw [hR3] at q3;clear hA2 hR3;go_wp2_with (first | (go_at_call 105;first | ((with_reducible refine q1.out.mono ?_);rintro e w4 ⟨rfl,hb4⟩;have R4:=R3.out.below hb4 R3.out.lt;obtain ⟨z0,z1,z2,z3,z4,z5,z6,z7,z8,z9⟩:=R4.c10;have B4:=below_next B3.out hb4) | ((with_reducible refine (q2.out _ B4).mono ?_);rintro e w5 ⟨rfl,hb5⟩;have B5:=below_next hb4 hb5)) | (go_at_call 106;(with_reducible refine (q3.out _ B5).mono ?_);rintro e w6 ⟨rfl,hb6⟩) | fail "none");go_ret;exact ⟨by simp,below_next B4 (below_next hb5 hb6)⟩
end Go.Proofs.YtnpdhidliaahbaaGreat
namespace Go.Proofs.YtnpdhidliaahbaaGreat
open Go.Lib (hid)
open Go Go.RowKit
theorem ups_of {p:Int->Bool} {l:List Int} (h:Rec.rises p l=true):Jr.Ups p l:=by
 refine ⟨Rec.rises_mem h,?_⟩;have gen:∀ n,n<=l.length->Rec.risesTo p l n=true->(l.take n).Pairwise (· < ·):=by
  intro n;induction n with
  | zero=>intro _ _;simp
  | succ n ih =>
   intro hn hr;have hn':n < l.length:=by omega
   unfold Rec.risesTo at hr;simp only [Bool.and_eq_true,Bool.or_eq_true,decide_eq_true_eq] at hr;have h1:=ih (by omega) hr.1;rw [List.take_succ_eq_append_getElem hn',List.pairwise_append];refine ⟨h1,by simp,fun a ha b hb=>?_⟩;rw [List.mem_singleton.1 hb];have e:l.getD n 0=l[n]:=by simp [List.getD,hn']
   rcases hr.2.2 with h0 | h0
   ·subst h0;simp at ha
   by_cases hz:n=0
   ·subst hz;simp at ha
   have e2:l.getD (n - 1) 0=l[n - 1]:=(by simp [List.getD,show n - 1 < l.length by omega]);rw [e,e2] at h0;obtain ⟨k,hk,rfl⟩:=List.mem_iff_getElem.1 ha;rw [List.length_take] at hk;rw [List.getElem_take];by_cases hkn:k=n - 1
   ·subst hkn;exact h0
   have h3:=List.pairwise_iff_getElem.1 h1 k (n - 1) (by rw [List.length_take];omega) (by rw [List.length_take];omega) (by omega);rw [List.getElem_take,List.getElem_take] at h3;exact Int.lt_trans h3 h0
 have:=gen l.length (Nat.le_refl _) h;rwa [List.take_length] at this
theorem ok_of {hm:Int->Bool} {t:Jr.Txn} (h:mayB hm t.ch t.rv=true):Jr.Ok hm t:=by
 unfold mayB at h;simp only [Bool.and_eq_true,List.all_eq_true,decide_eq_true_eq,Bool.not_eq_true',List.contains_eq_mem,decide_eq_false_iff_not] at h;exact ⟨ups_of h.2.1,ups_of h.2.2.1,h.1,fun b hb c hc e=>h.2.2.2 b hb (List.mem_map.2 ⟨c,hc,e⟩)⟩
theorem may_of {hm:Int->Bool} {t:Jr.Txn} (h:Jr.Ok hm t):mayB hm t.ch t.rv=true:=by
 unfold mayB;simp only [Bool.and_eq_true,List.all_eq_true,decide_eq_true_eq,Bool.not_eq_true',List.contains_eq_mem,decide_eq_false_iff_not];refine ⟨h.data,Jr.rises_of h.ch (fun _ h=>h),Jr.rises_of h.rv (fun _ h=>h),fun b hb hm=>?_⟩;obtain ⟨c,hc,e⟩:=List.mem_map.1 hm;exact h.no b hb c hc e
def actsN (g:Geo.G) (t:Jr.Txn) (seq place:Nat) (data:List Jr.Chg) (i:Nat):List Jr.Act:=
 data.map Jr.wr ++ Jr.ringW g place ((Jr.body t seq).take i) ++ (if i=Jr.size t then [.flush,.write ((Jr.pb g (place+(Jr.size t - 1)):Nat):Int) (Jr.lastB t seq)] else [])
variable {g:Geo.G} {t:Jr.Txn} {seq place:Nat} {data:List Jr.Chg}
theorem actsN_zero:actsN g t seq place data 0=data.map Jr.wr:=by
 unfold actsN;have:=Jr.size_pos t;rw [if_neg (by omega),List.take_zero,List.append_nil];show _ ++ []=_;rw [List.append_nil]
theorem ringW_snoc (g:Geo.G) (p:Nat) (l:List ByteArray) (s:ByteArray):Jr.ringW g p (l ++ [s])=Jr.ringW g p l ++ [.write ((Jr.pb g (p+l.length):Nat):Int) s]:=by
 rw [Jr.ringW_append];rfl
theorem actsN_next {i:Nat} {s:ByteArray} (hi:i+1 < Jr.size t) (hs:(Jr.told t seq)[i]?=some s):actsN g t seq place data (i+1)=actsN g t seq place data i ++ [.write ((Jr.pb g (place+i):Nat):Int) s]:=by
 have hb:=Jr.body_length t seq;unfold actsN;rw [if_neg (by omega),if_neg (by omega),List.append_nil,List.append_nil];have hl:i < (Jr.body t seq).length:=(by omega);have e:(Jr.body t seq)[i]=s:=by
  unfold Jr.told at hs;rw [List.getElem?_append_left hl,List.getElem?_eq_getElem hl] at hs;injection hs
 rw [List.take_succ_eq_append_getElem hl,e,ringW_snoc,List.length_take,Nat.min_eq_left (by omega),List.append_assoc]
theorem actsN_last {i:Nat} {s:ByteArray} (hi:i+1=Jr.size t) (hs:(Jr.told t seq)[i]?=some s):actsN g t seq place data (i+1)=(actsN g t seq place data i ++ [.flush]) ++ [.write ((Jr.pb g (place+i):Nat):Int) s]:=by
 have hb:=Jr.body_length t seq;unfold actsN;rw [if_pos hi,if_neg (by omega),List.append_nil,<- hi,Nat.add_sub_cancel];have hl:i=(Jr.body t seq).length:=(by omega);have e:Jr.lastB t seq=s:=by
  unfold Jr.told at hs;rw [hl,List.getElem?_append_right (Nat.le_refl _),Nat.sub_self] at hs;simpa using hs
 rw [List.take_of_length_le (by omega),List.take_of_length_le (by omega),e,List.append_assoc,List.append_assoc,List.append_assoc];rfl
theorem actsN_all:actsN g t seq place data (Jr.size t) ++ [.flush]=Jr.commitA g t seq place data:=by
 have hb:=Jr.body_length t seq;unfold actsN Jr.commitA;rw [if_pos rfl,List.take_of_length_le (by omega),List.append_assoc];rfl
theorem ringW_length (g:Geo.G):∀ (l:List ByteArray) (p:Nat),(Jr.ringW g p l).length=l.length
 | [],_=>rfl
 | s :: l,p=>by show (Jr.ringW g (p+1) l).length+1=_;rw [ringW_length g l];rfl
theorem actsN_length {i:Nat} (hi:i < Jr.size t):(actsN g t seq place data i).length=data.length+i:=by
 have hb:=Jr.body_length t seq;unfold actsN;rw [if_neg (by omega),List.append_nil,List.length_append,List.length_map,ringW_length,List.length_take];omega
theorem actsN_full:(actsN g t seq place data (Jr.size t)).length=data.length+Jr.size t+1:=by
 have hb:=Jr.body_length t seq;have:=Jr.size_pos t;unfold actsN;rw [if_pos rfl,List.length_append,List.length_append,List.length_map,ringW_length,List.length_take];simp;omega
end Go.Proofs.YtnpdhidliaahbaaGreat
namespace Go.Proofs.YtnpdhidliaahbaaGreat
open Go.Lib (hid)
open Go Go.RowKit
def gA:Geo.G:=(Geo.of 256 128 8).1
theorem gA_of:Geo.of 256 128 8=(gA,0):=by decide
theorem gA_may:Geo.May gA:=by decide
theorem gA_blocks:gA.blocks=256:=by decide
theorem gA_plc:Jr.plc gA=127:=by decide
def tA:Jr.Txn:=⟨[(180,blk 120),(190,blk 121)],[]⟩
theorem home180:Geo.home gA 180=true:=by decide
theorem home190:Geo.home gA 190=true:=by decide
theorem tA_ok:Jr.Ok (Geo.home gA) tA:=by
 refine ⟨⟨fun x hx=>?_,by decide⟩,⟨fun x hx=>(by cases hx),by decide⟩,fun c hc=>?_,fun b hb=>(by cases hb)⟩
 ·simp only [tA,List.map_cons,List.map_nil,List.mem_cons,List.not_mem_nil,or_false] at hx;rcases hx with rfl | rfl
  ·exact home180
  exact home190
 ·simp only [tA,List.mem_cons,List.not_mem_nil,or_false] at hc;rcases hc with rfl | rfl
  ·exact blk_size _
  exact blk_size _
theorem tA_size:Jr.size tA=4:=by decide
theorem bad3:mayB (Geo.home gA) [(3,blk 1)] []=false:=by
 have:Rec.rises (Geo.home gA) [3]=false:=(by decide);unfold mayB;rw [show ([(3,blk 1)]:List Jr.Chg).map (·.1) = [3] from rfl,this];simp
def devA:Dev:=Dev.fresh (List.replicate 256 zblock)
def dev1:Dev:=(Jr.doA (Jr.fmtA gA) devA).1
def dev2:Dev:=(Jr.doA (Jr.commitA gA tA 1 0 []) dev1).1
def dev3:Dev:=(Jr.doA (Jr.replayA gA [tA] (4 % Jr.plc gA) 2) dev2).1
theorem devA_len:devA.now.length=devA.kept.length/\devA.kept.length=256:=by
 unfold devA Dev.fresh;exact ⟨rfl,List.length_replicate⟩
structure AliveFacts:Prop where
 e1:(Jr.doA (Jr.fmtA gA) devA).2=0
 l1:dev1.now.length=dev1.kept.length/\dev1.kept.length=256
 s1:sized dev1.now
 k1:dev1.kept=dev1.now
 st1:Jr.Stand gA dev1.now 0 1 []
 a1:dev1.armed=false/\dev1.acts=130
 e2:(Jr.doA (Jr.commitA gA tA 1 0 []) dev1).2=0
 l2:dev2.now.length=dev2.kept.length/\dev2.kept.length=256
 s2:sized dev2.now
 k2:dev2.kept=dev2.now
 st2:Jr.Stand gA dev2.now 0 1 [tA]
 a2:dev2.armed=false/\dev2.acts=136
 e3:(Jr.doA (Jr.replayA gA [tA] (4 % Jr.plc gA) 2) dev2).2=0
 l3:dev3.now.length=dev3.kept.length/\dev3.kept.length=256
 s3:sized dev3.now
 st3:Jr.Stand gA dev3.now 4 2 []
 a3:dev3.acts<=1000
 v3:dev3.readS 190=blk 121
theorem fmtA_length:(Jr.fmtA gA).length=130:=by
 unfold Jr.fmtA;rw [List.length_append,ringW_length,List.length_replicate,gA_plc];rfl
theorem aliveFacts:AliveFacts:=by
 have hn:(devA.kept.length:Int)=gA.blocks:=(by rw [devA_len.2,gA_blocks];rfl);have hok0:devA.Ok 0:=Dev.Ok.fresh _ (fun s hs=>by rw [(List.mem_replicate.1 hs).2];exact zblock_size);have hA:=Jr.doA_alive (Jr.fmtA gA) devA_len.1 rfl (Jr.fmt_fine gA_may hn);have hL1:dev1.kept.length=devA.kept.length/\dev1.now.length=dev1.kept.length:=(by unfold dev1;exact Jr.len_doA (Jr.fmtA gA) devA_len.1);have hAr:dev1.armed=false:=(by unfold dev1;exact hA.2.1);have hO1:dev1.Ok (0+(Jr.fmtA gA).length):=(by unfold dev1;exact Jr.ok_doA (Jr.fmtA gA) hok0);have hS1:dev1.kept=dev1.now/\Jr.Stand gA dev1.now 0 1 []:=(by unfold dev1;exact ⟨(Jr.fmt_safe gA_may devA_len.1 hn hA.1).1,(Jr.fmt_safe gA_may devA_len.1 hn hA.1).2.1⟩);have e1k:dev1.kept.length=256:=(by rw [hL1.1];exact devA_len.2);have hn1:(dev1.kept.length:Int)=gA.blocks:=(by rw [e1k,gA_blocks];rfl);have hfine2:∀ a ∈ Jr.commitA gA tA 1 0 [],a.Fine dev1.kept.length:=by
  intro a ha;unfold Jr.commitA at ha;have hpb:∀ p,(0:Int)<=(Jr.pb gA p:Nat)/\((Jr.pb gA p:Nat):Int) < dev1.kept.length:=fun p=>by
   have:=Jr.pb_lt gA_may p;rw [hn1];have h2:=gA_blocks;omega
  rcases List.mem_append.1 ha with h | h
  ·rcases List.mem_append.1 h with h | h
   ·cases h
   obtain ⟨i,s,hi,hs,rfl⟩:=Jr.ringW_mem h;exact ⟨(hpb _).1,(hpb _).2,Jr.body_fine gA_may tA_ok s hs⟩
  simp only [List.mem_cons,List.not_mem_nil,or_false] at h;rcases h with rfl | rfl | rfl
  ·trivial
  ·exact ⟨(hpb _).1,(hpb _).2,Jr.last_size⟩
  trivial
 have hB:=Jr.doA_alive (Jr.commitA gA tA 1 0 []) (D:=dev1) hL1.2 hAr hfine2;have hL2:dev2.kept.length=dev1.kept.length/\dev2.now.length=dev2.kept.length:=(by unfold dev2;exact Jr.len_doA (Jr.commitA gA tA 1 0 []) (D:=dev1) hL1.2);have hBr:dev2.armed=false:=(by unfold dev2;exact hB.2.1);have hO2:dev2.Ok (0+(Jr.fmtA gA).length+(Jr.commitA gA tA 1 0 []).length):=(by unfold dev2;exact Jr.ok_doA (Jr.commitA gA tA 1 0 []) (D:=dev1) hO1);have hC0:=(Jr.commit_safe (g:=gA) (D:=dev1) (at_:=0) (q:=1) (place:=0) (l:=[]) (t:=tA) (data:=[]) (P:=fun _=>True) gA_may hL1.2 hn1 (Jr.All.same hS1.1 ⟨trivial,hS1.2⟩) (fun _ _ _ _ _ _=>trivial) tA_ok (by rw [tA_size,gA_plc];decide) (by show 1+0+1 < 2 ^ 62;omega) rfl (fun c hc=>by cases hc));rw [show 1+([]:List Jr.Txn).length=1 from rfl] at hC0;have hC:=hC0.2.2 hB.1;have hC2:Jr.All dev2 (fun m=>True/\Jr.Stand gA m 0 1 [tA])/\dev2.kept=dev2.now:=(by unfold dev2;exact hC);have hst2:Jr.Stand gA dev2.now 0 1 [tA]:=(hC2.1.atNow hL2.2).2;have hk2:dev2.kept=dev2.now:=hC2.2;have e2k:dev2.kept.length=256:=(by rw [hL2.1];exact e1k);have hn2:(dev2.kept.length:Int)=gA.blocks:=(by rw [e2k,gA_blocks];rfl);have hsz:Jr.sizes [tA]=4:=(by decide);have hR:=Jr.replay_safe (g:=gA) (D:=dev2) (at_:=0) (q:=1) (l:=[tA]) gA_may hk2 hn2 hst2;have hfine3:∀ a ∈ Jr.replayA gA [tA] (4 % Jr.plc gA) 2,a.Fine dev2.kept.length:=by
  intro a ha;unfold Jr.replayA at ha;rcases List.mem_append.1 ha with h | h
  ·obtain ⟨c,hc,rfl⟩:=List.mem_map.1 h;obtain ⟨b,hb,hb2,hb3⟩:=Jr.comes_mem.1 hc;have:=Jr.look_some 1 [tA] rfl (fun t ht=>by rw [List.mem_singleton.1 ht];exact tA_ok) hb3;refine ⟨by omega,?_,this.2⟩;rw [hb2,hn2,gA_blocks];rw [gA_blocks] at hb;omega
  unfold Jr.headA at h;simp only [List.mem_cons,List.not_mem_nil,or_false] at h;rcases h with rfl | rfl | rfl
  ·trivial
  ·refine ⟨by decide,by rw [e2k];decide,?_⟩;exact Jr.headB_size (by rw [gA_plc];decide)
  trivial
 have hD:=Jr.doA_alive (Jr.replayA gA [tA] (4 % Jr.plc gA) 2) (D:=dev2) hL2.2 hBr hfine3;have hL3:dev3.kept.length=dev2.kept.length/\dev3.now.length=dev3.kept.length:=(by unfold dev3;exact Jr.len_doA (Jr.replayA gA [tA] (4 % Jr.plc gA) 2) (D:=dev2) hL2.2);have hO3:dev3.Ok (0+(Jr.fmtA gA).length+(Jr.commitA gA tA 1 0 []).length+(Jr.replayA gA [tA] (4 % Jr.plc gA) 2).length):=(by unfold dev3;exact Jr.ok_doA (Jr.replayA gA [tA] (4 % Jr.plc gA) 2) (D:=dev2) hO2);rw [hsz,show 0+4=4 from rfl,show 1 + [tA].length=2 from rfl] at hR;have hE:dev3.kept=dev3.now/\Jr.Stand gA dev3.now (4 % Jr.plc gA) 2 []/\∀ b:Nat,Geo.home gA b=true->Jr.blk dev3.now b=Jr.val dev2.now [tA] b:=(by unfold dev3;exact hR.2.2 hD.1);have ha1:dev1.acts=130:=(by unfold dev1;rw [hA.2.2,fmtA_length];rfl);have hcl:(Jr.commitA gA tA 1 0 []).length=6:=by
  have h1:=actsN_full (g:=gA) (t:=tA) (seq:=1) (place:=0) (data:=[]);rw [<- actsN_all,List.length_append,h1,tA_size];rfl
 have ha2:dev2.acts=136:=(by unfold dev2;rw [hB.2.2,ha1,hcl];rfl);have hst3:Jr.Stand gA dev3.now (4 % Jr.plc gA) 2 []:=hE.2.1;rw [gA_plc] at hst3;refine ⟨hA.1,⟨hL1.2,e1k⟩,hO1.now,hS1.1,hS1.2,⟨hAr,ha1⟩,hB.1,⟨hL2.2,e2k⟩,hO2.now,hk2,hst2,⟨hBr,ha2⟩,hD.1,⟨hL3.2,by rw [hL3.1];exact e2k⟩,hO3.now,hst3,?_,?_⟩
 ·have:=hO3.acts;have h4:(Jr.replayA gA [tA] (4 % Jr.plc gA) 2).length<=260:=by
   unfold Jr.replayA;rw [List.length_append,List.length_map];have h5:(Jr.comes gA.blocks.toNat [tA]).length<=256:=by
    unfold Jr.comes;refine Nat.le_trans (List.length_filterMap_le _ _) ?_;rw [List.length_range,gA_blocks];decide
   have h6:(Jr.headA (4 % Jr.plc gA) 2).length=3:=rfl;omega
  rw [fmtA_length,hcl] at this;omega
 ·have h7:=hE.2.2 190 home190;have h8:dev3.kept.length=256:=(by rw [hL3.1];exact e2k);unfold Dev.readS;rw [if_neg (by rw [h8];omega)];show Jr.blk dev3.now 190=_;refine h7.trans ?_;rfl
end Go.Proofs.YtnpdhidliaahbaaGreat
