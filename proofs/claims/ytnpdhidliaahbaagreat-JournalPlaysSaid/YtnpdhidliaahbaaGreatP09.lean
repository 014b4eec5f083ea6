/- The journal: what a transaction's blocks are; what is read out of a ring's. No program. -/
import Derived.Test.YtnpdhidliaahbaaGreatP29
import Derived.Test.YtnpdhidliaahbaaGreatP08
import Derived.Test.YtnpdhidliaahbaaGreatProg
import Derived.Test.YtnpdhidliaahbaaGreatP30
set_option maxRecDepth 100000
set_option maxHeartbeats 32000000
set_option linter.unusedSimpArgs false
set_option linter.unusedVariables false
namespace Go.Proofs.YtnpdhidliaahbaaGreat.Jr
open Go.Lib (hid)
open Go Go.RowKit
abbrev Chg:=Int × ByteArray
structure Txn where
 ch:List Chg
 rv:List Int
 deriving DecidableEq
def none_:Txn:=⟨[],[]⟩
def sumB (b:Bytes):Nat:=(more 0#32 b).toNat
theorem sumB_lt (b:Bytes):sumB b < 2 ^ 32:=(more 0#32 b).isLt
def said:List Int->List Bool->List ByteArray->List Chg
 | b :: bs,m :: ms,s :: ss=>(b,if m=true then txt (Rec.unmask s.data.toList) else s) :: said bs ms ss
 | _,_,_=>[]
def parse (hm:Int->Bool) (seq:Nat):Nat->List ByteArray->Bytes->Txn->Option (Txn × List ByteArray)
 | 0,_,_,_=>none
 | _+1,[],_,_=>none
 | f+1,s :: bs,all,t =>
  match Rec.dec s.data.toList with
  | none=>none
  | some x =>
   if x.seq ≠ seq ∨ x.homes.all hm=false then none
   else if x.kind=4 then (if x.sum=sumB all then some (t,bs) else none)
   else if x.kind=3 then parse hm seq f bs (all ++ s.data.toList) ⟨t.ch,t.rv ++ x.homes⟩
   else if x.kind=2 then
    if bs.length < x.homes.length then none
    else parse hm seq f (bs.drop x.homes.length) (all ++ s.data.toList ++ cat (bs.take x.homes.length)) ⟨t.ch ++ said x.homes x.masked bs,t.rv⟩
   else none
theorem parse_fuel {hm:Int->Bool} {seq:Nat}:∀ (f f':Nat) (bs:List ByteArray) (all:Bytes) (t:Txn),bs.length < f->bs.length < f'->parse hm seq f bs all t=parse hm seq f' bs all t
 | f+1,f'+1,[],_,_,_,_=>rfl
 | f+1,f'+1,s :: bs,all,t,h,h'=>by
  have h1:bs.length < f:=(by simpa using h);have h2:bs.length < f':=(by simpa using h');unfold parse;cases e:Rec.dec s.data.toList with
  | none=>rfl
  | some x =>
   dsimp only;rw [parse_fuel f f' bs _ _ h1 h2,parse_fuel f f' (bs.drop x.homes.length) _ _ (by rw [List.length_drop];omega) (by rw [List.length_drop];omega)]
def parseA (hm:Int->Bool) (seq:Nat) (bs:List ByteArray) (all:Bytes) (t:Txn):Option (Txn × List ByteArray):=parse hm seq (bs.length+1) bs all t
theorem parseA_cons {hm:Int->Bool} {seq:Nat} (s:ByteArray) (bs:List ByteArray) (all:Bytes) (t:Txn):parseA hm seq (s :: bs) all t =
  match Rec.dec s.data.toList with
  | none=>none
  | some x =>
   if x.seq ≠ seq ∨ x.homes.all hm=false then none
   else if x.kind=4 then (if x.sum=sumB all then some (t,bs) else none)
   else if x.kind=3 then parseA hm seq bs (all ++ s.data.toList) ⟨t.ch,t.rv ++ x.homes⟩
   else if x.kind=2 then
    if bs.length < x.homes.length then none
    else parseA hm seq (bs.drop x.homes.length) (all ++ s.data.toList ++ cat (bs.take x.homes.length)) ⟨t.ch ++ said x.homes x.masked bs,t.rv⟩
   else none:=by
 unfold parseA
 rw [show (s :: bs).length+1=(bs.length+1)+1 from rfl]
 conv=>lhs;unfold parse
 cases e:Rec.dec s.data.toList with
 | none=>rfl
 | some x =>
  dsimp only;rw [parse_fuel (bs.length+1) ((bs.drop x.homes.length).length+1) (bs.drop x.homes.length) _ _ (by rw [List.length_drop];omega) (by omega)]
theorem parse_rest {hm:Int->Bool} {seq:Nat}:∀ (f:Nat) (bs:List ByteArray) (all:Bytes) (t t':Txn) (r:List ByteArray),parse hm seq f bs all t=some (t',r)->∃ n,1<=n/\n<=bs.length/\r=bs.drop n
 | f+1,s :: bs,all,t,t',r,h=>by
  unfold parse at h;cases e:Rec.dec s.data.toList with
  | none=>rw [e] at h;cases h
  | some x =>
   rw [e] at h;dsimp only at h;split at h
   ·cases h
   split at h
   ·split at h
    ·injection h with h
     injection h with h1 h2
     exact ⟨1,Nat.le_refl _,by simp,by rw [<- h2];rfl⟩
    cases h
   split at h
   ·obtain ⟨n,hn,hn2,rfl⟩:=parse_rest f _ _ _ _ _ h;exact ⟨n+1,by omega,by simp;omega,rfl⟩
   split at h
   ·split at h
    ·cases h
    obtain ⟨n,hn,hn2,rfl⟩:=parse_rest f _ _ _ _ _ h;rw [List.length_drop] at hn2;exact ⟨x.homes.length+n+1,by omega,by simp;omega,by rw [List.drop_drop,List.drop_succ_cons]⟩
   cases h
theorem parseA_rest {hm:Int->Bool} {seq:Nat} {bs:List ByteArray} {all:Bytes} {t t':Txn} {r:List ByteArray} (h:parseA hm seq bs all t=some (t',r)):∃ n,1<=n/\n<=bs.length/\r=bs.drop n:=parse_rest _ _ _ _ _ _ h
theorem parse_torn {hm:Int->Bool} {seq:Nat}:∀ (f:Nat) (bs:List ByteArray) (all:Bytes) (t:Txn),(∀ s ∈ bs,∀ x,Rec.dec s.data.toList=some x->x.kind=4->x.seq ≠ seq)->parse hm seq f bs all t=none
 | 0,_,_,_,_=>rfl
 | _+1,[],_,_,_=>rfl
 | f+1,s :: bs,all,t,h=>by
  unfold parse;cases e:Rec.dec s.data.toList with
  | none=>rfl
  | some x =>
   dsimp only;split
   ·rfl
   rename_i k1;split
   ·rename_i k2;exact absurd (Decidable.not_not.1 (fun h2=>k1 (.inl h2))) (h s (by simp) x e k2)
   split
   ·exact parse_torn f _ _ _ (fun s' hs=>h s' (by simp [hs]))
   split
   ·split
    ·rfl
    exact parse_torn f _ _ _ (fun s' hs=>h s' (by simp [List.mem_of_mem_drop hs]))
   rfl
theorem parseA_torn {hm:Int->Bool} {seq:Nat} {bs:List ByteArray} {all:Bytes} {t:Txn} (h:∀ s ∈ bs,∀ x,Rec.dec s.data.toList=some x->x.kind=4->x.seq ≠ seq):parseA hm seq bs all t=none:=parse_torn _ _ _ _ h
def nx (seq:Nat):Nat:=(seq+1) % 18446744073709551616
theorem nx_of {s:Nat} (h:s+1 < 18446744073709551616):nx s=s+1:=Nat.mod_eq_of_lt h
def readAll (hm:Int->Bool):Nat->Nat->List ByteArray->List Txn × List ByteArray
 | 0,_,bs=>([],bs)
 | f+1,seq,bs =>
  match parseA hm seq bs [] none_ with
  | none=>([],bs)
  | some (t,r)=>(t :: (readAll hm f (nx seq) r).1,(readAll hm f (nx seq) r).2)
theorem readAll_none {hm:Int->Bool} {f seq:Nat} {bs:List ByteArray} (h:parseA hm seq bs [] none_=none):readAll hm f seq bs=([],bs):=by
 cases f with
 | zero=>rfl
 | succ f=>unfold readAll;rw [h]
theorem readAll_some {hm:Int->Bool} {f seq:Nat} {bs r:List ByteArray} {t:Txn} (h:parseA hm seq bs [] none_=some (t,r)):readAll hm (f+1) seq bs=(t :: (readAll hm f (nx seq) r).1,(readAll hm f (nx seq) r).2):=by
 conv=>lhs;unfold readAll
 rw [h]
theorem readAll_fuel {hm:Int->Bool}:∀ (f f' seq:Nat) (bs:List ByteArray),bs.length < f->bs.length < f'->readAll hm f seq bs=readAll hm f' seq bs
 | f+1,f'+1,seq,bs,h,h'=>by
  cases e:parseA hm seq bs [] none_ with
  | none=>rw [readAll_none e,readAll_none e]
  | some q =>
   obtain ⟨t,r⟩:=q;obtain ⟨n,h1,h2,rfl⟩:=parseA_rest e;rw [readAll_some e,readAll_some e,readAll_fuel f f' _ _ (by rw [List.length_drop];omega) (by rw [List.length_drop];omega)]
def readR (hm:Int->Bool) (seq:Nat) (bs:List ByteArray):List Txn × List ByteArray:=readAll hm (bs.length+1) seq bs
theorem readR_none {hm:Int->Bool} {seq:Nat} {bs:List ByteArray} (h:parseA hm seq bs [] none_=none):readR hm seq bs=([],bs):=readAll_none h
theorem readR_some {hm:Int->Bool} {seq:Nat} {bs r:List ByteArray} {t:Txn} (h:parseA hm seq bs [] none_=some (t,r)):readR hm seq bs=(t :: (readR hm (nx seq) r).1,(readR hm (nx seq) r).2):=by
 unfold readR;obtain ⟨n,h1,h2,rfl⟩:=parseA_rest h;rw [readAll_some h,readAll_fuel bs.length ((bs.drop n).length+1) _ _ (by rw [List.length_drop];omega) (by omega)]
theorem readAll_rest {hm:Int->Bool}:∀ (f seq:Nat) (bs:List ByteArray),∃ n,n<=bs.length/\(readAll hm f seq bs).2=bs.drop n/\(readAll hm f seq bs).1.length<=n
 | 0,_,bs=>⟨0,Nat.zero_le _,rfl,Nat.le_refl _⟩
 | f+1,seq,bs=>by
  cases e:parseA hm seq bs [] none_ with
  | none=>rw [readAll_none e];exact ⟨0,Nat.zero_le _,rfl,Nat.le_refl _⟩
  | some q =>
   obtain ⟨t,r⟩:=q;obtain ⟨n,h1,h2,rfl⟩:=parseA_rest e;rw [readAll_some e];obtain ⟨m,g1,g2,g3⟩:=readAll_rest (hm:=hm) f (nx seq) (bs.drop n);rw [List.length_drop] at g1;exact ⟨n+m,by omega,by dsimp only;rw [g2,List.drop_drop],by dsimp only;simp;omega⟩
theorem readR_rest {hm:Int->Bool} (seq:Nat) (bs:List ByteArray):∃ n,n<=bs.length/\(readR hm seq bs).2=bs.drop n/\(readR hm seq bs).1.length<=n:=readAll_rest _ _ _
def plc (g:Geo.G):Nat:=g.log.toNat - 1
def blk (now:List ByteArray) (b:Nat):ByteArray:=now.getD b ⟨#[]⟩
def pb (g:Geo.G) (p:Nat):Nat:=2+p % plc g
def ring (g:Geo.G) (now:List ByteArray):Nat->Nat->List ByteArray
 | _,0=>[]
 | p,n+1=>blk now (pb g p) :: ring g now (p+1) n
theorem ring_length (g:Geo.G) (now:List ByteArray):∀ n p,(ring g now p n).length=n
 | 0,_=>rfl
 | n+1,p=>by unfold ring;rw [List.length_cons,ring_length g now n]
theorem ring_drop (g:Geo.G) (now:List ByteArray):∀ k n p,(ring g now p n).drop k=ring g now (p+k) (n - k)
 | 0,n,p=>rfl
 | k+1,0,p=>by rw [Nat.zero_sub];rfl
 | k+1,n+1,p=>by
  show ((blk now (pb g p) :: ring g now (p+1) n).drop (k+1))=_;rw [List.drop_succ_cons,ring_drop g now k n (p+1),show p+1+k=p+(k+1) by omega,show n+1 - (k+1)=n - k by omega]
theorem ring_take (g:Geo.G) (now:List ByteArray):∀ k n p,k<=n->(ring g now p n).take k=ring g now p k
 | 0,n,p,_=>by simp [ring]
 | k+1,n+1,p,h=>by
  unfold ring;rw [List.take_succ_cons,ring_take g now k n (p+1) (by omega)]
theorem ring_getD (g:Geo.G) (now:List ByteArray):∀ n p i,i < n->(ring g now p n)[i]?=some (blk now (pb g (p+i)))
 | n+1,p,0,_=>rfl
 | n+1,p,i+1,h=>by
  unfold ring;rw [List.getElem?_cons_succ,ring_getD g now n (p+1) i (by omega),show p+1+i=p+(i+1) by omega]
theorem ring_mod (g:Geo.G) (now:List ByteArray):∀ n p q,p % plc g=q % plc g->ring g now p n=ring g now q n
 | 0,p,q,_=>rfl
 | n+1,p,q,h=>by
  unfold ring;unfold pb;rw [h,ring_mod g now n (p+1) (q+1) (by rw [Nat.add_mod,h,<- Nat.add_mod])]
structure Log where
 at_:Nat
 seq:Nat
 txns:List Txn
 used:Nat
def readL (g:Geo.G) (now:List ByteArray):Option Log:=
 match Rec.dec (blk now 1).data.toList with
 | none=>none
 | some x=>if x.kind=1/\x.at_ < plc g then
   some ⟨x.at_.toNat,x.seq,(readR (Geo.home g) x.seq (ring g now x.at_.toNat (plc g))).1,plc g - (readR (Geo.home g) x.seq (ring g now x.at_.toNat (plc g))).2.length⟩
  else none
def chunksF {α:Type} (n:Nat):Nat->List α->List (List α)
 | 0,_=>[]
 | f+1,l=>if l.isEmpty=true then [] else l.take n :: chunksF n f (l.drop n)
theorem chunksF_fuel {α:Type} {n:Nat} (hn:1<=n):∀ (f f':Nat) (l:List α),l.length<=f->l.length<=f'->chunksF n f l=chunksF n f' l
 | 0,0,l,_,_=>rfl
 | 0,f'+1,l,h,_=>by
  obtain rfl:l = []:=List.length_eq_zero_iff.1 (by omega);rfl
 | f+1,0,l,_,h=>by
  obtain rfl:l = []:=List.length_eq_zero_iff.1 (by omega);rfl
 | f+1,f'+1,l,h,h'=>by
  unfold chunksF;cases l with
  | nil=>rfl
  | cons x l =>
   rw [chunksF_fuel hn f f' _ (by rw [List.length_drop];omega) (by rw [List.length_drop];omega)]
def chunks {α:Type} (n:Nat) (l:List α):List (List α):=chunksF n l.length l
theorem chunks_nil {α:Type} (n:Nat):chunks n ([]:List α) = []:=rfl
theorem chunks_cons {α:Type} {n:Nat} (hn:1<=n) {l:List α} (h:l ≠ []):chunks n l=l.take n :: chunks n (l.drop n):=by
 unfold chunks;cases l with
 | nil=>exact absurd rfl h
 | cons x l =>
  conv=>lhs;rw [List.length_cons];unfold chunksF
  rw [if_neg (by simp),chunksF_fuel hn l.length ((x :: l).drop n).length _ (by rw [List.length_drop,List.length_cons];omega) (Nat.le_refl _)]
theorem chunks_ind {α:Type} {n:Nat} (hn:1<=n) {P:List α->Prop} (h0:P []) (h1:∀ l,l ≠ []->P (l.drop n)->P l):∀ (k:Nat) (l:List α),l.length<=k->P l
 | 0,l,h=>by
  obtain rfl:l = []:=List.length_eq_zero_iff.1 (by omega);exact h0
 | k+1,l,h=>by
  by_cases e:l = []
  ·subst e;exact h0
  refine h1 l e (chunks_ind hn h0 h1 k _ ?_);have:=List.length_pos_iff.2 e;rw [List.length_drop];omega
theorem chunks_mem {α:Type} {n:Nat} (hn:1<=n) (l:List α):∀ c ∈ chunks n l,1<=c.length/\c.length<=n/\∀ x ∈ c,x ∈ l:=by
 refine chunks_ind hn (P:=fun l=>∀ c ∈ chunks n l,1<=c.length/\c.length<=n/\∀ x ∈ c,x ∈ l) ?_ ?_ l.length l (Nat.le_refl _)
 ·intro c hc;rw [chunks_nil] at hc;cases hc
 ·intro l hl ih c hc;rw [chunks_cons hn hl] at hc;have:=List.length_pos_iff.2 hl;rcases List.mem_cons.1 hc with rfl | hc
  ·refine ⟨by rw [List.length_take];omega,by rw [List.length_take];omega,fun x hx=>List.mem_of_mem_take hx⟩
  obtain ⟨h1,h2,h3⟩:=ih c hc;exact ⟨h1,h2,fun x hx=>List.mem_of_mem_drop (h3 x hx)⟩
def cdiv (n k:Nat):Nat:=(n+k - 1) / k
theorem chunks_length {α:Type} {n:Nat} (hn:1<=n) (l:List α):(chunks n l).length=cdiv l.length n:=by
 refine chunks_ind hn (P:=fun l=>(chunks n l).length=cdiv l.length n) ?_ ?_ l.length l (Nat.le_refl _)
 ·rw [chunks_nil];unfold cdiv;symm;simp;omega
 ·intro l hl ih;have h0:=List.length_pos_iff.2 hl;rw [chunks_cons hn hl,List.length_cons,ih,List.length_drop];unfold cdiv;rcases Nat.lt_or_ge l.length n with h | h
  ·rw [show l.length - n+n - 1=n - 1 by omega,Nat.div_eq_of_lt (show n - 1 < n by omega),show l.length+n - 1=(l.length - 1)+n by omega,Nat.add_div_right _ (by omega),Nat.div_eq_of_lt (by omega)]
  rw [show l.length+n - 1=(l.length - n+n - 1)+n by omega,Nat.add_div_right _ (by omega)]
def revB (seq:Nat) (l:List Int):ByteArray:=txt (Rec.rb ⟨3,seq,0,l,[],0⟩)
def maskB (s:ByteArray):ByteArray × Bool:=(txt (Rec.mask s.data.toList).1,(Rec.mask s.data.toList).2)
def descV (seq:Nat) (l:List Chg):Rec.V:=⟨2,seq,0,l.map (·.1),l.map fun c=>(maskB c.2).2,0⟩
def descB (seq:Nat) (l:List Chg):List ByteArray:=txt (Rec.rb (descV seq l)) :: l.map fun c=>(maskB c.2).1
def body (t:Txn) (seq:Nat):List ByteArray:=(chunks 28 t.rv).map (revB seq) ++ (chunks 24 t.ch).flatMap (descB seq)
def lastB (t:Txn) (seq:Nat):ByteArray:=txt (Rec.rb ⟨4,seq,0,[],[],sumB (cat (body t seq))⟩)
def told (t:Txn) (seq:Nat):List ByteArray:=body t seq ++ [lastB t seq]
def size (t:Txn):Nat:=cdiv t.rv.length 28+cdiv t.ch.length 24+t.ch.length+1
theorem descs_length (seq:Nat) (l:List Chg):((chunks 24 l).flatMap (descB seq)).length=cdiv l.length 24+l.length:=by
 refine chunks_ind (n:=24) (by decide) (P:=fun l=>((chunks 24 l).flatMap (descB seq)).length=cdiv l.length 24+l.length) ?_ ?_ l.length l (Nat.le_refl _)
 ·rfl
 ·intro l hl ih;have h0:=List.length_pos_iff.2 hl;have e1:=chunks_length (n:=24) (by decide) l;have e2:=chunks_length (n:=24) (by decide) (l.drop 24);rw [chunks_cons (by decide) hl,List.length_cons,e2] at e1;rw [chunks_cons (by decide) hl,List.flatMap_cons,List.length_append,ih];unfold descB;rw [List.length_cons,List.length_map,List.length_take,List.length_drop] at *;omega
theorem told_length (t:Txn) (seq:Nat):(told t seq).length=size t:=by
 unfold told body size;rw [List.length_append,List.length_append,List.length_map,chunks_length (by decide),descs_length];simp;omega
theorem body_length (t:Txn) (seq:Nat):(body t seq).length+1=size t:=by
 rw [<- told_length t seq];unfold told;simp
def Ups (p:Int->Bool) (l:List Int):Prop:=(∀ x ∈ l,p x=true)/\l.Pairwise (· < ·)
structure Ok (hm:Int->Bool) (t:Txn):Prop where
 ch:Ups hm (t.ch.map (·.1))
 rv:Ups hm t.rv
 data:∀ c ∈ t.ch,c.2.size=128
 no:∀ b ∈ t.rv,∀ c ∈ t.ch,c.1 ≠ b
theorem rises_of {p q:Int->Bool} {l:List Int} (h:Ups p l) (hpq:∀ x,p x=true->q x=true):Rec.rises q l=true:=by
 have gen:∀ n,n<=l.length->Rec.risesTo q l n=true:=by
  intro n;induction n with
  | zero=>intro _;rfl
  | succ n ih =>
   intro hn;have hn':n < l.length:=by omega
   unfold Rec.risesTo;rw [ih (by omega),Bool.true_and,Bool.and_eq_true];have e:l.getD n 0=l[n]:=by simp [List.getD,hn']
   refine ⟨by rw [e];exact hpq _ (h.1 _ (List.getElem_mem hn')),?_⟩;by_cases h0:n=0
   ·simp [h0]
   have e2:l.getD (n - 1) 0=l[n - 1]:=(by simp [List.getD,show n - 1 < l.length by omega]);rw [e,e2];simp only [Bool.or_eq_true,decide_eq_true_eq];exact .inr (List.pairwise_iff_getElem.1 h.2 (n - 1) n (by omega) hn' (by omega))
 exact gen _ (Nat.le_refl _)
theorem Ups.sub {p:Int->Bool} {l m:List Int} (h:Ups p l) (hs:m.Sublist l):Ups p m:=⟨fun x hx=>h.1 x (hs.subset hx),h.2.sublist hs⟩
theorem chunks_ups {p:Int->Bool} {n:Nat} (hn:1<=n) {l:List Int} (h:Ups p l):∀ c ∈ chunks n l,Ups p c:=by
 refine chunks_ind hn (P:=fun l=>Ups p l->∀ c ∈ chunks n l,Ups p c) ?_ ?_ l.length l (Nat.le_refl _) h
 ·intro _ c hc;rw [chunks_nil] at hc;cases hc
 ·intro l hl ih h c hc;rw [chunks_cons hn hl] at hc;rcases List.mem_cons.1 hc with rfl | hc
  ·exact h.sub (List.take_sublist _ _)
  exact ih (h.sub (List.drop_sublist _ _)) c hc
def Small (hm:Int->Bool):Prop:=∀ b,hm b=true->Rec.blockOk b=true
theorem rev_may {hm:Int->Bool} (hs:Small hm) {seq:Nat} {l:List Int} (h:Ups hm l) (h1:1<=l.length) (h2:l.length<=28):Rec.may ⟨3,seq,0,l,[],0⟩=true:=by
 unfold Rec.may Rec.homesOk;simp [rises_of h hs,h2];omega
theorem desc_may {hm:Int->Bool} (hs:Small hm) {seq:Nat} {l:List Chg} (h:Ups hm (l.map (·.1))) (h1:1<=l.length) (h2:l.length<=24):Rec.may (descV seq l)=true:=by
 unfold Rec.may Rec.homesOk descV;simp [rises_of h hs,h2];omega
theorem last_may {seq n:Nat}:Rec.may ⟨4,seq,0,[],[],n⟩=true:=by
 unfold Rec.may;simp
theorem said_masks:∀ (l:List Chg) (r:List ByteArray),said (l.map (·.1)) (l.map fun c=>(maskB c.2).2) ((l.map fun c=>(maskB c.2).1) ++ r)=l
 | [],r=>by simp [said]
 | c :: l,r=>by
  simp only [List.map_cons,List.cons_append];unfold said;rw [said_masks l r];congr 1;refine Prod.ext rfl ?_;show (if (Rec.mask c.2.data.toList).2=true then txt (Rec.unmask (txt (Rec.mask c.2.data.toList).1).data.toList) else txt (Rec.mask c.2.data.toList).1)=c.2;rw [txt_list];have:=Rec.mask_back c.2.data.toList;by_cases k:(Rec.mask c.2.data.toList).2=true
  ·rw [if_pos k] at this ⊢;rw [this,txt_of]
  ·rw [if_neg k] at this ⊢;rw [this,txt_of]
theorem cat_append (a b:List ByteArray):cat (a ++ b)=cat a ++ cat b:=by simp [cat]
theorem cat_cons (a:ByteArray) (b:List ByteArray):cat (a :: b)=a.data.toList ++ cat b:=by simp [cat]
theorem cat_nil:cat [] = []:=rfl
theorem parse_revs {hm:Int->Bool} (hs:Small hm) {seq:Nat} (hq:seq < 2 ^ 64) (l:List Int):∀ (r:List ByteArray) (all:Bytes) (t:Txn),Ups hm l ->
  parseA hm seq ((chunks 28 l).map (revB seq) ++ r) all t=parseA hm seq r (all ++ cat ((chunks 28 l).map (revB seq))) ⟨t.ch,t.rv ++ l⟩:=by
 refine chunks_ind (n:=28) (by decide) (P:=fun l=>∀ (r:List ByteArray) (all:Bytes) (t:Txn),Ups hm l ->
  parseA hm seq ((chunks 28 l).map (revB seq) ++ r) all t=parseA hm seq r (all ++ cat ((chunks 28 l).map (revB seq))) ⟨t.ch,t.rv ++ l⟩) ?_ ?_ l.length l (Nat.le_refl _)
 ·intro r all t _;simp [chunks_nil,cat_nil]
 ·intro l hl ih r all t h;have h0:=List.length_pos_iff.2 hl;have hm1:=rev_may (seq:=seq) hs (h.sub (List.take_sublist 28 l)) (by rw [List.length_take];omega) (by rw [List.length_take];omega);have hd:Rec.dec (revB seq (l.take 28)).data.toList=some ⟨3,seq,0,l.take 28,[],0⟩:=by
   unfold revB;rw [txt_list];exact Rec.dec_rb hm1 hq (show (0:Nat) < 2 ^ 32 by decide)
  rw [chunks_cons (by decide) hl,List.map_cons,List.cons_append,parseA_cons,hd];dsimp only;rw [if_neg (by
   rintro (h1 | h1)
   ·exact h1 rfl
   rw [List.all_eq_true.2 (fun x hx=>h.1 x (List.mem_of_mem_take hx))] at h1;cases h1),if_neg (by decide),if_pos rfl,ih _ _ _ (h.sub (List.drop_sublist 28 l))]
  dsimp only;rw [cat_cons,List.append_assoc,List.append_assoc,List.take_append_drop]
theorem parse_descs {hm:Int->Bool} (hs:Small hm) {seq:Nat} (hq:seq < 2 ^ 64) (l:List Chg):∀ (r:List ByteArray) (all:Bytes) (t:Txn),Ups hm (l.map (·.1)) ->
  parseA hm seq ((chunks 24 l).flatMap (descB seq) ++ r) all t=parseA hm seq r (all ++ cat ((chunks 24 l).flatMap (descB seq))) ⟨t.ch ++ l,t.rv⟩:=by
 refine chunks_ind (n:=24) (by decide) (P:=fun l=>∀ (r:List ByteArray) (all:Bytes) (t:Txn),Ups hm (l.map (·.1)) ->
  parseA hm seq ((chunks 24 l).flatMap (descB seq) ++ r) all t=parseA hm seq r (all ++ cat ((chunks 24 l).flatMap (descB seq))) ⟨t.ch ++ l,t.rv⟩) ?_ ?_ l.length l (Nat.le_refl _)
 ·intro r all t _;simp [chunks_nil,cat_nil]
 ·intro l hl ih r all t h;have h0:=List.length_pos_iff.2 hl;have hT:Ups hm ((l.take 24).map (·.1)):=h.sub ((List.take_sublist 24 l).map _);have hm1:=desc_may (seq:=seq) hs hT (by rw [List.length_take];omega) (by rw [List.length_take];omega);have hd:Rec.dec (txt (Rec.rb (descV seq (l.take 24)))).data.toList=some (descV seq (l.take 24)):=by
   rw [txt_list];exact Rec.dec_rb hm1 hq (show (0:Nat) < 2 ^ 32 by decide)
  rw [chunks_cons (by decide) hl,List.flatMap_cons];have eB:descB seq (l.take 24)=txt (Rec.rb (descV seq (l.take 24))) :: (l.take 24).map fun c=>(maskB c.2).1:=rfl;rw [eB,List.cons_append,List.cons_append,parseA_cons,hd];dsimp only;have el:(descV seq (l.take 24)).homes.length=((l.take 24).map fun c=>(maskB c.2).1).length:=by unfold descV;simp
  rw [if_neg (by
   rintro (h1 | h1)
   ·exact h1 rfl
   have e:(descV seq (l.take 24)).homes.all hm=true:=List.all_eq_true.2 (fun x hx=>hT.1 x hx);rw [e] at h1;cases h1),if_neg (show ¬ ((descV seq (l.take 24)).kind=4) from (by decide:¬ ((2:Int)=4))),if_neg (show ¬ ((descV seq (l.take 24)).kind=3) from (by decide:¬ ((2:Int)=3))),if_pos (show (descV seq (l.take 24)).kind=2 from rfl),if_neg (by rw [el,List.append_assoc,List.length_append];omega),el,List.append_assoc,List.drop_left,List.take_left]
  have es:said (descV seq (l.take 24)).homes (descV seq (l.take 24)).masked (((l.take 24).map fun c=>(maskB c.2).1) ++ ((chunks 24 (l.drop 24)).flatMap (descB seq) ++ r))=l.take 24:=said_masks _ _;rw [es];have hD:Ups hm ((l.drop 24).map (·.1)):=h.sub ((List.drop_sublist 24 l).map _);rw [ih _ _ _ hD];dsimp only;rw [cat_cons,cat_append,List.append_assoc t.ch,List.take_append_drop];simp only [List.append_assoc]
theorem parse_told {hm:Int->Bool} (hs:Small hm) {seq:Nat} (hq:seq < 2 ^ 64) {t:Txn} (h:Ok hm t) (r:List ByteArray):parseA hm seq (told t seq ++ r) [] none_=some (t,r):=by
 unfold told body;rw [List.append_assoc,List.append_assoc,parse_revs hs hq _ _ _ _ h.rv,parse_descs hs hq _ _ _ _ h.ch,List.singleton_append,parseA_cons];have hd:Rec.dec (lastB t seq).data.toList=some ⟨4,seq,0,[],[],sumB (cat (body t seq))⟩:=by
  unfold lastB;rw [txt_list];exact Rec.dec_rb last_may hq (sumB_lt _)
 rw [hd];dsimp only;rw [if_neg (by
  rintro (h1 | h1)
  ·exact h1 rfl
  cases h1),if_pos rfl,if_pos (by rw [List.nil_append,<- cat_append];rfl)]
 rfl
theorem blk_set (m:List ByteArray) (b:Nat) (s:ByteArray) (i:Nat):blk (m.set b s) i=if i=b/\b < m.length then s else blk m i:=by
 unfold blk;simp only [List.getD,List.getElem?_set];by_cases e:b=i
 ·subst e;by_cases h:b < m.length
  ·simp [h]
  simp [h]
 ·simp [e,Ne.symm e]
theorem blk_eq {m n:List ByteArray} (hl:m.length=n.length) (h:∀ i,blk m i=blk n i):m=n:=by
 apply List.ext_getElem hl;intro i h1 h2;have:=h i;unfold blk at this;simpa [List.getD,h1,h2] using this
structure Mix (K N m:List ByteArray):Prop where
 len:m.length=K.length
 at_:∀ i,blk m i=blk K i ∨ blk m i=blk N i
theorem Mix.left {K N:List ByteArray}:Mix K N K:=⟨rfl,fun _=>.inl rfl⟩
theorem Mix.right {K N:List ByteArray} (h:N.length=K.length):Mix K N N:=⟨h,fun _=>.inr rfl⟩
theorem Mix.same {N m:List ByteArray} (h:Mix N N m):m=N:=blk_eq h.len fun i=>(h.at_ i).elim id id
theorem Mix.set {K N m:List ByteArray} {b:Nat} {s:ByteArray} (hl:N.length=K.length) (h:Mix K (N.set b s) m):∃ m0,Mix K N m0/\(m=m0 ∨ m=m0.set b s):=by
 by_cases hb:b < N.length
 ·by_cases e:blk m b=blk K b ∨ blk m b=blk N b
  ·refine ⟨m,⟨h.len,fun i=>?_⟩,.inl rfl⟩;rcases h.at_ i with g | g
   ·exact .inl g
   rw [blk_set] at g;by_cases hi:i=b
   ·subst hi;exact e
   rw [if_neg (fun k=>hi k.1)] at g;exact .inr g
  refine ⟨m.set b (blk K b),⟨by rw [List.length_set];exact h.len,fun i=>?_⟩,.inr (blk_eq (by simp) fun i=>?_)⟩
  ·rw [blk_set];by_cases hi:i=b
   ·subst hi;rw [if_pos ⟨rfl,by rw [h.len,<- hl];exact hb⟩];exact .inl rfl
   rw [if_neg (fun k=>hi k.1)];rcases h.at_ i with g | g
   ·exact .inl g
   rw [blk_set,if_neg (fun k=>hi k.1)] at g;exact .inr g
  rw [blk_set,List.length_set];by_cases hi:i=b
  ·subst hi;rw [if_pos ⟨rfl,by rw [h.len,<- hl];exact hb⟩];rcases h.at_ i with g | g
   ·exact absurd (.inl g) e
   rw [blk_set,if_pos ⟨rfl,hb⟩] at g;exact g
  rw [if_neg (fun k=>hi k.1),blk_set,if_neg (fun k=>hi k.1)]
 ·refine ⟨m,⟨h.len,fun i=>?_⟩,.inl rfl⟩;rcases h.at_ i with g | g
  ·exact .inl g
  rw [blk_set,if_neg (fun k=>hb k.2)] at g;exact .inr g
def look1 (t:Txn) (b:Int) (o:Option ByteArray):Option ByteArray:=
 if b ∈ t.rv then none else (match t.ch.reverse.find? (fun c=>c.1 == b) with | some c=>some c.2 | none=>o)
def look (l:List Txn) (b:Int):Option ByteArray:=l.foldl (fun o t=>look1 t b o) none
theorem look_snoc (l:List Txn) (t:Txn) (b:Int):look (l ++ [t]) b=look1 t b (look l b):=by simp [look]
def val (m:List ByteArray) (l:List Txn) (b:Nat):ByteArray:=(look l b).getD (blk m b)
def comes (n:Nat) (l:List Txn):List Chg:=(List.range n).filterMap fun (b:Nat)=>(look l b).map fun s=>((b:Int),s)
def Old (cur:Nat) (s:ByteArray):Prop:=∀ x,Rec.dec s.data.toList=some x->x.kind=4->x.seq < cur
theorem Old.mono {cur cur':Nat} {s:ByteArray} (h:Old cur s) (hc:cur<=cur'):Old cur' s:=fun x hx hk=>Nat.lt_of_lt_of_le (h x hx hk) hc
def toldAll:Nat->List Txn->List ByteArray
 | _,[]=>[]
 | seq,t :: l=>told t seq ++ toldAll (seq+1) l
def sizes:List Txn->Nat
 | []=>0
 | t :: l=>size t+sizes l
theorem toldAll_snoc:∀ (l:List Txn) (seq:Nat) (t:Txn),toldAll seq (l ++ [t])=toldAll seq l ++ told t (seq+l.length)
 | [],seq,t=>by simp [toldAll]
 | u :: l,seq,t=>by
  show told u seq ++ toldAll (seq+1) (l ++ [t])=(told u seq ++ toldAll (seq+1) l) ++ told t (seq+(u :: l).length);rw [toldAll_snoc l (seq+1) t,List.append_assoc,List.length_cons,show seq+1+l.length=seq+(l.length+1) by omega]
theorem sizes_snoc:∀ (l:List Txn) (t:Txn),sizes (l ++ [t])=sizes l+size t
 | [],t=>by simp [sizes]
 | u :: l,t=>by
  show size u+sizes (l ++ [t])=(size u+sizes l)+size t;rw [sizes_snoc l t];omega
theorem size_pos (t:Txn):1<=size t:=by unfold size;omega
def headV (at_ seq:Nat):Rec.V:=⟨1,seq,(at_:Int),[],[],0⟩
def headB (at_ seq:Nat):ByteArray:=txt (Rec.rb (headV at_ seq))
theorem head_may {at_ seq:Nat} (h:at_<=510):Rec.may (headV at_ seq)=true:=by
 unfold Rec.may headV;simp;omega
theorem head_dec {at_ seq:Nat} (h:at_<=510) (hq:seq < 2 ^ 64):Rec.dec (headB at_ seq).data.toList=some (headV at_ seq):=by
 unfold headB;rw [txt_list];exact Rec.dec_rb (head_may h) hq (show (0:Nat) < 2 ^ 32 by decide)
structure Stand (g:Geo.G) (m:List ByteArray) (at_ seq:Nat) (l:List Txn):Prop where
 head:blk m 1=headB at_ seq
 lt:at_ < plc g
 ok:∀ t ∈ l,Ok (Geo.home g) t
 fit:sizes l<=plc g
 ring:ring g m at_ (sizes l)=toldAll seq l
 old:∀ p,Old (seq+l.length) (blk m (pb g p))
 num:seq+l.length < 2 ^ 62
theorem small_home {g:Geo.G} (h:Geo.May g):Small (Geo.home g):=by
 intro b hb;have h0:=h.ok;unfold Geo.asked at h0;unfold Geo.home at hb;simp only [decide_eq_true_eq] at hb;rw [Rec.blockOk_iff];omega
theorem plc_of {g:Geo.G} (h:Geo.May g):127<=plc g/\plc g<=511/\((plc g:Nat):Int)=g.log - 1:=by
 have h0:=h.ok;unfold Geo.asked at h0;unfold plc;omega
theorem pb_lt {g:Geo.G} (h:Geo.May g) (p:Nat):2<=pb g p/\pb g p < 1+g.log.toNat/\pb g p < g.blocks.toNat:=by
 have h0:=h.ok;have h1:=plc_of h;unfold Geo.asked at h0;have:=Nat.mod_lt p (show 0 < plc g by omega);unfold pb;omega
theorem pb_mod (g:Geo.G) (p:Nat):pb g (p % plc g)=pb g p:=by unfold pb;rw [Nat.mod_mod]
theorem read_all {hm:Int->Bool} (hs:Small hm):∀ (l:List Txn) (seq:Nat) (r:List ByteArray),(∀ t ∈ l,Ok hm t)->seq+l.length < 2 ^ 62->(∀ s ∈ r,Old (seq+l.length) s)->readR hm seq (toldAll seq l ++ r)=(l,r)
 | [],seq,r,_,_,ho=>readR_none (parseA_torn fun s hs' x hx hk=>by
   have h:=ho s hs' x hx hk;rw [List.length_nil] at h;omega)
 | t :: l,seq,r,hok,hn,ho=>by
  rw [List.length_cons] at hn ho;have e1:=parse_told hs (seq:=seq) (by omega) (hok t (by simp)) (toldAll (seq+1) l ++ r);have e:toldAll seq (t :: l) ++ r=told t seq ++ (toldAll (seq+1) l ++ r):=List.append_assoc _ _ _;rw [e,readR_some e1,nx_of (by omega),read_all hs l (seq+1) r (fun u hu=>hok u (by simp [hu])) (by omega) (fun s hs'=>(ho s hs').mono (by omega))]
theorem Stand.split {g:Geo.G} {m:List ByteArray} {at_ seq:Nat} {l:List Txn} (h:Stand g m at_ seq l):Jr.ring g m at_ (plc g)=toldAll seq l ++ Jr.ring g m (at_+sizes l) (plc g - sizes l):=by
 have e:=List.take_append_drop (sizes l) (Jr.ring g m at_ (plc g));rw [ring_take _ _ _ _ _ h.fit,ring_drop,h.ring] at e;exact e.symm
theorem Stand.read {g:Geo.G} {m:List ByteArray} {at_ seq:Nat} {l:List Txn} (hg:Geo.May g) (h:Stand g m at_ seq l):readL g m=some ⟨at_,seq,l,sizes l⟩:=by
 have hp:=plc_of hg;have h1:=h.lt;have h2:=h.num;have h3:=h.fit;unfold readL;rw [h.head,head_dec (by omega) (by omega)];dsimp only;rw [if_pos ⟨rfl,by show ((at_:Int)) < _;omega⟩,show (headV at_ seq).at_.toNat=at_ from rfl,show (headV at_ seq).seq=seq from rfl,h.split,read_all (small_home hg) l seq _ h.ok h.num (fun s hs=>by
  obtain ⟨i,hi,rfl⟩:=List.mem_iff_getElem.1 hs;have e:=ring_getD g m (plc g - sizes l) (at_+sizes l) i (by rw [ring_length] at hi;exact hi);rw [List.getElem?_eq_getElem hi] at e;injection e with e;rw [e];exact h.old _)]
 dsimp only;rw [ring_length,show plc g - (plc g - sizes l)=sizes l by omega]
theorem ring_blk {g:Geo.G} {m n:List ByteArray}:∀ (k p:Nat),(∀ i,i < k->blk m (pb g (p+i))=blk n (pb g (p+i)))->ring g m p k=ring g n p k
 | 0,_,_=>rfl
 | k+1,p,h=>by
  show blk m (pb g p) :: ring g m (p+1) k=blk n (pb g p) :: ring g n (p+1) k;rw [show blk m (pb g p)=blk n (pb g p) from h 0 (by omega),ring_blk (m:=m) (n:=n) k (p+1) (fun i hi=>by
   have:=h (i+1) (by omega);rwa [show p+(i+1)=p+1+i by omega] at this)]
theorem Stand.other {g:Geo.G} (hg:Geo.May g) {m:List ByteArray} {at_ seq:Nat} {l:List Txn} (h:Stand g m at_ seq l) {b:Nat} (hb:b < 1 ∨ 1+g.log.toNat<=b) (s:ByteArray):Stand g (m.set b s) at_ seq l:=by
 have e:∀ i,1<=i->i < 1+g.log.toNat->blk (m.set b s) i=blk m i:=fun i h1 h2=>by rw [blk_set,if_neg (by omega)]
 have hp:=hg.ok;unfold Geo.asked at hp;refine ⟨by rw [e 1 (by omega) (by omega)];exact h.head,h.lt,h.ok,h.fit,?_,fun p=>?_,h.num⟩
 ·rw [<- h.ring];exact ring_blk _ _ fun i _=>e _ (by have:=pb_lt hg (at_+i);omega) (pb_lt hg _).2.1
 ·rw [e _ (by have:=pb_lt hg p;omega) (pb_lt hg p).2.1];exact h.old p
theorem pb_inj {g:Geo.G} {p q:Nat} (h:pb g p=pb g q):p % plc g=q % plc g:=by unfold pb at h;omega
theorem mod_ne {n a i j:Nat} (hn:0 < n) (hi:i < n) (hj:j < n) (h:(a+i) % n=(a+j) % n):i=j:=by
 rcases Nat.le_total i j with k | k
 ·have:(j - i) % n=0:=by
   have:=Nat.sub_mod_eq_zero_of_mod_eq h.symm;rwa [show a+j - (a+i)=j - i by omega] at this
  rw [Nat.mod_eq_of_lt (by omega)] at this;omega
 ·have:(i - j) % n=0:=by
   have:=Nat.sub_mod_eq_zero_of_mod_eq h;rwa [show a+i - (a+j)=i - j by omega] at this
  rw [Nat.mod_eq_of_lt (by omega)] at this;omega
theorem Stand.behind {g:Geo.G} (hg:Geo.May g) {m:List ByteArray} {at_ seq:Nat} {l:List Txn} (h:Stand g m at_ seq l) {j:Nat} (hj:sizes l<=j) (hj2:j < plc g) {s:ByteArray} (hs:Old (seq+l.length) s):Stand g (m.set (pb g (at_+j)) s) at_ seq l:=by
 have hp:=pb_lt hg (at_+j);have hfit:=h.fit;refine ⟨by rw [blk_set,if_neg (by omega)];exact h.head,h.lt,h.ok,h.fit,?_,fun p=>?_,h.num⟩
 ·rw [<- h.ring];refine ring_blk _ _ fun i hi=>?_;rw [blk_set,if_neg];rintro ⟨e,_⟩;have:=mod_ne (by have:=plc_of hg;omega) (by omega) hj2 (pb_inj e);omega
 ·rw [blk_set];split
  ·exact hs
  exact h.old p
def Body (g:Geo.G) (m:List ByteArray) (p:Nat) (bs:List ByteArray):Prop:=ring g m p bs.length=bs
theorem ring_append (g:Geo.G) (m:List ByteArray):∀ (a b p:Nat),ring g m p (a+b)=ring g m p a ++ ring g m (p+a) b
 | 0,b,p=>by simp [ring]
 | a+1,b,p=>by
  rw [show a+1+b=(a+b)+1 by omega];show blk m (pb g p) :: ring g m (p+1) (a+b)=(blk m (pb g p) :: ring g m (p+1) a) ++ _;rw [ring_append g m a b (p+1),List.cons_append,show p+1+a=p+(a+1) by omega]
theorem Stand.last {g:Geo.G} (hg:Geo.May g) {m:List ByteArray} (hm:m.length=g.blocks.toNat) {at_ seq:Nat} {l:List Txn} (h:Stand g m at_ seq l) {t:Txn} (ht:Ok (Geo.home g) t) (hf:sizes l+size t<=plc g) (hn:seq+l.length+1 < 2 ^ 62)
  (hb:Body g m (at_+sizes l) (body t (seq+l.length))):Stand g (m.set (pb g (at_+(sizes l+(size t - 1)))) (lastB t (seq+l.length))) at_ seq (l ++ [t]):=by
 have hp:=pb_lt hg (at_+(sizes l+(size t - 1)))
 have hs:=size_pos t
 have hpl:=plc_of hg
 have hlast:Old (seq+l.length+1) (lastB t (seq+l.length)):=by
  intro x hx hk;have:Rec.dec (lastB t (seq+l.length)).data.toList=some ⟨4,seq+l.length,0,[],[],sumB (cat (body t (seq+l.length)))⟩:=by
   unfold lastB;rw [txt_list];exact Rec.dec_rb last_may (show seq+l.length < 2 ^ 64 by omega) (sumB_lt _)
  rw [this] at hx;injection hx with hx
  rw [<- hx];exact Nat.lt_succ_self _
 have hne:∀ i,i < sizes l+(size t - 1)->blk (m.set (pb g (at_+(sizes l+(size t - 1)))) (lastB t (seq+l.length))) (pb g (at_+i))=blk m (pb g (at_+i)):=fun i hi=>by
  rw [blk_set,if_neg];rintro ⟨e,_⟩;have:=mod_ne (by omega) (by omega) (by omega) (pb_inj e);omega
 refine ⟨by rw [blk_set,if_neg (by omega)];exact h.head,h.lt,?_,by rw [sizes_snoc];exact hf,?_,fun p=>?_,by rw [List.length_append,List.length_singleton];omega⟩
 ·intro u hu;rcases List.mem_append.1 hu with hu | hu
  ·exact h.ok u hu
  rw [List.mem_singleton.1 hu];exact ht
 ·rw [sizes_snoc,toldAll_snoc,show sizes l+size t=(sizes l+(size t - 1))+1 by omega,ring_append,ring_append,ring_blk (n:=m) (sizes l) at_ (fun i hi=>hne i (by omega)),h.ring,ring_blk (n:=m) (size t - 1) (at_+sizes l) (fun i hi=>by
   rw [show at_+sizes l+i=at_+(sizes l+i) by omega];exact hne _ (by omega))]
  unfold Body at hb;have hbl:=body_length t (seq+l.length);rw [show (body t (seq+l.length)).length=size t - 1 by omega] at hb;rw [hb,List.append_assoc];unfold told;congr 2;show [blk _ (pb g (at_+(sizes l+(size t - 1))))]=_;rw [blk_set,if_pos ⟨rfl,by rw [hm];exact hp.2.2⟩]
 ·rw [blk_set,List.length_append,List.length_singleton,<- Nat.add_assoc];split
  ·exact hlast
  exact (h.old p).mono (by omega)
theorem Stand.anew {g:Geo.G} (hg:Geo.May g) {m:List ByteArray} (hm:m.length=g.blocks.toNat) {cur at_:Nat} (ho:∀ p,Old cur (blk m (pb g p))) (hc:cur < 2 ^ 62) (ha:at_ < plc g):Stand g (m.set 1 (headB at_ cur)) at_ cur []:=by
 have hp:=hg.ok;unfold Geo.asked at hp;refine ⟨by rw [blk_set,if_pos ⟨rfl,by omega⟩],ha,(fun _ h=>by cases h),Nat.zero_le _,rfl,fun p=>?_,by simpa using hc⟩;have:=pb_lt hg p;rw [blk_set,if_neg (by omega)];exact ho p
theorem chunks_sub {p:Int->Bool} {n:Nat} (hn:1<=n) {l:List Chg} (h:Ups p (l.map (·.1))):∀ c ∈ chunks n l,Ups p (c.map (·.1)):=by
 refine chunks_ind hn (P:=fun l=>Ups p (l.map (·.1))->∀ c ∈ chunks n l,Ups p (c.map (·.1))) ?_ ?_ l.length l (Nat.le_refl _) h
 ·intro _ c hc;rw [chunks_nil] at hc;cases hc
 ·intro l hl ih h c hc;rw [chunks_cons hn hl] at hc;rcases List.mem_cons.1 hc with rfl | hc
  ·exact h.sub ((List.take_sublist _ _).map _)
  exact ih (h.sub ((List.drop_sublist _ _).map _)) c hc
theorem body_old {hm:Int->Bool} (hs:Small hm) {t:Txn} (ht:Ok hm t) {seq cur:Nat} (hq:seq < 2 ^ 64):∀ s ∈ body t seq,Old cur s:=by
 intro s hs' x hx hk;unfold body at hs';rcases List.mem_append.1 hs' with h | h
 ·obtain ⟨c,hc,rfl⟩:=List.mem_map.1 h;have hc2:=chunks_mem (n:=28) (by decide) t.rv c hc;have:=Rec.dec_rb (rev_may (seq:=seq) hs (chunks_ups (by decide) ht.rv c hc) hc2.1 hc2.2.1) hq (show (0:Nat) < 2 ^ 32 by decide);unfold revB at hx;rw [txt_list,this] at hx;injection hx with hx;rw [<- hx] at hk;exact absurd hk (show ¬ (3:Int)=4 by decide)
 ·obtain ⟨c,hc,h⟩:=List.mem_flatMap.1 h;unfold descB at h;rcases List.mem_cons.1 h with rfl | h
  ·have hc2:=chunks_mem (n:=24) (by decide) t.ch c hc;have hu:Ups hm (c.map (·.1)):=chunks_sub (by decide) ht.ch c hc;have:=Rec.dec_rb (desc_may (seq:=seq) hs hu hc2.1 hc2.2.1) hq (show (0:Nat) < 2 ^ 32 by decide);rw [txt_list,this] at hx;injection hx with hx
   rw [<- hx] at hk;exact absurd hk (show ¬ (2:Int)=4 by decide)
  obtain ⟨y,hy,rfl⟩:=List.mem_map.1 h;unfold maskB at hx;rw [txt_list,Rec.mask_no] at hx;cases hx
end Go.Proofs.YtnpdhidliaahbaaGreat.Jr
namespace Go.Proofs.YtnpdhidliaahbaaGreat
open Go.Lib (hid)
open Go Go.RowKit
theorem ret_of {v v':Value} (h:v=v'):Ending.returned v=.returned v':=by rw [h]
theorem u32v {x y:BitVec 32} (h:x=y):Value.int .u32 (u32 x)=.int .u32 (u32 y):=by rw [h]
theorem take_more (s:ByteArray) (k:Nat) (h:k < s.size) (r:W32):crc r (s.data.toList.take (k+1))=byteStep (crc r (s.data.toList.take k)) s[k]:=by
 have:s.data.toList.take (k+1)=s.data.toList.take k ++ [s[k]]:=(by rw [List.take_succ_eq_append_getElem (by simpa using h)];rfl);rw [this,crc_append];rfl
theorem more_any (x:W32) (s:ByteArray) (hs:s.size<=9223372036854775807) (w:World) :
  Calls Tryz.prog 139 #[.int .u32 (u32 x),.string s] w fun e w'=>e=.returned (.int .u32 (u32 (more x s.data.toList)))/\w=w':=by
 go_enter Tryz.func139,Tryz.ntmps139
 go_wp2
 go_loop [0,10] (fun r i=>∃ k:Nat,k<=s.size/\i=.int .i64 k/\r=.int .u32 (u32 (crc (~~~x) (s.data.toList.take k)))) (fun _ i=>s.size - (intOf i).toNat)
 case atStart=>exact ⟨0,Nat.zero_le _,rfl,rfl⟩
 case round =>
  obtain ⟨k,hk,rfl,rfl⟩:=hrel;by_cases hlt:k < s.size
  ·have hts:=hid (take_more s k hlt (~~~x));generalize crc (~~~x) (s.data.toList.take k)=y at *;go_wp2;go_loop [0,19] (fun r i=>∃ j:Nat,j<=8/\i=.int .i64 j/\r=.int .u32 (u32 (iter bstep j (y ^^^ s[k].toBitVec.setWidth 32)))) (fun _ i=>8 - (intOf i).toNat);case atStart=>exact ⟨0,by omega,rfl,rfl⟩
   case round =>
    obtain ⟨j,hj,rfl,rfl⟩:=hrel;by_cases hj8:j < 8
    ·have hit:=hid (iter_succ' bstep j (y ^^^ s[k].toBitVec.setWidth 32));generalize iter bstep j (y ^^^ s[k].toBitVec.setWidth 32)=z at *;go_wp2;go_round;case rel=>exact ⟨j+1,by omega,by go_num,u32v (by rw [hit.out];rfl)⟩
     case measure=>simp [intOf];omega
    obtain rfl:j=8:=(by omega);go_wp2;go_round;case rel=>exact ⟨k+1,by omega,by go_num,u32v (by rw [hts.out];rfl)⟩
    case measure=>simp [intOf];omega
  go_wp2;go_ret;exact ⟨ret_of (u32v (by rw [List.take_of_length_le (by simp;omega)];rfl)),rfl⟩
theorem sum_any (s:ByteArray) (hs:s.size<=9223372036854775807) (w:World) :
  Calls Tryz.prog 112 #[.string s] w fun e w'=>e=.returned (.int .u32 (u32 (more 0#32 s.data.toList)))/\w=w':=by
 have h:=more_any 0#32 s hs
 have H:=hid h
 clear h
 go_enter Tryz.func112,Tryz.ntmps112
 go_wp2_with fail
 refine (H.out _).mono ?_
 rintro e w' ⟨rfl,rfl⟩
 go_wp2
 go_ret
 exact ⟨rfl,rfl⟩
theorem bstep_bit (z:W32):bstep z=if bit0 z then (z >>> 1) ^^^ 3988292384#32 else z >>> 1:=by
 unfold bstep;rw [neg_bit];show _=if z.getLsbD 0 then _ else _
 cases z.getLsbD 0 <;> simp
theorem rstep_any (x:W32) (b:UInt8) (w:World) :
  Calls Tryz.prog 182 #[.int .u32 (u32 x),.int .u8 b.toNat] w fun e w'=>e=.returned (.int .u32 (u32 (byteStep x b)))/\w=w':=by
 go_enter Tryz.func182,Tryz.ntmps182
 go_wp2
 go_loop [0,5] (fun r i=>∃ j:Nat,j<=8/\i=.int .i64 j/\r=.int .u32 (u32 (iter bstep j (x ^^^ b.toBitVec.setWidth 32)))) (fun _ i=>8 - (intOf i).toNat)
 case atStart=>exact ⟨0,by omega,rfl,rfl⟩
 case round =>
  obtain ⟨j,hj,rfl,rfl⟩:=hrel;have hit:=hid (iter_succ' bstep j (x ^^^ b.toBitVec.setWidth 32));generalize hz:iter bstep j (x ^^^ b.toBitVec.setWidth 32)=z at *;have HZ:=hid hz;clear hz;by_cases hj8:j < 8
  ·have hb:=hid (bstep_bit z);cases hz0:bit0 z
   all_goals
    go_wp2;go_round;case rel =>
     have H:=hb.out;rw [hz0] at H;refine ⟨j+1,by omega,by go_num,?_⟩
     first
      | exact u32v (by rw [hit.out,H];rfl)
      | (rw [u32_mod];exact u32v (by rw [hit.out,H];rfl))
    case measure=>simp [intOf];omega
  obtain rfl:j=8:=(by omega);go_wp2;go_ret;exact ⟨ret_of (u32v (by rw [<- HZ.out];rfl)),rfl⟩
theorem rmore_any (x:W32) (s:ByteArray) (hs:s.size<=9223372036854775807) (w:World) :
  Calls Tryz.prog 160 #[.int .u32 (u32 x),.string s] w fun e w'=>e=.returned (.int .u32 (u32 (more x s.data.toList)))/\w=w':=by
 go_enter Tryz.func160,Tryz.ntmps160
 go_wp2
 go_loop [5,6] (fun r i=>∃ k:Nat,k<=s.size/\i=.int .i64 k/\r=.int .u32 (u32 (crc (~~~x) (s.data.toList.take k)))) (fun _ i=>s.size - (intOf i).toNat)
 case atStart=>exact ⟨0,Nat.zero_le _,rfl,rfl⟩
 case round =>
  obtain ⟨k,hk,rfl,rfl⟩:=hrel;by_cases hlt:k < s.size
  ·have hts:=hid (take_more s k hlt (~~~x));generalize crc (~~~x) (s.data.toList.take k)=y at *;go_wp2_with fail;refine (rstep_any y s[k] w).mono ?_;rintro e w' ⟨rfl,rfl⟩;go_wp2_with fail;go_round;case rel=>exact ⟨k+1,by omega,by go_num,u32v (by rw [hts.out])⟩
   case measure=>simp [intOf];omega
  go_wp2_with fail;go_ret;exact ⟨ret_of (u32v (by rw [List.take_of_length_le (by simp;omega)];rfl)),rfl⟩
theorem rsum_any (s:ByteArray) (hs:s.size<=9223372036854775807) (w:World) :
  Calls Tryz.prog 134 #[.string s] w fun e w'=>e=.returned (.int .u32 (u32 (more 0#32 s.data.toList)))/\w=w':=by
 have h:=rmore_any 0#32 s hs
 have H:=hid h
 clear h
 go_enter Tryz.func134,Tryz.ntmps134
 go_wp2_with fail
 refine (H.out _).mono ?_
 rintro e w' ⟨rfl,rfl⟩
 go_wp2
 go_ret
 exact ⟨rfl,rfl⟩
end Go.Proofs.YtnpdhidliaahbaaGreat
