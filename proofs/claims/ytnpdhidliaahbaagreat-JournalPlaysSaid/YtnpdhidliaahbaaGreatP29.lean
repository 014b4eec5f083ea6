/- Numbers in texts: the bytes of a number, the lowest first; what becomes of a text. No program. -/
import Derived.Test.YtnpdhidliaahbaaGreatP06
import Derived.WalkKit
import Derived.WalkSpells
import Derived.WalkLawsBesides
import Derived.Lib.Hide
set_option maxRecDepth 100000
set_option maxHeartbeats 32000000
set_option linter.unusedSimpArgs false
set_option linter.unusedVariables false
namespace Go.Proofs.YtnpdhidliaahbaaGreat
open Go Go.RowKit
def le:Nat->Nat->Bytes
 | 0,_=>[]
 | k+1,n=>UInt8.ofNat (n % 256) :: le k (n / 256)
theorem le_length:∀ (k n:Nat),(le k n).length=k
 | 0,_=>rfl
 | k+1,n=>by simp [le,le_length k]
def lv:Bytes->Nat
 | []=>0
 | b :: l=>b.toNat+256 * lv l
theorem lv_lt:∀ l:Bytes,lv l < 256 ^ l.length
 | []=>by simp [lv]
 | b :: l=>by
  have h:=lv_lt l;have:=b.toNat_lt;simp only [lv,List.length_cons,Nat.pow_succ];omega
theorem lv_snoc:∀ (l:Bytes) (b:UInt8),lv (l ++ [b])=lv l+256 ^ l.length * b.toNat
 | [],b=>by simp [lv]
 | c :: l,b=>by
  simp only [List.cons_append,lv,lv_snoc l b,List.length_cons,Nat.pow_succ,Nat.mul_add];rw [<- Nat.mul_assoc,Nat.mul_comm 256 (256 ^ l.length)];omega
theorem lv_le:∀ (k n:Nat),n < 256 ^ k->lv (le k n)=n
 | 0,n,h=>by simp at h;simp [le,lv,h]
 | k+1,n,h=>by
  have h2:n / 256 < 256 ^ k:=by
   rw [Nat.pow_succ] at h;exact Nat.div_lt_of_lt_mul (by rw [Nat.mul_comm];exact h)
  simp only [le,lv,lv_le k _ h2];have:(UInt8.ofNat (n % 256)).toNat=n % 256:=by simp
  omega
theorem le_at:∀ (k n i:Nat),i < k->(le k n)[i]?=some (UInt8.ofNat (n / 256 ^ i))
 | k+1,n,0,_=>by
  simp only [le,List.getElem?_cons_zero,Nat.pow_zero,Nat.div_one];congr 1;apply UInt8.toNat_inj.1;simp
 | k+1,n,i+1,h=>by
  simp only [le,List.getElem?_cons_succ];rw [le_at k _ i (by omega),Nat.div_div_eq_div_mul,Nat.pow_succ,Nat.mul_comm 256]
def splice (l:Bytes) (at_:Nat) (b:Bytes):Bytes:=l.take at_ ++ b ++ l.drop (at_+b.length)
theorem splice_length (l:Bytes) (at_:Nat) (b:Bytes) (h:at_+b.length<=l.length):(splice l at_ b).length=l.length:=by
 simp [splice];omega
theorem splice_nil (l:Bytes) (at_:Nat):splice l at_ []=l:=by simp [splice]
theorem splice_snoc (l:Bytes) (at_:Nat) (b:Bytes) (x:UInt8) (h:at_+b.length < l.length):(splice l at_ b).set (at_+b.length) x=splice l at_ (b ++ [x]):=by
 apply List.ext_getElem?;intro j;simp only [splice,List.getElem?_set,List.length_append,List.length_take,List.length_drop,List.length_cons,List.length_nil];rw [Nat.min_eq_left (by omega)];rcases Nat.lt_or_ge j at_ with h1 | h1
 ·rw [if_neg (by omega),List.getElem?_append_left (by simp;omega),List.getElem?_append_left (by simp;omega),List.getElem?_append_left (by simp;omega),List.getElem?_append_left (by simp;omega)]
 ·rcases Nat.lt_trichotomy j (at_+b.length) with h2 | h2 | h2
  ·rw [if_neg (by omega),List.getElem?_append_left (by simp;omega),List.getElem?_append_right (by simp;omega),List.getElem?_append_left (by simp;omega),List.getElem?_append_right (by simp;omega)];rw [List.getElem?_append_left (by simp;omega)]
  ·subst h2;rw [if_pos rfl,if_pos (by omega),List.getElem?_append_left (by simp;omega),List.getElem?_append_right (by simp;omega)];simp [Nat.min_eq_left (show at_<=l.length by omega)]
  rw [if_neg (by omega),List.getElem?_append_right (by simp;omega),List.getElem?_append_right (by simp;omega)];simp only [List.getElem?_drop,List.length_append,List.length_take,List.length_cons,List.length_nil];congr 1;omega
def getW (l:Bytes) (at_ k:Nat):Nat:=lv ((l.drop at_).take k)
theorem getW_zero (l:Bytes) (at_:Nat):getW l at_ 0=0:=by simp [getW,lv]
theorem getW_succ (l:Bytes) (at_ k:Nat) (h:at_+k < l.length):getW l at_ (k+1)=getW l at_ k+256 ^ k * (l.getD (at_+k) 0).toNat:=by
 unfold getW;rw [List.take_succ_eq_append_getElem (by simp;omega),lv_snoc];simp [List.getD,h];rw [Nat.min_eq_left (by omega)]
theorem getW_lt (l:Bytes) (at_ k:Nat):getW l at_ k < 256 ^ k:=by
 refine Nat.lt_of_lt_of_le (lv_lt _) (Nat.pow_le_pow_right (by decide) (by simp;omega))
theorem or_add (a b i:Nat) (h:a < 2 ^ i):a ||| 2 ^ i * b=a+2 ^ i * b:=by
 rw [Nat.or_comm,<- Nat.two_pow_add_eq_or_of_lt h,Nat.add_comm]
theorem pow256 (i:Nat):256 ^ i=2 ^ (8 * i):=by rw [show 256=2 ^ 8 by decide,<- Nat.pow_mul]
end Go.Proofs.YtnpdhidliaahbaaGreat
namespace Go.Proofs.YtnpdhidliaahbaaGreat.Rec
open Go Go.RowKit
structure V where
 kind:Int
 seq:Nat
 at_:Int
 homes:List Int
 masked:List Bool
 sum:Nat
 deriving DecidableEq
def risesTo (p:Int->Bool) (l:List Int):Nat->Bool
 | 0=>true
 | j+1=>risesTo p l j && (p (l.getD j 0) && (decide (j=0) || decide (l.getD (j - 1) 0 < l.getD j 0)))
def rises (p:Int->Bool) (l:List Int):Bool:=risesTo p l l.length
theorem risesTo_false {p:Int->Bool} {l:List Int} {i:Nat} (h:risesTo p l i=false) {n:Nat} (hn:i<=n):risesTo p l n=false:=by
 induction n with
 | zero=>rwa [show i=0 by omega] at h
 | succ n ih =>
  by_cases e:i=n+1
  ·rw [<- e];exact h
  unfold risesTo;rw [ih (by omega)];rfl
theorem risesTo_all {p:Int->Bool} {l:List Int}:∀ {n:Nat},risesTo p l n=true->∀ k,k < n->p (l.getD k 0)=true
 | n+1,h,k,hk=>by
  unfold risesTo at h;simp only [Bool.and_eq_true] at h;by_cases e:k=n
  ·rw [e];exact h.2.1
  ·exact risesTo_all h.1 k (by omega)
theorem rises_mem {p:Int->Bool} {l:List Int} (h:rises p l=true):∀ x ∈ l,p x=true:=fun x hx=>by
 obtain ⟨k,hk,rfl⟩:=List.mem_iff_getElem.1 hx;have:=risesTo_all h k hk;rwa [show l.getD k 0=l[k] by simp [List.getD,hk]] at this
def blockOk (b:Int):Bool:=decide (0<=b) && decide (b < 4096)
theorem blockOk_iff {b:Int}:blockOk b=true ↔ 0<=b/\b < 4096:=by simp [blockOk]
def homesOk (l:List Int) (most:Nat):Bool:=rises blockOk l && (decide (1<=l.length) && decide (l.length<=most))
def may (x:V):Bool:=
 if x.kind=1 then decide (0<=x.at_/\x.at_<=510/\x.sum=0/\x.homes.length=0/\x.masked.length=0)
 else if x.kind=2 then decide (x.at_=0/\x.sum=0) && (homesOk x.homes 24 && decide (x.masked.length=x.homes.length))
 else if x.kind=3 then decide (x.at_=0/\x.sum=0) && (homesOk x.homes 28 && decide (x.masked.length=0))
 else if x.kind=4 then decide (x.at_=0/\x.homes.length=0/\x.masked.length=0)
 else false
def hb (l:List Int):Bytes:=l.flatMap fun b=>le 2 b.toNat
def mb (l:List Bool):Bytes:=l.map fun b=>if b then 1 else 0
theorem hb_length (l:List Int):(hb l).length=2 * l.length:=by
 induction l with
 | nil=>rfl
 | cons x l ih =>
  have:hb (x :: l)=le 2 x.toNat ++ hb l:=rfl;rw [this,List.length_append,ih,le_length,List.length_cons];omega
theorem hb_append (a b:List Int):hb (a ++ b)=hb a ++ hb b:=by simp [hb]
theorem mb_length (l:List Bool):(mb l).length=l.length:=by simp [mb]
theorem mb_append (a b:List Bool):mb (a ++ b)=mb a ++ mb b:=by simp [mb]
def magic:Bytes:=[71,76,74,119]
def body (x:V):Bytes:=if x.kind=1 then le 2 x.at_.toNat else if x.kind=4 then le 4 x.sum else [UInt8.ofNat x.homes.length] ++ (hb x.homes ++ mb x.masked)
def head (x:V):Bytes:=magic ++ ([UInt8.ofNat x.kind.toNat] ++ le 8 x.seq)
theorem head_length (x:V):(head x).length=13:=by simp [head,magic,le_length]
def rb (x:V):Bytes:=head x ++ (body x ++ List.replicate (115 - (body x).length) 0)
def encR (x:V):Bytes × Int:=if may x=true then (rb x,0) else ([],2)
theorem may_cases {x:V} (h:may x=true):(x.kind=1/\0<=x.at_/\x.at_<=510/\x.sum=0/\x.homes = []/\x.masked = []) ∨ (x.kind=2/\x.at_=0/\x.sum=0/\rises blockOk x.homes=true/\1<=x.homes.length/\x.homes.length<=24/\x.masked.length=x.homes.length) ∨ (x.kind=3/\x.at_=0/\x.sum=0/\rises blockOk x.homes=true/\1<=x.homes.length/\x.homes.length<=28/\x.masked = []) ∨ (x.kind=4/\x.at_=0/\x.homes = []/\x.masked = []):=by
 unfold may homesOk at h;split at h
 ·rename_i k;simp only [decide_eq_true_eq,List.length_eq_zero_iff] at h;exact .inl ⟨k,h⟩
 split at h
 ·rename_i k;simp only [Bool.and_eq_true,decide_eq_true_eq] at h;exact .inr (.inl ⟨k,h.1.1,h.1.2,h.2.1.1,h.2.1.2.1,h.2.1.2.2,h.2.2⟩)
 split at h
 ·rename_i k;simp only [Bool.and_eq_true,decide_eq_true_eq,List.length_eq_zero_iff] at h;exact .inr (.inr (.inl ⟨k,h.1.1,h.1.2,h.2.1.1,h.2.1.2.1,h.2.1.2.2,h.2.2⟩))
 split at h
 ·rename_i k;simp only [decide_eq_true_eq,List.length_eq_zero_iff] at h;exact .inr (.inr (.inr ⟨k,h⟩))
 ·cases h
theorem body_length {x:V} (h:may x=true):(body x).length<=73:=by
 unfold body;rcases may_cases h with ⟨k,h⟩ | ⟨k,h⟩ | ⟨k,h⟩ | ⟨k,h⟩
 ·rw [if_pos k,le_length];omega
 ·rw [if_neg (by omega),if_neg (by omega)];simp only [List.length_append,List.length_cons,List.length_nil,hb_length,mb_length];omega
 ·rw [if_neg (by omega),if_neg (by omega)];simp only [List.length_append,List.length_cons,List.length_nil,hb_length,mb_length,h.2.2.2.2.2];omega
 ·rw [if_neg (by omega),if_pos k,le_length];omega
theorem rb_length {x:V} (h:may x=true):(rb x).length=128:=by
 have:=body_length h;unfold rb;simp [head_length];omega
def getH (s:Bytes) (n:Nat):List Int:=(List.range n).map fun i=>((getW s (14+2 * i) 2:Nat):Int)
def getM (s:Bytes) (a n:Nat):List Bool:=(List.range n).map fun i=>getW s (a+i) 1 == 1
theorem getH_length (s:Bytes) (n:Nat):(getH s n).length=n:=by simp [getH]
theorem getH_succ (s:Bytes) (n:Nat):getH s (n+1)=getH s n ++ [((getW s (14+2 * n) 2:Nat):Int)]:=by simp [getH,List.range_succ]
theorem getM_succ (s:Bytes) (a n:Nat):getM s a (n+1)=getM s a n ++ [getW s (a+n) 1 == 1]:=by simp [getM,List.range_succ]
def raw (s:Bytes):V:=
 if getW s 4 1=1 then ⟨1,getW s 5 8,(getW s 13 2:Nat),[],[],0⟩
 else if getW s 4 1=4 then ⟨4,getW s 5 8,0,[],[],getW s 13 4⟩
 else if getW s 4 1=2 then ⟨2,getW s 5 8,0,getH s (getW s 13 1),getM s (14+2 * getW s 13 1) (getW s 13 1),0⟩
 else if getW s 4 1=3 then ⟨3,getW s 5 8,0,getH s (getW s 13 1),[],0⟩
 else ⟨(getW s 4 1:Nat),getW s 5 8,0,[],[],0⟩
def dec (s:Bytes):Option V:=if s.length=128/\may (raw s)=true/\rb (raw s)=s then some (raw s) else none
theorem getW_at {s a b c:Bytes} {i k:Nat} (h:s=a ++ (b ++ c)) (hi:a.length=i) (hb:b.length=k):getW s i k=lv b:=by
 subst h;subst hi;unfold getW;rw [List.drop_left,List.take_left' hb]
theorem getH_hb {s c:Bytes} {l:List Int} (hl:∀ x ∈ l,0<=x/\x < 4096) {a:Bytes} (ha:a.length=14) (h:s=a ++ (hb l ++ c)):getH s l.length=l:=by
 have gen:∀ n,n<=l.length->getH s n=l.take n:=by
  intro n;induction n with
  | zero=>intro _;rw [List.take_zero];rfl
  | succ n ih =>
   intro hn;have hn':n < l.length:=by omega
   rw [getH_succ,ih (by omega),List.take_succ_eq_append_getElem hn'];congr 2;have e:s=(a ++ hb (l.take n)) ++ (le 2 l[n].toNat ++ (hb (l.drop (n+1)) ++ c)):=by
    have:l=l.take n ++ (l[n] :: l.drop (n+1)):=(by rw [<- List.drop_eq_getElem_cons hn',List.take_append_drop]);have e5:hb l=hb (l.take n) ++ (le 2 l[n].toNat ++ hb (l.drop (n+1))):=by
     conv=>lhs;rw [this]
     rw [hb_append];rfl
    rw [h,e5];simp only [List.append_assoc]
   have hx:=hl l[n] (List.getElem_mem hn');rw [getW_at e (by rw [List.length_append,hb_length,List.length_take,ha];omega) (le_length _ _),lv_le _ _ (by omega)];omega
 have:=gen l.length (Nat.le_refl _);rwa [List.take_length] at this
theorem getM_mb {s a c:Bytes} {l:List Bool} {i:Nat} (ha:a.length=i) (h:s=a ++ (mb l ++ c)):getM s i l.length=l:=by
 have gen:∀ n,n<=l.length->getM s i n=l.take n:=by
  intro n;induction n with
  | zero=>intro _;rw [List.take_zero];rfl
  | succ n ih =>
   intro hn;have hn':n < l.length:=by omega
   rw [getM_succ,ih (by omega),List.take_succ_eq_append_getElem hn'];congr 2;have e:s=(a ++ mb (l.take n)) ++ ([if l[n] then (1:UInt8) else 0] ++ (mb (l.drop (n+1)) ++ c)):=by
    have:l=l.take n ++ (l[n] :: l.drop (n+1)):=(by rw [<- List.drop_eq_getElem_cons hn',List.take_append_drop]);have e5:mb l=mb (l.take n) ++ ([if l[n] then (1:UInt8) else 0] ++ mb (l.drop (n+1))):=by
     conv=>lhs;rw [this]
     rw [mb_append];rfl
    rw [h,e5];simp only [List.append_assoc]
   rw [getW_at (i:=i+n) (k:=1) e (by rw [List.length_append,mb_length,List.length_take,ha];omega) rfl];cases l[n] <;> rfl
 have:=gen l.length (Nat.le_refl _);rwa [List.take_length] at this
theorem raw_rb {x:V} (h:may x=true) (hq:x.seq < 2 ^ 64) (hs:x.sum < 2 ^ 32):raw (rb x)=x:=by
 have hk:0<=x.kind/\x.kind<=4:=by rcases may_cases h with ⟨k,h⟩ | ⟨k,h⟩ | ⟨k,h⟩ | ⟨k,h⟩ <;> omega
 have g4:getW (rb x) 4 1=x.kind.toNat:=by
  rw [getW_at (s:=rb x) (a:=magic) (b:=[UInt8.ofNat x.kind.toNat]) (c:=le 8 x.seq ++ (body x ++ List.replicate (115 - (body x).length) 0)) (i:=4) (k:=1) (by simp [rb,head]) rfl rfl];simp [lv];omega
 have g5:getW (rb x) 5 8=x.seq:=by
  rw [getW_at (s:=rb x) (a:=magic ++ [UInt8.ofNat x.kind.toNat]) (b:=le 8 x.seq) (c:=body x ++ List.replicate (115 - (body x).length) 0) (by simp [rb,head]) (by simp [magic]) (le_length _ _),lv_le _ _ (by omega)]
 unfold raw;rw [g4,g5];rcases may_cases h with ⟨k,h0,h1,h2,h3,h4⟩ | ⟨k,h0,h1,h2,h3,h4,h5⟩ | ⟨k,h0,h1,h2,h3,h4,h5⟩ | ⟨k,h0,h1,h2⟩
 ·have eb:body x=le 2 x.at_.toNat:=(by unfold body;rw [if_pos k]);rw [if_pos (by omega),getW_at (s:=rb x) (a:=head x) (b:=le 2 x.at_.toNat) (by unfold rb;rw [eb]) (head_length x) (le_length _ _),lv_le _ _ (by omega)];obtain ⟨x1,x2,x3,x4,x5,x6⟩:=x;dsimp only at *;subst h2 h3 h4 k;congr 1;omega
 ·have eb:body x = [UInt8.ofNat x.homes.length] ++ (hb x.homes ++ mb x.masked):=(by unfold body;rw [if_neg (by omega),if_neg (by omega)]);have gn:getW (rb x) 13 1=x.homes.length:=by
   rw [getW_at (s:=rb x) (a:=head x) (b:=[UInt8.ofNat x.homes.length]) (c:=(hb x.homes ++ mb x.masked) ++ List.replicate (115 - (body x).length) 0) (i:=13) (k:=1) (by unfold rb;rw [eb];simp) (head_length x) rfl];simp [lv];omega
  rw [if_neg (by omega),if_neg (by omega),if_pos (by omega),gn,getH_hb (s:=rb x) (c:=mb x.masked ++ List.replicate (115 - (body x).length) 0) (l:=x.homes) (fun z hz=>blockOk_iff.1 (rises_mem h2 z hz)) (a:=head x ++ [UInt8.ofNat x.homes.length]) (by simp [head_length]) (by unfold rb;rw [eb];simp)];have:=getM_mb (s:=rb x) (a:=head x ++ ([UInt8.ofNat x.homes.length] ++ hb x.homes)) (c:=List.replicate (115 - (body x).length) 0) (l:=x.masked) (i:=14+2 * x.homes.length) (by simp [head_length,hb_length];omega) (by unfold rb;rw [eb];simp);rw [h5] at this;rw [this];obtain ⟨x1,x2,x3,x4,x5,x6⟩:=x;dsimp only at *;subst h0 h1 k;rfl
 ·have eb:body x = [UInt8.ofNat x.homes.length] ++ (hb x.homes ++ mb x.masked):=(by unfold body;rw [if_neg (by omega),if_neg (by omega)]);have gn:getW (rb x) 13 1=x.homes.length:=by
   rw [getW_at (s:=rb x) (a:=head x) (b:=[UInt8.ofNat x.homes.length]) (c:=(hb x.homes ++ mb x.masked) ++ List.replicate (115 - (body x).length) 0) (i:=13) (k:=1) (by unfold rb;rw [eb];simp) (head_length x) rfl];simp [lv];omega
  rw [if_neg (by omega),if_neg (by omega),if_neg (by omega),if_pos (by omega),gn,getH_hb (s:=rb x) (c:=mb x.masked ++ List.replicate (115 - (body x).length) 0) (l:=x.homes) (fun z hz=>blockOk_iff.1 (rises_mem h2 z hz)) (a:=head x ++ [UInt8.ofNat x.homes.length]) (by simp [head_length]) (by unfold rb;rw [eb];simp)];obtain ⟨x1,x2,x3,x4,x5,x6⟩:=x;dsimp only at *;subst h0 h1 k h5;rfl
 ·have eb:body x=le 4 x.sum:=(by unfold body;rw [if_neg (by omega),if_pos k]);rw [if_neg (by omega),if_pos (by omega),getW_at (s:=rb x) (a:=head x) (b:=le 4 x.sum) (by unfold rb;rw [eb]) (head_length x) (le_length _ _),lv_le _ _ (by omega)];obtain ⟨x1,x2,x3,x4,x5,x6⟩:=x;dsimp only at *;subst h0 h1 h2 k;rfl
theorem dec_rb {x:V} (h:may x=true) (hq:x.seq < 2 ^ 64) (hs:x.sum < 2 ^ 32):dec (rb x)=some x:=by
 have e:=raw_rb h hq hs;unfold dec;rw [e,if_pos ⟨rb_length h,h,rfl⟩]
theorem dec_some {s:Bytes} {x:V} (h:dec s=some x):s.length=128/\may x=true/\s=rb x/\x=raw s:=by
 unfold dec at h;split at h
 ·rename_i k;injection h with h
  subst h;exact ⟨k.1,k.2.1,k.2.2.symm,rfl⟩
 ·cases h
theorem raw_seq (s:Bytes):(raw s).seq < 2 ^ 64/\(raw s).sum < 2 ^ 32:=by
 have h1:=getW_lt s 5 8;have h2:=getW_lt s 13 4;unfold raw;split
 ·exact ⟨h1,Nat.two_pow_pos 32⟩
 split
 ·exact ⟨h1,h2⟩
 split
 ·exact ⟨h1,Nat.two_pow_pos 32⟩
 split
 ·exact ⟨h1,Nat.two_pow_pos 32⟩
 ·exact ⟨h1,Nat.two_pow_pos 32⟩
theorem dec_magic {s:Bytes} {x:V} (h:dec s=some x):s.take 4=magic:=by rw [(dec_some h).2.2.1];rfl
def mask (s:Bytes):Bytes × Bool:=if s.take 4=magic then ([0,0,0,0] ++ s.drop 4,true) else (s,false)
def unmask (s:Bytes):Bytes:=if s.length < 4 then s else magic ++ s.drop 4
theorem mask_length (s:Bytes):(mask s).1.length=s.length:=by
 unfold mask;split
 ·rename_i h;have:=congrArg List.length h;simp [magic] at this;simp;omega
 ·rfl
theorem mask_back (s:Bytes):(if (mask s).2=true then unmask (mask s).1 else (mask s).1)=s:=by
 unfold mask;split
 ·rename_i h;have hl:=congrArg List.length h;simp [magic] at hl;dsimp only;rw [if_pos rfl];unfold unmask;rw [if_neg (by simp)];have:([0,0,0,0] ++ s.drop 4:Bytes).drop 4=s.drop 4:=rfl;rw [this,<- h,List.take_append_drop]
 ·rfl
theorem mask_no (s:Bytes):dec (mask s).1=none:=by
 cases h:dec (mask s).1 with
 | none=>rfl
 | some x =>
  have:=dec_magic h;unfold mask at this;split at this
  ·exact absurd this (by simp [magic])
  rename_i h2;exact absurd this h2
end Go.Proofs.YtnpdhidliaahbaaGreat.Rec
namespace Go.Proofs.YtnpdhidliaahbaaGreat.Geo
open Go Go.RowKit
structure G where
 blocks:Int
 log:Int
 inodes:Int
 logAt:Int
 mapAt:Int
 mapLen:Int
 tableAt:Int
 tableLen:Int
 dataAt:Int
 deriving DecidableEq
def none_:G:=⟨0,0,0,0,0,0,0,0,0⟩
def cells (g:G):Array Value:=#[.int .i64 g.blocks,.int .i64 g.log,.int .i64 g.inodes,.int .i64 g.logAt,.int .i64 g.mapAt,.int .i64 g.mapLen,.int .i64 g.tableAt,.int .i64 g.tableLen,.int .i64 g.dataAt]
def asked (b l m:Int):Prop:=256<=b/\b<=4096/\128<=l/\l<=512/\8<=m/\m<=512/\m % 2=0
instance (b l m:Int):Decidable (asked b l m):=by unfold asked;infer_instance
def lay (b l m:Int):G:=⟨b,l,m,1,1+l,(b+1023) / 1024,1+l+(b+1023) / 1024,m / 2,1+l+(b+1023) / 1024+m / 2⟩
def of (b l m:Int):G × Int:=if asked b l m/\16<=b - (lay b l m).dataAt then (lay b l m,0) else (none_,2)
def May (g:G):Prop:=of g.blocks g.log g.inodes=(g,0)
instance (g:G):Decidable (May g):=by unfold May;infer_instance
theorem May.ok {g:G} (h:May g):asked g.blocks g.log g.inodes/\g.logAt=1/\g.mapAt=1+g.log/\g.mapAt < g.tableAt/\g.tableAt < g.dataAt/\g.dataAt+16<=g.blocks/\g=lay g.blocks g.log g.inodes:=by
  unfold May of at h;split at h
  · rename_i k;have hg:=congrArg Prod.fst h;dsimp only at hg;obtain ⟨k1,k2⟩:=k;have k3:=k1;unfold asked at k3;have e1:g.logAt=1:=by rw [<- hg];rfl
    have e2:g.mapAt=1+g.log:=by conv=>lhs;rw [<- hg]
                                rfl
    have e3:g.tableAt=1+g.log+(g.blocks+1023) / 1024:=by conv=>lhs;rw [<- hg]
                                                         rfl
    have e4:g.dataAt=1+g.log+(g.blocks+1023) / 1024+g.inodes / 2:=by conv=>lhs;rw [<- hg]
                                                                     rfl
    rw [hg] at k2;refine ⟨k1,e1,e2,?_,?_,by omega,hg.symm⟩
    · omega
    omega
  · exact absurd (congrArg Prod.snd h) (show ¬ (2:Int)=0 by decide)
def whereG (g:G) (b:Int):Int:=if May g/\0<=b/\b < g.blocks then (if g.logAt<=b then 1 else 0)+(if g.mapAt<=b then 1 else 0)+(if g.tableAt<=b then 1 else 0)+(if g.dataAt<=b then 1 else 0) else -1
def home (g:G) (b:Int):Bool:=decide (0<=b/\b < g.blocks/\(b < 1 ∨ 1+g.log<=b))
theorem home_where {g:G} (h:May g) (b:Int):(decide (0<=b) && (decide (0<=whereG g b) && !(whereG g b == 1)))=home g b:=by
 obtain ⟨h0,h1,h2,h3,h4,h5,-⟩:=h.ok;unfold asked at h0;unfold whereG home;by_cases k0:0<=b/\b < g.blocks
 ·rw [if_pos ⟨h,k0⟩];obtain ⟨k0,k1⟩:=k0;by_cases j1:g.logAt<=b
  ·by_cases j2:g.mapAt<=b
   ·have:decide (0<=b/\b < g.blocks/\(b < 1 ∨ 1+g.log<=b))=true:=decide_eq_true (by omega);rw [this,if_pos j1,if_pos j2];have e:(1:Int)+1+(if g.tableAt<=b then 1 else 0)+(if g.dataAt<=b then 1 else 0) ≥ 2:=(by split <;> split <;> omega);generalize (1:Int)+1+(if g.tableAt<=b then 1 else 0)+(if g.dataAt<=b then 1 else 0)=z at *;simp;omega
   have:decide (0<=b/\b < g.blocks/\(b < 1 ∨ 1+g.log<=b))=false:=decide_eq_false (by omega);rw [this,if_pos j1,if_neg j2,if_neg (by omega),if_neg (by omega)];simp
  have:decide (0<=b/\b < g.blocks/\(b < 1 ∨ 1+g.log<=b))=true:=decide_eq_true (by omega);rw [this,if_neg j1,if_neg (by omega),if_neg (by omega),if_neg (by omega)];simp;omega
 ·have:decide (0<=b/\b < g.blocks/\(b < 1 ∨ 1+g.log<=b))=false:=decide_eq_false (by omega);rw [this,if_neg (by omega)];simp
end Go.Proofs.YtnpdhidliaahbaaGreat.Geo
