/- A log and twelve blocks: what steps do with them, in plain Lean. -/
import Derived.Test.YtnpdhidliaahbaaGreatP23
import Derived.Test.YtnpdhidliaahbaaGreatP07
set_option maxRecDepth 100000
set_option maxHeartbeats 32000000
set_option linter.unusedSimpArgs false
set_option linter.unusedVariables false
namespace Go.Proofs.YtnpdhidliaahbaaGreat.Sys
open Go Go.RowKit
open Go.Proofs.YtnpdhidliaahbaaGreat (Dev blk)
def hb (g:Geo.G) (k:Nat):Nat:=g.dataAt.toNat+k
def AtHome (g:Geo.G) (h:List UInt8) (m:List ByteArray):Prop:=∀ k,k < 12->Jr.blk m (hb g k)=blk (h.getD k 0)
def Vals (g:Geo.G) (l:List Jr.Txn) (h:List UInt8) (m:List ByteArray):Prop:=∀ k,k < 12->Jr.val m l (hb g k)=blk (h.getD k 0)
def Says (g:Geo.G) (home want:List UInt8) (l:List Jr.Txn):Prop:=∀ k,k < 12->(Jr.look l (hb g k:Nat)).getD (blk (home.getD k 0))=blk (want.getD k 0)
theorem hb_facts {g:Geo.G} (hg:Geo.May g) {k:Nat} (hk:k < 16):1+g.log.toNat<=hb g k/\hb g k < g.blocks.toNat/\((hb g k:Nat):Int)=g.dataAt+k/\Geo.home g (hb g k:Nat)=true:=by
 obtain ⟨h0,h1,h2,h3,h4,h5,-⟩:=hg.ok;unfold Geo.asked at h0;have e:((hb g k:Nat):Int)=g.dataAt+k:=(by unfold hb;omega);refine ⟨by unfold hb;omega,by unfold hb;omega,e,?_⟩;unfold Geo.home;rw [decide_eq_true_eq];omega
theorem hb_inj {g:Geo.G} {i k:Nat} (h:hb g i=hb g k):i=k:=by unfold hb at h;omega
structure Step where
 kind:UInt8
 change:List UInt8
 revoke:List UInt8
 fill:UInt8
 data:Bool
def has (l:List UInt8) (k:Nat):Bool:=(l.take 30).any fun x=>x.toNat % 12 == k
def chTo (g:Geo.G) (x:Step):Nat->List Jr.Chg
 | 0=>[]
 | k+1=>if has x.change k=true then chTo g x k ++ [(((hb g k:Nat):Int),blk (x.fill+UInt8.ofNat k))] else chTo g x k
def rvTo (g:Geo.G) (x:Step):Nat->List Int
 | 0=>[]
 | k+1=>if has x.change k=true then rvTo g x k else if has x.revoke k=true then rvTo g x k ++ [((hb g k:Nat):Int)] else rvTo g x k
def nxTo (home want:List UInt8) (x:Step):Nat->List UInt8
 | 0=>want
 | k+1=>if has x.change k=true then (nxTo home want x k).set k (x.fill+UInt8.ofNat k) else if has x.revoke k=true then (nxTo home want x k).set k (home.getD k 0) else nxTo home want x k
theorem nxTo_length (home want:List UInt8) (x:Step):∀ n,(nxTo home want x n).length=want.length
 | 0=>rfl
 | n+1=>by
  unfold nxTo;split
  ·rw [List.length_set,nxTo_length]
  split
  ·rw [List.length_set,nxTo_length]
  ·exact nxTo_length _ _ _ _
theorem nxTo_at (home want:List UInt8) (x:Step) (hw:want.length=12):∀ n,n<=12->∀ k,k < 12->(nxTo home want x n).getD k 0=if k < n then (if has x.change k=true then x.fill+UInt8.ofNat k else if has x.revoke k=true then home.getD k 0 else want.getD k 0) else want.getD k 0
 | 0,_,k,_=>by rw [if_neg (by omega)];rfl
 | n+1,hn,k,hk=>by
  have ih:=nxTo_at home want x hw n (by omega);have hl:=nxTo_length home want x n;have gs:∀ v:UInt8,((nxTo home want x n).set n v).getD k 0=if k=n then v else (nxTo home want x n).getD k 0:=by
   intro v;simp only [List.getD,List.getElem?_set];by_cases e:n=k
   ·subst e;simp [show n < (nxTo home want x n).length by omega]
   simp [e,Ne.symm e]
  have ihk:=ih k hk;unfold nxTo;by_cases e:k=n
  ·subst e;rw [if_neg (Nat.lt_irrefl k)] at ihk;rw [if_pos (Nat.lt_succ_self k)];split
   ·rw [gs,if_pos rfl]
   split
   ·rw [gs,if_pos rfl]
   exact ihk
  ·have e2:(k < n+1)=(k < n):=propext ⟨fun h=>by omega,fun h=>by omega⟩;simp only [e2];rw [<- ihk];split
   ·rw [gs,if_neg e]
   split
   ·rw [gs,if_neg e]
   rfl
def txnT (g:Geo.G) (x:Step):Jr.Txn:=⟨chTo g x 12,rvTo g x 12⟩
def dataT (g:Geo.G) (x:Step):List Jr.Chg:=if x.data=true then [(((hb g 12:Nat):Int),blk x.fill),(((hb g 13:Nat):Int),blk (x.fill+1))] else []
def nextT (home want:List UInt8) (x:Step):List UInt8:=nxTo home want x 12
theorem nextT_length {home want:List UInt8} {x:Step}:(nextT home want x).length=want.length:=nxTo_length _ _ _ _
theorem chTo_mem {g:Geo.G} {x:Step}:∀ {n:Nat} {c:Jr.Chg},c ∈ chTo g x n ↔ ∃ k,k < n/\has x.change k=true/\c=(((hb g k:Nat):Int),blk (x.fill+UInt8.ofNat k))
 | 0,c=>⟨(fun h=>by cases h),(fun ⟨k,h,_⟩=>by omega)⟩
 | n+1,c=>by
  unfold chTo;split
  ·rename_i k1;rw [List.mem_append,List.mem_singleton,chTo_mem];constructor
   ·rintro (⟨k,h1,h2⟩ | rfl)
    ·exact ⟨k,by omega,h2⟩
    exact ⟨n,by omega,k1,rfl⟩
   rintro ⟨k,h1,h2,h3⟩;by_cases e:k=n
   ·subst e;exact .inr h3
   exact .inl ⟨k,by omega,h2,h3⟩
  ·rename_i k1;rw [chTo_mem];constructor
   ·rintro ⟨k,h1,h2⟩;exact ⟨k,by omega,h2⟩
   rintro ⟨k,h1,h2,h3⟩;by_cases e:k=n
   ·subst e;exact absurd h2 k1
   exact ⟨k,by omega,h2,h3⟩
theorem rvTo_mem {g:Geo.G} {x:Step}:∀ {n:Nat} {b:Int},b ∈ rvTo g x n ↔ ∃ k,k < n/\has x.change k=false/\has x.revoke k=true/\b=(hb g k:Nat)
 | 0,c=>⟨(fun h=>by cases h),(fun ⟨k,h,_⟩=>by omega)⟩
 | n+1,c=>by
  unfold rvTo;split
  ·rename_i k1;rw [rvTo_mem];constructor
   ·rintro ⟨k,h1,h2⟩;exact ⟨k,by omega,h2⟩
   rintro ⟨k,h1,h2,h3⟩;by_cases e:k=n
   ·subst e;rw [h2] at k1;cases k1
   exact ⟨k,by omega,h2,h3⟩
  split
  ·rename_i k1 k2;rw [List.mem_append,List.mem_singleton,rvTo_mem];constructor
   ·rintro (⟨k,h1,h2⟩ | rfl)
    ·exact ⟨k,by omega,h2⟩
    exact ⟨n,by omega,by simpa using k1,k2,rfl⟩
   rintro ⟨k,h1,h2,h3,h4⟩;by_cases e:k=n
   ·subst e;exact .inr h4
   exact .inl ⟨k,by omega,h2,h3,h4⟩
  ·rename_i k1 k2;rw [rvTo_mem];constructor
   ·rintro ⟨k,h1,h2⟩;exact ⟨k,by omega,h2⟩
   rintro ⟨k,h1,h2,h3,h4⟩;by_cases e:k=n
   ·subst e;exact absurd h3 k2
   exact ⟨k,by omega,h2,h3,h4⟩
theorem chTo_sorted (g:Geo.G) (x:Step):∀ n,((chTo g x n).map (·.1)).Pairwise (· < ·)
 | 0=>List.Pairwise.nil
 | n+1=>by
  unfold chTo;split
  ·rw [List.map_append,List.pairwise_append];refine ⟨chTo_sorted g x n,by simp,fun a ha b hb=>?_⟩;obtain ⟨c,hc,rfl⟩:=List.mem_map.1 ha;obtain ⟨k,h1,_,rfl⟩:=chTo_mem.1 hc;rw [List.map_singleton,List.mem_singleton] at hb;subst hb;show ((Sys.hb g k:Nat):Int) < ((Sys.hb g n:Nat):Int);unfold Sys.hb;omega
  ·exact chTo_sorted g x n
theorem rvTo_sorted (g:Geo.G) (x:Step):∀ n,(rvTo g x n).Pairwise (· < ·)
 | 0=>List.Pairwise.nil
 | n+1=>by
  unfold rvTo;split
  ·exact rvTo_sorted g x n
  split
  ·rw [List.pairwise_append];refine ⟨rvTo_sorted g x n,by simp,fun a ha b hb=>?_⟩;obtain ⟨k,h1,_,_,rfl⟩:=rvTo_mem.1 ha;rw [List.mem_singleton] at hb;subst hb;show ((Sys.hb g k:Nat):Int) < ((Sys.hb g n:Nat):Int);unfold Sys.hb;omega
  ·exact rvTo_sorted g x n
theorem chTo_length (g:Geo.G) (x:Step):∀ n,(chTo g x n).length<=n/\(rvTo g x n).length<=n
 | 0=>⟨Nat.le_refl _,Nat.le_refl _⟩
 | n+1=>by
  have h:=chTo_length g x n;unfold chTo rvTo;split
  ·rw [List.length_append];simp;omega
  split
  ·rw [List.length_append];simp;omega
  ·omega
theorem blk_sz (x:UInt8):(blk x).size=128:=blk_size x
theorem txn_ok {g:Geo.G} (hg:Geo.May g) (x:Step):Jr.Ok (Geo.home g) (txnT g x):=by
 refine ⟨⟨fun b hb=>?_,chTo_sorted g x 12⟩,⟨fun b hb=>?_,rvTo_sorted g x 12⟩,fun c hc=>?_,fun b hb c hc=>?_⟩
 ·obtain ⟨c,hc,rfl⟩:=List.mem_map.1 hb;obtain ⟨k,h1,_,rfl⟩:=chTo_mem.1 hc;exact (hb_facts hg (k:=k) (by omega)).2.2.2
 ·obtain ⟨k,h1,_,_,rfl⟩:=rvTo_mem.1 hb;exact (hb_facts hg (k:=k) (by omega)).2.2.2
 ·obtain ⟨k,h1,_,rfl⟩:=chTo_mem.1 hc;exact blk_sz _
 ·obtain ⟨k,h1,h2,_,rfl⟩:=rvTo_mem.1 hb;obtain ⟨i,h4,h5,rfl⟩:=chTo_mem.1 hc;intro e;have:i=k:=hb_inj (g:=g) (by have:((Sys.hb g i:Nat):Int)=((Sys.hb g k:Nat):Int):=e;omega);subst this;rw [h2] at h5;cases h5
theorem size_txn (g:Geo.G) (x:Step):Jr.size (txnT g x)<=15:=by
 have h:=chTo_length g x 12;unfold Jr.size Jr.cdiv txnT;dsimp only;omega
theorem data_home {g:Geo.G} (hg:Geo.May g) (x:Step):∀ c ∈ dataT g x,Geo.home g c.1=true/\c.2.size=128/\∃ k,12<=k/\k < 14/\c.1=(hb g k:Nat):=by
 unfold dataT;intro c hc;split at hc
 ·simp only [List.mem_cons,List.not_mem_nil,or_false] at hc;rcases hc with rfl | rfl
  ·exact ⟨(hb_facts hg (k:=12) (by omega)).2.2.2,blk_sz _,12,by omega,by omega,rfl⟩
  exact ⟨(hb_facts hg (k:=13) (by omega)).2.2.2,blk_sz _,13,by omega,by omega,rfl⟩
 ·cases hc
theorem data_len (g:Geo.G) (x:Step):(dataT g x).length<=2:=by unfold dataT;split <;> simp
theorem look1_txn {g:Geo.G} (x:Step) {k:Nat} (hk:k < 12) (o:Option ByteArray):Jr.look1 (txnT g x) (hb g k:Nat) o=if has x.change k=true then some (blk (x.fill+UInt8.ofNat k)) else if has x.revoke k=true then none else o:=by
 unfold Jr.look1 txnT;dsimp only;by_cases h1:has x.change k=true
 ·rw [if_pos h1,if_neg]
  ·have hm:(((hb g k:Nat):Int),blk (x.fill+UInt8.ofNat k)) ∈ chTo g x 12:=chTo_mem.2 ⟨k,hk,h1,rfl⟩;cases e:(chTo g x 12).reverse.find? (fun c=>c.1 == ((hb g k:Nat):Int)) with
   | none =>
    have:=List.find?_eq_none.1 e _ (List.mem_reverse.2 hm);exact absurd (beq_self_eq_true _) this
   | some c =>
    have h2:=List.mem_of_find?_eq_some e;have h3:=List.find?_some e;obtain ⟨i,hi,hi2,rfl⟩:=chTo_mem.1 (List.mem_reverse.1 h2);have h4:i=k:=hb_inj (g:=g) (by have:=eq_of_beq h3;dsimp only at this;omega);subst h4;rfl
  intro hm;obtain ⟨i,hi,hi2,_,hi3⟩:=rvTo_mem.1 hm;have h4:k=i:=hb_inj (g:=g) (by omega);subst h4;rw [h1] at hi2;cases hi2
 ·rw [if_neg h1];by_cases h2:has x.revoke k=true
  ·rw [if_pos h2,if_pos];exact rvTo_mem.2 ⟨k,hk,by simpa using h1,h2,rfl⟩
  rw [if_neg h2,if_neg]
  ·cases e:(chTo g x 12).reverse.find? (fun c=>c.1 == ((hb g k:Nat):Int)) with
   | none=>rfl
   | some c =>
    have h2:=List.mem_of_find?_eq_some e;have h3:=List.find?_some e;obtain ⟨i,hi,hi2,rfl⟩:=chTo_mem.1 (List.mem_reverse.1 h2);have h4:i=k:=hb_inj (g:=g) (by have:=eq_of_beq h3;dsimp only at this;omega);subst h4;exact absurd hi2 h1
  intro hm;obtain ⟨i,hi,_,hi2,hi3⟩:=rvTo_mem.1 hm;have h4:k=i:=hb_inj (g:=g) (by omega);subst h4;exact absurd hi2 h2
theorem says_next {g:Geo.G} {home want:List UInt8} {l:List Jr.Txn} {x:Step} (hw:want.length=12) (h:Says g home want l):Says g home (nextT home want x) (l ++ [txnT g x]):=by
 intro k hk;rw [Jr.look_snoc,look1_txn x hk];unfold nextT;rw [nxTo_at home want x hw 12 (Nat.le_refl _) k hk,if_pos hk];split
 ·rfl
 split
 ·rfl
 ·exact h k hk
theorem vals_of {g:Geo.G} {home want:List UInt8} {l:List Jr.Txn} {m:List ByteArray} (h:Says g home want l) (ha:AtHome g home m):Vals g l want m:=by
 intro k hk;unfold Jr.val;rw [ha k hk];exact h k hk
theorem says_nil (g:Geo.G) (h:List UInt8):Says g h h []:=fun _ _=>rfl
theorem beside_home (g:Geo.G) (hg:Geo.May g) (h:List UInt8):Jr.Beside g (AtHome g h):=by
 intro m b s hb1 hb2 hP k hk;rw [Jr.blk_set,if_neg]
 ·exact hP k hk
 ·have:=(hb_facts hg (k:=k) (by omega)).1;omega
structure Ok (g:Geo.G) (D:Dev) (V:LogV) (home want:List UInt8) (at_ q:Nat) (l:List Jr.Txn) (K:Nat):Prop where
 may:Geo.May g
 dok:D.Ok K
 blocks:(D.kept.length:Int)=g.blocks
 all:Jr.All D (fun m=>AtHome g home m/\Jr.Stand g m at_ q l)
 says:Says g home want l
 V:V=⟨(at_+Jr.sizes l) % Jr.plc g,Jr.sizes l,q+l.length,0⟩
 hl:home.length=12
 wl:want.length=12
 num:q+l.length<=K+1
def Lost (g:Geo.G) (want next:List UInt8) (K:Nat) (m:List ByteArray):Prop:=∃ at_ q l,Jr.Stand g m at_ q l/\q+l.length<=K+1/\(Vals g l want m ∨ Vals g l next m)
structure Dead (g:Geo.G) (D:Dev) (want next:List UInt8) (K:Nat):Prop where
 dok:D.Ok K
 blocks:(D.kept.length:Int)=g.blocks
 all:Jr.All D (Lost g want next K)
variable {g:Geo.G} {D:Dev} {V:LogV} {home want:List UInt8} {at_ q K:Nat} {l:List Jr.Txn}
theorem Ok.dead (h:Ok g D V home want at_ q l K) (next:List UInt8):Dead g D want next K:=
 ⟨h.dok,h.blocks,h.all.imp fun m hm=>⟨at_,q,l,hm.2,h.num,.inl (vals_of h.says hm.1)⟩⟩
theorem Ok.mono (h:Ok g D V home want at_ q l K) {K':Nat} (hK:K<=K'):Ok g D V home want at_ q l K':=
 ⟨h.may,h.dok.mono hK,h.blocks,h.all,h.says,h.V,h.hl,h.wl,by have:=h.num;omega⟩
theorem Ok.commit (h:Ok g D V home want at_ q l K) (x:Step) (hK:K+2 < 2 ^ 62) (hroom:V.used+Jr.size (txnT g x)<=Jr.plc g) :
  ((Jr.doA (Jr.commitA g (txnT g x) V.seq V.place (dataT g x)) D).2=0/\Ok g (Jr.doA (Jr.commitA g (txnT g x) V.seq V.place (dataT g x)) D).1 ⟨(V.place+Jr.size (txnT g x)) % Jr.plc g,V.used+Jr.size (txnT g x),(V.seq+1) % 18446744073709551616,0⟩ home (nextT home want x) at_ q (l ++ [txnT g x]) (K+100)/\(Jr.doA (Jr.commitA g (txnT g x) V.seq V.place (dataT g x)) D).1.kept=(Jr.doA (Jr.commitA g (txnT g x) V.seq V.place (dataT g x)) D).1.now) ∨
  ((Jr.doA (Jr.commitA g (txnT g x) V.seq V.place (dataT g x)) D).2=61/\Dead g (Jr.doA (Jr.commitA g (txnT g x) V.seq V.place (dataT g x)) D).1 want (nextT home want x) (K+100)):=by
 have hV:=h.V
 have hsz:=size_txn g x
 have hnum:=h.num
 have hpl:=Jr.plc_of h.may
 subst hV
 dsimp only at hroom ⊢
 obtain ⟨s1,s2,s3⟩:=Jr.commit_safe (P:=AtHome g home) (place:=(at_+Jr.sizes l) % Jr.plc g) (data:=dataT g x) h.may h.dok.len h.blocks h.all (beside_home g h.may home) (txn_ok h.may x) (by omega) (by omega) (by rw [Nat.mod_mod]) (fun c hc=>by
  obtain ⟨h1,h2,k,h3,h4,h5⟩:=data_home h.may x c hc;refine ⟨h1,h2,fun m hm i hi=>?_⟩;rw [Jr.blk_set,if_neg]
  ·exact hm i hi
  rw [h5];unfold Sys.hb;omega)
 have hlen:(Jr.commitA g (txnT g x) (q+l.length) ((at_+Jr.sizes l) % Jr.plc g) (dataT g x)).length<=100:=by
  have h1:=Jr.body_length (txnT g x) (q+l.length);have h2:=data_len g x;have h3:=ringW_length g (Jr.body (txnT g x) (q+l.length)) ((at_+Jr.sizes l) % Jr.plc g);unfold Jr.commitA;simp only [List.length_append,List.length_map,List.length_cons,List.length_nil];omega
 have hd:=(Jr.ok_doA (Jr.commitA g (txnT g x) (q+l.length) ((at_+Jr.sizes l) % Jr.plc g) (dataT g x)) h.dok).mono (show K+_<=K+100 by omega)
 have hbl:=(Jr.len_doA (Jr.commitA g (txnT g x) (q+l.length) ((at_+Jr.sizes l) % Jr.plc g) (dataT g x)) h.dok.len).1
 rcases s1 with s1 | s1
 ·left;obtain ⟨s4,s5⟩:=s3 s1;refine ⟨s1,⟨h.may,hd,by rw [hbl];exact h.blocks,s4,says_next h.wl h.says,?_,h.hl,nextT_length.trans h.wl,by rw [List.length_append];simp;omega⟩,s5⟩;rw [Jr.sizes_snoc,List.length_append,Nat.mod_eq_of_lt (show q+l.length+1 < 18446744073709551616 by omega),<- Nat.add_assoc at_,Nat.mod_add_mod];rfl
 ·right;refine ⟨s1,hd,by rw [hbl];exact h.blocks,s2.imp fun m hm=>?_⟩;rcases hm.2 with hS | hS
  ·exact ⟨at_,q,l,hS,by omega,.inl (vals_of h.says hm.1)⟩
  exact ⟨at_,q,_,hS,by rw [List.length_append];simp;omega,.inr (vals_of (says_next h.wl h.says) hm.1)⟩
def homeA (g:Geo.G) (want:List UInt8) (n:Nat):List Jr.Act:=(List.range n).map fun k=>.write ((hb g k:Nat):Int) (blk (want.getD k 0))
theorem homeA_length (g:Geo.G) (want:List UInt8) (n:Nat):(homeA g want n).length=n:=by unfold homeA;simp
theorem homeA_succ (g:Geo.G) (want:List UInt8) (n:Nat):homeA g want (n+1)=homeA g want n ++ [.write ((hb g n:Nat):Int) (blk (want.getD n 0))]:=by unfold homeA;rw [List.range_succ,List.map_append];rfl
theorem homeA_apply (hg:Geo.May g) (want:List UInt8):∀ (n:Nat) (m:List ByteArray),n<=12->m.length=g.blocks.toNat->∀ k,k < n->Jr.blk (Jr.applyA (homeA g want n) m) (hb g k)=blk (want.getD k 0)
 | n+1,m,hn,hm,k,hk=>by
  rw [homeA_succ,Jr.applyA_append];show Jr.blk (List.set _ (((hb g n:Nat):Int).toNat) _) _=_;rw [Int.toNat_natCast,Jr.blk_set,Jr.applyA_length];by_cases e:k=n
  ·subst e;rw [if_pos ⟨rfl,by rw [hm];exact (hb_facts hg (k:=k) (by omega)).2.1⟩]
  ·rw [if_neg (fun h=>e (hb_inj h.1))];exact homeA_apply hg want n m (by omega) hm k (by omega)
theorem Ok.homes (h:Ok g D V home want at_ q l K) :
  ((Jr.doA (homeA g want 12) D).2=0 ∨ (Jr.doA (homeA g want 12) D).2=61)/\Jr.All (Jr.doA (homeA g want 12) D).1 (fun m=>Vals g l want m/\Jr.Stand g m at_ q l)/\(Jr.doA (homeA g want 12) D).1.Ok (K+12)/\((Jr.doA (homeA g want 12) D).1.kept.length:Int)=g.blocks/\((Jr.doA (homeA g want 12) D).2=0->AtHome g want (Jr.doA (homeA g want 12) D).1.now):=by
 have hbl:=(Jr.len_doA (homeA g want 12) h.dok.len).1
 refine ⟨Jr.doA_err _ h.dok.len ?_,Jr.All.doA _ h.dok.len ?_ (h.all.imp fun m hm=>⟨vals_of h.says hm.1,hm.2⟩),by have:=Jr.ok_doA (homeA g want 12) h.dok;rwa [homeA_length] at this,by rw [hbl];exact h.blocks,fun e=>?_⟩
 ·intro a ha;obtain ⟨k,hk,rfl⟩:=List.mem_map.1 ha;have hk:=List.mem_range.1 hk;have hf:=hb_facts h.may (k:=k) (by omega);have hb:=h.blocks;exact ⟨by omega,by omega,blk_sz _⟩
 ·intro a ha;obtain ⟨k,hk,rfl⟩:=List.mem_map.1 ha;have hk:=List.mem_range.1 hk;have hf:=hb_facts h.may (k:=k) (by omega);intro m hm;refine ⟨fun i hi=>?_,hm.2.other h.may (.inr (by rw [Int.toNat_natCast];exact hf.1)) _⟩;have hv:=hm.1 i hi;unfold Jr.val at hv ⊢;rw [Int.toNat_natCast,Jr.blk_set];split
  ·rename_i k1;obtain rfl:=hb_inj k1.1;cases e:Jr.look l ((hb g i:Nat):Int) with
   | none=>rfl
   | some s=>rw [e] at hv;exact hv
  exact hv
 ·intro k hk;rw [Jr.doA_now _ e];exact homeA_apply h.may want 12 _ (Nat.le_refl _) (by rw [h.dok.len];have:=h.blocks;omega) k hk
theorem Ok.idle (h:Ok g D V home want at_ q l K) (h0:(Jr.doA (homeA g want 12) D).2=0) (hu:V.used=0):Ok g (Jr.doA (homeA g want 12) D).1 V want want at_ q [] (K+100):=by
 obtain ⟨s1,s2,s3,s4,s5⟩:=h.homes;have hV:=h.V;have hl:l = []:=by
  cases l with
  | nil=>rfl
  | cons t l =>
   have:=Jr.size_pos t;rw [hV] at hu;have hu:Jr.size t+Jr.sizes l=0:=hu;omega
 subst hl;exact ⟨h.may,s3.mono (by omega),s4,s2,says_nil g want,hV,h.wl,h.wl,by have:=h.num;omega⟩
end Go.Proofs.YtnpdhidliaahbaaGreat.Sys
