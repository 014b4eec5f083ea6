/- The document's numbers: Within, Get, Put, and a number behind some bytes. -/
import Derived.Test.YtnpdhidliaahbaaGreatP17
import Derived.Deep.RegionHeld3
import Derived.Test.YtnpdhidliaahbaaGreatP14
import Derived.Test.YtnpdhidliaahbaaGreatP18
set_option maxRecDepth 100000
set_option maxHeartbeats 32000000
set_option linter.unusedSimpArgs false
set_option linter.unusedVariables false
namespace Go.Proofs.YtnpdhidliaahbaaGreat
open Go.Lib (hid)
open Go Go.RowKit
theorem din_any (s:ByteArray) (at_ k:Nat) (hk:SizeOk k) (hs:s.size<=140737488351232) (h:at_+k<=s.size) (w:World) :
  Calls Tryz.prog 179 #[.string s,.int .i64 at_,.int .i64 k] w fun e w'=>e=.returned (.bool true)/\w=w':=by
 have h0:(0:Int)<=(at_:Int):=by omega
 have hd:true=decide ((at_:Int)<=(s.size:Int) - k):=(decide_eq_true (by omega)).symm
 rw [hd]
 clear hd
 rcases hk with rfl | rfl | rfl | rfl
 all_goals
  go_enter Tryz.func179,Tryz.ntmps179;go_wp2_with fail;go_ret;exact ⟨rfl,rfl⟩
def hi (l:Bytes) (at_ k j:Nat):Nat:=lv ((l.drop (at_+j)).take (k - j))
theorem hi_all (l:Bytes) (at_ k:Nat):hi l at_ k 0=getW l at_ k:=rfl
theorem hi_end (l:Bytes) (at_ k:Nat):hi l at_ k k=0:=by unfold hi;rw [Nat.sub_self,List.take_zero];rfl
theorem hi_step (l:Bytes) (at_ k j:Nat) (hj:j < k) (h:at_+k<=l.length):hi l at_ k j=hi l at_ k (j+1) * 256+(l.getD (at_+j) 0).toNat:=by
 unfold hi;have hl:at_+j < l.length:=by omega
 rw [List.drop_eq_getElem_cons hl,show k - j=(k - (j+1))+1 by omega,List.take_succ_cons];show (l[at_+j]).toNat+256 * lv _=_;rw [show at_+(j+1)=at_+j+1 by omega];simp [List.getD,hl];omega
theorem hi_lt (l:Bytes) (at_ k j:Nat):hi l at_ k j < 256 ^ (k - j):=by
 unfold hi;exact Nat.lt_of_lt_of_le (lv_lt _) (Nat.pow_le_pow_right (by decide) (by simp;omega))
theorem byte_at (s:ByteArray) (i:Nat) (h:i < s.size):(s.data.toList.getD i 0).toNat=s[i].toNat:=by
 have:i < s.data.toList.length:=(by rw [list_length];exact h);simp only [List.getD,List.getElem?_eq_getElem this,Option.getD_some];rfl
theorem dget_any (s:ByteArray) (at_ k:Nat) (hk:SizeOk k) (hs:s.size<=140737488351232) (h:at_+k<=s.size) (w:World) :
  Calls Tryz.prog 156 #[.string s,.int .i64 at_,.int .i64 k] w fun e w'=>e=.returned (.tuple #[.int .u64 (getW s.data.toList at_ k:Nat),.bool true])/\w=w':=by
 have hk8:k<=8:=by rcases hk with h | h | h | h <;> omega
 have hk1:1<=k:=by rcases hk with h | h | h | h <;> omega
 have hc:=hid (din_any s at_ k hk hs h w)
 have h0:=hid (hi_all s.data.toList at_ k)
 have hE:=hid (hi_end s.data.toList at_ k)
 have HS:=hid (list_length s)
 go_enter Tryz.func156,Tryz.ntmps156
 go_wp2_with fail
 refine hc.out.mono ?_
 rintro e w' ⟨rfl,rfl⟩
 go_wp2_with fail
 go_loop [8,9] (fun n i=>(∃ j:Nat,j < k/\i=.int .i64 j/\n=.int .u64 (hi s.data.toList at_ k (j+1):Nat)) ∨ (i=.int .i64 (-1)/\n=.int .u64 (hi s.data.toList at_ k 0:Nat))) (fun _ i=>((intOf i)+1).toNat)
 case atStart=>exact .inl ⟨k - 1,by omega,by congr 1;omega,by rw [show k - 1+1=k by omega,hE.out];rfl⟩
 case round =>
  rcases hrel with ⟨j,hj,rfl,rfl⟩ | ⟨rfl,rfl⟩
  ·have hn:=hid (hi_step s.data.toList at_ k j hj (by rw [HS.out];exact h));have hb:=hid (byte_at s (at_+j) (by omega));have hlt:=hi_lt s.data.toList at_ k (j+1);have hle:(256:Nat) ^ (k - (j+1))<=256 ^ 7:=Nat.pow_le_pow_right (by decide) (by omega);have h7:(256:Nat) ^ 7=72057594037927936:=(by decide);have hM:=hid (show hi s.data.toList at_ k (j+1) < 72057594037927936 by omega);obtain ⟨M,hM0⟩:∃ M,hi s.data.toList at_ k (j+1)=M:=⟨_,rfl⟩;rw [hM0] at hn hM ⊢;have hM':=hM.out;have hu8:=s[at_+j].toNat_lt;have w1:IntKind.u64.wrap ((M:Int) * 256)=(M:Int) * 256:=u64_wrap_lo (by omega) (by omega);have w2:IntKind.u64.wrap ((s[at_+j].toNat:Nat):Int)=((s[at_+j].toNat:Nat):Int):=u64_wrap_lo (by omega) (by omega);have w3:IntKind.u64.wrap ((M:Int) * 256+((s[at_+j].toNat:Nat):Int))=(M:Int) * 256+((s[at_+j].toNat:Nat):Int):=u64_wrap_lo (by omega) (by omega);clear hM0 hlt hle h7;have hi1:at_+j < s.size:=(by omega);go_wp2_with fail;go_round;case rel =>
    by_cases hz:j=0
    ·subst hz;exact .inr ⟨rfl,by rw [hn.out,hb.out];go_num⟩
    exact .inl ⟨j - 1,by omega,by first | (congr 1;done) | (congr 1;omega),by rw [show j - 1+1=j by omega,hn.out,hb.out];go_num⟩
   case measure=>first | (simp [intOf];done) | (simp [intOf];omega)
  rw [h0.out];go_wp2_with fail;go_ret2;exact ⟨rfl,rfl⟩
theorem le_snoc:∀ (k n:Nat),le (k+1) n=le k n ++ [UInt8.ofNat (n / 256 ^ k % 256)]
 | 0,n=>by simp [le]
 | k+1,n=>by
  rw [le,le_snoc k (n / 256),le];simp only [List.cons_append];rw [Nat.div_div_eq_div_mul,Nat.pow_succ,Nat.mul_comm 256]
theorem run_byte_string (w:World) (m:Nat):(convert 94 9 (.slice (some ⟨w.heap.size,0,none⟩) 1 1)).run Tryz.prog (w.alloc (.cells #[.int .u8 ((m:Int) % 256)] 5))=.ok (.string (txt [UInt8.ofNat (m % 256)])) (w.alloc (.cells #[.int .u8 ((m:Int) % 256)] 5)):=by
 have e:((m:Int) % 256)=((UInt8.ofNat (m % 256)).toNat:Int):=(by simp);rw [e];generalize UInt8.ofNat (m % 256)=x;refine run_convert_bytes_back _ _ _ 5 ⟨w.heap.size,0,none⟩ 1 [x] Tryz.underlying94 Tryz.underlying5 Tryz.underlying9 fun j hj=>?_;obtain rfl:j=0:=by simp at hj;omega
 have e1:(⟨w.heap.size,0,none⟩:Addr).add 0=⟨w.heap.size,0,none⟩:=(by unfold Addr.add;split <;> simp_all);rw [e1];exact World.cell?_alloc_at _ _ _ 0 rfl
theorem rinfo_byte:(Tryz.prog.info? 5).map (fun i=>(i.zero,i.size,i.bytes))=some (some (.int .u8 0),1,1):=by kernel_rfl
theorem zmake (k:Nat) (hk:k<=1000000) (w:World):(Instr.makeSlice 94 (.int .i64 (k:Int)) (.int .i64 (k:Int))).run Tryz.prog w=.ok (.slice (some ⟨w.heap.size,0,none⟩) k k) (w.alloc (.cells (bcells (List.replicate k 0)).toArray 5)):=by
 obtain ⟨ib,hib,hzb,hsb,hbb⟩:=info_parts rinfo_byte;have hr:=run_make (P:=Tryz.prog) w 94 5 ib (.int .u8 0) Tryz.underlying94 hib hzb .i64 .i64 k k (by omega) (by omega) (by rw [hbb];omega) (by omega);rw [show (bcells (List.replicate k 0)).toArray=madeCells #[.int .u8 0] k from by rw [<- Array.toList_inj,toList_madeCells_one];simp [bcells,bval]];simpa [hsb,Value.cells] using hr
theorem zstring (k:Nat) (w:World):(convert 94 9 (.slice (some ⟨w.heap.size,0,none⟩) k k)).run Tryz.prog (w.alloc (.cells (bcells (List.replicate k 0)).toArray 5))=.ok (.string (txt (List.replicate k 0))) (w.alloc (.cells (bcells (List.replicate k 0)).toArray 5)):=
 run_string_of_row _ _ 5 k k (by simp) Tryz.underlying94 Tryz.underlying5 Tryz.underlying9 (Row.new w _ _ rfl)
theorem rtxt_append (a b:Bytes):txt a ++ txt b=txt (a ++ b):=by
 apply ByteArray.ext;simp [txt]
theorem dput0_any (k:Nat) (hk:SizeOk k) (s:ByteArray) (hs:s.size=k) (n:Nat) (hn:n < 256 ^ k) (w:World) :
  Calls Tryz.prog 181 #[.string s,.int .i64 0,.int .i64 (k:Int),.int .u64 (n:Int)] w fun e w'=>e=.returned (.tuple #[.string (txt (le k n)),.bool true])/\Below w.heap.size w w':=by
 have q:=hid (fun w=>din_any s 0 k hk (by rcases hk with h | h | h | h <;> omega) (by omega) w)
 have hk8:k<=8:=by rcases hk with h | h | h | h <;> omega
 have hk0:0 < k:=by rcases hk with h | h | h | h <;> omega
 clear hk
 go_enter Tryz.func181,Tryz.ntmps181
 go_wp2_with fail
 refine (q.out _).mono ?_
 rintro e w1 ⟨rfl,rfl⟩
 go_wp2_with fail
 go_loopw [11,10,3] (fun i b m wr=>∃ j:Nat,i=.int .i64 j/\j<=k/\b=.string (txt (le j n))/\m=.int .u64 ((n / 256 ^ j:Nat):Int)/\Hid (Below w.heap.size w wr)) (fun i _ _ _=>k - (intOf i).toNat)
 case atStart=>exact ⟨0,rfl,Nat.zero_le _,by rfl,by simp,hid (Below.refl _ _)⟩
 case round =>
  obtain ⟨j,rfl,hj,rfl,rfl,hb⟩:=hrel;by_cases hlt:j < k
  ·have i1:(j:Int) < (k:Int):=(by omega);obtain ⟨m,hm⟩:∃ m,n / 256 ^ j=m:=⟨_,rfl⟩;have hle:=hid (le_snoc j n);rw [hm] at hle;have hdm:=hid (show n / 256 ^ (j+1)=m / 256 by rw [Nat.pow_succ,<- Nat.div_div_eq_div_mul,hm]);rw [hm];have hcv:=run_byte_string wr m;have hsz:¬ 9223372036854775807 < (txt (le j n)).size+(txt [UInt8.ofNat (m % 256)]).size:=(by rw [txt_size,txt_size,le_length];simp;omega);clear hm;go_wp2_with fail;go_roundw;case rel =>
    refine ⟨j+1,by go_num,by omega,?_,?_,hid (hb.out.alloc (by exact hb.out.size) _)⟩
    ·rw [hle.out,<- rtxt_append]
    have e:=hdm.out;have hmb:m / 256 < 18446744073709551616:=by
     rw [<- e];have h1:n < 256 ^ 8:=Nat.lt_of_lt_of_le hn (Nat.pow_le_pow_right (by decide) hk8);have h2:n / 256 ^ (j+1)<=n:=Nat.div_le_self _ _;omega
    rw [e];have:IntKind.u64.wrap ((m:Int) / 256)=((m / 256:Nat):Int):=by
     simp only [IntKind.wrap,IntKind.bits,IntKind.signed];rw [show ((m:Int) / 256)=((m / 256:Nat):Int) by omega];exact Int.emod_eq_of_lt (by omega) (by omega)
    rw [this]
   case measure=>simp [intOf];omega
  obtain rfl:j=k:=(by omega);have hz:n / 256 ^ j=0:=Nat.div_eq_of_lt hn;rw [hz];clear hz hn;have hsz:¬ 9223372036854775807 < (ByteArray.empty).size+(txt (le j n)).size:=(by rw [txt_size,le_length];simp;omega);generalize hbb:txt (le j n)=b at *;have HBB:=hid hbb;clear hbb;go_wp2_with fail;go_region;go_wp2_with fail;go_ret2;exact ⟨by rw [HBB.out];rfl,hb.out.drew⟩
theorem dput_any (b:Bytes) (k n:Nat) (hk:SizeOk k) (hn:n < 256 ^ k) (hs:b.length<=1000000) (w:World) :
  Calls Tryz.prog 159 #[.string (txt b),.int .i64 (k:Int),.int .u64 (n:Int)] w fun e w'=>e=.returned (.string (txt (b ++ le k n)))/\Below w.heap.size w w':=by
 have hk8:k<=1000000:=by rcases hk with h | h | h | h <;> omega
 have q:=hid (fun (s:ByteArray) (hs:s.size=k) w=>dput0_any k hk s hs n hn w)
 rw [<- rtxt_append b (le k n)]
 have hsz:¬ 9223372036854775807 < (txt b).size+(txt (le k n)).size:=by
  have:k<=8:=by rcases hk with h | h | h | h <;> omega
  rw [txt_size,txt_size,le_length];omega
 generalize txt (le k n)=N at *
 generalize txt b=S at *
 have hmk:(Instr.makeSlice 94 (.int .i64 (k:Int)) (.int .i64 (k:Int))).run Tryz.prog w=.ok (.slice (some ⟨w.heap.size,0,none⟩) k k) (w.alloc (.cells (bcells (List.replicate k 0)).toArray 5)):=zmake k hk8 w
 have hst:=zstring k w
 have hz4:=hid (show (txt (List.replicate k 0)).size=k by rw [txt_size];simp)
 have hbA:=hid (show Below w.heap.size w (w.alloc (.cells (bcells (List.replicate k 0)).toArray 5)) from (Below.refl _ _).alloc (Nat.le_refl _) _)
 generalize w.alloc (.cells (bcells (List.replicate k 0)).toArray 5)=wA at *
 generalize txt (List.replicate k 0)=Z at *
 clear hk hn hs hk8
 go_enter Tryz.func159,Tryz.ntmps159
 go_wp2_with fail
 refine (q.out Z hz4.out _).mono ?_
 rintro e w1 ⟨rfl,b1⟩
 have hb:=hid (hbA.out.trans (b1.mono hbA.out.size))
 clear b1
 go_wp2_with fail
 go_ret
 exact ⟨rfl,hb.out⟩
theorem rising_any (v:Value) (l:List Int) (w:World) (most:Nat) (hmost:most<=100) (h:IntsAt w v l) (hl:l.length<=1000000000) :
  Calls Tryz.prog 180 #[v,.int .i64 (most:Int)] w fun e w'=>e=.returned (.bool (Rec.homesOk l most))/\∃ n,w'=w.drewN n:=by
 have H:=hid h
 obtain ⟨ad,cap,rfl⟩:=h.form
 clear h
 unfold Rec.homesOk Rec.rises
 by_cases hm0:(l.length:Int) < 1
 ·have hm0':l.length=0:=(by omega);rw [decide_eq_false (show ¬ 1<=l.length by omega),Bool.false_and,Bool.and_false];clear hm0';go_enter Tryz.func180,Tryz.ntmps180;go_wp2_with fail;go_ret;exact ⟨rfl,0,rfl⟩
 by_cases hm1:(most:Int) < (l.length:Int)
 ·rw [decide_eq_false (show ¬ l.length<=most by omega),Bool.and_false,Bool.and_false];have hm1':most < l.length:=by omega
  go_enter Tryz.func180,Tryz.ntmps180;go_wp2_with fail;go_ret;exact ⟨rfl,0,rfl⟩
 rw [decide_eq_true (show 1<=l.length by omega),decide_eq_true (show l.length<=most by omega),Bool.and_true,Bool.and_true]
 have hm1':¬ most < l.length:=by omega
 have hm0':¬ l.length < 1:=by omega
 have h1:1<=l.length:=by omega
 have h2:l.length<=most:=by omega
 go_enter Tryz.func180,Tryz.ntmps180
 go_wp2_with fail
 go_loopw [5] (fun q wr=>∃ j:Nat,j<=l.length/\q=.int .i64 j/\Hid (Rec.risesTo Rec.blockOk l j=true)/\Hid (∃ n,wr=w.drewN n)) (fun q _=>l.length - (intOf q).toNat)
 case atStart=>exact ⟨0,by omega,rfl,hid rfl,hid ⟨0,rfl⟩⟩
 case round =>
  obtain ⟨j,hj,rfl,hok,hw⟩:=hrel;have hD:Hid (∀ n,∃ m,wr.drewN n=w.drewN m):=hid (fun n=>by obtain ⟨m,hm⟩:=hw.out;exact ⟨m+n,by rw [hm];exact World.drewN_drewN _ _ _⟩);by_cases hlt:j < l.length
  ·have i0:(0:Int)<=(j:Int):=(by omega);have i1:(j:Int) < (l.length:Int):=(by omega);obtain ⟨g,off,rfl,c0w⟩:=H.out.cells j hlt;have c0:wr.cell? ⟨g,off+j,none⟩=some (.int .i64 (l.getD j 0)):=(by obtain ⟨m,hm⟩:=hw.out;rw [hm];exact c0w);clear c0w;have hnext:Hid (Rec.risesTo Rec.blockOk l (j+1)=(Rec.blockOk (l.getD j 0) && (decide (j=0) || decide (l.getD (j - 1) 0 < l.getD j 0)))):=hid (by
    show (Rec.risesTo _ l j && _)=_;rw [hok.out];rfl)
   have hfalse:Hid (Rec.risesTo Rec.blockOk l (j+1)=false->Rec.risesTo Rec.blockOk l l.length=false):=hid (fun h=>Rec.risesTo_false h (by omega));by_cases k0:j=0
   ·have kd:decide ((0:Int) < (j:Int))=false:=decide_eq_false (by omega);have kd2:decide (0 < j)=false:=decide_eq_false (by omega);have c0':wr.cell? ⟨g,off,none⟩=some (.int .i64 (l.getD j 0)):=(by have:=c0;rwa [k0,Nat.add_zero,<- k0] at this);clear c0;generalize hx:l.getD j 0=x at c0';have HX:=hid hx;clear hx;by_cases k1:x < 0
    ·have d1:decide (x < 0)=true:=decide_eq_true k1;go_wp2_with fail;go_quiet (fail);go_wp2_with fail;go_ret;exact ⟨by rw [hfalse.out (by rw [hnext.out,HX.out];simp [Rec.blockOk];omega)];rfl,hD.out _⟩
    have d1:decide (x < 0)=false:=decide_eq_false k1;by_cases k2:4096<=x
    ·have d2:decide (4096<=x)=true:=decide_eq_true k2;go_wp2_with fail;go_quiet (fail);go_wp2_with fail;go_ret;exact ⟨by rw [hfalse.out (by rw [hnext.out,HX.out];simp [Rec.blockOk];omega)];rfl,hD.out _⟩
    have d2:decide (4096<=x)=false:=decide_eq_false k2;go_wp2_with fail;go_quiet (fail);go_wp2_with fail;go_roundw;case rel=>exact ⟨j+1,by omega,by go_num,hid (by rw [hnext.out,HX.out];simp [Rec.blockOk,k0];omega),hid (hD.out _)⟩
    case measure=>simp [intOf];omega
   have kd0:(0:Int) < (j:Int):=(by omega);have kd:decide ((0:Int) < (j:Int))=true:=decide_eq_true kd0;have kd2:decide (0 < j)=true:=decide_eq_true (by omega);obtain ⟨g',off',e,c1w⟩:=H.out.cells (j - 1) (by omega);cases e;have c1:wr.cell? ⟨g,off+(j - 1),none⟩=some (.int .i64 (l.getD (j - 1) 0)):=(by obtain ⟨m,hm⟩:=hw.out;rw [hm];exact c1w);clear c1w;generalize hx:l.getD j 0=x at c0;generalize hy:l.getD (j - 1) 0=y at c1;have HX:=hid hx;have HY:=hid hy;clear hx hy;have u1:IntKind.i64.wrap ((j:Int) - 1)=(j:Int) - 1:=IntWalk.i64_in _ (by omega);have u2:((j:Int) - 1).toNat=j - 1:=(by omega);have u3:(0:Int)<=(j:Int) - 1:=(by omega);have u4:(j:Int) - 1 < (l.length:Int):=(by omega);by_cases k1:x < 0
   ·have d1:decide (x < 0)=true:=decide_eq_true k1;go_wp2_with fail;go_quiet (fail);go_wp2_with fail;go_ret;exact ⟨by rw [hfalse.out (by rw [hnext.out,HX.out];simp [Rec.blockOk];omega)];rfl,hD.out _⟩
   have d1:decide (x < 0)=false:=decide_eq_false k1;by_cases k2:4096<=x
   ·have d2:decide (4096<=x)=true:=decide_eq_true k2;go_wp2_with fail;go_quiet (fail);go_wp2_with fail;go_ret;exact ⟨by rw [hfalse.out (by rw [hnext.out,HX.out];simp [Rec.blockOk];omega)];rfl,hD.out _⟩
   have d2:decide (4096<=x)=false:=decide_eq_false k2;by_cases k3:x<=y
   ·have d3:decide (x<=y)=true:=decide_eq_true k3;go_wp2_with fail;go_quiet (fail);go_wp2_with fail;go_ret;exact ⟨by rw [hfalse.out (by rw [hnext.out,HX.out,HY.out];simp [Rec.blockOk,k0];omega)];rfl,hD.out _⟩
   have d3:decide (x<=y)=false:=decide_eq_false k3;go_wp2_with fail;go_quiet (fail);go_wp2_with fail;go_roundw;case rel=>exact ⟨j+1,by omega,by go_num,hid (by rw [hnext.out,HX.out,HY.out];simp [Rec.blockOk,k0];omega),hid (hD.out _)⟩
   case measure=>simp [intOf];omega
  obtain rfl:j=l.length:=(by omega);go_wp2_with fail;go_ret;exact ⟨by rw [hok.out];rfl,hw.out⟩
theorem drecmay_any (v:Value) (x:Rec.V) (w:World) (h:RecAt w v x) :
  Calls Tryz.prog 158 #[v] w fun e w'=>e=.returned (.bool (Rec.may x))/\Below w.heap.size w w':=by
 obtain ⟨⟨hv,mv,rfl,hh,hm⟩,hq,hs,hk,ha,hl1,hl2⟩:=h
 obtain ⟨a1,c1,rfl⟩:=hh.form
 obtain ⟨a2,c2,rfl⟩:=hm.form
 obtain ⟨kind,seq,at_,homes,masked,sum⟩:=x
 have m1:=@recmay1 ⟨kind,seq,at_,homes,masked,sum⟩
 have m2:=@recmay2 ⟨kind,seq,at_,homes,masked,sum⟩
 have m3:=@recmay3 ⟨kind,seq,at_,homes,masked,sum⟩
 have m4:=@recmay4 ⟨kind,seq,at_,homes,masked,sum⟩
 have m5:=@recmay_other ⟨kind,seq,at_,homes,masked,sum⟩
 dsimp only at hh hm hq hs hk ha hl1 hl2 m1 m2 m3 m4 m5 ⊢
 generalize Rec.may ⟨kind,seq,at_,homes,masked,sum⟩=r at *
 have q24:=hid (fun w h=>rising_any (.slice a1 homes.length c1) homes w 24 (by decide) h hl1)
 have q28:=hid (fun w h=>rising_any (.slice a1 homes.length c1) homes w 28 (by decide) h hl1)
 have H:=hid hh
 clear hh hm
 generalize hnh:homes.length=nh at *
 generalize hnm:masked.length=nm at *
 clear hnh hnm
 replace m1:=hid m1
 replace m2:=hid m2
 replace m3:=hid m3
 replace m4:=hid m4
 replace m5:=hid m5
 by_cases e1:kind=1
 ·subst e1;by_cases c_sum:sum=0
  ·subst c_sum;by_cases c_nh:nh=0
   ·subst c_nh;by_cases c_nm:nm=0
    ·subst c_nm;by_cases c_at:0<=at_/\at_<=510
     ·obtain rfl:r=true:=(by rw [m1.out rfl];exact decide_eq_true (by omega));have R0:=Row.new w 61 [.int .i64 1,.int .u64 (seq:Int),.int .i64 at_,.slice a1 0 c1,.slice a2 0 c2,.int .u32 0] rfl;have BA:=hid ((Below.refl w.heap.size w).alloc (Nat.le_refl _) (.cells #[.int .i64 1,.int .u64 (seq:Int),.int .i64 at_,.slice a1 0 c1,.slice a2 0 c2,.int .u32 0] 61));have k0:=R0.cellAt 0 rfl;have k2:=R0.cellAt 2 rfl;have k3:=R0.cellAt 3 rfl;have k4:=R0.cellAt 4 rfl;have k5:=R0.cellAt 5 rfl;clear R0;clear m1 m2 m3 m4 m5 q24 q28 H;go_enter Tryz.func158,Tryz.ntmps158;go_wp2_with fail;all_goals go_ret
      all_goals first | exact ⟨rfl,BA.out⟩ | exact ⟨by simp;omega,BA.out⟩ | (exfalso;omega)
     obtain rfl:r=false:=(by rw [m1.out rfl];exact decide_eq_false (by omega));have R0:=Row.new w 61 [.int .i64 1,.int .u64 (seq:Int),.int .i64 at_,.slice a1 0 c1,.slice a2 0 c2,.int .u32 0] rfl;have BA:=hid ((Below.refl w.heap.size w).alloc (Nat.le_refl _) (.cells #[.int .i64 1,.int .u64 (seq:Int),.int .i64 at_,.slice a1 0 c1,.slice a2 0 c2,.int .u32 0] 61));have k0:=R0.cellAt 0 rfl;have k2:=R0.cellAt 2 rfl;have k3:=R0.cellAt 3 rfl;have k4:=R0.cellAt 4 rfl;have k5:=R0.cellAt 5 rfl;clear R0;clear m1 m2 m3 m4 m5 q24 q28 H;go_enter Tryz.func158,Tryz.ntmps158;go_wp2_with fail;all_goals go_ret
     all_goals first | exact ⟨rfl,BA.out⟩ | exact ⟨by simp;omega,BA.out⟩ | (exfalso;omega)
    obtain rfl:r=false:=(by rw [m1.out rfl];exact decide_eq_false (by omega));have R0:=Row.new w 61 [.int .i64 1,.int .u64 (seq:Int),.int .i64 at_,.slice a1 0 c1,.slice a2 nm c2,.int .u32 0] rfl;have BA:=hid ((Below.refl w.heap.size w).alloc (Nat.le_refl _) (.cells #[.int .i64 1,.int .u64 (seq:Int),.int .i64 at_,.slice a1 0 c1,.slice a2 nm c2,.int .u32 0] 61));have k0:=R0.cellAt 0 rfl;have k2:=R0.cellAt 2 rfl;have k3:=R0.cellAt 3 rfl;have k4:=R0.cellAt 4 rfl;have k5:=R0.cellAt 5 rfl;clear R0;clear m1 m2 m3 m4 m5 q24 q28 H;go_enter Tryz.func158,Tryz.ntmps158;go_wp2_with fail;all_goals go_ret
    all_goals first | exact ⟨rfl,BA.out⟩ | exact ⟨by simp;omega,BA.out⟩ | (exfalso;omega)
   obtain rfl:r=false:=(by rw [m1.out rfl];exact decide_eq_false (by omega));have R0:=Row.new w 61 [.int .i64 1,.int .u64 (seq:Int),.int .i64 at_,.slice a1 nh c1,.slice a2 nm c2,.int .u32 0] rfl;have BA:=hid ((Below.refl w.heap.size w).alloc (Nat.le_refl _) (.cells #[.int .i64 1,.int .u64 (seq:Int),.int .i64 at_,.slice a1 nh c1,.slice a2 nm c2,.int .u32 0] 61));have k0:=R0.cellAt 0 rfl;have k2:=R0.cellAt 2 rfl;have k3:=R0.cellAt 3 rfl;have k4:=R0.cellAt 4 rfl;have k5:=R0.cellAt 5 rfl;clear R0;clear m1 m2 m3 m4 m5 q24 q28 H;go_enter Tryz.func158,Tryz.ntmps158;go_wp2_with fail;all_goals go_ret
   all_goals first | exact ⟨rfl,BA.out⟩ | exact ⟨by simp;omega,BA.out⟩ | (exfalso;omega)
  obtain rfl:r=false:=(by rw [m1.out rfl];exact decide_eq_false (by omega));have R0:=Row.new w 61 [.int .i64 1,.int .u64 (seq:Int),.int .i64 at_,.slice a1 nh c1,.slice a2 nm c2,.int .u32 (sum:Int)] rfl;have BA:=hid ((Below.refl w.heap.size w).alloc (Nat.le_refl _) (.cells #[.int .i64 1,.int .u64 (seq:Int),.int .i64 at_,.slice a1 nh c1,.slice a2 nm c2,.int .u32 (sum:Int)] 61));have k0:=R0.cellAt 0 rfl;have k2:=R0.cellAt 2 rfl;have k3:=R0.cellAt 3 rfl;have k4:=R0.cellAt 4 rfl;have k5:=R0.cellAt 5 rfl;clear R0;clear m1 m2 m3 m4 m5 q24 q28 H;go_enter Tryz.func158,Tryz.ntmps158;go_wp2_with fail;all_goals go_ret
  all_goals first | exact ⟨rfl,BA.out⟩ | exact ⟨by simp;omega,BA.out⟩ | (exfalso;omega)
 by_cases e2:kind=2
 ·subst e2;by_cases c_at:at_=0
  ·subst c_at;by_cases c_sum:sum=0
   ·subst c_sum;cases hR:Rec.homesOk homes 24
    ·rw [hR] at q24;obtain rfl:r=false:=by rw [m2.out rfl,decide_eq_true (by omega),hR];rfl
     have R0:=Row.new w 61 [.int .i64 2,.int .u64 (seq:Int),.int .i64 0,.slice a1 nh c1,.slice a2 nm c2,.int .u32 0] rfl;have BA:=hid ((Below.refl w.heap.size w).alloc (Nat.le_refl _) (.cells #[.int .i64 2,.int .u64 (seq:Int),.int .i64 0,.slice a1 nh c1,.slice a2 nm c2,.int .u32 0] 61));have k0:=R0.cellAt 0 rfl;have k2:=R0.cellAt 2 rfl;have k3:=R0.cellAt 3 rfl;have k4:=R0.cellAt 4 rfl;have k5:=R0.cellAt 5 rfl;have Q:=hid (q24.out _ (H.out.below BA.out));clear R0;clear m1 m2 m3 m4 m5 q24 q28 H;go_enter Tryz.func158,Tryz.ntmps158;go_wp2_with (go_at_call 180;refine Q.out.mono ?_;rintro e w1 ⟨rfl,n,rfl⟩);all_goals go_ret
     all_goals first | exact ⟨rfl,below_drewN BA.out n⟩ | exact ⟨rfl,BA.out⟩ | (exfalso;omega)
    rw [hR] at q24;by_cases c_nm:nm=nh
    ·subst c_nm;obtain rfl:r=true:=by rw [m2.out rfl,decide_eq_true (by omega),hR,decide_eq_true rfl];rfl
     have R0:=Row.new w 61 [.int .i64 2,.int .u64 (seq:Int),.int .i64 0,.slice a1 nm c1,.slice a2 nm c2,.int .u32 0] rfl;have BA:=hid ((Below.refl w.heap.size w).alloc (Nat.le_refl _) (.cells #[.int .i64 2,.int .u64 (seq:Int),.int .i64 0,.slice a1 nm c1,.slice a2 nm c2,.int .u32 0] 61));have k0:=R0.cellAt 0 rfl;have k2:=R0.cellAt 2 rfl;have k3:=R0.cellAt 3 rfl;have k4:=R0.cellAt 4 rfl;have k5:=R0.cellAt 5 rfl;have Q:=hid (q24.out _ (H.out.below BA.out));clear R0;clear m1 m2 m3 m4 m5 q24 q28 H;go_enter Tryz.func158,Tryz.ntmps158;go_wp2_with (go_at_call 180;refine Q.out.mono ?_;rintro e w1 ⟨rfl,n,rfl⟩);all_goals go_ret
     all_goals first | exact ⟨rfl,below_drewN BA.out n⟩ | exact ⟨rfl,BA.out⟩ | (exfalso;omega)
    obtain rfl:r=false:=(by rw [m2.out rfl,decide_eq_true (by omega),hR,decide_eq_false (by omega)];rfl);have R0:=Row.new w 61 [.int .i64 2,.int .u64 (seq:Int),.int .i64 0,.slice a1 nh c1,.slice a2 nm c2,.int .u32 0] rfl;have BA:=hid ((Below.refl w.heap.size w).alloc (Nat.le_refl _) (.cells #[.int .i64 2,.int .u64 (seq:Int),.int .i64 0,.slice a1 nh c1,.slice a2 nm c2,.int .u32 0] 61));have k0:=R0.cellAt 0 rfl;have k2:=R0.cellAt 2 rfl;have k3:=R0.cellAt 3 rfl;have k4:=R0.cellAt 4 rfl;have k5:=R0.cellAt 5 rfl;have Q:=hid (q24.out _ (H.out.below BA.out));clear R0;clear m1 m2 m3 m4 m5 q24 q28 H;go_enter Tryz.func158,Tryz.ntmps158;go_wp2_with (go_at_call 180;refine Q.out.mono ?_;rintro e w1 ⟨rfl,n,rfl⟩);all_goals go_ret
    all_goals first | exact ⟨rfl,below_drewN BA.out n⟩ | exact ⟨rfl,BA.out⟩ | (exfalso;omega)
   obtain rfl:r=false:=(by rw [m2.out rfl,decide_eq_false (by omega)];rfl);have R0:=Row.new w 61 [.int .i64 2,.int .u64 (seq:Int),.int .i64 0,.slice a1 nh c1,.slice a2 nm c2,.int .u32 (sum:Int)] rfl;have BA:=hid ((Below.refl w.heap.size w).alloc (Nat.le_refl _) (.cells #[.int .i64 2,.int .u64 (seq:Int),.int .i64 0,.slice a1 nh c1,.slice a2 nm c2,.int .u32 (sum:Int)] 61));have k0:=R0.cellAt 0 rfl;have k2:=R0.cellAt 2 rfl;have k3:=R0.cellAt 3 rfl;have k4:=R0.cellAt 4 rfl;have k5:=R0.cellAt 5 rfl;clear R0;clear m1 m2 m3 m4 m5 q24 q28 H;go_enter Tryz.func158,Tryz.ntmps158;go_wp2_with fail;all_goals go_ret
   all_goals first | exact ⟨rfl,BA.out⟩ | exact ⟨by simp;omega,BA.out⟩ | (exfalso;omega)
  obtain rfl:r=false:=(by rw [m2.out rfl,decide_eq_false (by omega)];rfl);have R0:=Row.new w 61 [.int .i64 2,.int .u64 (seq:Int),.int .i64 at_,.slice a1 nh c1,.slice a2 nm c2,.int .u32 (sum:Int)] rfl;have BA:=hid ((Below.refl w.heap.size w).alloc (Nat.le_refl _) (.cells #[.int .i64 2,.int .u64 (seq:Int),.int .i64 at_,.slice a1 nh c1,.slice a2 nm c2,.int .u32 (sum:Int)] 61));have k0:=R0.cellAt 0 rfl;have k2:=R0.cellAt 2 rfl;have k3:=R0.cellAt 3 rfl;have k4:=R0.cellAt 4 rfl;have k5:=R0.cellAt 5 rfl;clear R0;clear m1 m2 m3 m4 m5 q24 q28 H;go_enter Tryz.func158,Tryz.ntmps158;go_wp2_with fail;all_goals go_ret
  all_goals first | exact ⟨rfl,BA.out⟩ | exact ⟨by simp;omega,BA.out⟩ | (exfalso;omega)
 by_cases e3:kind=3
 ·subst e3;by_cases c_at:at_=0
  ·subst c_at;by_cases c_sum:sum=0
   ·subst c_sum;cases hR:Rec.homesOk homes 28
    ·rw [hR] at q28;obtain rfl:r=false:=by rw [m3.out rfl,decide_eq_true (by omega),hR];rfl
     have R0:=Row.new w 61 [.int .i64 3,.int .u64 (seq:Int),.int .i64 0,.slice a1 nh c1,.slice a2 nm c2,.int .u32 0] rfl;have BA:=hid ((Below.refl w.heap.size w).alloc (Nat.le_refl _) (.cells #[.int .i64 3,.int .u64 (seq:Int),.int .i64 0,.slice a1 nh c1,.slice a2 nm c2,.int .u32 0] 61));have k0:=R0.cellAt 0 rfl;have k2:=R0.cellAt 2 rfl;have k3:=R0.cellAt 3 rfl;have k4:=R0.cellAt 4 rfl;have k5:=R0.cellAt 5 rfl;have Q:=hid (q28.out _ (H.out.below BA.out));clear R0;clear m1 m2 m3 m4 m5 q24 q28 H;go_enter Tryz.func158,Tryz.ntmps158;go_wp2_with (go_at_call 180;refine Q.out.mono ?_;rintro e w1 ⟨rfl,n,rfl⟩);all_goals go_ret
     all_goals first | exact ⟨rfl,below_drewN BA.out n⟩ | exact ⟨rfl,BA.out⟩ | (exfalso;omega)
    rw [hR] at q28;by_cases c_nm:nm=0
    ·subst c_nm;obtain rfl:r=true:=by rw [m3.out rfl,decide_eq_true (by omega),hR,decide_eq_true rfl];rfl
     have R0:=Row.new w 61 [.int .i64 3,.int .u64 (seq:Int),.int .i64 0,.slice a1 nh c1,.slice a2 0 c2,.int .u32 0] rfl;have BA:=hid ((Below.refl w.heap.size w).alloc (Nat.le_refl _) (.cells #[.int .i64 3,.int .u64 (seq:Int),.int .i64 0,.slice a1 nh c1,.slice a2 0 c2,.int .u32 0] 61));have k0:=R0.cellAt 0 rfl;have k2:=R0.cellAt 2 rfl;have k3:=R0.cellAt 3 rfl;have k4:=R0.cellAt 4 rfl;have k5:=R0.cellAt 5 rfl;have Q:=hid (q28.out _ (H.out.below BA.out));clear R0;clear m1 m2 m3 m4 m5 q24 q28 H;go_enter Tryz.func158,Tryz.ntmps158;go_wp2_with (go_at_call 180;refine Q.out.mono ?_;rintro e w1 ⟨rfl,n,rfl⟩);all_goals go_ret
     all_goals first | exact ⟨rfl,below_drewN BA.out n⟩ | exact ⟨rfl,BA.out⟩ | (exfalso;omega)
    obtain rfl:r=false:=(by rw [m3.out rfl,decide_eq_true (by omega),hR,decide_eq_false (by omega)];rfl);have R0:=Row.new w 61 [.int .i64 3,.int .u64 (seq:Int),.int .i64 0,.slice a1 nh c1,.slice a2 nm c2,.int .u32 0] rfl;have BA:=hid ((Below.refl w.heap.size w).alloc (Nat.le_refl _) (.cells #[.int .i64 3,.int .u64 (seq:Int),.int .i64 0,.slice a1 nh c1,.slice a2 nm c2,.int .u32 0] 61));have k0:=R0.cellAt 0 rfl;have k2:=R0.cellAt 2 rfl;have k3:=R0.cellAt 3 rfl;have k4:=R0.cellAt 4 rfl;have k5:=R0.cellAt 5 rfl;have Q:=hid (q28.out _ (H.out.below BA.out));clear R0;clear m1 m2 m3 m4 m5 q24 q28 H;go_enter Tryz.func158,Tryz.ntmps158;go_wp2_with (go_at_call 180;refine Q.out.mono ?_;rintro e w1 ⟨rfl,n,rfl⟩);all_goals go_ret
    all_goals first | exact ⟨rfl,below_drewN BA.out n⟩ | exact ⟨rfl,BA.out⟩ | (exfalso;omega)
   obtain rfl:r=false:=(by rw [m3.out rfl,decide_eq_false (by omega)];rfl);have R0:=Row.new w 61 [.int .i64 3,.int .u64 (seq:Int),.int .i64 0,.slice a1 nh c1,.slice a2 nm c2,.int .u32 (sum:Int)] rfl;have BA:=hid ((Below.refl w.heap.size w).alloc (Nat.le_refl _) (.cells #[.int .i64 3,.int .u64 (seq:Int),.int .i64 0,.slice a1 nh c1,.slice a2 nm c2,.int .u32 (sum:Int)] 61));have k0:=R0.cellAt 0 rfl;have k2:=R0.cellAt 2 rfl;have k3:=R0.cellAt 3 rfl;have k4:=R0.cellAt 4 rfl;have k5:=R0.cellAt 5 rfl;clear R0;clear m1 m2 m3 m4 m5 q24 q28 H;go_enter Tryz.func158,Tryz.ntmps158;go_wp2_with fail;all_goals go_ret
   all_goals first | exact ⟨rfl,BA.out⟩ | exact ⟨by simp;omega,BA.out⟩ | (exfalso;omega)
  obtain rfl:r=false:=(by rw [m3.out rfl,decide_eq_false (by omega)];rfl);have R0:=Row.new w 61 [.int .i64 3,.int .u64 (seq:Int),.int .i64 at_,.slice a1 nh c1,.slice a2 nm c2,.int .u32 (sum:Int)] rfl;have BA:=hid ((Below.refl w.heap.size w).alloc (Nat.le_refl _) (.cells #[.int .i64 3,.int .u64 (seq:Int),.int .i64 at_,.slice a1 nh c1,.slice a2 nm c2,.int .u32 (sum:Int)] 61));have k0:=R0.cellAt 0 rfl;have k2:=R0.cellAt 2 rfl;have k3:=R0.cellAt 3 rfl;have k4:=R0.cellAt 4 rfl;have k5:=R0.cellAt 5 rfl;clear R0;clear m1 m2 m3 m4 m5 q24 q28 H;go_enter Tryz.func158,Tryz.ntmps158;go_wp2_with fail;all_goals go_ret
  all_goals first | exact ⟨rfl,BA.out⟩ | exact ⟨by simp;omega,BA.out⟩ | (exfalso;omega)
 by_cases e4:kind=4
 ·subst e4;by_cases c_at:at_=0
  ·subst c_at;by_cases c_nh:nh=0
   ·subst c_nh;by_cases c_nm:nm=0
    ·subst c_nm;obtain rfl:r=true:=by rw [m4.out rfl];exact decide_eq_true (by omega)
     have R0:=Row.new w 61 [.int .i64 4,.int .u64 (seq:Int),.int .i64 0,.slice a1 0 c1,.slice a2 0 c2,.int .u32 (sum:Int)] rfl;have BA:=hid ((Below.refl w.heap.size w).alloc (Nat.le_refl _) (.cells #[.int .i64 4,.int .u64 (seq:Int),.int .i64 0,.slice a1 0 c1,.slice a2 0 c2,.int .u32 (sum:Int)] 61));have k0:=R0.cellAt 0 rfl;have k2:=R0.cellAt 2 rfl;have k3:=R0.cellAt 3 rfl;have k4:=R0.cellAt 4 rfl;have k5:=R0.cellAt 5 rfl;clear R0;clear m1 m2 m3 m4 m5 q24 q28 H;go_enter Tryz.func158,Tryz.ntmps158;go_wp2_with fail;all_goals go_ret
     all_goals first | exact ⟨rfl,BA.out⟩ | exact ⟨by simp;omega,BA.out⟩ | (exfalso;omega)
    obtain rfl:r=false:=(by rw [m4.out rfl];exact decide_eq_false (by omega));have R0:=Row.new w 61 [.int .i64 4,.int .u64 (seq:Int),.int .i64 0,.slice a1 0 c1,.slice a2 nm c2,.int .u32 (sum:Int)] rfl;have BA:=hid ((Below.refl w.heap.size w).alloc (Nat.le_refl _) (.cells #[.int .i64 4,.int .u64 (seq:Int),.int .i64 0,.slice a1 0 c1,.slice a2 nm c2,.int .u32 (sum:Int)] 61));have k0:=R0.cellAt 0 rfl;have k2:=R0.cellAt 2 rfl;have k3:=R0.cellAt 3 rfl;have k4:=R0.cellAt 4 rfl;have k5:=R0.cellAt 5 rfl;clear R0;clear m1 m2 m3 m4 m5 q24 q28 H;go_enter Tryz.func158,Tryz.ntmps158;go_wp2_with fail;all_goals go_ret
    all_goals first | exact ⟨rfl,BA.out⟩ | exact ⟨by simp;omega,BA.out⟩ | (exfalso;omega)
   obtain rfl:r=false:=(by rw [m4.out rfl];exact decide_eq_false (by omega));have R0:=Row.new w 61 [.int .i64 4,.int .u64 (seq:Int),.int .i64 0,.slice a1 nh c1,.slice a2 nm c2,.int .u32 (sum:Int)] rfl;have BA:=hid ((Below.refl w.heap.size w).alloc (Nat.le_refl _) (.cells #[.int .i64 4,.int .u64 (seq:Int),.int .i64 0,.slice a1 nh c1,.slice a2 nm c2,.int .u32 (sum:Int)] 61));have k0:=R0.cellAt 0 rfl;have k2:=R0.cellAt 2 rfl;have k3:=R0.cellAt 3 rfl;have k4:=R0.cellAt 4 rfl;have k5:=R0.cellAt 5 rfl;clear R0;clear m1 m2 m3 m4 m5 q24 q28 H;go_enter Tryz.func158,Tryz.ntmps158;go_wp2_with fail;all_goals go_ret
   all_goals first | exact ⟨rfl,BA.out⟩ | exact ⟨by simp;omega,BA.out⟩ | (exfalso;omega)
  obtain rfl:r=false:=(by rw [m4.out rfl];exact decide_eq_false (by omega));have R0:=Row.new w 61 [.int .i64 4,.int .u64 (seq:Int),.int .i64 at_,.slice a1 nh c1,.slice a2 nm c2,.int .u32 (sum:Int)] rfl;have BA:=hid ((Below.refl w.heap.size w).alloc (Nat.le_refl _) (.cells #[.int .i64 4,.int .u64 (seq:Int),.int .i64 at_,.slice a1 nh c1,.slice a2 nm c2,.int .u32 (sum:Int)] 61));have k0:=R0.cellAt 0 rfl;have k2:=R0.cellAt 2 rfl;have k3:=R0.cellAt 3 rfl;have k4:=R0.cellAt 4 rfl;have k5:=R0.cellAt 5 rfl;clear R0;clear m1 m2 m3 m4 m5 q24 q28 H;go_enter Tryz.func158,Tryz.ntmps158;go_wp2_with fail;all_goals go_ret
  all_goals first | exact ⟨rfl,BA.out⟩ | exact ⟨by simp;omega,BA.out⟩ | (exfalso;omega)
 obtain rfl:r=false:=m5.out e1 e2 e3 e4
 have b1:(kind == 1)=false:=by rw [beq_eq_false_iff_ne];exact e1
 have b2:(kind == 2)=false:=by rw [beq_eq_false_iff_ne];exact e2
 have b3:(kind == 3)=false:=by rw [beq_eq_false_iff_ne];exact e3
 have b4:(kind == 4)=false:=by rw [beq_eq_false_iff_ne];exact e4
 clear e1 e2 e3 e4
 have R0:=Row.new w 61 [.int .i64 kind,.int .u64 (seq:Int),.int .i64 at_,.slice a1 nh c1,.slice a2 nm c2,.int .u32 (sum:Int)] rfl
 have BA:=hid ((Below.refl w.heap.size w).alloc (Nat.le_refl _) (.cells #[.int .i64 kind,.int .u64 (seq:Int),.int .i64 at_,.slice a1 nh c1,.slice a2 nm c2,.int .u32 (sum:Int)] 61))
 have k0:=R0.cellAt 0 rfl
 have k2:=R0.cellAt 2 rfl
 have k3:=R0.cellAt 3 rfl
 have k4:=R0.cellAt 4 rfl
 have k5:=R0.cellAt 5 rfl
 clear R0
 clear m1 m2 m3 m4 m5 q24 q28 H
 go_enter Tryz.func158,Tryz.ntmps158
 go_wp2_with fail
 all_goals go_ret
 all_goals first | exact ⟨rfl,BA.out⟩ | exact ⟨by simp;omega,BA.out⟩ | (exfalso;omega)
theorem head_put (x:Rec.V) (hk:0<=x.kind/\x.kind<=4):(Rec.magic ++ le 1 x.kind.toNat) ++ le 8 x.seq=Rec.head x:=by
 have h3:le 1 x.kind.toNat = [UInt8.ofNat x.kind.toNat]:=by
  have:x.kind.toNat % 256=x.kind.toNat:=(by omega);simp [le,this]
 unfold Rec.head;rw [h3,List.append_assoc]
theorem enc_tail (x:Rec.V) (b:Bytes) (h:b=Rec.body x) (hb:b.length<=73):txt (Rec.head x ++ b) ++ txt (List.replicate (128 - (txt (Rec.head x ++ b)).size) 0)=txt (Rec.rb x):=by
 rw [rtxt_append,txt_size,List.length_append,Rec.head_length];subst h;unfold Rec.rb;rw [List.append_assoc,show 128 - (13+(Rec.body x).length)=115 - (Rec.body x).length by omega]
theorem zmakeS (T:ByteArray) (h:T.size<=128) (w:World):(Instr.makeSlice 94 (.int .i64 (128 - (T.size:Int))) (.int .i64 (128 - (T.size:Int)))).run Tryz.prog w=.ok (.slice (some ⟨w.heap.size,0,none⟩) (128 - T.size) (128 - T.size)) (w.alloc (.cells (bcells (List.replicate (128 - T.size) 0)).toArray 5)):=by
 have:=zmake (128 - T.size) (by omega) w;rwa [show (((128 - T.size:Nat)):Int)=128 - (T.size:Int) by omega] at this
theorem hb1 (l:List Int) (j:Nat) (h:j < l.length) (P:Bytes):(P ++ Rec.hb (l.take j)) ++ le 2 (l.getD j 0).toNat=P ++ Rec.hb (l.take (j+1)):=by
 rw [hb_take l j h,List.append_assoc]
theorem mb1 (l:List Bool) (j:Nat) (h:j < l.length) (P:Bytes):txt (P ++ Rec.mb (l.take j)) ++ (if l.getD j false=true then ⟨#[1]⟩ else ⟨#[0]⟩)=txt (P ++ Rec.mb (l.take (j+1))):=by
 rw [mb_take l j h,<- List.append_assoc,<- rtxt_append];congr 1;cases l.getD j false <;> rfl
theorem dencode_any (v:Value) (x:Rec.V) (w:World) (h:RecAt w v x) :
  Calls Tryz.prog 132 #[v] w fun e w'=>e=.returned (.tuple #[.string (txt (Rec.encR x).1),.int .i64 (Rec.encR x).2])/\Below w.heap.size w w':=by
 have hmay:=fun w h=>drecmay_any v x w h
 have H0:=h
 obtain ⟨⟨hv,mv,rfl,hh,hm⟩,hq,hs,hk,ha,hl1,hl2⟩:=h
 obtain ⟨a1,c1,rfl⟩:=hh.form
 obtain ⟨a2,c2,rfl⟩:=hm.form
 have R0:=Row.new w 61 [.int .i64 x.kind,.int .u64 (x.seq:Int),.int .i64 x.at_,.slice a1 x.homes.length c1,.slice a2 x.masked.length c2,.int .u32 (x.sum:Int)] rfl
 have BA:=hid ((Below.refl w.heap.size w).alloc (Nat.le_refl _) (.cells #[.int .i64 x.kind,.int .u64 (x.seq:Int),.int .i64 x.at_,.slice a1 x.homes.length c1,.slice a2 x.masked.length c2,.int .u32 (x.sum:Int)] 61))
 have Q:=hmay _ (H0.below BA.out)
 have HI:=hid (hh.below BA.out)
 have HF:=hid (hm.below BA.out)
 have HR:=hid R0
 obtain ⟨q0,q1,q2,q3,q4,q5⟩:=R0.c6
 unfold Rec.encR
 by_cases k:Rec.may x=true
 case neg =>
  rw [if_neg k];rw [Bool.eq_false_iff.2 k] at Q;have HQ:=hid Q;clear Q k R0 hh hm H0 hmay HI HF;go_enter Tryz.func132,Tryz.ntmps132;go_wp2_with fail;refine HQ.out.mono ?_;rintro e w1 ⟨rfl,hb1⟩;go_wp2_with fail;go_ret2;exact ⟨rfl,below_next BA.out hb1⟩
 rw [if_pos k]
 obtain ⟨T,hT⟩:∃ T,T=txt (Rec.rb x):=⟨_,rfl⟩
 show Calls Tryz.prog _ _ w fun e w'=>e=.returned (.tuple #[.string (txt (Rec.rb x)),.int .i64 0])/\Below w.heap.size w w'
 rw [<- hT]
 have HT:=hid hT
 clear hT
 rw [k] at Q
 have HQ:=hid Q
 have KS:=hid (Rec.may_cases k)
 have hk4:0<=x.kind/\x.kind<=4:=by rcases Rec.may_cases k with h | h | h | h <;> omega
 have HB:=hid (Rec.body_length k)
 have Hhead:=hid (head_put x hk4)
 have p1:Hid (∀ w,Calls Tryz.prog 159 #[.string ⟨#[71,76,74,119]⟩,.int .i64 1,.int .u64 ((x.kind.toNat:Nat):Int)] w fun e w'=>e=.returned (.string (txt (Rec.magic ++ le 1 x.kind.toNat)))/\Below w.heap.size w w'):=hid (fun w=>dput_any Rec.magic 1 x.kind.toNat (.inl rfl) (by omega) (by decide) w)
 have p2:=hid (fun w=>dput_any (Rec.magic ++ le 1 x.kind.toNat) 8 x.seq (.inr (.inr (.inr rfl))) (by omega) (by rw [List.length_append,le_length];decide) w)
 rw [Hhead.out] at p2
 replace p2:Hid (∀ w,Calls Tryz.prog 159 #[.string (txt (Rec.magic ++ le 1 x.kind.toNat)),.int .i64 8,.int .u64 (x.seq:Int)] w fun e w'=>e=.returned (.string (txt (Rec.head x)))/\Below w.heap.size w w'):=p2
 generalize txt (Rec.magic ++ le 1 x.kind.toNat)=MK at *
 have hkw:IntKind.u64.wrap x.kind=((x.kind.toNat:Nat):Int):=by rw [u64_wrap_lo (by omega) (by omega)];omega
 have hP:Hid (∀ (b:Bytes) (k n:Nat),SizeOk k->n < 256 ^ k->b.length<=1000000->∀ w,Calls Tryz.prog 159 #[.string (txt b),.int .i64 (k:Int),.int .u64 (n:Int)] w fun e w'=>e=.returned (.string (txt (b ++ le k n)))/\Below w.heap.size w w'):=hid (fun b k n h1 h2 h3 w=>dput_any b k n h1 h2 h3 w)
 have KX:=HR.out.lt
 obtain ⟨KN,hKN⟩:∃ KN,x.kind.toNat=KN:=⟨_,rfl⟩
 rw [hKN] at p1 hkw
 clear hKN
 clear Q k R0 hh hm H0 hmay Hhead
 go_enter Tryz.func132,Tryz.ntmps132
 go_wp2_with fail
 generalize w.alloc _=w0 at *
 refine HQ.out.mono ?_
 rintro e w1 ⟨rfl,hb1⟩
 have R1:=HR.out.below hb1 KX
 have r0:=R1.cellAt 0 rfl
 have r1:=R1.cellAt 1 rfl
 have HR1:=hid R1
 have hX1:=R1.lt
 have B1:=hid (below_next BA.out hb1)
 have HI1:=hid (HI.out.below hb1)
 have HF1:=hid (HF.out.below hb1)
 clear q0 q1 q2 q3 q4 q5 HQ HR R1 BA HI HF hb1
 go_wp2_with fail
 go_region_held3 (fun w'=>w'.cell? ⟨w.heap.size,0,none⟩=some (.int .i64 x.kind)/\w'.cell? ⟨w.heap.size,1,none⟩=some (.int .u64 (x.seq:Int)))
  (first | exact ⟨r0,r1⟩ | exact ⟨s0,s1⟩ | exact ⟨t0,t1⟩)
  (first | (go_at_call 159;(with_reducible refine (p1.out _).mono ?_);rintro e w2 ⟨rfl,hb2'⟩;have hb2:Below w1.heap.size w1 w2:=⟨hb2'.os,hb2'.tape,hb2'.output,hb2'.size,hb2'.block⟩;have s0:=(hb2.cell (p:=⟨w.heap.size,0,none⟩) hX1).trans r0;have s1:=(hb2.cell (p:=⟨w.heap.size,1,none⟩) hX1).trans r1) | (go_at_call 159;(with_reducible refine (p2.out _).mono ?_);rintro e w3 ⟨rfl,hb3'⟩;have hb3:Below w2.heap.size w2 w3:=⟨hb3'.os,hb3'.tape,hb3'.output,hb3'.size,hb3'.block⟩;have t0:=(hb3.cell (p:=⟨w.heap.size,0,none⟩) (Nat.lt_of_lt_of_le hX1 hb2.size)).trans s0;have t1:=(hb3.cell (p:=⟨w.heap.size,1,none⟩) (Nat.lt_of_lt_of_le hX1 hb2.size)).trans s1) | fail "none")
 have hB3:=hid (hb2.trans (hb3.mono hb2.size))
 have B3:=hid (below_next B1.out hB3.out)
 have R3:=HR1.out.below hB3.out hX1
 have HI3:=hid (HI1.out.below hB3.out)
 have HF3:=hid (HF1.out.below hB3.out)
 have HR3:=hid R3
 have x0:=R3.cellAt 0 rfl
 have x2:=R3.cellAt 2 rfl
 have x3:=R3.cellAt 3 rfl
 have x4:=R3.cellAt 4 rfl
 have x5:=R3.cellAt 5 rfl
 have hX3:=R3.lt
 clear hb2 hb3 hb2' hb3' r0 r1 s0 s1 t0 t1 HR1 HI1 HF1 B1 hX1 hB3 R3 p1 p2 hkw
 have hT3:Hid (∀ (b:Bytes),b=Rec.body x->b.length<=73/\txt (Rec.head x ++ b) ++ txt (List.replicate (128 - (txt (Rec.head x ++ b)).size) 0)=T):=hid (fun b hb=>by
  have hl:b.length<=73:=(by rw [hb];exact HB.out);exact ⟨hl,by rw [HT.out];exact enc_tail x b hb hl⟩)
 have hHL:=Rec.head_length x
 have HKS:=KS.out
 clear KS HB HT
 rcases HKS with ⟨k,h0,h1,h2,h3,h4⟩ | ⟨k,h0,h1,h2,h3,h4,h5⟩ | ⟨k,h0,h1,h2,h3,h4,h5⟩ | ⟨k,h0,h1,h2⟩
 ·obtain ⟨xk,xq,xa,xh,xm,xs⟩:=x;dsimp only at *;subst k h2 h3 h4;obtain ⟨na,rfl⟩:∃ na:Nat,xa=(na:Int):=⟨xa.toNat,by omega⟩;obtain ⟨HD,hHD⟩:∃ HD,Rec.head ⟨1,xq,(na:Int),[],[],0⟩=HD:=⟨_,rfl⟩;rw [hHD] at hT3 hHL ⊢;clear hHD;have p3:=hid (fun w=>hP.out HD 2 na (.inr (.inl rfl)) (by omega) (by rw [hHL];decide) w);obtain ⟨hl,hT4⟩:=hT3.out (le 2 na) (by unfold Rec.body;rfl);have haw:IntKind.u64.wrap (na:Int)=(na:Int):=u64_wrap_lo (by omega) (by omega);have hSZ:(txt (HD ++ le 2 na)).size<=128:=(by rw [txt_size,List.length_append,hHL,le_length];omega);have hHT:=hid hT4;replace p3:Hid (∀ w,Calls Tryz.prog 159 #[.string (txt HD),.int .i64 2,.int .u64 ((na:Nat):Int)] w fun e w'=>e=.returned (.string (txt (HD ++ le 2 na)))/\Below w.heap.size w w'):=p3;generalize txt (HD ++ le 2 na)=S at *;generalize txt HD=SH at *;clear hT4 hT3 hHL hl hP;go_wp2_with fail;(with_reducible refine (p3.out _).mono ?_);rintro e w4 ⟨rfl,hb4⟩;have R4:=HR3.out.below hb4 hX3;have y0:=R4.cellAt 0 rfl;have y3:=R4.cellAt 3 rfl;have y4:=R4.cellAt 4 rfl;have B4:=hid (below_next B3.out hb4);clear x0 x2 x3 x4 x5 R4 hb4;go_wp2_with fail;refine wp_loop_rounds 1 ?_;rw [rounds_succ];go_wp2_with fail;refine wp_loop_rounds 1 ?_;rw [rounds_succ];go_upto_region 20 with fail;clear y0 y3 y4;have hmk:=zmakeS S hSZ w4;have hst:=zstring (128 - S.size) w4;have hzs:(txt (List.replicate (128 - S.size) 0)).size=128 - S.size:=(by rw [txt_size];simp);have hcat:¬ 9223372036854775807 < S.size+(txt (List.replicate (128 - S.size) 0)).size:=(by rw [hzs];omega);have BF:=hid (below_box B4.out (.cells (bcells (List.replicate (128 - S.size) 0)).toArray 5));have hsw:IntKind.i64.wrap (128 - (S.size:Int))=128 - (S.size:Int):=IntWalk.i64_in _ (by omega);clear hzs;generalize txt (List.replicate (128 - S.size) 0)=Z at *;generalize w4.alloc (.cells (bcells (List.replicate (128 - S.size) 0)).toArray 5)=wF at *;go_wp2_with fail;go_ret2;first | exact ⟨rfl,BF.out⟩ | exact ⟨by rw [hHT.out];rfl,BF.out⟩
 ·obtain ⟨xk,xq,xa,xh,xm,xs⟩:=x;dsimp only at *;subst k h0 h1;obtain ⟨HD,hHD⟩:∃ HD,Rec.head ⟨2,xq,0,xh,xm,0⟩=HD:=⟨_,rfl⟩;rw [hHD] at hT3 hHL ⊢;clear hHD;have hrm:=hid (Rec.rises_mem h2);clear h2;obtain ⟨hl,hT4⟩:=hT3.out ([UInt8.ofNat xh.length] ++ (Rec.hb xh ++ Rec.mb xm)) (by unfold Rec.body;rfl);have hSe:=hid (show HD ++ ([UInt8.ofNat xh.length] ++ (Rec.hb xh ++ Rec.mb xm))=((HD ++ le 1 xh.length) ++ Rec.hb xh) ++ Rec.mb xm by
   have h3:le 1 xh.length = [UInt8.ofNat xh.length]:=by
    have:xh.length % 256=xh.length:=(by omega);simp [le,this]
   rw [h3];simp only [List.append_assoc])
  rw [hSe.out] at hT4;have hHT:=hid hT4;have haw:IntKind.u64.wrap (xh.length:Int)=(xh.length:Int):=u64_wrap_lo (by omega) (by omega);have hpos:(0:Int) < (xh.length:Int):=by omega
  have p3:Hid (∀ w,Calls Tryz.prog 159 #[.string (txt HD),.int .i64 1,.int .u64 (xh.length:Int)] w fun e w'=>e=.returned (.string (txt (HD ++ le 1 xh.length)))/\Below w.heap.size w w'):=hid (fun w=>hP.out HD 1 xh.length (.inl rfl) (by omega) (by rw [hHL];decide) w);have hPL:=hid (show (HD ++ le 1 xh.length).length=14 by rw [List.length_append,hHL,le_length]);generalize HD ++ le 1 xh.length=PP at *;generalize txt HD=SH at *;clear hT4 hT3 hHL hl hSe;go_wp2_with fail;(with_reducible refine (p3.out _).mono ?_);rintro e w4 ⟨rfl,hb4⟩;have HR4:=hid (HR3.out.below hb4 hX3);have HI4:=hid (HI3.out.below hb4);have HF4:=hid (HF3.out.below hb4);have B4:=hid (below_next B3.out hb4);have hX4:=HR4.out.lt;clear x0 x2 x3 x4 x5 hb4 HR3 HI3 HF3 B3 hX3 p3;go_wp2_with fail;go_loopw [4,5] (fun u q wr=>∃ j:Nat,j<=xh.length/\q=.int .i64 j/\u=.string (txt (PP ++ Rec.hb (xh.take j)))/\Hid (Below w4.heap.size w4 wr)) (fun _ q _=>xh.length - (intOf q).toNat);case atStart=>exact ⟨0,by omega,rfl,by rw [List.take_zero];show _=Value.string (txt (PP ++ []));rw [List.append_nil],hid (Below.refl _ _)⟩
  case round =>
   obtain ⟨j,hj,rfl,rfl,hbw⟩:=hrel;have HRw:=hid (HR4.out.below hbw.out hX4);have y3:=HRw.out.cellAt 3 rfl;by_cases hlt:j < xh.length
   ·have i0:(0:Int)<=(j:Int):=(by omega);have i1:(j:Int) < (xh.length:Int):=(by omega);obtain ⟨g,off,rfl,c0⟩:=(HI4.out.below hbw.out).cells j hlt;have hmem:=Rec.blockOk_iff.1 (hrm.out (xh.getD j 0) (by rw [List.getD_eq_getElem?_getD,List.getElem?_eq_getElem hlt];exact List.getElem_mem hlt));have hnext:=hid (hb1 xh j hlt PP);obtain ⟨nx,hnx⟩:∃ nx:Nat,xh.getD j 0=(nx:Int):=⟨(xh.getD j 0).toNat,by omega⟩;rw [hnx] at c0 hmem hnext;have hnext':=hid (show PP ++ Rec.hb (xh.take j) ++ le 2 nx=PP ++ Rec.hb (xh.take (j+1)) from hnext.out);have hln:=hid (show (PP ++ Rec.hb (xh.take j)).length<=1000000 by rw [List.length_append,hPL.out,Rec.hb_length,List.length_take];omega);have hnw:IntKind.u64.wrap (nx:Int)=(nx:Int):=u64_wrap_lo (by omega) (by omega);have pj:=hid (fun w=>hP.out (PP ++ Rec.hb (xh.take j)) 2 nx (.inr (.inl rfl)) (by omega) hln.out w);rw [hnext'.out] at pj;replace pj:Hid (∀ w,Calls Tryz.prog 159 #[.string (txt (PP ++ Rec.hb (xh.take j))),.int .i64 2,.int .u64 (nx:Int)] w fun e w'=>e=.returned (.string (txt (PP ++ Rec.hb (xh.take (j+1)))))/\Below w.heap.size w w'):=pj;obtain ⟨SJ,hSJ⟩:∃ SJ,txt (PP ++ Rec.hb (xh.take (j+1)))=SJ:=⟨_,rfl⟩;rw [hSJ] at pj;have HSJ:=hid hSJ;generalize txt (PP ++ Rec.hb (xh.take j))=S0 at *;clear hSJ hnx hnext hnext' hln hmem;go_wp2_with fail;(with_reducible refine (pj.out _).mono ?_);rintro e w5 ⟨rfl,hb5⟩;have B5:=hid (below_next hbw.out hb5);clear hb5;go_wp2_with fail;go_roundw;case rel=>exact ⟨j+1,by omega,by go_num,by rw [HSJ.out],B5⟩
    case measure=>simp [intOf];omega
   obtain rfl:j=xh.length:=(by omega);rw [List.take_length];have HFw:=hid (HF4.out.below hbw.out);have Bw:=hid (below_next B4.out hbw.out);have y4:=HRw.out.cellAt 4 rfl;have hQL:=hid (show (PP ++ Rec.hb xh).length<=70 by rw [List.length_append,hPL.out,Rec.hb_length];omega);generalize PP ++ Rec.hb xh=QQ at *;clear hlt hj;go_wp2_with fail;rename World=>wB
   go_loop [4,6] (fun u q=>∃ j:Nat,j<=xm.length/\q=.int .i64 j/\u=.string (txt (QQ ++ Rec.mb (xm.take j)))) (fun _ q=>xm.length - (intOf q).toNat);case atStart=>exact ⟨0,by omega,rfl,by rw [List.take_zero];show _=Value.string (txt (QQ ++ []));rw [List.append_nil]⟩
   case round =>
    obtain ⟨j,hj,rfl,rfl⟩:=hrel;by_cases hlt:j < xm.length
    ·have i0:(0:Int)<=(j:Int):=(by omega);have i1:(j:Int) < (xm.length:Int):=(by omega);obtain ⟨g,off,rfl,c0⟩:=HFw.out.cells j hlt;have hnext:=hid (mb1 xm j hlt QQ);have hsz0:(txt (QQ ++ Rec.mb (xm.take j))).size<=1000:=(by rw [txt_size,List.length_append,Rec.mb_length,List.length_take];have:=hQL.out;omega);have hsz1:¬ 9223372036854775807 < (txt (QQ ++ Rec.mb (xm.take j))).size+1:=(by omega);have hsz2:¬ 9223372036854775807 < (txt (QQ ++ Rec.mb (xm.take j))).size+(⟨#[1]⟩:ByteArray).size:=(by show ¬ _ < _+1;omega);have hsz3:¬ 9223372036854775807 < (txt (QQ ++ Rec.mb (xm.take j))).size+(⟨#[0]⟩:ByteArray).size:=(by show ¬ _ < _+1;omega);obtain ⟨SJ,hSJ⟩:∃ SJ,txt (QQ ++ Rec.mb (xm.take (j+1)))=SJ:=⟨_,rfl⟩;rw [hSJ] at hnext;have HSJ:=hid hSJ;generalize txt (QQ ++ Rec.mb (xm.take j))=S0 at *;clear hSJ;generalize xm.getD j false=bb at *;cases bb
     ·have hn2:=hid (show S0 ++ (⟨#[0]⟩:ByteArray)=SJ from hnext.out);clear hnext;go_wp2_with fail;go_round;case rel=>exact ⟨j+1,by omega,by go_num,by rw [hn2.out,HSJ.out]⟩
      case measure=>simp [intOf];omega
     have hn2:=hid (show S0 ++ (⟨#[1]⟩:ByteArray)=SJ from hnext.out);clear hnext;go_wp2_with fail;go_round;case rel=>exact ⟨j+1,by omega,by go_num,by rw [hn2.out,HSJ.out]⟩
     case measure=>simp [intOf];omega
    obtain rfl:j=xm.length:=(by omega);rw [List.take_length];have hSZ:(txt (QQ ++ Rec.mb xm)).size<=128:=(by rw [txt_size,List.length_append,Rec.mb_length];have:=hQL.out;omega);generalize txt (QQ ++ Rec.mb xm)=S at *;clear hlt hj;go_upto_region 20 with fail;clear y3 y4;have hmk:=zmakeS S hSZ wB;have hst:=zstring (128 - S.size) wB;have hzs:(txt (List.replicate (128 - S.size) 0)).size=128 - S.size:=(by rw [txt_size];simp);have hcat:¬ 9223372036854775807 < S.size+(txt (List.replicate (128 - S.size) 0)).size:=(by rw [hzs];omega);have BF:=hid (below_box Bw.out (.cells (bcells (List.replicate (128 - S.size) 0)).toArray 5));have hsw:IntKind.i64.wrap (128 - (S.size:Int))=128 - (S.size:Int):=IntWalk.i64_in _ (by omega);clear hzs;generalize txt (List.replicate (128 - S.size) 0)=Z at *;generalize wB.alloc (.cells (bcells (List.replicate (128 - S.size) 0)).toArray 5)=wF at *;go_wp2_with fail;go_ret2;first | exact ⟨rfl,BF.out⟩ | exact ⟨by rw [hHT.out];rfl,BF.out⟩
 ·obtain ⟨xk,xq,xa,xh,xm,xs⟩:=x;dsimp only at *;subst k h0 h1 h5;obtain ⟨HD,hHD⟩:∃ HD,Rec.head ⟨3,xq,0,xh,[],0⟩=HD:=⟨_,rfl⟩;rw [hHD] at hT3 hHL ⊢;clear hHD;have hrm:=hid (Rec.rises_mem h2);clear h2;obtain ⟨hl,hT4⟩:=hT3.out ([UInt8.ofNat xh.length] ++ (Rec.hb xh ++ Rec.mb [])) (by unfold Rec.body;rfl);have hSe:=hid (show HD ++ ([UInt8.ofNat xh.length] ++ (Rec.hb xh ++ Rec.mb []))=((HD ++ le 1 xh.length) ++ Rec.hb xh) ++ Rec.mb [] by
   have h3:le 1 xh.length = [UInt8.ofNat xh.length]:=by
    have:xh.length % 256=xh.length:=(by omega);simp [le,this]
   rw [h3];simp only [List.append_assoc])
  rw [hSe.out] at hT4;have hHT:=hid hT4;have haw:IntKind.u64.wrap (xh.length:Int)=(xh.length:Int):=u64_wrap_lo (by omega) (by omega);have hpos:(0:Int) < (xh.length:Int):=by omega
  have p3:Hid (∀ w,Calls Tryz.prog 159 #[.string (txt HD),.int .i64 1,.int .u64 (xh.length:Int)] w fun e w'=>e=.returned (.string (txt (HD ++ le 1 xh.length)))/\Below w.heap.size w w'):=hid (fun w=>hP.out HD 1 xh.length (.inl rfl) (by omega) (by rw [hHL];decide) w);have hPL:=hid (show (HD ++ le 1 xh.length).length=14 by rw [List.length_append,hHL,le_length]);generalize HD ++ le 1 xh.length=PP at *;generalize txt HD=SH at *;clear hT4 hT3 hHL hl hSe;go_wp2_with fail;(with_reducible refine (p3.out _).mono ?_);rintro e w4 ⟨rfl,hb4⟩;have HR4:=hid (HR3.out.below hb4 hX3);have HI4:=hid (HI3.out.below hb4);have HF4:=hid (HF3.out.below hb4);have B4:=hid (below_next B3.out hb4);have hX4:=HR4.out.lt;clear x0 x2 x3 x4 x5 hb4 HR3 HI3 HF3 B3 hX3 p3;go_wp2_with fail;go_loopw [4,5] (fun u q wr=>∃ j:Nat,j<=xh.length/\q=.int .i64 j/\u=.string (txt (PP ++ Rec.hb (xh.take j)))/\Hid (Below w4.heap.size w4 wr)) (fun _ q _=>xh.length - (intOf q).toNat);case atStart=>exact ⟨0,by omega,rfl,by rw [List.take_zero];show _=Value.string (txt (PP ++ []));rw [List.append_nil],hid (Below.refl _ _)⟩
  case round =>
   obtain ⟨j,hj,rfl,rfl,hbw⟩:=hrel;have HRw:=hid (HR4.out.below hbw.out hX4);have y3:=HRw.out.cellAt 3 rfl;by_cases hlt:j < xh.length
   ·have i0:(0:Int)<=(j:Int):=(by omega);have i1:(j:Int) < (xh.length:Int):=(by omega);obtain ⟨g,off,rfl,c0⟩:=(HI4.out.below hbw.out).cells j hlt;have hmem:=Rec.blockOk_iff.1 (hrm.out (xh.getD j 0) (by rw [List.getD_eq_getElem?_getD,List.getElem?_eq_getElem hlt];exact List.getElem_mem hlt));have hnext:=hid (hb1 xh j hlt PP);obtain ⟨nx,hnx⟩:∃ nx:Nat,xh.getD j 0=(nx:Int):=⟨(xh.getD j 0).toNat,by omega⟩;rw [hnx] at c0 hmem hnext;have hnext':=hid (show PP ++ Rec.hb (xh.take j) ++ le 2 nx=PP ++ Rec.hb (xh.take (j+1)) from hnext.out);have hln:=hid (show (PP ++ Rec.hb (xh.take j)).length<=1000000 by rw [List.length_append,hPL.out,Rec.hb_length,List.length_take];omega);have hnw:IntKind.u64.wrap (nx:Int)=(nx:Int):=u64_wrap_lo (by omega) (by omega);have pj:=hid (fun w=>hP.out (PP ++ Rec.hb (xh.take j)) 2 nx (.inr (.inl rfl)) (by omega) hln.out w);rw [hnext'.out] at pj;replace pj:Hid (∀ w,Calls Tryz.prog 159 #[.string (txt (PP ++ Rec.hb (xh.take j))),.int .i64 2,.int .u64 (nx:Int)] w fun e w'=>e=.returned (.string (txt (PP ++ Rec.hb (xh.take (j+1)))))/\Below w.heap.size w w'):=pj;obtain ⟨SJ,hSJ⟩:∃ SJ,txt (PP ++ Rec.hb (xh.take (j+1)))=SJ:=⟨_,rfl⟩;rw [hSJ] at pj;have HSJ:=hid hSJ;generalize txt (PP ++ Rec.hb (xh.take j))=S0 at *;clear hSJ hnx hnext hnext' hln hmem;go_wp2_with fail;(with_reducible refine (pj.out _).mono ?_);rintro e w5 ⟨rfl,hb5⟩;have B5:=hid (below_next hbw.out hb5);clear hb5;go_wp2_with fail;go_roundw;case rel=>exact ⟨j+1,by omega,by go_num,by rw [HSJ.out],B5⟩
    case measure=>simp [intOf];omega
   obtain rfl:j=xh.length:=(by omega);rw [List.take_length];have HFw:=hid (HF4.out.below hbw.out);have Bw:=hid (below_next B4.out hbw.out);have y4:=HRw.out.cellAt 4 rfl;have hQL:=hid (show (PP ++ Rec.hb xh).length<=70 by rw [List.length_append,hPL.out,Rec.hb_length];omega);generalize PP ++ Rec.hb xh=QQ at *;clear hlt hj;go_wp2_with fail;refine wp_loop_rounds 1 ?_;rw [rounds_succ];go_upto_region 20 with fail;clear y3 y4;have hmn:QQ ++ Rec.mb []=QQ:=List.append_nil _;rw [hmn] at hHT;clear hmn;have hSZ:(txt QQ).size<=128:=(by rw [txt_size];have:=hQL.out;omega);generalize txt QQ=S at *;have hmk:=zmakeS S hSZ wr;have hst:=zstring (128 - S.size) wr;have hzs:(txt (List.replicate (128 - S.size) 0)).size=128 - S.size:=(by rw [txt_size];simp);have hcat:¬ 9223372036854775807 < S.size+(txt (List.replicate (128 - S.size) 0)).size:=(by rw [hzs];omega);have BF:=hid (below_box Bw.out (.cells (bcells (List.replicate (128 - S.size) 0)).toArray 5));have hsw:IntKind.i64.wrap (128 - (S.size:Int))=128 - (S.size:Int):=IntWalk.i64_in _ (by omega);clear hzs;generalize txt (List.replicate (128 - S.size) 0)=Z at *;generalize wr.alloc (.cells (bcells (List.replicate (128 - S.size) 0)).toArray 5)=wF at *;go_wp2_with fail;go_ret2;first | exact ⟨rfl,BF.out⟩ | exact ⟨by rw [hHT.out];rfl,BF.out⟩
 ·obtain ⟨xk,xq,xa,xh,xm,xs⟩:=x;dsimp only at *;subst k h0 h1 h2;obtain ⟨HD,hHD⟩:∃ HD,Rec.head ⟨4,xq,0,[],[],xs⟩=HD:=⟨_,rfl⟩;rw [hHD] at hT3 hHL ⊢;clear hHD;have p3:=hid (fun w=>hP.out HD 4 xs (.inr (.inr (.inl rfl))) (by omega) (by rw [hHL];decide) w);obtain ⟨hl,hT4⟩:=hT3.out (le 4 xs) (by unfold Rec.body;rfl);have haw:IntKind.u64.wrap (xs:Int)=(xs:Int):=u64_wrap_lo (by omega) (by omega);have hSZ:(txt (HD ++ le 4 xs)).size<=128:=(by rw [txt_size,List.length_append,hHL,le_length];omega);have hHT:=hid hT4;replace p3:Hid (∀ w,Calls Tryz.prog 159 #[.string (txt HD),.int .i64 4,.int .u64 ((xs:Nat):Int)] w fun e w'=>e=.returned (.string (txt (HD ++ le 4 xs)))/\Below w.heap.size w w'):=p3;generalize txt (HD ++ le 4 xs)=S at *;generalize txt HD=SH at *;clear hT4 hT3 hHL hl hP;go_wp2_with fail;(with_reducible refine (p3.out _).mono ?_);rintro e w4 ⟨rfl,hb4⟩;have R4:=HR3.out.below hb4 hX3;have y0:=R4.cellAt 0 rfl;have y3:=R4.cellAt 3 rfl;have y4:=R4.cellAt 4 rfl;have B4:=hid (below_next B3.out hb4);clear x0 x2 x3 x4 x5 R4 hb4;go_wp2_with fail;refine wp_loop_rounds 1 ?_;rw [rounds_succ];go_wp2_with fail;refine wp_loop_rounds 1 ?_;rw [rounds_succ];go_upto_region 20 with fail;clear y0 y3 y4;have hmk:=zmakeS S hSZ w4;have hst:=zstring (128 - S.size) w4;have hzs:(txt (List.replicate (128 - S.size) 0)).size=128 - S.size:=(by rw [txt_size];simp);have hcat:¬ 9223372036854775807 < S.size+(txt (List.replicate (128 - S.size) 0)).size:=(by rw [hzs];omega);have BF:=hid (below_box B4.out (.cells (bcells (List.replicate (128 - S.size) 0)).toArray 5));have hsw:IntKind.i64.wrap (128 - (S.size:Int))=128 - (S.size:Int):=IntWalk.i64_in _ (by omega);clear hzs;generalize txt (List.replicate (128 - S.size) 0)=Z at *;generalize w4.alloc (.cells (bcells (List.replicate (128 - S.size) 0)).toArray 5)=wF at *;go_wp2_with fail;go_ret2;first | exact ⟨rfl,BF.out⟩ | exact ⟨by rw [hHT.out];rfl,BF.out⟩
end Go.Proofs.YtnpdhidliaahbaaGreat
