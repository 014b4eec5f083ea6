/- Numbers in texts: within, Put, PutInt, Get, GetInt walked. -/
import Derived.Test.YtnpdhidliaahbaaGreatProg
import Derived.Test.YtnpdhidliaahbaaGreatP29
import Derived.Test.YtnpdhidliaahbaaGreatP30
import Derived.Test.YtnpdhidliaahbaaGreatP01
import Derived.StillTailTactics
import Derived.Laws.BitsAllLaws
set_option maxRecDepth 100000
set_option maxHeartbeats 32000000
set_option linter.unusedSimpArgs false
set_option linter.unusedVariables false
namespace Go.Proofs.YtnpdhidliaahbaaGreat
open Go.Lib (hid)
open Go Go.RowKit
def SizeOk (k:Nat):Prop:=k=1 ∨ k=2 ∨ k=4 ∨ k=8
theorem within_any (s:ByteArray) (at_:Int) (k:Nat) (hk:SizeOk k) (hs:s.size<=140737488351232) (h0 : -9223372036854775808<=at_) (h1:at_<=9223372036854775807) (w:World) :
  Calls Tryz.prog 120 #[.string s,.int .i64 at_,.int .i64 k] w fun e w'=>e=.returned (.bool (decide (0<=at_/\at_+k<=s.size)))/\w=w':=by
 have hk8:k<=8:=by rcases hk with h | h | h | h <;> omega
 have hw:IntKind.i64.wrap ((s.size:Int) - k)=(s.size:Int) - k:=IntWalk.i64_in _ (by omega)
 have hd:decide (0<=at_/\at_+k<=s.size)=(decide (0<=at_) && decide (at_<=(s.size:Int) - k)):=by
  rw [Bool.eq_iff_iff];simp;omega
 rw [hd]
 clear hd
 by_cases c1:0<=at_
 ·rw [decide_eq_true c1,Bool.true_and];rcases hk with rfl | rfl | rfl | rfl
  all_goals
   go_enter Tryz.func120,Tryz.ntmps120;go_wp2_with fail;go_ret;exact ⟨rfl,rfl⟩
 ·rw [decide_eq_false c1,Bool.false_and];rcases hk with rfl | rfl | rfl | rfl
  all_goals
   go_enter Tryz.func120,Tryz.ntmps120;go_wp2_with fail;go_ret;exact ⟨rfl,rfl⟩
theorem u64_wrap_lo {x:Int} (h0:0<=x) (h1:x < 18446744073709551616):IntKind.u64.wrap x=x:=by
 simp only [IntKind.wrap,IntKind.bits,IntKind.signed];exact Int.emod_eq_of_lt h0 h1
theorem u64_or_get (s:ByteArray) (at_ i:Nat) (h:at_+i < s.size) (hi:i < 8):bits .or .u64 ((getW s.data.toList at_ i:Nat):Int) (IntKind.u64.wrap (IntKind.u64.wrap ((s[at_+i].toNat:Nat):Int) * 2 ^ (8 * i)))=((getW s.data.toList at_ (i+1):Nat):Int):=by
 have hl:at_+i < s.data.toList.length:=(by rw [list_length];exact h);have hx:s.data.toList.getD (at_+i) 0=s[at_+i]:=by
  have hz:at_+i < s.data.size:=h;have e1:s.data.toList.getD (at_+i) 0=s.data[at_+i]:=by
   simp only [List.getD,Array.getElem?_toList,Array.getElem?_eq_getElem hz,Option.getD_some]
  exact e1
 have h1:=getW_lt s.data.toList at_ i;have h3:=getW_lt s.data.toList at_ (i+1);have h4:=getW_succ s.data.toList at_ i hl;rw [hx] at h4;clear hx;generalize s[at_+i]=x at *;have h2:=x.toNat_lt;have h5:256 ^ (i+1)<=256 ^ 8:=Nat.pow_le_pow_right (by decide) hi;generalize hP:getW s.data.toList at_ (i+1)=P at *;generalize hQ:getW s.data.toList at_ i=Q at *;have hPB:P < 18446744073709551616:=Nat.lt_of_lt_of_le h3 h5;clear h3 h5;have e:((x.toNat:Nat):Int) * 2 ^ (8 * i)=((256 ^ i * x.toNat:Nat):Int):=by
  rw [pow256,Int.natCast_mul,Int.mul_comm];norm_cast
 rw [u64_wrap_lo (x:=((x.toNat:Nat):Int)) (by omega) (by omega),e];clear e;have hor:=or_add Q x.toNat (8 * i) (by rw [<- pow256];exact h1);rw [<- pow256] at hor;generalize 256 ^ i * x.toNat=y at *;rw [u64_wrap_lo (by omega) (by omega),u64_or_nat _ _ (by omega) (by omega),hor,h4]
theorem get_yes (s:ByteArray) (at_ k:Nat) (hk:SizeOk k) (hs:s.size<=140737488351232) (h:at_+k<=s.size) (w:World) :
  Calls Tryz.prog 136 #[.string s,.int .i64 at_,.int .i64 k] w fun e w'=>e=.returned (.tuple #[.int .u64 (getW s.data.toList at_ k:Nat),.bool true])/\w=w':=by
 have hk8:k<=8:=by rcases hk with h | h | h | h <;> omega
 have hc:=hid (within_any s at_ k hk hs (by omega) (by omega) w)
 rw [decide_eq_true (show 0<=(at_:Int)/\(at_:Int)+k<=s.size by omega)] at hc
 have h0:=hid (getW_zero s.data.toList at_)
 have HS:=hid (list_length s)
 go_enter Tryz.func136,Tryz.ntmps136
 go_wp2_with fail
 refine hc.out.mono ?_
 rintro e w' ⟨rfl,rfl⟩
 go_wp2_with fail
 go_loop [8,16] (fun n i=>∃ j:Nat,j<=k/\i=.int .i64 j/\n=.int .u64 (getW s.data.toList at_ j:Nat)) (fun _ i=>k - (intOf i).toNat)
 case atStart=>exact ⟨0,by omega,rfl,by rw [h0.out];rfl⟩
 case round =>
  obtain ⟨j,hj,rfl,rfl⟩:=hrel;by_cases hlt:j < k
  ·have hn:=hid (u64_or_get s at_ j (by omega) (by omega));go_wp2_with fail;go_round;case rel=>exact ⟨j+1,by omega,by go_num,by rw [hn.out]⟩
   case measure=>simp [intOf];omega
  obtain rfl:j=k:=(by omega);go_wp2_with fail;go_ret2;exact ⟨rfl,rfl⟩
theorem get_no (s:ByteArray) (at_ k:Nat) (hk:SizeOk k) (hs:s.size<=140737488351232) (ha:at_<=1000000000) (h:s.size < at_+k) (w:World) :
  Calls Tryz.prog 136 #[.string s,.int .i64 at_,.int .i64 k] w fun e w'=>e=.returned (.tuple #[.int .u64 0,.bool false])/\w=w':=by
 have hk8:k<=8:=by rcases hk with h | h | h | h <;> omega
 have hc:=hid (within_any s at_ k hk hs (by omega) (by omega) w)
 rw [decide_eq_false (show ¬ (0<=(at_:Int)/\(at_:Int)+k<=s.size) by omega)] at hc
 go_enter Tryz.func136,Tryz.ntmps136
 go_wp2_with fail
 refine hc.out.mono ?_
 rintro e w' ⟨rfl,rfl⟩
 go_wp2_with fail
 go_ret2
 exact ⟨rfl,rfl⟩
theorem getint_yes (s:ByteArray) (at_ k:Nat) (hk:SizeOk k) (hs:s.size<=140737488351232) (h:at_+k<=s.size) (hm:getW s.data.toList at_ k<=9223372036854775807) (w:World) :
  Calls Tryz.prog 161 #[.string s,.int .i64 at_,.int .i64 k] w fun e w'=>e=.returned (.tuple #[.int .i64 (getW s.data.toList at_ k:Nat),.bool true])/\w=w':=by
 have hc:=hid (get_yes s at_ k hk hs h w)
 generalize getW s.data.toList at_ k=n at *
 have hw:IntKind.i64.wrap (n:Int)=n:=IntWalk.i64_in _ (by omega)
 go_enter Tryz.func161,Tryz.ntmps161
 go_wp2_with fail
 refine hc.out.mono ?_
 rintro e w' ⟨rfl,rfl⟩
 go_wp2_with fail
 go_ret2
 exact ⟨rfl,rfl⟩
theorem getint_no (s:ByteArray) (at_ k:Nat) (hk:SizeOk k) (hs:s.size<=140737488351232) (ha:at_<=1000000000) (h:s.size < at_+k) (w:World) :
  Calls Tryz.prog 161 #[.string s,.int .i64 at_,.int .i64 k] w fun e w'=>e=.returned (.tuple #[.int .i64 0,.bool false])/\w=w':=by
 have hc:=hid (get_no s at_ k hk hs ha h w)
 go_enter Tryz.func161,Tryz.ntmps161
 go_wp2_with fail
 refine hc.out.mono ?_
 rintro e w' ⟨rfl,rfl⟩
 go_wp2_with fail
 go_ret2
 exact ⟨rfl,rfl⟩
theorem lv_eq_lt:∀ (k n:Nat),n < 256 ^ k ↔ n / 256 ^ k=0:=fun k n=>by
 rw [Nat.div_eq_zero_iff];have:0 < 256 ^ k:=Nat.pow_pos (by decide);omega
theorem u8_wrap_nat (n:Nat):IntKind.u8.wrap (n:Int)=(((UInt8.ofNat n).toNat:Nat):Int):=by
 simp [IntKind.wrap,IntKind.bits,IntKind.signed]
theorem u64_shr_nat (n k:Nat):((n:Nat):Int) / 2 ^ (8 * k)=((n / 256 ^ k:Nat):Int):=by
 rw [pow256];norm_cast
theorem put_step {wr:World} {b:Nat} {E:TypeId} {l spare:Bytes} {at_ k n j:Nat} (h:Row wr b E (bcells (splice l at_ ((le k n).take j) ++ spare))) (hj:j < k) (hl:at_+k<=l.length) :
  Row (wr.setCell ⟨b,at_+j,none⟩ (.int .u8 ((n:Int) / 2 ^ (8 * j) % 256))) b E (bcells (splice l at_ ((le k n).take (j+1)) ++ spare)):=by
 have e:(.int .u8 ((n:Int) / 2 ^ (8 * j) % 256):Value)=bval (UInt8.ofNat (n / 256 ^ j)):=by
  unfold bval;congr 1;rw [u64_shr_nat,<- u8_wrap_nat];rfl
 have hlt:((le k n).take j).length=j:=by rw [List.length_take,le_length];omega
 have h1:=h.set (at_+j) (bval (UInt8.ofNat (n / 256 ^ j)))
 rw [e]
 rw [bcells_set,List.set_append_left _ _ (by rw [splice_length _ _ _ (by omega)];omega)] at h1
 have h2:=splice_snoc l at_ ((le k n).take j) (UInt8.ofNat (n / 256 ^ j)) (by omega)
 rw [hlt] at h2
 rw [h2] at h1
 rw [List.take_add_one,le_at k n j hj]
 exact h1
theorem put_yes (s:ByteArray) (at_ k n:Nat) (hk:SizeOk k) (hs:s.size<=140737488351232) (h:at_+k<=s.size) (hn:n < 256 ^ k) (hn64:n < 18446744073709551616) (w:World) :
  Calls Tryz.prog 74 #[.string s,.int .i64 at_,.int .i64 k,.int .u64 n] w fun e w'=>e=.returned (.tuple #[.string (txt (splice s.data.toList at_ (le k n))),.bool true])/\Below w.heap.size w w':=by
 have hk8:k<=8:=by rcases hk with h | h | h | h <;> omega
 have hc:=hid (within_any s at_ k hk hs (by omega) (by omega) w)
 rw [decide_eq_true (show 0<=(at_:Int)/\(at_:Int)+k<=s.size by omega)] at hc
 have HS:=hid (list_length s)
 have hsh:((n:Nat):Int) / 2 ^ (8 * k)=0:=by
  rw [u64_shr_nat,(lv_eq_lt k n).1 hn];rfl
 obtain ⟨cap,w1,spare,hconv,hrow,hbel,hsz⟩:=run_bytes_row (P:=Tryz.prog) w 9 94 5 s Tryz.underlying9 Tryz.underlying94 Tryz.underlying5
 have HSZ:=hid hsz
 have HN:=hid hn
 have HN64:=hid hn64
 have HR:=hid hrow
 have HB:=hid hbel
 clear hsz hn hn64 hrow hbel
 by_cases c8:k < 8
 all_goals
  go_enter Tryz.func74,Tryz.ntmps74;go_wp2_with fail;refine hc.out.mono ?_;rintro e w' ⟨rfl,rfl⟩;go_wp2_with fail;go_loopw [11,31] (fun u i wr=>∃ j:Nat,j<=k/\i=.int .i64 j/\Hid (Row wr w.heap.size 5 (bcells (splice s.data.toList at_ ((le k n).take j) ++ spare)))/\Hid (Below w.heap.size w wr)) (fun _ i _=>k - (intOf i).toNat);case atStart=>exact ⟨0,by omega,rfl,by rw [List.take_zero,splice_nil];exact HR,HB⟩
  case round =>
   obtain ⟨j,hj,rfl,hr,hb⟩:=hrel;by_cases hlt:j < k
   ·have hlen:at_+j < (splice s.data.toList at_ ((le k n).take j) ++ spare).length:=by
     rw [List.length_append,splice_length _ _ _ (by rw [List.length_take,le_length,HS.out];omega),HS.out];omega
    have hcell:=hr.out.cellAt (at_+j) (bcells_at _ _ hlen);have hfree:=hr.out.free (at_+j) (by rw [bcells_length];exact hlen);have hset:=hid (put_step hr.out (show j < k from hlt) (by rw [HS.out];omega));have hbs:=hid (show Below w.heap.size w (wr.setCell ⟨w.heap.size,at_+j,none⟩ (.int .u8 ((n:Int) / 2 ^ (8 * j) % 256))) from hb.out.setCell (Nat.le_refl _) _);clear hlen;go_wp2_with fail;go_roundw;case rel=>exact ⟨j+1,by omega,by go_num,hset,hbs⟩
    case measure=>simp [intOf];omega
   obtain rfl:j=k:=(by omega);have hfin:=hid (show Row wr w.heap.size 5 (bcells (splice s.data.toList at_ (le j n) ++ spare)) by
    have:=hr.out;rwa [List.take_of_length_le (by rw [le_length];omega)] at this)
   have hstr:=run_string_of_head (P:=Tryz.prog) 94 9 5 s.size cap (by rw [splice_length _ _ _ (by rw [le_length,HS.out];omega),HS.out]) Tryz.underlying94 Tryz.underlying5 Tryz.underlying9 hfin.out;go_wp2_with fail;go_ret2;exact ⟨rfl,hb.out⟩
theorem putint_yes (s:ByteArray) (at_ k n:Nat) (hk:SizeOk k) (hs:s.size<=140737488351232) (h:at_+k<=s.size) (hn:n < 256 ^ k) (hn64:n<=9223372036854775807) (w:World) :
  Calls Tryz.prog 121 #[.string s,.int .i64 at_,.int .i64 k,.int .i64 n] w fun e w'=>e=.returned (.tuple #[.string (txt (splice s.data.toList at_ (le k n))),.bool true])/\Below w.heap.size w w':=by
 have hc:=hid (put_yes s at_ k n hk hs h hn (by omega) w)
 have hw:IntKind.u64.wrap (n:Int)=n:=u64_wrap_lo (by omega) (by omega)
 have hn0:(0:Int)<=n:=by omega
 clear hn
 go_enter Tryz.func121,Tryz.ntmps121
 go_wp2_with fail
 refine hc.out.mono ?_
 rintro e w' ⟨rfl,b⟩
 have B:=hid b
 clear b
 go_wp2_with fail
 go_ret2
 exact ⟨rfl,B.out⟩
end Go.Proofs.YtnpdhidliaahbaaGreat
