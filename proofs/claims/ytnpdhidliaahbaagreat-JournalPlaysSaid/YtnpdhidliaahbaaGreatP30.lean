/- The numbers of 32 bits as BitVec 32, and how the walk's operations read on them. Plain Lean but for the rules on the model's 'bits'. -/
import Derived.WalkKit
import Derived.WalkSpells
import Derived.WalkLawsBesides
import Derived.Lib.Hide
set_option maxRecDepth 100000
set_option maxHeartbeats 32000000
set_option linter.unusedSimpArgs false
set_option linter.unusedVariables false
namespace Go.Proofs.YtnpdhidliaahbaaGreat
open Go Go.RowKit
def u32 (x:BitVec 32):Int:=(x.toNat:Int)
theorem u32_lo (x:BitVec 32):0<=u32 x:=by unfold u32;omega
theorem u32_hi (x:BitVec 32):u32 x < 4294967296:=by unfold u32;have:=x.isLt;omega
theorem u32_inj {x y:BitVec 32} (h:u32 x=u32 y):x=y:=by
 unfold u32 at h;exact BitVec.eq_of_toNat_eq (by omega)
@[go_sem] theorem u32_xor (x y:BitVec 32):bits .xor .u32 (u32 x) (u32 y)=u32 (x ^^^ y):=by
 unfold u32;rw [u32_xor_nat _ _ x.isLt y.isLt];simp
@[go_sem] theorem u32_and' (x y:BitVec 32):bits .and .u32 (u32 x) (u32 y)=u32 (x &&& y):=by
 unfold u32;rw [u32_and_nat _ _ x.isLt y.isLt];simp
@[go_sem] theorem u32_and_one (x:BitVec 32):bits .and .u32 (u32 x) 1=u32 (x &&& 1#32):=u32_and' x 1#32
@[go_sem] theorem u32_poly (z:BitVec 32):bits .and .u32 3988292384 (u32 z)=u32 (3988292384#32 &&& z):=u32_and' 3988292384#32 z
@[go_sem] theorem u32_poly' (z:BitVec 32):bits .xor .u32 (u32 z) 3988292384=u32 (z ^^^ 3988292384#32):=u32_xor z 3988292384#32
@[go_sem] theorem u32_not (x:BitVec 32):bits .xor .u32 IntKind.u32.max (u32 x)=u32 (~~~x):=by
 have h:IntKind.u32.max=u32 4294967295#32:=(by decide);rw [h,u32_xor];have:(4294967295#32)=BitVec.allOnes 32:=(by decide);rw [this,BitVec.allOnes_xor]
@[go_sem] theorem u32_not' (x:BitVec 32):bits .xor .u32 (u32 x) 4294967295=u32 (~~~x):=by
 have h:=u32_xor x 4294967295#32;have:(4294967295#32)=BitVec.allOnes 32:=(by decide);rw [this,BitVec.xor_allOnes] at h;exact h
@[go_sem] theorem u32_half (x:BitVec 32):u32 x / (2:Int)=u32 (x >>> 1):=by
 unfold u32;rw [BitVec.toNat_ushiftRight,Nat.shiftRight_eq_div_pow];omega
def bit0 (x:BitVec 32):Bool:=x.getLsbD 0
theorem and_one (x:BitVec 32):x &&& 1#32=if bit0 x then 1#32 else 0#32:=by
 unfold bit0;apply BitVec.eq_of_getLsbD_eq;intro i hi;by_cases h0:i=0
 ·subst h0;cases h:x.getLsbD 0 <;> (simp only [BitVec.getLsbD_and,h];simp)
 ·have h1:(1#32).getLsbD i=false:=by
   rw [BitVec.getLsbD_one];simp [h0]
  cases h:x.getLsbD 0 <;> simp [h1]
@[go_sem] theorem u32_rem2 (x:BitVec 32):u32 x % (2:Int)=u32 (x &&& 1#32):=by
 unfold u32;have:(x &&& 1#32).toNat=x.toNat % 2:=by
  rw [BitVec.toNat_and];exact Nat.and_two_pow_sub_one_eq_mod x.toNat 1
 rw [this];omega
@[go_sem] theorem u32_tmod2 (x:BitVec 32):(u32 x).tmod (2:Int)=u32 (x &&& 1#32):=by
 rw [Int.tmod_eq_emod_of_nonneg (u32_lo x),u32_rem2]
@[go_sem] theorem u32_tdiv2 (x:BitVec 32):(u32 x).tdiv (2:Int)=u32 (x >>> 1):=by
 rw [Int.tdiv_eq_ediv_of_nonneg (u32_lo x),u32_half]
@[go_sem] theorem u32_one_eq (x:BitVec 32):(u32 (x &&& 1#32) == 1)=bit0 x:=by
 rw [and_one];cases bit0 x <;> decide
@[go_sem] theorem u32_neg (x:BitVec 32) : -(u32 x) % 4294967296=u32 (-x):=by
 unfold u32;rw [BitVec.toNat_neg];have:=x.isLt;omega
@[go_sem] theorem u32_mod (x:BitVec 32):u32 x % 4294967296=u32 x:=by
 have h0:=u32_lo x;have h1:=u32_hi x;omega
@[go_sem] theorem u32_shr (x:BitVec 32) (k:Nat):u32 x / (2:Int) ^ k=u32 (x >>> k):=by
 unfold u32;rw [BitVec.toNat_ushiftRight,Nat.shiftRight_eq_div_pow];norm_cast
@[go_sem] theorem u32_wrap64 (x:BitVec 32):wrap64 (u32 x)=u32 x:=by
 have h0:=u32_lo x;have h1:=u32_hi x;exact IntWalk.wrap64_in _ ⟨by omega,by omega⟩
@[go_sem] theorem u32_eq (x y:BitVec 32):(u32 x == u32 y)=(x == y):=by
 by_cases h:x=y
 ·subst h;simp
 ·have:u32 x ≠ u32 y:=fun e=>h (u32_inj e);rw [beq_eq_false_iff_ne.2 this,beq_eq_false_iff_ne.2 h]
@[go_sem] theorem u32_eq_zero (x:BitVec 32):(u32 x == 0)=(x == 0#32):=u32_eq x 0#32
@[go_sem] theorem u32_of_byte (b:UInt8):((b.toNat:Nat):Int) % 4294967296=u32 (b.toBitVec.setWidth 32):=by
 unfold u32;have:=b.toNat_lt;simp only [BitVec.toNat_setWidth,UInt8.toNat_toBitVec];omega
end Go.Proofs.YtnpdhidliaahbaaGreat
