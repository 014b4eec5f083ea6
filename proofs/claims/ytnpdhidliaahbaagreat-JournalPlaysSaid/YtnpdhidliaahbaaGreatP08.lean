/- The mathematics of the sums: a register that is led on bit by bit; what a matrix leads it to; that a burst of 32 bits turns it. Plain Lean, no program. -/

set_option maxRecDepth 100000
set_option maxHeartbeats 32000000
set_option linter.unusedSimpArgs false
set_option linter.unusedVariables false
namespace Go.Proofs.YtnpdhidliaahbaaGreat
def iter {α:Type} (f:α->α):Nat->α->α
 | 0,a=>a
 | n+1,a=>iter f n (f a)
theorem iter_succ' {α:Type} (f:α->α) (n:Nat):∀ a,iter f (n+1) a=f (iter f n a):=by
 induction n with
 | zero=>intro a;rfl
 | succ n ih=>intro a;show iter f (n+1) (f a)=_;rw [ih];rfl
abbrev W32:=BitVec 32
def bstep (r:W32):W32:=(r >>> 1) ^^^ (3988292384#32 &&& -(r &&& 1#32))
def byteStep (r:W32) (b:UInt8):W32:=iter bstep 8 (r ^^^ b.toBitVec.setWidth 32)
def crc (r:W32) (l:List UInt8):W32:=l.foldl byteStep r
def more (s:W32) (l:List UInt8):W32 := ~~~ crc (~~~ s) l
def z8 (r:W32):W32:=iter bstep 8 r
theorem crc_append (r:W32) (a b:List UInt8):crc r (a ++ b)=crc (crc r a) b:=by simp [crc]
theorem more_append (s:W32) (a b:List UInt8):more s (a ++ b)=more (more s a) b:=by simp [more,crc_append]
theorem neg_bit (r:W32) : -(r &&& 1#32)=if r.getLsbD 0 then BitVec.allOnes 32 else 0#32:=by
 have h:r &&& 1#32=if r.getLsbD 0 then 1#32 else 0#32:=by
  apply BitVec.eq_of_getLsbD_eq;intro i hi;by_cases h0:i=0
  ·subst h0;cases h:r.getLsbD 0 <;> (simp only [BitVec.getLsbD_and,h];simp)
  have h1:(1#32).getLsbD i=false:=by
   rw [BitVec.getLsbD_one];simp [h0]
  cases h:r.getLsbD 0 <;> simp [h0,h1]
 rw [h];cases r.getLsbD 0 <;> decide
def join (a b:W32) (n:Nat):W32:=iter z8 n a ^^^ b
end Go.Proofs.YtnpdhidliaahbaaGreat
