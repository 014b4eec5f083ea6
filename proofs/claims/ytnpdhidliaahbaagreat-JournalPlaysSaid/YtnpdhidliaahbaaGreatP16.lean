/- Records: what puts numbers into a block, what gets them out. -/
import Derived.Test.YtnpdhidliaahbaaGreatP14
import Derived.Test.YtnpdhidliaahbaaGreatP15
import Derived.Test.YtnpdhidliaahbaaGreatP02
import Derived.StillTailTactics
import Derived.Deep.RegionHeld3
set_option maxRecDepth 100000
set_option maxHeartbeats 32000000
set_option linter.unusedSimpArgs false
set_option linter.unusedVariables false
namespace Go.Proofs.YtnpdhidliaahbaaGreat
open Go.Lib (hid)
open Go Go.RowKit
theorem Only.cell {S:List Nat} {w w':World} (h:Only S w w') {a:Addr} {v:Value} (hc:w.cell? a=some v) (hs:a.block ∉ S):w'.cell? a=some v:=by
 have hl:=World.block_lt_of_cell? w a hc;have:=h.block a.block hl hs;simp only [World.cell?] at hc ⊢;rw [this];exact hc
theorem Only.row {S:List Nat} {w w':World} (h:Only S w w') {b:Nat} {T:TypeId} {cs:List Value} (hr:Row w b T cs) (hs:b ∉ S):Row w' b T cs:=by
 have hl:=hr.lt;obtain ⟨fr,hb,hf⟩:=hr;exact ⟨fr,by rw [h.block b hl hs];exact hb,hf⟩
theorem wput_any (b:Nat) (s:ByteArray) (at_ k n:Nat) (hk:SizeOk k) (hs:s.size<=140737488351232) (hf:at_+k<=s.size) (hn:n < 256 ^ k) (hn64:n<=9223372036854775807) (w:World) (h:Row w b 148 [.string s,.int .i64 (at_:Int)]) :
  Calls Tryz.prog 75 #[.pointer (some ⟨b,0,none⟩),.int .i64 k,.int .i64 n] w fun e w'=>e=.returned (.tuple #[])/\Row w' b 148 [.string (txt (splice s.data.toList at_ (le k n))),.int .i64 ((at_+k:Nat):Int)]/\Only [b] w w':=by
 have q:=hid (putint_yes s at_ k n hk hs hf hn hn64)
 have c0:=h.cellAt 0 rfl
 have c1:=h.cellAt 1 rfl
 have hsz:(splice s.data.toList at_ (le k n)).length=s.size:=by rw [splice_length _ _ _ (by rw [le_length,list_length];exact hf),list_length]
 have hw:IntKind.i64.wrap ((at_:Int)+k)=(at_:Int)+k:=IntWalk.i64_in _ (by omega)
 generalize txt (splice s.data.toList at_ (le k n))=s' at *
 have H:=hid h
 have hlt:=h.lt
 clear h hsz hn hf hs hk
 go_enter Tryz.func75,Tryz.ntmps75
 go_wp2_with fail
 go_region_held3 (fun w'=>w'.cell? ⟨b,0,none⟩=some (.string s)/\w'.cell? ⟨b,1,none⟩=some (.int .i64 (at_:Int)))
  (first | exact ⟨c0,c1⟩ | exact ⟨k0,k1⟩)
  (first | (go_at_call 121;refine (q.out _).mono ?_;rintro e w1 ⟨rfl,hb'⟩;have hb:Below w.heap.size w w1:=⟨hb'.os,hb'.tape,hb'.output,hb'.size,hb'.block⟩;have R1:Row w1 b 148 [.string s,.int .i64 (at_:Int)]:=H.out.below hb hlt;have k0:=R1.cellAt 0 rfl;have k1:=R1.cellAt 1 rfl;have f0:=R1.free 0 (by simp);have f1:=R1.free 1 (by simp)) | fail "none")
 have R2:=(R1.set 0 (.string s')).set 1 (.int .i64 ((at_:Int)+k))
 have HR2:=hid R2
 have hO:=hid (Only.ofBelow (S:=[b]) hb)
 clear R2 R1 H c0 c1 hb hb'
 go_wp2_with fail
 go_end0
 refine ⟨rfl,HR2.out,hO.out.trans ((Only.setCell _ _ _ (by simp)).trans (Only.setCell _ _ _ (by simp)))⟩
theorem drewN_only (S:List Nat) (w:World) (n:Nat):Only S w (w.drewN n):=⟨rfl,rfl,rfl,Nat.le_refl _,fun _ _ _=>rfl⟩
theorem rget_yes (b:Nat) (s:ByteArray) (at_ k:Nat) (bad:Bool) (hk:SizeOk k) (hs:s.size<=140737488351232) (ha:at_<=1000000) (hf:at_+k<=s.size) (hm:getW s.data.toList at_ k<=9223372036854775807) (w:World) (h:Row w b 208 [.string s,.int .i64 (at_:Int),.bool bad]) :
  Calls Tryz.prog 135 #[.pointer (some ⟨b,0,none⟩),.int .i64 k] w fun e w'=>e=.returned (.int .i64 (getW s.data.toList at_ k:Nat))/\Row w' b 208 [.string s,.int .i64 ((at_+k:Nat):Int),.bool bad]/\Only [b] w w':=by
 have hk8:k<=8:=by rcases hk with h | h | h | h <;> omega
 have q:=hid (fun w=>(getint_yes s at_ k hk hs hf hm w).mono (R':=fun e w'=>e=.returned (.tuple #[.int .i64 (getW s.data.toList at_ k:Nat),.bool true])/\w'=w) (fun e w' h=>⟨h.1,h.2.symm⟩))
 have hw:IntKind.i64.wrap ((at_:Int)+k)=(at_:Int)+k:=IntWalk.i64_in _ (by omega)
 have H:=hid h
 clear h hf hs hk hm
 cases bad
 all_goals
  go_enter Tryz.func135,Tryz.ntmps135;have c0:=H.out.cellAt 0 rfl;have c1:=H.out.cellAt 1 rfl;have c2:=H.out.cellAt 2 rfl;have f1:=H.out.free 1 (by simp);have f2:=H.out.free 2 (by simp);go_wp2_with fail;go_quiet ((go_at_call 161;exact Calls.quiet_of_same (q.out _)));go_wp2_with fail;go_ret;exact ⟨rfl,((H.out.drewN _).set 1 (.int .i64 ((at_:Int)+k))).set 2 (.bool _),(drewN_only [b] w _).trans ((Only.setCell _ _ _ (by simp)).trans (Only.setCell _ _ _ (by simp)))⟩
theorem rget_no (b:Nat) (s:ByteArray) (at_ k:Nat) (bad:Bool) (hk:SizeOk k) (hs:s.size<=140737488351232) (ha:at_<=1000000) (hf:s.size < at_+k) (w:World) (h:Row w b 208 [.string s,.int .i64 (at_:Int),.bool bad]) :
  Calls Tryz.prog 135 #[.pointer (some ⟨b,0,none⟩),.int .i64 k] w fun e w'=>e=.returned (.int .i64 0)/\Row w' b 208 [.string s,.int .i64 ((at_+k:Nat):Int),.bool true]/\Only [b] w w':=by
 have hk8:k<=8:=by rcases hk with h | h | h | h <;> omega
 have q:=hid (fun w=>(getint_no s at_ k hk hs (by omega) hf w).mono (R':=fun e w'=>e=.returned (.tuple #[.int .i64 0,.bool false])/\w'=w) (fun e w' h=>⟨h.1,h.2.symm⟩))
 have hw:IntKind.i64.wrap ((at_:Int)+k)=(at_:Int)+k:=IntWalk.i64_in _ (by omega)
 have H:=hid h
 clear h hf hs hk
 cases bad
 all_goals
  go_enter Tryz.func135,Tryz.ntmps135;have c0:=H.out.cellAt 0 rfl;have c1:=H.out.cellAt 1 rfl;have c2:=H.out.cellAt 2 rfl;have f1:=H.out.free 1 (by simp);have f2:=H.out.free 2 (by simp);go_wp2_with fail;go_quiet ((go_at_call 161;exact Calls.quiet_of_same (q.out _)));go_wp2_with fail;go_ret;exact ⟨rfl,((H.out.drewN _).set 1 (.int .i64 ((at_:Int)+k))).set 2 (.bool _),(drewN_only [b] w _).trans ((Only.setCell _ _ _ (by simp)).trans (Only.setCell _ _ _ (by simp)))⟩
end Go.Proofs.YtnpdhidliaahbaaGreat
