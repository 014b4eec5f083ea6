/- The journal's ring: places, block, home. -/
import Derived.Test.YtnpdhidliaahbaaGreatP11
import Derived.Test.YtnpdhidliaahbaaGreatP09
import Derived.Deep.RegionHeld3
set_option maxRecDepth 100000
set_option maxHeartbeats 32000000
set_option linter.unusedSimpArgs false
set_option linter.unusedVariables false
namespace Go.Proofs.YtnpdhidliaahbaaGreat
open Go.Lib (hid)
open Go Go.RowKit
def ringV (p:Option Addr) (g:Geo.G):Value:=.agg #[.pointer p,.int .i64 g.blocks,.int .i64 g.log,.int .i64 g.inodes,.int .i64 g.logAt,.int .i64 g.mapAt,.int .i64 g.mapLen,.int .i64 g.tableAt,.int .i64 g.tableLen,.int .i64 g.dataAt]
theorem places_any (p:Option Addr) (g:Geo.G) (hg:Geo.May g) (w:World) :
  Calls Tryz.prog 66 #[ringV p g] w fun e w'=>e=.returned (.int .i64 ((Jr.plc g:Nat):Int))/\Below w.heap.size w w':=by
 have hp:=Jr.plc_of hg
 have h0:=hg.ok.1
 unfold Geo.asked at h0
 rw [hp.2.2]
 clear hp hg
 unfold ringV
 obtain ⟨g1,g2,g3,g4,g5,g6,g7,g8,g9⟩:=g
 dsimp only at *
 have hw:IntKind.i64.wrap (g2 - 1)=g2 - 1:=IntWalk.i64_in _ (by omega)
 have R0:=Row.new w 34 [.pointer p,.int .i64 g1,.int .i64 g2,.int .i64 g3,.int .i64 g4,.int .i64 g5,.int .i64 g6,.int .i64 g7,.int .i64 g8,.int .i64 g9] rfl
 have k2:=R0.cellAt 2 rfl
 go_enter Tryz.func66,Tryz.ntmps66
 go_wp2_with fail
 go_ret
 exact ⟨rfl,(Below.refl _ _).alloc (Nat.le_refl _) _⟩
theorem ringblock_any (p:Option Addr) (g:Geo.G) (hg:Geo.May g) (n:Nat) (hn:n<=4611686018427387904) (w:World) :
  Calls Tryz.prog 71 #[ringV p g,.int .i64 (n:Int)] w fun e w'=>e=.returned (.int .i64 ((Jr.pb g n:Nat):Int))/\Below w.heap.size w w':=by
 have q:=hid (places_any p g hg)
 have hp:=Jr.plc_of hg
 have h0:=hg.ok.2.1
 have hmod:((n:Int)).tmod ((Jr.plc g:Nat):Int)=((n % Jr.plc g:Nat):Int):=by rw [Int.tmod_eq_emod_of_nonneg (by omega)];simp
 have hmod2:(n:Int) % ((Jr.plc g:Nat):Int)=((n % Jr.plc g:Nat):Int):=by simp
 have hlt:=Nat.mod_lt n (show 0 < Jr.plc g by omega)
 unfold Jr.pb
 clear hg
 generalize hmm:n % Jr.plc g=m at *
 clear hmm
 generalize hpp:Jr.plc g=P at *
 clear hpp
 have hP0:¬ ((P:Nat):Int)=0:=by omega
 have hP1:¬ P=0:=by omega
 unfold ringV at *
 obtain ⟨g1,g2,g3,g4,g5,g6,g7,g8,g9⟩:=g
 dsimp only at *
 subst h0
 have hw:IntKind.i64.wrap (2+(m:Int))=2+(m:Int):=IntWalk.i64_in _ (by omega)
 have hw2:IntKind.i64.wrap ((m:Int))=(m:Int):=IntWalk.i64_in _ (by omega)
 clear hp hlt
 have R0:=Row.new w 34 [.pointer p,.int .i64 g1,.int .i64 g2,.int .i64 g3,.int .i64 1,.int .i64 g5,.int .i64 g6,.int .i64 g7,.int .i64 g8,.int .i64 g9] rfl
 obtain ⟨k0,k1,k2,k3,k4,k5,k6,k7,k8,k9⟩:=R0.c10
 have HR:=hid R0
 have BA:=hid ((Below.refl w.heap.size w).alloc (Nat.le_refl _) (.cells #[.pointer p,.int .i64 g1,.int .i64 g2,.int .i64 g3,.int .i64 1,.int .i64 g5,.int .i64 g6,.int .i64 g7,.int .i64 g8,.int .i64 g9] 34))
 clear R0
 go_enter Tryz.func71,Tryz.ntmps71
 go_wp2_with fail
 generalize w.alloc _=w1 at *
 go_region_held3 (fun w'=>w'.cell? ⟨w.heap.size,0,none⟩=some (.pointer p)/\w'.cell? ⟨w.heap.size,1,none⟩=some (.int .i64 g1)/\w'.cell? ⟨w.heap.size,2,none⟩=some (.int .i64 g2)/\w'.cell? ⟨w.heap.size,3,none⟩=some (.int .i64 g3)/\w'.cell? ⟨w.heap.size,4,none⟩=some (.int .i64 1)/\w'.cell? ⟨w.heap.size,5,none⟩=some (.int .i64 g5)/\w'.cell? ⟨w.heap.size,6,none⟩=some (.int .i64 g6)/\w'.cell? ⟨w.heap.size,7,none⟩=some (.int .i64 g7)/\w'.cell? ⟨w.heap.size,8,none⟩=some (.int .i64 g8)/\w'.cell? ⟨w.heap.size,9,none⟩=some (.int .i64 g9))
  (first | exact ⟨k0,k1,k2,k3,k4,k5,k6,k7,k8,k9⟩ | exact ⟨z0,z1,z2,z3,z4,z5,z6,z7,z8,z9⟩)
  (first | (go_at_call 66;refine (q.out _).mono ?_;rintro e w2 ⟨rfl,hb2'⟩;have hb2:Below w1.heap.size w1 w2:=⟨hb2'.os,hb2'.tape,hb2'.output,hb2'.size,hb2'.block⟩;have R2:=HR.out.below hb2 HR.out.lt;obtain ⟨z0,z1,z2,z3,z4,z5,z6,z7,z8,z9⟩:=R2.c10) | fail "none")
 go_wp2_with fail
 go_ret
 exact ⟨by first | rfl | (simp;rw [show IntKind.i64.wrap 2=2 from IntWalk.i64_in _ (by omega),hw]),BA.out.trans (hb2.mono BA.out.size)⟩
theorem ringhome_any (p:Option Addr) (g:Geo.G) (hg:Geo.May g) (b:Int) (hb : -9223372036854775808<=b/\b<=9223372036854775807) (w:World) :
  Calls Tryz.prog 144 #[ringV p g,.int .i64 b] w fun e w'=>e=.returned (.bool (Geo.home g b))/\Below w.heap.size w w':=by
 have q:=hid (where_any g hg b hb)
 rw [<- Geo.home_where hg b]
 clear hg
 unfold ringV
 obtain ⟨g1,g2,g3,g4,g5,g6,g7,g8,g9⟩:=g
 dsimp only [Geo.cells] at q ⊢
 generalize Geo.whereG ⟨g1,g2,g3,g4,g5,g6,g7,g8,g9⟩ b=W at *
 have R0:=Row.new w 34 [.pointer p,.int .i64 g1,.int .i64 g2,.int .i64 g3,.int .i64 g4,.int .i64 g5,.int .i64 g6,.int .i64 g7,.int .i64 g8,.int .i64 g9] rfl
 obtain ⟨k0,k1,k2,k3,k4,k5,k6,k7,k8,k9⟩:=R0.c10
 have HR:=hid R0
 have BA:=hid ((Below.refl w.heap.size w).alloc (Nat.le_refl _) (.cells #[.pointer p,.int .i64 g1,.int .i64 g2,.int .i64 g3,.int .i64 g4,.int .i64 g5,.int .i64 g6,.int .i64 g7,.int .i64 g8,.int .i64 g9] 34))
 clear R0
 have ARM:True:=trivial
 by_cases h0:0<=b
 ·by_cases h1:0<=W
  ·go_enter Tryz.func144,Tryz.ntmps144;go_wp2_with fail;refine (q.out _).mono ?_;rintro e w1 ⟨rfl,hb1⟩;have R1:=HR.out.below hb1 (by simp);obtain ⟨z0,z1,z2,z3,z4,z5,z6,z7,z8,z9⟩:=R1.c10;go_wp2_with fail;refine (q.out _).mono ?_;rintro e w2 ⟨rfl,hb2⟩;by_cases h2:W=1
   ·go_wp2_with fail;go_ret;exact ⟨by first | (simp [h0,h1,h2];done) | (simp [h0,h1,h2];rfl),BA.out.trans ((hb1.trans (hb2.mono hb1.size)).mono (by simp))⟩
   go_wp2_with fail;go_ret;exact ⟨by first | (simp [h0,h1,h2];done) | (simp [h0,h1,h2];rfl),BA.out.trans ((hb1.trans (hb2.mono hb1.size)).mono (by simp))⟩
  go_enter Tryz.func144,Tryz.ntmps144;go_wp2_with fail;refine (q.out _).mono ?_;rintro e w1 ⟨rfl,hb1⟩;go_wp2_with fail;go_ret;exact ⟨by first | (simp [h0,h1];done) | (simp [h0,h1];omega),BA.out.trans (hb1.mono (by simp))⟩
 ·go_enter Tryz.func144,Tryz.ntmps144;go_wp2_with fail;go_ret;exact ⟨by first | (simp [h0];done) | (simp [h0];omega),BA.out⟩
end Go.Proofs.YtnpdhidliaahbaaGreat
