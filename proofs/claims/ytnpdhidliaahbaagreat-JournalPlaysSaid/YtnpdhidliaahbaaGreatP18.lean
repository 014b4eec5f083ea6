/- The journal's ring: write, begin. -/
import Derived.Test.YtnpdhidliaahbaaGreatP13
import Derived.Test.YtnpdhidliaahbaaGreatP17
import Derived.Laws.EntriesVeiled
import Derived.Test.YtnpdhidliaahbaaGreatP07
set_option maxRecDepth 100000
set_option maxHeartbeats 32000000
set_option linter.unusedSimpArgs false
set_option linter.unusedVariables false
namespace Go.Proofs.YtnpdhidliaahbaaGreat
open Go.Lib (hid)
open Go Go.RowKit
theorem ringwrite_any (db:Nat) (g:Geo.G) (b:Int) (s:ByteArray) (hs:s.size<=9223372036854775807) (w:World) :
  Calls Tryz.prog 63 #[ringV (some ⟨db,0,none⟩) g,.int .i64 b,.string s] w fun e w'=>∃ v,e=.returned v/\ActAt w.heap.size db w' v (.write b s)/\Below w.heap.size w w':=by
 unfold ringV
 obtain ⟨g1,g2,g3,g4,g5,g6,g7,g8,g9⟩:=g
 dsimp only at *
 have R0:=((Row.new w 34 [.pointer (some ⟨db,0,none⟩),.int .i64 g1,.int .i64 g2,.int .i64 g3,.int .i64 g4,.int .i64 g5,.int .i64 g6,.int .i64 g7,.int .i64 g8,.int .i64 g9] rfl).alloc (.cells #[.int .i64 b] 3)).alloc (.cells #[.string s] 9)
 have R1:=(Row.new (w.alloc (.cells #[.pointer (some ⟨db,0,none⟩),.int .i64 g1,.int .i64 g2,.int .i64 g3,.int .i64 g4,.int .i64 g5,.int .i64 g6,.int .i64 g7,.int .i64 g8,.int .i64 g9] 34)) 3 [.int .i64 b] rfl).alloc (.cells #[.string s] 9)
 have R2:=Row.new ((w.alloc (.cells #[.pointer (some ⟨db,0,none⟩),.int .i64 g1,.int .i64 g2,.int .i64 g3,.int .i64 g4,.int .i64 g5,.int .i64 g6,.int .i64 g7,.int .i64 g8,.int .i64 g9] 34)).alloc (.cells #[.int .i64 b] 3)) 9 [.string s] rfl
 have c1:=R0.cellAt 0 rfl
 have c2:=R1.cellAt 0 rfl
 have c3:=R2.cellAt 0 rfl
 rw [World.size_alloc] at c2
 rw [World.size_alloc,World.size_alloc] at c3
 have C1:=hid c1
 have C2:=hid c2
 have C3:=hid c3
 clear R0 R1 R2 c1 c2 c3
 go_enter Tryz.func63,Tryz.ntmps63
 go_wp2_with fail
 go_ret
 exact ⟨_,rfl,⟨w.heap.size,w.heap.size+1,w.heap.size+1+1,rfl,Nat.le_refl _,by omega,by omega,C1.out,C2.out,C3.out,hs⟩,(((Below.refl _ _).alloc (Nat.le_refl _) _).alloc (by simp) _).alloc (by simp;omega) _⟩
namespace Jr
open Go.Lib (hid)
def headA (a seq:Nat):List Act:=[.flush,.write 1 (headB a seq),.flush]
theorem headB_size {a seq:Nat} (h:a<=510):(headB a seq).size=128:=by unfold headB;rw [txt_size,Rec.rb_length (head_may h)]
end Jr
theorem recat_lit (w:World) (k a:Int) (q s:Nat) (hk : -9223372036854775808<=k/\k<=9223372036854775807) (ha : -9223372036854775808<=a/\a<=9223372036854775807) (hq:q < 2 ^ 64) (hs:s < 2 ^ 32):RecAt w (.agg #[.int .i64 k,.int .u64 (q:Int),.int .i64 a,.slice none 0 0,.slice none 0 0,.int .u32 (s:Int)]) ⟨k,q,a,[],[],s⟩:=
 ⟨⟨_,_,rfl,.inl ⟨rfl,rfl⟩,.inl ⟨rfl,rfl⟩⟩,hq,hs,hk,ha,by dsimp only;simp⟩
theorem acts_lit {M db cap:Nat} {w:World} (T:TypeId) (vs:List Value) (l:List Jr.Act) (hM:M<=w.heap.size) (hl:vs.length=l.length) (h:∀ (i:Nat) (a:Jr.Act),l[i]?=some a->∀ u,vs[i]?=some u->ActAt M db w u a):ActsAt M db (w.alloc (.cells vs.toArray T)) (.slice (some ⟨w.heap.size,0,none⟩) l.length cap) l:=by
 refine .inr ⟨w.heap.size,0,cap,rfl,hM,fun i a hi=>?_⟩;have hlt:i < l.length:=(List.getElem?_eq_some_iff.1 hi).1;have hu:vs[i]?=some vs[i]:=List.getElem?_eq_getElem (by omega);refine ⟨vs[i],?_,(h i a hi _ hu).above (Above.ofBelow ((Below.refl _ _).alloc (Nat.le_refl _) _))⟩;rw [Nat.zero_add,cell_of_row _ _ _ _ _ _ (heap_alloc_new w _)];simp
theorem begin_any (db:Nat) (g:Geo.G) (hg:Geo.May g) (n seq:Nat) (hn:n<=4611686018427387904) (hq:seq < 2 ^ 64) (w:World) :
  Calls Tryz.prog 65 #[ringV (some ⟨db,0,none⟩) g,.int .i64 (n:Int),.int .u64 (seq:Int)] w fun e w'=>∃ v,e=.returned v/\ActsAt w.heap.size db w' v (Jr.headA (n % Jr.plc g) seq)/\Below w.heap.size w w':=by
 have q:=hid (places_any (some ⟨db,0,none⟩) g hg)
 have hp:=Jr.plc_of hg
 have h0:=hg.ok.2.1
 have hmod:((n:Int)).tmod ((Jr.plc g:Nat):Int)=((n % Jr.plc g:Nat):Int):=by rw [Int.tmod_eq_emod_of_nonneg (by omega)];simp
 have hmod2:(n:Int) % ((Jr.plc g:Nat):Int)=((n % Jr.plc g:Nat):Int):=by simp
 have hlt:=Nat.mod_lt n (show 0 < Jr.plc g by omega)
 clear hg
 generalize n % Jr.plc g=m at *
 generalize Jr.plc g=P at *
 have hP0:¬ ((P:Nat):Int)=0:=by omega
 have hP1:¬ P=0:=by omega
 have hm510:m<=510:=by omega
 have hw2:IntKind.i64.wrap ((m:Int))=(m:Int):=IntWalk.i64_in _ (by omega)
 have hr:Hid (∀ w,Calls Tryz.prog 103 #[.agg #[.int .i64 1,.int .u64 (seq:Int),.int .i64 (m:Int),.slice none 0 0,.slice none 0 0,.int .u32 0]] w fun e w'=>e=.returned (.string (Jr.headB m seq))/\Below w.heap.size w w'):=hid (fun w=>by
  have:=record_any _ (Jr.headV m seq) w (recat_lit w 1 (m:Int) seq 0 (by omega) (by omega) hq (by decide));rw [show (Rec.encR (Jr.headV m seq)).1=Rec.rb (Jr.headV m seq) by unfold Rec.encR;rw [if_pos (Jr.head_may hm510)]] at this;exact this)
 have hsz:(Jr.headB m seq).size<=9223372036854775807:=by rw [Jr.headB_size hm510];decide
 unfold Jr.headA
 have qw:=hid (fun w=>ringwrite_any db g 1 (Jr.headB m seq) hsz w)
 clear hp hlt
 generalize Jr.headB m seq=HB at *
 unfold ringV at *
 obtain ⟨g1,g2,g3,g4,g5,g6,g7,g8,g9⟩:=g
 dsimp only at *
 subst h0
 have R0:=Row.new w 34 [.pointer (some ⟨db,0,none⟩),.int .i64 g1,.int .i64 g2,.int .i64 g3,.int .i64 1,.int .i64 g5,.int .i64 g6,.int .i64 g7,.int .i64 g8,.int .i64 g9] rfl
 obtain ⟨k0,k1,k2,k3,k4,k5,k6,k7,k8,k9⟩:=R0.c10
 have HR:=hid R0
 have BA:=hid ((Below.refl w.heap.size w).alloc (Nat.le_refl _) (.cells #[.pointer (some ⟨db,0,none⟩),.int .i64 g1,.int .i64 g2,.int .i64 g3,.int .i64 1,.int .i64 g5,.int .i64 g6,.int .i64 g7,.int .i64 g8,.int .i64 g9] 34))
 have HX:w.heap.size < (w.alloc (.cells #[.pointer (some ⟨db,0,none⟩),.int .i64 g1,.int .i64 g2,.int .i64 g3,.int .i64 1,.int .i64 g5,.int .i64 g6,.int .i64 g7,.int .i64 g8,.int .i64 g9] 34)).heap.size:=by simp
 clear R0
 go_enter Tryz.func65,Tryz.ntmps65
 go_wp2_with fail
 generalize w.alloc _=w1 at *
 go_region_held3 (fun w'=>w'.cell? ⟨w.heap.size,0,none⟩=some (.pointer (some ⟨db,0,none⟩))/\w'.cell? ⟨w.heap.size,1,none⟩=some (.int .i64 g1)/\w'.cell? ⟨w.heap.size,2,none⟩=some (.int .i64 g2)/\w'.cell? ⟨w.heap.size,3,none⟩=some (.int .i64 g3)/\w'.cell? ⟨w.heap.size,4,none⟩=some (.int .i64 1)/\w'.cell? ⟨w.heap.size,5,none⟩=some (.int .i64 g5)/\w'.cell? ⟨w.heap.size,6,none⟩=some (.int .i64 g6)/\w'.cell? ⟨w.heap.size,7,none⟩=some (.int .i64 g7)/\w'.cell? ⟨w.heap.size,8,none⟩=some (.int .i64 g8)/\w'.cell? ⟨w.heap.size,9,none⟩=some (.int .i64 g9))
  (first | exact ⟨k0,k1,k2,k3,k4,k5,k6,k7,k8,k9⟩ | exact ⟨z0,z1,z2,z3,z4,z5,z6,z7,z8,z9⟩ | exact ⟨y0,y1,y2,y3,y4,y5,y6,y7,y8,y9⟩ | exact ⟨u0,u1,u2,u3,u4,u5,u6,u7,u8,u9⟩ | exact ⟨t0 _,t1 _,t2 _,t3 _,t4 _,t5 _,t6 _,t7 _,t8 _,t9 _⟩)
  (first | (go_at_call 66;refine (q.out _).mono ?_;rintro e w2 ⟨rfl,hb2'⟩;have hb2:Below w1.heap.size w1 w2:=⟨hb2'.os,hb2'.tape,hb2'.output,hb2'.size,hb2'.block⟩;have R2:=HR.out.below hb2 HX;obtain ⟨z0,z1,z2,z3,z4,z5,z6,z7,z8,z9⟩:=R2.c10) | (go_at_call 103;refine (hr.out _).mono ?_;rintro e w3 ⟨rfl,hb3'⟩;have hb3:Below w1.heap.size w1 w3:=hb2.trans (Below.mono ⟨hb3'.os,hb3'.tape,hb3'.output,hb3'.size,hb3'.block⟩ hb2.size);have R3:=HR.out.below hb3 HX;obtain ⟨y0,y1,y2,y3,y4,y5,y6,y7,y8,y9⟩:=R3.c10) | (go_at_call 63;refine (qw.out _).mono ?_;rintro e w4 ⟨_,rfl,⟨x1,x2,x3,rfl,hx1,hx2,hx3,d1,d2,d3,d4⟩,hb4'⟩;have hb4:Below w1.heap.size w1 w4:=hb3.trans (Below.mono ⟨hb4'.os,hb4'.tape,hb4'.output,hb4'.size,hb4'.block⟩ hb3.size);have hs4:w3.heap.size<=x1/\w3.heap.size<=x2/\w3.heap.size<=x3:=⟨hx1,hx2,hx3⟩;have R4:=HR.out.below hb4 HX;obtain ⟨u0,u1,u2,u3,u4,u5,u6,u7,u8,u9⟩:=R4.c10;have t0:=fun o=>(R4.alloc o).cellAt 0 rfl;have t1:=fun o=>(R4.alloc o).cellAt 1 rfl;have t2:=fun o=>(R4.alloc o).cellAt 2 rfl;have t3:=fun o=>(R4.alloc o).cellAt 3 rfl;have t4:=fun o=>(R4.alloc o).cellAt 4 rfl;have t5:=fun o=>(R4.alloc o).cellAt 5 rfl;have t6:=fun o=>(R4.alloc o).cellAt 6 rfl;have t7:=fun o=>(R4.alloc o).cellAt 7 rfl;have t8:=fun o=>(R4.alloc o).cellAt 8 rfl;have t9:=fun o=>(R4.alloc o).cellAt 9 rfl) | fail "none")
 go_wp2_with fail
 all_goals
  go_ret;refine ⟨_,rfl,acts_lit _ [.func (.func 70) #[.pointer (some ⟨db,0,none⟩)] #[],.func (.func 102) #[] #[.pointer (some ⟨x1,0,none⟩),.pointer (some ⟨x2,0,none⟩),.pointer (some ⟨x3,0,none⟩)],.func (.func 70) #[.pointer (some ⟨db,0,none⟩)] #[]] [.flush,.write 1 HB,.flush] (Nat.le_trans BA.out.size hb4.size) rfl (fun i a hi u hu=>?_),(BA.out.trans (hb4.mono BA.out.size)).alloc (Nat.le_trans BA.out.size hb4.size) _⟩;rcases i with _ | _ | _ | i
  ·cases hi;cases hu;rfl
  ·cases hi;cases hu;have h3:w.heap.size<=w3.heap.size:=Nat.le_trans BA.out.size hb3.size;exact ⟨x1,x2,x3,rfl,by omega,by omega,by omega,d1,d2,d3,d4⟩
  ·cases hi;cases hu;rfl
  cases hi
end Go.Proofs.YtnpdhidliaahbaaGreat
namespace Go.Proofs.YtnpdhidliaahbaaGreat
open Go.Lib (hid)
open Go Go.RowKit
namespace Jr
open Go.Lib (hid)
def All (D:Dev) (P:List ByteArray->Prop):Prop:=∀ m,Mix D.kept D.now m->P m
theorem All.imp {D:Dev} {P Q:List ByteArray->Prop} (h:All D P) (hi:∀ m,P m->Q m):All D Q:=fun m hm=>hi m (h m hm)
theorem All.and {D:Dev} {P Q:List ByteArray->Prop} (h:All D P) (h2:All D Q):All D (fun m=>P m/\Q m):=fun m hm=>⟨h m hm,h2 m hm⟩
theorem All.atNow {D:Dev} {P:List ByteArray->Prop} (hl:D.now.length=D.kept.length) (h:All D P):P D.now:=h _ (Mix.right hl)
theorem All.same {D:Dev} {P:List ByteArray->Prop} (hk:D.kept=D.now) (h:P D.now):All D P:=fun m hm=>by
 rw [hk] at hm;rw [hm.same];exact h
theorem write_cases (D:Dev) (b:Int) (s:ByteArray):(D.writeE b s ≠ 0/\D.write b s=D) ∨ (D.writeE b s=0/\(D.write b s).kept=D.kept/\(D.write b s).now=D.now.set b.toNat s/\(D.write b s).armed=D.armed/\(D.write b s).acts=D.acts+1):=by
 by_cases h:D.writeE b s=0
 ·refine .inr ⟨h,?_⟩;unfold Dev.write;rw [if_pos h];exact ⟨rfl,rfl,rfl,rfl⟩
 ·refine .inl ⟨h,?_⟩;unfold Dev.write;rw [if_neg h]
theorem flush_cases (D:Dev):(D.flushE=61/\D.flush=D) ∨ (D.flushE=0/\D.flush.kept=D.now/\D.flush.now=D.now/\D.flush.armed=D.armed/\D.flush.acts=D.acts+1):=by
 unfold Dev.flushE Dev.flush;cases h:D.dead
 ·exact .inr ⟨rfl,rfl,rfl,rfl,rfl⟩
 ·exact .inl ⟨rfl,rfl⟩
def Act.Pres (P:List ByteArray->Prop):Act->Prop
 | .write b s=>∀ m,P m->P (m.set b.toNat s)
 | .flush=>True
theorem All.run {D:Dev} {P:List ByteArray->Prop} {a:Act} (hl:D.now.length=D.kept.length) (ha:a.Pres P) (h:All D P):All (a.run D).1 P:=by
 cases a with
 | write b s =>
  show All (D.write b s) P;rcases write_cases D b s with ⟨_,e⟩ | ⟨_,e1,e2,_⟩
  ·rw [e];exact h
  intro m hm;rw [e1,e2] at hm;obtain ⟨m0,h0,rfl | rfl⟩:=hm.set hl
  ·exact h _ h0
  exact ha _ (h _ h0)
 | flush =>
  show All D.flush P;rcases flush_cases D with ⟨_,e⟩ | ⟨_,e1,e2,_⟩
  ·rw [e];exact h
  exact All.same (by rw [e1,e2]) (by rw [e2];exact h.atNow hl)
theorem ok_run {D:Dev} {k:Nat} (h:D.Ok k) (a:Act):(a.run D).1.Ok (k+1):=by
 cases a with
 | write b s=>exact h.write b s
 | flush=>exact h.flush
theorem len_run {D:Dev} (hl:D.now.length=D.kept.length) (a:Act):(a.run D).1.kept.length=D.kept.length/\(a.run D).1.now.length=(a.run D).1.kept.length:=by
 cases a with
 | write b s =>
  show (D.write b s).kept.length=D.kept.length/\(D.write b s).now.length=(D.write b s).kept.length;rcases write_cases D b s with ⟨_,e⟩ | ⟨_,e1,e2,_⟩
  ·rw [e];exact ⟨rfl,hl⟩
  rw [e1,e2,List.length_set];exact ⟨rfl,hl⟩
 | flush =>
  show D.flush.kept.length=D.kept.length/\D.flush.now.length=D.flush.kept.length;rcases flush_cases D with ⟨_,e⟩ | ⟨_,e1,e2,_⟩
  ·rw [e];exact ⟨rfl,hl⟩
  rw [e1,e2];exact ⟨hl,rfl⟩
theorem doA_cons (a:Act) (l:List Act) (D:Dev):doA (a :: l) D=if (a.run D).2=0 then doA l (a.run D).1 else a.run D:=rfl
theorem ok_doA:∀ (l:List Act) {D:Dev} {k:Nat},D.Ok k->(doA l D).1.Ok (k+l.length)
 | [],_,_,h=>h
 | a :: l,D,k,h=>by
  rw [doA_cons,List.length_cons];split
  ·exact (ok_doA l (ok_run h a)).mono (by omega)
  ·exact (ok_run h a).mono (by omega)
theorem len_doA:∀ (l:List Act) {D:Dev},D.now.length=D.kept.length->(doA l D).1.kept.length=D.kept.length/\(doA l D).1.now.length=(doA l D).1.kept.length
 | [],_,h=>⟨rfl,h⟩
 | a :: l,D,h=>by
  have h1:=len_run h a;rw [doA_cons];split
  ·have h2:=len_doA l h1.2;exact ⟨h2.1.trans h1.1,h2.2⟩
  ·exact h1
theorem All.doA {P:List ByteArray->Prop}:∀ (l:List Act) {D:Dev},D.now.length=D.kept.length->(∀ a ∈ l,a.Pres P)->All D P->All (doA l D).1 P
 | [],_,_,_,h=>h
 | a :: l,D,hl,hp,h=>by
  have h1:=h.run hl (hp a (by simp));rw [doA_cons];split
  ·exact All.doA l (len_run hl a).2 (fun b hb=>hp b (by simp [hb])) h1
  ·exact h1
def Act.Fine (n:Nat):Act->Prop
 | .write b s=>0<=b/\b < (n:Int)/\s.size=128
 | .flush=>True
theorem run_err {D:Dev} {a:Act} (h:a.Fine D.kept.length):(a.run D).2=0 ∨ (a.run D).2=61:=by
 cases a with
 | write b s =>
  obtain ⟨h1,h2,h3⟩:=h;show D.writeE b s=0 ∨ D.writeE b s=61;have ha:D.ask b=0:=(by unfold Dev.ask;rw [if_neg (by omega)]);unfold Dev.writeE;rw [if_neg (by rw [ha];exact fun k=>k rfl),if_neg (by omega)];split
  ·exact .inr rfl
  exact .inl rfl
 | flush =>
  show D.flushE=0 ∨ D.flushE=61;rcases flush_cases D with ⟨e,_⟩ | ⟨e,_⟩
  ·exact .inr e
  exact .inl e
theorem doA_err:∀ (l:List Act) {D:Dev},D.now.length=D.kept.length->(∀ a ∈ l,a.Fine D.kept.length)->(doA l D).2=0 ∨ (doA l D).2=61
 | [],_,_,_=>.inl rfl
 | a :: l,D,hl,h=>by
  have h1:=len_run hl a;rw [doA_cons];split
  ·exact doA_err l h1.2 (fun b hb=>by rw [h1.1];exact h b (by simp [hb]))
  ·exact run_err (h a (by simp))
theorem run_alive {D:Dev} {a:Act} (ha:D.armed=false) (h:a.Fine D.kept.length):(a.run D).2=0/\(a.run D).1.armed=false/\(a.run D).1.acts=D.acts+1:=by
 have hd:D.dead=false:=(by unfold Dev.dead;rw [ha];rfl);cases a with
 | write b s =>
  obtain ⟨h1,h2,h3⟩:=h;show D.writeE b s=0/\(D.write b s).armed=false/\(D.write b s).acts=D.acts+1;have hk:D.ask b=0:=(by unfold Dev.ask;rw [if_neg (by omega)]);have e:D.writeE b s=0:=by
   unfold Dev.writeE;rw [if_neg (by rw [hk];exact fun k=>k rfl),if_neg (by omega),hd];rfl
  rcases write_cases D b s with ⟨k,_⟩ | ⟨k,e1,e2,e3,e4⟩
  ·exact absurd e k
  exact ⟨e,e3.trans ha,e4⟩
 | flush =>
  show D.flushE=0/\D.flush.armed=false/\D.flush.acts=D.acts+1;rcases flush_cases D with ⟨k,_⟩ | ⟨k,e1,e2,e3,e4⟩
  ·unfold Dev.flushE at k;rw [hd] at k;cases k
  exact ⟨k,e3.trans ha,e4⟩
theorem doA_alive:∀ (l:List Act) {D:Dev},D.now.length=D.kept.length->D.armed=false->(∀ a ∈ l,a.Fine D.kept.length)->(doA l D).2=0/\(doA l D).1.armed=false/\(doA l D).1.acts=D.acts+l.length
 | [],D,_,ha,_=>⟨rfl,ha,by show D.acts=D.acts+((0:Nat):Int);omega⟩
 | a :: l,D,hl,ha,h=>by
  have h1:=len_run hl a;have h2:=run_alive ha (h a (by simp));rw [doA_cons,if_pos h2.1];have h3:=doA_alive l h1.2 h2.2.1 (fun b hb=>by rw [h1.1];exact h b (by simp [hb]));exact ⟨h3.1,h3.2.1,by rw [h3.2.2,h2.2.2,List.length_cons];omega⟩
def applyA:List Act->List ByteArray->List ByteArray
 | [],m=>m
 | .write b s :: l,m=>applyA l (m.set b.toNat s)
 | .flush :: l,m=>applyA l m
theorem applyA_append:∀ (l r:List Act) (m:List ByteArray),applyA (l ++ r) m=applyA r (applyA l m)
 | [],r,m=>rfl
 | .write b s :: l,r,m=>applyA_append l r _
 | .flush :: l,r,m=>applyA_append l r _
theorem applyA_length:∀ (l:List Act) (m:List ByteArray),(applyA l m).length=m.length
 | [],m=>rfl
 | .write b s :: l,m=>by
  show (applyA l (m.set b.toNat s)).length=_;rw [applyA_length l,List.length_set]
 | .flush :: l,m=>applyA_length l m
theorem doA_now:∀ (l:List Act) {D:Dev},(doA l D).2=0->(doA l D).1.now=applyA l D.now
 | [],_,_=>rfl
 | a :: l,D,h=>by
  rw [doA_cons] at h ⊢;split at h
  ·rename_i k;rw [if_pos k,doA_now l h];cases a with
   | write b s =>
    rcases write_cases D b s with ⟨j,_⟩ | ⟨_,e1,e2,_⟩
    ·exact absurd k j
    show applyA l (D.write b s).now=applyA l (D.now.set b.toNat s);rw [e2]
   | flush =>
    rcases flush_cases D with ⟨j,_⟩ | ⟨_,e1,e2,_⟩
    ·have:D.flushE=0:=k;omega
    show applyA l D.flush.now=applyA l D.now;rw [e2]
  ·rename_i k;exact absurd h k
theorem doA_flushed {l:List Act} {D:Dev} (h:(doA (l ++ [.flush]) D).2=0):(doA (l ++ [.flush]) D).1.kept=applyA l D.now/\(doA (l ++ [.flush]) D).1.now=applyA l D.now/\(doA l D).2=0:=by
 have hn:=doA_now _ h;rw [doA_append] at h;split at h
 ·rename_i k;rw [applyA_append] at hn;refine ⟨?_,hn,k⟩;rw [doA_append,if_pos k];rw [doA_one] at h ⊢;show (doA l D).1.flush.kept=_;have h':(doA l D).1.flushE=0:=h;rcases flush_cases (doA l D).1 with ⟨j,_⟩ | ⟨_,e1,e2,_⟩
  ·omega
  rw [e1,doA_now l k]
 ·rename_i k;exact absurd h k
theorem Pres_applyA {P:List ByteArray->Prop}:∀ (l:List Act) (m:List ByteArray),(∀ a ∈ l,a.Pres P)->P m->P (applyA l m)
 | [],m,_,h=>h
 | .write b s :: l,m,hp,h=>Pres_applyA l _ (fun a ha=>hp a (by simp [ha])) (hp (.write b s) (by simp) m h)
 | .flush :: l,m,hp,h=>Pres_applyA l _ (fun a ha=>hp a (by simp [ha])) h
theorem head_safe {D:Dev} {A B:List ByteArray->Prop} {at_ seq:Nat} (hl:D.now.length=D.kept.length) (hn:1 < D.kept.length) (hs:(headB at_ seq).size=128) (hA:All D A) (hB:B (D.now.set 1 (headB at_ seq))) :
  ((doA (headA at_ seq) D).2=0 ∨ (doA (headA at_ seq) D).2=61)/\All (doA (headA at_ seq) D).1 (fun m=>A m ∨ B m) /\
  ((doA (headA at_ seq) D).2=0->(doA (headA at_ seq) D).1.kept=D.now.set 1 (headB at_ seq)/\(doA (headA at_ seq) D).1.now=D.now.set 1 (headB at_ seq)):=by
 refine ⟨doA_err _ hl (fun a ha=>?_),?_,fun h=>?_⟩
 ·unfold headA at ha;rcases List.mem_cons.1 ha with rfl | ha
  ·trivial
  rcases List.mem_cons.1 ha with rfl | ha
  ·exact ⟨by decide,by omega,hs⟩
  rw [List.mem_singleton.1 ha];trivial
 ·unfold headA;rw [doA_cons];rcases flush_cases D with ⟨e,e1⟩ | ⟨e,e1,e2,_⟩
  ·rw [if_neg (by show ¬ D.flushE=0;omega)];show All D.flush _;rw [e1];exact hA.imp fun m h=>.inl h
  rw [if_pos (by exact e)];show All (doA [.write 1 (headB at_ seq),.flush] D.flush).1 _;have hP:=All.doA (P:=fun m=>m=D.now ∨ m=D.now.set 1 (headB at_ seq)) [.write 1 (headB at_ seq),.flush] (D:=D.flush) (by rw [e1,e2]) (fun a ha=>by
   rcases List.mem_cons.1 ha with rfl | ha
   ·rintro m (rfl | rfl)
    ·exact .inr rfl
    exact .inr (List.set_set ..)
   rw [List.mem_singleton.1 ha];trivial) (All.same (by rw [e1,e2]) (.inl e2))
  exact hP.imp fun m hm=>by
   rcases hm with rfl | rfl
   ·exact .inl (hA.atNow hl)
   exact .inr hB
 ·have:=doA_flushed (l:=[.flush,.write 1 (headB at_ seq)]) h;exact ⟨this.1,this.2.1⟩
def wr (c:Chg):Act:=.write c.1 c.2
def ringW (g:Geo.G):Nat->List ByteArray->List Act
 | _,[]=>[]
 | p,s :: bs=>.write (pb g p:Nat) s :: ringW g (p+1) bs
def commitA (g:Geo.G) (t:Txn) (seq place:Nat) (data:List Chg):List Act:=data.map wr ++ ringW g place (body t seq) ++ [.flush,.write (pb g (place+(size t - 1)):Nat) (lastB t seq),.flush]
theorem ringW_append (g:Geo.G):∀ (a b:List ByteArray) (p:Nat),ringW g p (a ++ b)=ringW g p a ++ ringW g (p+a.length) b
 | [],b,p=>rfl
 | s :: a,b,p=>by
  show _ :: ringW g (p+1) (a ++ b)=_ :: (ringW g (p+1) a ++ _);rw [ringW_append g a b (p+1),List.length_cons,show p+1+a.length=p+(a.length+1) by omega]
theorem ringW_mem {g:Geo.G}:∀ {bs:List ByteArray} {p:Nat} {a:Act},a ∈ ringW g p bs->∃ i s,i < bs.length/\s ∈ bs/\a=.write (pb g (p+i):Nat) s
 | s :: bs,p,a,h=>by
  rcases List.mem_cons.1 h with rfl | h
  ·exact ⟨0,s,by simp,by simp,rfl⟩
  ·obtain ⟨i,s',hi,hs,rfl⟩:=ringW_mem h;exact ⟨i+1,s',by simp;omega,by simp [hs],by rw [show p+(i+1)=p+1+i by omega]⟩
theorem ringW_blk {g:Geo.G}:∀ (bs:List ByteArray) (p:Nat) (m:List ByteArray) (b:Nat),(∀ i,i < bs.length->b ≠ pb g (p+i))->blk (applyA (ringW g p bs) m) b=blk m b
 | [],p,m,b,_=>rfl
 | s :: bs,p,m,b,h=>by
  show blk (applyA (ringW g (p+1) bs) (m.set ((pb g p:Nat):Int).toNat s)) b=_;rw [ringW_blk bs (p+1) _ b (fun i hi=>by
   have:=h (i+1) (by simp;omega);rwa [show p+(i+1)=p+1+i by omega] at this),blk_set,if_neg]
  rintro ⟨e,_⟩;exact h 0 (by simp) (by simpa using e)
theorem ringW_body {g:Geo.G} (hg:Geo.May g):∀ (bs:List ByteArray) (p:Nat) (m:List ByteArray),m.length=g.blocks.toNat->bs.length<=plc g->Body g (applyA (ringW g p bs) m) p bs
 | [],p,m,_,_=>rfl
 | s :: bs,p,m,hm,hl=>by
  rw [List.length_cons] at hl;have hpl:=plc_of hg;have ih:=ringW_body hg bs (p+1) (m.set ((pb g p:Nat):Int).toNat s) (by rw [List.length_set];exact hm) (by omega);unfold Body at ih ⊢;show blk _ (pb g p) :: ring g _ (p+1) bs.length=s :: bs;have e:applyA (ringW g p (s :: bs)) m=applyA (ringW g (p+1) bs) (m.set ((pb g p:Nat):Int).toNat s):=rfl;rw [e,ih,ringW_blk bs (p+1) _ (pb g p) (fun i hi k=>by
   have h2:=pb_inj k;have:=mod_ne (a:=p) (n:=plc g) (i:=0) (j:=i+1) (by omega) (by omega) (by omega) (by rw [show p+(i+1)=p+1+i by omega];exact h2);omega),blk_set,if_pos ⟨by simp,by have:=pb_lt hg p;simp;omega⟩]
theorem pb_place {g:Geo.G} {p q i:Nat} (h:p % plc g=q % plc g):pb g (p+i)=pb g (q+i):=by
 unfold pb;rw [Nat.add_mod p,h,<- Nat.add_mod]
theorem body_fine {g:Geo.G} {t:Txn} {seq:Nat} (hg:Geo.May g) (ht:Ok (Geo.home g) t):∀ s ∈ body t seq,s.size=128:=by
 intro s hs;unfold body at hs;rcases List.mem_append.1 hs with h | h
 ·obtain ⟨c,hc,rfl⟩:=List.mem_map.1 h;have hc2:=chunks_mem (n:=28) (by decide) t.rv c hc;unfold revB;rw [txt_size,Rec.rb_length (rev_may (seq:=seq) (small_home hg) (chunks_ups (by decide) ht.rv c hc) hc2.1 hc2.2.1)]
 ·obtain ⟨c,hc,h⟩:=List.mem_flatMap.1 h;have hc2:=chunks_mem (n:=24) (by decide) t.ch c hc;unfold descB at h;rcases List.mem_cons.1 h with rfl | h
  ·rw [txt_size,Rec.rb_length (desc_may (seq:=seq) (small_home hg) (chunks_sub (by decide) ht.ch c hc) hc2.1 hc2.2.1)]
  obtain ⟨y,hy,rfl⟩:=List.mem_map.1 h;unfold maskB;rw [txt_size];have:=Rec.mask_length y.2.data.toList;have h2:=ht.data y (hc2.2.2 y hy);have h3:y.2.data.toList.length=y.2.size:=Array.length_toList;omega
theorem last_size {t:Txn} {seq:Nat}:(lastB t seq).size=128:=by
 unfold lastB;rw [txt_size,Rec.rb_length last_may]
def Beside (g:Geo.G) (P:List ByteArray->Prop):Prop:=∀ m b s,1<=b->b < 1+g.log.toNat->P m->P (m.set b s)
theorem home_iff {g:Geo.G} {b:Int}:Geo.home g b=true ↔ (0<=b/\b < g.blocks/\(b < 1 ∨ 1+g.log<=b)):=by
 unfold Geo.home;rw [decide_eq_true_eq]
theorem commit_safe {g:Geo.G} {D:Dev} {at_ q place:Nat} {l:List Txn} {t:Txn} {data:List Chg} {P:List ByteArray->Prop} (hg:Geo.May g) (hl:D.now.length=D.kept.length) (hn:(D.kept.length:Int)=g.blocks) (hS:All D (fun m=>P m/\Stand g m at_ q l)) (hP:Beside g P) (ht:Ok (Geo.home g) t) (hf:sizes l+size t<=plc g) (hq:q+l.length+1 < 2 ^ 62)
  (hp:place % plc g=(at_+sizes l) % plc g) (hd:∀ c ∈ data,Geo.home g c.1=true/\c.2.size=128/\∀ m,P m->P (m.set c.1.toNat c.2)) :
  ((doA (commitA g t (q+l.length) place data) D).2=0 ∨ (doA (commitA g t (q+l.length) place data) D).2=61) /\
  All (doA (commitA g t (q+l.length) place data) D).1 (fun m=>P m/\(Stand g m at_ q l ∨ Stand g m at_ q (l ++ [t]))) /\
  ((doA (commitA g t (q+l.length) place data) D).2=0->All (doA (commitA g t (q+l.length) place data) D).1 (fun m=>P m/\Stand g m at_ q (l ++ [t]))/\(doA (commitA g t (q+l.length) place data) D).1.kept=(doA (commitA g t (q+l.length) place data) D).1.now):=by
 have hpl:=plc_of hg
 have hsp:=size_pos t
 have hbl:=body_length t (q+l.length)
 have hpb:∀ i,pb g (place+i)=pb g (at_+(sizes l+i)):=fun i=>by rw [pb_place hp,Nat.add_assoc]
 obtain ⟨L1,hL1⟩:∃ L1,data.map wr ++ ringW g place (body t (q+l.length))=L1:=⟨_,rfl⟩
 have hfine1:∀ a ∈ L1,a.Fine D.kept.length/\a.Pres (fun m=>P m/\Stand g m at_ q l):=by
  intro a ha;rw [<- hL1] at ha;rcases List.mem_append.1 ha with h | h
  ·obtain ⟨c,hc,rfl⟩:=List.mem_map.1 h;obtain ⟨h1,h2,h3⟩:=hd c hc;have h4:=home_iff.1 h1;have h0:=hg.ok.1;unfold Geo.asked at h0;refine ⟨⟨by omega,by omega,h2⟩,fun m hm=>⟨h3 m hm.1,hm.2.other hg (by omega) _⟩⟩
  obtain ⟨i,s,hi,hs,rfl⟩:=ringW_mem h;have h1:=pb_lt hg (place+i);refine ⟨⟨by omega,by omega,body_fine hg ht s hs⟩,fun m hm=>⟨hP m _ _ (by omega) (by simp;omega) hm.1,?_⟩⟩;show Stand g (m.set ((pb g (place+i):Nat):Int).toNat s) at_ q l;rw [Int.toNat_natCast,hpb];exact hm.2.behind hg (by omega) (by omega) (body_old (small_home hg) ht (by omega) s hs)
 have hall:commitA g t (q+l.length) place data=(L1 ++ [.flush]) ++ [.write (pb g (place+(size t - 1)):Nat) (lastB t (q+l.length)),.flush]:=by
  unfold commitA;rw [hL1,List.append_assoc];rfl
 have hlast:=pb_lt hg (place+(size t - 1))
 have hfine:∀ a ∈ commitA g t (q+l.length) place data,a.Fine D.kept.length:=by
  intro a ha;rw [hall,List.append_assoc] at ha;rcases List.mem_append.1 ha with h | h
  ·exact (hfine1 a h).1
  simp only [List.singleton_append,List.mem_cons,List.not_mem_nil,or_false] at h;rcases h with rfl | rfl | rfl
  ·trivial
  ·exact ⟨by omega,by omega,last_size⟩
  trivial
 have hpre:∀ a ∈ L1 ++ [.flush],a.Pres (fun m=>P m/\Stand g m at_ q l):=by
  intro a ha;rcases List.mem_append.1 ha with h | h
  ·exact (hfine1 a h).2
  rw [List.mem_singleton.1 h];trivial
 have hA:=hS.doA (L1 ++ [.flush]) hl hpre
 refine ⟨doA_err _ hl hfine,?_,?_⟩
 ·rw [hall,doA_append];split
  ·rename_i k;obtain ⟨e1,e2,e3⟩:=doA_flushed k;have hN:P (applyA L1 D.now)/\Stand g (applyA L1 D.now) at_ q l:=Pres_applyA L1 D.now (fun a ha=>(hfine1 a ha).2) (hS.atNow hl);have hB:Body g (applyA L1 D.now) (at_+sizes l) (body t (q+l.length)):=by
    rw [<- hL1,applyA_append];have:=ringW_body hg (body t (q+l.length)) place (applyA (data.map wr) D.now) (by rw [applyA_length];omega) (by omega);unfold Body at this ⊢;rwa [ring_mod g _ _ _ _ hp] at this
   have hlen:(applyA L1 D.now).length=g.blocks.toNat:=(by rw [applyA_length];omega);have hst:=hN.2.last hg hlen ht hf (by omega) hB;rw [<- hpb] at hst;generalize applyA L1 D.now=N at *;have hP2:=All.doA (P:=fun m=>m=N ∨ m=N.set (pb g (place+(size t - 1))) (lastB t (q+l.length))) [.write (pb g (place+(size t - 1)):Nat) (lastB t (q+l.length)),.flush] (D:=(doA (L1 ++ [.flush]) D).1) (by rw [e1,e2]) (fun a ha=>by
    rcases List.mem_cons.1 ha with rfl | ha
    ·rintro m (rfl | rfl)
     ·exact .inr (by rw [Int.toNat_natCast])
     exact .inr (by rw [Int.toNat_natCast,List.set_set])
    rw [List.mem_singleton.1 ha];trivial) (All.same (by rw [e1,e2]) (.inl e2))
   exact hP2.imp fun m hm=>by
    rcases hm with rfl | rfl
    ·exact ⟨hN.1,.inl hN.2⟩
    exact ⟨hP _ _ _ (by omega) (by omega) hN.1,.inr hst⟩
  exact hA.imp fun m hm=>⟨hm.1,.inl hm.2⟩
 ·intro k;have k2:(doA ((L1 ++ [.flush,.write (pb g (place+(size t - 1)):Nat) (lastB t (q+l.length))]) ++ [.flush]) D).2=0:=by
   rw [<- k,hall,List.append_assoc,List.append_assoc];rfl
  obtain ⟨e1,e2,e3⟩:=doA_flushed k2;have e0:commitA g t (q+l.length) place data=(L1 ++ [.flush,.write (pb g (place+(size t - 1)):Nat) (lastB t (q+l.length))]) ++ [.flush]:=by
   rw [hall,List.append_assoc,List.append_assoc];rfl
  rw [e0];refine ⟨All.same (by rw [e1,e2]) ?_,by rw [e1,e2]⟩;rw [e2,applyA_append];have hN:P (applyA L1 D.now)/\Stand g (applyA L1 D.now) at_ q l:=Pres_applyA L1 D.now (fun a ha=>(hfine1 a ha).2) (hS.atNow hl);have hB:Body g (applyA L1 D.now) (at_+sizes l) (body t (q+l.length)):=by
   rw [<- hL1,applyA_append];have:=ringW_body hg (body t (q+l.length)) place (applyA (data.map wr) D.now) (by rw [applyA_length];omega) (by omega);unfold Body at this ⊢;rwa [ring_mod g _ _ _ _ hp] at this
  have hlen:(applyA L1 D.now).length=g.blocks.toNat:=(by rw [applyA_length];omega);have hst:=hN.2.last hg hlen ht hf (by omega) hB;rw [<- hpb] at hst;show P (List.set _ ((pb g (place+(size t - 1)):Nat):Int).toNat _)/\Stand g (List.set _ ((pb g (place+(size t - 1)):Nat):Int).toNat _) _ _ _;rw [Int.toNat_natCast];exact ⟨hP _ _ _ (by omega) (by omega) hN.1,hst⟩
end Jr
end Go.Proofs.YtnpdhidliaahbaaGreat
namespace Go.Proofs.YtnpdhidliaahbaaGreat
open Go.Lib (hid)
open Go Go.RowKit
namespace Jr
open Go.Lib (hid)
theorem find_rev {t:Txn} {b:Int} {c:Chg} (h:t.ch.reverse.find? (fun c=>c.1 == b)=some c):c ∈ t.ch/\c.1=b:=by
 refine ⟨List.mem_reverse.1 (List.mem_of_find?_eq_some h),?_⟩;have:=List.find?_some h;simpa using this
theorem look1_some {hm:Int->Bool} {t:Txn} (ht:Ok hm t) {b:Int} {o:Option ByteArray} {s:ByteArray} (h:look1 t b o=some s):(hm b=true/\s.size=128) ∨ o=some s:=by
 unfold look1 at h;split at h
 ·cases h
 ·split at h
  ·rename_i c hc;obtain ⟨h1,h2⟩:=find_rev hc;injection h with h
   refine .inl ⟨?_,by rw [<- h];exact ht.data c h1⟩;rw [<- h2];exact ht.ch.1 _ (List.mem_map.2 ⟨c,h1,rfl⟩)
  exact .inr h
theorem look_some {hm:Int->Bool}:∀ (n:Nat) (l:List Txn),l.length=n->(∀ t ∈ l,Ok hm t)->∀ {b:Int} {s:ByteArray},look l b=some s->hm b=true/\s.size=128
 | 0,l,hn,_,b,s,h=>by
  obtain rfl:l = []:=List.length_eq_zero_iff.1 hn;cases h
 | n+1,l,hn,hl,b,s,h=>by
  rcases List.eq_nil_or_concat l with rfl | ⟨l',t,rfl⟩
  ·cases hn
  rw [List.concat_eq_append] at *;rw [look_snoc] at h;rcases look1_some (hl t (by simp)) h with h | h
  ·exact h
  exact look_some n l' (by simpa using hn) (fun u hu=>hl u (by simp [hu])) h
theorem applyA_wr {b:Nat} {s:ByteArray}:∀ (L:List Chg) (m:List ByteArray),b < m.length->(∀ c ∈ L,0<=c.1)->(∀ c ∈ L,c.1=(b:Int)->c.2=s)->((∃ c ∈ L,c.1=(b:Int)) ∨ blk m b=s)->blk (applyA (L.map wr) m) b=s
 | [],m,_,_,_,h=>by
  rcases h with ⟨c,hc,_⟩ | h
  ·cases hc
  ·exact h
 | c :: L,m,hb,h0,hs,h=>by
  show blk (applyA (L.map wr) (m.set c.1.toNat c.2)) b=s;have hc0:=h0 c (by simp);refine applyA_wr L _ (by rw [List.length_set];exact hb) (fun d hd=>h0 d (by simp [hd])) (fun d hd=>hs d (by simp [hd])) ?_;by_cases e:c.1=(b:Int)
  ·right;rw [blk_set,if_pos ⟨by omega,by omega⟩];exact hs c (by simp) e
  rcases h with ⟨d,hd,he⟩ | h
  ·rcases List.mem_cons.1 hd with rfl | hd
   ·exact absurd he e
   exact .inl ⟨d,hd,he⟩
  right;rw [blk_set,if_neg (by omega)];exact h
theorem comes_mem {n:Nat} {l:List Txn} {c:Chg}:c ∈ comes n l ↔ ∃ b:Nat,b < n/\c.1=(b:Int)/\look l c.1=some c.2:=by
 unfold comes;rw [List.mem_filterMap];constructor
 ·rintro ⟨b,hb,h⟩;cases e:look l b with
  | none=>rw [e] at h;cases h
  | some s =>
   rw [e] at h;injection h with h
   subst h;exact ⟨b,List.mem_range.1 hb,rfl,e⟩
 ·rintro ⟨b,hb,h1,h2⟩;obtain ⟨c1,c2⟩:=c;dsimp only at h1 h2;subst h1;exact ⟨b,List.mem_range.2 hb,by rw [h2];rfl⟩
def replayA (g:Geo.G) (l:List Txn) (place seq:Nat):List Act:=(comes g.blocks.toNat l).map wr ++ headA place seq
theorem replay_safe {g:Geo.G} {D:Dev} {at_ q:Nat} {l:List Txn} (hg:Geo.May g) (hk:D.kept=D.now) (hn:(D.kept.length:Int)=g.blocks) (hS:Stand g D.now at_ q l) :
  ((doA (replayA g l ((at_+sizes l) % plc g) (q+l.length)) D).2=0 ∨ (doA (replayA g l ((at_+sizes l) % plc g) (q+l.length)) D).2=61) /\
  All (doA (replayA g l ((at_+sizes l) % plc g) (q+l.length)) D).1 (fun m=>(Stand g m at_ q l/\∀ b:Nat,Geo.home g b=true->val m l b=val D.now l b) ∨ (Stand g m ((at_+sizes l) % plc g) (q+l.length) []/\∀ b:Nat,Geo.home g b=true->blk m b=val D.now l b)) /\
  ((doA (replayA g l ((at_+sizes l) % plc g) (q+l.length)) D).2=0->(doA (replayA g l ((at_+sizes l) % plc g) (q+l.length)) D).1.kept=(doA (replayA g l ((at_+sizes l) % plc g) (q+l.length)) D).1.now/\Stand g (doA (replayA g l ((at_+sizes l) % plc g) (q+l.length)) D).1.now ((at_+sizes l) % plc g) (q+l.length) []/\∀ b:Nat,Geo.home g b=true->blk (doA (replayA g l ((at_+sizes l) % plc g) (q+l.length)) D).1.now b=val D.now l b):=by
 have hpl:=plc_of hg
 have h0:=hg.ok.1
 unfold Geo.asked at h0
 have hl:D.now.length=D.kept.length:=by rw [hk]
 have hlt:(at_+sizes l) % plc g < plc g:=Nat.mod_lt _ (by omega)
 obtain ⟨p,hp⟩:∃ p,(at_+sizes l) % plc g=p:=⟨_,rfl⟩
 rw [hp] at hlt ⊢
 obtain ⟨C,hC⟩:∃ C,comes g.blocks.toNat l=C:=⟨_,rfl⟩
 have hCm:∀ c ∈ C,(∃ b:Nat,b < g.blocks.toNat/\c.1=(b:Int))/\look l c.1=some c.2/\Geo.home g c.1=true/\c.2.size=128:=by
  intro c hc;rw [<- hC] at hc;obtain ⟨b,h1,h2,h3⟩:=comes_mem.1 hc;exact ⟨⟨b,h1,h2⟩,h3,look_some _ l rfl hS.ok h3⟩
 unfold replayA
 rw [hC]
 have hfine:∀ a ∈ C.map wr,a.Fine D.kept.length/\a.Pres (fun m=>Stand g m at_ q l/\∀ b:Nat,Geo.home g b=true->val m l b=val D.now l b):=by
  intro a ha;obtain ⟨c,hc,rfl⟩:=List.mem_map.1 ha;obtain ⟨⟨b,h1,h2⟩,h3,h4,h5⟩:=hCm c hc;have h6:=home_iff.1 h4;refine ⟨⟨by omega,by omega,h5⟩,fun m hm=>⟨hm.1.other hg (by omega) _,fun b' hb'=>?_⟩⟩;rw [<- hm.2 b' hb'];unfold val;cases e:look l b' with
  | some s=>rfl
  | none =>
   rw [blk_set,if_neg];rintro ⟨e1,_⟩;rw [show ((b':Nat):Int)=c.1 by omega,h3] at e;cases e
 have hA0:All D (fun m=>Stand g m at_ q l/\∀ b:Nat,Geo.home g b=true->val m l b=val D.now l b):=All.same hk ⟨hS,fun _ _=>rfl⟩
 have hA1:=hA0.doA (C.map wr) hl (fun a ha=>(hfine a ha).2)
 have hl1:=len_doA (C.map wr) hl
 have hhs:(headB p (q+l.length)).size=128:=headB_size (by omega)
 have hNN:=Pres_applyA (C.map wr) D.now (fun a ha=>(hfine a ha).2) (hA0.atNow hl)
 have hblk:∀ b:Nat,Geo.home g b=true->blk (applyA (C.map wr) D.now) b=val D.now l b:=by
  intro b hb;have hb2:=home_iff.1 hb;cases e:look l b with
  | none =>
   have:=hNN.2 b hb;unfold val at this ⊢;rw [e] at this ⊢;exact this
  | some s =>
   have hv:val D.now l b=s:=(by unfold val;rw [e];rfl);rw [hv];refine applyA_wr C D.now (by omega) (fun c hc=>by obtain ⟨⟨b',_,h⟩,_⟩:=hCm c hc;omega) (fun c hc h=>?_) (.inl ⟨((b:Int),s),?_,rfl⟩)
   ·have:=(hCm c hc).2.1;rw [h,e] at this;injection this with this
    exact this.symm
   rw [<- hC];exact comes_mem.2 ⟨b,by omega,rfl,e⟩
 have hB:Stand g ((applyA (C.map wr) D.now).set 1 (headB p (q+l.length))) p (q+l.length) []/\∀ b:Nat,Geo.home g b=true->blk ((applyA (C.map wr) D.now).set 1 (headB p (q+l.length))) b=val D.now l b:=by
  refine ⟨Stand.anew hg (by rw [applyA_length];omega) (fun j=>hNN.1.old j) hNN.1.num hlt,fun b hb=>?_⟩;have hb2:=home_iff.1 hb;rw [blk_set,if_neg (by omega)];exact hblk b hb
 have hboth:∀ a ∈ C.map wr ++ headA p (q+l.length),a.Fine D.kept.length:=by
  intro a ha;rcases List.mem_append.1 ha with h | h
  ·exact (hfine a h).1
  unfold headA at h;simp only [List.mem_cons,List.not_mem_nil,or_false] at h;rcases h with rfl | rfl | rfl
  ·trivial
  ·exact ⟨by decide,by omega,hhs⟩
  trivial
 refine ⟨doA_err _ hl hboth,?_,fun k=>?_⟩
 ·rw [doA_append];split
  ·rename_i k;have hn1:=doA_now _ k;exact (head_safe (A:=fun m=>Stand g m at_ q l/\∀ b:Nat,Geo.home g b=true->val m l b=val D.now l b) (B:=fun m=>Stand g m p (q+l.length) []/\∀ b:Nat,Geo.home g b=true->blk m b=val D.now l b) hl1.2 (by rw [hl1.1];omega) hhs hA1 (by rw [hn1];exact hB)).2.1
  exact hA1.imp fun m hm=>.inl hm
 ·rw [doA_append] at k ⊢;split at k
  ·rename_i k1;rw [if_pos k1];have hn1:=doA_now _ k1;obtain ⟨e1,e2⟩:=(head_safe (A:=fun _=>True) (B:=fun _=>True) hl1.2 (by rw [hl1.1];omega) hhs (fun _ _=>trivial) trivial).2.2 k;rw [e1,e2,hn1];exact ⟨rfl,hB⟩
  rename_i k1;exact absurd k k1
def fmtA (g:Geo.G):List Act:=ringW g 0 (List.replicate (plc g) zblock) ++ headA 0 1
theorem zblock_old (c:Nat):Old c zblock:=by
 intro x hx;unfold zblock at hx;rw [txt_list,show Rec.dec (List.replicate 128 0)=none by decide +kernel] at hx;cases hx
theorem fmt_fine {g:Geo.G} (hg:Geo.May g) {n:Nat} (hn:(n:Int)=g.blocks):∀ a ∈ fmtA g,a.Fine n:=by
 have h0:=hg.ok.1;unfold Geo.asked at h0;intro a ha;unfold fmtA at ha;rcases List.mem_append.1 ha with h | h
 ·obtain ⟨i,s,hi,hs,rfl⟩:=ringW_mem h;have:=pb_lt hg (0+i);exact ⟨by omega,by omega,by rw [(List.mem_replicate.1 hs).2];exact zblock_size⟩
 ·unfold headA at h;simp only [List.mem_cons,List.not_mem_nil,or_false] at h;rcases h with rfl | rfl | rfl
  ·trivial
  ·exact ⟨by decide,by omega,headB_size (by decide)⟩
  trivial
theorem fmt_safe {g:Geo.G} {D:Dev} (hg:Geo.May g) (hl:D.now.length=D.kept.length) (hn:(D.kept.length:Int)=g.blocks) (h:(doA (fmtA g) D).2=0) :
  (doA (fmtA g) D).1.kept=(doA (fmtA g) D).1.now/\Stand g (doA (fmtA g) D).1.now 0 1 []/\∀ b:Nat,Geo.home g b=true->blk (doA (fmtA g) D).1.now b=blk D.now b:=by
 have hpl:=plc_of hg
 have h0:=hg.ok.1
 unfold Geo.asked at h0
 have e0:fmtA g=(ringW g 0 (List.replicate (plc g) zblock) ++ [.flush,.write 1 (headB 0 1)]) ++ [.flush]:=by unfold fmtA headA;rw [List.append_assoc];rfl
 rw [e0] at h ⊢
 obtain ⟨e1,e2,e3⟩:=doA_flushed h
 rw [e1,e2]
 refine ⟨rfl,?_⟩
 have hb:=ringW_body hg (List.replicate (plc g) zblock) 0 D.now (by omega) (by simp)
 unfold Body at hb
 rw [List.length_replicate] at hb
 rw [applyA_append]
 show Stand g ((applyA (ringW g 0 (List.replicate (plc g) zblock)) D.now).set 1 (headB 0 1)) 0 1 []/\∀ b:Nat,Geo.home g b=true->blk ((applyA (ringW g 0 (List.replicate (plc g) zblock)) D.now).set 1 (headB 0 1)) b=blk D.now b
 refine ⟨Stand.anew hg (by rw [applyA_length];omega) (fun j=>?_) (by decide) (by omega),fun b hb2=>?_⟩
 ·have hj:j % plc g < plc g:=Nat.mod_lt _ (by omega);have:=ring_getD g (applyA (ringW g 0 (List.replicate (plc g) zblock)) D.now) (plc g) 0 (j % plc g) hj;rw [hb,Nat.zero_add,pb_mod,List.getElem?_replicate,if_pos hj] at this;injection this with this
  rw [<- this];exact zblock_old 1
 ·have hb3:=home_iff.1 hb2;rw [blk_set,if_neg (by omega)];exact ringW_blk _ _ _ _ fun i _=>by
   have:=pb_lt hg (0+i);omega
end Jr
end Go.Proofs.YtnpdhidliaahbaaGreat
namespace Go.Proofs.YtnpdhidliaahbaaGreat
open Go.Lib (hid)
open Go Go.RowKit
variable {B db:Nat} {w:World}
def OwnActs (B db:Nat) (w:World) (v:Value) (l:List Jr.Act):Prop:=(l = []->v=.slice none 0 0)/\∃ xs,w.ownsRow B 135 1 v l.length xs/\∀ (i:Nat) (a:Jr.Act),l[i]?=some a->∃ u:Value,xs[i]?=some u/\ActAt B db w u a
theorem OwnActs.nil (B db:Nat) (w:World):OwnActs B db w (.slice none 0 0) []:=⟨fun _=>rfl,[],World.ownsRow_nil _ _ _ _,fun i a h=>by cases h⟩
theorem OwnActs.at {v:Value} {l:List Jr.Act} (h:OwnActs B db w v l):ActsAt B db w v l:=by
 obtain ⟨_,xs,h1,h2⟩:=h;rcases h1.2 with ⟨rfl,hn⟩ | ⟨g,cap,cur,rfl,hg,hh,_⟩
 ·exact .inl ⟨rfl,List.length_eq_zero_iff.1 hn⟩
 ·refine .inr ⟨g,0,cap,rfl,hg,fun i a hi=>?_⟩;obtain ⟨u,hu,ha⟩:=h2 i a hi;exact ⟨u,by rw [Nat.zero_add];exact own_cellAt h1 hu,ha⟩
theorem OwnActs.below {w':World} {v:Value} {l:List Jr.Act} (h:OwnActs B db w v l) (hb:Below w.heap.size w w'):OwnActs B db w' v l:=by
 obtain ⟨h0,xs,h1,h2⟩:=h;refine ⟨h0,xs,own_below h1 hb,fun i a hi=>?_⟩;obtain ⟨u,hu,ha⟩:=h2 i a hi;exact ⟨u,hu,ha.above (Above.ofBelow hb)⟩
theorem OwnActs.form {v:Value} {l:List Jr.Act} (h:OwnActs B db w v l):∃ ad cap,v=.slice ad l.length cap:=h.at.form
theorem ActAt.func {u:Value} {a:Jr.Act} (h:ActAt B db w u a):∃ f x y,u=.func f x y:=by
 cases a with
 | flush=>exact ⟨_,_,_,h⟩
 | write b s =>
  obtain ⟨x,y,z,e,_⟩:=h;exact ⟨_,_,_,e⟩
theorem ActAt.one {u:Value} {a:Jr.Act} (h:ActAt B db w u a):u.oneCell'=true:=by
 obtain ⟨f,x,y,rfl⟩:=h.func;rfl
theorem ActAt.grown {w5:World} {v u:Value} {l:List Jr.Act} {a:Jr.Act} {xs:List Value} (h0:l = []->v=.slice none 0 0) (h1:w.ownsRow B 135 1 v l.length xs) (h2:∀ (i:Nat) (a:Jr.Act),l[i]?=some a->∃ u:Value,xs[i]?=some u/\ActAt B db w u a) (hgrow:w.grownBy w5 v.ownBlock) (ha:ActAt B db w u a):ActAt B db w5 u a:=by
 have keep:∀ (x:Nat) (c:Value),w.cell? ⟨x,0,none⟩=some c->(∀ f p q,c ≠ .func f p q)->w5.cell? ⟨x,0,none⟩=some c:=by
  intro x c hc hf;have hlt:=World.block_lt_of_cell? w _ hc;have hne:v.ownBlock ≠ some x:=by
   intro e;cases l with
   | nil=>rw [h0 rfl] at e;cases e
   | cons a0 l =>
    obtain ⟨g,cap,rfl⟩:=own_some h1 (by simp);have:g=x:=(by simpa [Value.ownBlock] using e);subst this;obtain ⟨u0,hu0,ha0⟩:=h2 0 a0 rfl;have:=own_cellAt h1 hu0;rw [hc] at this;injection this with this;obtain ⟨f,p,q,e2⟩:=ha0.func;exact hf f p q (this.trans e2)
  have:=hgrow.block x hlt (fun e=>hne e.symm);simp only [World.cell?] at hc ⊢;rw [this];exact hc
 cases a with
 | flush=>exact ha
 | write b s =>
  obtain ⟨x,y,z,e,hx,hy,hz,c1,c2,c3,r⟩:=ha;exact ⟨x,y,z,e,hx,hy,hz,keep _ _ c1 (fun _ _ _ h=>by cases h),keep _ _ c2 (fun _ _ _ h=>by cases h),keep _ _ c3 (fun _ _ _ h=>by cases h),r⟩
theorem OwnActs.grow {w5:World} {v v5:Value} {l r:List Jr.Act} {xs news:List Value} (h0:l = []->v=.slice none 0 0) (h1:w.ownsRow B 135 1 v l.length xs) (h2:∀ (i:Nat) (a:Jr.Act),l[i]?=some a->∃ u:Value,xs[i]?=some u/\ActAt B db w u a) (hx:xs.length=l.length) (hr:∀ (i:Nat) (a:Jr.Act),r[i]?=some a->∃ u:Value,news[i]?=some u/\ActAt B db w u a) (hr0:r ≠ []) (hgrow:w.grownBy w5 v.ownBlock) (hown:w5.ownsRow B 135 1 v5 (l.length+r.length) (xs ++ news)):OwnActs B db w5 v5 (l ++ r):=by
 refine ⟨fun e=>absurd (List.append_eq_nil_iff.1 e).2 hr0,xs ++ news,by rw [List.length_append];exact hown,fun i a hi=>?_⟩;by_cases hl:i < l.length
 ·rw [List.getElem?_append_left hl] at hi;obtain ⟨u,hu,ha⟩:=h2 i a hi;exact ⟨u,by rw [List.getElem?_append_left (by omega)];exact hu,ha.grown h0 h1 h2 hgrow⟩
 ·rw [List.getElem?_append_right (by omega)] at hi;obtain ⟨u,hu,ha⟩:=hr _ a hi;exact ⟨u,by rw [List.getElem?_append_right (by omega),hx];exact hu,ha.grown h0 h1 h2 hgrow⟩
theorem ActsAt.vals {M:Nat} {l:List Jr.Act} {ad:Option Addr} {n cap:Nat} (h:ActsAt M db w (.slice ad n cap) l) (hl:l ≠ []):∃ g off,ad=some ⟨g,off,none⟩/\n=l.length/\∃ news:List Value,news.length=l.length/\(∀ j u,news[j]?=some u->w.cell? ((⟨g,off,none⟩:Addr).add j)=some u)/\(∀ (i:Nat) (a:Jr.Act),l[i]?=some a->∃ u:Value,news[i]?=some u/\ActAt M db w u a)/\∀ u ∈ news,u.oneCell'=true:=by
 rcases h with ⟨_,h⟩ | ⟨g,off,cap',e,hg,hc⟩
 ·exact absurd h hl
 cases e;refine ⟨g,off,rfl,rfl,(List.range l.length).map fun i=>(w.cell? ⟨g,off+i,none⟩).getD (.bool false),by simp,fun j u hu=>?_,fun i a hi=>?_,fun u hu=>?_⟩
 ·rw [List.getElem?_map] at hu;rcases Nat.lt_or_ge j l.length with hj | hj
  ·rw [List.getElem?_range hj] at hu;obtain ⟨u',h1,h2⟩:=hc j _ (List.getElem?_eq_getElem hj);simp only [Option.map_some,h1,Option.getD_some,Option.some.injEq] at hu;subst hu;have hadd:(⟨g,off,none⟩:Addr).add j=⟨g,off+j,none⟩:=by unfold Addr.add;split <;> simp_all
   rw [hadd];exact h1
  rw [List.getElem?_eq_none (by simpa using hj)] at hu;cases hu
 ·obtain ⟨hi2,rfl⟩:=List.getElem?_eq_some_iff.1 hi;obtain ⟨u',h1,h2⟩:=hc i _ hi;exact ⟨u',by rw [List.getElem?_map,List.getElem?_range hi2];simp [h1],h2⟩
 ·obtain ⟨i,hi,rfl⟩:=List.mem_map.1 hu;have hi2:=List.mem_range.1 hi;obtain ⟨u',h1,h2⟩:=hc i _ (List.getElem?_eq_getElem hi2);rw [h1];exact h2.one
theorem own_form {T:TypeId} {v:Value} {n size:Nat} {xs:List Value} (h:w.ownsRow B T size v n xs):∃ ad cap,v=.slice ad n cap:=by
 obtain ⟨ad,cap,e,_⟩:=own_opens h;exact ⟨ad,cap,e⟩
theorem below_box {w w':World} (h:Below w.heap.size w w') (o:Obj):Below w.heap.size w (w'.alloc o):=h.alloc h.size o
theorem below_next {A B C:World} (h:Below A.heap.size A B) (h2:Below B.heap.size B C):Below A.heap.size A C:=h.trans (h2.mono h.size)
theorem OwnActs.push {M i:Nat} {wr wc w5:World} {v v5 u:Value} {l:List Jr.Act} {a:Jr.Act} {xs:List Value} (hl:l.length=i) (h0:l = []->v=.slice none 0 0) (h1:wr.ownsRow B 135 1 v i xs) (h2:∀ (i:Nat) (a:Jr.Act),l[i]?=some a->∃ u:Value,xs[i]?=some u/\ActAt B db wr u a) (sc:Below wr.heap.size wr wc) (hu:ActAt M db wc u a) (hM:B<=M)
  (hgrow:(wc.alloc (.cells #[u] 135)).grownBy w5 v.ownBlock) (hown:w5.ownsRow B 135 1 v5 (i+1) (xs ++ [u])):OwnActs B db w5 v5 (l ++ [a]):=by
 subst hl
 have hb:=below_box sc (.cells #[u] 135)
 exact OwnActs.grow (w:=wc.alloc (.cells #[u] 135)) (news:=[u]) (r:=[a]) h0 (own_below h1 hb) (fun i a hi=>by
  obtain ⟨u,hu,ha⟩:=h2 i a hi;exact ⟨u,hu,ha.above (Above.ofBelow hb)⟩) (by have:=h1.1;omega) (fun i b hi=>by
  cases i with
  | zero=>rw [List.getElem?_cons_zero] at hi;injection hi with hi;subst hi;exact ⟨u,rfl,(hu.above (Above.ofBelow ((Below.refl _ _).alloc (Nat.le_refl _) _))).mono hM⟩
  | succ i=>rw [List.getElem?_cons_succ] at hi;cases hi) (by simp) hgrow (by simpa using hown)
theorem act_one {M:Nat} {u:Value} {a:Jr.Act} (h:ActAt M db w u a):∀ x ∈ [u],x.oneCell'=true:=by
 intro x hx;rw [List.mem_singleton.1 hx];exact h.one
end Go.Proofs.YtnpdhidliaahbaaGreat
