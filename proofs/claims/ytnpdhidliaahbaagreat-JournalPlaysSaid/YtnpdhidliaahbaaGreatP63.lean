/- JournalPlays: both journals' commits and checkpoints in one form. -/
import Derived.Test.YtnpdhidliaahbaaGreatP56
import Derived.Test.YtnpdhidliaahbaaGreatP61
import Derived.Test.YtnpdhidliaahbaaGreatP37
import Derived.Test.YtnpdhidliaahbaaGreatP25
import Derived.Test.YtnpdhidliaahbaaGreatP62
import Derived.Test.YtnpdhidliaahbaaGreatP27
set_option maxRecDepth 100000
set_option maxHeartbeats 32000000
set_option linter.unusedSimpArgs false
set_option linter.unusedVariables false
namespace Go.Proofs.YtnpdhidliaahbaaGreat
open Go Go.RowKit
namespace Jr
structure VOk (g:Geo.G) (V:LogV):Prop where
 place:V.place < plc g
 used:V.used<=plc g
 seq:V.seq < 2 ^ 64
def comS (g:Geo.G) (V:LogV) (t:Txn) (data:List Chg) (D:Dev):Dev × Int × LogV:=
 if V.bad ≠ 0 then (D,V.bad,V) else if mayB (Geo.home g) t.ch t.rv=false ∨ mayB (Geo.home g) data []=false then (D,2,V)
 else if V.used+size t<=plc g then ((doA (commitA g t V.seq V.place data) D).1,(doA (commitA g t V.seq V.place data) D).2,if (doA (commitA g t V.seq V.place data) D).2=0 then ⟨(V.place+size t) % plc g,V.used+size t,(V.seq+1) % 18446744073709551616,0⟩ else ⟨V.place,V.used,V.seq,(doA (commitA g t V.seq V.place data) D).2⟩)
 else (D,90,V)
def ckS (g:Geo.G) (V:LogV) (D:Dev):Dev × Int × LogV:=
 if V.bad ≠ 0 ∨ V.used=0 then (D,V.bad,V)
 else ((doA (headA (V.place % plc g) V.seq) D).1,(doA (headA (V.place % plc g) V.seq) D).2,⟨V.place,if (doA (headA (V.place % plc g) V.seq) D).2=0 then 0 else V.used,V.seq,(doA (headA (V.place % plc g) V.seq) D).2⟩)
variable {g:Geo.G} {V:LogV} {D:Dev} {k:Nat}
theorem comS_V (hg:Geo.May g) (hV:VOk g V) (t:Txn) (data:List Chg):VOk g (comS g V t data D).2.2:=by
 have hp:=plc_of hg;obtain ⟨h1,h2,h3⟩:=hV;unfold comS;split
 ·exact ⟨h1,h2,h3⟩
 ·split
  ·exact ⟨h1,h2,h3⟩
  split
  ·rename_i hf;dsimp only;split
   ·exact ⟨Nat.mod_lt _ (by omega),hf,by dsimp only;omega⟩
   exact ⟨h1,h2,h3⟩
  exact ⟨h1,h2,h3⟩
theorem comS_D (hg:Geo.May g) (hD:D.Ok k) (t:Txn) (data:List Chg) (hd:data.length<=400):(comS g V t data D).1.Ok (k+1000):=by
 have hp:=plc_of hg;unfold comS;split
 ·exact hD.mono (by omega)
 ·split
  ·exact hD.mono (by omega)
  split
  ·rename_i hf;have:=doA_ok (commitA g t V.seq V.place data) D k hD;rw [comA_length] at this;exact this.mono (by omega)
  exact hD.mono (by omega)
theorem ckS_V (hV:VOk g V):VOk g (ckS g V D).2.2:=by
 obtain ⟨h1,h2,h3⟩:=hV;unfold ckS;split
 ·exact ⟨h1,h2,h3⟩
 ·refine ⟨h1,?_,h3⟩;dsimp only;split
  ·exact Nat.zero_le _
  exact h2
theorem ckS_D (hD:D.Ok k):(ckS g V D).1.Ok (k+1000):=by
 unfold ckS;split
 ·exact hD.mono (by omega)
 ·have:=doA_ok (headA (V.place % plc g) V.seq) D k hD;exact this.mono (by unfold headA;simp)
theorem open_V (hg:Geo.May g) (hD:D.Ok k) (hn:(D.kept.length:Int)=g.blocks) {L:Log} (h:readL g D.now=some L):VOk g (L.v g):=by
 have hp:=plc_of hg;have hf:=readL_fits hg hD.now (by rw [hD.len];omega) h;exact ⟨Nat.mod_lt _ (by omega),hf.2.2.2.1,Nat.mod_lt _ (by decide)⟩
end Jr
section
variable {B0 B1:Nat} {w:World} {db:Nat} {y:Lay} {sb:Nat} {z:RLay} {D:Dev} {g:Geo.G} {V:LogV} {lb rb:Nat}
theorem pcom_any {vc vr vd:Value} {ak:Option Addr} {a:PAct} (hd:DevAt B0 w db y D) (hL:LogAt lb db g V w) (hlb:lb ∉ devB db y) (hg:Geo.May g) (hV:Jr.VOk g V) (hv:ActV w vc vr vd ak a) (hf:a.t.ch.length<=400/\a.data.length<=400/\a.t.rv.length<=400) (ha:D.acts+6000 < 1000000000000) :
  Calls Tryz.prog 19 #[.pointer (some ⟨lb,0,none⟩),.agg #[vc,vr],vd] w fun e w'=>LogTold B0 db lb y g (Jr.comS g V a.t a.data D).2.1 (Jr.comS g V a.t a.data D).1 (Jr.comS g V a.t a.data D).2.2 w e w':=by
 have hp:=Jr.plc_of hg
 have hu:=hV.used
 have hpl:=hV.place
 obtain ⟨f1,f2,f3⟩:=hf
 unfold Jr.comS
 by_cases h0:V.bad ≠ 0
 ·rw [if_pos h0];obtain ⟨ac,cc,rfl⟩:=hv.ch.form;obtain ⟨ar,cr,rfl⟩:=hv.rv.form;exact (commit_dead w hL h0 ⟨_,_,_,rfl⟩ ⟨_,_,_,rfl⟩).mono fun e w' ⟨h1,h2⟩=>⟨h1,hd.below h2,hL.below h2 hL.lt,Only.ofBelow h2⟩
 ·rw [if_neg h0];have hb:V.bad=0:=by omega
  by_cases h1:mayB (Geo.home g) a.t.ch a.t.rv=true
  ·by_cases h2:mayB (Geo.home g) a.data []=true
   ·rw [if_neg (by rw [h1,h2];simp)];by_cases h3:V.used+Jr.size a.t<=Jr.plc g
    ·rw [if_pos h3];exact commit_any w vc vr vd a.t a.data hd hL hlb hg hb (by omega) hV.seq (by omega) hv.ch hv.rv hv.cc hv.cr hv.data (by omega) (by omega) (by omega) hv.chx hv.rvx hv.dx (ok_of h1) h2 h3
    rw [if_neg h3];exact (commit_full w vc vr vd a.t a.data hL hg hb (by omega) hv.ch hv.rv hv.data (by omega) (by omega) (by omega) hv.chx hv.rvx hv.dx h1 h2 h3).mono fun e w' ⟨h1,h2⟩=>⟨h1,hd.below h2,hL.below h2 hL.lt,Only.ofBelow h2⟩
   have h2':mayB (Geo.home g) a.data []=false:=(by simpa using h2);rw [if_pos (.inr h2')];exact (commit_bad2 w vc vr vd a.t a.data hL hg hb (by omega) hv.ch hv.rv hv.data (by omega) (by omega) (by omega) hv.chx hv.rvx hv.dx h1 h2').mono fun e w' ⟨h1,h2⟩=>⟨h1,hd.below h2,hL.below h2 hL.lt,Only.ofBelow h2⟩
  have h1':mayB (Geo.home g) a.t.ch a.t.rv=false:=(by simpa using h1);rw [if_pos (.inl h1')];exact (commit_bad1 w vc vr vd a.t a.data hL hg hb (by omega) hv.ch hv.rv hv.data (by omega) (by omega) (by omega) hv.chx hv.rvx hv.dx h1').mono fun e w' ⟨h1,h2⟩=>⟨h1,hd.below h2,hL.below h2 hL.lt,Only.ofBelow h2⟩
theorem rcom_any {vc vr vd:Value} {ak:Option Addr} {a:PAct} (hs:RefAt B1 w sb z D) (hL:RLogAt rb sb g V w) (hlb:rb ∉ refB sb z) (hg:Geo.May g) (hV:Jr.VOk g V) (hv:ActV w vc vr vd ak a) (hvs:∀ wz,Only (refB sb z) w wz->ActV wz vc vr vd ak a) (hf:a.t.ch.length<=400/\a.data.length<=400/\a.t.rv.length<=400) (ha:D.acts+6000 < 1000000000000) :
  Calls Tryz.prog 55 #[.pointer (some ⟨rb,0,none⟩),.agg #[vc,vr],vd] w fun e w'=>RLogTold B1 sb rb z g (Jr.comS g V a.t a.data D).2.1 (Jr.comS g V a.t a.data D).1 (Jr.comS g V a.t a.data D).2.2 w e w':=by
 have hp:=Jr.plc_of hg
 have hu:=hV.used
 have hpl:=hV.place
 obtain ⟨f1,f2,f3⟩:=hf
 unfold Jr.comS
 by_cases h0:V.bad ≠ 0
 ·rw [if_pos h0];obtain ⟨ac,cc,rfl⟩:=hv.ch.form;obtain ⟨ar,cr,rfl⟩:=hv.rv.form;exact (rCommit_dead w hL h0 ⟨_,_,_,rfl⟩ ⟨_,_,_,rfl⟩).mono fun e w' ⟨h1,h2⟩=>⟨h1,hs.below h2,hL.below h2 hL.lt,Only.ofBelow h2⟩
 ·rw [if_neg h0];have hb:V.bad=0:=by omega
  by_cases h1:mayB (Geo.home g) a.t.ch a.t.rv=true
  ·refine (rCommit_any w vc vr vd a.t a.data hL hg hb (by omega) hv.ch hv.rv hv.data (by omega) (by omega) (by omega) hv.chx hv.rvx hv.dx hs hlb (fun wz hz=>(hvs wz hz).data) hv.cr (by omega) hV.seq (by omega) h1).mono fun e w' ⟨r1,r2,r3⟩=>?_;by_cases h2:mayB (Geo.home g) a.data []=true
   ·rw [if_neg (by rw [h1,h2];simp)];by_cases h3:V.used+Jr.size a.t<=Jr.plc g
    ·rw [if_pos h3];exact r1 h2 h3
    rw [if_neg h3];obtain ⟨h1,h2⟩:=r2 h2 h3;exact ⟨h1,hs.below h2,hL.below h2 hL.lt,Only.ofBelow h2⟩
   have h2':mayB (Geo.home g) a.data []=false:=(by simpa using h2);rw [if_pos (.inr h2')];obtain ⟨h1,h2⟩:=r3 h2';exact ⟨h1,hs.below h2,hL.below h2 hL.lt,Only.ofBelow h2⟩
  have h1':mayB (Geo.home g) a.t.ch a.t.rv=false:=(by simpa using h1);rw [if_pos (.inl h1')];exact (rCommit_bad1 w vc vr vd a.t a.data hL hg hb (by omega) hv.ch hv.rv hv.data (by omega) (by omega) (by omega) hv.chx hv.rvx hv.dx h1').mono fun e w' ⟨h1,h2⟩=>⟨h1,hs.below h2,hL.below h2 hL.lt,Only.ofBelow h2⟩
theorem pck_any (hd:DevAt B0 w db y D) (hL:LogAt lb db g V w) (hlb:lb ∉ devB db y) (hg:Geo.May g) (hV:Jr.VOk g V) (ha:D.acts+6000 < 1000000000000) :
  Calls Tryz.prog 20 #[.pointer (some ⟨lb,0,none⟩)] w fun e w'=>LogTold B0 db lb y g (Jr.ckS g V D).2.1 (Jr.ckS g V D).1 (Jr.ckS g V D).2.2 w e w':=by
 have hp:=Jr.plc_of hg
 have hpl:=hV.place
 unfold Jr.ckS
 by_cases h:V.bad ≠ 0 ∨ V.used=0
 ·rw [if_pos h];exact (checkpoint_idle w hL h).mono fun e w' ⟨h1,h2⟩=>⟨h1,hd.below h2,hL.below h2 hL.lt,Only.ofBelow h2⟩
 ·rw [if_neg h];exact checkpoint_any w hd hL hlb hg (by omega) (by omega) (by omega) hV.seq (by omega)
theorem rck_any (hs:RefAt B1 w sb z D) (hL:RLogAt rb sb g V w) (hlb:rb ∉ refB sb z) (hg:Geo.May g) (hV:Jr.VOk g V) (ha:D.acts+6000 < 1000000000000) :
  Calls Tryz.prog 50 #[.pointer (some ⟨rb,0,none⟩)] w fun e w'=>RLogTold B1 sb rb z g (Jr.ckS g V D).2.1 (Jr.ckS g V D).1 (Jr.ckS g V D).2.2 w e w':=by
 unfold Jr.ckS
 by_cases h:V.bad ≠ 0 ∨ V.used=0
 ·rw [if_pos h];exact (rcheckpoint_idle w hL h).mono fun e w' ⟨h1,h2⟩=>⟨h1,hs.below h2,hL.below h2 hL.lt,Only.ofBelow h2⟩
 ·rw [if_neg h];exact rcheckpoint_any w hs hL hlb hg (by omega) (by omega) hV.place hV.seq (by omega)
end
end Go.Proofs.YtnpdhidliaahbaaGreat
namespace Go.Proofs.YtnpdhidliaahbaaGreat
open Go Go.RowKit
theorem RefAt.onlyN {S:List Nat} {B b:Nat} {w w':World} {z:RLay} {D:Dev} (h:RefAt B w b z D) (ho:Only S w w') (hS:∀ k ∈ refB b z,k ∉ S):RefAt B w' b z D:=by
 refine ⟨h.own,ho.row h.cells (hS b (by simp [refB])),own_onlyN h.now ho ?_,own_onlyN h.was ho ?_,own_onlyN h.pend ho ?_,h.ne,h.pos,h.left,h.acts⟩
 all_goals
  intro k hk;simp only [Value.ownBlock,Option.some.injEq] at hk;exact hS k (by simp [refB];omega)
structure PlApart (w:World) (db:Nat) (y:Lay) (sb:Nat) (z:RLay) (lb rb:Nat):Prop where
 ne:lb ≠ rb
 ld:lb ∉ devB db y
 ls:lb ∉ refB sb z
 rd:rb ∉ devB db y
 rs:rb ∉ refB sb z
 lo:w.heap.size < lb/\w.heap.size < rb
structure PlL (w:World) (GL:List Value) (g:Geo.G) (B0 B1 db:Nat) (y:Lay) (sb:Nat) (z:RLay) (D E:Dev) (lb rb:Nat) (V U:LogV) (wx:World):Prop where
 s:RdS w GL B0 B1 db y sb z D E wx
 p:LogAt lb db g V wx
 q:RLogAt rb sb g U wx
 ap:PlApart w db y sb z lb rb
section
variable {w wx w':World} {GL:List Value} {g:Geo.G} {B0 B1 db:Nat} {y:Lay} {sb:Nat} {z:RLay} {D E D' E':Dev} {lb rb:Nat} {V U V' U':LogV}
theorem RdS.gen {S:List Nat} (h:RdS w GL B0 B1 db y sb z D E wx) (ho:Only S wx w') (hd:DevAt B0 w' db y D') (hs:RefAt B1 w' sb z E') (hS:∀ k ∈ S,w.heap.size < k):RdS w GL B0 B1 db y sb z D' E' w':=
 ⟨h.lo,h.le,ho.row h.geo (fun hk=>by have:=hS _ hk;omega),h.bel.trans (ho.below h.bel.size (fun k hk=>Nat.le_of_lt (hS k hk))),hd,hs,h.lt⟩
theorem RdS.dev_lo (h:RdS w GL B0 B1 db y sb z D E wx):∀ k ∈ devB db y,w.heap.size < k:=fun k hk=>by
 have:=h.dev_ge k hk;have:=h.lo;omega
theorem RdS.ref_lo (h:RdS w GL B0 B1 db y sb z D E wx):∀ k ∈ refB sb z,w.heap.size < k:=fun k hk=>by
 have:=refB_ge h.s k hk;have:=h.lo;have:=h.le;omega
theorem RdS.apart (h:RdS w GL B0 B1 db y sb z D E wx):∀ k ∈ devB db y,k ∉ refB sb z:=fun k hk hn=>by
 have:=h.lt k hk;have:=refB_ge h.s k hn;omega
theorem PlL.below (h:PlL w GL g B0 B1 db y sb z D E lb rb V U wx) (hb:Below wx.heap.size wx w'):PlL w GL g B0 B1 db y sb z D E lb rb V U w':=
 ⟨h.s.below hb,h.p.below hb h.p.lt,h.q.below hb h.q.lt,h.ap⟩
theorem PlL.dev (h:PlL w GL g B0 B1 db y sb z D E lb rb V U wx) (hd:DevAt B0 w' db y D') (ho:Only (devB db y) wx w'):PlL w GL g B0 B1 db y sb z D' E lb rb V U w':=
 ⟨h.s.dev hd ho,ho.row h.p h.ap.ld,ho.row h.q h.ap.rd,h.ap⟩
theorem PlL.ref (h:PlL w GL g B0 B1 db y sb z D E lb rb V U wx) (hs:RefAt B1 w' sb z E') (ho:Only (refB sb z) wx w'):PlL w GL g B0 B1 db y sb z D E' lb rb V U w':=
 ⟨h.s.ref hs ho,ho.row h.p h.ap.ls,ho.row h.q h.ap.rs,h.ap⟩
theorem PlL.devlog (h:PlL w GL g B0 B1 db y sb z D E lb rb V U wx) (hd:DevAt B0 w' db y D') (hp:LogAt lb db g V' w') (ho:Only (lb :: devB db y) wx w'):PlL w GL g B0 B1 db y sb z D' E lb rb V' U w':=by
 have hS:∀ k ∈ lb :: devB db y,w.heap.size < k:=fun k hk=>by
  rcases List.mem_cons.1 hk with rfl | hk
  ·exact h.ap.lo.1
  exact h.s.dev_lo k hk
 refine ⟨h.s.gen ho hd (h.s.s.onlyN ho (fun k hk hn=>?_)) hS,hp,ho.row h.q (fun hn=>?_),h.ap⟩
 ·rcases List.mem_cons.1 hn with rfl | hn
  ·exact h.ap.ls hk
  exact h.s.apart k hn hk
 ·rcases List.mem_cons.1 hn with e | hn
  ·exact h.ap.ne e.symm
  exact h.ap.rd hn
theorem PlL.reflog (h:PlL w GL g B0 B1 db y sb z D E lb rb V U wx) (hs:RefAt B1 w' sb z E') (hq:RLogAt rb sb g U' w') (ho:Only (rb :: refB sb z) wx w'):PlL w GL g B0 B1 db y sb z D E' lb rb V U' w':=by
 have hS:∀ k ∈ rb :: refB sb z,w.heap.size < k:=fun k hk=>by
  rcases List.mem_cons.1 hk with rfl | hk
  ·exact h.ap.lo.2
  exact h.s.ref_lo k hk
 refine ⟨h.s.gen ho (h.s.d.onlyN ho (fun k hk hn=>?_)) hs hS,ho.row h.p (fun hn=>?_),hq,h.ap⟩
 ·rcases List.mem_cons.1 hn with rfl | hn
  ·exact h.ap.rd hk
  exact h.s.apart k hk hn
 ·rcases List.mem_cons.1 hn with e | hn
  ·exact h.ap.ne e
  exact h.ap.ls hn
theorem PlL.off {XB:Nat} {T:TypeId} {xs:List Value} (h:PlL w GL g B0 B1 db y sb z D E lb rb V U wx) (hX:∀ k ∈ lb :: rb :: (devB db y ++ refB sb z),k < XB) {S:List Nat} (hS:∀ k ∈ S,k ∈ lb :: rb :: (devB db y ++ refB sb z)) (hr:Row wx XB T xs) (ho:Only S wx w'):Row w' XB T xs:=
 ho.row hr (fun hn=>by have:=hX _ (hS _ hn);omega)
end
def PlAll (w:World) (GL:List Value) (g:Geo.G) (K:Nat) (q6 q8 q10 q12:Value) (wx:World):Prop:=
 ∃ (B0 B1 db:Nat) (y:Lay) (sb:Nat) (z:RLay) (D:Dev),q6=.pointer (some ⟨db,0,none⟩)/\q8=.pointer (some ⟨sb,0,none⟩)/\D.Ok K/\(D.kept.length:Int)=g.blocks /\
  ((q10=.pointer none/\q12=.pointer none/\Hid (RdS w GL B0 B1 db y sb z D D wx)) ∨
   ∃ (lb rb:Nat) (V:LogV),q10=.pointer (some ⟨lb,0,none⟩)/\q12=.pointer (some ⟨rb,0,none⟩)/\Hid (Jr.VOk g V)/\Hid (PlL w GL g B0 B1 db y sb z D D lb rb V V wx))
end Go.Proofs.YtnpdhidliaahbaaGreat
namespace Go.Proofs.YtnpdhidliaahbaaGreat
open Go Go.RowKit
theorem PActsIn.below {w w':World} {v:Value} {l:List PAct} (h:PActsIn w v l) (hb:Below w.heap.size w w'):PActsIn w' v l:=by
 obtain ⟨⟨ad,cap,e,hf⟩,hl⟩:=h;refine ⟨⟨ad,cap,e,fun i hi=>?_⟩,hl⟩;obtain ⟨g,off,vc,vr,vd,ak,ck,e1,hc,hv⟩:=hf i hi;exact ⟨g,off,vc,vr,vd,ak,ck,e1,fun k u hu=>(hb.cell (p:=⟨g,off+(i * 8+k),none⟩) (World.block_lt_of_cell? w _ (hc k u hu))).trans (hc k u hu),hv.below hb⟩
section
variable {B0 B1:Nat} {w:World} {db:Nat} {y:Lay} {sb:Nat} {z:RLay} {D:Dev} {g:Geo.G} {k:Nat}
theorem popN (hg:Geo.May g) (hok:D.Ok k) (hn:(D.kept.length:Int)=g.blocks) (hR:Jr.readL g D.now=none) (hd:DevAt B0 w db y D) :
  Calls Tryz.prog 16 #[.pointer (some ⟨db,0,none⟩),.agg (Geo.cells g)] w fun e w'=>e=.returned (.tuple #[.pointer none,.int .i64 80])/\Below w.heap.size w w':=by
 refine (openlog_ok g w hd hg hn hok.now hok.len).mono fun e w' ht=>?_
 rw [hR] at ht
 rcases ht with ⟨_,h2,h3⟩ | ⟨L,lb,h1,_⟩
 ·exact ⟨h2,h3⟩
 ·cases h1
theorem popS (hg:Geo.May g) (hok:D.Ok k) (hn:(D.kept.length:Int)=g.blocks) {L:Jr.Log} (hR:Jr.readL g D.now=some L) (hd:DevAt B0 w db y D) :
  Calls Tryz.prog 16 #[.pointer (some ⟨db,0,none⟩),.agg (Geo.cells g)] w fun e w'=>∃ lb,e=.returned (.tuple #[.pointer (some ⟨lb,0,none⟩),.int .i64 0])/\LogAt lb db g (L.v g) w'/\w.heap.size<=lb/\Below w.heap.size w w':=by
 refine (openlog_ok g w hd hg hn hok.now hok.len).mono fun e w' ht=>?_
 rw [hR] at ht
 rcases ht with ⟨h1,_⟩ | ⟨L',lb,h1,h2,h3,h4,h5⟩
 ·cases h1
 ·cases h1;exact ⟨lb,h2,h3,h4,h5⟩
theorem ropN (hg:Geo.May g) (hok:D.Ok k) (hn:(D.kept.length:Int)=g.blocks) (hR:Jr.readL g D.now=none) (hs:RefAt B1 w sb z D) :
  Calls Tryz.prog 30 #[.pointer (some ⟨sb,0,none⟩),.agg (Geo.cells g)] w fun e w'=>e=.returned (.tuple #[.pointer none,.int .i64 80])/\Below w.heap.size w w':=by
 refine (ropen_ok g hg w hs hn hok.now hok.len).mono fun e w' ht=>?_
 rw [hR] at ht
 rcases ht with ⟨_,h2,h3⟩ | ⟨L,lb,h1,_⟩
 ·exact ⟨h2,h3⟩
 ·cases h1
theorem ropS (hg:Geo.May g) (hok:D.Ok k) (hn:(D.kept.length:Int)=g.blocks) {L:Jr.Log} (hR:Jr.readL g D.now=some L) (hs:RefAt B1 w sb z D) :
  Calls Tryz.prog 30 #[.pointer (some ⟨sb,0,none⟩),.agg (Geo.cells g)] w fun e w'=>∃ rb,e=.returned (.tuple #[.pointer (some ⟨rb,0,none⟩),.int .i64 0])/\RLogAt rb sb g (L.v g) w'/\w.heap.size<=rb/\Below w.heap.size w w':=by
 refine (ropen_ok g hg w hs hn hok.now hok.len).mono fun e w' ht=>?_
 rw [hR] at ht
 rcases ht with ⟨h1,_⟩ | ⟨L',lb,h1,h2,h3,h4,h5⟩
 ·cases h1
 ·cases h1;exact ⟨lb,h2,h3,h4,h5⟩
end
namespace Jr
variable {g:Geo.G} {V:LogV} {D:Dev} {k:Nat}
theorem fmtS_len (hD:D.Ok k):(fmtS g D).1.kept.length=D.kept.length:=by
 unfold fmtS;split
 ·exact (len_doA _ hD.len).1
 ·rfl
theorem repS_len (hD:D.Ok k):(repS g D).1.kept.length=D.kept.length:=by
 unfold repS;split
 ·split
  ·rfl
  split
  ·rfl
  exact (len_doA _ hD.len).1
 ·rfl
theorem comS_len (hD:D.Ok k) (t:Txn) (data:List Chg):(comS g V t data D).1.kept.length=D.kept.length:=by
 unfold comS;split
 ·rfl
 ·split
  ·rfl
  split
  ·exact (len_doA _ hD.len).1
  rfl
theorem ckS_len (hD:D.Ok k):(ckS g V D).1.kept.length=D.kept.length:=by
 unfold ckS;split
 ·rfl
 ·exact (len_doA _ hD.len).1
end Jr
theorem layG_in (a b c:Nat):GeoIn (layG a b c):=by
 unfold GeoIn layG Geo.lay In64;dsimp only;omega
theorem plays_begun (a b c:Nat):(Jr.fmtS (layG a b c) (Dev.fresh (List.replicate (256+a % 60) zblock))).2=0/\(Jr.fmtS (layG a b c) (Dev.fresh (List.replicate (256+a % 60) zblock))).1.Ok 600 /\
  ((Jr.fmtS (layG a b c) (Dev.fresh (List.replicate (256+a % 60) zblock))).1.kept.length:Int)=(layG a b c).blocks/\∃ L,Jr.readL (layG a b c) (Jr.fmtS (layG a b c) (Dev.fresh (List.replicate (256+a % 60) zblock))).1.now=some L:=by
 have hg:=layG_may a b c
 have hlen:((Dev.fresh (List.replicate (256+a % 60) zblock)).kept.length:Int)=(layG a b c).blocks:=by show ((List.replicate (256+a % 60) zblock).length:Int)=_;rw [List.length_replicate];rfl
 have hz:sized (List.replicate (256+a % 60) zblock):=fun s hs=>by rw [(List.mem_replicate.1 hs).2];exact zblock_size
 have hok:(Dev.fresh (List.replicate (256+a % 60) zblock)).Ok 0:=Dev.Ok.fresh _ hz
 have h0:(Jr.doA (Jr.fmtA (layG a b c)) (Dev.fresh (List.replicate (256+a % 60) zblock))).2=0:=by
  rcases Jr.doA_err (Jr.fmtA (layG a b c)) (D:=Dev.fresh (List.replicate (256+a % 60) zblock)) rfl (Jr.fmt_fine hg hlen) with h | h
  ·exact h
  exact absurd h (Sys.unarmed _ rfl).1
 have e:Jr.fmtS (layG a b c) (Dev.fresh (List.replicate (256+a % 60) zblock))=Jr.doA (Jr.fmtA (layG a b c)) (Dev.fresh (List.replicate (256+a % 60) zblock)):=if_pos ⟨hg,hlen⟩
 have h2:=(Jr.fmtS_ok (g:=layG a b c) hok).mono (show 0+520<=600 by omega)
 have h3:=Jr.fmtS_len (g:=layG a b c) hok
 refine ⟨by rw [e];exact h0,h2,by rw [h3];exact hlen,?_⟩
 rw [e]
 exact ⟨_,(Jr.fmt_safe hg hok.len hlen h0).2.1.read hg⟩
end Go.Proofs.YtnpdhidliaahbaaGreat
