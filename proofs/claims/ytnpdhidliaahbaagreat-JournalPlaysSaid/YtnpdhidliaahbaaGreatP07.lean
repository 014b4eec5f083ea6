/- Devices: Kept. -/
import Derived.Test.YtnpdhidliaahbaaGreatP05
import Derived.Test.YtnpdhidliaahbaaGreatP06
import Derived.Deep.RegionWith
import Derived.Deep.RegionLaw
import Derived.Test.YtnpdhidliaahbaaGreatP04
set_option maxRecDepth 100000
set_option maxHeartbeats 32000000
set_option linter.unusedSimpArgs false
set_option linter.unusedVariables false
namespace Go.Proofs.YtnpdhidliaahbaaGreat
open Go.Lib (hid)
open Go Go.RowKit
variable {B b:Nat} {w:World} {y:Lay} {D:Dev}
theorem join_cat (l:List ByteArray):Lib.join (l.map (·.data.toList)) []=cat l:=by
 cases l with
 | nil=>rfl
 | cons x r =>
  rw [List.map_cons,Lib.join_cons];simp [cat,Lib.joinTail];rfl
theorem join_any (v:Value) (l:List ByteArray) (g cap B':Nat) (hv:v=.slice (some ⟨g,0,none⟩) l.length cap) (h:w.ownsRow B' 9 1 v l.length (strs l)) (hs:sized l) (hn:l.length<=1000000) :
  Calls Tryz.prog 77 #[v,.string { data:=#[] }] w fun e w'=>e=.returned (.string (txt (cat l)))/\Below w.heap.size w w':=by
 subst hv
 have hc:l.length<=cap:=by
  rcases h.2 with ⟨hv,_⟩ | ⟨g',cap',cur,hv,hb,hg,h1,_⟩
  ·cases hv
  cases hv;exact h1
 have:=Tryz.strings_Join g 0 cap l { data:=#[] } w (fun j x hx=>by rw [Nat.zero_add];exact own_cellAt h (by simp [strs,hx])) (h.lt _ rfl).2 (by omega) hc (by
  show (Lib.join _ []).length<=_;rw [join_cat,cat_length _ hs];omega)
 refine this.mono ?_
 rintro e w' ⟨rfl,hb⟩
 exact ⟨by rw [show (({ data:=#[] }:ByteArray).data.toList) = [] from rfl,join_cat];rfl,hb⟩
theorem kept_any (h:DevAt B w b y D) (hs:sized D.kept):Calls Tryz.prog 25 #[.pointer (some ⟨b,0,none⟩)] w fun e w'=>e=.returned (.string (txt (cat D.kept)))/\Below w.heap.size w w':=by
 have c0:=h.c0;have hj:=hid (join_any _ D.kept y.gk y.ck B rfl h.kept hs (by have:=h.pos;omega));clear h;go_enter Tryz.func25,Tryz.ntmps25;go_wp2_with fail;refine hj.out.mono ?_;rintro e w' ⟨rfl,hb⟩;go_wp2_with fail;go_ret;exact ⟨rfl,hb⟩
end Go.Proofs.YtnpdhidliaahbaaGreat
namespace Go.Proofs.YtnpdhidliaahbaaGreat
open Go.Lib (hid)
open Go Go.RowKit
variable {B b:Nat} {w:World} {y:Lay} {D:Dev}
def BoolsAt (w:World) (ad:Option Addr) (l:List Bool):Prop:=∀ i,i < l.length->∃ g off,ad=some ⟨g,off,none⟩/\w.cell? ⟨g,off+i,none⟩=some (.bool (l.getD i false))
theorem BoolsAt.below {w':World} {ad:Option Addr} {l:List Bool} (h:BoolsAt w ad l) (hb:Below w.heap.size w w'):BoolsAt w' ad l:=by
 intro i hi;obtain ⟨g,off,e,hc⟩:=h i hi;exact ⟨g,off,e,(hb.cell (p:=⟨g,off+i,none⟩) (World.block_lt_of_cell? w _ hc)).trans hc⟩
def crashTo (D:Dev) (P:List Nat) (keep:List Bool):Nat->List ByteArray
 | 0=>D.kept
 | i+1=>if keep.getD i false then (crashTo D P keep i).set (P.getD i 0) (D.now.getD (P.getD i 0) ⟨#[]⟩) else crashTo D P keep i
theorem crashTo_length (D:Dev) (P:List Nat) (keep:List Bool) (i:Nat):(crashTo D P keep i).length=D.kept.length:=by
 induction i with
 | zero=>rfl
 | succ i ih =>
  show (if keep.getD i false=true then (crashTo D P keep i).set (P.getD i 0) (D.now.getD (P.getD i 0) ⟨#[]⟩) else crashTo D P keep i).length=_;split
  ·rw [List.length_set];exact ih
  exact ih
theorem pendTo_lt (l:List Bool) (k:Nat):∀ n ∈ pendTo l k,n < k:=by
 induction k with
 | zero=>intro n hn;simp [pendTo] at hn
 | succ k ih =>
  intro n hn;change n ∈ (if l.getD k false=true then pendTo l k ++ [k] else pendTo l k) at hn;split at hn
  ·rcases List.mem_append.1 hn with h | h
   ·have:=ih n h;omega
   simp at h;omega
  have:=ih n hn;omega
theorem crashTo_sized (D:Dev) (P:List Nat) (keep:List Bool) (h1:sized D.kept) (h2:sized D.now) (hl:D.now.length=D.kept.length) (hP:∀ n ∈ P,n < D.kept.length):∀ i,i<=P.length->sized (crashTo D P keep i):=by
 intro i;induction i with
 | zero=>intro _;exact h1
 | succ i ih =>
  intro hi;show sized (if keep.getD i false=true then (crashTo D P keep i).set (P.getD i 0) (D.now.getD (P.getD i 0) ⟨#[]⟩) else crashTo D P keep i);split
  ·intro s hs;rcases List.mem_or_eq_of_mem_set hs with h | h
   ·exact ih (by omega) s h
   subst h;have hp:P.getD i 0 < D.now.length:=by
    rw [hl];exact hP _ (by simp [List.getD,show i < P.length by omega])
   generalize P.getD i 0=q at hp;have e:D.now.getD q ⟨#[]⟩=D.now[q]:=by simp [List.getD,hp]
   rw [e];exact h2 _ (List.getElem_mem hp)
  exact ih (by omega)
end Go.Proofs.YtnpdhidliaahbaaGreat
namespace Go.Proofs.YtnpdhidliaahbaaGreat
open Go.Lib (hid)
open Go Go.RowKit
variable {B b:Nat} {w:World} {y:Lay} {D:Dev}
def Dev.crash (D:Dev) (keep:List Bool):List ByteArray:=crashTo D (pendTo D.pend D.pend.length) keep (pendTo D.pend D.pend.length).length
theorem natVs_at (l:List Nat) (i:Nat) (h:i < l.length):(natVs l)[i]?=some (.int .i64 (l.getD i 0:Nat)):=by simp [natVs,List.getD,h]
theorem own_some {B n:Nat} {T:TypeId} {v:Value} {xs:List Value} {size:Nat} (h:w.ownsRow B T size v n xs) (hn:0 < n):∃ g cap,v=.slice (some ⟨g,0,none⟩) n cap:=by
 rcases h.2 with ⟨_,h0⟩ | ⟨g,cap,cur,rfl,_⟩
 ·omega
 ·exact ⟨_,_,rfl⟩
theorem own_opens {B n:Nat} {T:TypeId} {v:Value} {xs:List Value} {size:Nat} (h:w.ownsRow B T size v n xs):∃ ad cap,v=.slice ad n cap/\(0 < n->∃ g,ad=some ⟨g,0,none⟩/\B<=g):=by
 rcases h.2 with ⟨rfl,hn⟩ | ⟨g,cap,cur,rfl,hg,_⟩
 ·subst hn;exact ⟨_,_,rfl,fun h=>absurd h (Nat.lt_irrefl _)⟩
 ·exact ⟨_,_,rfl,fun _=>⟨g,rfl,hg⟩⟩
theorem crash_any (h:DevAt B w b y D) (h1:sized D.kept) (h2:sized D.now) (ad:Option Addr) (cap:Nat) (keep:List Bool) (hk:BoolsAt w ad keep) (hkl:keep.length<=9223372036854775807) :
  Calls Tryz.prog 44 #[.pointer (some ⟨b,0,none⟩),.slice ad keep.length cap] w fun e w'=>e=.returned (.string (txt (cat (D.crash keep))))/\Below w.heap.size w w':=by
 have hlen:D.now.length=D.kept.length:=by have:=h.now.1;simpa [strs] using this
 have hpl:D.pend.length=D.kept.length:=by have:=h.pend.1;simpa [bools] using this
 have hcl:=Tryz.slices_Clone_string y.gk 0 D.kept.length y.ck D.kept w (Nat.le_refl _) (by have:=h.pos;omega) (fun j hj=>by
  rw [Nat.zero_add];exact own_cellAt h.kept (by simp [strs,List.getD,hj,ByteArray.empty,ByteArray.emptyWithCapacity]))
 rw [List.take_length] at hcl
 have HCL:=hid hcl
 have H:=hid h
 have hp:=h.pos
 have c0:=h.c0
 have hcr:=hid (crashTo_sized D (pendTo D.pend D.pend.length) keep h1 h2 hlen (fun n hn=>by have:=pendTo_lt _ _ n hn;omega))
 have hPlt:∀ n ∈ pendTo D.pend D.pend.length,n < D.kept.length:=fun n hn=>by have:=pendTo_lt _ _ n hn;omega
 have hPl:(pendTo D.pend D.pend.length).length<=D.kept.length:=by have:=pendTo_length D.pend D.pend.length;omega
 unfold Dev.crash
 have hcl0:=fun i=>crashTo_length D (pendTo D.pend D.pend.length) keep i
 have hpend:=fun w (h:DevAt B w b y D)=>pending_any h
 have HK:=hid hk
 clear h hcl hk
 generalize pendTo D.pend D.pend.length=P at *
 go_enter Tryz.func44,Tryz.ntmps44
 go_wp2_with fail
 refine HCL.out.mono ?_
 rintro e w1 ⟨v1,rfl,o1,_,hb1⟩
 have H1:=H.out.below hb1
 go_wp2_with fail
 refine (hpend w1 H1).mono ?_
 rintro e w2 ⟨v2,rfl,o2,hb2⟩
 have H2:=hid (H1.below hb2)
 have K2:=hid ((HK.out.below hb1).below hb2)
 have B2:=hb1.trans (hb2.mono hb1.size)
 have O1:=hid (own_below o1 hb2)
 have O2:=hid o2
 obtain ⟨g1,cap1,rfl⟩:=own_some o1 hp.1
 obtain ⟨ad2,cap2,rfl,had2⟩:=own_opens o2
 have lg1:=(o1.lt g1 rfl)
 have HAD:=hid had2
 have HP:=hid hPlt
 have HL:=hid hlen
 have HB2:=hid B2
 have hl0:crashTo D P keep 0=D.kept:=rfl
 have HL0:=hid hl0
 have HCL0:=hid hcl0
 clear H1 o1 o2 had2 hPlt hlen B2 hb1 hb2 hl0 hcl0 h1 h2 hpend HCL H2 K2 c0 hpl
 go_wp2_with fail
 go_loopw [18] (fun q wr=>∃ i:Nat,i<=P.length/\q=.int .i64 i/\Hid (wr.ownsRow w.heap.size 9 1 (.slice (some ⟨g1,0,none⟩) D.kept.length cap1) D.kept.length (strs (crashTo D P keep i))) /\
  Hid (wr.ownsRow w1.heap.size 3 1 (.slice ad2 P.length cap2) P.length (natVs P))/\Hid (Below w.heap.size w wr)) (fun q _=>P.length - (intOf q).toNat)
 case atStart=>exact ⟨0,by omega,rfl,by rw [HL0.out];exact O1,O2,HB2⟩
 case round =>
  obtain ⟨i,hi,rfl,hr,hq,hbw⟩:=hrel;by_cases hlt:i < P.length
  ·obtain ⟨g2,rfl,hg2⟩:=HAD.out (by omega);have z1:=own_cellAt hq.out (natVs_at P i hlt);have hqn:P.getD i 0 < D.kept.length:=HP.out _ (by simp [List.getD,hlt]);have hstep:Hid (crashTo D P keep (i+1)=if keep.getD i false=true then (crashTo D P keep i).set (P.getD i 0) (D.now.getD (P.getD i 0) ⟨#[]⟩) else crashTo D P keep i):=hid rfl;have HD:=H.out.below hbw.out;have HKK:=HK.out.below hbw.out;have c1:=HD.c1;generalize P.getD i 0=q at *;have z2:wr.cell? ⟨y.gn,q,none⟩=some (.string (D.now.getD q ⟨#[]⟩)):=own_cellAt HD.now (by rw [<- HL.out] at hqn;simp [strs,List.getD,hqn]);have z3:∃ u,wr.cell? ⟨g1,q,none⟩=some u:=⟨_,own_cellAt hr.out (List.getElem?_eq_getElem (by rw [hr.out.1];omega))⟩;have z4:=ownsRow_free1 hr.out q;generalize D.now.getD q ⟨#[]⟩=t at *;obtain ⟨u,z3⟩:=z3;have i0:(0:Int)<=(i:Int):=(by omega);have i1:(i:Int) < (P.length:Int):=(by omega);have j0:(0:Int)<=(q:Int):=(by omega);have j1:(q:Int) < (D.kept.length:Int):=(by omega);by_cases hik:i < keep.length
   ·obtain ⟨g3,off3,rfl,z5⟩:=HKK i hik;clear HD HKK;cases hb:keep.getD i false
    ·rw [hb] at z5 hstep;simp only [Bool.false_eq_true,if_false] at hstep;clear hb;go_wp2_with fail;go_roundw;case rel=>exact ⟨i+1,by omega,by go_num,by rw [hstep.out];exact hr,hq,hbw⟩
     case measure=>simp [intOf];omega
    rw [hb] at z5 hstep;simp only [if_true] at hstep;clear hb;go_wp2_with fail;go_roundw;case rel =>
     refine ⟨i+1,by omega,by go_num,?_,?_,?_⟩
     ·rw [hstep.out];refine hid ?_;have:=ownsRow_set hr.out q (.string t);simpa [strs,List.map_set] using this
     ·exact hid (ownsRow_setCell_other hq.out (by simp [Value.ownBlock];omega) _)
     exact hid (hbw.out.setCell (by dsimp only;omega) _)
    case measure=>simp [intOf];omega
   have hb:keep.getD i false=false:=(by simp [List.getD,List.getElem?_eq_none (Nat.not_lt.1 hik)]);rw [hb] at hstep;simp only [Bool.false_eq_true,if_false] at hstep;clear HD HKK hb;go_wp2_with fail;go_roundw;case rel=>exact ⟨i+1,by omega,by go_num,by rw [hstep.out];exact hr,hq,hbw⟩
   case measure=>simp [intOf];omega
  obtain rfl:i=P.length:=(by omega);have hj:=join_any (w:=wr) (.slice (some ⟨g1,0,none⟩) D.kept.length cap1) (crashTo D P keep P.length) g1 cap1 w.heap.size (by rw [HCL0.out]) (by rw [HCL0.out];exact hr.out) (hcr.out _ (Nat.le_refl _)) (by rw [HCL0.out];omega);have HJ:=hid hj;clear hj;obtain ⟨C,hC⟩:∃ C,crashTo D P keep P.length=C:=⟨_,rfl⟩;rw [hC] at HJ;have HC:=hid hC;clear hC;go_wp2_with fail;refine HJ.out.mono ?_;rintro e w5 ⟨rfl,hb5⟩;have B5:=hbw.out.trans (hb5.mono hbw.out.size);go_wp2_with fail;go_ret;exact ⟨by rw [HC.out];rfl,B5⟩
end Go.Proofs.YtnpdhidliaahbaaGreat
namespace Go.Proofs.YtnpdhidliaahbaaGreat
open Go.Lib (hid)
open Go Go.RowKit
variable {B b:Nat} {w:World} {y:Lay} {D:Dev}
def Dev.fresh (l:List ByteArray):Dev:=⟨l,l,List.replicate l.length false,false,0,0⟩
theorem info_bool:(Tryz.prog.info? 4).map (fun i=>(i.zero,i.size,i.bytes))=some (some (.bool false),1,1):=by kernel_rfl
theorem own_mono {n size B':Nat} {T:TypeId} {v:Value} {xs:List Value} (h:w.ownsRow B T size v n xs) (hb:B'<=B):w.ownsRow B' T size v n xs:=by
 refine ⟨h.1,?_⟩;rcases h.2 with h2 | ⟨g,cap,cur,hv,hg,r⟩
 ·exact .inl h2
 ·exact .inr ⟨g,cap,cur,hv,by omega,r⟩
theorem own_falses (w:World) (T:TypeId) (n:Nat) (hb:B<=w.heap.size) (hn:n<=1000000):(w.alloc (.cells (Array.replicate n (.bool false)) T)).ownsRow B T 1 (.slice (some ⟨w.heap.size,0,none⟩) n n) n (bools (List.replicate n false)):=by
 refine ⟨by simp [bools],.inr ⟨w.heap.size,n,_,rfl,hb,heap_alloc_new w _,Nat.le_refl _,by unfold maxLen;omega,by simp,by simp [bools]⟩⟩
theorem DevAt.lay (l:List ByteArray) (n gk ck gn cn gp cp:Nat) (hn:l.length=n) (hp:0 < n/\n<=4096)
  (h1:w.ownsRow B 9 1 (.slice (some ⟨gk,0,none⟩) n ck) n (strs l)) (h2:w.ownsRow B 9 1 (.slice (some ⟨gn,0,none⟩) n cn) n (strs l)) (h3:w.ownsRow B 4 1 (.slice (some ⟨gp,0,none⟩) n cp) n (bools (List.replicate n false)))
  (ne:gk ≠ gn/\gk ≠ gp/\gn ≠ gp) :
  DevAt B (w.alloc (.cells #[.slice (some ⟨gk,0,none⟩) n ck,.slice (some ⟨gn,0,none⟩) n cn,.slice (some ⟨gp,0,none⟩) n cp,.bool false,.int .i64 0,.int .i64 0] 42)) w.heap.size ⟨gk,ck,gn,cn,gp,cp⟩ (Dev.fresh l):=by
 subst hn
 have k1:B<=gk/\gk < w.heap.size:=h1.lt _ rfl
 have k2:B<=gn/\gn < w.heap.size:=h2.lt _ rfl
 have k3:B<=gp/\gp < w.heap.size:=h3.lt _ rfl
 exact ⟨by omega,Row.new w _ [_,_,_,_,_,_] rfl,h1.alloc _,h2.alloc _,h3.alloc _,by dsimp only;omega,hp,by simp [Dev.fresh],by simp [Dev.fresh]⟩
theorem made_any (l:List ByteArray) (g c:Nat) (hv:w.ownsRow B 9 1 (.slice (some ⟨g,0,none⟩) l.length c) l.length (strs l)) (hp:0 < l.length/\l.length<=4096) :
  Calls Tryz.prog 76 #[.slice (some ⟨g,0,none⟩) l.length c] w fun e w'=>∃ b,e=.returned (.pointer (some ⟨b,0,none⟩))/\(∃ y,DevAt B w' b y (Dev.fresh l))/\w.heap.size<=b/\Below w.heap.size w w':=by
 have hcl:Hid (∀ w',Below w.heap.size w w'->Calls Tryz.prog 87 #[.slice (some ⟨g,0,none⟩) l.length c] w' fun e w2=>∃ v',e=.returned v'/\w2.ownsRow w'.heap.size 9 1 v' l.length (strs l)/\v' ≠ .slice none 0 0/\Below w'.heap.size w' w2):=hid fun w' hb=>by
  have hcl:=Tryz.slices_Clone_string g 0 l.length c l w' (Nat.le_refl _) (by omega) (fun j hj=>by
   rw [Nat.zero_add];exact own_cellAt (own_below hv hb) (by simp [strs,List.getD,hj,ByteArray.empty,ByteArray.emptyWithCapacity]))
  rw [List.take_length] at hcl;exact hcl
 have HV:=hid hv
 obtain ⟨ib,hib,hzb,hsb,hbb⟩:=info_parts info_bool
 have hmk:∀ wx:World,(Instr.makeSlice 40 (.int .i64 (l.length:Int)) (.int .i64 (l.length:Int))).run Tryz.prog wx=.ok (.slice (some ⟨wx.heap.size,0,none⟩) l.length l.length) (wx.alloc (.cells (List.replicate l.length (.bool false)).toArray 4)):=fun wx=>by
  have hr:=run_make (P:=Tryz.prog) wx 40 4 ib (.bool false) Tryz.underlying40 hib hzb .i64 .i64 l.length l.length (by omega) (by omega) (by rw [hbb];omega) (by omega);simpa [hsb,Value.cells,madeCells_one] using hr
 clear hv
 generalize hn:l.length=n at *
 go_enter Tryz.func76,Tryz.ntmps76
 go_wp2_with fail
 go_region_with (go_at_call 87;refine (hcl.out _ (by first | exact (Below.refl _ _).drew | exact (Below.refl _ _).drew.alloc (Nat.le_refl _) _)).mono ?_;rintro e wc ⟨vc,rfl,oc,_,bc⟩;obtain ⟨gc,cc,rfl⟩:=own_some oc hp.1)
 ·have bc':Below w.heap.size w wc:=⟨bc.os,bc.tape,bc.output,bc.size,bc.block⟩;have oc':wc.ownsRow w.heap.size 9 1 (.slice (some ⟨gc,0,none⟩) n cc) n (strs l):=oc;have HB:B<=g/\g < w.heap.size:=HV.out.lt _ rfl;have o1:=own_below HV.out bc';have kc:w.heap.size<=gc/\gc < wc.heap.size:=oc'.lt _ rfl;have H:=hid (DevAt.lay (w:=wc.alloc (.cells (Array.replicate n (.bool false)) 4)) l n g c gc cc wc.heap.size n hn hp (o1.alloc _) ((own_mono oc' (by omega)).alloc _) (own_falses wc _ n (by omega) (by omega)) (by omega));have hb2:Hid (Below w.heap.size w ((wc.alloc (.cells (Array.replicate n (.bool false)) 4)).alloc (.cells #[.slice (some ⟨g,0,none⟩) n c,.slice (some ⟨gc,0,none⟩) n cc,.slice (some ⟨wc.heap.size,0,none⟩) n n,.bool false,.int .i64 0,.int .i64 0] 42))):=hid ((bc'.alloc bc'.size _).alloc (by have:=bc'.size;simp;omega) _);have hs:=bc'.size;simp only [World.size_alloc] at H;clear oc oc' bc bc' o1 hcl hmk;go_wp2_with fail;go_ret;exact ⟨_,rfl,⟨_,H.out⟩,by omega,hb2.out⟩
 ·have bc':Below (w.heap.size+1) (w.alloc (.cells (Array.replicate n (.bool false)) 4)) wc:=by
   have e:w.heap.size+1=(w.alloc (.cells (Array.replicate n (.bool false)) 4)).drew.heap.size:=(World.size_alloc w _).symm;rw [e];exact ⟨bc.os,bc.tape,bc.output,bc.size,bc.block⟩
  have oc':wc.ownsRow (w.heap.size+1) 9 1 (.slice (some ⟨gc,0,none⟩) n cc) n (strs l):=by
   have e:w.heap.size+1=(w.alloc (.cells (Array.replicate n (.bool false)) 4)).drew.heap.size:=(World.size_alloc w _).symm;rw [e];exact oc
  have HB:B<=g/\g < w.heap.size:=HV.out.lt _ rfl;have kc:w.heap.size+1<=gc/\gc < wc.heap.size:=oc'.lt _ rfl;have bc2:Below (w.alloc (.cells (Array.replicate n (.bool false)) 4)).heap.size (w.alloc (.cells (Array.replicate n (.bool false)) 4)) wc:=(by simpa using bc');have H:=hid (DevAt.lay (w:=wc) l n g c gc cc w.heap.size n hn hp (own_below (HV.out.alloc _) bc2) (own_mono oc' (by omega)) (own_below (own_falses w _ n (by omega) (by omega)) bc2) (by omega));have hb3:Below w.heap.size w wc:=((Below.refl _ _).alloc (Nat.le_refl _) _).trans (bc'.mono (by omega));have hs:=hb3.size;have hb2:Hid (Below w.heap.size w (wc.alloc (.cells #[.slice (some ⟨g,0,none⟩) n c,.slice (some ⟨gc,0,none⟩) n cc,.slice (some ⟨w.heap.size,0,none⟩) n n,.bool false,.int .i64 0,.int .i64 0] 42))):=hid (hb3.alloc hb3.size _);clear oc oc' bc bc' bc2 hb3 hcl hmk;go_wp2_with fail;go_ret;exact ⟨_,rfl,⟨_,H.out⟩,by omega,hb2.out⟩
end Go.Proofs.YtnpdhidliaahbaaGreat
namespace Go.Proofs.YtnpdhidliaahbaaGreat
open Go.Lib (hid)
open Go Go.RowKit
variable {B b:Nat} {w:World} {y:Lay} {D:Dev}
def repTo (s:ByteArray) (n k:Nat):List Value:=List.replicate k (.string s) ++ List.replicate (n - k) (.string ⟨#[]⟩)
theorem repTo_length (s:ByteArray) (n k:Nat) (h:k<=n):(repTo s n k).length=n:=by simp [repTo];omega
theorem repTo_zero (s:ByteArray) (n:Nat):repTo s n 0=List.replicate n (.string ⟨#[]⟩):=by simp [repTo]
theorem repTo_splice (s:ByteArray) (n k m:Nat) (_h:k+m<=n):splice (repTo s n k) k (List.replicate m (.string s))=repTo s n (k+m):=by
 unfold splice repTo;rw [List.take_left' (by simp),List.length_replicate,List.drop_append,List.drop_replicate,List.length_replicate,List.drop_replicate,<- List.append_assoc,<- List.append_assoc,List.replicate_append_replicate];rw [show k - (k+m)=0 by omega,show k+m - k=m by omega,show n - k - m=n - (k+m) by omega];simp
theorem repTo_at (s:ByteArray) (n k j:Nat) (h:j < k):(repTo s n k)[j]?=some (.string s):=by
 unfold repTo;rw [List.getElem?_append_left (by simpa using h)];simp [h]
theorem info_string:(Tryz.prog.info? 9).map (fun i=>(i.zero,i.size,i.bytes))=some (some (.string ⟨#[]⟩),1,16):=by kernel_rfl
theorem repeat_any (s:ByteArray) (n g c:Nat) (hg:w.cell? ⟨g,0,none⟩=some (.string s)) (hn:1<=n/\n<=4096) :
  Calls Tryz.prog 89 #[.slice (some ⟨g,0,none⟩) 1 c,.int .i64 n] w fun e w'=>∃ g2,e=.returned (.slice (some ⟨g2,0,none⟩) n n)/\w'.ownsRow w.heap.size 9 1 (.slice (some ⟨g2,0,none⟩) n n) n (strs (List.replicate n s))/\Below w.heap.size w w':=by
 have hmul:Hid (∀ w,Calls Tryz.prog 113 #[.int .u64 1,.int .u64 (n:Int)] w fun e w'=>e=.returned (.tuple #[.int .u64 0,.int .u64 (n:Int)])/\w'=w):=hid (fun w=>by
  have:=Tryz.bits_Mul 1 n (by decide) (by omega) w;rwa [show 1 * n / 18446744073709551616=0 by omega,show 1 * n % 18446744073709551616=n by omega] at this)
 obtain ⟨ib,hib,hzb,hsb,hbb⟩:=info_parts info_string
 have hmk:∀ wx:World,(Instr.makeSlice 39 (.int .i64 (n:Int)) (.int .i64 (n:Int))).run Tryz.prog wx=.ok (.slice (some ⟨wx.heap.size,0,none⟩) n n) (wx.alloc (.cells (repTo s n 0).toArray 9)):=fun wx=>by
  have hr:=run_make (P:=Tryz.prog) wx 39 9 ib (.string ⟨#[]⟩) Tryz.underlying39 hib hzb .i64 .i64 n n (by omega) (by omega) (by rw [hbb];omega) (by omega);rw [repTo_zero];simpa [hsb,Value.cells,madeCells_one] using hr
 go_enter Tryz.func89,Tryz.ntmps89
 go_wp2_with fail
 refine (hmul.out _).mono ?_
 rintro e w' ⟨rfl,rfl⟩
 have q1:([.string s]:List Value).length=Nat.min 1 n:=by simp only [List.length_singleton,Nat.min_def];split <;> omega
 have q2:0+([.string s]:List Value).length<=(repTo s n 0).length:=by rw [repTo_length _ _ _ (Nat.zero_le n),List.length_singleton];omega
 have q3:∀ v ∈ ([.string s]:List Value),v.oneCell'=true:=by simp [Value.oneCell']
 have q4:Below w'.heap.size w' (w'.alloc (.cells (repTo s n 0).toArray 9)):=(Below.refl _ _).alloc (Nat.le_refl _) _
 have q5:∀ j v,([.string s]:List Value)[j]?=some v->(w'.alloc (.cells (repTo s n 0).toArray 9)).cell? ((⟨g,0,none⟩:Addr).add j)=some v:=fun j v hj=>by
  cases j with
  | zero=>simp at hj;subst hj;exact (q4.cell (p:=⟨g,0,none⟩) (World.block_lt_of_cell? _ _ hg)).trans hg
  | succ j=>simp at hj
 go_wp2_with (first
  | (refine wpList_copy_splice rfl (.tmp 31) (.tmp 32) 39 39 rfl 9 Tryz.underlying39 (by kernel_rfl) (some ⟨w'.heap.size,0,none⟩) (some ⟨g,0,none⟩) n n 1 c rfl rfl w'.heap.size 0 (repTo s n 0) 9 (heap_alloc_new w' _) [.string s] q1 (fun _=>⟨rfl,⟨g,0,none⟩,rfl,q5⟩) q2 q3 w'.heap.size w' q4 (Nat.le_refl _) ?_))
 intro w1 hg1 hb1
 have hg2:Hid (w1.heap[w'.heap.size]?=some (.cells (repTo s n 1).toArray 9 (0,0))):=hid (by
  have:=repTo_splice s n 0 1 (by omega);rw [List.replicate_one] at this;rw [<- this];exact hg1.out)
 clear hg1 hg hmul hmk
 have HB1:=hid hb1
 clear hb1
 go_wp2_with fail
 go_loopw [8] (fun q wr=>∃ k:Nat,1<=k/\k<=n/\q=.int .i64 k/\Hid (wr.heap[w'.heap.size]?=some (.cells (repTo s n k).toArray 9 (0,0)))/\Hid (Below w'.heap.size w' wr)) (fun q _=>n - (intOf q).toNat)
 case atStart=>exact ⟨1,by omega,by omega,rfl,hg2,HB1⟩
 case round =>
  obtain ⟨k,h1,h2,rfl,hr,hbw⟩:=hrel;by_cases hlt:k < n
  ·have i1:(k:Int) < (n:Int):=(by omega);have hlen:=repTo_length s n k h2;obtain ⟨m,hm,hm1,hm2,hm3⟩:∃ m,m=Nat.min k (n - k)/\1<=m/\m<=k/\m<=n - k:=⟨_,rfl,by simp only [Nat.min_def];split <;> omega,by simp only [Nat.min_def];split <;> omega,by simp only [Nat.min_def];split <;> omega⟩;have r1:(List.replicate m (Value.string s)).length=m:=List.length_replicate;have r3:∀ v ∈ List.replicate m (Value.string s),v.oneCell'=true:=(by intro v hv;rw [(List.mem_replicate.1 hv).2];rfl);have r5:∀ j v,(List.replicate m (Value.string s))[j]?=some v->wr.drew.cell? ((⟨w'.heap.size,0,none⟩:Addr).add j)=some v:=fun j v hj=>by
    have hj2:j < m:=(by have:=List.getElem?_eq_some_iff.1 hj;obtain ⟨h,_⟩:=this;rwa [r1] at h);have e1:(⟨w'.heap.size,0,none⟩:Addr).add j=⟨w'.heap.size,j,none⟩:=(by unfold Addr.add;split <;> simp_all);rw [e1,cell_of_row wr.drew w'.heap.size j _ _ _ hr.out];have:=repTo_at s n k j (by omega);have e2:v=.string s:=by
     obtain ⟨h,e⟩:=List.getElem?_eq_some_iff.1 hj;rw [<- e];simp
    rw [e2];simpa using this
   have hnk:¬ n=k:=(by omega);have hwm:IntKind.i64.wrap ((k:Int)+(m:Int))=((k+m:Nat):Int):=(by rw [IntKind.wrap_i64];omega);have HM:=hid hm;have R5:=hid r5;have R3:=hid r3;have R1:=hid r1;have hsp:=hid (repTo_splice s n k m (by omega));have HN:=hid hn;clear hm r1 r3 r5 q1 q2 q3 q4 q5;generalize List.replicate m (Value.string s)=CS at *;go_wp2_with fail;go_region_law (refine step_copy_splice rfl (.tmp 41) (.tmp 44) 39 39 rfl 9 Tryz.underlying39 (by kernel_rfl) (some ⟨w'.heap.size,k,none⟩) (some ⟨w'.heap.size,0,none⟩) (n - k) (n - k) k n (by simp [Act.eval,Act.put];done) (by simp [Act.eval,Act.put];done) w'.heap.size k (repTo s n k) 9 hr.out CS (by rw [R1.out];exact HM.out) (fun _=>⟨rfl,⟨w'.heap.size,0,none⟩,rfl,R5.out⟩) (by rw [R1.out,hlen];omega) R3.out w'.heap.size w' hbw.out.drew (Nat.le_refl _) ?_;intro w4 hg4 hb4;rw [R1.out]);go_simp;go_roundw;case rel=>exact ⟨_,_,_,_,_,_,_,_,_,_,_,_,_,_,⟨k+m,by omega,by omega,rfl,by rw [<- hsp.out];exact hg4,hid hb4⟩,rfl⟩
   case measure=>simp [intOf];omega
  obtain rfl:k=n:=(by omega);go_wp2_with fail;go_ret;have hrow:(strs (List.replicate k s))=repTo s k k:=(by simp [strs,repTo]);exact ⟨w'.heap.size,rfl,⟨by simp [strs],.inr ⟨_,_,_,rfl,Nat.le_refl _,hr.out,Nat.le_refl _,by unfold maxLen;omega,by simp [repTo],by rw [hrow];simp [repTo]⟩⟩,hbw.out⟩
end Go.Proofs.YtnpdhidliaahbaaGreat
namespace Go.Proofs.YtnpdhidliaahbaaGreat
open Go.Lib (hid)
open Go Go.RowKit
variable {B b:Nat} {w:World} {y:Lay} {D:Dev}
def zblock:ByteArray:=txt (List.replicate 128 0)
theorem zblock_size:zblock.size=128:=by simp [zblock,txt,ByteArray.size]
theorem repeat_zero:Lib.repeatL (⟨#[0]⟩:ByteArray).data.toList 128=List.replicate 128 0:=by decide +kernel
theorem newdev_any (n:Nat) (hn:1<=n/\n<=4096) :
  Calls Tryz.prog 48 #[.int .i64 n] w fun e w'=>∃ b,e=.returned (.tuple #[.pointer (some ⟨b,0,none⟩),.int .i64 0])/\(∃ y,DevAt w.heap.size w' b y (Dev.fresh (List.replicate n zblock)))/\Below w.heap.size w w':=by
 have hz:Hid (∀ w,Calls Tryz.prog 72 #[.string ⟨#[0]⟩,.int .i64 128] w fun e w'=>e=.returned (.string zblock)/\Below w.heap.size w w'):=hid fun w=>by
  have:=Tryz.strings_Repeat ⟨#[0]⟩ 128 w (by decide) (by decide);have e:(⟨(Lib.repeatL (⟨#[0]⟩:ByteArray).data.toList 128).toArray⟩:ByteArray)=zblock:=by
   exact congrArg (fun l:List UInt8=>(⟨l.toArray⟩:ByteArray)) repeat_zero
  rw [e] at this;exact this
 have hr:=fun (w:World) (g:Nat) (c:Nat) hg=>repeat_any (w:=w) zblock n g c hg hn
 have hm:Hid (∀ (w:World) (B g c:Nat),w.ownsRow B 9 1 (.slice (some ⟨g,0,none⟩) n c) n (strs (List.replicate n zblock))->Calls Tryz.prog 76 #[.slice (some ⟨g,0,none⟩) n c] w fun e w'=>∃ b,e=.returned (.pointer (some ⟨b,0,none⟩))/\(∃ y,DevAt B w' b y (Dev.fresh (List.replicate n zblock)))/\w.heap.size<=b/\Below w.heap.size w w'):=hid fun w B g c h=>by
  have:=made_any (w:=w) (B:=B) (List.replicate n zblock) g c (by simpa using h) (by simp;omega);simpa using this
 have HR:=hid hr
 clear hr
 have q1:¬ ((n:Int) < 1):=by omega
 have q2:¬ (4096 < (n:Int)):=by omega
 generalize zblock=z at *
 go_enter Tryz.func48,Tryz.ntmps48
 go_wp2_with fail
 refine (hz.out _).mono ?_
 rintro e w1 ⟨rfl,hb1⟩
 go_wp2_with fail
 have hc0:(w1.alloc (.cells #[.string z] 9)).cell? ⟨w1.heap.size,0,none⟩=some (.string z):=by
  rw [cell_of_row _ _ _ _ _ _ (heap_alloc_new w1 _)];rfl
 refine (HR.out _ _ _ hc0).mono ?_
 rintro e w2 ⟨g2,rfl,o2,hb2⟩
 have hB2:Below w1.heap.size w1 w2:=((Below.refl _ _).alloc (Nat.le_refl _) _).trans (hb2.mono (by simp))
 have hB3:Below w.heap.size w w2:=hb1.trans (hB2.mono hb1.size)
 have hO:=own_mono o2 (show w.heap.size<=_ by simp;have:=hb1.size;omega)
 clear o2 hb2 hB2 hc0
 go_wp2_with fail
 refine (hm.out _ _ _ _ hO).mono ?_
 rintro e w3 ⟨b,rfl,hD,hb,hb3⟩
 have hB4:=hB3.trans (hb3.mono hB3.size)
 go_wp2_with fail
 exact bodyPost_ret (v:=.tuple #[.pointer (some ⟨b,0,none⟩),.int .i64 0]) (by simp [results,Tryz.results48,go_sem]) rfl ⟨_,rfl,hD,hB4⟩
end Go.Proofs.YtnpdhidliaahbaaGreat
namespace Go.Proofs.YtnpdhidliaahbaaGreat
open Go.Lib (hid)
open Go Go.RowKit
variable {B b:Nat} {w:World} {y:Lay} {D:Dev}
theorem DevAt.bounds (h:DevAt B w b y D):(B<=b/\b < w.heap.size)/\(B<=y.gk/\y.gk < w.heap.size)/\(B<=y.gn/\y.gn < w.heap.size)/\(B<=y.gp/\y.gp < w.heap.size):=
 ⟨⟨h.own,h.cells.lt⟩,h.kept.lt _ rfl,h.now.lt _ rfl,h.pend.lt _ rfl⟩
structure Dev.Ok (D:Dev) (k:Nat):Prop where
 kept:sized D.kept
 now:sized D.now
 len:D.now.length=D.kept.length
 plen:D.pend.length=D.kept.length
 acts:D.acts<=k
theorem sized_set (l:List ByteArray) (h:sized l) (i:Nat) (t:ByteArray) (ht:t.size=128):sized (l.set i t):=by
 intro s hs;rcases List.mem_or_eq_of_mem_set hs with h1 | h1
 ·exact h s h1
 ·subst h1;exact ht
theorem Dev.Ok.mono {D:Dev} {k k':Nat} (h:D.Ok k) (hk:k<=k'):D.Ok k':=⟨h.kept,h.now,h.len,h.plen,by have:=h.acts;omega⟩
theorem Dev.writeE_size {D:Dev} {i:Int} {t:ByteArray} (h0:D.writeE i t=0):t.size=128:=by
 unfold Dev.writeE at h0;split at h0
 ·omega
 ·split at h0
  ·omega
  rename_i h2;simpa using h2
theorem Dev.Ok.write {D:Dev} {k:Nat} (h:D.Ok k) (i:Int) (t:ByteArray):(D.write i t).Ok (k+1):=by
 unfold Dev.write;split
 ·rename_i h0;exact ⟨h.kept,sized_set _ h.now _ _ (Dev.writeE_size h0),by simpa [Dev.put,Dev.acted] using h.len,by simpa [Dev.put,Dev.acted] using h.plen,by have:=h.acts;show D.acts+1<=_;omega⟩
 ·exact h.mono (by omega)
theorem Dev.Ok.flush {D:Dev} {k:Nat} (h:D.Ok k):D.flush.Ok (k+1):=by
 unfold Dev.flush;split
 ·exact h.mono (by omega)
 ·exact ⟨h.now,h.now,rfl,by show (List.replicate _ _).length=D.now.length;rw [List.length_replicate];exact h.len.symm,by have:=h.acts;show D.acts+1<=_;omega⟩
theorem Dev.Ok.arm {D:Dev} {k:Nat} (h:D.Ok k) (n:Int):(D.arm n).Ok k:=⟨h.kept,h.now,h.len,h.plen,h.acts⟩
theorem Dev.Ok.fresh (l:List ByteArray) (h:sized l):(Dev.fresh l).Ok 0:=⟨h,h,rfl,by simp [Dev.fresh],by simp [Dev.fresh]⟩
end Go.Proofs.YtnpdhidliaahbaaGreat
namespace Go.Proofs.YtnpdhidliaahbaaGreat
open Go.Lib (hid)
open Go Go.RowKit
variable {D:Dev}
def rank (l:List Bool) (i:Nat):Nat:=(pendTo l i).length
theorem pendTo_succ (l:List Bool) (k:Nat):pendTo l (k+1)=if l.getD k false=true then pendTo l k ++ [k] else pendTo l k:=rfl
theorem rank_succ (l:List Bool) (i:Nat):rank l (i+1)=if l.getD i false=true then rank l i+1 else rank l i:=by
 unfold rank;rw [pendTo_succ];split <;> simp
theorem pendTo_prefix (l:List Bool) (i:Nat):∀ n,i<=n->∃ r,pendTo l n=pendTo l i ++ r:=by
  intro n;induction n with
  | zero=>intro h;obtain rfl:i=0:=by omega
          exact ⟨[],by simp⟩
  | succ n ih =>
    intro h;rcases Nat.lt_or_ge i (n+1) with h1 | h1
    · obtain ⟨r,hr⟩:=ih (by omega);rw [pendTo_succ,hr];split
      · exact ⟨r ++ [n],by simp⟩
      exact ⟨r,rfl⟩
    obtain rfl:i=n+1:=(by omega);exact ⟨[],by simp⟩
theorem rank_le (l:List Bool) (i n:Nat) (h:i<=n):rank l i<=rank l n:=by
 obtain ⟨r,hr⟩:=pendTo_prefix l i n h;unfold rank;rw [hr];simp
theorem rank_lt (l:List Bool) (i n:Nat) (h:i < n) (hp:l.getD i false=true):rank l i < rank l n:=by
 have:=rank_le l (i+1) n (by omega);rw [rank_succ,if_pos hp] at this;omega
theorem pendTo_mem (l:List Bool) (n k:Nat) (h:k ∈ pendTo l n):k < n/\l.getD k false=true:=by
 induction n with
 | zero=>simp [pendTo] at h
 | succ n ih =>
  rw [pendTo_succ] at h;split at h
  ·rename_i hp;rcases List.mem_append.1 h with h | h
   ·have:=ih h;exact ⟨by omega,this.2⟩
   simp at h;subst h;exact ⟨by omega,hp⟩
  have:=ih h;exact ⟨by omega,this.2⟩
theorem pendTo_rank (l:List Bool) (n:Nat):∀ k,k < rank l n->(pendTo l n).getD k 0 < n/\l.getD ((pendTo l n).getD k 0) false=true/\rank l ((pendTo l n).getD k 0)=k:=by
 induction n with
 | zero=>intro k h;simp [rank,pendTo] at h
 | succ n ih =>
  intro k h;rw [rank_succ] at h;rw [pendTo_succ];split at h
  ·rename_i hp;rw [if_pos hp];rcases Nat.lt_or_ge k (rank l n) with h1 | h1
   ·have e:(pendTo l n ++ [n]).getD k 0=(pendTo l n).getD k 0:=(by simp only [List.getD];rw [List.getElem?_append_left h1]);rw [e];have:=ih k h1;exact ⟨by omega,this.2⟩
   obtain rfl:k=rank l n:=(by omega);have e:(pendTo l n ++ [n]).getD (rank l n) 0=n:=(by simp [List.getD,rank]);rw [e];exact ⟨by omega,hp,rfl⟩
  rename_i hp;rw [if_neg hp];have:=ih k h;exact ⟨by omega,this.2⟩
theorem getD_set (l:List ByteArray) (i j:Nat) (t d:ByteArray) (h:i < l.length):(l.set i t).getD j d=if i=j then t else l.getD j d:=by
 simp only [List.getD,List.getElem?_set];split
 ·rename_i e;subst e;simp
 ·rfl
theorem crashTo_at (D:Dev) (keep:List Bool) (n:Nat) (_hn:D.pend.length=n) (hk:D.kept.length=n) (i:Nat) (hi:i < n):∀ m,m<=rank D.pend n ->
  (crashTo D (pendTo D.pend n) keep m).getD i ⟨#[]⟩=if D.pend.getD i false=true/\rank D.pend i < m/\keep.getD (rank D.pend i) false=true then D.now.getD i ⟨#[]⟩ else D.kept.getD i ⟨#[]⟩:=by
 intro m
 induction m with
 | zero=>intro _;rw [if_neg (by omega)];rfl
 | succ m ih =>
  intro hm;have ih:=ih (by omega);have hr:=pendTo_rank D.pend n m (by omega);show (if keep.getD m false=true then (crashTo D (pendTo D.pend n) keep m).set ((pendTo D.pend n).getD m 0) (D.now.getD ((pendTo D.pend n).getD m 0) ⟨#[]⟩) else crashTo D (pendTo D.pend n) keep m).getD i ⟨#[]⟩=_;generalize (pendTo D.pend n).getD m 0=q at *;obtain ⟨q1,q2,q3⟩:=hr;split
  ·rename_i hkm;rw [getD_set _ _ _ _ _ (by rw [crashTo_length,hk];exact q1),ih];by_cases hqi:q=i
   ·subst hqi;rw [if_pos rfl,if_pos ⟨q2,by omega,by rw [q3];exact hkm⟩]
   rw [if_neg hqi];by_cases hp:D.pend.getD i false=true
   ·have hne:rank D.pend i ≠ m:=by
     intro e;rcases Nat.lt_or_ge i q with h | h
     ·have:=rank_lt D.pend i q h hp;omega
     have:=rank_lt D.pend q i (by omega) q2;omega
    by_cases hx:rank D.pend i < m/\keep.getD (rank D.pend i) false=true
    ·rw [if_pos ⟨hp,hx⟩,if_pos ⟨hp,by omega,hx.2⟩]
    rw [if_neg (fun h=>hx h.2),if_neg (fun h=>hx ⟨by omega,h.2.2⟩)]
   rw [if_neg (fun h=>hp h.1),if_neg (fun h=>hp h.1)]
  rename_i hkm;rw [ih];by_cases hx:D.pend.getD i false=true/\rank D.pend i < m/\keep.getD (rank D.pend i) false=true
  ·rw [if_pos hx,if_pos ⟨hx.1,by omega,hx.2.2⟩]
  rw [if_neg hx,if_neg (fun h=>?_)];obtain ⟨h1,h2,h3⟩:=h;rcases Nat.lt_or_ge (rank D.pend i) m with h4 | h4
  ·exact hx ⟨h1,h4,h3⟩
  obtain e:rank D.pend i=m:=(by omega);rw [e] at h3;exact hkm h3
theorem crash_at (D:Dev) (k:Nat) (h:D.Ok k) (keep:List Bool) (i:Nat) (hi:i < D.kept.length) :
  (D.crash keep).getD i ⟨#[]⟩=if D.pend.getD i false=true/\keep.getD (rank D.pend i) false=true then D.now.getD i ⟨#[]⟩ else D.kept.getD i ⟨#[]⟩:=by
 unfold Dev.crash
 have:=crashTo_at D keep D.pend.length rfl h.plen.symm i (by rw [h.plen];exact hi) (rank D.pend D.pend.length) (Nat.le_refl _)
 rw [show (pendTo D.pend D.pend.length).length=rank D.pend D.pend.length from rfl,this]
 by_cases hp:D.pend.getD i false=true
 ·have:=rank_lt D.pend i D.pend.length (by rw [h.plen];exact hi) hp;simp only [hp,this,true_and]
 ·simp only [hp,false_and,Bool.false_eq_true]
theorem crash_length (D:Dev) (keep:List Bool):(D.crash keep).length=D.kept.length:=crashTo_length _ _ _ _
theorem crash_sized (D:Dev) (k:Nat) (h:D.Ok k) (keep:List Bool):sized (D.crash keep):=
 crashTo_sized _ _ _ h.kept h.now h.len (fun n hn=>by have:=pendTo_mem _ _ _ hn;rw [<- h.plen];exact this.1) _ (Nat.le_refl _)
theorem ext_blocks (a b:List ByteArray) (hl:a.length=b.length) (h:∀ i,i < a.length->a.getD i ⟨#[]⟩=b.getD i ⟨#[]⟩):a=b:=by
 apply List.ext_getElem hl;intro i h1 h2;have:=h i h1;simpa [List.getD,h1,h2] using this
theorem crash_none (D:Dev) (k:Nat) (h:D.Ok k):D.crash []=D.kept:=
 ext_blocks _ _ (crash_length _ _) fun i hi=>by rw [crash_at D k h [] i (by rw [<- crash_length D []];exact hi),if_neg (by simp)]
theorem getD_setB (l:List Bool) (i j:Nat) (t:Bool) (h:i < l.length):(l.set i t).getD j false=if i=j then t else l.getD j false:=by
 simp only [List.getD,List.getElem?_set];split
 ·rename_i e;subst e;simp
 ·rfl
end Go.Proofs.YtnpdhidliaahbaaGreat
namespace Go.Proofs.YtnpdhidliaahbaaGreat
open Go.Lib (hid)
open Go Go.RowKit
variable {B b:Nat} {w:World} {y:Lay} {D:Dev}
theorem info_byte:(Tryz.prog.info? 5).map (fun i=>(i.zero,i.size,i.bytes))=some (some (.int .u8 0),1,1):=by kernel_rfl
def fillTo (x:UInt8) (j:Nat):List UInt8:=List.replicate j x ++ List.replicate (128 - j) 0
theorem fillTo_length (x:UInt8) (j:Nat) (h:j<=128):(fillTo x j).length=128:=by simp [fillTo];omega
theorem fillTo_set (x:UInt8) (j:Nat) (h:j < 128):(fillTo x j).set j x=fillTo x (j+1):=by
 unfold fillTo;rw [List.set_append_right _ _ (by simp),List.length_replicate,Nat.sub_self,show 128 - j=(128 - (j+1))+1 by omega,List.replicate_succ,List.set_cons_zero,List.replicate_succ'];simp
theorem fillTo_zero (x:UInt8):fillTo x 0=List.replicate 128 0:=by simp [fillTo]
theorem fillTo_all (x:UInt8):fillTo x 128=List.replicate 128 x:=by simp [fillTo]
theorem block_any (x:UInt8) (w:World):Calls Tryz.prog 88 #[bval x] w fun e w'=>e=.returned (.string (txt (List.replicate 128 x)))/\Below w.heap.size w w':=by
 obtain ⟨ib,hib,hzb,hsb,hbb⟩:=info_parts info_byte;have hmk:∀ wx:World,(Instr.makeSlice 94 (.int .i64 128) (.int .i64 128)).run Tryz.prog wx=.ok (.slice (some ⟨wx.heap.size,0,none⟩) 128 128) (wx.alloc (.cells (bcells (fillTo x 0)).toArray 5)):=fun wx=>by
  have hr:=run_make (P:=Tryz.prog) wx 94 5 ib (.int .u8 0) Tryz.underlying94 hib hzb .i64 .i64 128 128 (by omega) (by omega) (by rw [hbb];omega) (by omega);rw [fillTo_zero,<- bcells_zero];simpa [hsb,Value.cells,madeCells_one] using hr
 have hr0:Hid (Row (w.alloc (.cells (bcells (fillTo x 0)).toArray 5)) w.heap.size 5 (bcells (fillTo x 0))):=hid (Row.new w _ _ rfl);have hb0:Hid (Below w.heap.size w (w.alloc (.cells (bcells (fillTo x 0)).toArray 5))):=hid ((Below.refl _ _).alloc (Nat.le_refl _) _);have hend:Hid (txt (fillTo x 128)=txt (List.replicate 128 x)):=hid (by rw [fillTo_all]);generalize hT:txt (List.replicate 128 x)=T at *;clear hT;obtain ⟨X,hX⟩:∃ X,bval x=X:=⟨_,rfl⟩;have HX:=hid hX;rw [hX];have hXw:∃ n:Int,X=.int .u8 n:=⟨_,hX.symm⟩;clear hX;obtain ⟨n,rfl⟩:=hXw;go_enter Tryz.func88,Tryz.ntmps88;go_wp2_with fail;clear hmk;go_loopw [4] (fun q wr=>∃ j:Nat,j<=128/\q=.int .i64 j/\Hid (Row wr w.heap.size 5 (bcells (fillTo x j)))/\Hid (Below w.heap.size w wr)) (fun q _=>128 - (intOf q).toNat);case atStart=>exact ⟨0,by omega,rfl,hr0,hb0⟩
 case round =>
  obtain ⟨j,hj,rfl,hr,hb⟩:=hrel;by_cases hlt:j < 128
  ·have i1:(j:Int) < 128:=(by omega);have hl:(bcells (fillTo x j)).length=128:=(by rw [bcells_length,fillTo_length _ _ hj]);have hc:=hr.out.cellAt j (List.getElem?_eq_getElem (by rw [hl];exact hlt));have hf:=hr.out.free j (by rw [hl];exact hlt);generalize (bcells (fillTo x j))[j]'(by rw [hl];exact hlt)=old at hc;clear hl;go_wp2_with fail;go_roundw;case rel =>
    refine ⟨j+1,by omega,by go_num,hid ?_,hid (hb.out.setCell (by dsimp only;omega) _)⟩;have:=hr.out.set j (bval x);rw [bcells_set,fillTo_set x j hlt,HX.out] at this;exact this
   case measure=>simp [intOf];omega
  obtain rfl:j=128:=(by omega);have hcv:∀ c:Nat,(convert 94 9 (.slice (some ⟨w.heap.size,0,none⟩) 128 c)).run Tryz.prog wr=.ok (.string (txt (fillTo x 128))) wr:=fun c =>
   run_string_of_row _ _ 5 128 c (by rw [fillTo_length _ _ (Nat.le_refl _)]) Tryz.underlying94 Tryz.underlying5 Tryz.underlying9 hr.out
  go_wp2_with fail;go_ret;exact ⟨by rw [hend.out];rfl,hb.out⟩
def blk (x:UInt8):ByteArray:=txt (List.replicate 128 x)
theorem blk_size (x:UInt8):(blk x).size=128:=by show (List.toArray _).size=_;simp
theorem blk_any (x:UInt8) (w:World):Calls Tryz.prog 88 #[bval x] w fun e w'=>e=.returned (.string (blk x))/\Below w.heap.size w w':=block_any x w
end Go.Proofs.YtnpdhidliaahbaaGreat
