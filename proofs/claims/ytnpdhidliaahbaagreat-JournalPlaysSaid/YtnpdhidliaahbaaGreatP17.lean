/- Records: Encode. -/
import Derived.Test.YtnpdhidliaahbaaGreatP16
import Derived.Test.YtnpdhidliaahbaaGreatP03
import Derived.Test.YtnpdhidliaahbaaGreatP12
import Derived.Test.YtnpdhidliaahbaaGreatP10
import Derived.Test.YtnpdhidliaahbaaGreatP09
set_option maxRecDepth 100000
set_option maxHeartbeats 32000000
set_option linter.unusedSimpArgs false
set_option linter.unusedVariables false
namespace Go.Proofs.YtnpdhidliaahbaaGreat
open Go.Lib (hid)
open Go Go.RowKit
namespace Rec
open Go.Lib (hid)
def pd (x:V) (bs:Bytes):Bytes:=head x ++ (bs ++ List.replicate (115 - bs.length) 0)
theorem pd_length (x:V) (bs:Bytes) (h:bs.length<=115):(pd x bs).length=128:=by
 unfold pd;simp [head_length];omega
theorem pd_splice (x:V) (bs c:Bytes) (h:bs.length+c.length<=115):splice (pd x bs) (13+bs.length) c=pd x (bs ++ c):=by
 unfold splice pd;have e1:head x ++ (bs ++ List.replicate (115 - bs.length) 0)=(head x ++ bs) ++ List.replicate (115 - bs.length) 0:=by rw [List.append_assoc]
 have hl:(head x ++ bs).length=13+bs.length:=(by rw [List.length_append,head_length]);rw [e1,List.take_left' hl,List.drop_append,List.drop_of_length_le (by rw [hl];omega),List.nil_append,List.drop_replicate,hl];simp only [List.append_assoc,List.length_append];rw [show 115 - bs.length - (13+bs.length+c.length - (13+bs.length))=115 - (bs.length+c.length) by omega]
theorem pd_head (x:V) (hk:0<=x.kind/\x.kind<=4):splice (splice (magic ++ List.replicate 124 0) 5 (le 8 x.seq)) 4 (le 1 x.kind.toNat)=pd x []:=by
 have e1:splice (magic ++ List.replicate 124 0) 5 (le 8 x.seq)=(magic ++ [0]) ++ (le 8 x.seq ++ List.replicate 115 0):=by
  unfold splice;rw [le_length];have h1:(magic ++ List.replicate 124 (0:UInt8)).take 5=magic ++ [0]:=rfl;have h2:(magic ++ List.replicate 124 (0:UInt8)).drop (5+8)=List.replicate 115 0:=rfl;rw [h1,h2,List.append_assoc]
 rw [e1];unfold splice pd head;have h3:le 1 x.kind.toNat = [UInt8.ofNat x.kind.toNat]:=by
  have:x.kind.toNat % 256=x.kind.toNat:=(by omega);simp [le,this]
 rw [h3,List.append_assoc magic [0]];have h4:(magic ++ ([0] ++ (le 8 x.seq ++ List.replicate 115 (0:UInt8)))).take 4=magic:=rfl;have h5:(magic ++ ([0] ++ (le 8 x.seq ++ List.replicate 115 (0:UInt8)))).drop (4 + [UInt8.ofNat x.kind.toNat].length)=le 8 x.seq ++ List.replicate 115 0:=rfl;rw [h4,h5];simp
theorem rb_pd (x:V):rb x=pd x (body x):=rfl
end Rec
theorem zeros124 (w:World):Calls Tryz.prog 72 #[.string ⟨#[0]⟩,.int .i64 124] w fun e w'=>e=.returned (.string (txt (List.replicate 124 0)))/\Below w.heap.size w w':=by
 have q:=Tryz.strings_Repeat ⟨#[0]⟩ 124 w (by decide) (by decide);have e:Lib.repeatL (⟨#[0]⟩:ByteArray).data.toList 124=List.replicate 124 0:=(by decide +kernel);have e2:(⟨(Lib.repeatL (⟨#[0]⟩:ByteArray).data.toList 124).toArray⟩:ByteArray)=txt (List.replicate 124 0):=(by rw [e];rfl);rw [e2] at q;exact q
theorem hb_take (l:List Int) (j:Nat) (h:j < l.length):Rec.hb (l.take (j+1))=Rec.hb (l.take j) ++ le 2 (l.getD j 0).toNat:=by
 rw [List.take_succ_eq_append_getElem h,Rec.hb_append];congr 1;simp [Rec.hb,List.getD,h]
theorem mb_take (l:List Bool) (j:Nat) (h:j < l.length):Rec.mb (l.take (j+1))=Rec.mb (l.take j) ++ le 1 (if l.getD j false=true then 1 else 0):=by
 rw [List.take_succ_eq_append_getElem h,Rec.mb_append];congr 1;simp only [Rec.mb,List.map_cons,List.map_nil,List.getD,List.getElem?_eq_getElem h,Option.getD_some];cases l[j] <;> rfl
theorem wpd_any (x:Rec.V) (bs:Bytes) (b k n:Nat) (hk:SizeOk k) (hf:bs.length+k<=115) (hn:n < 256 ^ k) (hn64:n<=9223372036854775807) (w:World) (h:Row w b 148 [.string (txt (Rec.pd x bs)),.int .i64 ((13+bs.length:Nat):Int)]) :
  Calls Tryz.prog 75 #[.pointer (some ⟨b,0,none⟩),.int .i64 k,.int .i64 n] w fun e w'=>e=.returned (.tuple #[])/\Row w' b 148 [.string (txt (Rec.pd x (bs ++ le k n))),.int .i64 ((13+(bs ++ le k n).length:Nat):Int)]/\Only [b] w w':=by
 have hp:=Rec.pd_length x bs (by omega)
 have q:=wput_any b (txt (Rec.pd x bs)) (13+bs.length) k n hk (by rw [txt_size,hp];decide) (by rw [txt_size,hp];omega) hn hn64 w h
 rw [txt_list,Rec.pd_splice x bs (le k n) (by rw [le_length];exact hf)] at q
 have e:13+(bs ++ le k n).length=13+bs.length+k:=by rw [List.length_append,le_length];omega
 rw [e]
 exact q
theorem encode_any (v:Value) (x:Rec.V) (w:World) (h:RecAt w v x) :
  Calls Tryz.prog 23 #[v] w fun e w'=>e=.returned (.tuple #[.string (txt (Rec.encR x).1),.int .i64 (Rec.encR x).2])/\Below w.heap.size w w':=by
 have hmay:=fun w h=>recmay_any v x w h
 have H0:=h
 obtain ⟨⟨hv,mv,rfl,hh,hm⟩,hq,hs,hk,ha,hl1,hl2⟩:=h
 obtain ⟨a1,c1,rfl⟩:=hh.form
 obtain ⟨a2,c2,rfl⟩:=hm.form
 have R0:=Row.new w 61 [.int .i64 x.kind,.int .u64 (x.seq:Int),.int .i64 x.at_,.slice a1 x.homes.length c1,.slice a2 x.masked.length c2,.int .u32 (x.sum:Int)] rfl
 have BA:=hid ((Below.refl w.heap.size w).alloc (Nat.le_refl _) (.cells #[.int .i64 x.kind,.int .u64 (x.seq:Int),.int .i64 x.at_,.slice a1 x.homes.length c1,.slice a2 x.masked.length c2,.int .u32 (x.sum:Int)] 61))
 have Q:=hmay _ (H0.below BA.out)
 have HI:=hid hh
 have HF:=hid hm
 have HR:=hid R0
 unfold Rec.encR
 by_cases k:Rec.may x=true
 ·rw [if_pos k];obtain ⟨T,hT⟩:∃ T,T=txt (Rec.rb x):=⟨_,rfl⟩;show Calls Tryz.prog _ _ w fun e w'=>e=.returned (.tuple #[.string (txt (Rec.rb x)),.int .i64 0])/\Below w.heap.size w w';rw [<- hT];have HT:=hid hT;clear hT;rw [k] at Q;have HQ:=hid Q;have K:=hid k;obtain ⟨q0,q1,q2,q3,q4,q5⟩:=R0.c6;clear Q k R0 hh hm H0 hmay;go_enter Tryz.func23,Tryz.ntmps23;go_wp2_with fail;refine HQ.out.mono ?_;rintro e w1 ⟨rfl,hb1⟩;have R1:=HR.out.below hb1 (by simp);have r0:=R1.cellAt 0 rfl;have r1:=R1.cellAt 1 rfl;have HR1:=hid R1;have hX1:=R1.lt;have hBA1:=hid (BA.out.trans (hb1.mono (by simp)));clear q0 q1 q2 q3 q4 q5 HQ HR BA R1;have hcat:(⟨#[71,76,74,119]⟩:ByteArray).size+(txt (List.replicate 124 0)).size<=9223372036854775807:=by rw [txt_size];simp [ByteArray.size]
  have hcat2:¬ 9223372036854775807 < (⟨#[71,76,74,119]⟩:ByteArray).size+(txt (List.replicate 124 0)).size:=(by omega);have hcat3:¬ 9223372036854775807 < 4+(txt (List.replicate 124 0)).size:=hcat2;have hcat4:4+(txt (List.replicate 124 0)).size<=9223372036854775807:=hcat;have hS:(⟨#[71,76,74,119]⟩:ByteArray) ++ txt (List.replicate 124 0)=txt (Rec.magic ++ List.replicate 124 0):=(by rw [<- txt_append];rfl);have hput:Hid (∀ w,Calls Tryz.prog 74 #[.string ((⟨#[71,76,74,119]⟩:ByteArray) ++ txt (List.replicate 124 0)),.int .i64 5,.int .i64 8,.int .u64 (x.seq:Int)] w fun e w'=>e=.returned (.tuple #[.string (txt (splice (Rec.magic ++ List.replicate 124 0) 5 (le 8 x.seq))),.bool true])/\Below w.heap.size w w'):=hid (fun w=>by
   have:=put_yes ((⟨#[71,76,74,119]⟩:ByteArray) ++ txt (List.replicate 124 0)) 5 8 x.seq (.inr (.inr (.inr rfl))) (by rw [hS,txt_size];decide) (by rw [hS,txt_size];decide) (by omega) (by omega) w;rw [hS,txt_list,<- hS] at this;exact this)
  have hz:=hid zeros124;obtain ⟨S0,hS0⟩:∃ S0,S0=txt (splice (Rec.magic ++ List.replicate 124 0) 5 (le 8 x.seq)):=⟨_,rfl⟩;rw [<- hS0] at hput;have HS0:=hid hS0;clear hS0;have KS:=hid (Rec.may_cases K.out);clear hS;generalize txt (List.replicate 124 0)=Z at *;go_wp2_with fail
  go_region_held3 (fun w'=>w'.cell? ⟨w.heap.size,1,none⟩=some (.int .u64 (x.seq:Int)))
   (first | exact r1 | exact s1 | exact t1)
   (first | (go_at_call 72;refine (hz.out _).mono ?_;rintro e w2 ⟨rfl,hb2'⟩;have hb2:Below w1.heap.size w1 w2:=⟨hb2'.os,hb2'.tape,hb2'.output,hb2'.size,hb2'.block⟩;have s1:=(hb2.cell (p:=⟨w.heap.size,1,none⟩) hX1).trans r1) | (go_at_call 74;refine (hput.out _).mono ?_;rintro e w3 ⟨rfl,hb3'⟩;have hb3:Below w2.heap.size w2 w3:=⟨hb3'.os,hb3'.tape,hb3'.output,hb3'.size,hb3'.block⟩;have t1:=(hb3.cell (p:=⟨w.heap.size,1,none⟩) (Nat.lt_of_lt_of_le hX1 hb2.size)).trans s1) | fail "none")
  have hB3:=hid (hb2.trans (hb3.mono hb2.size));have hBA3:=hid (hBA1.out.trans (hB3.out.mono hBA1.out.size));have HR3:=hid (HR1.out.below hB3.out hX1);clear hb2 hb3 hb2' hb3' r1 s1 t1 hcat hcat2 hcat3 hcat4 hput hz HR1 hX1 hb1;have hw4:Hid (Below w3.heap.size w3 (w3.alloc (.cells #[.string S0,.int .i64 4] 148))):=hid ((Below.refl _ _).alloc (Nat.le_refl _) _);have HW:Hid (Row (w3.alloc (.cells #[.string S0,.int .i64 4] 148)) w3.heap.size 148 [.string S0,.int .i64 4]):=hid (Row.new w3 _ _ rfl);have hXW:w.heap.size < w3.heap.size:=HR3.out.lt;have HR4:=hid (HR3.out.below hw4.out hXW);have x0:=HR4.out.cellAt 0 rfl;have HB4:=hid (hBA3.out.trans (hw4.out.mono (by omega)));have hk4:0<=x.kind/\x.kind<=4:=by rcases KS.out with ⟨h,_⟩ | ⟨h,_⟩ | ⟨h,_⟩ | ⟨h,_⟩ <;> omega
  obtain ⟨kn,hkn⟩:=Int.eq_ofNat_of_zero_le hk4.1;have P1:Hid (Calls Tryz.prog 75 #[.pointer (some ⟨w3.heap.size,0,none⟩),.int .i64 1,.int .i64 x.kind] (w3.alloc (.cells #[.string S0,.int .i64 4] 148)) fun e w'=>e=.returned (.tuple #[])/\Row w' w3.heap.size 148 [.string (txt (Rec.pd x [])),.int .i64 5]/\Only [w3.heap.size] (w3.alloc (.cells #[.string S0,.int .i64 4] 148)) w'):=hid (by
   have:=wput_any w3.heap.size S0 4 1 kn (.inl rfl) (by rw [HS0.out,txt_size];rw [splice_length _ _ _ (by rw [le_length];decide)];decide) (by rw [HS0.out,txt_size];rw [splice_length _ _ _ (by rw [le_length];decide)];decide) (by omega) (by omega) _ HW.out;rw [HS0.out,txt_list,show kn=x.kind.toNat by omega,Rec.pd_head x hk4,<- HS0.out,<- show kn=x.kind.toNat by omega,<- hkn] at this;exact this)
  clear HS0 hkn;go_wp2_with fail;generalize w3.alloc (.cells #[.string S0,.int .i64 4] 148)=w4 at *;have HS4:Hid (w.heap.size<=w4.heap.size):=hid HB4.out.size;generalize w3.heap.size=W at *;clear hBA3 HR3 hB3;refine P1.out.mono ?_;rintro e w5 ⟨rfl,hr5,ho5⟩;have HR5:=hid (ho5.row HR4.out (by simp;omega));have x0:=HR5.out.cellAt 0 rfl;have x2:=HR5.out.cellAt 2 rfl;have x3:=HR5.out.cellAt 3 rfl;have x4:=HR5.out.cellAt 4 rfl;have x5:=HR5.out.cellAt 5 rfl;have y1:=hr5.cellAt 1 rfl;have f1:=hr5.free 1 (by simp);have HW6:=hid (hr5.set 1 (.int .i64 13));have HO6:=hid (ho5.trans (Only.setCell (S:=[W]) w5 ⟨W,1,none⟩ (.int .i64 13) (by simp)));have HR6:=hid (HR5.out.other (a:=⟨W,1,none⟩) (by simp;omega) (.int .i64 13));have z0:=HR6.out.cellAt 0 rfl;have z2:=HR6.out.cellAt 2 rfl;have z3:=HR6.out.cellAt 3 rfl;have z4:=HR6.out.cellAt 4 rfl;have z5:=HR6.out.cellAt 5 rfl;have HR4B:=HR4;clear hr5 ho5 P1 HR4 hw4 HW;rcases KS.out with ⟨k1,j1,j2,j3,j4,j5⟩ | ⟨k1,j1,j2,j3,j4,j5,j6⟩ | ⟨k1,j1,j2,j3,j4,j5,j6⟩ | ⟨k1,j1,j2,j3⟩
  ·have HBD:Hid (Rec.body x = [] ++ le 2 x.at_.toNat):=hid (by unfold Rec.body;rw [if_pos k1];rfl);have P2:=hid (wpd_any x [] W 2 x.at_.toNat (.inr (.inl rfl)) (by simp) (by omega) (by omega) _ HW6.out);rw [show ((x.at_.toNat:Nat):Int)=x.at_ by omega] at P2;clear KS K j1 j2 j3 j4 j5;go_wp2_with (go_at_call 75;refine P2.out.mono ?_;rintro e w7 ⟨rfl,hr7,ho7⟩;have y0:=hr7.cellAt 0 rfl);go_ret2;exact ⟨by rw [HT.out,Rec.rb_pd,HBD.out];rfl,HB4.out.trans ((HO6.out.trans ho7).below HS4.out (by simp;omega))⟩
  ·have hn1:x.homes.length<=24:=j5;have hml:x.masked.length=x.homes.length:=j6;have HBD:Hid (Rec.body x = [UInt8.ofNat x.homes.length] ++ (Rec.hb x.homes ++ Rec.mb x.masked)):=hid (by unfold Rec.body;rw [if_neg (by omega),if_neg (by omega)]);have hle1:le 1 x.homes.length = [UInt8.ofNat x.homes.length]:=by
    have:x.homes.length % 256=x.homes.length:=(by omega);simp [le,this]
   have P2:Hid (Calls Tryz.prog 75 #[.pointer (some ⟨W,0,none⟩),.int .i64 1,.int .i64 (x.homes.length:Int)] (w5.setCell ⟨W,1,none⟩ (.int .i64 13)) fun e w'=>e=.returned (.tuple #[])/\Row w' W 148 [.string (txt (Rec.pd x [UInt8.ofNat x.homes.length])),.int .i64 14]/\Only [W] (w5.setCell ⟨W,1,none⟩ (.int .i64 13)) w'):=hid (by
    have:=wpd_any x [] W 1 x.homes.length (.inl rfl) (by simp) (by omega) (by omega) _ HW6.out;rw [List.nil_append,hle1] at this;exact this)
   have HHome:Hid (∀ b ∈ x.homes,0<=b/\b < 4096):=hid (fun b hb=>Rec.blockOk_iff.1 (Rec.rises_mem j3 b hb));clear KS K j1 j2 j3 j4 j5 j6 hle1;go_wp2_with fail;refine P2.out.mono ?_;rintro e w7 ⟨rfl,hr7,ho7⟩;have HO7:=hid (HO6.out.trans ho7);have HR7:=hid (ho7.row HR6.out (by simp;omega));have u3:=HR7.out.cellAt 3 rfl;have HW7:=hid hr7;clear hr7 ho7 P2 z0 z2 z3 z4 z5 x0 x2 x3 x4 x5 y1 f1 HW6 HO6 HR6 HR5;go_wp2_with fail;go_loopw [8,43] (fun a q wr=>∃ j:Nat,j<=x.homes.length/\q=.int .i64 j/\Hid (Row wr W 148 [.string (txt (Rec.pd x ([UInt8.ofNat x.homes.length] ++ Rec.hb (x.homes.take j)))),.int .i64 ((13+([UInt8.ofNat x.homes.length] ++ Rec.hb (x.homes.take j)).length:Nat):Int)])/\Hid (Only [W] w4 wr)) (fun _ q _=>x.homes.length - (intOf q).toNat);case atStart=>exact ⟨0,by omega,rfl,hid (by rw [List.take_zero];exact HW7.out),HO7⟩
   case round =>
    obtain ⟨j,hj,rfl,hrw,how⟩:=hrel;by_cases hlt:j < x.homes.length
    ·have i0:(0:Int)<=(j:Int):=(by omega);have i1:(j:Int) < (x.homes.length:Int):=(by omega);obtain ⟨g,off,rfl,c0⟩:=HI.out.cells j hlt;have hg:g < w.heap.size:=World.block_lt_of_cell? w _ c0;have c0':=how.out.cell ((HB4.out.cell (p:=⟨g,off+j,none⟩) hg).trans c0) (by simp;omega);have hx:=HHome.out (x.homes.getD j 0) (by simp [List.getD,hlt,List.getElem_mem]);have P:=wpd_any x ([UInt8.ofNat x.homes.length] ++ Rec.hb (x.homes.take j)) W 2 (x.homes.getD j 0).toNat (.inr (.inl rfl)) (by rw [List.length_append,Rec.hb_length,List.length_take];simp;omega) (by omega) (by omega) _ hrw.out;rw [List.append_assoc,<- hb_take _ j hlt,show (((x.homes.getD j 0).toNat:Nat):Int)=x.homes.getD j 0 by omega] at P;have HP:=hid P;clear P c0 hrw;generalize x.homes.getD j 0=y at *;go_wp2_with (go_at_call 75;refine HP.out.mono ?_;rintro e w8 ⟨rfl,hr8,ho8⟩);go_roundw;case rel=>exact ⟨j+1,by omega,by go_num,hid hr8,hid (how.out.trans ho8)⟩
     case measure=>simp [intOf];omega
    obtain rfl:j=x.homes.length:=(by omega);rw [List.take_length] at hrw;have HR8:=hid (how.out.row HR4B.out (by simp;omega));have u4:=HR8.out.cellAt 4 rfl;clear u3;go_wp2_with fail;rename World=>wA
    go_loopw [10,11,54] (fun a c q wr=>∃ i:Nat,i<=x.masked.length/\q=.int .i64 i/\Hid (Row wr W 148 [.string (txt (Rec.pd x ([UInt8.ofNat x.homes.length] ++ (Rec.hb x.homes ++ Rec.mb (x.masked.take i))))),.int .i64 ((13+([UInt8.ofNat x.homes.length] ++ (Rec.hb x.homes ++ Rec.mb (x.masked.take i))).length:Nat):Int)])/\Hid (Only [W] w4 wr)) (fun _ _ q _=>x.masked.length - (intOf q).toNat);case atStart=>exact ⟨0,by omega,rfl,hid (by rw [List.take_zero,show Rec.mb [] = [] from rfl,List.append_nil];exact hrw.out),how⟩
    case round =>
     obtain ⟨i,hi,rfl,hrw2,how2⟩:=hrel;by_cases hlt:i < x.masked.length
     ·have i0:(0:Int)<=(i:Int):=(by omega);have i1:(i:Int) < (x.masked.length:Int):=(by omega);obtain ⟨g,off,rfl,c0⟩:=HF.out.cells i hlt;have hg:g < w.heap.size:=World.block_lt_of_cell? w _ c0;have c0':=how2.out.cell ((HB4.out.cell (p:=⟨g,off+i,none⟩) hg).trans c0) (by simp;omega);have P:=wpd_any x ([UInt8.ofNat x.homes.length] ++ (Rec.hb x.homes ++ Rec.mb (x.masked.take i))) W 1 (if x.masked.getD i false=true then 1 else 0) (.inl rfl) (by rw [List.length_append,List.length_append,Rec.hb_length,Rec.mb_length,List.length_take];simp;omega) (by split <;> decide) (by split <;> decide) _ hrw2.out;rw [List.append_assoc,List.append_assoc,<- mb_take _ i hlt] at P;have HP:=hid P;clear P c0 hrw2;cases hy:x.masked.getD i false
      ·rw [hy] at HP c0';go_wp2_with (go_at_call 75;refine HP.out.mono ?_;rintro e w8 ⟨rfl,hr8,ho8⟩);go_roundw;case rel=>exact ⟨i+1,by omega,by go_num,hid hr8,hid (how2.out.trans ho8)⟩
       case measure=>simp [intOf];omega
      rw [hy] at HP c0';go_wp2_with (go_at_call 75;refine HP.out.mono ?_;rintro e w8 ⟨rfl,hr8,ho8⟩);go_roundw;case rel=>exact ⟨i+1,by omega,by go_num,hid hr8,hid (how2.out.trans ho8)⟩
      case measure=>simp [intOf];omega
     obtain rfl:i=x.masked.length:=(by omega);rw [List.take_length] at hrw2;have y0:=hrw2.out.cellAt 0 rfl;go_wp2_with fail;go_ret2;exact ⟨by rw [HT.out,Rec.rb_pd,HBD.out];rfl,HB4.out.trans (how2.out.below HS4.out (by simp;omega))⟩
  ·have hn1:x.homes.length<=28:=j5;have hml:x.masked.length=0:=(by rw [j6];rfl);have HBD:Hid (Rec.body x = [UInt8.ofNat x.homes.length] ++ (Rec.hb x.homes ++ Rec.mb x.masked)):=hid (by unfold Rec.body;rw [if_neg (by omega),if_neg (by omega)]);have hle1:le 1 x.homes.length = [UInt8.ofNat x.homes.length]:=by
    have:x.homes.length % 256=x.homes.length:=(by omega);simp [le,this]
   have P2:Hid (Calls Tryz.prog 75 #[.pointer (some ⟨W,0,none⟩),.int .i64 1,.int .i64 (x.homes.length:Int)] (w5.setCell ⟨W,1,none⟩ (.int .i64 13)) fun e w'=>e=.returned (.tuple #[])/\Row w' W 148 [.string (txt (Rec.pd x [UInt8.ofNat x.homes.length])),.int .i64 14]/\Only [W] (w5.setCell ⟨W,1,none⟩ (.int .i64 13)) w'):=hid (by
    have:=wpd_any x [] W 1 x.homes.length (.inl rfl) (by simp) (by omega) (by omega) _ HW6.out;rw [List.nil_append,hle1] at this;exact this)
   have HHome:Hid (∀ b ∈ x.homes,0<=b/\b < 4096):=hid (fun b hb=>Rec.blockOk_iff.1 (Rec.rises_mem j3 b hb));clear KS K j1 j2 j3 j4 j5 j6 hle1;go_wp2_with fail;refine P2.out.mono ?_;rintro e w7 ⟨rfl,hr7,ho7⟩;have HO7:=hid (HO6.out.trans ho7);have HR7:=hid (ho7.row HR6.out (by simp;omega));have u3:=HR7.out.cellAt 3 rfl;have HW7:=hid hr7;clear hr7 ho7 P2 z0 z2 z3 z4 z5 x0 x2 x3 x4 x5 y1 f1 HW6 HO6 HR6 HR5;go_wp2_with fail;go_loopw [8,43] (fun a q wr=>∃ j:Nat,j<=x.homes.length/\q=.int .i64 j/\Hid (Row wr W 148 [.string (txt (Rec.pd x ([UInt8.ofNat x.homes.length] ++ Rec.hb (x.homes.take j)))),.int .i64 ((13+([UInt8.ofNat x.homes.length] ++ Rec.hb (x.homes.take j)).length:Nat):Int)])/\Hid (Only [W] w4 wr)) (fun _ q _=>x.homes.length - (intOf q).toNat);case atStart=>exact ⟨0,by omega,rfl,hid (by rw [List.take_zero];exact HW7.out),HO7⟩
   case round =>
    obtain ⟨j,hj,rfl,hrw,how⟩:=hrel;by_cases hlt:j < x.homes.length
    ·have i0:(0:Int)<=(j:Int):=(by omega);have i1:(j:Int) < (x.homes.length:Int):=(by omega);obtain ⟨g,off,rfl,c0⟩:=HI.out.cells j hlt;have hg:g < w.heap.size:=World.block_lt_of_cell? w _ c0;have c0':=how.out.cell ((HB4.out.cell (p:=⟨g,off+j,none⟩) hg).trans c0) (by simp;omega);have hx:=HHome.out (x.homes.getD j 0) (by simp [List.getD,hlt,List.getElem_mem]);have P:=wpd_any x ([UInt8.ofNat x.homes.length] ++ Rec.hb (x.homes.take j)) W 2 (x.homes.getD j 0).toNat (.inr (.inl rfl)) (by rw [List.length_append,Rec.hb_length,List.length_take];simp;omega) (by omega) (by omega) _ hrw.out;rw [List.append_assoc,<- hb_take _ j hlt,show (((x.homes.getD j 0).toNat:Nat):Int)=x.homes.getD j 0 by omega] at P;have HP:=hid P;clear P c0 hrw;generalize x.homes.getD j 0=y at *;go_wp2_with (go_at_call 75;refine HP.out.mono ?_;rintro e w8 ⟨rfl,hr8,ho8⟩);go_roundw;case rel=>exact ⟨j+1,by omega,by go_num,hid hr8,hid (how.out.trans ho8)⟩
     case measure=>simp [intOf];omega
    obtain rfl:j=x.homes.length:=(by omega);rw [List.take_length] at hrw;have HR8:=hid (how.out.row HR4B.out (by simp;omega));have u4:=HR8.out.cellAt 4 rfl;clear u3;go_wp2_with fail;rename World=>wA
    go_loopw [10,11,54] (fun a c q wr=>∃ i:Nat,i<=x.masked.length/\q=.int .i64 i/\Hid (Row wr W 148 [.string (txt (Rec.pd x ([UInt8.ofNat x.homes.length] ++ (Rec.hb x.homes ++ Rec.mb (x.masked.take i))))),.int .i64 ((13+([UInt8.ofNat x.homes.length] ++ (Rec.hb x.homes ++ Rec.mb (x.masked.take i))).length:Nat):Int)])/\Hid (Only [W] w4 wr)) (fun _ _ q _=>x.masked.length - (intOf q).toNat);case atStart=>exact ⟨0,by omega,rfl,hid (by rw [List.take_zero,show Rec.mb [] = [] from rfl,List.append_nil];exact hrw.out),how⟩
    case round =>
     obtain ⟨i,hi,rfl,hrw2,how2⟩:=hrel;by_cases hlt:i < x.masked.length
     ·exact absurd hlt (by omega)
     obtain rfl:i=x.masked.length:=(by omega);rw [List.take_length] at hrw2;have y0:=hrw2.out.cellAt 0 rfl;go_wp2_with fail;go_ret2;exact ⟨by rw [HT.out,Rec.rb_pd,HBD.out];rfl,HB4.out.trans (how2.out.below HS4.out (by simp;omega))⟩
  have HBD:Hid (Rec.body x = [] ++ le 4 x.sum):=hid (by unfold Rec.body;rw [if_neg (by omega),if_pos k1];rfl);have P2:=hid (wpd_any x [] W 4 x.sum (.inr (.inr (.inl rfl))) (by simp) (by omega) (by omega) _ HW6.out);clear KS K j1 j2 j3;go_wp2_with (go_at_call 75;refine P2.out.mono ?_;rintro e w7 ⟨rfl,hr7,ho7⟩;have y0:=hr7.cellAt 0 rfl);go_ret2;exact ⟨by rw [HT.out,Rec.rb_pd,HBD.out];rfl,HB4.out.trans ((HO6.out.trans ho7).below HS4.out (by simp;omega))⟩
 ·rw [if_neg k];rw [Bool.not_eq_true] at k;rw [k] at Q;have HQ:=hid Q;obtain ⟨q0,q1,q2,q3,q4,q5⟩:=R0.c6;clear Q k R0 hh hm H0 hmay;go_enter Tryz.func23,Tryz.ntmps23;go_wp2_with (go_at_call 73;refine HQ.out.mono ?_;rintro e w1 ⟨rfl,hb1⟩);go_ret2;exact ⟨rfl,BA.out.trans (hb1.mono (by simp))⟩
end Go.Proofs.YtnpdhidliaahbaaGreat
namespace Go.Proofs.YtnpdhidliaahbaaGreat
open Go.Lib (hid)
open Go Go.RowKit
theorem record_any (v:Value) (x:Rec.V) (w:World) (h:RecAt w v x) :
  Calls Tryz.prog 103 #[v] w fun e w'=>e=.returned (.string (txt (Rec.encR x).1))/\Below w.heap.size w w':=by
 have he:=fun w h=>encode_any v x w h
 have H0:=h
 obtain ⟨⟨hv,mv,rfl,hh,hm⟩,hq,hs,hk,ha,hl1,hl2⟩:=h
 obtain ⟨a1,c1,rfl⟩:=hh.form
 obtain ⟨a2,c2,rfl⟩:=hm.form
 have R0:=Row.new w 61 [.int .i64 x.kind,.int .u64 (x.seq:Int),.int .i64 x.at_,.slice a1 x.homes.length c1,.slice a2 x.masked.length c2,.int .u32 (x.sum:Int)] rfl
 have BA:=hid ((Below.refl w.heap.size w).alloc (Nat.le_refl _) (.cells #[.int .i64 x.kind,.int .u64 (x.seq:Int),.int .i64 x.at_,.slice a1 x.homes.length c1,.slice a2 x.masked.length c2,.int .u32 (x.sum:Int)] 61))
 have Q:=hid (he _ (H0.below BA.out))
 obtain ⟨q0,q1,q2,q3,q4,q5⟩:=R0.c6
 generalize txt (Rec.encR x).1=T at *
 generalize (Rec.encR x).2=E at *
 clear R0 hh hm H0 he
 go_enter Tryz.func103,Tryz.ntmps103
 go_wp2_with (go_at_call 23;refine Q.out.mono ?_;rintro e w1 ⟨rfl,hb1⟩)
 go_ret
 exact ⟨rfl,BA.out.trans (hb1.mono (by simp))⟩
theorem magic_prefix (s:ByteArray):Lib.hasPrefix s.data.toList (⟨#[71,76,74,119]⟩:ByteArray).data.toList=decide (s.data.toList.take 4=Rec.magic):=by
 have:=Lib.hasPrefix_of_take s.data.toList Rec.magic;show Lib.hasPrefix s.data.toList Rec.magic=_;rw [<- this];rw [Bool.eq_iff_iff];simp only [Bool.and_eq_true,decide_eq_true_eq,beq_iff_eq];constructor
 ·exact fun h=>h.2
 ·intro h;refine ⟨?_,h⟩;have:=congrArg List.length h;simp [Rec.magic] at this;simp [Rec.magic];omega
theorem txt_cut (l:List UInt8) (a b:Nat):(txt l).extract a b=txt ((l.take b).drop a):=by
 apply ByteArray.ext;apply Array.ext';simp [txt,ByteArray.data_extract,List.drop_take]
theorem extract_drop (s:ByteArray) (k:Nat):s.extract k s.size=txt (s.data.toList.drop k):=by
 have:=txt_cut s.data.toList k s.size;rw [txt_of] at this;rw [this,List.take_of_length_le (by rw [list_length];exact Nat.le_refl _)]
theorem cutprefix_any (s:ByteArray) (w:World) (hs:s.size<=9223372036854775807) :
  Calls Tryz.prog 176 #[.string s,.string ⟨#[71,76,74,119]⟩] w fun e w'=>e=.returned (.tuple #[.string (if s.data.toList.take 4=Rec.magic then txt (s.data.toList.drop 4) else s),.bool (decide (s.data.toList.take 4=Rec.magic))])/\w'=w:=by
 have q:=hid (Tryz.stringslite_HasPrefix s ⟨#[71,76,74,119]⟩ w)
 rw [magic_prefix] at q
 by_cases k:s.data.toList.take 4=Rec.magic
 ·rw [if_pos k,decide_eq_true k];rw [decide_eq_true k] at q;have h4:4<=s.size:=by
   have:=congrArg List.length k;rw [List.length_take,list_length] at this;have h:Rec.magic.length=4:=rfl;omega
  have he:=hid (extract_drop s 4);generalize txt (s.data.toList.drop 4)=T at *;have h4i:¬ ((s.size:Int) < 4):=(by omega);have h4j:(4:Int)<=(s.size:Int):=(by omega);clear k;go_enter Tryz.func176,Tryz.ntmps176;go_wp2_with (go_at_call 152;refine q.out.mono ?_;rintro e w1 ⟨rfl,rfl⟩);go_ret2;exact ⟨by rw [he.out];rfl,rfl⟩
 ·rw [if_neg k,decide_eq_false k];rw [decide_eq_false k] at q;clear k;go_enter Tryz.func176,Tryz.ntmps176;go_wp2_with (go_at_call 152;refine q.out.mono ?_;rintro e w1 ⟨rfl,rfl⟩);go_ret2;exact ⟨rfl,rfl⟩
theorem mask_any (s:ByteArray) (w:World) (hs:s.size<=9223372036854775000) :
  Calls Tryz.prog 111 #[.string s] w fun e w'=>e=.returned (.tuple #[.string (txt (Rec.mask s.data.toList).1),.bool (Rec.mask s.data.toList).2])/\w'=w:=by
 have hq:∀ w,Calls Tryz.prog 149 #[.string s,.string ⟨#[71,76,74,119]⟩] w fun e w'=>e=.returned (.tuple #[.string (if s.data.toList.take 4=Rec.magic then txt (s.data.toList.drop 4) else s),.bool (decide (s.data.toList.take 4=Rec.magic))])/\w'=w:=fun w=>by
  have q:=hid (cutprefix_any s w (by omega));generalize (if s.data.toList.take 4=Rec.magic then txt (s.data.toList.drop 4) else s)=A at *;generalize decide (s.data.toList.take 4=Rec.magic)=B at *;go_enter Tryz.func149,Tryz.ntmps149;go_wp2_with (go_at_call 176;refine q.out.mono ?_;rintro e w1 ⟨rfl,rfl⟩);go_ret2;exact ⟨rfl,rfl⟩
 have q:=hid (hq w)
 unfold Rec.mask
 by_cases k:s.data.toList.take 4=Rec.magic
 ·rw [if_pos k,decide_eq_true k] at q;rw [if_pos k];dsimp only;have hc:Hid ((⟨#[0,0,0,0]⟩:ByteArray) ++ txt (s.data.toList.drop 4)=txt ([0,0,0,0] ++ s.data.toList.drop 4)):=hid (by rw [<- txt_append];rfl);have hl:(txt (s.data.toList.drop 4)).size<=9223372036854775000:=by rw [txt_size,List.length_drop,list_length];omega
  generalize txt ([0,0,0,0] ++ s.data.toList.drop 4)=R at *;generalize txt (s.data.toList.drop 4)=T at *;have hcat3:¬ 9223372036854775807 < 4+T.size:=by omega
  have hcat4:4+T.size<=9223372036854775807:=(by omega);clear k hq;go_enter Tryz.func111,Tryz.ntmps111;go_wp2_with (go_at_call 149;refine q.out.mono ?_;rintro e w1 ⟨rfl,rfl⟩);go_ret2;exact ⟨by rw [hc.out];rfl,rfl⟩
 ·rw [if_neg k,decide_eq_false k] at q;rw [if_neg k];dsimp only;rw [txt_of];clear k hq;go_enter Tryz.func111,Tryz.ntmps111;go_wp2_with (go_at_call 149;refine q.out.mono ?_;rintro e w1 ⟨rfl,rfl⟩);go_ret2;exact ⟨rfl,rfl⟩
theorem unmask_any (s:ByteArray) (w:World) (hs:s.size<=9223372036854775000) :
  Calls Tryz.prog 163 #[.string s] w fun e w'=>e=.returned (.string (txt (Rec.unmask s.data.toList)))/\w'=w:=by
 unfold Rec.unmask
 rw [list_length]
 by_cases k:s.size < 4
 ·have h1:(s.size:Int) < 4:=(by omega);rw [if_pos k,txt_of];clear k;go_enter Tryz.func163,Tryz.ntmps163;go_wp2_with fail;go_ret;exact ⟨rfl,rfl⟩
 ·have h1:¬ (s.size:Int) < 4:=(by omega);have h4j:(4:Int)<=(s.size:Int):=(by omega);have h4:4<=s.size:=(by omega);rw [if_neg k];have he:=hid (extract_drop s 4);have hc:Hid ((⟨#[71,76,74,119]⟩:ByteArray) ++ txt (s.data.toList.drop 4)=txt (Rec.magic ++ s.data.toList.drop 4)):=hid (by rw [<- txt_append];rfl);have hl:(txt (s.data.toList.drop 4)).size<=9223372036854775000:=(by rw [txt_size,List.length_drop,list_length];omega);generalize txt (Rec.magic ++ s.data.toList.drop 4)=R at *;generalize txt (s.data.toList.drop 4)=T at *;have hT:=hid he.out.symm;have hcat3:¬ 9223372036854775807 < 4+(s.extract 4 s.size).size:=(by rw [he.out];omega);have hcat4:4+(s.extract 4 s.size).size<=9223372036854775807:=(by rw [he.out];omega);clear k;go_enter Tryz.func163,Tryz.ntmps163;go_wp2_with fail;go_ret;exact ⟨by rw [<- hc.out,<- he.out];rfl,rfl⟩
def readerC (db:Nat) (g:Geo.G) (place left seq:Nat) (sv cv rv:Value):List Value:=[.pointer (some ⟨db,0,none⟩),.int .i64 g.blocks,.int .i64 g.log,.int .i64 g.inodes,.int .i64 g.logAt,.int .i64 g.mapAt,.int .i64 g.mapLen,.int .i64 g.tableAt,.int .i64 g.tableLen,.int .i64 g.dataAt,.int .i64 (place:Int),.int .i64 (left:Int),.int .u64 (seq:Int),sv,cv,rv]
def sumV (all:Bytes):Value:=.int .u32 (u32 (more 0#32 all))
theorem readS_blk {D:Dev} {i:Nat} (h:i < D.kept.length):D.readS (i:Int)=Jr.blk D.now i/\D.ask (i:Int)=0:=by
 unfold Dev.readS Dev.ask Jr.blk;rw [if_neg (by omega),if_neg (by omega)];exact ⟨rfl,rfl⟩
theorem next_none (db b place seq:Nat) (g:Geo.G) (sv cv rv:Value) (w:World) (h:Row w b 171 (readerC db g place 0 seq sv cv rv)) :
  Calls Tryz.prog 137 #[.pointer (some ⟨b,0,none⟩)] w fun e w'=>e=.returned (.tuple #[.string ⟨#[]⟩,.bool false])/\w=w':=by
 have c11:=h.cellAt 11 rfl
 clear h
 go_enter Tryz.func137,Tryz.ntmps137
 go_wp2_with fail
 go_ret2
 exact ⟨rfl,rfl⟩
theorem next_some {Bd:Nat} {y:Lay} {D:Dev} (db b place left seq:Nat) (g:Geo.G) (hg:Geo.May g) (sv cv rv:Value) (w:World) (hD:DevAt Bd w db y D) (hk:(D.kept.length:Int)=g.blocks) (hp:place<=100000000) (hl:left<=100000000) (h:Row w b 171 (readerC db g place (left+1) seq sv cv rv)) (hF:∃ s,sv=.int .u32 s) :
  Calls Tryz.prog 137 #[.pointer (some ⟨b,0,none⟩)] w fun e w'=>e=.returned (.tuple #[.string (Jr.blk D.now (Jr.pb g place)),.bool true])/\Row w' b 171 (readerC db g (place+1) left seq sv cv rv)/\Only [b] w w':=by
 have q:=hid (ringblock_any (some ⟨db,0,none⟩) g hg place (by omega))
 have hpb:=Jr.pb_lt hg place
 have hlt:Jr.pb g place < D.kept.length:=by omega
 obtain ⟨e1,e2⟩:=readS_blk hlt
 have qr:Hid (∀ w',Below w.heap.size w w'->Calls Tryz.prog 27 #[.pointer (some ⟨db,0,none⟩),.int .i64 ((Jr.pb g place:Nat):Int)] w' fun e w2=>e=.returned (.tuple #[.string (Jr.blk D.now (Jr.pb g place)),.int .i64 0])/\w'=w2):=hid (fun w' hb=>by
  have:=read_any (hD.below hb) ((Jr.pb g place:Nat):Int);rwa [e1,e2] at this)
 have h4:=hg.ok.2.1
 clear e1 e2 hD hk hpb hlt hg
 generalize Jr.blk D.now (Jr.pb g place)=T at *
 generalize Jr.pb g place=P at *
 obtain ⟨s,rfl⟩:=hF
 unfold readerC ringV at *
 obtain ⟨g1,g2,g3,g4,g5,g6,g7,g8,g9⟩:=g
 dsimp only at *
 subst h4
 have w1':IntKind.i64.wrap ((place:Int)+1)=(place:Int)+1:=IntWalk.i64_in _ (by omega)
 have w2':IntKind.i64.wrap ((left:Int)+1 - 1)=(left:Int):=by rw [IntWalk.i64_in _ (by omega)];omega
 have hl0:¬ ((left:Int)+1=0):=by omega
 obtain ⟨c0,c1,c2,c3,c4,c5,c6,c7,c8,c9,c10,c11⟩:=h.c12
 have H:=hid h
 have hb:=h.lt
 clear h
 go_enter Tryz.func137,Tryz.ntmps137
 go_wp2_with fail
 go_region_held3 (fun w'=>w'.cell? ⟨b,0,none⟩=some (.pointer (some ⟨db,0,none⟩))/\w'.cell? ⟨b,1,none⟩=some (.int .i64 g1)/\w'.cell? ⟨b,2,none⟩=some (.int .i64 g2)/\w'.cell? ⟨b,3,none⟩=some (.int .i64 g3)/\w'.cell? ⟨b,4,none⟩=some (.int .i64 1)/\w'.cell? ⟨b,5,none⟩=some (.int .i64 g5)/\w'.cell? ⟨b,6,none⟩=some (.int .i64 g6)/\w'.cell? ⟨b,7,none⟩=some (.int .i64 g7)/\w'.cell? ⟨b,8,none⟩=some (.int .i64 g8)/\w'.cell? ⟨b,9,none⟩=some (.int .i64 g9)/\w'.cell? ⟨b,10,none⟩=some (.int .i64 (place:Int)))
  (first | exact ⟨c0,c1,c2,c3,c4,c5,c6,c7,c8,c9,c10⟩ | exact ⟨z0,z1,z2,z3,z4,z5,z6,z7,z8,z9,z10⟩)
  (first | (go_at_call 71;refine (q.out _).mono ?_;rintro e w2 ⟨rfl,hb2'⟩;have hb2:Below w.heap.size w w2:=⟨hb2'.os,hb2'.tape,hb2'.output,hb2'.size,hb2'.block⟩;have R2:=H.out.below hb2 hb;obtain ⟨z0,z1,z2,z3,z4,z5,z6,z7,z8,z9,z10,z11⟩:=R2.c12;have f10:=R2.free 10 (by simp);have f11:=R2.free 11 (by simp)) | (go_at_call 27;refine (qr.out _ hb2).mono ?_;rintro e w3 ⟨rfl,rfl⟩) | fail "none")
 have HB2:=hid hb2
 have HR3:=hid ((R2.set 10 (.int .i64 ((place:Int)+1))).set 11 (.int .i64 (left:Int)))
 have R3:=R2.set 10 (.int .i64 ((place:Int)+1))
 have y11:=R3.cellAt 11 rfl
 have fy11:=R3.free 11 (by simp)
 go_wp2_with fail
 go_ret2
 exact ⟨rfl,HR3.out,(Only.ofBelow HB2.out).trans ((Only.setCell _ _ _ (by simp)).trans (Only.setCell _ _ _ (by simp)))⟩
theorem homes1_any (db b X place left seq:Nat) (g:Geo.G) (hg:Geo.May g) (sv cv rv:Value) (x:Int) (hx : -9223372036854775808<=x/\x<=9223372036854775807) (w:World) (cX:w.cell? ⟨X,0,none⟩=some (.pointer (some ⟨b,0,none⟩))) (h:Row w b 171 (readerC db g place left seq sv cv rv)) :
  Calls Tryz.prog 162 #[.int .i64 x,.pointer (some ⟨X,0,none⟩)] w fun e w'=>e=.returned (.bool (!Geo.home g x))/\Below w.heap.size w w':=by
 have q:=hid (ringhome_any (some ⟨db,0,none⟩) g hg x hx w)
 generalize Geo.home g x=hm at *
 unfold readerC at h
 unfold ringV at q
 obtain ⟨g1,g2,g3,g4,g5,g6,g7,g8,g9⟩:=g
 dsimp only at *
 obtain ⟨c0,c1,c2,c3,c4,c5,c6,c7,c8,c9⟩:=h.c10
 clear h hg
 go_enter Tryz.func162,Tryz.ntmps162
 go_wp2_with (go_at_call 144;refine q.out.mono ?_;rintro e w1 ⟨rfl,hb⟩)
 go_ret
 exact ⟨rfl,hb⟩
theorem idxhomes_any (db b X place left seq:Nat) (g:Geo.G) (hg:Geo.May g) (sv cv rv v:Value) (l:List Int) (hl:l.length<=1000000000) (hx:∀ x ∈ l,-9223372036854775808<=x/\x<=9223372036854775807) (w:World) (hI:IntsAt w v l) (cX:w.cell? ⟨X,0,none⟩=some (.pointer (some ⟨b,0,none⟩))) (h:Row w b 171 (readerC db g place left seq sv cv rv)) :
  Calls Tryz.prog 145 #[v,.func (.func 162) #[] #[.pointer (some ⟨X,0,none⟩)]] w fun e w'=>∃ r:Int,e=.returned (.int .i64 r)/\decide (0<=r) = !(l.all (Geo.home g))/\Below w.heap.size w w':=by
 have HI:=hid hI
 obtain ⟨ad,cap,rfl⟩:=hI.form
 have q:Hid (∀ wz,Below w.heap.size w wz->∀ x,x ∈ l->Calls Tryz.prog 162 #[.int .i64 x,.pointer (some ⟨X,0,none⟩)] wz fun e w'=>e=.returned (.bool (!Geo.home g x))/\Below wz.heap.size wz w'):=hid (fun wz hb x hm=>homes1_any db b X place left seq g hg sv cv rv x (hx x hm) wz ((hb.cell (p:=⟨X,0,none⟩) (World.block_lt_of_cell? w _ cX)).trans cX) (h.below hb h.lt))
 clear hI cX h hg hx
 go_enter Tryz.func145,Tryz.ntmps145
 go_wp2_with fail
 go_loopw [5,8] (fun z q wr=>∃ i:Nat,i<=l.length/\q=.int .i64 i/\Hid ((l.take i).all (Geo.home g)=true)/\Hid (Below w.heap.size w wr)) (fun _ q _=>l.length - (intOf q).toNat)
 case atStart=>exact ⟨0,by omega,rfl,hid rfl,hid (Below.refl _ _)⟩
 case round =>
  obtain ⟨i,hi,rfl,hall,hb⟩:=hrel;by_cases hlt:i < l.length
  ·have i0:(0:Int)<=(i:Int):=(by omega);have i1:(i:Int) < (l.length:Int):=(by omega);obtain ⟨gb,off,rfl,c0⟩:=HI.out.cells i hlt;have c0':=(hb.out.cell (p:=⟨gb,off+i,none⟩) (World.block_lt_of_cell? w _ c0)).trans c0;have hx:l.getD i 0=l[i]:=(by simp [List.getD,hlt]);have qx:=hid (q.out wr hb.out (l.getD i 0) (by rw [hx];exact List.getElem_mem hlt));have hnext:Hid ((l.take (i+1)).all (Geo.home g)=Geo.home g (l.getD i 0)):=hid (by rw [List.take_succ_eq_append_getElem hlt,List.all_append,hall.out,hx];simp);have hstop:Hid (Geo.home g (l.getD i 0)=false->l.all (Geo.home g)=false):=hid (fun hf=>by
    rw [hx] at hf;exact List.all_eq_false.2 ⟨_,List.getElem_mem hlt,by simp [hf]⟩)
   clear c0 hx;cases hv:Geo.home g (l.getD i 0)
   ·have hs:=hid (hstop.out hv);rw [hv] at qx;clear hstop;generalize l.getD i 0=x at *;go_wp2_with fail;refine qx.out.mono ?_;rintro e w1 ⟨rfl,hb1⟩;go_wp2_with fail;go_ret;exact ⟨_,rfl,by rw [hs.out];simp,hb.out.trans (hb1.mono hb.out.size)⟩
   rw [hv] at qx hnext;generalize l.getD i 0=x at *;go_wp2_with fail;refine qx.out.mono ?_;rintro e w1 ⟨rfl,hb1⟩;go_wp2_with fail;go_roundw;case rel=>exact ⟨i+1,by omega,by go_num,hnext,hid (hb.out.trans (hb1.mono hb.out.size))⟩
   case measure=>simp [intOf];omega
  obtain rfl:i=l.length:=(by omega);rw [List.take_length] at hall;go_wp2_with fail;go_ret;exact ⟨-1,rfl,by rw [hall.out];rfl,hb.out⟩
theorem conhomes_any (db b X place left seq:Nat) (g:Geo.G) (hg:Geo.May g) (sv cv rv v:Value) (l:List Int) (hl:l.length<=1000000000) (hx:∀ x ∈ l,-9223372036854775808<=x/\x<=9223372036854775807) (w:World) (hI:IntsAt w v l) (cX:w.cell? ⟨X,0,none⟩=some (.pointer (some ⟨b,0,none⟩))) (h:Row w b 171 (readerC db g place left seq sv cv rv)) :
  Calls Tryz.prog 106 #[v,.func (.func 162) #[] #[.pointer (some ⟨X,0,none⟩)]] w fun e w'=>e=.returned (.bool (!(l.all (Geo.home g))))/\Below w.heap.size w w':=by
 have q:=hid (idxhomes_any db b X place left seq g hg sv cv rv v l hl hx w hI cX h)
 obtain ⟨ad,cap,rfl⟩:=hI.form
 generalize l.all (Geo.home g)=A at *
 clear hI cX h hg hx
 go_enter Tryz.func106,Tryz.ntmps106
 go_wp2_with fail
 refine q.out.mono ?_
 rintro e w1 ⟨r,rfl,hr,hb⟩
 have hr':=hid hr
 clear hr
 go_wp2_with fail
 go_ret
 exact ⟨by rw [<- hr'.out];rfl,hb⟩
theorem readhomes_any (db b place left seq:Nat) (g:Geo.G) (hg:Geo.May g) (sv cv rv v:Value) (l:List Int) (hl:l.length<=1000000000) (hx:∀ x ∈ l,-9223372036854775808<=x/\x<=9223372036854775807) (w:World) (hI:IntsAt w v l) (h:Row w b 171 (readerC db g place left seq sv cv rv)) :
  Calls Tryz.prog 138 #[.pointer (some ⟨b,0,none⟩),v] w fun e w'=>e=.returned (.bool (l.all (Geo.home g)))/\Below w.heap.size w w':=by
 have BA:=(Below.refl w.heap.size w).alloc (Nat.le_refl _) (.cells #[.pointer (some ⟨b,0,none⟩)] 169)
 have cX:=(Row.new w 169 [.pointer (some ⟨b,0,none⟩)] rfl).cellAt 0 rfl
 have q:=hid (conhomes_any db b w.heap.size place left seq g hg sv cv rv v l hl hx _ (hI.below BA) cX (h.below BA h.lt))
 obtain ⟨ad,cap,rfl⟩:=hI.form
 have HB:=hid BA
 generalize l.all (Geo.home g)=A at *
 clear hI cX h hg hx BA
 go_enter Tryz.func138,Tryz.ntmps138
 go_wp2_with fail
 refine q.out.mono ?_
 rintro e w1 ⟨rfl,hb⟩
 go_wp2_with fail
 go_ret
 exact ⟨by simp,HB.out.trans (hb.mono HB.out.size)⟩
end Go.Proofs.YtnpdhidliaahbaaGreat
