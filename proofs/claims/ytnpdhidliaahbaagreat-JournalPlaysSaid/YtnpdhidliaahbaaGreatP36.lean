/- Devices: Open. -/
import Derived.Test.YtnpdhidliaahbaaGreatP07
set_option maxRecDepth 100000
set_option maxHeartbeats 32000000
set_option linter.unusedSimpArgs false
set_option linter.unusedVariables false
namespace Go.Proofs.YtnpdhidliaahbaaGreat
open Go.Lib (hid)
open Go Go.RowKit
variable {B b:Nat} {w:World} {y:Lay} {D:Dev}
def restS (s:ByteArray) (j:Nat):ByteArray:=txt (s.data.toList.drop (j * 128))
def blkS (s:ByteArray) (j:Nat):ByteArray:=txt ((s.data.toList.drop (j * 128)).take 128)
def chop (s:ByteArray):Nat->List ByteArray
 | 0=>[]
 | j+1=>chop s j ++ [blkS s j]
theorem chop_length (s:ByteArray) (j:Nat):(chop s j).length=j:=by
 induction j with
 | zero=>rfl
 | succ j ih=>simp [chop,ih]
theorem restS_size (s:ByteArray) (j:Nat):(restS s j).size=s.size - j * 128:=by
 show (List.toArray _).size=s.data.size - _;simp
theorem restS_zero (s:ByteArray):restS s 0=s:=by
 obtain ⟨⟨l⟩⟩:=s;rfl
theorem txt_extract (l:List UInt8) (a b:Nat):(txt l).extract a b=txt ((l.take b).drop a):=by
 apply ByteArray.ext;apply Array.ext';simp [txt,ByteArray.data_extract,List.drop_take]
theorem rest_head (s:ByteArray) (j:Nat):(restS s j).extract 0 128=blkS s j:=by
 unfold restS blkS;rw [txt_extract];rfl
theorem rest_tail (s:ByteArray) (j k:Nat) (h:(restS s j).size=k):(restS s j).extract 128 k=restS s (j+1):=by
 subst h;unfold restS;rw [txt_extract];congr 1;rw [List.take_of_length_le (by show _<=(List.toArray _).size;simp),List.drop_drop];congr 1;omega
theorem txt_isEmpty (l:List UInt8):(txt l).toList.isEmpty=l.isEmpty:=by
 have h:(txt l).toList=l:=(by simp [txt]);rw [h]
theorem rest_isEmpty (s:ByteArray) (j:Nat):(restS s j).toList.isEmpty=decide (s.size<=j * 128):=by
 unfold restS;rw [txt_isEmpty,Bool.eq_iff_iff,List.isEmpty_iff,List.drop_eq_nil_iff,decide_eq_true_eq];exact Iff.rfl
theorem opendev_any (s:ByteArray) (n:Nat) (hs:s.size=n * 128) (hn:1<=n/\n<=4096) :
  Calls Tryz.prog 24 #[.string s] w fun e w'=>∃ b,e=.returned (.tuple #[.pointer (some ⟨b,0,none⟩),.int .i64 0])/\(∃ y,DevAt w.heap.size w' b y (Dev.fresh (chop s n)))/\Below w.heap.size w w':=by
 obtain ⟨i0,hi0,hz0,hz1,hz2⟩:=info_parts info_string
 have h1':¬ ((s.size:Int)=0):=by omega
 have h2':¬ (0 < ((s.size:Int) % 128)):=by omega
 have h3':¬ (524288 < (s.size:Int)):=by omega
 have HS:=hid hs
 clear hs
 have hr0:=hid (restS_zero s)
 generalize hN:s.size=N at *
 go_enter Tryz.func24,Tryz.ntmps24
 go_wp2_with fail
 go_loopw [0,5] (fun u0 u5 wr=>∃ j,j<=n/\u0=.string (restS s j)/\(∃ v,v=u5/\Hid (wr.ownsRow w.heap.size 9 1 v j (strs (chop s j))))/\Hid (Below w.heap.size w wr)) (fun q _ _=>match q with | .string t=>t.size | _=>0)
 case atStart=>exact ⟨0,by omega,by rw [hr0.out],⟨_,rfl,hid (World.ownsRow_nil _ _ _ _)⟩,hid (Below.refl _ _)⟩
 case round =>
  obtain ⟨j,hj,rfl,⟨v,rfl,ho⟩,hb⟩:=hrel;have hsz:=restS_size s j;rw [hN,HS.out] at hsz;have hl:=chop_length s j;by_cases hlt:j < n
  ·have hsz':(restS s j).size=(n - j) * 128:=(by rw [hsz,Nat.sub_mul]);have hem:(restS s j).toList.isEmpty=false:=(by rw [rest_isEmpty];have:=HS.out;simp only [decide_eq_false_iff_not];omega);have q1:(128:Int)<=((restS s j).size:Int):=(by omega);have hx1:=rest_head s j;have hx2:=rest_tail s j _ rfl;have hsz1:(restS s (j+1)).size=(n - (j+1)) * 128:=(by rw [restS_size,hN,HS.out,Nat.sub_mul]);have hst:Hid (chop s (j+1)=chop s j ++ [blkS s j]):=hid rfl;have hll:=hid hl;have hone:∀ u ∈ ([.string (blkS s j)]:List Value),u.oneCell'=true:=(by simp [Value.oneCell']);clear hsz;generalize restS s j=t at *;generalize blkS s j=X at *;have HZ:=hid hsz';have HX2:=hid hx2;generalize hm:t.size=m at *;clear hsz'
   go_wp2_with (first
     | (at_builtin;refine wpList_append_own _ rfl _ _ 39 rfl w.heap.size 9 i0 (.string ⟨#[]⟩) 1 16 Tryz.underlying39 hi0 hz0 hz1 hz2 rfl (by decide) _ j _ rfl (ho.out.alloc _) ⟨wr.heap.size,0,none⟩ 1 1 [.string X] rfl rfl (World.news_of_block (heap_alloc_new _ _)) hone (by unfold maxLen;omega) (by omega) (by have:=hb.out.size;simp;omega) ?_))
   intro v' w1 hown hgrow _;have hW:Below w.heap.size w w1:=(hb.out.alloc hb.out.size (.cells #[.string X] 9)).grown hgrow (by have:=hb.out.size;simp;omega) (fun k hk=>(ho.out.lt k hk).1);have hG:Hid (w1.ownsRow w.heap.size 9 1 v' (j+1) (strs (chop s (j+1)))):=hid (by
     rw [hst.out];have e:strs (chop s j ++ [X])=strs (chop s j) ++ [.string X]:=by simp [strs]
     rw [e];exact hown)
   have HW:=hid hW;clear hown hgrow hW;go_wp2_with fail;go_roundw;case rel=>exact ⟨j+1,by omega,by first | rfl | (rw [HX2.out]),⟨v',rfl,hG⟩,HW⟩
   case measure=>simp;have:=HZ.out;omega
  obtain rfl:j=n:=(by omega);have hem:(restS s j).toList.isEmpty=true:=(by rw [rest_isEmpty];have:=HS.out;simp only [decide_eq_true_eq];omega);clear hr0 hsz;generalize restS s j=t at *;have hHB:=hb.out.size;obtain ⟨g,c,rfl⟩:=own_some ho.out (by omega);have HO:=hid ho.out;have hm:=made_any (w:=wr) (B:=w.heap.size) (chop s j) g c (by rw [hl];exact ho.out) (by rw [hl];omega);have HM:=hid hm;clear hm;rw [hl] at HM;go_wp2_with fail;refine HM.out.mono ?_;rintro e w3 ⟨b,rfl,hD,hbb,hb3⟩;have hB4:=hb.out.trans (hb3.mono hb.out.size);go_wp2_with fail;exact bodyPost_ret (v:=.tuple #[.pointer (some ⟨b,0,none⟩),.int .i64 0]) (by simp [results,Tryz.results24,go_sem]) rfl ⟨_,rfl,hD,hB4⟩
end Go.Proofs.YtnpdhidliaahbaaGreat
