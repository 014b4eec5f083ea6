/- Texts and their bytes. No program. -/
import Derived.WalkKit
import Derived.WalkSpells
import Derived.WalkLawsBesides
import Derived.Lib.Hide
set_option maxRecDepth 100000
set_option maxHeartbeats 32000000
set_option linter.unusedSimpArgs false
set_option linter.unusedVariables false
namespace Go.Proofs.YtnpdhidliaahbaaGreat
open Go Go.RowKit
abbrev Bytes:=List UInt8
def txt (l:Bytes):ByteArray:=⟨l.toArray⟩
theorem txt_size (l:Bytes):(txt l).size=l.length:=by simp [txt,ByteArray.size]
theorem txt_list (l:Bytes):(txt l).data.toList=l:=by simp [txt]
theorem txt_of (s:ByteArray):txt s.data.toList=s:=by simp [txt]
theorem list_length (s:ByteArray):s.data.toList.length=s.size:=by
 show s.data.toList.length=s.data.size;exact Array.length_toList
theorem txt_append (a b:Bytes):txt a ++ txt b=txt (a ++ b):=by
 apply ByteArray.ext;simp [txt]
def cat (l:List ByteArray):List UInt8:=(l.map (·.data.toList)).flatten
def sized (l:List ByteArray):Prop:=∀ s ∈ l,s.size=128
theorem cat_length (l:List ByteArray) (h:sized l):(cat l).length=l.length * 128:=by
 induction l with
 | nil=>rfl
 | cons x r ih =>
  have h1:x.data.toList.length=128:=(by rw [Array.length_toList];exact h x (by simp));have h2:=ih (fun s hs=>h s (by simp [hs]));simp only [cat,List.map_cons,List.flatten_cons,List.length_append,List.length_cons] at h2 ⊢;omega
end Go.Proofs.YtnpdhidliaahbaaGreat
