/- A layout that came in; changes that came in. -/
import Derived.Test.YtnpdhidliaahbaaGreatP28
import Derived.Test.YtnpdhidliaahbaaGreatP23
set_option maxRecDepth 100000
set_option maxHeartbeats 32000000
set_option linter.unusedSimpArgs false
set_option linter.unusedVariables false
namespace Go.Proofs.YtnpdhidliaahbaaGreat
open Go Go.ChangeShapes Go.WideShapes Go.ChangeAt Go.RowKit
section
variable {H:Type} {enc:TypeId × Value->H} {w:World} {base:Nat} {spare:Nat->Bool} {held:Bool}
def GeoIn (g:Geo.G):Prop:=In64 g.blocks/\In64 g.log/\In64 g.inodes/\In64 g.logAt/\In64 g.mapAt/\In64 g.mapLen/\In64 g.tableAt/\In64 g.tableLen/\In64 g.dataAt
theorem read_change {fuel:Nat} {cs:List Value} {x:DataW H × List MemPlace} (hl:cs.length=2) (h:DataW.trod enc Tryz.prog w base spare held fuel 68 cs=some x):∃ a:Int × ByteArray,cs = [.int .i64 a.1,.string a.2]/\In64 a.1/\a.2.size<=9223372036854775807:=by
 match cs,hl with
 | [c0,c1],_ =>
  obtain ⟨n0,y0,h0⟩:=read_field Tryz.underlying68 h 0 _ rfl 0 1 rfl (by kernel_rfl);obtain ⟨n1,y1,h1⟩:=read_field Tryz.underlying68 h 1 _ rfl 1 1 rfl (by kernel_rfl);obtain ⟨z0,rfl,w0⟩:=trod_int1 Tryz.underlying3 h0;obtain ⟨s1,rfl,w1⟩:=trod_string1 Tryz.underlying9 h1;exact ⟨(z0,s1),rfl,wf_lo64 w0,strLen w1⟩
theorem chgC_at:∀ (l:List Jr.Chg) (i:Nat),i < l.length->(chgC l)[i * 2]?=some (.int .i64 (l.getD i (0,⟨#[]⟩)).1)/\(chgC l)[i * 2+1]?=some (.string (l.getD i (0,⟨#[]⟩)).2)
 | c :: l,0,_=>⟨rfl,rfl⟩
 | c :: l,i+1,h=>by
  have:=chgC_at l i (by simpa using h);rw [show (i+1) * 2=i * 2+2 by omega];exact this
end
end Go.Proofs.YtnpdhidliaahbaaGreat
