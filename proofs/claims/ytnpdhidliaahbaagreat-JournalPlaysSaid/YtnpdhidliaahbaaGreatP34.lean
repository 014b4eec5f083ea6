/- Arrays inside a block: loaded and stored whole, wherever in it they lie. No program. -/
import Derived.Test.YtnpdhidliaahbaaGreatP02
set_option maxRecDepth 100000
set_option maxHeartbeats 32000000
set_option linter.unusedSimpArgs false
set_option linter.unusedVariables false
namespace Go.Proofs.YtnpdhidliaahbaaGreat
open Go Go.RowKit
section
variable {P:Program}
theorem run_loadVar_seg (w:World) (g off:Nat) (ty:TypeId) (cs:List Value) (d:TypeDesc) (h:∀ j v,cs[j]?=some v->w.cell? ⟨g,off+j,none⟩=some v)
  (hu:P.underlying ty=some d) (hd:(match d with | .struct _ | .array _ _=>true | _=>false)=true) (hi:(P.info? ty).map (·.size)=some cs.length) :
  (loadVar ty ⟨g,off,none⟩).run P w=.ok (.agg cs.toArray) w:=by
 have hl:(loadCells ⟨g,off,none⟩ cs.length).run P w=.ok cs.toArray w:=
  run_loadCells_list (P:=P) w ⟨g,off,none⟩ cs (fun j v hv=>by
   have hadd:(⟨g,off,none⟩:Addr).add j=⟨g,off+j,none⟩:=(by unfold Addr.add;split <;> simp_all);rw [hadd];exact h j v hv)
 cases hq:P.info? ty with
 | none=>simp [hq] at hi
 | some i =>
  have hs:i.size=cs.length:=(by simpa [hq] using hi);have hagg:(isAgg ty).run P w=.ok true w:=by
   unfold isAgg;rw [Sem.run_bind,run_underlying hu w];cases d <;> simp_all
  simp [loadVar,Sem.run_bind,hagg,sizeOf,typeInfo,hq,hs,hl]
end
def setMany {α:Type}:List α->Nat->List α->List α
 | l,_,[]=>l
 | l,o,v :: r=>setMany (l.set o v) (o+1) r
theorem Row.setCells {b:Nat} {E:TypeId}:∀ (vs:List Value) (o:Nat) {w:World} {cs:List Value},Row w b E cs->Row (w.setCells b o vs) b E (setMany cs o vs)
 | [],_,_,_,h=>h
 | v :: r,o,w,cs,h=>by
  unfold World.setCells setMany;exact Row.setCells r (o+1) (h.set o v)
theorem Only.setCells {S:List Nat} {g:Nat} (hg:g ∈ S):∀ (vs:List Value) (o:Nat) (w:World),Only S w (w.setCells g o vs)
 | [],_,w=>Only.refl S w
 | v :: r,o,w=>by
  unfold World.setCells;exact (Only.setCell w ⟨g,o,none⟩ v hg).trans (Only.setCells hg r (o+1) _)
end Go.Proofs.YtnpdhidliaahbaaGreat
