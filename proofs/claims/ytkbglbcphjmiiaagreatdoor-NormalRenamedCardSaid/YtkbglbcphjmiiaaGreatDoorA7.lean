import Derived.Test.YtkbglbcphjmiiaaGreatDoorA6
import Derived.Deep.Draws
import Derived.Sort.Grow
import Derived.Sort.Row
import Derived.Sort.Statements
set_option linter.unusedSimpArgs false
set_option linter.unusedVariables false
set_option linter.unusedSectionVars false
namespace Go.Ab
open Go.RowKit Go.Sort
theorem SW.later {C F μ} {o:aF} {w w':World} (h:SW C F μ o w) (hf:Fr (fun _=>False) w w'):SW C F μ o w':=by
 have hblk: ∀k,k<w.heap.size→w'.heap[k]?=w.heap[k]?:=fun k hk=>hf.block k hk id
 refine⟨fun l b k v e=>?_,h.sub,h.lentc,h.grow,h.newf,h.fr.trans hf (fun _ _ hh=>hh.elim),?_,h.dist,h.excl,h.mine,h.keep⟩
 ·have hw:=h.facts l b k v e
  rw[qG (hblk b (qF hw))];exact hw
 ·intro L x hx
  have:=h.obj L x hx
  cases hm:μ L with
  |none=>rw[hm]at this;exact this
  |some p=>
   obtain⟨b,c⟩:=p
   rw[hm]at this
   obtain⟨_,g⟩:=ObjAt.lt this
   exact ObjAt.congr this (hblk b (jY g)) (FLe.refl _) (fun _ _=>rfl)
section
variable {α : Type} [Inhabited α] {enc : α → Value} {kd : Nat}
end
theorem ACall.args {P:Program} [Glob P] {f:FuncId} {as bs:List AV} {R:AV→Prop} (h:ACall P f as R) (hl:bs.length=as.length)
 (hr: ∀(F:Bool→bJ) (i:Nat) (a b:AV) (v:Value),as[i]?=some a→bs[i]?=some b→RV F cB b v→RV F cB a v):ACall P f bs R:=
 ⟨h.1,fun w F cargs h0 h1 h2 h3=>h.2 w F cargs h0 h1 (hl▸h2) fun i a v ha hv=>by
  have hi:i<as.length:=(List.getElem?_eq_some_iff.1 ha).1
  exact hr F i a (bs[i]'(by omega)) v ha (List.getElem?_eq_getElem (by omega)) (h3 i _ v (List.getElem?_eq_getElem (by omega)) hv)⟩
end Go.Ab
