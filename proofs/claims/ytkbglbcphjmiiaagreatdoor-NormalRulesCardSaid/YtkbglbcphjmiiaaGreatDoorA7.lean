import Derived.Test.YtkbglbcphjmiiaaGreatDoorA6
import Derived.Deep.Draws
import Derived.Sort.Grow
import Derived.Sort.Row
import Derived.Sort.Statements
set_option linter.unusedSimpArgs false
set_option linter.unusedVariables false
namespace Go.Ab
open Go.RowKit Go.Sort
section
variable {α : Type} [Inhabited α] {enc : α → Value} {kd : Nat}
end
theorem ACall.args {P:Program} {f:FuncId} {as bs:List AV} {R:AV→Prop} (h:ACall P f as R) (hl:bs.length=as.length)
 (hr: ∀(F:Bool→Facts) (i:Nat) (a b:AV) (v:Value),as[i]?=some a→bs[i]?=some b→RV F noloc b v→RV F noloc a v):ACall P f bs R:=
 ⟨h.1,fun w F cargs h1 h2 h3=>h.2 w F cargs h1 (hl▸h2) fun i a v ha hv=>by
  have hi:i<as.length:=(List.getElem?_eq_some_iff.1 ha).1
  exact hr F i a (bs[i]'(by omega)) v ha (List.getElem?_eq_getElem (by omega)) (h3 i _ v (List.getElem?_eq_getElem (by omega)) hv)⟩
end Go.Ab
