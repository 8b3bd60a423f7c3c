import Derived.Test.YtkbglbcphjmiiaaGreatDoorA4
set_option linter.unusedSimpArgs false
set_option linter.unusedVariables false
set_option linter.unusedSectionVars false
namespace Go.Ab
open Go
theorem bFg {P:Program} [Glob P] {id:Nat} {ops:Array Oper} {Q:Exit→ASt→Prop} {s:ASt} (m n:Nat) (hm:P.follows .mixedOrders=true) (_hn:ops.size=n) (hok:lF ops m=true) (h:lE P ops m ops.toList (Q .normal) s):cN P (.region id ops true) Q s:=aC9 m hm hok h
theorem zDn {P:Program} [Glob P] {id:Nat} {ops:Array Oper} {Q:Exit→ASt→Prop} {s:ASt} (m n:Nat) (hm:P.follows .mixedOrders=true) (h:lE P ops m ops.toList (Q .normal) s) (hn:ops.size=n:=by exact rfl) (hok:lF ops m=true:=by decide+kernel):cN P (.region id ops true) Q s:=bFg m n hm hn hok h
end Go.Ab
