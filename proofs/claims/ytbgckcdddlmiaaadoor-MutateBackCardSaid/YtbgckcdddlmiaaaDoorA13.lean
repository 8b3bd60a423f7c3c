import Derived.Test.YtbgckcdddlmiaaaDoorA4
set_option linter.unusedSimpArgs false
set_option linter.unusedVariables false
set_option linter.unusedSectionVars false
namespace Go.Ab
open Go
theorem bBf {P:Program} [Glob P] {id:Nat} {ops:Array Oper} {Q:Exit→ASt→Prop} {s:ASt} (m n:Nat) (hm:P.follows .mixedOrders=true) (_hn:ops.size=n) (hok:jN ops m=true) (h:jM P ops m ops.toList (Q .normal) s):bY P (.region id ops true) Q s:=aAe m hm hok h
theorem zDn {P:Program} [Glob P] {id:Nat} {ops:Array Oper} {Q:Exit→ASt→Prop} {s:ASt} (m n:Nat) (hm:P.follows .mixedOrders=true) (h:jM P ops m ops.toList (Q .normal) s) (hn:ops.size=n:=by exact rfl) (hok:jN ops m=true:=by decide+kernel):bY P (.region id ops true) Q s:=bBf m n hm hn hok h
end Go.Ab
