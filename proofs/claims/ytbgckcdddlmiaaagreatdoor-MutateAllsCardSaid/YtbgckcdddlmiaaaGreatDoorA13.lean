import Derived.Test.YtbgckcdddlmiaaaGreatDoorA4
set_option linter.unusedSectionVars false
set_option linter.unusedSimpArgs false
set_option linter.unusedVariables false
namespace Go.Ab
open Go
theorem bFe {P:Program} [Glob P] {id:Nat} {ops:Array Oper} {Q:Exit->ASt->Prop} {s:ASt} (m n:Nat) (hm:P.follows .mixedOrders=true) (_hn:ops.size=n) (hok:kM ops m=true) (h:kK P ops m ops.toList (Q .normal) s):cE P (.region id ops true) Q s:=aC9 m hm hok h
theorem zDn {P:Program} [Glob P] {id:Nat} {ops:Array Oper} {Q:Exit->ASt->Prop} {s:ASt} (m n:Nat) (hm:P.follows .mixedOrders=true) (h:kK P ops m ops.toList (Q .normal) s) (hn:ops.size=n:=by exact rfl) (hok:kM ops m=true:=by decide+kernel):cE P (.region id ops true) Q s:=bFe m n hm hn hok h
end Go.Ab
