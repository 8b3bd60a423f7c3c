import Derived.Test.YtkbglbcphjmiiaaGreatDoorA4
set_option linter.unusedSimpArgs false
set_option linter.unusedVariables false
namespace Go.Ab
open Go
theorem awp_drawN {P:Program} {id:Nat} {ops:Array Oper} {Q:Exit→ASt→Prop} {s:ASt} (m n:Nat) (hm:P.follows .mixedOrders=true) (_hn:ops.size=n) (hok:drawOK ops m=true) (h:darun P ops m ops.toList (Q .normal) s):awp P (.region id ops true) Q s:=awp_draw m hm hok h
theorem zDn {P:Program} {id:Nat} {ops:Array Oper} {Q:Exit→ASt→Prop} {s:ASt} (m n:Nat) (hm:P.follows .mixedOrders=true) (h:darun P ops m ops.toList (Q .normal) s) (hn:ops.size=n:=by exact rfl) (hok:drawOK ops m=true:=by decide+kernel):awp P (.region id ops true) Q s:=awp_drawN m n hm hn hok h
end Go.Ab
