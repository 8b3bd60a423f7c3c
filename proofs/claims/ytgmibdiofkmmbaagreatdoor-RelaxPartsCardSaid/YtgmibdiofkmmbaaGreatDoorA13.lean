import Derived.Test.YtgmibdiofkmmbaaGreatDoorA4
set_option linter.all false
namespace Go.Ab
open Go
theorem bQz {P:Program} [Glob P] {id:Nat} {ops:Array Oper} {Q:Exit->ASt->Prop} {s:ASt} (m n:Nat) (hm:P.follows .mixedOrders=true) (_hn:ops.size=n) (hok:nH ops m=true) (h:nG P ops m ops.toList (Q .normal) s):cY P (.region id ops true) Q s:=aKp m hm hok h
theorem zDn {P:Program} [Glob P] {id:Nat} {ops:Array Oper} {Q:Exit->ASt->Prop} {s:ASt} (m n:Nat) (hm:P.follows .mixedOrders=true) (h:nG P ops m ops.toList (Q .normal) s) (hn:ops.size=n:=by exact rfl) (hok:nH ops m=true:=by decide+kernel):cY P (.region id ops true) Q s:=bQz m n hm hn hok h
end Go.Ab
