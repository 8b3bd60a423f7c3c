import Derived.Test.YtbgckcdddlmiaaaGreatDoorA4
set_option linter.all false
namespace Go.Ab
open Go
theorem bJa {P:Program} [Glob P] {id:Nat} {ops:Array Oper} {Q:Exit->ASt->Prop} {s:ASt} (m n:Nat) (hm:P.follows .mixedOrders=true) (_hn:ops.size=n) (hok:nP ops m=true) (h:lP P ops m ops.toList (Q .normal) s):bW P (.region id ops true) Q s:=aHv m hm hok h
theorem zDn {P:Program} [Glob P] {id:Nat} {ops:Array Oper} {Q:Exit->ASt->Prop} {s:ASt} (m n:Nat) (hm:P.follows .mixedOrders=true) (h:lP P ops m ops.toList (Q .normal) s) (hn:ops.size=n:=by exact rfl) (hok:nP ops m=true:=by decide+kernel):bW P (.region id ops true) Q s:=bJa m n hm hn hok h
end Go.Ab
