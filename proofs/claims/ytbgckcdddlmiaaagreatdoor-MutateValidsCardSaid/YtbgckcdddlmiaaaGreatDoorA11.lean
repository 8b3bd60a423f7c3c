import Derived.Test.YtbgckcdddlmiaaaGreatDoorA10
set_option linter.all false
namespace Go.Ab
open Go
theorem ResV1.pure {F:Bool->aZ} {w:World} {base:Nat} {p:Option (Nat×Nat)} {v:Value} {y:AV} (hy:y.pure=true):ResV1 F w base p v y↔RV F bU y v:=by
 cases y<;>first
  |exact⟨fun⟨_,hr⟩=>hr,fun hr=>⟨hy,hr⟩⟩
  |simp[AV.pure]at hy
theorem ACall.looseT {P:Program} [Glob P] {f:FuncId} {args:List AV} {x y:AV} (hx:x.pure=true) (h:ACall P f args (fun r=>r= .tup [x,y])):ACall P f args (fun r=>r= .tup [Ab.loose x,y]):=by
 refine⟨h.1,fun w F cargs h0 h1 h2 h3=>(h.2 w F cargs h0 h1 h2 h3).mono ?_⟩
 rintro e w' ⟨v,r,F',g1,rfl,g3,vs,ps,e1,e2,e3,e4⟩
 refine⟨v,_,F',g1,rfl,g3,vs,ps,e1,e2,fun i r u hr hu=>?_,e4⟩
 match i with
 |0=>
  simp at hr
  subst hr
  exact(ResV1.pure (aIv hx)).2 (((ResV1.pure hx).1 (e3 0 x u rfl hu)).loose)
 |1=>
  simp at hr
  subst hr
  exact e3 1 y u rfl hu
 |i+2=>simp at hr
theorem bJb {L:Nat}:(AV.mp L).plain=true:=rfl
attribute [go_sem] bJb
end Go.Ab
