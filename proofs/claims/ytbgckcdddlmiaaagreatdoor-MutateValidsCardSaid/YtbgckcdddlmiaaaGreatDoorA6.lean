import Derived.Test.YtbgckcdddlmiaaaGreatDoorA5
import Derived.JoinedCond
set_option linter.all false
namespace Go.Ab
open Go.RowKit
section
variable {H : Type} {enc : TypeId × Value -> H} {P : Program} [Glob P] {w : World}
end
section
variable {H : Type} {enc : TypeId × Value -> H}
open Go.ChangeShapes
end
def loose1:AV->AV
 | .list l _ xs=> .list l false xs
 |a=>a
def loose:AV->AV
 | .agg cs=> .agg (cs.map loose1)
 |a=>loose1 a
theorem RV.loose1 {F:Bool->aZ} {loc:Nat->Option LI} {a:AV} {v:Value} (h:RV F loc a v):RV F loc (loose1 a) v:=by
 cases h with
 |nil=>exact .nil
 |list h1 h2 h3 h4 h5 h6 h7 h8=>exact .list h1 h2 h3 (fun h=>by cases h) h5 h6 h7 h8
 |sc h=>exact .sc h
 |agg h1 h2 h3=>exact .agg h1 h2 h3
 |tup h1 h2=>exact .tup h1 h2
 |iptr h1 h2 h3 h4 h5=>exact .iptr h1 h2 h3 h4 h5
 |refNil h=>exact .refNil h
 |ref h h1 h2 h3 h4=>exact .ref h h1 h2 h3 h4
 |ptr h h1=>exact .ptr h h1
 |aref h h1 h2 h3=>exact .aref h h1 h2 h3
 |clo h1 h2=>exact .clo h1 h2
 |mp h h'=>exact .mp h h'
 |yl h=>exact .yl h
 |rc h h1 h2=>exact .rc h h1 h2
 |dead=>exact .dead
theorem RV.loose {F:Bool->aZ} {loc:Nat->Option LI} {a:AV} {v:Value} (h:RV F loc a v):RV F loc (loose a) v:=by
 by_cases ha: ∃cs,a= .agg cs
 ·obtain⟨cs,rfl⟩:=ha
  cases h with
  |agg h1 h2 h3=>
   refine .agg (by simpa using h1) (fun i x u hx hu=>?_) h3
   simp only[List.getElem?_map,Option.map_eq_some_iff]at hx
   obtain⟨y,hy,rfl⟩:=hx
   exact(h2 i y u hy hu).loose1
 ·have e:Ab.loose a=Ab.loose1 a:=by
   cases a<;>first|rfl|exact absurd ⟨_,rfl⟩ ha
  rw[e];exact h.loose1
theorem aIt {a:AV} (h:a.pure=true):(loose1 a).pure=true:=by
 cases a<;>first|exact h|simpa[loose1,AV.pure]using h
theorem aIu: ∀{cs:List AV},AV.pureL cs=true->AV.pureL (cs.map loose1)=true
 | [],h=>h
 |c::r,h=>by
  simp only[AV.pureL,Bool.and_eq_true,List.map_cons]at*
  exact⟨aIt h.1,aIu h.2⟩
theorem aIv {a:AV} (h:a.pure=true):(loose a).pure=true:=by
 by_cases ha: ∃cs,a= .agg cs
 ·obtain⟨cs,rfl⟩:=ha
  simp only[AV.pure,loose]at*
  exact aIu h
 ·have e:Ab.loose a=Ab.loose1 a:=by
   cases a<;>first|rfl|exact absurd ⟨_,rfl⟩ ha
  rw[e];exact aIt h
theorem ACall.loose {P:Program} [Glob P] {f:FuncId} {args:List AV} {x:AV} (hx:x.pure=true) (h:ACall P f args (fun r=>r=x)):ACall P f args (fun r=>r=Ab.loose x):=by
 refine⟨h.1,fun w F cargs h0 h1 h2 h3=>(h.2 w F cargs h0 h1 h2 h3).mono ?_⟩
 rintro e w' ⟨v,r,F',g1,rfl,g3,g4⟩
 refine⟨v,_,F',g1,rfl,g3,?_⟩
 have key: ∀{y:AV},y.pure=true->(zL F' w' w.heap.size v y↔RV F' bU y v):=fun {y} hy=>by
  cases y<;>first
   |exact⟨fun⟨_,_,hr⟩=>hr,fun hr=>⟨none,hy,hr⟩⟩
   |simp[AV.pure]at hy
 exact(key (aIv hx)).2 ((key hx).1 g4).loose
end Go.Ab
