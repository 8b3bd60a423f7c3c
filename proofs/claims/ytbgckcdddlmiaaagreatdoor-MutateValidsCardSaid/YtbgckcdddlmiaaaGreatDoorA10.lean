import Derived.Test.YtbgckcdddlmiaaaGreatDoorA9
set_option linter.all false
namespace Go.Ab
open Go
section
variable {H : Type} {enc : TypeId × Value -> H} {P : Program} [Glob P] {w : World}
theorem Came.len {n:Nat} {t:TypeId} {α:Type} {en:α->AV} {ok:List α->Prop} (h:Came enc P w n t (fun l:List α=> .list false false (l.map en)) ok):
 Came enc P w n t (fun l:List α=> .list false false (l.map en)) (fun l=>ok l/\l.length<=dD):=by
 intro cs d ps h1 h2
 obtain⟨l,a1,a2,a3⟩:=h cs d ps h1 h2
 refine⟨l,⟨a1,?_⟩,a2,a3⟩
 have hl:cs.length=1:=a2.symm
 have hv:cs[0]?=some cs[0]:=by simp[hl]
 have:=(a3 0 _ _ rfl hv).1
 generalize cs[0]=v at this
 obtain⟨xs,hx⟩: ∃xs,xs=l.map en:=⟨_,rfl⟩
 have e:l.length=xs.length:=by rw[hx,List.length_map]
 rw[e]
 simp only[<-hx]at this
 clear hx e
 cases this with
 |nil=>simp
 |list g1 g2 g3=>exact g3
end
end Go.Ab
