import Derived.Test.YtbgckcdddlmiaaaGreatDoorA8
set_option linter.all false
namespace Go.Ab
open Go
theorem MCall.le {P:Program} [Glob P] {f:FuncId} {args:List AV} {o:aF} {R R':AV->aF->Prop} (h:MCall P f args o R) (hR: ∀r o',R r o'-> ∃r' o1,Le ⟨1,[(0,r')],o1⟩ ⟨1,[(0,r)],o'⟩/\R' r' o1):MCall P f args o R':=by
 refine⟨h.1,fun C F μ w cargs h0 h1 h2 h3 h4 h5 h6 h7=>(h.2 C F μ w cargs h0 h1 h2 h3 h4 h5 h6 h7).mono ?_⟩
 rintro e w' ⟨v,r,o',F',μ',g1,g2,g3,g4⟩
 obtain⟨r',o1,k1,k2⟩:=hR r o' g2
 have hs:SR C F' μ' ⟨1,[(0,r)],o'⟩ ⟨#[v],C.df⟩ w':=⟨g3,rfl,rfl,fun i x hx=>by
  have:=pX hx
  simp only[List.mem_singleton,Prod.mk.injEq]at this
  obtain⟨rfl,rfl⟩:=this
  exact g4⟩
 obtain⟨F2,μ2,hs2⟩:=k1 C F' μ' _ w' hs
 exact⟨v,r',o1,F2,μ2,g1,k2,hs2.sw,hs2.slot 0 r' (by simp[lk])⟩
theorem Le.looseT {n i:Nat} {x:AV} {o:aF}:Le ⟨n,[(i,Ab.loose x)],o⟩ ⟨n,[(i,x)],o⟩:=by
 intro C F μ a w hs
 refine⟨F,μ,hs.sw,hs.defers,hs.n,fun k y hy=>?_⟩
 have:=pX hy
 simp only[List.mem_singleton,Prod.mk.injEq]at this
 obtain⟨rfl,rfl⟩:=this
 exact(hs.slot k x (by simp[lk])).loose
theorem MCall.loose {P:Program} [Glob P] {f:FuncId} {args:List AV} {o o1 o2:aF} {x:AV} (h:MCall P f args o (fun r o'=>r=x/\o'=o2))
 (hp:x.okIn o1=true) (ho: ∀p∈o1,lk o2 p.1=some p.2) (hb: ∀p∈o1,oR o1 p.2=true):MCall P f args o (fun r o'=>r=Ab.loose x/\o'=o1):=by
 refine h.le fun r o' ⟨e1,e2⟩=>⟨Ab.loose x,o1,?_,rfl,rfl⟩
 subst e1 e2
 refine Le.trans (b:=⟨1,[(0,r)],o1⟩) Le.looseT (Le.sub rfl (fun p hp=>?_) ho (fun p hq=>?_) hb)
 ·simp only[List.mem_singleton]at hp
  subst hp
  simp[lk]
 ·simp only[List.mem_singleton]at hq
  subst hq
  exact hp
theorem Le.share {n i:Nat} {x y:AV} {o:aF} {s':ASt} (h:share ⟨n,[(i,x)],o⟩ x=some (s',y)):Le ⟨n,[(i,y)],s'.o⟩ ⟨n,[(i,x)],o⟩:=by
 intro C F μ a w hs
 obtain⟨F',h1,h2,h3,h4,h5⟩:=zF hs h
 refine⟨F',μ,h2.sw,h2.defers,h2.n.trans h3,fun k z hz=>?_⟩
 have:=pX hz
 simp only[List.mem_singleton,Prod.mk.injEq]at this
 obtain⟨rfl,rfl⟩:=this
 exact(h5 _ (hs.slot k x (by simp[lk]))).congr (FLe.refl _) fun L hL=>((h5 _ (hs.slot k x (by simp[lk]))).noloc_has (fun _=>rfl) L hL).elim
theorem MCall.shared {P:Program} [Glob P] {f:FuncId} {args:List AV} {o o1 o2:aF} {x y:AV} {s':ASt} (h:MCall P f args o (fun r o'=>r=x/\o'=o2))
 (hs:Ab.share ⟨1,[(0,x)],o2⟩ x=some (s',y)) (hp:y.okIn o1=true) (ho: ∀p∈o1,lk s'.o p.1=some p.2) (hb: ∀p∈o1,oR o1 p.2=true):MCall P f args o (fun r o'=>r=Ab.loose y/\o'=o1):=by
 refine h.le fun r o' ⟨e1,e2⟩=>⟨Ab.loose y,o1,?_,rfl,rfl⟩
 subst e1 e2
 refine Le.trans (Le.trans (b:=⟨1,[(0,y)],o1⟩) Le.looseT (Le.sub (s:=⟨1,[(0,y)],s'.o⟩) rfl (fun p hp=>?_) ho (fun p hq=>?_) hb)) (Le.share hs)
 ·simp only[List.mem_singleton]at hp
  subst hp
  simp[lk]
 ·simp only[List.mem_singleton]at hq
  subst hq
  exact hp
end Go.Ab
