import Derived.Test.YtkbglbcphjmiiaaGreatDoorA11
set_option linter.unusedSimpArgs false
set_option linter.unusedVariables false
set_option linter.unusedSectionVars false
namespace Go.Ab
open Go
theorem Le.shareSlot {s s':ASt} (i:Nat) {x y:AV} (h:lk s.t i=some x) (hs:Ab.share s x=some (s',y)):Le {n:=s.n,t:=(i,y)::s.t,o:=s'.o} s:=by
 intro C F μ a w hr
 obtain⟨F',h1,h2,h3,h4,h5⟩:=uV hr hs
 refine⟨F',μ,h2.sw,h2.defers,h2.n.trans h3,fun k z hz=>?_⟩
 simp only[lk]at hz
 by_cases hk:i=k
 ·subst hk
  rw[if_pos rfl]at hz
  obtain rfl:=Option.some.inj hz
  exact(h5 _ (hr.slot i x h)).congr (FLe.refl _) fun L hL=>((h5 _ (hr.slot i x h)).noloc_has (fun _=>rfl) L hL).elim
 ·rw[if_neg hk]at hz
  exact(hr.slot k z hz).congr h1 fun L _=>by show aG s'.o μ L=_;rw[h4]
theorem Le.shareBox {s s':ASt} (L:Nat) {cs ds:List AV} {pin:Bool} {es kd:Nat} (h:lk s.o L=some ⟨false,false,pin,es,[.agg cs],kd⟩) (hk:kd≠1) (hs:kD s cs=some (s',ds))
 (h':lk s'.o L=some ⟨false,false,pin,es,[.agg cs],kd⟩):Le {n:=s.n,t:=s.t,o:=(L,⟨false,false,pin,es,[.agg ds],kd⟩)::s'.o} s:=by
 intro C F μ a w hr
 obtain⟨F',h1,h2,h3,h4,h5,h6⟩:=M8 hr hs
 have ho0:=hr.sw.obj L _ h
 have ho:=h2.sw.obj L _ h'
 cases hm:μ L with
 |none=>rw[hm]at ho;cases ho
 |some q=>
  obtain⟨b,cap⟩:=q
  rw[hm]at ho ho0
  obtain⟨c,e,q1,q2,q3,q4,q5,q6,q7⟩:=ObjAt.std ho hk
  obtain⟨c0,e0,p1,p2,p3,p4,p5,p6,p7⟩:=ObjAt.std ho0 hk
  have hloc: ∀p,cH (⟨false,false,pin,es,[.agg ds],kd⟩:AObj) p=cH (⟨false,false,pin,es,[.agg cs],kd⟩:AObj) p:=fun p=>by simp[cH]
  have hsw:=h2.sw.turn (x':=⟨false,false,pin,es,[.agg ds],kd⟩) h' hloc rfl rfl hm rfl rfl (Fr.refl _ _) rfl (by
   refine .inl ⟨c,e,q1,q2,q3,q4,fun y hy=>?_,fun i y j x hy hj=>?_,q7⟩
   ·simp at hy;subst hy
    have:=q5 (.agg cs) (by simp)
    show ds.length=es
    rw[h5];exact this
   ·cases i with
    |succ i=>simp at hy
    |zero=>
     simp at hy
     subst hy
     have hj':ds[j]?=some x:=hj
     have hlt:j<ds.length:=(List.getElem?_eq_some_iff.1 hj').1
     have hcs:cs[j]?=some (cs[j]'(by omega)):=List.getElem?_eq_getElem (by omega)
     obtain⟨v,g1,g2,g3,g4⟩:=q6 0 (.agg cs) j _ rfl hcs
     obtain⟨v0,k1,k2,k3,k4⟩:=p6 0 (.agg cs) j _ rfl hcs
     have e1:c0=c:=by
      rw[p1]at q1
      injection q1 with q1
      injection q1
     subst e1
     have:v0=v:=by rw[k1]at g1;exact Option.some.inj g1
     subst this
     have k3:RV F (aG s.o μ) (cs[j]'(by omega)) v0:=k3
     have key:=h6 j _ x v0 hcs hj' k3
     refine⟨v0,g1,g2,?_,fun hz=>by cases hz⟩
     exact key.congr (FLe.refl _) fun M hM=>(key.noloc_has (fun _=>rfl) M hM).elim)
  have hse:cY s'.o L ⟨false,false,pin,es,[.agg ds],kd⟩=(L,⟨false,false,pin,es,[.agg ds],kd⟩)::s'.o:=rfl
  rw[hse]at hsw
  refine⟨F',μ,hsw,h2.defers,h2.n.trans h3,fun k z hz=>?_⟩
  have hle:aG ((L,⟨false,false,pin,es,[.agg ds],kd⟩)::s'.o) μ=aG s.o μ:=by
   rw[←h4]
   funext M
   by_cases hM:L=M
   ·subst hM;simp only[aG,h'];simp only[lk,if_pos,Option.map_some,hloc]
   ·simp only[aG,lk,if_neg hM]
  show RV F' (aG ((L,_)::s'.o) μ) z _
  rw[hle]
  exact(hr.slot k z hz).congr h1 fun _ _=>rfl
end Go.Ab
