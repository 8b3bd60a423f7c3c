import Derived.Test.YtkbglbcphjmiiaaGreatDoorA7
set_option linter.unusedSimpArgs false
set_option linter.unusedVariables false
set_option linter.unusedSectionVars false
namespace Go.Ab
open Go.RowKit
def LH.st (h:LH) (st:LoopState) (pd:Option Code):LH:= {h with state:=st,pending:=pd}
theorem bC9 {h:LH} {a b c d}:(h.st a b).st c d=h.st c d:=rfl
theorem bDa {h:LH} {a b}:(h.st a b).state=a:=rfl
theorem bDb {h:LH} {a b}:(h.st a b).pending=b:=rfl
theorem bDc {h:LH} {a b}:(h.st a b).params=h.params:=rfl
theorem bDd {h:LH} {a b}:(h.st a b).assign=h.assign:=rfl
theorem bDe {h:LH} {a b}:(h.st a b).body=h.body:=rfl
theorem bDf {h:LH} {a b}:(h.st a b).n=h.n:=rfl
theorem bDg {h:LH} {a b}:(h.st a b).ks=h.ks:=rfl
attribute [go_sem] bC9 bDa bDb bDc bDd bDe bDf bDg
theorem aEt {L L':Nat}:kl L (.yl L')=if L=L' then .dead else .yl L':=by simp[kl,AV.has]
theorem bDh {L L':Nat}:kill1 L (.yl L')=if L=L' then .dead else .yl L':=aEt
theorem aEu {L:Nat} {h:LH}:kl L (.lh h)= .lh h:=by simp[kl,AV.has]
theorem bDi {L:Nat} {h:LH}:kill1 L (.lh h)= .lh h:=aEu
theorem bDj {o:aF} {L:Nat}:(AV.yl L).okIn o=(lk o L).isSome:=rfl
theorem bDk {o:aF} {h:LH}:(AV.lh h).okIn o=true:=rfl
theorem bDl {L L':Nat}:(AV.yl L').has L=(L==L'):=by simp[AV.has]
theorem bDm {L:Nat} {h:LH}:(AV.lh h).has L=false:=by simp[AV.has]
theorem bDn {L:Nat}:(AV.yl L).cells= [.yl L]:=rfl
theorem bDo:AV.dead.cells= [.dead]:=rfl
theorem bDp:AV.dead.isAgg=false:=rfl
theorem bDq {L:Nat}:(AV.mp L).cells= [.mp L]:=rfl
theorem bDr {L:Nat}:(AV.mp L).isAgg=false:=rfl
theorem bDs {L:Nat}:(AV.yl L).isAgg=false:=rfl
theorem bDt {h:LH}:(AV.lh h).cells= [.lh h]:=rfl
theorem bDu {σ:Nat→Nat} {h:LH}:(AV.lh h).ren σ= .lh h:=rfl
theorem bDv {σ:Nat→Nat} {L:Nat}:(AV.yl L).ren σ= .yl (σ L):=rfl
theorem bDw {p:Nat→Bool} {h:LH}:(AV.lh h).labs p=true:=rfl
theorem bDx {p:Nat→Bool} {L:Nat}:(AV.yl L).labs p=p L:=rfl
attribute [go_sem] aEt bDh aEu bDi bDj bDk bDl bDm bDn bDs bDo bDp bDq bDr bDt bDu bDv bDw bDx
def lZ (L:Nat) (x:AObj):aF→aF
 | []=> []
 |p::r=>if p.1=L then(p.1,x)::lZ L x r else p::lZ L x r
theorem bDy {L:Nat} {x:AObj}:lZ L x []= []:=rfl
theorem bDz {L:Nat} {x:AObj} {p:Nat×AObj} {r:aF}:lZ L x (p::r)=if p.1=L then(p.1,x)::lZ L x r else p::lZ L x r:=rfl
attribute [go_sem] bDy bDz
theorem T7 {L:Nat} {x:AObj}: ∀{o:aF} {i:Nat},(lk o L).isSome=true→lk (lZ L x o) i=lk (cY o L x) i
 | [],i,h=>by simp[lk]at h
 |(k,y)::r,i,h=>by
  simp only[lZ,cY,lk]at h ⊢
  by_cases hk:k=L
  ·subst hk
   rw[if_pos rfl]
   simp only[lk]
   by_cases hi:k=i
   ·rw[if_pos hi,if_pos hi]
   ·rw[if_neg hi,if_neg hi,if_neg hi]
    by_cases hs:(lk r k).isSome=true
    ·rw[T7 hs];simp only[cY,lk,if_neg hi]
    ·have: ∀{r:aF} {i:Nat},lk r k=none→lk (lZ k x r) i=lk r i:=fun {r} {i} hr=>by
      induction r with
      |nil=>rfl
      |cons q r ih=>
       obtain⟨k',y'⟩:=q
       simp only[lk]at hr
       by_cases hk':k'=k
       ·rw[if_pos hk']at hr;cases hr
       ·rw[if_neg hk']at hr
        simp only[lZ,if_neg hk',lk,ih hr]
     exact this (by simpa using hs)
  ·rw[if_neg hk]at h ⊢
   simp only[lk]
   by_cases hi:k=i
   ·rw[if_pos hi,if_neg (by omega),if_pos hi]
   ·rw[if_neg hi,T7 h]
    simp only[cY,lk,if_neg hi]
theorem Mk.put {C:Cx} {w:World} {ds:List Deferred} (h:Mk C w ds) {b:Nat} {r:Loop} (hr:w.heap[b]?=some (.loop r)) (x:Obj):Mk C (w.putObj b x) ds:=
 ⟨h.nodup,fun d hd=>by
  obtain⟨D,h1,h2,h3⟩:=h.each d hd
  exact⟨D,h1,(World.putObj_heap_other (by rintro rfl;rw[hr]at h2;cases h2)).trans h2,h3⟩⟩
def T8 (o:aF):Bool:=o.all fun p=>p.2.arr|| !(decide (p.2.kd=1))
theorem bD0:T8 []=true:=rfl
theorem bD1 {p:Nat×AObj} {o:aF}:T8 (p::o)=((p.2.arr|| !(decide (p.2.kd=1)))&&T8 o):=rfl
attribute [go_sem] bD0 bD1
def T9 (Q:Exit→ASt→Prop):Option Code→ASt→Prop
 |none,s=>Q .normal s
 |some .ret,s=>Q .ret s
 |some (.exit id),s=>Q (.exit id) s
 |_,_=>False
theorem ObjAt.has_loc {F loc w} {x:AObj} {b cap:Nat} (h:ObjAt F loc w x b cap) {L:Nat} (hL:AV.hasL L x.xs=true):loc L≠none:=by
 cases ha:x.arr with
 |true=>rw[h.hasL ha L]at hL;cases hL
 |false=>
  obtain⟨i,y,hy,hyL⟩:=lP hL
  rcases h with⟨c,e,h1,h2,h3,h4,h5,h6,h7⟩|⟨_,k2,_⟩|⟨_,_,_,r,_,k,ts,e0,_,e1⟩
  ·have key: ∀(j:Nat) (a:AV),y.cells[j]?=some a→a.has L=true→loc L≠none:=fun j a hj haL=>by
    obtain⟨v,g1,g2,g3,g4⟩:=h6 i y j a hy hj
    rw[ha]at g3
    exact RV.has_loc g3 L haL
   cases y with
   |agg cs=>
    simp only[AV.has]at hyL
    obtain⟨j,a,hj,haL⟩:=lP hyL
    exact key j a hj haL
   |_=>exact key 0 _ rfl hyL
  ·rw[ha]at k2;cases k2
  ·rw[e0]at hy
   cases i with
   |zero=>simp at hy;subst hy;simp[AV.has]at hyL
   |succ i=>exact(e1 i y (by simpa using hy)).has_loc L hyL
theorem ACall.frz {P:Program} [Glob P] {f:FuncId} {args:List AV} {es:Nat} {xs:List AV} (h:ACall P f args (fun r=>r= .own es xs)):ACall P f args (fun r=>r= .list false false xs):=by
 refine⟨h.1,fun w F cargs h0 h1 h2 h3=>(h.2 w F cargs h0 h1 h2 h3).mono ?_⟩
 rintro e w' ⟨v,r,F',g1,rfl,g3,p,g4⟩
 cases p with
 |none=>
  obtain⟨rfl,q,rfl⟩:=g4
  exact⟨_,_,F',g1,rfl,g3,none,rfl,.nil⟩
 |some q=>
  obtain⟨b,cap⟩:=q
  obtain⟨k1,k2,k3,k4⟩:=g4
  obtain⟨c,e',q1,q2,q3,q4,q5,q6,q7⟩:=k2.std (by simp[cR])
  have hle:FLe F' (jA F' b c.size c):=aBd k4
  have hcell: ∀k v,c[k]?=some v→w'.cell? ⟨b,k,none⟩=some v:=fun k v hk=>by simp[World.cell?,q1,hk]
  have hnew: ∀l b' k v,jA F' b c.size c l b' k=some v→(b'=b∧c[k]?=some v)∨F' l b' k=some v:=fun l b' k v hv=>by
   unfold jA at hv
   split at hv
   ·rename_i hb;exact .inl ⟨hb.1,hv⟩
   ·exact .inr hv
  refine⟨v,_,jA F' b c.size c,g1,rfl,⟨⟨fun l b' k v hv=>?_,fun b' k v hv=>?_⟩,g3.le.trans hle,fun b' k v hv=>?_,fun b' k v hv=>?_,g3.fr⟩,none,rfl,?_⟩
  ·rcases hnew l b' k v hv with⟨rfl,hk⟩|hv
   ·exact hcell k v hk
   ·exact g3.ok.facts l b' k v hv
  ·unfold jA at hv ⊢
   split at hv
   ·rename_i hb;rw[if_pos hb];exact hv
   ·rename_i hb;rw[if_neg hb];exact g3.ok.sub _ _ _ hv
  ·unfold jA at hv ⊢
   split at hv
   ·rename_i hb;rw[if_pos hb];exact .inr hv
   ·rename_i hb
    rw[if_neg hb]
    exact g3.lentc _ _ _ hv
  ·rcases hnew false b' k v hv with⟨rfl,hk⟩|hv
   ·exact .inr k3
   ·exact g3.newf _ _ _ hv
  ·rw[k1]
   by_cases hx:xs= []
   ·subst hx
    exact .list (es:=es) (o:=0) (f:=fun _ _=>undef) (fun x hx=>by cases hx) (Nat.zero_le _) (Nat.zero_le _) (fun h=>by cases h) (fun _=>rfl) (fun i x j a hx=>by simp at hx) (fun i x j a hx=>by simp at hx) (fun i x j a hx=>by simp at hx)
   ·have hat: ∀(i:Nat) (x:AV) (j:Nat) (a:AV),xs[i]?=some x→x.cells[j]?=some a→ ∃u,c[0+i*es+j]?=some u∧one u=true∧RV (sh F') cB a u:=fun i x j a hx ha=>by
     obtain⟨u,r1,r2,r3,r4⟩:=q6 i x j a hx ha
     exact⟨u,by rw[Nat.zero_add];exact r1,r2,r3⟩
    refine .list (es:=es) (o:=0) (f:=fun i j=>(c[0+i*es+j]?).getD undef) (fun x hx=>q5 x hx) q3 q4 (fun h=>by cases h) (fun _=>rfl) (fun i x j a hx ha=>?_) (fun i x j a hx ha=>?_) (fun i x j a hx ha=>?_)
    ·obtain⟨u,r1,_,_⟩:=hat i x j a hx ha
     have hlt:=(Array.getElem?_eq_some_iff.1 r1).1
     show jA F' b c.size c false b (0+i*es+j)=_
     unfold jA
     rw[if_pos ⟨rfl,hlt⟩,r1];rfl
    ·obtain⟨u,r1,_,r3⟩:=hat i x j a hx ha
     show RV _ _ a ((c[0+i*es+j]?).getD undef)
     rw[r1]
     exact r3.mono hle.sh
    ·obtain⟨u,r1,r2,_⟩:=hat i x j a hx ha
     show one ((c[0+i*es+j]?).getD undef)=true
     rw[r1];exact r2
theorem Le.nilBox {s:ASt} (L T es:Nat) {l pin:Bool} {e0 kd:Nat} (h:lk s.o L=some ⟨false,false,pin,e0,[.list l true []],kd⟩) (hL:L≠T) (hk:kd≠1):
 Le {n:=s.n,t:=fV T (fV T s.t),o:=(L,⟨false,false,pin,e0,[.ref T 0 0],kd⟩)::(T,cR es [])::killO T (killO T (fF s.o T))} s:=by
 intro C F μ a w hs
 have h1:=hs.renew0 (L:=T) (T:=T) (x:=cR es []) (p:=none) rfl rfl rfl (Fr.refl _ _) (by rfl) (fun b c hbc=>by cases hbc)
 have hl:aG ((T,cR es [])::killO T (killO T (fF s.o T))) (cC μ T none) T=some ⟨none,es,0,false⟩:=by simp[aG,lk,cC,cR,cH]
 have hx:lk ((T,cR es [])::killO T (killO T (fF s.o T))) L=some ⟨false,false,pin,e0,[.list l true []],kd⟩:=by
  simp only[lk,if_neg (Ne.symm hL),rQ,uX,h]
  simp[dH,kill1,Ab.kl,AV.has]
 have ho:=h1.sw.obj L _ hx
 cases hm:cC μ T none L with
 |none=>rw[hm]at ho;cases ho
 |some q=>
  obtain⟨b,cap⟩:=q
  rw[hm]at ho
  obtain⟨c,e,q1,q2,q3,q4,q5,q6,q7⟩:=ObjAt.std ho hk
  have hes:1=e0:=q5 (.list l true []) (by simp)
  subst hes
  have hsw:=h1.sw.turn (x':=⟨false,false,pin,1,[.ref T 0 0],kd⟩) hx (fun p=>by simp[cH]) rfl rfl hm rfl rfl (Fr.refl _ _) rfl (by
   refine .inl ⟨c,e,q1,q2,q3,q4,fun y hy=>?_,fun i y j x hy hj=>?_,q7⟩
   ·simp at hy;subst hy;rfl
   ·cases i with
    |succ i=>simp at hy
    |zero=>
     simp at hy
     subst hy
     cases j with
     |succ j=>simp[AV.cells]at hj
     |zero=>
      simp[AV.cells]at hj
      subst hj
      obtain⟨v,g1,g2,g3,g4⟩:=q6 0 (.list l true []) 0 _ rfl rfl
      refine⟨v,g1,g2,?_,fun hz=>by cases hz⟩
      have g3:RV F (aG ((T,cR es [])::killO T (killO T (fF s.o T))) (cC μ T none)) (.list l true []) v:=g3
      show RV F (aG ((T,cR es [])::killO T (killO T (fF s.o T))) (cC μ T none)) (.ref T 0 0) v
      cases g3 with
      |nil=>exact .refNil hl
      |list k1 k2 k3 k4=>
       have:=k4 rfl
       simp at this
       subst this
       exact .refNil hl)
  refine⟨F,cC μ T none,hsw,h1.defers,h1.n,fun i x hi=>?_⟩
  have hle:aG ((L,⟨false,false,pin,1,[.ref T 0 0],kd⟩)::(T,cR es [])::killO T (killO T (fF s.o T))) (cC μ T none)=aG ((T,cR es [])::killO T (killO T (fF s.o T))) (cC μ T none):=by
   funext M
   by_cases hM:L=M
   ·subst hM;simp only[aG,hx];simp[lk,cH]
   ·simp only[aG,lk,if_neg hM]
  rw[hle]
  exact h1.slot i x hi
theorem YCall.mono {P args o} [Glob P] {R R':AV→aF→Prop} (h:YCall P args o R) (hR: ∀r o',R r o'→R' r o'):YCall P args o R':=
 fun C F μ w cargs h0 h1 h2 h3 h4 h5 h6 h7=>YG.mono _ _ _ _ (h C F μ w cargs h0 h1 h2 h3 h4 h5 h6 h7) fun e w' ⟨v,r,o',F',μ',g1,g2,g3⟩=>⟨v,r,o',F',μ',g1,hR r o' g2,g3⟩
theorem bD2 {Q:Exit→ASt→Prop} {s:ASt}:T9 Q none s=Q .normal s:=rfl
theorem bD3 {Q:Exit→ASt→Prop} {s:ASt}:T9 Q (some .ret) s=Q .ret s:=rfl
theorem bD4 {Q:Exit→ASt→Prop} {s:ASt} {id:Nat}:T9 Q (some (.exit id)) s=Q (.exit id) s:=rfl
attribute [go_sem] bD2 bD3 bD4
theorem aEv {L L' a b c:Nat}:kl L (.rc L' a b c)=if L=L' then .dead else .rc L' a b c:=by simp[kl,AV.has]
theorem bD5 {L L' a b c:Nat}:kill1 L (.rc L' a b c)=if L=L' then .dead else .rc L' a b c:=aEv
theorem bD6 {o:aF} {L a b c:Nat}:(AV.rc L a b c).okIn o=(lk o L).isSome:=rfl
theorem bD7 {L L' a b c:Nat}:(AV.rc L' a b c).has L=(L==L'):=by simp[AV.has]
theorem bD8 {L a b c:Nat}:(AV.rc L a b c).cells= [.rc L a b c]:=rfl
theorem bD9 {L a b c:Nat}:(AV.rc L a b c).isAgg=false:=rfl
theorem bEa {σ:Nat→Nat} {L a b c:Nat}:(AV.rc L a b c).ren σ= .rc (σ L) a b c:=rfl
theorem bEb {p:Nat→Bool} {L a b c:Nat}:(AV.rc L a b c).labs p=p L:=rfl
theorem bEc {P:Program} [Glob P] {t:TypeId} {L lo n c:Nat}:nJ P t (.rc L lo n c)=tJ (bV P t) n:=rfl
theorem bEd {P:Program} [Glob P] {t:TypeId} {L lo n c:Nat}:wV P t (.rc L lo n c)=tJ (bV P t) (c - lo):=rfl
def U0 (d:Option (TypeId×Nat×Nat)) (x:Option AObj) (l h:Option Int) (L b c:Nat):Option Sv:=match d,x,l,h with
 |some (_,es,_),some x,some l,some h=>some ⟨decide (x.es=es∧0≤l∧l≤h∧b+h≤c),.rc L (b+l.toNat) (h.toNat - l.toNat) c⟩
 |_,_,_,_=>none
theorem bEe {P:Program} [Glob P] {t:TypeId} {L b n c:Nat} {lo hi:Option AV} {ob:aF}:iR P t (.rc L b n c) lo hi ob=U0 (bV P t) (lk ob L) (bd lo 0) (bd hi n) L b c:=by
 simp only[iR,U0]
 cases bV P t<;>cases lk ob L<;>cases bd lo 0<;>cases bd hi n<;>rfl
theorem bEf {e:TypeId} {es bb:Nat} {ar fz pin:Bool} {ee kd:Nat} {xs:List AV} {l h:Int} {L b c:Nat}:U0 (some (e,es,bb)) (some ⟨ar,fz,pin,ee,xs,kd⟩) (some l) (some h) L b c=some ⟨decide (ee=es∧0≤l∧l≤h∧b+h≤c),.rc L (b+l.toNat) (h.toNat - l.toNat) c⟩:=rfl
def G3 (x:Option AObj) (lo n:Nat):Option (List AV):=match x with
 |some x=>if x.arr=true∧lo+n≤x.xs.length then some (bY x.xs lo n)else none
 |none=>none
theorem bEg {o:aF} {L lo n c:Nat}:jC o (.rc L lo n c)=G3 (lk o L) lo n:=by simp only[jC,G3];cases lk o L<;>rfl
theorem bEh {kd:Nat} {fz pin:Bool} {es lo n:Nat} {xs:List AV}:G3 (some ⟨true,fz,pin,es,xs,kd⟩) lo n=if lo+n≤xs.length then some (bY xs lo n)else none:=by simp[G3]
theorem bEi {o:aF} {L lo n c:Nat}:iG o (.rc L lo n c)=jC o (.rc L lo n c):=rfl
theorem bEj {k L lo n c:Nat}:pJ k (.rc L lo n c)= .rc L lo (min n k) c:=rfl
theorem bEk {k L lo n:Nat}:pJ k (.ref L lo n)= .ref L lo n:=rfl
theorem bEl {k:Nat} {l f:Bool} {xs:List AV}:pJ k (.list l f xs)= .list l f xs:=rfl
theorem bEm {L L' a b c:Nat}:nR L (.rc L' a b c)= .rc L' a b c:=rfl
theorem bEn {L:Nat} {v:Value}:nR L (.sc v)= .sc v:=aDl
theorem bEo {L:Nat} {l f:Bool} {xs:List AV}:nR L (.list l f xs)= .list l f xs:=aDm
theorem bEp {L L' a b:Nat}:nR L (.ref L' a b)=if L=L' then .dead else .ref L' a b:=aDn
theorem bEq {L L' a b:Nat}:nR L (.ptr L' a b)=if L=L' then .dead else .ptr L' a b:=aDo
theorem bEr {L:Nat}:nR L .dead= .dead:=aDp
theorem bEs {L:Nat} {cs:List AV}:nR L (.tup cs)=kill1 L (.tup cs):=rfl
theorem bEt {L:Nat} {cs:List AV}:nR L (.agg cs)=kill1 L (.agg cs):=rfl
def G4 (L:Nat) (t:List (Nat×AV)):List (Nat×AV):=t.map fun p=>(p.1,nR L p.2)
theorem bEu {L:Nat}:G4 L []= []:=rfl
theorem bEv {L i:Nat} {a:AV} {r:List (Nat×AV)}:G4 L ((i,a)::r)=(i,nR L a)::G4 L r:=rfl
theorem bEw {n:Nat} {t:List (Nat×AV)} {o:aF} {L:Nat} {x:AObj}:ASt.renewR ⟨n,t,o⟩ L x=⟨n,G4 L t,(L,x)::killO L (killO L (fF o L))⟩:=rfl
def yS (d:Nat) (s:ASt) (L lo n c es:Nat) (ys:List AV):Option AObj→Option St
 |some x=>if x.arr=true∧x.fz=false∧x.pin=false∧x.kd≠1 then
  some ⟨decide (d<s.n∧(∀y∈ys,y.cells.length=es)∧x.es=es∧ys.length≤n∧ys≠ []∧lo≤x.xs.length∧lo+ys.length≤c∧lo+ys.length≤dC),(s.renewR L {x with xs:=splice x.xs ys lo}).put d (nt .i64 ys.length)⟩
  else none
 |none=>none
def U1 (d:Nat) (s:ASt) (L lo n c:Nat) (t:Option (TypeId×Nat×Nat)) (r:Option (List AV)):Option St:=match t,r with
 |some (_,es,_),some ys=>yS d s L lo n c es ys (lk s.o L)
 |_,_=>none
theorem bEx {P:Program} [Glob P] {d:Nat} {s:ASt} {t:TypeId} {L lo n c:Nat} {b:AV}:tE P t d s (some (.rc L lo n c)) (some b)=U1 d s L lo n c (bV P t) (iG s.o (pJ n b)):=by
 simp only[tE,xO,C0,U1]
 cases bV P t with
 |none=>rfl
 |some q=>
  obtain⟨e,es,b'⟩:=q
  cases iG s.o (pJ n b)with
  |none=>rfl
  |some ys=>simp only[yS];cases lk s.o L<;>rfl
theorem bEy {d:Nat} {s:ASt} {L lo n c e es b:Nat} {ys:List AV}:U1 d s L lo n c (some (e,es,b)) (some ys)=yS d s L lo n c es ys (lk s.o L):=rfl
theorem bEz {d:Nat} {s:ASt} {L lo n c es kd:Nat} {ys xs:List AV} {e:Nat}:yS d s L lo n c es ys (some ⟨true,false,false,e,xs,kd⟩)=if kd≠1 then
 some ⟨decide (d<s.n∧(∀y∈ys,y.cells.length=es)∧e=es∧ys.length≤n∧ys≠ []∧lo≤xs.length∧lo+ys.length≤c∧lo+ys.length≤dC),(s.renewR L ⟨true,false,false,e,splice xs ys lo,kd⟩).put d (nt .i64 ys.length)⟩else none:=by
 simp only[yS,true_and]
def vS (d:Nat) (s:ASt) (n c es bytes:Nat) (k:Int) (z:AV) (lo:Nat):Option AObj→Option St
 |some x=>if x.arr=true∧z.pure=true∧z.cells.length=es then
  some ⟨decide (d<s.n∧x.es=es∧es≠0∧lo=0∧0<k∧c<n+k.toNat∧n≤x.xs.length∧bytes≠0∧(2*(n+k.toNat)+200)*bytes≤2^48),
   s.renew d d d (gZ es (bY x.xs 0 n++List.replicate k.toNat z) 0) (.ref d 0 (n+k.toNat))⟩else none
 |none=>none
def aEw (P:Program) [Glob P] (t:TypeId):Bool:=match P.underlying t with
 |some (.int _)=>true
 |_=>false
def G5 (P:Program) [Glob P] (d:Nat) (s:ASt) (L lo n c:Nat) (k:Int):Option (TypeId×Nat×Nat)→Bool→Option St
 |some (e,es,bytes),true=>match aS P e with
  |some z=>vS d s n c es bytes k z lo (lk s.o L)
  |none=>none
 |_,_=>none
theorem bE0 {P:Program} [Glob P] {st xt:TypeId} {L lo n c d:Nat} {k:Int} {s:ASt}:pH P st xt (.rc L lo n c) (.sc (.int .i64 k)) d s=G5 P d s L lo n c k (bV P st) (aEw P xt):=by
 simp only[pH,A8,aEw]
 cases bV P st with
 |none=>rfl
 |some q=>
  obtain⟨e,es,bytes⟩:=q
  cases hu:P.underlying xt with
  |none=>rfl
  |some u=>
   cases u<;>simp only[G5]
   cases aS P e with
   |none=>rfl
   |some z=>simp only[vS];cases lk s.o L<;>rfl
def U2 (d:Nat) (s:ASt) (L lo n c es bytes:Nat) (k:Int):Option AV→Option St
 |some z=>vS d s n c es bytes k z lo (lk s.o L)
 |none=>none
theorem bE1 {P:Program} [Glob P] {d:Nat} {s:ASt} {L lo n c e es bytes:Nat} {k:Int}:G5 P d s L lo n c k (some (e,es,bytes)) true=U2 d s L lo n c es bytes k (aS P e):=by
 simp only[G5,U2]
theorem bE2 {d:Nat} {s:ASt} {L lo n c es bytes:Nat} {k:Int} {z:AV}:U2 d s L lo n c es bytes k (some z)=vS d s n c es bytes k z lo (lk s.o L):=rfl
theorem bE3 {d:Nat} {s:ASt} {n c es bytes lo kd e:Nat} {k:Int} {z:AV} {fz pin:Bool} {xs:List AV}:vS d s n c es bytes k z lo (some ⟨true,fz,pin,e,xs,kd⟩)=if z.pure=true∧z.cells.length=es then
 some ⟨decide (d<s.n∧e=es∧es≠0∧lo=0∧0<k∧c<n+k.toNat∧n≤xs.length∧bytes≠0∧(2*(n+k.toNat)+200)*bytes≤2^48),
  s.renew d d d (gZ es (bY xs 0 n++List.replicate k.toNat z) 0) (.ref d 0 (n+k.toNat))⟩else none:=by
 simp only[vS,true_and]
attribute [go_sem] aEv bD5 bD6 bD7 bD8 bD9 bEa bEb bEc bEd bEe bEf bEg bEh bEi bEj bEk bEl bEm bEn bEo bEp bEq bEr bEs bEt bEu bEv bEw bEx bEy bEz bE0 bE1 bE2 bE3
theorem bE4 {P:Program} [Glob P] {id:Nat} {ops:Array Oper} {Q:Exit→ASt→Prop} {s:ASt} (hm:P.follows .mixedOrders=true) (hs:Region.noSelect ops=true) (h:kJ P ops (Q .normal) ops.size (Array.replicate ops.size false) s):cN P (.region id ops true) Q s:=⟨s,Le.refl s,hm,.inr ⟨hs,h⟩⟩
def U3 (r:Res) (d:Nat) (k:ASt→Prop) (s:ASt):Prop:=match r with
 | .v r=>r.need∧d<s.n∧k (s.put d r.val)
 |_=>False
theorem bE5 {n:Bool} {a:AV} {d:Nat} {k:ASt→Prop} {s:ASt}:U3 (.v ⟨n,a⟩) d k s=(n∧d<s.n∧k (s.put d a)):=rfl
attribute [go_sem] bE5
theorem bI {P:Program} [Glob P] {ops:Array Oper} {Q:ASt→Prop} {f:Nat} {X:Array Bool} {s:ASt} (l:Nat) {o:Oper} {d:Nat} (ho:ops[l]?=some o) (hr:(Region.ready .any ops X).contains l=true) (hf:Region.free .any ops X l=true) (hq:yG P o s=true) (hg:o.guard=none) (hd:o.dst=some d)
 (h:U3 (bF P o s) d (kJ P ops Q f (X.setIfInBounds l true)) s):kJ P ops Q (f+1) X s:=by
 unfold U3 at h
 split at h
 ·rename_i r hv
  exact .inr (.inl ⟨l,o,d,ho,hr,hf,hq,hg,hd,r,hv,h.1,h.2.1,h.2.2⟩)
 ·exact h.elim
theorem bE6 {P:Program} [Glob P] {ops:Array Oper} {Q:ASt→Prop} {f:Nat} {X:Array Bool} {s:ASt} (hr:(Region.ready .any ops X).isEmpty=true) (h:Q s):kJ P ops Q f X s:=by
 have hr:Region.ready .any ops X= []:=by simpa using hr
 cases f with
 |zero=>exact⟨hr,h⟩
 |succ f=>exact .inl ⟨hr,h⟩
def U4 (P:Program) [Glob P] (ops:Array Oper) (Q:ASt→Prop) (f:Nat) (X:Array Bool) (s:ASt):Prop:= ∃s0,Le s0 s∧kJ P ops Q f X s0
theorem gH {P:Program} [Glob P] {ops:Array Oper} {Q:ASt→Prop} {f:Nat} {X:Array Bool} {s:ASt} (h:kJ P ops Q f X s):U4 P ops Q f X s:=⟨s,Le.refl _,h⟩
def eN (P:Program) [Glob P] (ops:Array Oper) (Q:ASt→Prop) (f:Nat) (X:Array Bool) (s:ASt) (n:Nat):Prop:= ∀i,i<n→(Region.ready .any ops X).contains i=true→ ∀o,ops[i]?=some o→gK P (fX ops o.guard s) o (U4 P ops Q f (X.setIfInBounds i true)) s
theorem gI {P:Program} [Glob P] {ops:Array Oper} {Q:ASt→Prop} {f:Nat} {X:Array Bool} {s:ASt}:eN P ops Q f X s 0:=fun i h=>by omega
theorem bE7 {P:Program} [Glob P] {ops:Array Oper} {Q:ASt→Prop} {f:Nat} {X:Array Bool} {s:ASt} {n:Nat} (hr:(Region.ready .any ops X).contains n=false) (h:eN P ops Q f X s n):eN P ops Q f X s (n+1):=fun i hi hc o ho=>by
 by_cases he:i=n
 ·subst he;rw[hr]at hc;cases hc
 ·exact h i (by omega) hc o ho
theorem gJ {P:Program} [Glob P] {ops:Array Oper} {Q:ASt→Prop} {f:Nat} {X:Array Bool} {s:ASt} {n:Nat} {o:Oper} (ho:ops[n]?=some o) (h1:gK P (fX ops o.guard s) o (U4 P ops Q f (X.setIfInBounds n true)) s) (h:eN P ops Q f X s n):eN P ops Q f X s (n+1):=fun i hi hc o' ho'=>by
 by_cases he:i=n
 ·subst he;obtain rfl:=Option.some.inj (ho.symm.trans ho');exact h1
 ·exact h i (by omega) hc o' ho'
theorem bE8 {P:Program} [Glob P] {ops:Array Oper} {Q:ASt→Prop} {f:Nat} {X:Array Bool} {s:ASt} (hr:(Region.ready .any ops X).isEmpty=false) (h:eN P ops Q f X s ops.size):kJ P ops Q (f+1) X s:=
 .inr (.inr ⟨fun e=>(by rw[e]at hr;cases hr),fun i hi o ho=>h i (Array.getElem?_eq_some_iff.1 ho).1 (by simpa using hi) o ho⟩)
theorem aEx (y:AV):(loose y).cells=y.cells.map loose1:=by
 cases y<;>first|rfl|simp[loose,loose1,AV.cells]
theorem Le.looseRow {s:ASt} (L:Nat) {x:AObj} (h:lk s.o L=some x) (hk:x.kd≠1):Le {n:=s.n,t:=s.t,o:=lZ L {x with xs:=x.xs.map loose} s.o} s:=by
 intro C F μ a w hs
 have hg: ∀M,lk (lZ L {x with xs:=x.xs.map loose} s.o) M=if L=M then some {x with xs:=x.xs.map loose} else lk s.o M:=fun M=>by
  rw[T7 (by rw[h];rfl)];rfl
 have hlo: ∀p,cH {x with xs:=x.xs.map loose} p=cH x p:=fun p=>oJ (x:= {x with xs:=x.xs.map loose}) (y:=x) rfl (by simp) rfl p
 have hloc:aG (lZ L {x with xs:=x.xs.map loose} s.o) μ=aG s.o μ:=by
  funext M
  simp only[aG,hg]
  by_cases hM:L=M
  ·subst hM;rw[if_pos rfl,h];simp only[Option.map_some,hlo]
  ·rw[if_neg hM]
 have hlk: ∀{M y},lk (lZ L {x with xs:=x.xs.map loose} s.o) M=some y→ ∃z,lk s.o M=some z∧z.fz=y.fz∧z.pin=y.pin∧z.arr=y.arr∧(∀p,cH y p=cH z p)∧((L=M∧z=x∧y= {x with xs:=x.xs.map loose})∨z=y):=fun {M y} hy=>by
  rw[hg]at hy
  by_cases hM:L=M
  ·subst hM
   rw[if_pos rfl]at hy
   obtain rfl:=Option.some.inj hy
   exact⟨x,h,rfl,rfl,rfl,hlo,.inl ⟨rfl,rfl,rfl⟩⟩
  ·rw[if_neg hM]at hy
   exact⟨y,hy,rfl,rfl,rfl,fun _=>rfl,.inr rfl⟩
 refine⟨F,μ,⟨hs.sw.facts,hs.sw.sub,hs.sw.lentc,hs.sw.grow,hs.sw.newf,hs.sw.fr,fun M y hy=>?_,fun M y M' y' b c c' hy hy'=>?_,fun M y b c hy hm hz=>?_,fun M y b c hy=>?_,fun M y x0 h0 hy hp=>?_⟩,hs.defers,hs.n,fun i y hy=>by rw[hloc];exact hs.slot i y hy⟩
 ·obtain⟨z,h1,h2,h3,h4,h5,hcase⟩:=hlk hy
  have ho:=hs.sw.obj M z h1
  rw[hloc]
  rcases hcase with⟨rfl,rfl,rfl⟩|rfl
  ·cases hm:μ L with
   |none=>
    rw[hm]at ho
    have h0:z.xs= []:=ho
    show z.xs.map loose= []
    rw[h0];rfl
   |some p=>
    obtain⟨b,cap⟩:=p
    rw[hm]at ho
    obtain⟨c,e,q1,q2,q3,q4,q5,q6,q7⟩:=ObjAt.std ho hk
    refine .inl ⟨c,e,q1,q2,by simpa using q3,by simpa using q4,fun y hy=>?_,fun i y j a' hy hj=>?_,q7⟩
    ·obtain⟨y',hy',rfl⟩:=List.mem_map.1 hy
     rw[aEx,List.length_map]
     exact q5 y' hy'
    ·simp only[List.getElem?_map,Option.map_eq_some_iff]at hy
     obtain⟨y',hy',rfl⟩:=hy
     rw[aEx]at hj
     simp only[List.getElem?_map,Option.map_eq_some_iff]at hj
     obtain⟨a2,ha2,rfl⟩:=hj
     obtain⟨v,g1,g2,g3,g4⟩:=q6 i y' j a2 hy' ha2
     exact⟨v,g1,g2,g3.loose1,g4⟩
  ·exact ho
 ·obtain⟨z,h1,_⟩:=hlk hy
  obtain⟨z',h1',_⟩:=hlk hy'
  exact hs.sw.dist M z M' z' b c c' h1 h1'
 ·obtain⟨z,h1,h2,_⟩:=hlk hy
  exact hs.sw.excl M z b c h1 hm (by rw[h2];exact hz)
 ·obtain⟨z,h1,_⟩:=hlk hy
  exact hs.sw.mine M z b c h1
 ·obtain⟨z,h1,h2,h3,h4,h5,_⟩:=hlk hy
  have:=hs.sw.keep M z x0 h0 h1 (by rw[h3];exact hp)
  simp only[h5,←h4]
  exact this
theorem Le.frz {s:ASt} (L:Nat) {x:AObj} (h:lk s.o L=some x) (hk:x.kd≠1):Le (s.frz L x) s:=fun C F μ a w hs=>by
 obtain⟨F',_,h2⟩:=hs.freeze h (.inr hk)
 exact⟨F',μ,h2⟩
theorem bE9 {arr fz pin:Bool} {es kd:Nat} {xs:List AV}:AObj.frz ⟨arr,fz,pin,es,xs,kd⟩=⟨arr,true,pin,es,xs,kd⟩:=rfl
attribute [go_sem] bE9
theorem bFa {n:Nat} {t:List (Nat×AV)} {o:aF} {L:Nat} {arr fz pin:Bool} {es kd:Nat} {xs:List AV}:ASt.frz ⟨n,t,o⟩ L ⟨arr,fz,pin,es,xs,kd⟩=⟨n,t,(L,⟨arr,true,pin,es,xs,kd⟩)::o⟩:=rfl
attribute [go_sem] bFa
theorem bFb {n:Nat} {a:AV}:(List.replicate n a).map loose=List.replicate n (loose a):=by simp
theorem bFc {cs:List AV}:loose (.agg cs)= .agg (cs.map loose1):=rfl
theorem bFd {v:Value}:loose1 (.sc v)= .sc v:=rfl
theorem bFe {l f:Bool} {xs:List AV}:loose1 (.list l f xs)= .list l false xs:=rfl
attribute [go_sem] bFb bFc bFd bFe
theorem zAny {P:Program} [Glob P] {id:Nat} {ops:Array Oper} {Q:Exit→ASt→Prop} {s:ASt} (hm:P.follows .mixedOrders=true) (h:kJ P ops (Q .normal) ops.size (Array.replicate ops.size false) s) (hs:Region.noSelect ops=true:=by decide+kernel):cN P (.region id ops true) Q s:=bE4 hm hs h
theorem zDone {P:Program} [Glob P] {ops:Array Oper} {Q:ASt→Prop} {f:Nat} {X:Array Bool} {s:ASt} (h:Q s) (hr:(Region.ready .any ops X).isEmpty=true:=by decide+kernel):kJ P ops Q f X s:=bE6 hr h
theorem zAll {P:Program} [Glob P] {ops:Array Oper} {Q:ASt→Prop} {f:Nat} {X:Array Bool} {s:ASt} (h:eN P ops Q f X s ops.size) (hr:(Region.ready .any ops X).isEmpty=false:=by decide+kernel):kJ P ops Q (f+1) X s:=bE8 hr h
theorem zSkip {P:Program} [Glob P] {ops:Array Oper} {Q:ASt→Prop} {f:Nat} {X:Array Bool} {s:ASt} {n:Nat} (h:eN P ops Q f X s n) (hr:(Region.ready .any ops X).contains n=false:=by decide+kernel):eN P ops Q f X s (n+1):=bE7 hr h
end Go.Ab
