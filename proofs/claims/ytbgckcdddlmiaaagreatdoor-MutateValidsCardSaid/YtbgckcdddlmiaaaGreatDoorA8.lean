import Derived.Test.YtbgckcdddlmiaaaGreatDoorA7
set_option linter.all false
namespace Go.Ab
open Go.RowKit
def LH.st (h:LH) (st:LoopState) (pd:Option Code):LH:= {h with state:=st,pending:=pd}
theorem aIy {h:LH} {a b c d}:(h.st a b).st c d=h.st c d:=rfl
theorem bHj {h:LH} {a b}:(h.st a b).state=a:=rfl
theorem bHk {h:LH} {a b}:(h.st a b).pending=b:=rfl
theorem bHl {h:LH} {a b}:(h.st a b).params=h.params:=rfl
theorem aIz {h:LH} {a b}:(h.st a b).assign=h.assign:=rfl
theorem aI0 {h:LH} {a b}:(h.st a b).body=h.body:=rfl
theorem bHm {h:LH} {a b}:(h.st a b).n=h.n:=rfl
theorem aI1 {h:LH} {a b}:(h.st a b).ks=h.ks:=rfl
attribute [go_sem] aIy bHj bHk bHl aIz aI0 bHm aI1
theorem aI2 {L L':Nat}:kl L (.yl L')=if L=L' then .dead else .yl L':=by simp[kl,kt,AV.has]
theorem bHn {L L':Nat}:kill1 L (.yl L')=if L=L' then .dead else .yl L':=aI2
theorem aI3 {L:Nat} {h:LH}:kl L (.lh h)= .lh h:=by simp[kl,kt,AV.has]
theorem bHo {L:Nat} {h:LH}:kill1 L (.lh h)= .lh h:=aI3
theorem bHp {o:aF} {L:Nat}:(AV.yl L).okIn o=(lk o L).isSome:=rfl
theorem bHq {o:aF} {h:LH}:(AV.lh h).okIn o=true:=rfl
theorem bHr {L:Nat}:(AV.yl L).cells= [.yl L]:=rfl
theorem bHs:AV.dead.cells= [.dead]:=rfl
theorem bHt:AV.dead.isAgg=false:=rfl
theorem bHu {L:Nat}:(AV.mp L).cells= [.mp L]:=rfl
theorem bHv {L:Nat}:(AV.mp L).isAgg=false:=rfl
theorem bHw {L:Nat}:(AV.yl L).isAgg=false:=rfl
theorem bHx {h:LH}:(AV.lh h).cells= [.lh h]:=rfl
theorem bHy {σ:Nat->Nat} {h:LH}:(AV.lh h).ren σ= .lh h:=rfl
theorem bHz {σ:Nat->Nat} {L:Nat}:(AV.yl L).ren σ= .yl (σ L):=rfl
theorem bH0 {p:Nat->Bool} {h:LH}:(AV.lh h).labs p=true:=rfl
theorem bH1 {p:Nat->Bool} {L:Nat}:(AV.yl L).labs p=p L:=rfl
attribute [go_sem] aI2 bHn aI3 bHo bHp bHq bHr bHw bHs bHt bHu bHv bHx bHy bHz bH0 bH1
def dV (L:Nat) (x:AObj):aF->aF
 | []=> []
 |p::r=>if p.1=L then(p.1,x)::dV L x r else p::dV L x r
theorem aBp {L:Nat} {x:AObj}:dV L x []= []:=rfl
theorem aBq {L:Nat} {x:AObj} {p:Nat×AObj} {r:aF}:dV L x (p::r)=if p.1=L then(p.1,x)::dV L x r else p::dV L x r:=rfl
attribute [go_sem] aBp aBq
theorem nT {L:Nat} {x:AObj}: ∀{o:aF} {i:Nat},(lk o L).isSome=true->lk (dV L x o) i=lk (bR o L x) i
 | [],i,h=>by simp[lk]at h
 |(k,y)::r,i,h=>by
  simp only[dV,bR,lk]at h ⊢
  by_cases hk:k=L
  ·subst hk
   rw[if_pos rfl]
   simp only[lk]
   by_cases hi:k=i
   ·rw[if_pos hi,if_pos hi]
   ·rw[if_neg hi,if_neg hi,if_neg hi]
    by_cases hs:(lk r k).isSome=true
    ·rw[nT hs];simp only[bR,lk,if_neg hi]
    ·have: ∀{r:aF} {i:Nat},lk r k=none->lk (dV k x r) i=lk r i:=fun {r} {i} hr=>by
      induction r with
      |nil=>rfl
      |cons q r ih=>
       obtain⟨k',y'⟩:=q
       simp only[lk]at hr
       by_cases hk':k'=k
       ·rw[if_pos hk']at hr;cases hr
       ·rw[if_neg hk']at hr
        simp only[dV,if_neg hk',lk,ih hr]
     exact this (by simpa using hs)
  ·rw[if_neg hk]at h ⊢
   simp only[lk]
   by_cases hi:k=i
   ·rw[if_pos hi,if_neg (by omega),if_pos hi]
   ·rw[if_neg hi,nT h]
    simp only[bR,lk,if_neg hi]
theorem SW.lkEq {C F μ} {o o':aF} {w:World} (h:SW C F μ o w) (he: ∀L,lk o' L=lk o L):SW C F μ o' w:=by
 have hl:aE o' μ=aE o μ:=by funext L;simp[aE,he]
 exact⟨h.facts,h.sub,h.lentc,h.grow,h.newf,h.fr,fun L x hx=>by rw[hl];rw[he]at hx;exact h.obj L x hx,fun L x L' x' b c c' hx hx'=>by rw[he]at hx hx';exact h.dist L x L' x' b c c' hx hx',
  fun L x b c hx=>by rw[he]at hx;exact h.excl L x b c hx,fun L x b c hx=>by rw[he]at hx;exact h.mine L x b c hx,fun L x x0 h0 hx=>by rw[he]at hx;exact h.keep L x x0 h0 hx⟩
abbrev eA (pn:Bool) (h:LH) (ts:List AV):AObj:=⟨false,false,pn,1,.lh h::ts,1⟩
theorem SW.loopAt {C F μ} {o:aF} {w:World} (h:SW C F μ o w) {L:Nat} {pn:Bool} {hd:LH} {ts:List AV} {b c:Nat} (hx:lk o L=some (eA pn hd ts)) (hm:μ L=some (b,c)):
 ∃r,w.heap[b]?=some (.loop r)/\hd.is r/\ ∀(i:Nat) (a:AV),ts[i]?=some a->RV F (aE o μ) a (r.tmps.getD (hd.ks.getD i 0) undef):=by
 have ho:=h.obj L _ hx
 rw[hm]at ho
 obtain⟨_,_,r0,h1,hodd⟩:=ObjAt.loop ho rfl rfl
 obtain⟨r,rfl,hd',ts',h2,h3,h4⟩: ∃r,r0= .loop r/\LoopOf F (aE o μ) r (.lh hd::ts):=by
  have hodd:OddOf F (aE o μ) 1 r0 (.lh hd::ts):=hodd
  cases r0 with
  |loop r=>exact⟨r,rfl,hodd⟩
  |_=>exact(show False from hodd).elim
 obtain⟨h5,rfl⟩:=List.cons.inj h2
 obtain rfl:hd=hd':=by injection h5
 exact⟨r,h1,h3,h4⟩
theorem SW.turnLoop {C F μ} {o:aF} {w:World} (h:SW C F μ o w) {L:Nat} {pn:Bool} {hd:LH} {ts:List AV} {b c:Nat} (hx:lk o L=some (eA pn hd ts)) (hm:μ L=some (b,c)) (st:LoopState) (pd:Option Code)
 {r:Loop} (hr:w.heap[b]?=some (.loop r)):SW C F μ (dV L (eA pn (hd.st st pd) ts) o) (w.putObj b (.loop {r with state:=st,pending:=pd})):=by
 obtain⟨r',h1,h3,h4⟩:=h.loopAt hx hm
 obtain rfl:r=r':=by rw[hr]at h1;injection h1 with h1;injection h1
 have hb:=gJ hr
 have:=h.turn (x':=eA pn (hd.st st pd) ts) hx (fun p=>rfl) rfl rfl hm rfl rfl (w':=w.putObj b (.loop {r with state:=st,pending:=pd})) ⟨rfl,rfl,rfl,by simp,fun k hk hkb=>World.putObj_heap_other hkb,Nat.le_refl _⟩ (by simp)
  (.inr (.inr ⟨rfl,rfl,_,World.putObj_heap_same hb,hd.st st pd,ts,rfl,⟨rfl,rfl,h3.2.2.1,h3.2.2.2.1,h3.2.2.2.2.1,h3.2.2.2.2.2⟩,h4⟩))
 exact this.lkEq fun i=>nT (by rw[hx];rfl)
theorem SR.turnLoop {C F μ} {s:ASt} {a:Act} {w:World} (h:SR C F μ s a w) {L:Nat} {pn:Bool} {hd:LH} {ts:List AV} {b c:Nat} (hx:lk s.o L=some (eA pn hd ts)) (hm:μ L=some (b,c)) (st:LoopState) (pd:Option Code)
 {r:Loop} (hr:w.heap[b]?=some (.loop r)):SR C F μ {s with o:=dV L (eA pn (hd.st st pd) ts) s.o} a (w.putObj b (.loop {r with state:=st,pending:=pd})):=by
 refine⟨h.sw.turnLoop hx hm st pd hr,h.defers,h.n,fun i x hi=>?_⟩
 have hl:aE (dV L (eA pn (hd.st st pd) ts) s.o) μ=aE s.o μ:=by
  funext M
  simp only[aE,nT (o:=s.o) (L:=L) (x:=eA pn (hd.st st pd) ts) (i:=M) (by rw[hx];rfl),bR,lk]
  by_cases hM:L=M
  ·subst hM;rw[if_pos rfl,hx];rfl
  ·rw[if_neg hM]
 rw[hl]
 exact h.slot i x hi
theorem Mk.put {C:Cx} {w:World} {ds:List Deferred} (h:Mk C w ds) {b:Nat} {r:Loop} (hr:w.heap[b]?=some (.loop r)) (x:Obj):Mk C (w.putObj b x) ds:=
 ⟨h.nodup,fun d hd=>by
  obtain⟨D,h1,h2,h3⟩:=h.each d hd
  exact⟨D,h1,(World.putObj_heap_other (by rintro rfl;rw[hr]at h2;cases h2)).trans h2,h3⟩⟩
def xY (Λ:Nat) (hd:LH) (R:AV->aF->Prop) (b:Bool) (st:LoopState) (pd:Option Code) (s:ASt):Prop:=
 ∃s0 ts,Le s0 s/\lk s0.o Λ=some (eA true (hd.st .busy none) ts)/\R (bl b) (dV Λ (eA true (hd.st st pd) ts) s0.o)
def aBr (Λ:Nat) (hd:LH) (R:AV->aF->Prop):Exit->ASt->Prop
 | .normal,s=>xY Λ hd R true .ready none s
 | .ret,s=>xY Λ hd R false .done (some .ret) s
 | .exit id,s=>xY Λ hd R false .done (some (.exit id)) s
 |_,_=>False
def aI4 (P:Program) [Glob P] (Λ:Nat) (hd:LH) (bd:Code) (R:AV->aF->Prop):Exit->ASt->Prop
 | .normal,s=> ∃ts,lk s.o Λ=some (eA true (hd.st .ready none) ts)/\bW P bd (aBr Λ hd R) {s with o:=dV Λ (eA true (hd.st .busy none) ts) s.o}
 |_,_=>False
theorem bH2 (ps:List Nat): ∀(as:List Value) (t:Array Value) (i:Nat),ps.Nodup->(∀p∈ps,p<t.size)->
 ((ps.zip as).foldl (fun tmps (p:Nat×Value)=>tmps.setIfInBounds p.1 p.2) t).size=t.size/\
 ((ps.zip as).foldl (fun tmps (p:Nat×Value)=>tmps.setIfInBounds p.1 p.2) t).getD i undef=(match lk (ps.zip as) i with
  |some v=>v
  |none=>t.getD i undef):=by
 induction ps with
 |nil=>intro as t i _ _;exact⟨rfl,rfl⟩
 |cons p ps ih=>
  intro as t i hn hs
  cases as with
  |nil=>exact⟨rfl,rfl⟩
  |cons v as=>
   simp only[List.zip_cons_cons,List.foldl_cons,lk]
   obtain⟨h1,h2⟩:=ih as (t.setIfInBounds p v) i (List.nodup_cons.1 hn).2 (fun q hq=>by rw[Array.size_setIfInBounds];exact hs q (List.mem_cons_of_mem _ hq))
   refine⟨h1.trans (Array.size_setIfInBounds ..),h2.trans ?_⟩
   by_cases hi:p=i
   ·subst hi
    rw[if_pos rfl]
    have hz:lk (ps.zip as) p=none:=by
     cases hl:lk (ps.zip as) p with
     |none=>rfl
     |some u=>
      have:=xG hl
      exact absurd (List.of_mem_zip this).1 (List.nodup_cons.1 hn).1
    rw[hz]
    have hp:=hs p (by simp)
    simp[Array.getD_eq_getD_getElem?,hp]
   ·rw[if_neg hi]
    cases lk (ps.zip as) i with
    |some u=>rfl
    |none=>simp[Array.getD_eq_getD_getElem?,Array.getElem?_setIfInBounds,hi]
theorem aBs {β:Type}: ∀{ps:List Nat} {as:List β} {i:Nat} {a:β},lk (ps.zip as) i=some a-> ∃j:Nat,ps[j]?=some i/\as[j]?=some a/\ ∀{γ:Type} (bs:List γ) (c:γ),bs.length=as.length->bs[j]?=some c->lk (ps.zip bs) i=some c
 | [],as,i,a,h=>by simp[lk]at h
 |p::ps,[],i,a,h=>by simp[lk]at h
 |p::ps,b::as,i,a,h=>by
  simp only[List.zip_cons_cons,lk]at h
  by_cases hp:p=i
  ·subst hp
   rw[if_pos rfl]at h
   obtain rfl:=Option.some.inj h
   refine⟨0,rfl,rfl,fun bs c hl hc=>?_⟩
   cases bs with
   |nil=>simp at hc
   |cons b' bs=>simp at hc;subst hc;simp[lk]
  ·rw[if_neg hp]at h
   obtain⟨j,h1,h2,h3⟩:=aBs h
   refine⟨j+1,by simpa using h1,by simpa using h2,fun bs c hl hc=>?_⟩
   cases bs with
   |nil=>simp at hc
   |cons b' bs=>simp only[List.zip_cons_cons,lk,if_neg hp];exact h3 bs c (by simpa using hl) (by simpa using hc)
theorem aI5 {β γ:Type}: ∀{ps:List Nat} {as:List β} {bs:List γ} {i:Nat},bs.length=as.length->lk (ps.zip as) i=none->lk (ps.zip bs) i=none
 | [],as,bs,i,_,_=>rfl
 |p::ps,[],bs,i,hl,_=>by cases bs<;>simp_all [lk]
 |p::ps,a::as,[],i,hl,_=>by simp at hl
 |p::ps,a::as,b::bs,i,hl,h=>by
  simp only[List.zip_cons_cons,lk]at h ⊢
  by_cases hp:p=i
  ·rw[if_pos hp]at h;cases h
  ·rw[if_neg hp]at h ⊢;exact aI5 (by simpa using hl) h
theorem aI6 {P:Program} [Glob P] {Λ:Nat} {hd:LH} {ts:List AV} {o:aF} {as:List AV} {ks:List Nat} {ps:List Nat} {n:Nat} {ac bd:Code} {R:AV->aF->Prop} (hx:lk o Λ=some (eA true (hd.st .ready none) ts))
 (hps:hd.params=ps.toArray) (hac:hd.assign=ac) (hbd:hd.body=bd) (hn:hd.n=n) (hks:hd.ks=ks) (hl:as.length=ps.length) (hnd:ps.Nodup) (hlt: ∀p∈ps,p<n) (h1:jP ac=true) (h2:jP bd=true)
 (h:bW P ac (aI4 P Λ hd bd R) {n:=n,t:=ps.zip as++ks.zip ts,o:=o}):zU P (.yl Λ::as) o R:=by
 intro C F μ w cargs hgk e1 e2 e3 e4 hsw hlen hrv
 obtain⟨cl⟩:=cargs
 cases cl with
 |nil=>simp at hlen
 |cons v0 rest=>
  have hv0:=hrv 0 (.yl Λ) v0 rfl rfl
  generalize hyl:AV.yl Λ=ay at hv0
  cases hv0<;>cases hyl
  rename_i b cap len hloc
  have hm:μ Λ=some (b,cap):=by
   simp only[aE,hx,Option.map_some]at hloc
   exact(T5 (Option.some.inj hloc)).1
  obtain⟨r,hr,his,hts⟩:=hsw.loopAt hx hm
  have hrs:rest.length=ps.length:=by simp at hlen;omega
  have hpr:r.params=ps.toArray:=his.2.2.1.symm.trans hps
  refine⟨b,rest.toArray,_,_,_,_,by simp,run_yield hr (by rw[hpr];simp[hrs]),?_⟩
  rw[<-his.2.2.2.1,<-his.2.2.2.2.1,hpr]
  simp only[aIz,aI0,hac,hbd]
  refine roundIn_of_wpIn trivial ?_
  have hfold:(ps.toArray.zip rest.toArray).foldl (fun tmps x=>match x with|(t,a)=>tmps.setIfInBounds t a) r.tmps=(ps.zip rest).foldl (fun tmps (p:Nat×Value)=>tmps.setIfInBounds p.1 p.2) r.tmps:=by
   rw[List.zip_toArray,List.foldl_toArray]
  rw[hfold]
  have hsz:r.tmps.size=n:=his.2.2.2.2.2.symm.trans hn
  have hfs:=fun i=>bH2 ps rest r.tmps i hnd (fun p hp=>by rw[hsz];exact hlt p hp)
  have hsr:SR (C.at []) F μ {n:=n,t:=ps.zip as++ks.zip ts,o:=o} {tmps:=(ps.zip rest).foldl (fun tmps (p:Nat×Value)=>tmps.setIfInBounds p.1 p.2) r.tmps,defers:= []} w:=by
   refine⟨hsw.from,rfl,((hfs 0).1).trans hsz,fun i x hi=>?_⟩
   show RV F (aE o μ) x _
   rw[(hfs i).2]
   have hi:lk (ps.zip as++ks.zip ts) i=some x:=hi
   rw[zS]at hi
   have hla:rest.length=as.length:=by omega
   cases hz:lk (ps.zip as) i with
   |some y=>
    rw[hz]at hi
    obtain rfl:y=x:=by simpa using hi
    obtain⟨j,g1,g2,g3⟩:=aBs hz
    have hj:j<rest.length:=by rw[hla];exact(List.getElem?_eq_some_iff.1 g2).1
    rw[g3 rest rest[j] hla (by simp[hj])]
    exact hrv (j+1) y rest[j] (by simpa using g2) (by simp[hj])
   |none=>
    rw[hz]at hi
    rw[aI5 hla hz]
    have hi:lk (ks.zip ts) i=some x:=by simpa using hi
    obtain⟨j,g1,g2,_⟩:=aBs hi
    have:=hts j x g2
    simp only[aI1,hks]at this
    rw[List.getD_eq_getElem?_getD,g1]at this
    exact this
  have hpin: ∀{F' μ'} {s':ASt} {a':Act} {w':World} {df:List Deferred} {h':LH} {ts':List AV},SR (C.at df) F' μ' s' a' w'->lk s'.o Λ=some (eA true h' ts')->μ' Λ=some (b,cap):=fun {F'} {μ'} {s'} {a'} {w'} {df} {h'} {ts'} hs hl'=>by
   have:=(hs.sw.keep Λ _ (eA true (hd.st .ready none) ts) (by show lk C.o0 Λ=_;rw[e3];exact hx) hl' rfl).1
   rw[this]
   show C.μ0 Λ=_
   rw[e4];exact hm
  refine wpIn_mono (pT (ro:=some b) ac _ _ (.inr h1) h C F μ _ w (Mk.nil _ _) hsr) ?_
  rintro e a1 w1 ⟨F1,μ1,s1,hq,hmk,hs1⟩
  cases e with
  |normal=>
   obtain⟨ts1,hx1,hbody⟩:=hq
   have hm1:=hpin hs1 hx1
   obtain⟨r1,hr1,his1,_⟩:=hs1.sw.loopAt hx1 hm1
   refine⟨_,run_beginRound hr1 his1.1.symm,?_⟩
   have hpd:r1.pending=none:=his1.2.1.symm
   have hs2:=hs1.turnLoop hx1 hm1 .busy none hr1
   have hre:({r1 with state:= .busy}:Loop)= {r1 with state:= .busy,pending:=none}:=by rw[<-hpd]
   rw[hre]
   refine wpIn_mono (pT (ro:=some b) bd _ _ (.inr h2) hbody C F1 μ1 a1 _ (hmk.put hr1 _) hs2) ?_
   rintro e a2 w2 ⟨F2,μ2,s2,hq2,hmk2,hs3⟩
   have fin: ∀{bb:Bool} {st:LoopState} {pd:Option Code},xY Λ hd R bb st pd s2->(st=if pd.isNone then .ready else .done)->bb=pd.isNone->
    ∃v w',(Instr.endRound b pd).run P w2= .ok v w'/\ ∃v' r o' F' μ',Ending.returned v= .returned v'/\R r o'/\SW C F' μ' o' w'/\RV F' (aE o' μ') r v':=by
    rintro bb st pd ⟨s0,ts0,hle,hx0,hR⟩ hst rfl
    obtain⟨F3,μ3,hs4⟩:=hle _ _ _ _ _ hs3
    have hm0:=hpin hs4 hx0
    obtain⟨r0,hr0,his0,_⟩:=hs4.sw.loopAt hx0 hm0
    refine⟨_,_,run_endRound pd hr0,_,_,_,F3,μ3,rfl,hR,?_,.sc rfl⟩
    rw[<-hst]
    have:=hs4.sw.turnLoop hx0 hm0 st pd hr0
    simp only[aIy]at this
    exact this.to
   cases e with
   |normal=>exact fin hq2 rfl rfl
   |ret=>exact fin hq2 rfl rfl
   |exit id=>exact fin hq2 rfl rfl
   |_=>exact hq2.elim
  |_=>exact hq.elim
def B3 (o:aF):Bool:=o.all fun p=>p.2.arr|| !(decide (p.2.kd=1))
theorem bH3:B3 []=true:=rfl
theorem bH4 {p:Nat×AObj} {o:aF}:B3 (p::o)=((p.2.arr|| !(decide (p.2.kd=1)))&&B3 o):=rfl
attribute [go_sem] bH3 bH4
def B4 (Q:Exit->ASt->Prop):Option Code->ASt->Prop
 |none,s=>Q .normal s
 |some .ret,s=>Q .ret s
 |some (.exit id),s=>Q (.exit id) s
 |_,_=>False
def aI7 (Λ:Nat) (Q:Exit->ASt->Prop) (o':aF) (s:ASt):Prop:=
 ∃hd ts,lk o' Λ=some (eA true hd ts)/\hd.state≠ .busy/\ ∃s0,Le s0 s/\B3 s0.o=true/\B4 Q hd.pending s0
def xZ (t:List (Nat×AV)):List Nat->Option (List AV)
 | []=>some []
 |k::ks=>match lk t k,xZ t ks with
  |some a,some r=>some (a::r)
  |_,_=>none
theorem aI8 {t:List (Nat×AV)}: ∀{ks:List Nat} {ts:List AV},xZ t ks=some ts-> ∀{i:Nat} {a:AV},ts[i]?=some a->lk t (ks.getD i 0)=some a
 | [],ts,h,i,a,hi=>by simp[xZ]at h;subst h;simp at hi
 |k::ks,ts,h,i,a,hi=>by
  simp only[xZ]at h
  split at h
  ·rename_i a' r h1 h2
   obtain rfl:=Option.some.inj h
   cases i with
   |zero=>simp at hi;subst hi;simpa using h1
   |succ i=>simpa using aI8 h2 (by simpa using hi)
  ·cases h
theorem ObjAt.has_loc {F loc w} {x:AObj} {b cap:Nat} (h:ObjAt F loc w x b cap) {L:Nat} (hL:AV.hasL L x.xs=true):loc L≠none:=by
 cases ha:x.arr with
 |true=>rw[h.hasL ha L]at hL;cases hL
 |false=>
  obtain⟨i,y,hy,hyL⟩:=kP hL
  rcases h with⟨c,e,h1,h2,h3,h4,h5,h6,h7⟩|⟨_,k2,_⟩|⟨_,_,r,_,g⟩
  ·have key: ∀(j:Nat) (a:AV),y.cells[j]?=some a->a.has L=true->loc L≠none:=fun j a hj haL=>by
    obtain⟨v,g1,g2,g3,g4⟩:=h6 i y j a hy hj
    rw[ha]at g3
    exact RV.has_loc g3 L haL
   cases y with
   |agg cs=>
    simp only[AV.has]at hyL
    obtain⟨j,a,hj,haL⟩:=kP hyL
    exact key j a hj haL
   |_=>exact key 0 _ rfl hyL
  ·rw[ha]at k2;cases k2
  ·obtain⟨z,v,g1,g2⟩:=g.parts L hL
   exact g1.has_loc L g2
theorem SR.addLoop {C F μ} {n:Nat} {t:List (Nat×AV)} {o:aF} {a:Act} {w:World} (h:SR C F μ ⟨n,t,o⟩ a w) {Λ:Nat} (hΛ:lk o Λ=none) {ks:List Nat} {ts:List AV} (hts:xZ t ks=some ts) (fn:FuncId) (ps:Array Tmp) (ac bd:Code):
 SR C F (bJ μ Λ (some (w.heap.size+1,0))) ⟨n,t,(Λ,eA false ⟨.ready,none,ps,ac,bd,n,ks⟩ ts)::o⟩ a
  ((w.alloc (.deferred (some []))).alloc (.loop {state:= .ready,pending:=none,fn,tmps:=a.tmps,params:=ps,assign:=ac,body:=bd,defers:=w.heap.size})):=by
 have hold: ∀b,b<w.heap.size->((w.alloc (.deferred (some []))).alloc (.loop {state:= .ready,pending:=none,fn,tmps:=a.tmps,params:=ps,assign:=ac,body:=bd,defers:=w.heap.size})).heap[b]?=w.heap[b]?:=fun b hb=>
  (pN (by simp;omega)).trans (pN hb)
 have hnew:((w.alloc (.deferred (some []))).alloc (.loop {state:= .ready,pending:=none,fn,tmps:=a.tmps,params:=ps,assign:=ac,body:=bd,defers:=w.heap.size})).heap[w.heap.size+1]?=some (.loop {state:= .ready,pending:=none,fn,tmps:=a.tmps,params:=ps,assign:=ac,body:=bd,defers:=w.heap.size}):=by
  have:=tR (w:=w.alloc (.deferred (some []))) (o:= .loop {state:= .ready,pending:=none,fn,tmps:=a.tmps,params:=ps,assign:=ac,body:=bd,defers:=w.heap.size})
  rwa [World.size_alloc]at this
 generalize hw:(w.alloc (.deferred (some []))).alloc (.loop {state:= .ready,pending:=none,fn,tmps:=a.tmps,params:=ps,assign:=ac,body:=bd,defers:=w.heap.size})=w1 at hold hnew ⊢
 have hsize:w1.heap.size=w.heap.size+2:=by rw[<-hw];simp
 generalize hx:eA false ⟨.ready,none,ps,ac,bd,n,ks⟩ ts=x
 have hloc: ∀L,L≠Λ->aE ((Λ,x)::o) (bJ μ Λ (some (w.heap.size+1,0))) L=aE o μ L:=fun L hL=>by
  simp[aE,lk,if_neg (Ne.symm hL),bJ,hL]
 have hne: ∀L,aE o μ L≠none->L≠Λ:=fun L hL e=>hL (by subst e;simp[aE,hΛ])
 have hlk: ∀{L y},lk ((Λ,x)::o) L=some y->(L=Λ/\y=x)\/(L≠Λ/\lk o L=some y):=fun {L y} hy=>by
  simp only[lk]at hy
  by_cases hL:Λ=L
  ·rw[if_pos hL]at hy;exact .inl ⟨hL.symm,(Option.some.inj hy).symm⟩
  ·rw[if_neg hL]at hy;exact .inr ⟨Ne.symm hL,hy⟩
 have hupd: ∀{L},L≠Λ->bJ μ Λ (some (w.heap.size+1,0)) L=μ L:=fun {L} hL=>by simp[bJ,hL]
 have hupΛ:bJ μ Λ (some (w.heap.size+1,0)) Λ=some (w.heap.size+1,0):=by simp[bJ]
 have hblk: ∀{L y b c},lk o L=some y->μ L=some (b,c)->b<w.heap.size:=fun {L y b c} hy hm=>by
  have:=h.sw.obj L y hy
  rw[hm]at this
  obtain⟨_,g⟩:=ObjAt.lt this
  exact gJ g
 refine⟨⟨fun l b k v hv=>?_,h.sw.sub,h.sw.lentc,h.sw.grow,h.sw.newf,?_,?_,?_,?_,?_,?_⟩,h.defers,h.n,fun i y hy=>?_⟩
 ·have:=h.sw.facts l b k v hv
  rw[qG (hold b (pI this))];exact this
 ·refine h.sw.fr.trans (M':=fun _=>False) ⟨by rw[<-hw];rfl,by rw[<-hw];rfl,by rw[<-hw];rfl,by omega,fun k hk _=>hold k hk,by rw[<-hw];exact Nat.le_refl _⟩ fun _ _ h=>h.elim
 ·intro L y hy
  rcases hlk hy with⟨rfl,rfl⟩|⟨hL,hy⟩
  ·rw[hupΛ]
   subst hx
   refine .inr (.inr ⟨rfl,rfl,_,hnew,_,ts,rfl,⟨rfl,rfl,rfl,rfl,rfl,h.n.symm⟩,fun i y hi=>?_⟩)
   have hv:=h.slot _ y (aI8 hts hi)
   exact hv.congr (FLe.refl _) fun M hM=>hloc M (hne M (hv.has_loc M hM))
  ·rw[hupd hL]
   have ho:=h.sw.obj L y hy
   cases hm:μ L with
   |none=>rw[hm]at ho;exact ho
   |some q=>
    obtain⟨b,c⟩:=q
    rw[hm]at ho
    exact ObjAt.congr ho (hold b (hblk hy hm)) (FLe.refl _) fun M hM=>hloc M (hne M (ObjAt.has_loc ho hM))
 ·intro L y L' y' b c c' hy hy' hm hm'
  rcases hlk hy with⟨e1,e2⟩|⟨hL,hy2⟩
  ·rcases hlk hy' with⟨e3,e4⟩|⟨hL',hy2'⟩
   ·exact e1.trans e3.symm
   ·rw[hupd hL']at hm'
    rw[e1,hupΛ]at hm
    have:=hblk hy2' hm'
    simp at hm;omega
  ·rw[hupd hL]at hm
   rcases hlk hy' with⟨e3,e4⟩|⟨hL',hy2'⟩
   ·rw[e3,hupΛ]at hm'
    have:=hblk hy2 hm
    simp at hm';omega
   ·rw[hupd hL']at hm'
    exact h.sw.dist L y L' y' b c c' hy2 hy2' hm hm'
 ·intro L y b c hy hm hz l k
  rcases hlk hy with⟨rfl,rfl⟩|⟨hL,hy⟩
  ·rw[hupΛ]at hm
   cases hF:F l b k with
   |none=>rfl
   |some u=>
    have:=pI (h.sw.facts l b k u hF)
    simp at hm;omega
  ·rw[hupd hL]at hm
   exact h.sw.excl L y b c hy hm hz l k
 ·intro L y b c hy hm
  rcases hlk hy with⟨rfl,rfl⟩|⟨hL,hy⟩
  ·rw[hupΛ]at hm
   have:=h.sw.fr.size
   simp at hm
   exact .inl (by omega)
  ·rw[hupd hL]at hm
   exact h.sw.mine L y b c hy hm
 ·intro L y x0 h0 hy hp
  rcases hlk hy with⟨rfl,rfl⟩|⟨hL,hy⟩
  ·subst hx;simp at hp
  ·rw[hupd hL]
   exact h.sw.keep L y x0 h0 hy hp
 ·have hv:=h.slot i y hy
  exact hv.congr (FLe.refl _) fun M hM=>hloc M (hne M (hv.has_loc M hM))
theorem aI9 {P:Program} [Glob P] {g:Operand} {ps:Array Tmp} {as bd:Code} {Q:Exit->ASt->Prop} {n:Nat} {t:List (Nat×AV)} {o:aF} (Λ d B:Nat) (ks:List Nat) (pσ qσ:List (Nat×Nat)) {f:FuncId} {caps ts:List AV}
 (oc:LH->aF) (ac:List AV) (R:LH->AV->aF->Prop) (hg:ev t g=some (.clo f caps)) (hΛ:lk o Λ=none) (hd:d<n) (hts:xZ t ks=some ts) (hσ:cO pσ Λ=Λ)
 (h: ∀hd:LH,hd.params=ps->hd.assign=as->hd.body=bd->hd.n=n->hd.ks=ks->
  Fits (cO pσ) (cO qσ) B (oc hd) ((Λ,eA false (hd.st .ready none) ts)::o)/\dS (oc hd) Λ=true/\AV.labsL (dS (oc hd)) ac=true/\ .yl Λ::caps=ac.map (AV.ren (cO pσ))/\MCall P f ac (oc hd) (R hd)/\
  ∀r o',R hd r o'->oO (cO pσ) (cO qσ) (oc hd) o' ((Λ,eA false (hd.st .ready none) ts)::o)=true/\
   aI7 Λ Q o' (mG (cO pσ) (cO qσ) B (oc hd) ⟨n,t,(Λ,eA false (hd.st .ready none) ts)::o⟩ d .dead o')):
 bW P (.rangeFunc g ps as bd) Q ⟨n,t,o⟩:=by
 intro C _ F μ a w hm hs
 obtain⟨hfit,hΛk,hlab,hren,hcall,hend⟩:=h ⟨.ready,none,ps,as,bd,n,ks⟩ rfl rfl rfl rfl rfl
 generalize hhd:(⟨.ready,none,ps,as,bd,n,ks⟩:LH)=hd0 at*
 have hst:hd0.st .ready none=hd0:=by rw[<-hhd];rfl
 refine wpIn_rangeFunc fun fn _=>?_
 have hgv:=dU hs g _ hg
 generalize hge:a.eval g=gv at hgv
 cases hgv with
 | @clo _ _ _ _ vs g1 g2=>
 have hs1:=hs.addLoop (Λ:=Λ) hΛ hts fn ps as bd
 rw[hhd,<-hst]at hs1
 generalize hw1:(w.alloc (.deferred (some []))).alloc (.loop {state:= .ready,pending:=none,fn,tmps:=a.tmps,params:=ps,assign:=as,body:=bd,defers:=w.heap.size})=w1 at hs1
 have hD1:w1.heap[w.heap.size]?=some (.deferred (some [])):=by
  rw[<-hw1]
  exact(pN (by simp)).trans tR
 generalize hμ1:bJ μ Λ (some (w.heap.size+1,0))=μ1 at hs1
 have hμΛ:μ1 Λ=some (w.heap.size+1,0):=by rw[<-hμ1];simp[bJ]
 have hrd:(resolve a.eval (rangeCall g (w.heap.size+1)) 0).run P w1= .ok ⟨.fn (.func f) vs,#[.func (.yield (w.heap.size+1)) #[] #[]]⟩ w1:=by
  simp[rangeCall,resolve,Deferred.ofValue,hge]
  rfl
 have hinv:(invoke (.fn (.func f) vs) #[.func (.yield (w.heap.size+1)) #[] #[]]).run P w1= .ok (.enter f (#[.func (.yield (w.heap.size+1)) #[] #[]]++vs)) w1:=by
  have:=hcall.1 (#[.func (.yield (w.heap.size+1)) #[] #[]]++vs) w1
  simpa[invoke]using this
 refine⟨w.heap.size+1,[mark w.heap.size],w1,_,w1,f,_,w1,by rw[<-hw1];exact run_enterLoop_outer _ _ _ _ _,hrd,fun _ _=>trivial,hinv,(fun hx=>by cases hx),?_⟩
 refine aGv ?_
 have hsw1:SW (C.at a.defers) F μ1 ((Λ,eA false (hd0.st .ready none) ts)::o) w1:=hs1.sw
 have hent:=hsw1.enterF hfit
 have hacl:ac.length=caps.length+1:=by
  have:=congrArg List.length hren
  simpa using this.symm
 have hrv: ∀(i:Nat) (x:AV) (v:Value),ac[i]?=some x->(#[Value.func (.yield (w.heap.size+1)) #[] #[]]++vs)[i]?=some v->RV F (aE (oc hd0) (jO (cO pσ) (oc hd0) μ1)) x v:=by
  intro i x v hx hv
  have hxr:(.yl Λ::caps:List AV)[i]?=some (x.ren (cO pσ)):=by rw[hren,List.getElem?_map,hx];rfl
  have hv':RV F (aE ((Λ,eA false (hd0.st .ready none) ts)::o) μ1) (x.ren (cO pσ)) v:=by
   cases i with
   |zero=>
    rw[Array.getElem?_append_left (by simp)]at hv
    simp at hxr hv
    rw[<-hxr,<-hv]
    exact .yl (cap:=0) (len:=0) (by simp[aE,lk,hμΛ,bV])
   |succ i=>
    rw[Array.getElem?_append_right (by simp)]at hv
    simp only[List.getElem?_cons_succ]at hxr
    simp only[List.size_toArray,List.length_cons,List.length_nil,Nat.zero_add,Nat.add_sub_cancel]at hv
    have h0:=g2 i _ v hxr hv
    refine h0.congr (FLe.refl _) fun M hM=>?_
    have hM0:=h0.has_loc M hM
    have hne:M≠Λ:=by
     rintro rfl
     exact hM0 (by simp[aE,hΛ])
    simp[aE,lk,if_neg (Ne.symm hne),<-hμ1,bJ,hne]
  have hlb: ∀M,x.has M=true->dS (oc hd0) M=true:=fun M hM=>rY hlab (gI hx hM)
  exact RV.unren (τ:=cO qσ) hv' (fun M hM=>hfit.tau (hlb M hM)) (fun M hM=>hfit.loc (hlb M hM))
 refine(hcall.2 (tY F μ1 (cO pσ) (oc hd0) w1) F _ w1 _ ⟨GOk.at (P:=P) (C:=C.at a.defers) hsw1.grow⟩ rfl rfl rfl rfl hent (by simp[hacl,g1];omega) hrv).mono ?_
 rintro e w2 ⟨v,r,o',F2,μ2,rfl,hR,hsw2,_⟩
 obtain⟨hrest,hd',ts',hx',hbusy,s0,hle,hnl,hj⟩:=hend r o' hR
 obtain⟨xΛ,hxΛ⟩:=Option.isSome_iff_exists.1 hΛk
 have hm2:μ2 Λ=some (w.heap.size+1,0):=by
  have:=(hsw2.keep Λ _ xΛ hxΛ hx' rfl).1
  rw[this]
  show jO (cO pσ) (oc hd0) μ1 Λ=_
  simp only[jO,if_pos hΛk,hσ,hμΛ]
 obtain⟨rr,hr2,his2,_⟩:=hsw2.loopAt hx' hm2
 have hMk:Mk C w2 (mark w.heap.size::a.defers):=by
  have hfr:Fr (wX (oc hd0) (jO (cO pσ) (oc hd0) μ1)) w1 w2:=hsw2.fr
  have h1:Mk C w1 (mark w.heap.size::a.defers):=by
   refine⟨List.pairwise_cons.2 ⟨fun d' hd' D e=>?_,hm.nodup⟩,fun d' hd'=>?_⟩
   ·obtain⟨D',q1,q2,_⟩:=hm.each d' hd'
    have hlt:=gJ q2
    rw[q1]
    intro e'
    have k1:w.heap.size=D:=by simpa[mark]using e
    have k2:D'=D:=by simpa[mark]using e'
    omega
   ·rcases List.mem_cons.1 hd' with rfl|hd'
    ·exact⟨_,rfl,hD1,hs.sw.fr.size⟩
    ·obtain⟨D',q1,q2,q3⟩:=hm.each d' hd'
     have hlt:=gJ q2
     exact⟨D',q1,by rw[<-hw1];exact(pN (by simp;omega)).trans ((pN hlt).trans q2),q3⟩
  exact h1.keep hent hfr
 refine⟨rr.pending,_,run_endLoop hr2 (by rw[<-his2.1];exact hbusy),?_⟩
 have hs2:=hs1.leaveF hfit hsw2 hrest hd (r:= .dead) (v:=a.tmps.getD d undef) .dead
 have hput0: ∀(a:Act),d<a.tmps.size->a.put (some d) (a.tmps.getD d undef)=a:=fun⟨tm,df⟩ hdn=>by
  have:tm.setIfInBounds d (tm.getD d undef)=tm:=by
   apply Array.ext (by simp)
   intro i h1 h2
   rw[Array.getElem_setIfInBounds]
   split
   ·rename_i hi;subst hi;simp[Array.getD_eq_getD_getElem?,h2]
   ·rfl
  show(⟨tm.setIfInBounds d (tm.getD d undef),df⟩:Act)=⟨tm,df⟩
  rw[this]
 have hput:=hput0 a (by rw[hs1.n];exact hd)
 rw[hput]at hs2
 obtain⟨F3,μ3,hs3⟩:=hle _ _ _ _ _ hs2
 have hno: ∀L y c,lk s0.o L=some y->μ3 L=some (w.heap.size+1,c)->False:=by
  intro L y c hy hmy
  have ho:=hs3.sw.obj L y hy
  rw[hmy]at ho
  have hal:=List.all_eq_true.1 hnl (L,y) (xG hy)
  rcases ho with⟨c',e,q,_⟩|⟨_,_,_,es,ck,q,_⟩|⟨q1,q2,_⟩
  ·rw[hr2]at q;cases q
  ·rw[hr2]at q;cases q
  ·simp[q1,q2]at hal
 have hsz:C.w0.heap.size<=w.heap.size+1:=Nat.le_succ_of_le hs.sw.fr.size
 have hs4:SR (C.at (mark w.heap.size::a.defers)) F3 μ3 s0 {a with defers:= [mark w.heap.size]++a.defers} (w2.putObj (w.heap.size+1) (.loop {rr with state:= .exhausted})):=
  ⟨(hs3.sw.other _ hsz (aHp hr2 (fun _ _ _ h=>by cases h) (fun _ _ h=>by cases h)) hno).at,rfl,hs3.n,hs3.slot⟩
 have hmk4:=hMk.put hr2 (.loop {rr with state:= .exhausted})
 rw[his2.2.1]at hj
 generalize w2.putObj (w.heap.size+1) (.loop {rr with state:= .exhausted})=w4 at hs4 hmk4 ⊢
 cases hp:rr.pending with
 |none=>rw[hp]at hj;exact⟨F3,μ3,s0,hj,hmk4,hs4⟩
 |some c=>
  rw[hp]at hj
  cases c<;>first|exact hj.elim|skip
  ·exact wpIn_exit ⟨F3,μ3,s0,hj,hmk4,hs4⟩
  ·exact wpIn_ret ⟨F3,μ3,s0,hj,hmk4,hs4⟩
theorem ACall.frz {P:Program} [Glob P] {f:FuncId} {args:List AV} {es:Nat} {xs:List AV} (h:ACall P f args (fun r=>r= .own es xs)):ACall P f args (fun r=>r= .list false false xs):=by
 refine⟨h.1,fun w F cargs h0 h1 h2 h3=>(h.2 w F cargs h0 h1 h2 h3).mono ?_⟩
 rintro e w' ⟨v,r,F',g1,rfl,g3,p,g4⟩
 cases p with
 |none=>
  obtain⟨rfl,q,rfl⟩:=g4
  exact⟨_,_,F',g1,rfl,g3,none,rfl,.nil⟩
 |some q=>
  obtain⟨b,cap⟩:=q
  obtain⟨k1,k2,k3,k4⟩:=g4
  obtain⟨c,e',q1,q2,q3,q4,q5,q6,q7⟩:=k2.std (by simp[dF])
  have hle:FLe F' (jK F' b c.size c):=aFd k4
  have hcell: ∀k v,c[k]?=some v->w'.cell? ⟨b,k,none⟩=some v:=fun k v hk=>by simp[World.cell?,q1,hk]
  have hnew: ∀l b' k v,jK F' b c.size c l b' k=some v->(b'=b/\c[k]?=some v)\/F' l b' k=some v:=fun l b' k v hv=>by
   unfold jK at hv
   split at hv
   ·rename_i hb;exact .inl ⟨hb.1,hv⟩
   ·exact .inr hv
  refine⟨v,_,jK F' b c.size c,g1,rfl,⟨⟨fun l b' k v hv=>?_,fun b' k v hv=>?_⟩,g3.le.trans hle,fun b' k v hv=>?_,fun b' k v hv=>?_,g3.fr⟩,none,rfl,?_⟩
  ·rcases hnew l b' k v hv with⟨rfl,hk⟩|hv
   ·exact hcell k v hk
   ·exact g3.ok.facts l b' k v hv
  ·unfold jK at hv ⊢
   split at hv
   ·rename_i hb;rw[if_pos hb];exact hv
   ·rename_i hb;rw[if_neg hb];exact g3.ok.sub _ _ _ hv
  ·unfold jK at hv ⊢
   split at hv
   ·rename_i hb;rw[if_pos hb];exact .inr hv
   ·rename_i hb
    rw[if_neg hb]
    exact g3.lentc _ _ _ hv
  ·rcases hnew false b' k v hv with⟨rfl,hk⟩|hv
   ·exact .inr k3
   ·exact g3.newf _ _ _ hv
  ·rw[k1]
   by_cases hx:xs= []
   ·subst hx
    exact .list (es:=es) (o:=0) (f:=fun _ _=>undef) (fun x hx=>by cases hx) (Nat.zero_le _) (Nat.zero_le _) (fun h=>by cases h) (fun _=>rfl) (fun i x j a hx=>by simp at hx) (fun i x j a hx=>by simp at hx) (fun i x j a hx=>by simp at hx)
   ·have hat: ∀(i:Nat) (x:AV) (j:Nat) (a:AV),xs[i]?=some x->x.cells[j]?=some a-> ∃u,c[0+i*es+j]?=some u/\one u=true/\RV (sh F') bU a u:=fun i x j a hx ha=>by
     obtain⟨u,r1,r2,r3,r4⟩:=q6 i x j a hx ha
     exact⟨u,by rw[Nat.zero_add];exact r1,r2,r3⟩
    refine .list (es:=es) (o:=0) (f:=fun i j=>(c[0+i*es+j]?).getD undef) (fun x hx=>q5 x hx) q3 q4 (fun h=>by cases h) (fun _=>rfl) (fun i x j a hx ha=>?_) (fun i x j a hx ha=>?_) (fun i x j a hx ha=>?_)
    ·obtain⟨u,r1,_,_⟩:=hat i x j a hx ha
     have hlt:=(Array.getElem?_eq_some_iff.1 r1).1
     show jK F' b c.size c false b (0+i*es+j)=_
     unfold jK
     rw[if_pos ⟨rfl,hlt⟩,r1];rfl
    ·obtain⟨u,r1,_,r3⟩:=hat i x j a hx ha
     show RV _ _ a ((c[0+i*es+j]?).getD undef)
     rw[r1]
     exact r3.mono hle.sh
    ·obtain⟨u,r1,r2,_⟩:=hat i x j a hx ha
     show one ((c[0+i*es+j]?).getD undef)=true
     rw[r1];exact r2
theorem Le.nilBox {s:ASt} (L T es:Nat) {l pin:Bool} {e0 kd:Nat} (h:lk s.o L=some ⟨false,false,pin,e0,[.list l true []],kd⟩) (hL:L≠T) (hk:kd≠1):
 Le {n:=s.n,t:=gE T (gE T s.t),o:=(L,⟨false,false,pin,e0,[.ref T 0 0],kd⟩)::(T,dF es [])::killO T (killO T (cK s.o T))} s:=by
 intro C F μ a w hs
 have h1:=hs.renew0 (L:=T) (T:=T) (x:=dF es []) (p:=none) rfl rfl rfl (Fr.refl _ _) (by rfl) (fun b c hbc=>by cases hbc)
 have hl:aE ((T,dF es [])::killO T (killO T (cK s.o T))) (bJ μ T none) T=some ⟨none,es,0,false⟩:=by simp[aE,lk,bJ,dF,bV]
 have hx:lk ((T,dF es [])::killO T (killO T (cK s.o T))) L=some ⟨false,false,pin,e0,[.list l true []],kd⟩:=by
  simp only[lk,if_neg (Ne.symm hL),rX,qN,h]
  simp[dO,kill1,Ab.kl,Ab.kt,AV.has]
 have ho:=h1.sw.obj L _ hx
 cases hm:bJ μ T none L with
 |none=>rw[hm]at ho;cases ho
 |some q=>
  obtain⟨b,cap⟩:=q
  rw[hm]at ho
  obtain⟨c,e,q1,q2,q3,q4,q5,q6,q7⟩:=ObjAt.std ho hk
  have hes:1=e0:=q5 (.list l true []) (by simp)
  subst hes
  have hsw:=h1.sw.turn (x':=⟨false,false,pin,1,[.ref T 0 0],kd⟩) hx (fun p=>by simp[bV]) rfl rfl hm rfl rfl (Fr.refl _ _) rfl (by
   refine .inl ⟨c,e,q1,q2,q3,q4,fun y hy=>?_,fun i y j x hy hj=>?_,q7⟩
   ·simp at hy;subst hy;rfl
   ·cases i with
    |succ i=>simp at hy
    |zero=>
     simp at hy
     subst hy
     cases j with
     |succ j=>simp[AV.cells]at hj
     |zero=>
      simp[AV.cells]at hj
      subst hj
      obtain⟨v,g1,g2,g3,g4⟩:=q6 0 (.list l true []) 0 _ rfl rfl
      refine⟨v,g1,g2,?_,fun hz=>by cases hz⟩
      have g3:RV F (aE ((T,dF es [])::killO T (killO T (cK s.o T))) (bJ μ T none)) (.list l true []) v:=g3
      show RV F (aE ((T,dF es [])::killO T (killO T (cK s.o T))) (bJ μ T none)) (.ref T 0 0) v
      cases g3 with
      |nil=>exact .refNil hl
      |list k1 k2 k3 k4=>
       have:=k4 rfl
       simp at this
       subst this
       exact .refNil hl)
  refine⟨F,bJ μ T none,hsw,h1.defers,h1.n,fun i x hi=>?_⟩
  have hle:aE ((L,⟨false,false,pin,1,[.ref T 0 0],kd⟩)::(T,dF es [])::killO T (killO T (cK s.o T))) (bJ μ T none)=aE ((T,dF es [])::killO T (killO T (cK s.o T))) (bJ μ T none):=by
   funext M
   by_cases hM:L=M
   ·subst hM;simp only[aE,hx];simp[lk,bV]
   ·simp only[aE,lk,if_neg hM]
  rw[hle]
  exact h1.slot i x hi
theorem aJa {P:Program} [Glob P] {s:ASt} {k:ASt->Prop} {as:List AV} {d:Nat} (ps qs:List (Nat×Nat)) (B:Nat) (oc:aF) (ac:List AV) {r0:AV} {o0:aF} (hf:Fits (cO ps) (cO qs) B oc s.o) (hac:AV.labsL (dS oc) ac=true) (has:as=ac.map (AV.ren (cO ps)))
 (hc:zU P ac oc (fun r o'=>r=r0/\o'=o0)) (hd:d<s.n) (hrest:oO (cO ps) (cO qs) oc o0 s.o=true) (hk:k (mG (cO ps) (cO qs) B oc s d r0 o0)):cL P (.y as) (some d) k s:=
 ⟨hd,cO ps,cO qs,B,oc,ac,_,hf,hac,has,hc,fun r o' h=>by obtain⟨rfl,rfl⟩:=h;exact⟨hrest,hk⟩⟩
theorem aJb {Λ:Nat} {hd:LH} {R:AV->aF->Prop} {b:Bool} {st:LoopState} {pd:Option Code} {s:ASt} (s0:ASt) (ts:List AV) (hl:Le s0 s) (hx:lk s0.o Λ=some (eA true (hd.st .busy none) ts)) (hR:R (bl b) (dV Λ (eA true (hd.st st pd) ts) s0.o)):xY Λ hd R b st pd s:=⟨s0,ts,hl,hx,hR⟩
theorem aJc {Λ:Nat} {Q:Exit->ASt->Prop} {o':aF} {s:ASt} (hd:LH) (ts:List AV) (hx:lk o' Λ=some (eA true hd ts)) (hb:hd.state≠ .busy) (s0:ASt) (hl:Le s0 s) (hn:B3 s0.o=true) (hq:B4 Q hd.pending s0):aI7 Λ Q o' s:=⟨hd,ts,hx,hb,s0,hl,hn,hq⟩
theorem aJd {Λ:Nat} {hd:LH} {R:AV->aF->Prop} {s:ASt} (h:xY Λ hd R true .ready none s):aBr Λ hd R .normal s:=h
theorem aJe {P:Program} [Glob P] {Λ:Nat} {hd:LH} {bd:Code} {R:AV->aF->Prop} {s:ASt} (ts:List AV) (hx:lk s.o Λ=some (eA true (hd.st .ready none) ts)) (h:bW P bd (aBr Λ hd R) {s with o:=dV Λ (eA true (hd.st .busy none) ts) s.o}):aI4 P Λ hd bd R .normal s:=⟨ts,hx,h⟩
theorem aJf {P:Program} [Glob P] {g:Operand} {ps:Array Tmp} {as bd:Code} {Q:Exit->ASt->Prop} {s0 s:ASt} (hl:Le s0 s) (h:bW P (.rangeFunc g ps as bd) Q s0):bW P (.rangeFunc g ps as bd) Q s:=AWp.le (ro:=none) (c:= .rangeFunc g ps as bd) h hl
theorem bH5 {Q:Exit->ASt->Prop} {s:ASt}:B4 Q none s=Q .normal s:=rfl
theorem bH6 {Q:Exit->ASt->Prop} {s:ASt}:B4 Q (some .ret) s=Q .ret s:=rfl
theorem bH7 {Q:Exit->ASt->Prop} {s:ASt} {id:Nat}:B4 Q (some (.exit id)) s=Q (.exit id) s:=rfl
attribute [go_sem] bH5 bH6 bH7
theorem Le.unpin {s:ASt} (L:Nat) {x:AObj} (h:lk s.o L=some x):Le {n:=s.n,t:=s.t,o:=dV L {x with pin:=false} s.o} s:=by
 intro C F μ a w hs
 have hlk: ∀M y,lk (dV L {x with pin:=false} s.o) M=some y-> ∃z,lk s.o M=some z/\z.arr=y.arr/\z.fz=y.fz/\z.es=y.es/\z.xs=y.xs/\z.kd=y.kd/\(y.pin=true->z=y):=fun M y hy=>by
  rw[nT (by rw[h];rfl)]at hy
  simp only[bR,lk]at hy
  by_cases hM:L=M
  ·subst hM
   rw[if_pos rfl]at hy
   obtain rfl:=Option.some.inj hy
   exact⟨x,h,rfl,rfl,rfl,rfl,rfl,fun hp=>by cases hp⟩
  ·rw[if_neg hM]at hy
   exact⟨y,hy,rfl,rfl,rfl,rfl,rfl,fun _=>rfl⟩
 have hloc:aE (dV L {x with pin:=false} s.o) μ=aE s.o μ:=by
  funext M
  simp only[aE,nT (o:=s.o) (L:=L) (x:= {x with pin:=false}) (i:=M) (by rw[h];rfl),bR,lk]
  by_cases hM:L=M
  ·subst hM;rw[if_pos rfl,h];rfl
  ·rw[if_neg hM]
 refine⟨F,μ,⟨hs.sw.facts,hs.sw.sub,hs.sw.lentc,hs.sw.grow,hs.sw.newf,hs.sw.fr,fun M y hy=>?_,fun M y M' y' b c c' hy hy'=>?_,fun M y b c hy hm hz=>?_,fun M y b c hy=>?_,fun M y x0 h0 hy hp=>?_⟩,hs.defers,hs.n,fun i y hy=>by rw[hloc];exact hs.slot i y hy⟩
 ·obtain⟨z,h1,h2,h3,h4,h5,h6,_⟩:=hlk M y hy
  have ho:=hs.sw.obj M z h1
  rw[hloc]
  obtain⟨ya,yf,yp,ye,yx,yk⟩:=y
  obtain⟨za,zf,zp,ze,zx,zk⟩:=z
  simp only at h2 h3 h4 h5 h6
  subst h2 h3 h4 h5 h6
  exact ho
 ·obtain⟨z,h1,_⟩:=hlk M y hy
  obtain⟨z',h1',_⟩:=hlk M' y' hy'
  exact hs.sw.dist M z M' z' b c c' h1 h1'
 ·obtain⟨z,h1,_,h3,_⟩:=hlk M y hy
  exact hs.sw.excl M z b c h1 hm (by rw[h3];exact hz)
 ·obtain⟨z,h1,_⟩:=hlk M y hy
  exact hs.sw.mine M z b c h1
 ·obtain⟨z,h1,_,_,_,_,_,h7⟩:=hlk M y hy
  obtain rfl:=h7 hp
  exact hs.sw.keep M z x0 h0 h1 hp
theorem aJg {L L' a b c:Nat}:kl L (.rc L' a b c)=if L=L' then .dead else .rc L' a b c:=by simp[kl,kt,AV.has]
theorem bH8 {L L' a b c:Nat}:kill1 L (.rc L' a b c)=if L=L' then .dead else .rc L' a b c:=aJg
theorem bH9 {o:aF} {L a b c:Nat}:(AV.rc L a b c).okIn o=(lk o L).isSome:=rfl
theorem bIa {L a b c:Nat}:(AV.rc L a b c).cells= [.rc L a b c]:=rfl
theorem bIb {L a b c:Nat}:(AV.rc L a b c).isAgg=false:=rfl
theorem bIc {σ:Nat->Nat} {L a b c:Nat}:(AV.rc L a b c).ren σ= .rc (σ L) a b c:=rfl
theorem bId {p:Nat->Bool} {L a b c:Nat}:(AV.rc L a b c).labs p=p L:=rfl
theorem bIe {P:Program} [Glob P] {t:TypeId} {L lo n c:Nat}:pJ P t (.rc L lo n c)=xR (cE P t) n:=rfl
theorem bIf {P:Program} [Glob P] {t:TypeId} {L lo n c:Nat}:yY P t (.rc L lo n c)=xR (cE P t) (c - lo):=rfl
def aBt (d:Option (TypeId×Nat×Nat)) (x:Option AObj) (l h:Option Int) (L b c:Nat):Option Sv:=match d,x,l,h with
 |some (_,es,_),some x,some l,some h=>some ⟨decide (x.es=es/\0<=l/\l<=h/\b+h<=c),.rc L (b+l.toNat) (h.toNat - l.toNat) c⟩
 |_,_,_,_=>none
theorem bIg {P:Program} [Glob P] {t:TypeId} {L b n c:Nat} {lo hi:Option AV} {ob:aF}:jJ P t (.rc L b n c) lo hi ob=aBt (cE P t) (lk ob L) (bd lo 0) (bd hi n) L b c:=by
 simp only[jJ,aBt]
 cases cE P t<;>cases lk ob L<;>cases bd lo 0<;>cases bd hi n<;>rfl
theorem bIh {e:TypeId} {es bb:Nat} {ar fz pin:Bool} {ee kd:Nat} {xs:List AV} {l h:Int} {L b c:Nat}:aBt (some (e,es,bb)) (some ⟨ar,fz,pin,ee,xs,kd⟩) (some l) (some h) L b c=some ⟨decide (ee=es/\0<=l/\l<=h/\b+h<=c),.rc L (b+l.toNat) (h.toNat - l.toNat) c⟩:=rfl
def M8 (x:Option AObj) (lo n:Nat):Option (List AV):=match x with
 |some x=>if x.arr=true/\lo+n<=x.xs.length then some (cA x.xs lo n)else none
 |none=>none
theorem bIi {o:aF} {L lo n c:Nat}:lI o (.rc L lo n c)=M8 (lk o L) lo n:=by simp only[lI,M8];cases lk o L<;>rfl
theorem bIj {kd:Nat} {fz pin:Bool} {es lo n:Nat} {xs:List AV}:M8 (some ⟨true,fz,pin,es,xs,kd⟩) lo n=if lo+n<=xs.length then some (cA xs lo n)else none:=by simp[M8]
theorem bIk {o:aF} {L lo n c:Nat}:mC o (.rc L lo n c)=lI o (.rc L lo n c):=rfl
theorem bIl {k L lo n c:Nat}:tX k (.rc L lo n c)= .rc L lo (min n k) c:=rfl
theorem bIm {k L lo n:Nat}:tX k (.ref L lo n)= .ref L lo n:=rfl
theorem bIn {k:Nat} {l f:Bool} {xs:List AV}:tX k (.list l f xs)= .list l f xs:=rfl
theorem bIo {L L' a b c:Nat}:vL L (.rc L' a b c)= .rc L' a b c:=rfl
theorem bIp {L:Nat} {cs:List AV}:vL L (.tup cs)=kill1 L (.tup cs):=rfl
theorem bIq {L:Nat} {cs:List AV}:vL L (.agg cs)=kill1 L (.agg cs):=rfl
def M9 (L:Nat) (t:List (Nat×AV)):List (Nat×AV):=t.map fun p=>(p.1,vL L p.2)
theorem bIr {L:Nat}:M9 L []= []:=rfl
theorem bIs {L i:Nat} {a:AV} {r:List (Nat×AV)}:M9 L ((i,a)::r)=(i,vL L a)::M9 L r:=rfl
theorem bIt {n:Nat} {t:List (Nat×AV)} {o:aF} {L:Nat} {x:AObj}:ASt.renewR ⟨n,t,o⟩ L x=⟨n,M9 L t,(L,x)::killO L (killO L (cK o L))⟩:=rfl
def aJh (d:Nat) (s:ASt) (L lo n c es:Nat) (ys:List AV):Option AObj->Option St
 |some x=>if x.arr=true/\x.fz=false/\x.pin=false/\x.kd≠1 then
  some ⟨decide (d<s.n/\(∀y∈ys,y.cells.length=es)/\x.es=es/\ys.length<=n/\ys≠ []/\lo<=x.xs.length/\lo+ys.length<=c/\lo+ys.length<=dD),(s.renewR L {x with xs:=splice x.xs ys lo}).put d (nt .i64 ys.length)⟩
  else none
 |none=>none
def bIu (d:Nat) (s:ASt) (L lo n c:Nat) (t:Option (TypeId×Nat×Nat)) (r:Option (List AV)):Option St:=match t,r with
 |some (_,es,_),some ys=>aJh d s L lo n c es ys (lk s.o L)
 |_,_=>none
theorem bIv {d:Nat} {s:ASt} {L lo n c e es b:Nat} {ys:List AV}:bIu d s L lo n c (some (e,es,b)) (some ys)=aJh d s L lo n c es ys (lk s.o L):=rfl
def aJi (d:Nat) (s:ASt) (n c es bytes:Nat) (k:Int) (z:AV) (lo:Nat):Option AObj->Option St
 |some x=>if x.arr=true/\z.pure=true/\z.cells.length=es then
  some ⟨decide (d<s.n/\x.es=es/\es≠0/\lo=0/\0<k/\c<n+k.toNat/\n<=x.xs.length/\bytes≠0/\(2*(n+k.toNat)+200)*bytes<=2^48),
   s.renew d d d (iL es (cA x.xs 0 n++List.replicate k.toNat z) 0) (.ref d 0 (n+k.toNat))⟩else none
 |none=>none
def bIw (d:Nat) (s:ASt) (L lo n c es bytes:Nat) (k:Int):Option AV->Option St
 |some z=>aJi d s n c es bytes k z lo (lk s.o L)
 |none=>none
theorem bIx {d:Nat} {s:ASt} {L lo n c es bytes:Nat} {k:Int} {z:AV}:bIw d s L lo n c es bytes k (some z)=aJi d s n c es bytes k z lo (lk s.o L):=rfl
attribute [go_sem] aJg bH8 bH9 bIa bIb bIc bId bIe bIf bIg bIh bIi bIj bIk bIl bIm bIn bIo bIp bIq bIr bIs bIt bIv bIx
theorem AWp.room {ro P c Q} [Glob P] {s:ASt} {i L n:Nat} (h:lk s.t i=some (.ref L 0 n)) (hn:n≠0) (k: ∀c',n<=c'->AWp ro P c Q {s with t:=(i,.rc L 0 n c')::s.t}):AWp ro P c Q s:=by
 intro C _ F μ a w hm hs
 have hv:=hs.slot i _ h
 generalize hv':a.tmps.getD i undef=v at hv
 cases hv with
 |refNil=>exact absurd rfl hn
 | @ref _ _ _ _ _ b cap es len o c' g1 g2 g3 g4 g5=>
  obtain rfl:=g5 rfl
  refine k c' g3 C F μ a w hm ⟨hs.sw,hs.defers,hs.n,fun j y hy=>?_⟩
  simp only[lk]at hy
  split at hy
  ·rename_i e
   subst e
   obtain rfl:=Option.some.inj hy
   rw[hv']
   exact RV.rc g1 (by omega) (fun _=>g4 (.inr rfl))
  ·exact hs.slot j y hy
theorem Le.unrc {s:ASt} (i:Nat) {L n c:Nat} {x:AObj} (h:lk s.t i=some (.rc L 0 n c)) (hx:lk s.o L=some x) (hn:n<=x.xs.length):Le {n:=s.n,t:=(i,.ref L 0 n)::s.t,o:=s.o} s:=by
 intro C F μ a w hs
 refine⟨F,μ,hs.sw,hs.defers,hs.n,fun j y hy=>?_⟩
 have hv:=hs.slot i _ h
 generalize hv':a.tmps.getD i undef=v at hv
 cases hv with
 | @rc _ _ _ _ _ b cap es len o g1 g2 g3=>
  simp only[lk]at hy
  split at hy
  ·rename_i e
   subst e
   obtain rfl:=Option.some.inj hy
   rw[hv']
   have hlen:len=x.xs.length:=by
    simp only[aE,hx,Option.map_some]at g1
    obtain⟨_,_,hl,_⟩:=fB (Option.some.inj g1)
    exact hl.symm
   exact RV.ref g1 (by omega) (by omega) (fun _=>g3 (.inl rfl)) (fun _=>rfl)
  ·exact hs.slot j y hy
theorem bIy {P:Program} [Glob P] {f:FuncId} {fn:Func} {c:Code} {L n:Nat} {args:List AV} {o:aF} {x:AObj} {R:AV->aF->Prop} (hf:P.funcs[f]?=some fn) (hc: ∀cargs w,(callFunc f cargs).run P w= .ok (.enter f cargs) w) (hb:fn.body=some c)
 (hn:(AV.ref L 0 n::args).length<=fn.ntmps) (hx:lk o L=some x) (h0:n≠0) (h: ∀c',n<=c'->bW P c (M7 P fn.results.toList R) (pV fn.ntmps (.rc L 0 n c'::args) (dV L {x with pin:=false} o))):MCall P f (.ref L 0 n::args) o R:=by
 have hz: ∀(l:List AV) (a b:AV) (k:Nat),(((a::l).zipIdx k).map fun p=>(p.2,p.1))=(k,a)::((l.zipIdx (k+1)).map fun p=>(p.2,p.1)):=fun l a b k=>by simp[List.zipIdx_cons]
 refine aHs hf hc hb hn ?_
 refine AWp.le (s0:= {n:=fn.ntmps,t:=(pV fn.ntmps (.ref L 0 n::args) o).t,o:=dV L {x with pin:=false} o}) ?_ (Le.unpin (s:=pV fn.ntmps (.ref L 0 n::args) o) L hx)
 refine AWp.room (i:=0) (L:=L) (n:=n) (by simp only[pV];rw[hz _ _ .dead];rfl) h0 fun c' hc'=>?_
 refine AWp.le (s0:=pV fn.ntmps (.rc L 0 n c'::args) (dV L {x with pin:=false} o)) ?_ (fun C F μ a w hs=>⟨F,μ,hs.sw,hs.defers,hs.n,fun j y hy=>hs.slot j y ?_⟩)
 ·intro C _ F μ a w hm hs
  refine wpIn_mono (pT c _ _ (.inl rfl) (h c' hc') C F μ a w hm hs) ?_
  rintro e a' w' ⟨F',μ',s',hq,hm',hs'⟩
  have key: ∀{e},(∃s0 xs,Le s0 s'/\iR P s0 fn.results.toList=some xs/\R (iS xs) s0.o)->(e= .normal\/e= .ret)-> ∃F' μ' s',aHq P fn.results.toList R e s'/\Mk C w' a'.defers/\SR (C.at a'.defers) F' μ' s' a' w':=fun {e} ⟨s0,xs,hl,h1,h2⟩ he=>by
   obtain⟨F2,μ2,h3⟩:=hl _ F' μ' a' w' hs'
   refine⟨F2,μ2,s0,?_,hm',h3⟩
   rcases he with rfl|rfl<;>exact⟨xs,h1,h2⟩
  cases e with
  |normal=>exact key hq (.inl rfl)
  |ret=>exact key hq (.inr rfl)
  |_=>exact hq.elim
 ·simp only[pV]at hy ⊢
  rw[hz _ _ .dead]at hy ⊢
  simp only[lk]at hy ⊢
  by_cases hj:0=j
  ·rw[if_pos hj]at hy ⊢;exact hy
  ·rw[if_neg hj]at hy ⊢;rw[if_neg hj];exact hy
theorem bIz {P:Program} [Glob P] {id:Nat} {ops:Array Oper} {Q:Exit->ASt->Prop} {s:ASt} (hm:P.follows .mixedOrders=true) (hs:Region.noSelect ops=true) (h:iQ P ops (Q .normal) ops.size (Array.replicate ops.size false) s):bW P (.region id ops true) Q s:=⟨s,Le.refl s,hm,.inr ⟨hs,h⟩⟩
def N0 (r:Res) (d:Nat) (k:ASt->Prop) (s:ASt):Prop:=match r with
 | .v r=>r.need/\d<s.n/\k (s.put d r.val)
 |_=>False
theorem bI0 {n:Bool} {a:AV} {d:Nat} {k:ASt->Prop} {s:ASt}:N0 (.v ⟨n,a⟩) d k s=(n/\d<s.n/\k (s.put d a)):=rfl
attribute [go_sem] bI0
theorem bI1 {P:Program} [Glob P] {ops:Array Oper} {Q:ASt->Prop} {f:Nat} {X:Array Bool} {s:ASt} (l:Nat) {o:Oper} {d:Nat} (ho:ops[l]?=some o) (hr:(Region.ready .any ops X).contains l=true) (hf:Region.free .any ops X l=true) (hq:xP P o s=true) (hg:o.guard=none) (hd:o.dst=some d)
 (h:N0 (bA P o s) d (iQ P ops Q f (X.setIfInBounds l true)) s):iQ P ops Q (f+1) X s:=by
 unfold N0 at h
 split at h
 ·rename_i r hv
  exact .inr (.inl ⟨l,o,d,ho,hr,hf,hq,hg,hd,r,hv,h.1,h.2.1,h.2.2⟩)
 ·exact h.elim
theorem bI2 {P:Program} [Glob P] {ops:Array Oper} {Q:ASt->Prop} {f:Nat} {X:Array Bool} {s:ASt} (hr:(Region.ready .any ops X).isEmpty=true) (h:Q s):iQ P ops Q f X s:=by
 have hr:Region.ready .any ops X= []:=by simpa using hr
 cases f with
 |zero=>exact⟨hr,h⟩
 |succ f=>exact .inl ⟨hr,h⟩
def aBu (P:Program) [Glob P] (ops:Array Oper) (Q:ASt->Prop) (f:Nat) (X:Array Bool) (s:ASt):Prop:= ∃s0,Le s0 s/\iQ P ops Q f X s0
theorem dB {P:Program} [Glob P] {ops:Array Oper} {Q:ASt->Prop} {f:Nat} {X:Array Bool} {s:ASt} (h:iQ P ops Q f X s):aBu P ops Q f X s:=⟨s,Le.refl _,h⟩
def cH (P:Program) [Glob P] (ops:Array Oper) (Q:ASt->Prop) (f:Nat) (X:Array Bool) (s:ASt) (n:Nat):Prop:= ∀i,i<n->(Region.ready .any ops X).contains i=true-> ∀o,ops[i]?=some o->gK P (gX ops o.guard s) o (aBu P ops Q f (X.setIfInBounds i true)) s
theorem cV {P:Program} [Glob P] {ops:Array Oper} {Q:ASt->Prop} {f:Nat} {X:Array Bool} {s:ASt}:cH P ops Q f X s 0:=fun i h=>by omega
theorem bI3 {P:Program} [Glob P] {ops:Array Oper} {Q:ASt->Prop} {f:Nat} {X:Array Bool} {s:ASt} {n:Nat} (hr:(Region.ready .any ops X).contains n=false) (h:cH P ops Q f X s n):cH P ops Q f X s (n+1):=fun i hi hc o ho=>by
 by_cases he:i=n
 ·subst he;rw[hr]at hc;cases hc
 ·exact h i (by omega) hc o ho
theorem cW {P:Program} [Glob P] {ops:Array Oper} {Q:ASt->Prop} {f:Nat} {X:Array Bool} {s:ASt} {n:Nat} {o:Oper} (ho:ops[n]?=some o) (h1:gK P (gX ops o.guard s) o (aBu P ops Q f (X.setIfInBounds n true)) s) (h:cH P ops Q f X s n):cH P ops Q f X s (n+1):=fun i hi hc o' ho'=>by
 by_cases he:i=n
 ·subst he;obtain rfl:=Option.some.inj (ho.symm.trans ho');exact h1
 ·exact h i (by omega) hc o' ho'
theorem bI4 {P:Program} [Glob P] {ops:Array Oper} {Q:ASt->Prop} {f:Nat} {X:Array Bool} {s:ASt} (hr:(Region.ready .any ops X).isEmpty=false) (h:cH P ops Q f X s ops.size):iQ P ops Q (f+1) X s:=
 .inr (.inr ⟨fun e=>(by rw[e]at hr;cases hr),fun i hi o ho=>h i (Array.getElem?_eq_some_iff.1 ho).1 (by simpa using hi) o ho⟩)
theorem cX {P:Program} [Glob P] {ops:Array Oper} {Q:ASt->Prop} {f:Nat} {X:Array Bool} {s:ASt} (h:iQ P ops Q f X s):iQ P ops Q f X s:=h
theorem cY {P:Program} [Glob P] {ops:Array Oper} {Q:ASt->Prop} {f:Nat} {X:Array Bool} {s:ASt} {n:Nat} (h:cH P ops Q f X s n):cH P ops Q f X s n:=h
theorem aJj (y:AV):(loose y).cells=y.cells.map loose1:=by
 cases y<;>first|rfl|simp[loose,loose1,AV.cells]
theorem Le.looseRow {s:ASt} (L:Nat) {x:AObj} (h:lk s.o L=some x) (hk:x.kd≠1):Le {n:=s.n,t:=s.t,o:=dV L {x with xs:=x.xs.map loose} s.o} s:=by
 intro C F μ a w hs
 have hg: ∀M,lk (dV L {x with xs:=x.xs.map loose} s.o) M=if L=M then some {x with xs:=x.xs.map loose} else lk s.o M:=fun M=>by
  rw[nT (by rw[h];rfl)];rfl
 have hlo: ∀p,bV {x with xs:=x.xs.map loose} p=bV x p:=fun p=>nE (x:= {x with xs:=x.xs.map loose}) (y:=x) rfl (by simp) rfl p
 have hloc:aE (dV L {x with xs:=x.xs.map loose} s.o) μ=aE s.o μ:=by
  funext M
  simp only[aE,hg]
  by_cases hM:L=M
  ·subst hM;rw[if_pos rfl,h];simp only[Option.map_some,hlo]
  ·rw[if_neg hM]
 have hlk: ∀{M y},lk (dV L {x with xs:=x.xs.map loose} s.o) M=some y-> ∃z,lk s.o M=some z/\z.fz=y.fz/\z.pin=y.pin/\z.arr=y.arr/\(∀p,bV y p=bV z p)/\((L=M/\z=x/\y= {x with xs:=x.xs.map loose})\/z=y):=fun {M y} hy=>by
  rw[hg]at hy
  by_cases hM:L=M
  ·subst hM
   rw[if_pos rfl]at hy
   obtain rfl:=Option.some.inj hy
   exact⟨x,h,rfl,rfl,rfl,hlo,.inl ⟨rfl,rfl,rfl⟩⟩
  ·rw[if_neg hM]at hy
   exact⟨y,hy,rfl,rfl,rfl,fun _=>rfl,.inr rfl⟩
 refine⟨F,μ,⟨hs.sw.facts,hs.sw.sub,hs.sw.lentc,hs.sw.grow,hs.sw.newf,hs.sw.fr,fun M y hy=>?_,fun M y M' y' b c c' hy hy'=>?_,fun M y b c hy hm hz=>?_,fun M y b c hy=>?_,fun M y x0 h0 hy hp=>?_⟩,hs.defers,hs.n,fun i y hy=>by rw[hloc];exact hs.slot i y hy⟩
 ·obtain⟨z,h1,h2,h3,h4,h5,hcase⟩:=hlk hy
  have ho:=hs.sw.obj M z h1
  rw[hloc]
  rcases hcase with⟨rfl,rfl,rfl⟩|rfl
  ·cases hm:μ L with
   |none=>
    rw[hm]at ho
    have h0:z.xs= []:=ho
    show z.xs.map loose= []
    rw[h0];rfl
   |some p=>
    obtain⟨b,cap⟩:=p
    rw[hm]at ho
    obtain⟨c,e,q1,q2,q3,q4,q5,q6,q7⟩:=ObjAt.std ho hk
    refine .inl ⟨c,e,q1,q2,by simpa using q3,by simpa using q4,fun y hy=>?_,fun i y j a' hy hj=>?_,q7⟩
    ·obtain⟨y',hy',rfl⟩:=List.mem_map.1 hy
     rw[aJj,List.length_map]
     exact q5 y' hy'
    ·simp only[List.getElem?_map,Option.map_eq_some_iff]at hy
     obtain⟨y',hy',rfl⟩:=hy
     rw[aJj]at hj
     simp only[List.getElem?_map,Option.map_eq_some_iff]at hj
     obtain⟨a2,ha2,rfl⟩:=hj
     obtain⟨v,g1,g2,g3,g4⟩:=q6 i y' j a2 hy' ha2
     exact⟨v,g1,g2,g3.loose1,g4⟩
  ·exact ho
 ·obtain⟨z,h1,_⟩:=hlk hy
  obtain⟨z',h1',_⟩:=hlk hy'
  exact hs.sw.dist M z M' z' b c c' h1 h1'
 ·obtain⟨z,h1,h2,_⟩:=hlk hy
  exact hs.sw.excl M z b c h1 hm (by rw[h2];exact hz)
 ·obtain⟨z,h1,_⟩:=hlk hy
  exact hs.sw.mine M z b c h1
 ·obtain⟨z,h1,h2,h3,h4,h5,_⟩:=hlk hy
  have:=hs.sw.keep M z x0 h0 h1 (by rw[h3];exact hp)
  simp only[h5,<-h4]
  exact this
theorem Le.frz {s:ASt} (L:Nat) {x:AObj} (h:lk s.o L=some x) (hk:x.kd≠1):Le (s.frz L x) s:=fun C F μ a w hs=>by
 obtain⟨F',_,h2⟩:=hs.freeze h (.inr hk)
 exact⟨F',μ,h2⟩
theorem Le.alike {n:Nat} {t:List (Nat×AV)} {o1 o2:aF} (h: ∀M,Ab.lk o1 M=Ab.lk o2 M):Le ⟨n,t,o1⟩ ⟨n,t,o2⟩:=fun C F μ a w hs=>by
 have e:aE o1 μ=aE o2 μ:=funext fun M=>by unfold aE;rw[h M]
 exact⟨F,μ,⟨hs.sw.facts,hs.sw.sub,hs.sw.lentc,hs.sw.grow,hs.sw.newf,hs.sw.fr,fun M y hy=>by
  rw[e];exact hs.sw.obj M y ((h M).symm.trans hy),fun M y M' y' b c c' hy hy'=>hs.sw.dist M y M' y' b c c' ((h M).symm.trans hy) ((h M').symm.trans hy'),
  fun M y b c hy=>hs.sw.excl M y b c ((h M).symm.trans hy),fun M y b c hy=>hs.sw.mine M y b c ((h M).symm.trans hy),fun M y x0 h0 hy=>hs.sw.keep M y x0 h0 ((h M).symm.trans hy)⟩,hs.defers,hs.n,fun i y hy=>by rw[e];exact hs.slot i y hy⟩
theorem Le.frzP {n:Nat} {t:List (Nat×AV)} {o:aF} (L:Nat) {x:AObj} (h:Ab.lk o L=some x) (hk:x.kd≠1):Le ⟨n,t,dV L x.frz o⟩ ⟨n,t,o⟩:=by
 refine Le.trans (Le.alike (o2:=(L,x.frz)::o) fun M=>?_) (Le.frz (s:=⟨n,t,o⟩) L h hk)
 rw[nT (by rw[h];rfl)];rfl
theorem bI5 {arr fz pin:Bool} {es kd:Nat} {xs:List AV}:AObj.frz ⟨arr,fz,pin,es,xs,kd⟩=⟨arr,true,pin,es,xs,kd⟩:=rfl
attribute [go_sem] bI5
theorem bI6 {n:Nat} {t:List (Nat×AV)} {o:aF} {L:Nat} {arr fz pin:Bool} {es kd:Nat} {xs:List AV}:ASt.frz ⟨n,t,o⟩ L ⟨arr,fz,pin,es,xs,kd⟩=⟨n,t,(L,⟨arr,true,pin,es,xs,kd⟩)::o⟩:=rfl
attribute [go_sem] bI6
theorem bI7 {cs:List AV}:loose (.agg cs)= .agg (cs.map loose1):=rfl
theorem bI8 {v:Value}:loose1 (.sc v)= .sc v:=rfl
theorem bI9 {l f:Bool} {xs:List AV}:loose1 (.list l f xs)= .list l false xs:=rfl
attribute [go_sem] bI7 bI8 bI9
theorem zAny {P:Program} [Glob P] {id:Nat} {ops:Array Oper} {Q:Exit->ASt->Prop} {s:ASt} (hm:P.follows .mixedOrders=true) (h:iQ P ops (Q .normal) ops.size (Array.replicate ops.size false) s) (hs:Region.noSelect ops=true:=by decide+kernel):bW P (.region id ops true) Q s:=bIz hm hs h
theorem zDone {P:Program} [Glob P] {ops:Array Oper} {Q:ASt->Prop} {f:Nat} {X:Array Bool} {s:ASt} (h:Q s) (hr:(Region.ready .any ops X).isEmpty=true:=by decide+kernel):iQ P ops Q f X s:=bI2 hr h
theorem zAll {P:Program} [Glob P] {ops:Array Oper} {Q:ASt->Prop} {f:Nat} {X:Array Bool} {s:ASt} (h:cH P ops Q f X s ops.size) (hr:(Region.ready .any ops X).isEmpty=false:=by decide+kernel):iQ P ops Q (f+1) X s:=bI4 hr h
theorem zQu {P:Program} [Glob P] {ops:Array Oper} {Q:ASt->Prop} {f:Nat} {X:Array Bool} {s:ASt} (l:Nat) {o:Oper} {d:Nat} (ho:ops[l]?=some o) (hq:xP P o s=true) (hg:o.guard=none) (hd:o.dst=some d) (h:N0 (bA P o s) d (iQ P ops Q f (X.setIfInBounds l true)) s) (hr:(Region.ready .any ops X).contains l=true:=by decide+kernel) (hf:Region.free .any ops X l=true:=by decide+kernel):iQ P ops Q (f+1) X s:=bI1 l ho hr hf hq hg hd h
theorem zSkip {P:Program} [Glob P] {ops:Array Oper} {Q:ASt->Prop} {f:Nat} {X:Array Bool} {s:ASt} {n:Nat} (h:cH P ops Q f X s n) (hr:(Region.ready .any ops X).contains n=false:=by decide+kernel):cH P ops Q f X s (n+1):=bI3 hr h
end Go.Ab
