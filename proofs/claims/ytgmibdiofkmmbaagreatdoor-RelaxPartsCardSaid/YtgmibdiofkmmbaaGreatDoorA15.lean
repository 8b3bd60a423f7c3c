import Derived.Test.YtgmibdiofkmmbaaGreatDoorA9
set_option linter.all false
namespace Go.Ab
open Go
section
variable {P : Program} [Glob P] {s : ASt} {k : ASt -> Prop} {d : Nat} {ty : TypeId} {pos : String} {af : Array Edge} {g : Option (Nat × Bool)}
theorem aMk {t:TypeId} {x:Operand} {L:Nat} {pn:Bool} {xs:List AV} (hx:ev s.t x=some (.mp L)) (hg:lk s.o L=some ⟨true,false,pn,0,xs,1⟩) (ht:aCg P t=true) (hL:L≠d) (hd:d<s.n)
 (h: ∀(bs:List Nat) (c:Nat),bs.length=xs.length->bs.Nodup->(∀b∈bs,b<c)->k (({s with o:=cL s.o L ⟨true,false,pn,0,nF xs bs c,1⟩}:ASt).renew d d d (H0 L c []) (.mp d))):cG P ⟨some d,.range t x,ty,pos,af,g⟩ k s:=by
 have e:R1 P t d s (ev s.t x)=some fun k=> ∀(bs:List Nat) (c:Nat),bs.length=xs.length->bs.Nodup->(∀b∈bs,b<c)->k (({s with o:=cL s.o L ⟨true,false,pn,0,nF xs bs c,1⟩}:ASt).renew d d d (H0 L c []) (.mp d)):=by
  rw[hx]
  show R0 P t d L s (lk s.o L)=_
  rw[hg]
  exact if_pos ⟨ht,rfl,rfl,rfl,rfl,hL,hd⟩
 rw[bKt e]
 exact h
theorem aMl {I L c:Nat} {nx pn:Bool} {seen:List AV}:zO s d I nx (some ⟨false,false,pn,2,.mp L::cX c::seen,1⟩)=match lk s.o L with
 |some x=>if x.kd=1/\x.es=0/\x.arr=true/\d<s.n/\0<=(c:Int)then some (if nx=true then aCh s d I L (c:Int).toNat pn seen x.xs else aCi s d (c:Int).toNat seen x.xs)else none
 |none=>none:=rfl
theorem bQ1 {x:Operand} {I L c:Nat} {pn fz pm:Bool} {js:List Nat} {xs:List AV} (hx:ev s.t x=some (.mp I)) (hg:lk s.o I=some ⟨false,false,pn,2,.mp L::cX c::js.map cX,1⟩) (hm:lk s.o L=some ⟨true,fz,pm,0,xs,1⟩) (hd:d<s.n)
 (hs: ∀y∈xs,∃kk v b,y= .tup [.sc kk,v,cX b,cX c]/\b<c)
 (h1:(∀y∈xs,∃kk v b,y= .tup [.sc kk,v,cX b,cX c]/\b∈js)->k (s.put d (.tup [bl false])))
 (h2: ∀(i:Nat) (kk:Value) (v:AV) (b:Nat),xs[i]?=some (.tup [.sc kk,v,cX b,cX c])->b∉js->k (({s with o:=cL s.o I ⟨false,false,pn,2,.mp L::cX c::(js++ [b]).map cX,1⟩}:ASt).put d (.tup [bl true,qC kk,v]))):
 cG P ⟨some d,.next x false,ty,pos,af,g⟩ k s:=by
 have e:vY s d true (ev s.t x)=some (aCh s d I L c pn (js.map cX) xs):=by
  rw[hx]
  show zO s d I true (lk s.o I)=_
  rw[hg]
  rw[aMl,hm]
  dsimp only
  rw[if_pos ⟨rfl,rfl,rfl,hd,Int.natCast_nonneg c⟩,if_pos rfl,Int.toNat_natCast]
 rw[bKu e]
 exact⟨js,rfl,hs,h1,h2⟩
theorem bQ2 {x:Operand} {I L c b i:Nat} {pn fz pm:Bool} {js:List Nat} {xs:List AV} {kk:Value} {v:AV} (hx:ev s.t x=some (.mp I)) (hg:lk s.o I=some ⟨false,false,pn,2,.mp L::cX c::(js++ [b]).map cX,1⟩) (hm:lk s.o L=some ⟨true,fz,pm,0,xs,1⟩) (hd:d<s.n)
 (hi:xs[i]?=some (.tup [.sc kk,v,cX b,cX c])) (h:k (s.put d (.tup [qC kk,v]))):cG P ⟨some d,.entry x,ty,pos,af,g⟩ k s:=by
 have e:vY s d false (ev s.t x)=some (aCi s d c ((js++ [b]).map cX) xs):=by
  rw[hx]
  show zO s d I false (lk s.o I)=_
  rw[hg]
  rw[aMl,hm]
  dsimp only
  rw[if_pos ⟨rfl,rfl,rfl,hd,Int.natCast_nonneg c⟩,if_neg (by simp),Int.toNat_natCast]
 rw[bKv e]
 exact⟨js,b,i,kk,v,rfl,hi,h⟩
section
variable {α : Type} {kv : α -> Value} {w : α -> AV}
abbrev sR (kv:α->Value) (w:α->AV) (q:α):AV:= .tup [.sc (kv q),w q]
def wH (bs is:List Nat):List Nat:=is.map fun i=>bs.getD i 0
theorem aMm {bs is:List Nat} {i:Nat}:wH bs (is++ [i])=wH bs is++ [bs.getD i 0]:=by simp[wH]
abbrev iY (L c:Nat) (pn:Bool) (bs is:List Nat):AObj:=⟨false,false,pn,2,.mp L::cX c::(wH bs is).map cX,1⟩
theorem V5 {ks:List α} {bs:List Nat} {c i:Nat} (hb:bs.length=ks.length) (hi:i<ks.length):(nF (ks.map (sR kv w)) bs c)[i]?=some (.tup [.sc (kv ks[i]),w ks[i],cX (bs.getD i 0),cX c]):=by
 simp only[nF,List.getElem?_zipWith,List.getElem?_map,List.getElem?_eq_getElem hi,Option.map_some,List.getElem?_eq_getElem (show i<bs.length by omega),List.getD_eq_getElem?_getD,Option.getD_some,aCf]
theorem bQ3 {ks:List α} {bs:List Nat} {c:Nat} (hb:bs.length=ks.length) {y:AV} (hy:y∈nF (ks.map (sR kv w)) bs c): ∃(i:Nat) (hi:i<ks.length),y= .tup [.sc (kv ks[i]),w ks[i],cX (bs.getD i 0),cX c]:=by
 obtain⟨i,hi⟩:=List.mem_iff_getElem?.1 hy
 have hil:i<ks.length:=by
  have:=(List.getElem?_eq_some_iff.1 hi).1
  simp[nF]at this;omega
 rw[V5 hb hil]at hi
 exact⟨i,hil,(Option.some.inj hi).symm⟩
theorem aMn {x:Operand} {I L c:Nat} {pn fz pm:Bool} {ks:List α} {bs is:List Nat} (hx:ev s.t x=some (.mp I)) (hg:lk s.o I=some (iY L c pn bs is)) (hm:lk s.o L=some ⟨true,fz,pm,0,nF (ks.map (sR kv w)) bs c,1⟩) (hd:d<s.n)
 (hb:bs.length=ks.length) (hbn:bs.Nodup) (hbc: ∀b∈bs,b<c) (hil: ∀i∈is,i<ks.length)
 (h1:(∀i,i<ks.length->i∈is)->k (s.put d (.tup [bl false])))
 (h2: ∀(i:Nat) (hi:i<ks.length),i∉is->k (({s with o:=cL s.o I (iY L c pn bs (is++ [i]))}:ASt).put d (.tup [bl true,qC (kv ks[i]),w ks[i]]))):
 cG P ⟨some d,.next x false,ty,pos,af,g⟩ k s:=by
 have hgd: ∀i,i<ks.length->bs.getD i 0∈bs:=fun i hi=>by
  rw[List.getD_eq_getElem?_getD,List.getElem?_eq_getElem (by omega)];exact List.getElem_mem _
 have hinj: ∀i j,i<ks.length->j<ks.length->bs.getD i 0=bs.getD j 0->i=j:=fun i j hi hj e=>by
  rw[List.getD_eq_getElem?_getD,List.getElem?_eq_getElem (by omega),List.getD_eq_getElem?_getD,List.getElem?_eq_getElem (by omega)]at e
  exact(List.getElem_inj hbn).1 e
 have hmem: ∀i,i<ks.length->(bs.getD i 0∈wH bs is↔i∈is):=fun i hi=>by
  unfold wH
  rw[List.mem_map]
  constructor
  ·rintro⟨j,hj,e⟩
   rw[<-hinj j i (hil j hj) hi e];exact hj
  ·exact fun h=>⟨i,h,rfl⟩
 refine bQ1 hx hg hm hd (fun y hy=>?_) (fun hall=>h1 fun i hi=>?_) fun i kk v b hy hnb=>?_
 ·obtain⟨i,hi,rfl⟩:=bQ3 hb hy
  exact⟨_,_,_,rfl,hbc _ (hgd i hi)⟩
 ·obtain⟨kk,v,b,e,hbj⟩:=hall _ (List.mem_of_getElem? (V5 hb hi))
  simp only[AV.tup.injEq,List.cons.injEq,AV.sc.injEq,Value.int.injEq,true_and,and_true]at e
  obtain⟨_,_,e⟩:=e
  have e:bs.getD i 0=b:=by omega
  rw[<-e]at hbj
  exact(hmem i hi).1 hbj
 ·have hi:i<ks.length:=by
   have:=(List.getElem?_eq_some_iff.1 hy).1
   simp[nF]at this;omega
  rw[V5 hb hi]at hy
  simp only[Option.some.injEq,AV.tup.injEq,List.cons.injEq,AV.sc.injEq,Value.int.injEq,true_and,and_true]at hy
  obtain⟨rfl,rfl,e⟩:=hy
  have e:bs.getD i 0=b:=by omega
  subst e
  have:=h2 i hi (fun h=>hnb ((hmem i hi).2 h))
  rw[iY,aMm]at this
  exact this
theorem aMo {x:Operand} {I L c i:Nat} {pn fz pm:Bool} {ks:List α} {bs is:List Nat} (hx:ev s.t x=some (.mp I)) (hg:lk s.o I=some (iY L c pn bs (is++ [i]))) (hm:lk s.o L=some ⟨true,fz,pm,0,nF (ks.map (sR kv w)) bs c,1⟩) (hd:d<s.n)
 (hb:bs.length=ks.length) (hi:i<ks.length) (h:k (s.put d (.tup [qC (kv ks[i]),w ks[i]]))):cG P ⟨some d,.entry x,ty,pos,af,g⟩ k s:=by
 rw[iY,aMm]at hg
 exact bQ2 hx hg hm hd (V5 hb hi) h
end
end
theorem aMq {p:Nat->Bool}: ∀{l:List Nat},AV.labsL p (l.map cX)=true
 | []=>rfl
 |b::l=>by simp[AV.labsL,AV.labs,aMq]
theorem bQ6 {L M:Nat}:(AV.mp M).has L=(L==M):=rfl
theorem aMr {o:aK}: ∀{l:List Nat},AV.okInL o (l.map cX)=true
 | []=>by simp[AV.okInL]
 |b::l=>by simp[AV.okInL,AV.okIn,aMr]
theorem bQ7 {L:Nat} {l:List Nat}:l.map (kill1 L∘cX)=l.map cX:=List.map_congr_left fun b _=>zS
theorem bQ8 {σ:Nat->Nat} {l:List Nat}:l.map (AV.ren σ∘cX)=l.map cX:=List.map_congr_left fun b _=>rfl
attribute [go_sem] bQ7 bQ8 bQ6 aMr aMq
section
open Go.RowKit Go.Sort
theorem bQ9 {P:Program} [Glob P] {f:FuncId} {α:Type} [Inhabited α] (enc:α->Value) (hone: ∀x,one (enc x)=true) (hsc: ∀x,jO (enc x)=true) (kd:Nat) (hkd:kd≠1) (l m:List α) (hl:l≠ []) (hml:m.length=l.length)
 (hf: ∀cargs w,(callFunc f cargs).run P w= .ok (.enter f cargs) w)
 (hS: ∀(blk cap:Nat) (w:World),Holds enc w blk 0 l.toArray->blk<w.heap.size->Calls P f #[.slice (some ⟨blk,0,none⟩) l.length cap] w fun e w'=>
  e= .returned (.tuple #[])/\ ∃(n:Nat) (os:Array Obj),w'=Sort.grow (putRow enc (Sort.ahead w n) blk 0 m.toArray) os):
 MCall P f [.ref 1000 0 l.length] [(1000,bP (fun x=> .sc (enc x)) 1 kd l)] (fun r o'=>r= .tup []/\o'= [(1000,bP (fun x=> .sc (enc x)) 1 kd m)]):=by
 refine⟨hf,fun C F μ w cargs h0 h1 h2 h3 h4 hsw hlen ha=>?_⟩
 obtain⟨b,cap,hm,hbs,hcap,hH,hval⟩:=bOv hkd hl hsw
 obtain⟨v0,rfl⟩: ∃v0,cargs= #[v0]:=by
  obtain⟨cs⟩:=cargs
  rcases cs with _|⟨v0,_|⟨v1,r⟩⟩
  ·simp at hlen
  ·exact⟨v0,rfl⟩
  ·simp at hlen
 have hv0:=hval _ (ha 0 _ _ rfl rfl)
 subst hv0
 refine(hS b cap w hH hbs).mono ?_
 rintro e' w' ⟨rfl,n,os,rfl⟩
 exact⟨.tuple #[],.tup [],_,F,μ,rfl,⟨rfl,rfl⟩,by have:=bOw hone hsc hkd hsw hm m.toArray (by simpa using hml) n os;simpa using this,.tup rfl (fun i a v h=>by simp at h)⟩
end
end Go.Ab
