import Derived.Test.YtbgckcdddlmiaaaGreatDoorA9
set_option linter.all false
namespace Go.Ab
open Go
section
variable {P : Program} [Glob P] {s : ASt} {k : ASt -> Prop} {d : Nat} {ty : TypeId} {pos : String} {af : Array Edge} {g : Option (Nat × Bool)}
theorem aJk {t:TypeId} {x:Operand} {L:Nat} {pn:Bool} {xs:List AV} (hx:ev s.t x=some (.mp L)) (hg:lk s.o L=some ⟨true,false,pn,0,xs,1⟩) (ht:Y0 P t=true) (hL:L≠d) (hd:d<s.n)
 (h: ∀(bs:List Nat) (c:Nat),bs.length=xs.length->bs.Nodup->(∀b∈bs,b<c)->k (({s with o:=bR s.o L ⟨true,false,pn,0,lO xs bs c,1⟩}:ASt).renew d d d (zX L c []) (.mp d))):bS P ⟨some d,.range t x,ty,pos,af,g⟩ k s:=by
 have e:J5 P t d s (ev s.t x)=some fun k=> ∀(bs:List Nat) (c:Nat),bs.length=xs.length->bs.Nodup->(∀b∈bs,b<c)->k (({s with o:=bR s.o L ⟨true,false,pn,0,lO xs bs c,1⟩}:ASt).renew d d d (zX L c []) (.mp d)):=by
  rw[hx]
  show J4 P t d L s (lk s.o L)=_
  rw[hg]
  exact if_pos ⟨ht,rfl,rfl,rfl,rfl,hL,hd⟩
 rw[bEh e]
 exact h
theorem aJl {I L c:Nat} {nx pn:Bool} {seen:List AV}:xL s d I nx (some ⟨false,false,pn,2,.mp L::cG c::seen,1⟩)=match lk s.o L with
 |some x=>if x.kd=1/\x.es=0/\x.arr=true/\d<s.n/\0<=(c:Int)then some (if nx=true then Y1 s d I L (c:Int).toNat pn seen x.xs else Y2 s d (c:Int).toNat seen x.xs)else none
 |none=>none:=rfl
theorem bJc {x:Operand} {I L c:Nat} {pn fz pm:Bool} {js:List Nat} {xs:List AV} (hx:ev s.t x=some (.mp I)) (hg:lk s.o I=some ⟨false,false,pn,2,.mp L::cG c::js.map cG,1⟩) (hm:lk s.o L=some ⟨true,fz,pm,0,xs,1⟩) (hd:d<s.n)
 (hs: ∀y∈xs,∃kk v b,y= .tup [.sc kk,v,cG b,cG c]/\b<c)
 (h1:(∀y∈xs,∃kk v b,y= .tup [.sc kk,v,cG b,cG c]/\b∈js)->k (s.put d (.tup [bl false])))
 (h2: ∀(i:Nat) (kk:Value) (v:AV) (b:Nat),xs[i]?=some (.tup [.sc kk,v,cG b,cG c])->b∉js->k (({s with o:=bR s.o I ⟨false,false,pn,2,.mp L::cG c::(js++ [b]).map cG,1⟩}:ASt).put d (.tup [bl true,oG kk,v]))):
 bS P ⟨some d,.next x false,ty,pos,af,g⟩ k s:=by
 have e:uA s d true (ev s.t x)=some (Y1 s d I L c pn (js.map cG) xs):=by
  rw[hx]
  show xL s d I true (lk s.o I)=_
  rw[hg]
  rw[aJl,hm]
  dsimp only
  rw[if_pos ⟨rfl,rfl,rfl,hd,Int.natCast_nonneg c⟩,if_pos rfl,Int.toNat_natCast]
 rw[bEi e]
 exact⟨js,rfl,hs,h1,h2⟩
theorem bJd {x:Operand} {I L c b i:Nat} {pn fz pm:Bool} {js:List Nat} {xs:List AV} {kk:Value} {v:AV} (hx:ev s.t x=some (.mp I)) (hg:lk s.o I=some ⟨false,false,pn,2,.mp L::cG c::(js++ [b]).map cG,1⟩) (hm:lk s.o L=some ⟨true,fz,pm,0,xs,1⟩) (hd:d<s.n)
 (hi:xs[i]?=some (.tup [.sc kk,v,cG b,cG c])) (h:k (s.put d (.tup [oG kk,v]))):bS P ⟨some d,.entry x,ty,pos,af,g⟩ k s:=by
 have e:uA s d false (ev s.t x)=some (Y2 s d c ((js++ [b]).map cG) xs):=by
  rw[hx]
  show xL s d I false (lk s.o I)=_
  rw[hg]
  rw[aJl,hm]
  dsimp only
  rw[if_pos ⟨rfl,rfl,rfl,hd,Int.natCast_nonneg c⟩,if_neg (by simp),Int.toNat_natCast]
 rw[bEj e]
 exact⟨js,b,i,kk,v,rfl,hi,h⟩
section
variable {α : Type} {kv : α -> Value} {w : α -> AV}
abbrev qY (kv:α->Value) (w:α->AV) (q:α):AV:= .tup [.sc (kv q),w q]
def uH (bs is:List Nat):List Nat:=is.map fun i=>bs.getD i 0
theorem aJm {bs is:List Nat} {i:Nat}:uH bs (is++ [i])=uH bs is++ [bs.getD i 0]:=by simp[uH]
abbrev gN (L c:Nat) (pn:Bool) (bs is:List Nat):AObj:=⟨false,false,pn,2,.mp L::cG c::(uH bs is).map cG,1⟩
theorem N1 {ks:List α} {bs:List Nat} {c i:Nat} (hb:bs.length=ks.length) (hi:i<ks.length):(lO (ks.map (qY kv w)) bs c)[i]?=some (.tup [.sc (kv ks[i]),w ks[i],cG (bs.getD i 0),cG c]):=by
 simp only[lO,List.getElem?_zipWith,List.getElem?_map,List.getElem?_eq_getElem hi,Option.map_some,List.getElem?_eq_getElem (show i<bs.length by omega),List.getD_eq_getElem?_getD,Option.getD_some,X9]
theorem bJe {ks:List α} {bs:List Nat} {c:Nat} (hb:bs.length=ks.length) {y:AV} (hy:y∈lO (ks.map (qY kv w)) bs c): ∃(i:Nat) (hi:i<ks.length),y= .tup [.sc (kv ks[i]),w ks[i],cG (bs.getD i 0),cG c]:=by
 obtain⟨i,hi⟩:=List.mem_iff_getElem?.1 hy
 have hil:i<ks.length:=by
  have:=(List.getElem?_eq_some_iff.1 hi).1
  simp[lO]at this;omega
 rw[N1 hb hil]at hi
 exact⟨i,hil,(Option.some.inj hi).symm⟩
theorem aJn {x:Operand} {I L c:Nat} {pn fz pm:Bool} {ks:List α} {bs is:List Nat} (hx:ev s.t x=some (.mp I)) (hg:lk s.o I=some (gN L c pn bs is)) (hm:lk s.o L=some ⟨true,fz,pm,0,lO (ks.map (qY kv w)) bs c,1⟩) (hd:d<s.n)
 (hb:bs.length=ks.length) (hbn:bs.Nodup) (hbc: ∀b∈bs,b<c) (hil: ∀i∈is,i<ks.length)
 (h1:(∀i,i<ks.length->i∈is)->k (s.put d (.tup [bl false])))
 (h2: ∀(i:Nat) (hi:i<ks.length),i∉is->k (({s with o:=bR s.o I (gN L c pn bs (is++ [i]))}:ASt).put d (.tup [bl true,oG (kv ks[i]),w ks[i]]))):
 bS P ⟨some d,.next x false,ty,pos,af,g⟩ k s:=by
 have hgd: ∀i,i<ks.length->bs.getD i 0∈bs:=fun i hi=>by
  rw[List.getD_eq_getElem?_getD,List.getElem?_eq_getElem (by omega)];exact List.getElem_mem _
 have hinj: ∀i j,i<ks.length->j<ks.length->bs.getD i 0=bs.getD j 0->i=j:=fun i j hi hj e=>by
  rw[List.getD_eq_getElem?_getD,List.getElem?_eq_getElem (by omega),List.getD_eq_getElem?_getD,List.getElem?_eq_getElem (by omega)]at e
  exact(List.getElem_inj hbn).1 e
 have hmem: ∀i,i<ks.length->(bs.getD i 0∈uH bs is↔i∈is):=fun i hi=>by
  unfold uH
  rw[List.mem_map]
  constructor
  ·rintro⟨j,hj,e⟩
   rw[<-hinj j i (hil j hj) hi e];exact hj
  ·exact fun h=>⟨i,h,rfl⟩
 refine bJc hx hg hm hd (fun y hy=>?_) (fun hall=>h1 fun i hi=>?_) fun i kk v b hy hnb=>?_
 ·obtain⟨i,hi,rfl⟩:=bJe hb hy
  exact⟨_,_,_,rfl,hbc _ (hgd i hi)⟩
 ·obtain⟨kk,v,b,e,hbj⟩:=hall _ (List.mem_of_getElem? (N1 hb hi))
  simp only[AV.tup.injEq,List.cons.injEq,AV.sc.injEq,Value.int.injEq,true_and,and_true]at e
  obtain⟨_,_,e⟩:=e
  have e:bs.getD i 0=b:=by omega
  rw[<-e]at hbj
  exact(hmem i hi).1 hbj
 ·have hi:i<ks.length:=by
   have:=(List.getElem?_eq_some_iff.1 hy).1
   simp[lO]at this;omega
  rw[N1 hb hi]at hy
  simp only[Option.some.injEq,AV.tup.injEq,List.cons.injEq,AV.sc.injEq,Value.int.injEq,true_and,and_true]at hy
  obtain⟨rfl,rfl,e⟩:=hy
  have e:bs.getD i 0=b:=by omega
  subst e
  have:=h2 i hi (fun h=>hnb ((hmem i hi).2 h))
  rw[gN,aJm]at this
  exact this
theorem aJo {x:Operand} {I L c i:Nat} {pn fz pm:Bool} {ks:List α} {bs is:List Nat} (hx:ev s.t x=some (.mp I)) (hg:lk s.o I=some (gN L c pn bs (is++ [i]))) (hm:lk s.o L=some ⟨true,fz,pm,0,lO (ks.map (qY kv w)) bs c,1⟩) (hd:d<s.n)
 (hb:bs.length=ks.length) (hi:i<ks.length) (h:k (s.put d (.tup [oG (kv ks[i]),w ks[i]]))):bS P ⟨some d,.entry x,ty,pos,af,g⟩ k s:=by
 rw[gN,aJm]at hg
 exact bJd hx hg hm hd (N1 hb hi) h
end
end
theorem aJp {p:Nat->Bool}: ∀{l:List Nat},AV.labsL p (l.map cG)=true
 | []=>rfl
 |b::l=>by simp[AV.labsL,AV.labs,aJp]
theorem bJf {L M:Nat}:(AV.mp M).has L=(L==M):=rfl
theorem aJq {o:aF}: ∀{l:List Nat},AV.okInL o (l.map cG)=true
 | []=>by simp[AV.okInL]
 |b::l=>by simp[AV.okInL,AV.okIn,aJq]
theorem bJg {L:Nat} {l:List Nat}:l.map (kill1 L∘cG)=l.map cG:=List.map_congr_left fun b _=>L3
theorem bJh {σ:Nat->Nat} {l:List Nat}:l.map (AV.ren σ∘cG)=l.map cG:=List.map_congr_left fun b _=>rfl
attribute [go_sem] bJg bJh bJf aJq aJp
section
open Go.RowKit Go.Sort
theorem bJi {P:Program} [Glob P] {f:FuncId} {α:Type} [Inhabited α] (enc:α->Value) (hone: ∀x,one (enc x)=true) (hsc: ∀x,gD (enc x)=true) (kd:Nat) (hkd:kd≠1) (l m:List α) (hl:l≠ []) (hml:m.length=l.length)
 (hf: ∀cargs w,(callFunc f cargs).run P w= .ok (.enter f cargs) w)
 (hS: ∀(blk cap:Nat) (w:World),Holds enc w blk 0 l.toArray->blk<w.heap.size->Calls P f #[.slice (some ⟨blk,0,none⟩) l.length cap] w fun e w'=>
  e= .returned (.tuple #[])/\ ∃(n:Nat) (os:Array Obj),w'=Sort.grow (putRow enc (Sort.ahead w n) blk 0 m.toArray) os):
 MCall P f [.ref 1000 0 l.length] [(1000,bB (fun x=> .sc (enc x)) 1 kd l)] (fun r o'=>r= .tup []/\o'= [(1000,bB (fun x=> .sc (enc x)) 1 kd m)]):=by
 refine⟨hf,fun C F μ w cargs h0 h1 h2 h3 h4 hsw hlen ha=>?_⟩
 obtain⟨b,cap,hm,hbs,hcap,hH,hval⟩:=aBn hkd hl hsw
 obtain⟨v0,rfl⟩: ∃v0,cargs= #[v0]:=by
  obtain⟨cs⟩:=cargs
  rcases cs with _|⟨v0,_|⟨v1,r⟩⟩
  ·simp at hlen
  ·exact⟨v0,rfl⟩
  ·simp at hlen
 have hv0:=hval _ (ha 0 _ _ rfl rfl)
 subst hv0
 refine(hS b cap w hH hbs).mono ?_
 rintro e' w' ⟨rfl,n,os,rfl⟩
 exact⟨.tuple #[],.tup [],_,F,μ,rfl,⟨rfl,rfl⟩,by have:=aBo hone hsc hkd hsw hm m.toArray (by simpa using hml) n os;simpa using this,.tup rfl (fun i a v h=>by simp at h)⟩
end
end Go.Ab
