import Derived.Test.YtbgckcdddlmiaaaGreatDoorA15
set_option linter.all false
namespace Go.Ab
open Go
theorem Le.rmap {s:ASt} (L:Nat) (h:lk s.o L=some ⟨true,false,false,0,[],1⟩):Le {n:=s.n,t:=s.t,o:=dV L ⟨false,false,false,0,[],1⟩ s.o} s:=by
 intro C F μ a w hs
 have hlk: ∀M y,lk (dV L ⟨false,false,false,0,[],1⟩ s.o) M=some y->(L=M/\y=⟨false,false,false,0,[],1⟩)\/(L≠M/\lk s.o M=some y):=fun M y hy=>by
  rw[nT (by rw[h];rfl)]at hy
  simp only[bR,lk]at hy
  by_cases hM:L=M
  ·rw[if_pos hM]at hy
   exact .inl ⟨hM,(Option.some.inj hy).symm⟩
  ·rw[if_neg hM]at hy
   exact .inr ⟨hM,hy⟩
 have hex: ∀M y,lk (dV L ⟨false,false,false,0,[],1⟩ s.o) M=some y-> ∃z,lk s.o M=some z/\z.fz=y.fz/\(y.pin=true->z=y):=fun M y hy=>by
  rcases hlk M y hy with⟨rfl,rfl⟩|⟨_,hy⟩
  ·exact⟨_,h,rfl,fun hp=>by cases hp⟩
  ·exact⟨y,hy,rfl,fun _=>rfl⟩
 have hloc:aE (dV L ⟨false,false,false,0,[],1⟩ s.o) μ=aE s.o μ:=by
  funext M
  simp only[aE,nT (o:=s.o) (L:=L) (x:=⟨false,false,false,0,[],1⟩) (i:=M) (by rw[h];rfl),bR,lk]
  by_cases hM:L=M
  ·subst hM;rw[if_pos rfl,h];rfl
  ·rw[if_neg hM]
 refine⟨F,μ,⟨hs.sw.facts,hs.sw.sub,hs.sw.lentc,hs.sw.grow,hs.sw.newf,hs.sw.fr,fun M y hy=>?_,fun M y M' y' b c c' hy hy'=>?_,fun M y b c hy hm hz=>?_,fun M y b c hy=>?_,fun M y x0 h0 hy hp=>?_⟩,hs.defers,hs.n,fun i y hy=>by rw[hloc];exact hs.slot i y hy⟩
 ·rw[hloc]
  rcases hlk M y hy with⟨rfl,rfl⟩|⟨_,hy⟩
  ·have ho:=hs.sw.obj L _ h
   cases hm:μ L with
   |none=>rfl
   |some p=>
    obtain⟨b,cap⟩:=p
    rw[hm]at ho
    have ho':ObjAt F (aE s.o μ) w ⟨true,false,false,0,[],1⟩ b cap:=ho
    obtain⟨_,_,hl,es,clock,hb,⟨hsz,hB⟩,_⟩:=ho'.map rfl rfl
    exact .inr (.inr ⟨rfl,rfl,.map es clock,hb,by simp,hsz,hB,fun i e y he hy=>by simp at hy⟩)
  ·exact hs.sw.obj M y hy
 ·obtain⟨z,h1,_⟩:=hex M y hy
  obtain⟨z',h1',_⟩:=hex M' y' hy'
  exact hs.sw.dist M z M' z' b c c' h1 h1'
 ·obtain⟨z,h1,h3,_⟩:=hex M y hy
  exact hs.sw.excl M z b c h1 hm (by rw[h3];exact hz)
 ·obtain⟨z,h1,_⟩:=hex M y hy
  exact hs.sw.mine M z b c h1
 ·obtain⟨z,h1,_,h7⟩:=hex M y hy
  obtain rfl:=h7 hp
  exact hs.sw.keep M z x0 h0 h1 hp
end Go.Ab
