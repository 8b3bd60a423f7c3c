import Derived.Test.YtbgckcdddlmiaaaGreatDoorS8
import Derived.Test.YtbgckcdddlmiaaaGreatDoorA14
import Derived.LaidSub
set_option linter.all false
open Go.Proofs.Tryz
namespace Go.Proofs.YtbgckcdddlmiaaaGreatDoor
open Go.Ab
instance globV:Glob prog:=⟨fun g=>if g=1 then some (.iptr false [.agg uV] 0 0)else if g=0 then some (.iptr false [.agg wH] 0 0)else none⟩
instance kwgV:KwG:=⟨rfl⟩
instance phgV:PhG:=⟨rfl⟩
open Go.RowKit Go.ChangeShapes Go.WideShapes
set_option maxRecDepth 100000
theorem yV {w:World} (ls:List (List UInt8)) (h:ls.length<=10):HeldAs prog w 29 (.slice (ls.map fun l=> .lit (.string l)) []) (.list false true (ls.map fun l=> .sc (.string ⟨l.toArray⟩))):=by
 refine HeldAs.slice (e:=9) (by kernel_rfl) (by decide+kernel) (by simp) (by rw[List.length_map];exact Nat.le_trans h (by decide+kernel)) (fun x hx=>?_) (fun i d a hd ha=>?_)
 ·obtain⟨l,_,rfl⟩:=List.mem_map.1 hx
  show(1:Nat)=_
  kernel_rfl
 ·rw[List.getElem?_map]at hd ha
  cases hl:ls[i]? with
  |none=>rw[hl]at hd;cases hd
  |some l=>
   rw[hl]at hd ha
   obtain rfl:=Option.some.inj hd
   obtain rfl:=Option.some.inj ha
   exact HeldAs.string (by kernel_rfl)
theorem bUq {w:World} (l:List UInt8) (n:Int) (a b:Bool):HeldAs prog w 161 (.agg [.lit (.string l),.lit (.int .i64 n),.lit (.bool a),.lit (.bool b)]) (.agg [.sc (.string ⟨l.toArray⟩),nt .i64 n,bl a,bl b]):=
 HeldAs.struct (N:=4) (avs:= [.sc (.string ⟨l.toArray⟩),nt .i64 n,bl a,bl b]) underlying161 (by kernel_rfl)
  ⟨rfl,HeldAs.string (by kernel_rfl),rfl,HeldAs.int (by kernel_rfl),rfl,HeldAs.bool (by kernel_rfl),rfl,HeldAs.bool (by kernel_rfl),rfl⟩
theorem bUy {w:World} (h:laidMetH prog Rows.mutateValidsRow.laid w): @GlF prog globV (wF w):=by
 intro g a hg
 have hg':(if g=1 then some (AV.iptr false [.agg uV] 0 0)else if g=0 then some (AV.iptr false [.agg wH] 0 0)else none)=some a:=hg
 split at hg'
 ·rename_i h0
  subst h0
  obtain rfl:=Option.some.inj hg'
  have hx:Rows.laid_gameplayer_check_keywords=(Rows.mutateValidsRow.laid[3]'(by decide)).2:=rfl
  refine aKf (P:=prog) (laidMetH_iff.1 h).1 (nm:=(Rows.mutateValidsRow.laid[3]'(by decide)).1) (d:=(Rows.mutateValidsRow.laid[3]'(by decide)).2) (List.mem_filter.2 ⟨List.getElem_mem _,by kernel_rfl⟩) (by kernel_rfl) (t:=195) (by kernel_rfl) ?_
  rw[<-hx]
  refine HeldAs.array (m:=10) (e:=161) (ce:=4) (avs:=mU.map qE) (by kernel_rfl) (by kernel_rfl) (by kernel_rfl) rfl (fun i d a hd ha=>?_)
  rcases i with _|_|_|_|_|_|_|_|_|_|i
  all_goals(first|(obtain rfl:=Option.some.inj hd;obtain rfl:=Option.some.inj ha;exact bUq _ _ _ _)|cases ha)
 ·split at hg'
  ·rename_i h0
   subst h0
   obtain rfl:=Option.some.inj hg'
   have hx:Rows.laid_gameplayer_mutate_phrases=(Rows.mutateValidsRow.laid[4]'(by decide)).2:=rfl
   refine aKf (P:=prog) (laidMetH_iff.1 h).1 (nm:=(Rows.mutateValidsRow.laid[4]'(by decide)).1) (d:=(Rows.mutateValidsRow.laid[4]'(by decide)).2) (List.mem_filter.2 ⟨List.getElem_mem _,by kernel_rfl⟩) (by kernel_rfl) (t:=68) (by kernel_rfl) ?_
   rw[<-hx]
   refine HeldAs.array (m:=6) (e:=29) (ce:=1) (avs:=wH) (by kernel_rfl) (by kernel_rfl) (by kernel_rfl) rfl (fun i d a hd ha=>?_)
   rcases i with _|_|_|_|_|_|i
   ·obtain rfl:=Option.some.inj hd;obtain rfl:=Option.some.inj ha
    exact yV [] (by decide)
   ·obtain rfl:=Option.some.inj hd;obtain rfl:=Option.some.inj ha
    exact yV [_,_] (by decide)
   ·obtain rfl:=Option.some.inj hd;obtain rfl:=Option.some.inj ha
    exact yV [_,_,_,_] (by decide)
   ·obtain rfl:=Option.some.inj hd;obtain rfl:=Option.some.inj ha
    exact yV [_,_,_,_] (by decide)
   ·obtain rfl:=Option.some.inj hd;obtain rfl:=Option.some.inj ha
    exact yV [_,_,_,_] (by decide)
   ·obtain rfl:=Option.some.inj hd;obtain rfl:=Option.some.inj ha
    exact yV [_,_,_,_] (by decide)
   ·cases ha
  ·cases hg'
end Go.Proofs.YtbgckcdddlmiaaaGreatDoor
