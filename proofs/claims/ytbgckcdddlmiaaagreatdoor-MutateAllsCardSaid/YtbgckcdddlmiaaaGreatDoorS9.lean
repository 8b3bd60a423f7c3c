import Derived.Test.YtbgckcdddlmiaaaGreatDoorS5
import Derived.Test.YtbgckcdddlmiaaaGreatDoorA14
import Derived.LaidSub
set_option linter.unusedSimpArgs false
set_option linter.unusedVariables false
open Go.Proofs.Tryz
namespace Go.Proofs.YtbgckcdddlmiaaaGreatDoor
open Go.Ab
instance globM:Glob prog:=⟨fun g=>if g=0 then some (.iptr false [.agg tG] 0 0)else none⟩
instance phgM:PhG:=⟨rfl⟩
open Go.RowKit Go.ChangeShapes Go.WideShapes
set_option maxRecDepth 100000
theorem vH {w:World} (ls:List (List UInt8)) (h:ls.length<=10):HeldAs prog w 29 (.slice (ls.map fun l=> .lit (.string l)) []) (.list false true (ls.map fun l=> .sc (.string ⟨l.toArray⟩))):=by
 refine HeldAs.slice (e:=9) (by kernel_rfl) (by decide+kernel) (by simp) (by rw[List.length_map];exact Nat.le_trans h (by decide+kernel)) (fun x hx=>?_) (fun i d a hd ha=>?_)
 ·obtain⟨l,_,rfl⟩:=List.mem_map.1 hx
  show(1:Nat)=_
  kernel_rfl
 ·rw[List.getElem?_map]at hd ha
  cases hl:ls[i]? with
  |none=>rw[hl]at hd;cases hd
  |some l=>
   rw[hl]at hd ha
   obtain rfl:=Option.some.inj hd
   obtain rfl:=Option.some.inj ha
   exact HeldAs.string (by kernel_rfl)
theorem bOf {w:World} (h:laidMetH prog Rows.mutateAllsRow.laid w): @GlF prog globM (wF w):=by
 intro g a hg
 have hg':(if g=0 then some (AV.iptr false [.agg tG] 0 0)else none)=some a:=hg
 split at hg'
 ·rename_i h0
  subst h0
  obtain rfl:=Option.some.inj hg'
  have hx:Rows.laid_gameplayer_mutate_phrases=(Rows.mutateAllsRow.laid[3]'(by decide)).2:=rfl
  refine bFf (P:=prog) (laidMetH_iff.1 h).1 (nm:=(Rows.mutateAllsRow.laid[3]'(by decide)).1) (d:=(Rows.mutateAllsRow.laid[3]'(by decide)).2) (List.mem_filter.2 ⟨List.getElem_mem _,by kernel_rfl⟩) (by kernel_rfl) (t:=68) (by kernel_rfl) ?_
  rw[<-hx]
  refine HeldAs.array (m:=6) (e:=29) (ce:=1) (avs:=tG) (by kernel_rfl) (by kernel_rfl) (by kernel_rfl) rfl (fun i d a hd ha=>?_)
  rcases i with _|_|_|_|_|_|i
  ·obtain rfl:=Option.some.inj hd;obtain rfl:=Option.some.inj ha
   exact vH [] (by decide)
  ·obtain rfl:=Option.some.inj hd;obtain rfl:=Option.some.inj ha
   exact vH [_,_] (by decide)
  ·obtain rfl:=Option.some.inj hd;obtain rfl:=Option.some.inj ha
   exact vH [_,_,_,_] (by decide)
  ·obtain rfl:=Option.some.inj hd;obtain rfl:=Option.some.inj ha
   exact vH [_,_,_,_] (by decide)
  ·obtain rfl:=Option.some.inj hd;obtain rfl:=Option.some.inj ha
   exact vH [_,_,_,_] (by decide)
  ·obtain rfl:=Option.some.inj hd;obtain rfl:=Option.some.inj ha
   exact vH [_,_,_,_] (by decide)
  ·cases ha
 ·cases hg'
end Go.Proofs.YtbgckcdddlmiaaaGreatDoor
