import Derived.Test.YtbgckcdddlmiaaaDoorS1
import Derived.Test.YtbgckcdddlmiaaaDoorA14
import Derived.LaidSub
set_option linter.unusedSimpArgs false
set_option linter.unusedVariables false
open Go.Proofs.Tryd
namespace Go.Proofs.YtbgckcdddlmiaaaDoor
open Go.Ab
def tI:List AV:= [.list false true [],.list false true [.sc (.string ⟨#[100,114,111,112,32,114,117,108,101,32]⟩),.sc (.string ⟨#[82]⟩)],.list false true [.sc (.string ⟨#[100,114,111,112,32,108,105,116,101,114,97,108,32]⟩),.sc (.string ⟨#[73]⟩),.sc (.string ⟨#[32,111,102,32,114,117,108,101,32]⟩),.sc (.string ⟨#[82]⟩)],.list false true [.sc (.string ⟨#[110,101,103,97,116,101,32,108,105,116,101,114,97,108,32]⟩),.sc (.string ⟨#[73]⟩),.sc (.string ⟨#[32,111,102,32,114,117,108,101,32]⟩),.sc (.string ⟨#[82]⟩)],.list false true [.sc (.string ⟨#[114,101,112,108,97,99,101,32,99,111,110,115,116,97,110,116,32]⟩),.sc (.string ⟨#[73]⟩),.sc (.string ⟨#[32,111,102,32,114,117,108,101,32]⟩),.sc (.string ⟨#[82]⟩)],.list false true [.sc (.string ⟨#[115,119,97,112,32,97,114,103,117,109,101,110,116,115,32]⟩),.sc (.string ⟨#[73]⟩),.sc (.string ⟨#[32,111,102,32,114,117,108,101,32]⟩),.sc (.string ⟨#[82]⟩)]]
instance globM:Glob prog:=⟨fun g=>if g=0 then some (.iptr false [.agg tI] 0 0)else none⟩
theorem bVd:Glob.tab prog 0=some (.iptr false [.agg tI] 0 0):=rfl
attribute [go_sem] bVd
open Go.RowKit Go.ChangeShapes Go.WideShapes
set_option maxRecDepth 100000
theorem tK {w:World} (ls:List (List UInt8)) (h:ls.length≤10):HeldAs prog w 47 (.slice (ls.map fun l=> .lit (.string l)) []) (.list false true (ls.map fun l=> .sc (.string ⟨l.toArray⟩))):=by
 refine HeldAs.slice (e:=9) (by kernel_rfl) (by decide+kernel) (by simp) (by rw[List.length_map];exact Nat.le_trans h (by decide+kernel)) (fun x hx=>?_) (fun i d a hd ha=>?_)
 ·obtain⟨l,_,rfl⟩:=List.mem_map.1 hx
  show(1:Nat)=_
  kernel_rfl
 ·rw[List.getElem?_map]at hd ha
  cases hl:ls[i]? with
  |none=>rw[hl]at hd;cases hd
  |some l=>
   rw[hl]at hd ha
   obtain rfl:=Option.some.inj hd
   obtain rfl:=Option.some.inj ha
   exact HeldAs.string (by kernel_rfl)
theorem cAb {w:World} (h:laidMetH prog Rows.mutateOnceRow.laid w): @GlF prog globM (wF w):=by
 intro g a hg
 have hg':(if g=0 then some (AV.iptr false [.agg tI] 0 0)else none)=some a:=hg
 split at hg'
 ·rename_i h0
  subst h0
  obtain rfl:=Option.some.inj hg'
  have hx:Rows.laid_gameplayer_mutate_phrases=(Rows.mutateOnceRow.laid[3]'(by decide)).2:=rfl
  refine bBh (P:=prog) (laidMetH_iff.1 h).1 (nm:=(Rows.mutateOnceRow.laid[3]'(by decide)).1) (d:=(Rows.mutateOnceRow.laid[3]'(by decide)).2) (List.mem_filter.2 ⟨List.getElem_mem _,by kernel_rfl⟩) (by kernel_rfl) (t:=73) (by kernel_rfl) ?_
  rw[←hx]
  refine HeldAs.array (m:=6) (e:=47) (ce:=1) (avs:=tI) (by kernel_rfl) (by kernel_rfl) (by kernel_rfl) rfl (fun i d a hd ha=>?_)
  rcases i with _|_|_|_|_|_|i
  ·obtain rfl:=Option.some.inj hd;obtain rfl:=Option.some.inj ha
   exact tK [] (by decide)
  ·obtain rfl:=Option.some.inj hd;obtain rfl:=Option.some.inj ha
   exact tK [_,_] (by decide)
  ·obtain rfl:=Option.some.inj hd;obtain rfl:=Option.some.inj ha
   exact tK [_,_,_,_] (by decide)
  ·obtain rfl:=Option.some.inj hd;obtain rfl:=Option.some.inj ha
   exact tK [_,_,_,_] (by decide)
  ·obtain rfl:=Option.some.inj hd;obtain rfl:=Option.some.inj ha
   exact tK [_,_,_,_] (by decide)
  ·obtain rfl:=Option.some.inj hd;obtain rfl:=Option.some.inj ha
   exact tK [_,_,_,_] (by decide)
  ·cases ha
 ·cases hg'
end Go.Proofs.YtbgckcdddlmiaaaDoor
