import Derived.Test.YtgmibdiofkmmbaaGreatDoorA14
import Derived.LaidSub
import Derived.Test.YtgmibdiofkmmbaaGreatDoorS10
set_option linter.all false
open Go.Proofs.Tryz
namespace Go.Proofs.YtgmibdiofkmmbaaGreatDoor
open Go.Ab
instance globR:Glob prog:=⟨fun g=>if g=0 then some (.iptr false [.agg wZ] 0 0)else none⟩
instance kwgR:KwG:=⟨rfl⟩
open Go.RowKit Go.ChangeShapes Go.WideShapes
set_option maxRecDepth 100000
theorem dNc {w:World} (l:List UInt8) (n:Int) (a b:Bool):HeldAs prog w 150 (.agg [.lit (.string l),.lit (.int .i64 n),.lit (.bool a),.lit (.bool b)]) (.agg [.sc (.string ⟨l.toArray⟩),nt .i64 n,bl a,bl b]):=
 HeldAs.struct (N:=4) (avs:= [.sc (.string ⟨l.toArray⟩),nt .i64 n,bl a,bl b]) underlying150 (by kernel_rfl)
  ⟨rfl,HeldAs.string (by kernel_rfl),rfl,HeldAs.int (by kernel_rfl),rfl,HeldAs.bool (by kernel_rfl),rfl,HeldAs.bool (by kernel_rfl),rfl⟩
theorem dNl {w:World} (h:laidMetH prog [("gameplayer/check.keywords",Rows.laid_gameplayer_check_keywords)] w): @GlF prog globR (wF w):=by
 intro g a hg
 have hg':(if g=0 then some (AV.iptr false [.agg wZ] 0 0)else none)=some a:=hg
 split at hg'
 ·rename_i h0
  subst h0
  obtain rfl:=Option.some.inj hg'
  refine bRi (P:=prog) (laidMetH_iff.1 h).1 (nm:= "gameplayer/check.keywords") (d:=Rows.laid_gameplayer_check_keywords) (List.mem_filter.2 ⟨List.mem_singleton.2 rfl,by kernel_rfl⟩) (by kernel_rfl) (t:=178) (by kernel_rfl) ?_
  refine HeldAs.array (m:=10) (e:=150) (ce:=4) (avs:=oH.map rU) (by kernel_rfl) (by kernel_rfl) (by kernel_rfl) rfl (fun i d a hd ha=>?_)
  rcases i with _|_|_|_|_|_|_|_|_|_|i
  all_goals(first|(obtain rfl:=Option.some.inj hd;obtain rfl:=Option.some.inj ha;exact dNc _ _ _ _)|cases ha)
 ·cases hg'
theorem dNd:reachBytes<=140737488355328:=by decide
theorem dNe {a b:Nat} (h:a<=b): ∀t:Tm,lK a t->lK b t:=by
 refine fM fun t ih ht=>?_
 obtain⟨n,ts⟩:=t
 simp only[cM]at ih
 rw[lK]at ht ⊢
 exact⟨Nat.le_trans ht.1 h,C6.2 fun u hu=>ih u hu (C6.1 ht.2 u hu)⟩
theorem dNm (A:List Tm) (r:Tm) (ha:(∀t∈A,lK reachBytes t)/\A.length<=dU) (_:lK reachBytes r):ACall prog 5 [.list false false (A.map aP),eT r] (fun v=>v=bl true):=
 dNb A r false (fun t ht=>dNe dNd t (ha.1 t ht)) (Nat.le_trans ha.2 (by decide))
end Go.Proofs.YtgmibdiofkmmbaaGreatDoor
