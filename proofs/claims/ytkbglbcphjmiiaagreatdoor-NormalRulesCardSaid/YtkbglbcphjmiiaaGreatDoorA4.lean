import Derived.Test.YtkbglbcphjmiiaaGreatDoorA3
import Derived.ProofKit
import Derived.OpenShut
import Derived.ReadAgain
import Derived.ChangeStays
import Derived.ChangeSame
import Derived.SizedLaws
import Derived.ChangeReads
set_option linter.unusedSimpArgs false
set_option linter.unusedVariables false
namespace Go.Ab
open Go.RowKit
section
variable {P : Program} {Q : Exit → ASt → Prop} {s : ASt} {k : ASt → Prop}
theorem awp_skip:awp P .skip Q s=Q .normal s:=rfl
theorem awp_region {id:Nat} {ops:Array Oper}:awp P (.region id ops false) Q s=arun P ops ops.toList (Q .normal) s:=by simp[awp]
theorem awp_seq {a b:Code}:awp P (.seq a b) Q s=awp P a (thenQ (awp P b Q) Q) s:=rfl
def condQ (P:Program) (v:Option AV) (x y:Code) (Q:Exit→ASt→Prop) (s:ASt):Prop:=
 match v with
 |some (.sc (.bool b))=>(b=true→awp P x Q s)∧(b=false→awp P y Q s)
 |_=>False
theorem awp_cond {c:Operand} {x y:Code}:awp P (.cond c x y) Q s=condQ P (ev s.t c) x y Q s:=rfl
theorem awp_block {id:Nat} {b:Code}:awp P (.block id b) Q s=awp P b (blockQ id Q) s:=rfl
theorem awp_exit {id:Nat}:awp P (.exit id) Q s=Q (.exit id) s:=rfl
theorem awp_ret:awp P .ret Q s=Q .ret s:=rfl
theorem thenQ_normal {K:ASt→Prop}:thenQ K Q .normal s=K s:=rfl
theorem thenQ_ret {K:ASt→Prop}:thenQ K Q .ret s=Q .ret s:=rfl
theorem thenQ_exit {K:ASt→Prop} {id:Nat}:thenQ K Q (.exit id) s=Q (.exit id) s:=rfl
theorem blockQ_normal {id:Nat}:blockQ id Q .normal s=Q .normal s:=rfl
theorem blockQ_ret {id:Nat}:blockQ id Q .ret s=Q .ret s:=rfl
theorem blockQ_exit {id id':Nat}:blockQ id Q (.exit id') s=if id'=id then Q .normal s else Q (.exit id') s:=rfl
theorem condQ_true {x y:Code}:condQ P (some (.sc (.bool true))) x y Q s=awp P x Q s:=by simp[condQ]
theorem condQ_false {x y:Code}:condQ P (some (.sc (.bool false))) x y Q s=awp P y Q s:=by simp[condQ]
theorem condQ_dec {p:Prop} [Decidable p] {x y:Code} (h1:p→awp P x Q s) (h2: ¬p→awp P y Q s):condQ P (some (.sc (.bool (decide p)))) x y Q s:=
 ⟨fun h=>h1 (of_decide_eq_true h),fun h=>h2 (of_decide_eq_false h)⟩
theorem condQ_ndec {p:Prop} [Decidable p] {x y:Code} (h1: ¬p→awp P x Q s) (h2:p→awp P y Q s):condQ P (some (.sc (.bool (!decide p)))) x y Q s:=
 ⟨fun h=>h1 (by simpa using h),fun h=>h2 (by simpa using h)⟩
def endV (P:Program) (rs:List ResultVar) (fs:List Nat) (R:AV→Prop) (s:ASt):Prop:=match aret P rs fs s with
 |some r=>R r
 |none=>False
theorem end_ret {rs:List ResultVar} {R:AV→Prop} (fs:List Nat) (h:endV P rs fs R s):endQ P rs R .ret s:=by
 unfold endV at h
 split at h
 ·rename_i r hr;exact⟨fs,r,hr,h⟩
 ·exact h.elim
theorem arun_nil {ops:Array Oper}:arun P ops [] k s=k s:=rfl
theorem arun_cons {ops:Array Oper} {o:Oper} {r:List Oper}:arun P ops (o::r) k s=gK P (gval ops o.guard s) o (arun P ops r k) s:=rfl
theorem gval_none {ops:Array Oper}:gval ops none s= .run:=rfl
theorem gK_skip {o:Oper}:gK P .skip o k s=skipK o.dst k s:=rfl
theorem dgK_skip {o:Oper}:dgK P .skip o k s=dskipK o.dst k s:=rfl
theorem dalK_some {d:Nat}:dalK (some d) k s=(d<s.n∧k (s.put d .dead)):=rfl
theorem gK_run {o:Oper}:gK P .run o k s=astep P o k s:=rfl
theorem gK_tt {o:Oper}:gK P (.test true true) o k s=astep P o k s:=by simp[gK]
theorem gK_ff {o:Oper}:gK P (.test false false) o k s=astep P o k s:=by simp[gK]
theorem gK_tf {o:Oper}:gK P (.test true false) o k s=skipK o.dst k s:=by simp[gK]
theorem gK_ft {o:Oper}:gK P (.test false true) o k s=skipK o.dst k s:=by simp[gK]
theorem gK_split {b want:Bool} {o:Oper} (h1:b=true→gK P (.test true want) o k s) (h2:b=false→gK P (.test false want) o k s):gK P (.test b want) o k s:=by
 cases b
 ·exact h2 rfl
 ·exact h1 rfl
theorem gK_dec {p:Prop} [Decidable p] {want:Bool} {o:Oper} (h1:p→gK P (.test true want) o k s) (h2: ¬p→gK P (.test false want) o k s):gK P (.test (decide p) want) o k s:=
 gK_split (fun h=>h1 (of_decide_eq_true h)) (fun h=>h2 (of_decide_eq_false h))
theorem gK_ndec {p:Prop} [Decidable p] {want:Bool} {o:Oper} (h1: ¬p→gK P (.test true want) o k s) (h2:p→gK P (.test false want) o k s):gK P (.test (!decide p) want) o k s:=
 gK_split (fun h=>h1 (by simpa using h)) (fun h=>h2 (by simpa using h))
theorem skipK_some {d:Nat}:skipK (some d) k s=(d<s.n∧k (s.put d (.tup []))):=rfl
theorem stepK_v {n:Bool} {a:AV} {d:Nat}:stepK P (.v ⟨n,a⟩) (some d) k s=(n∧d<s.n∧k (s.put d a)):=rfl
theorem stepK_h {n:Bool} {s':ASt} {d:Option Nat}:stepK P (.h ⟨n,s'⟩) d k s=(n∧k s'):=by cases d<;>rfl
theorem stepK_no {d:Option Nat}:stepK P .no d k s=False:=by cases d<;>rfl
theorem stepK_call {g:FuncId} {as bs:List AV} {d:Nat} {R:AV→Prop} (fs:List Nat) (s1:ASt) (hf:freezeL fs s=some s1) (hl:lendAll s1.o as=some bs) (hc:ACall P g bs R) (hd:d<s.n) (hk: ∀r,R r→k (retS s1 d r)):
 stepK P (.c g as) (some d) k s:=⟨hd,.inl ⟨fs,s1,bs,R,hf,hl,hc,hk⟩⟩
theorem stepK_f {g:FuncId} {as:List AV} {d:Nat} (σ τ:Nat→Nat) (B:Nat) (oc:Objs) (ac:List AV) {R:AV→Objs→Prop} (hf:Fits σ τ B oc s.o) (hac:AV.labsL (isK oc) ac=true) (has:as=ac.map (AV.ren σ)) (hc:MCall P g ac oc R) (hd:d<s.n)
 (hk: ∀r o',R r o'→restOk σ τ oc o' s.o=true∧k (useS σ τ B oc s d r o')):stepK P (.c g as) (some d) k s:=⟨hd,.inr (.inr (.inr ⟨[],σ,τ,B,oc,ac,R,hf,hac,has,hc,hk⟩))⟩
theorem stepK_same {g:FuncId} {a:AV} {d:Nat} (h: ∀x w,(callFunc g #[x]).run P w= .ok (.value x) w) (hd:d<s.n) (hk:k (s.put d a)):stepK P (.c g [a]) (some d) k s:=⟨hd,.inr (.inr (.inl ⟨a,XCall.same h,hk⟩))⟩
theorem stepK_is {g:FuncId} {as bs:List AV} {d:Nat} {r:AV} (hl:lendAll s.o as=some bs) (hc:ACall P g bs (fun x=>x=r)) (hd:d<s.n) (hk:k (retS s d r)):
 stepK P (.c g as) (some d) k s:=stepK_call [] s rfl hl hc hd fun _ h=>h▸hk
theorem awp_draw {id:Nat} {ops:Array Oper} (m:Nat) (hm:P.follows .mixedOrders=true) (hok:drawOK ops m=true) (h:darun P ops m ops.toList (Q .normal) s):awp P (.region id ops true) Q s:=⟨hm,.inl ⟨m,hok,h⟩⟩
theorem darun_zero {ops:Array Oper} {l:List Oper}:darun P ops 0 l k s=allocsK P ((ops.toList.take (ops.size - l.length)).filter isAl) (arun P ops l k) s:=rfl
theorem allocsK_nil:allocsK P [] k s=k s:=rfl
theorem isAl_eq {d:Option Nat} {op:Op} {ty:TypeId} {pos af g}:isAl ⟨d,op,ty,pos,af,g⟩=match op,d,g with
 | .alloc _,some _,none=>true
 |_,_,_=>false:=rfl
theorem allocsK_cons {t:TypeId} {d:Nat} {ty:TypeId} {pos af g} {r:List Oper}:allocsK P (⟨some d,.alloc t,ty,pos,af,g⟩::r) k s=match tyZ P t with
 |some z=>z.plain=true∧d<s.n∧allocsK P r k ((s.adopt d (boxO z)).put d (.ptr d 0 0))
 |none=>False:=rfl
theorem darun_cons {ops:Array Oper} {m:Nat} {o:Oper} {r:List Oper}:darun P ops (m+1) (o::r) k s=dgK P (gval ops o.guard s) o (darun P ops m r k) s:=rfl
theorem dgK_run {o:Oper}:dgK P .run o k s=dstep P o k s:=rfl
theorem dgK_tt {o:Oper}:dgK P (.test true true) o k s=dstep P o k s:=by simp[dgK]
theorem dgK_ff {o:Oper}:dgK P (.test false false) o k s=dstep P o k s:=by simp[dgK]
theorem dgK_tf {o:Oper}:dgK P (.test true false) o k s=dskipK o.dst k s:=by simp[dgK]
theorem dgK_ft {o:Oper}:dgK P (.test false true) o k s=dskipK o.dst k s:=by simp[dgK]
theorem dgK_split {b want:Bool} {o:Oper} (h1:b=true→dgK P (.test true want) o k s) (h2:b=false→dgK P (.test false want) o k s):dgK P (.test b want) o k s:=by
 cases b
 ·exact h2 rfl
 ·exact h1 rfl
theorem dgK_dec {p:Prop} [Decidable p] {want:Bool} {o:Oper} (h1:p→dgK P (.test true want) o k s) (h2: ¬p→dgK P (.test false want) o k s):dgK P (.test (decide p) want) o k s:=
 dgK_split (fun h=>h1 (of_decide_eq_true h)) (fun h=>h2 (of_decide_eq_false h))
theorem dgK_ndec {p:Prop} [Decidable p] {want:Bool} {o:Oper} (h1: ¬p→dgK P (.test true want) o k s) (h2:p→dgK P (.test false want) o k s):dgK P (.test (!decide p) want) o k s:=
 dgK_split (fun h=>h1 (by simpa using h)) (fun h=>h2 (by simpa using h))
theorem dskipK_some {d:Nat}:dskipK (some d) k s=(d<s.n∧k (s.put d (.tup []))):=rfl
theorem dstep_eq {o:Oper}:dstep P o k s=match isAl o with
 |true=>dalK o.dst k s
 |false=>dstepK P (aop P o s) o.dst k s:=rfl
theorem dstepK_v {n:Bool} {a:AV} {d:Nat}:dstepK P (.v ⟨n,a⟩) (some d) k s=(n∧d<s.n∧k (s.put d a)):=rfl
theorem dstepK_no {d:Option Nat}:dstepK P .no d k s=False:=by cases d<;>rfl
theorem dstepK_is {g:FuncId} {as bs:List AV} {d:Nat} {r:AV} (hl:lendAll s.o as=some bs) (hc:ACall P g bs (fun x=>x=r)) (hf:flat r=true) (hd:d<s.n) (hk:k (s.put d r)):
 dstepK P (.c g as) (some d) k s:=⟨hd,bs,r,hl,hc,hf,hk⟩
theorem put_eq {n:Nat} {t:List (Nat×AV)} {o:Objs} {d:Nat} {a:AV}:ASt.put ⟨n,t,o⟩ d a=⟨n,(d,a)::t,o⟩:=rfl
theorem fresh_eq {n:Nat} {t:List (Nat×AV)} {o:Objs} {d:Nat} {x:AObj} {r:AV}:ASt.fresh ⟨n,t,o⟩ d x r=⟨n,(d,r)::killT d t,(d,x)::killO d o⟩:=rfl
theorem renew_eq {n:Nat} {t:List (Nat×AV)} {o:Objs} {L T d:Nat} {x:AObj} {r:AV}:ASt.renew ⟨n,t,o⟩ L T d x r=⟨n,(d,r)::killT L (killT T t),(T,x)::killO L (killO T (del o L))⟩:=rfl
theorem renew0_eq {n:Nat} {t:List (Nat×AV)} {o:Objs} {T:Nat} {x:AObj}:ASt.adopt ⟨n,t,o⟩ T x=⟨n,killT T (killT T t),(T,x)::killO T (killO T (del o T))⟩:=rfl
theorem lk_nil {α:Type} {i:Nat}:lk ([]:List (Nat×α)) i=none:=rfl
theorem lk_cons {α:Type} {k i:Nat} {a:α} {r:List (Nat×α)}:lk ((k,a)::r) i=if k=i then some a else lk r i:=rfl
theorem killT_nil {L:Nat}:killT L []= []:=rfl
theorem killT_cons {L i:Nat} {a:AV} {r:List (Nat×AV)}:killT L ((i,a)::r)=(i,kill1 L a)::killT L r:=rfl
theorem killO_nil {L:Nat}:killO L []= []:=rfl
theorem killO_cons {L i:Nat} {x:AObj} {r:Objs}:killO L ((i,x)::r)=(i,killX L x)::killO L r:=rfl
theorem killX_arr {kd:Nat} {L es:Nat} {fz pin:Bool} {xs:List AV}:killX L ⟨true,fz,pin,es,xs,kd⟩=⟨true,fz,pin,es,xs,kd⟩:=rfl
theorem killX_box {kd:Nat} {L es:Nat} {fz pin:Bool} {xs:List AV}:killX L ⟨false,fz,pin,es,xs,kd⟩=⟨false,fz,pin,es,xs.map (kill1 L),kd⟩:=rfl
theorem del_nil {L:Nat}:del [] L= []:=rfl
theorem del_cons {L i:Nat} {x:AObj} {r:Objs}:del ((i,x)::r) L=if i=L then del r L else(i,x)::del r L:=by
 simp only[del,List.filter_cons]
 by_cases h:i=L<;>simp[h]
theorem kl_sc {L:Nat} {v:Value}:kl L (.sc v)= .sc v:=by simp[kl,AV.has]
theorem kl_list {L:Nat} {l f:Bool} {xs:List AV}:kl L (.list l f xs)= .list l f xs:=by simp[kl,AV.has]
theorem kl_iptr {L i o:Nat} {l:Bool} {xs:List AV}:kl L (.iptr l xs i o)= .iptr l xs i o:=by simp[kl,AV.has]
theorem kl_ref {L L' a b:Nat}:kl L (.ref L' a b)=if L=L' then .dead else .ref L' a b:=by simp[kl,AV.has]
theorem kl_ptr {L L' a b:Nat}:kl L (.ptr L' a b)=if L=L' then .dead else .ptr L' a b:=by simp[kl,AV.has]
theorem kl_aref {L L' a b c d:Nat}:kl L (.aref L' a b c d)=if L=L' then .dead else .aref L' a b c d:=by simp[kl,AV.has]
theorem kl_mp {L L':Nat}:kl L (.mp L')=if L=L' then .dead else .mp L':=by simp[kl,AV.has]
theorem kill1_mp {L L':Nat}:kill1 L (.mp L')=if L=L' then .dead else .mp L':=kl_mp
theorem kl_dead {L:Nat}:kl L .dead= .dead:=by simp[kl]
theorem kl_clo {L:Nat} {g:FuncId} {cs:List AV}:kl L (.clo g cs)=if AV.hasL L cs=true then .dead else .clo g cs:=rfl
theorem kl_tup {L:Nat} {cs:List AV}:kl L (.tup cs)=if AV.hasL L cs=true then .dead else .tup cs:=rfl
theorem kill1_sc {L:Nat} {v:Value}:kill1 L (.sc v)= .sc v:=kl_sc
theorem kill1_list {L:Nat} {l f:Bool} {xs:List AV}:kill1 L (.list l f xs)= .list l f xs:=kl_list
theorem kill1_iptr {L i o:Nat} {l:Bool} {xs:List AV}:kill1 L (.iptr l xs i o)= .iptr l xs i o:=kl_iptr
theorem kill1_ref {L L' a b:Nat}:kill1 L (.ref L' a b)=if L=L' then .dead else .ref L' a b:=kl_ref
theorem kill1_ptr {L L' a b:Nat}:kill1 L (.ptr L' a b)=if L=L' then .dead else .ptr L' a b:=kl_ptr
theorem kill1_aref {L L' a b c d:Nat}:kill1 L (.aref L' a b c d)=if L=L' then .dead else .aref L' a b c d:=kl_aref
theorem kill1_dead {L:Nat}:kill1 L .dead= .dead:=kl_dead
theorem kill1_clo {L:Nat} {g:FuncId} {cs:List AV}:kill1 L (.clo g cs)=if AV.hasL L cs=true then .dead else .clo g cs:=kl_clo
theorem kill1_tup {L:Nat} {cs:List AV}:kill1 L (.tup cs)=if AV.hasL L cs=true then .dead else .tup cs:=kl_tup
theorem kill1_agg {L:Nat} {cs:List AV}:kill1 L (.agg cs)= .agg (cs.map (kl L)):=rfl
theorem ev_tmp {t:List (Nat×AV)} {i:Nat}:ev t (.tmp i)=lk t i:=rfl
theorem ev_const {t:List (Nat×AV)} {v:Value}:ev t (.const v)=cst v:=rfl
theorem ev_func {t:List (Nat×AV)} {f:FuncId}:ev t (.func f)=some (.clo f []):=rfl
theorem cst_int {k:IntKind} {n:Int}:cst (.int k n)=some (nt k n):=rfl
theorem cst_bool {b:Bool}:cst (.bool b)=some (bl b):=rfl
theorem cst_string {b:ByteArray}:cst (.string b)=some (.sc (.string b)):=rfl
theorem cst_nil:cst (.slice none 0 0)=some (.list false true []):=rfl
theorem cst_pnil:cst (.pointer none)=some (.sc (.pointer none)):=rfl
theorem cst_mnil:cst (.map none)=some (.sc (.map none)):=rfl
theorem cst_fnil:cst .nilFunc=some (.sc .nilFunc):=rfl
theorem cst_inil:cst .nilIface=some (.sc .nilIface):=rfl
theorem nt_eq {k:IntKind} {n:Int}:nt k n= .sc (.int k n):=rfl
theorem bl_eq {b:Bool}:bl b= .sc (.bool b):=rfl
theorem ofSv_some {r:Sv}:ofSv (some r)= .v r:=rfl
theorem ofSv_none:ofSv none= .no:=rfl
theorem ofSt_some {r:St}:ofSt (some r)= .h r:=rfl
theorem ofSt_none:ofSt none= .no:=rfl
section ops
variable {d : Nat} {ty : TypeId} {pos : String} {af : Array Edge} {g : Option (Nat × Bool)}
theorem aop_move {x:Operand}:aop P ⟨some d,.move x,ty,pos,af,g⟩ s=ofSv ((ev s.t x).map fun a=>⟨true,a⟩):=rfl
theorem aop_assign {x:Operand}:aop P ⟨some d,.assign x,ty,pos,af,g⟩ s=ofSv ((ev s.t x).map fun a=>⟨true,a⟩):=rfl
theorem aop_pick {c a b:Operand}:aop P ⟨some d,.pick c a b,ty,pos,af,g⟩ s=ofSv (match ev s.t c with
 |some (.sc (.bool c))=>(if c=true then ev s.t a else ev s.t b).map fun a=>⟨true,a⟩
 |_=>none):=rfl
theorem aop_load {t:TypeId} {a:Operand}:aop P ⟨some d,.load t a,ty,pos,af,g⟩ s=ofSv (match ev s.t a with
 |some p=>loadA P t p s.o
 |none=>none):=rfl
theorem aop_bin {op:BinOp} {t yt:TypeId} {x y:Operand}:aop P ⟨some d,.binOp op t x y yt,ty,pos,af,g⟩ s=ofSv (match ev s.t x,ev s.t y with
 |some a,some b=>match binA P op t a b with
  |some r=>some r
  |none=>match nilEqA P op t a y with
   |some r=>some r
   |none=>match aggEqA P op t a b with
    |some r=>some r
    |none=>openA P ⟨some d,.binOp op t x y yt,ty,pos,af,g⟩ (ev s.t)
 |_,_=>none):=rfl
theorem nilEqA_tmp {op:BinOp} {t:TypeId} {a:AV} {i:Nat}:nilEqA P op t a (.tmp i)=none:=by simp[nilEqA,nilK]
theorem nilEqA_int {op:BinOp} {t:TypeId} {a:AV} {k:IntKind} {n:Int}:nilEqA P op t a (.const (.int k n))=none:=by simp[nilEqA,nilK]
theorem nilEqA_bool {op:BinOp} {t:TypeId} {a:AV} {b:Bool}:nilEqA P op t a (.const (.bool b))=none:=by simp[nilEqA,nilK]
theorem nilEqA_str {op:BinOp} {t:TypeId} {a:AV} {b:ByteArray}:nilEqA P op t a (.const (.string b))=none:=by simp[nilEqA,nilK]
theorem nilEqA_agg {op:BinOp} {t:TypeId} {a:AV} {b:Array Value}:nilEqA P op t a (.const (.agg b))=none:=by simp[nilEqA,nilK]
attribute [go_sem] nilEqA_tmp nilEqA_int nilEqA_bool nilEqA_str nilEqA_agg
theorem aop_un {op:UnOp} {t:TypeId} {x:Operand}:aop P ⟨some d,.unOp op t x,ty,pos,af,g⟩ s=ofSv (match ev s.t x with
 |some a=>unA op a
 |none=>none):=rfl
theorem aop_conv {t u:TypeId} {x:Operand}:aop P ⟨some d,.convert t u x,ty,pos,af,g⟩ s=ofSv (match ev s.t x with
 |some a=>if(P.underlying t).isSome=true then match convA P u a with
  |some r=>some r
  |none=>openA P ⟨some d,.convert t u x,ty,pos,af,g⟩ (ev s.t)else none
 |none=>none):=rfl
theorem aop_fieldAddr {t:TypeId} {x:Operand} {f:Nat}:aop P ⟨some d,.fieldAddr t x f,ty,pos,af,g⟩ s=ofSv (match ev s.t x with
 |some p=>fieldAddrA P t f p
 |none=>none):=rfl
theorem aop_field {t:TypeId} {x:Operand} {f:Nat}:aop P ⟨some d,.field t x f,ty,pos,af,g⟩ s=ofSv (match ev s.t x with
 |some p=>fieldA P t p f
 |none=>none):=rfl
theorem aop_indexAddr {t:TypeId} {x i:Operand}:aop P ⟨some d,.indexAddr t x i,ty,pos,af,g⟩ s=ofSv (match ev s.t x,ev s.t i with
 |some a,some b=>indexAddrA P t a b s.o
 |_,_=>none):=rfl
theorem aop_index {t:TypeId} {x i:Operand}:aop P ⟨some d,.index t x i,ty,pos,af,g⟩ s=ofSv (match ev s.t x,ev s.t i with
 |some a,some b=>indexA P t a b
 |_,_=>none):=rfl
theorem aop_slice' {t:TypeId} {x:Operand} {lo hi:Option Operand}:aop P ⟨some d,.slice t x lo hi none,ty,pos,af,g⟩ s=ofSv (match ev s.t x,lo.map (ev s.t),hi.map (ev s.t)with
 |some _,some none,_=>none
 |some _,_,some none=>none
 |some a,l,h=>sliceA P t a (l.bind id) (h.bind id) s.o
 |none,_,_=>none):=rfl
theorem aop_extract {x:Operand} {i:Nat}:aop P ⟨some d,.extract x i,ty,pos,af,g⟩ s=ofSv (match ev s.t x with
 |some (.tup vs)=>(vs[i]?).map fun a=>⟨true,a⟩
 |_=>none):=rfl
theorem aop_build {t:TypeId} {parts:Array (Nat×Operand)}:aop P ⟨some d,.build t parts,ty,pos,af,g⟩ s=ofSv (buildA P t (partsA (ev s.t) parts.toList)):=rfl
theorem aop_makeFunc {f:FuncId} {first caps:Array Operand}:aop P ⟨some d,.makeFunc (.func f) first caps,ty,pos,af,g⟩ s=ofSv (if first.size=0 then(capsA (ev s.t) caps.toList).map fun cs=>⟨true,.clo f cs⟩else none):=rfl
theorem aop_nilCheck {x:Operand}:aop P ⟨some d,.nilCheck x,ty,pos,af,g⟩ s=ofSv (match ev s.t x with
 |some (.ptr L i o)=>some ⟨true,.ptr L i o⟩
 |some (.iptr l xs i o)=>some ⟨true,.iptr l xs i o⟩
 |_=>none):=rfl
theorem aop_len {xs:Array Operand} {ts:Array TypeId}:aop P ⟨some d,.call ⟨.builtin .len,xs,ts⟩,ty,pos,af,g⟩ s=ofSv (match xs.toList,ts.toList with
 | [x],[t]=>match ev s.t x with
  |some a=>lenA P t a
  |none=>none
 |_,_=>none):=rfl
theorem aop_cap {xs:Array Operand} {ts:Array TypeId}:aop P ⟨some d,.call ⟨.builtin .cap,xs,ts⟩,ty,pos,af,g⟩ s=ofSv (match xs.toList,ts.toList with
 | [x],[t]=>match ev s.t x with
  |some a=>capA P t a
  |none=>none
 |_,_=>none):=rfl
theorem aop_min {xs:Array Operand} {ts:Array TypeId}:aop P ⟨some d,.call ⟨.builtin .min,xs,ts⟩,ty,pos,af,g⟩ s=ofSv (openA P ⟨some d,.call ⟨.builtin .min,xs,ts⟩,ty,pos,af,g⟩ (ev s.t)):=rfl
theorem aop_max {xs:Array Operand} {ts:Array TypeId}:aop P ⟨some d,.call ⟨.builtin .max,xs,ts⟩,ty,pos,af,g⟩ s=ofSv (openA P ⟨some d,.call ⟨.builtin .max,xs,ts⟩,ty,pos,af,g⟩ (ev s.t)):=rfl
theorem aop_alloc {t:TypeId}:aop P ⟨some d,.alloc t,ty,pos,af,g⟩ s=ofSt (allocA P t d s):=rfl
theorem aop_box {t:TypeId} {x:Operand}:aop P ⟨some d,.box t x,ty,pos,af,g⟩ s=(match ev s.t x with
 |some a=>ofSt (boxA a d s)
 |none=> .no):=rfl
theorem aop_store {t:TypeId} {p x:Operand}:aop P ⟨none,.store t p x,ty,pos,af,g⟩ s=(match ev s.t p,ev s.t x with
 |some a,some b=>ofSt (storeA P t a b s)
 |_,_=> .no):=rfl
theorem aop_buildSlice {t:TypeId} {len:Nat} {parts:Array (Nat×Operand)}:aop P ⟨some d,.buildSlice t len parts,ty,pos,af,g⟩ s=ofSt (buildSliceA P t len (partsA (ev s.t) parts.toList) d s):=rfl
theorem aop_append {xs:Array Operand} {ts:Array TypeId}:aop P ⟨some d,.call ⟨.builtin .append,xs,ts⟩,ty,pos,af,g⟩ s=(match xs.toList,ts.toList with
 | [x,y],[st,xt]=>match ev s.t x,ev s.t y with
  |some a,some b=>ofSt (appendN P st xt a b d s)
  |_,_=> .no
 |_,_=> .no):=rfl
theorem aop_call {f:Operand} {xs:Array Operand} {ts:Array TypeId}:aop P ⟨some d,.call ⟨.value f,xs,ts⟩,ty,pos,af,g⟩ s=(match ev s.t f,capsA (ev s.t) xs.toList with
 |some (.clo g caps),some as=> .c g (as++caps)
 |some (.yl L),some as=> .y (.yl L::as)
 |_,_=> .no):=rfl
end ops
theorem wrap_i64 {n:Int} (h1: -9223372036854775808≤n) (h2:n≤9223372036854775807):IntKind.i64.wrap n=n:=IntWalk.i64_in n ⟨h1,h2⟩
theorem wrap_u64 {n:Int} (h1:0≤n) (h2:n≤18446744073709551615):IntKind.u64.wrap n=n:=IntWalk.u64_in n ⟨h1,h2⟩
theorem wrap_u8 {n:Int} (h1:0≤n) (h2:n≤255):IntKind.u8.wrap n=n:=IntWalk.u8_in n ⟨h1,h2⟩
theorem wrap_i32 {n:Int} (h1: -2147483648≤n) (h2:n≤2147483647):IntKind.i32.wrap n=n:=IntWalk.i32_in n ⟨h1,h2⟩
theorem wrap_u32 {n:Int} (h1:0≤n) (h2:n≤4294967295):IntKind.u32.wrap n=n:=IntWalk.u32_in n ⟨h1,h2⟩
theorem tdiv_pos {a b:Int} (h:0≤a):a.tdiv b=a / b:=Int.tdiv_eq_ediv_of_nonneg h
theorem tmod_pos {a b:Int} (h:0≤a):a.tmod b=a % b:=Int.tmod_eq_emod_of_nonneg h
theorem capsA_nil {ρ:Operand→Option AV}:capsA ρ []=some []:=rfl
theorem capsA_cons {ρ:Operand→Option AV} {x:Operand} {r:List Operand}:capsA ρ (x::r)=(match ρ x with
 |some a=>match capsA ρ r with
  |some as=>some (a::as)
  |none=>none
 |none=>none):=by
 simp only[capsA,List.mapM_cons]
 cases ρ x with
 |none=>rfl
 |some a=>
  simp
  cases List.mapM ρ r<;>rfl
theorem partsA_nil {ρ:Operand→Option AV}:partsA ρ []=some []:=rfl
theorem partsA_cons {ρ:Operand→Option AV} {i:Nat} {x:Operand} {r:List (Nat×Operand)}:partsA ρ ((i,x)::r)=(match ρ x with
 |some a=>match partsA ρ r with
  |some as=>some ((i,a)::as)
  |none=>none
 |none=>none):=by
 simp only[partsA,List.mapM_cons]
 cases ρ x with
 |none=>rfl
 |some a=>
  simp
  cases List.mapM (fun p:Nat×Operand=>Option.map (fun a=>(p.1,a)) (ρ p.2)) r<;>rfl
theorem cells_agg {cs:List AV}:(AV.agg cs).cells=cs:=rfl
theorem cells_sc {v:Value}:(AV.sc v).cells= [.sc v]:=rfl
theorem cells_list {l f:Bool} {xs:List AV}:(AV.list l f xs).cells= [.list l f xs]:=rfl
theorem cells_iptr {l:Bool} {xs:List AV} {i o:Nat}:(AV.iptr l xs i o).cells= [.iptr l xs i o]:=rfl
theorem cells_ref {a b c:Nat}:(AV.ref a b c).cells= [.ref a b c]:=rfl
theorem cells_ptr {a b c:Nat}:(AV.ptr a b c).cells= [.ptr a b c]:=rfl
theorem cells_clo {g:FuncId} {cs:List AV}:(AV.clo g cs).cells= [.clo g cs]:=rfl
theorem isAgg_agg {cs:List AV}:(AV.agg cs).isAgg=true:=rfl
theorem isAgg_sc {v:Value}:(AV.sc v).isAgg=false:=rfl
theorem isAgg_list {l f:Bool} {xs:List AV}:(AV.list l f xs).isAgg=false:=rfl
theorem isAgg_iptr {l:Bool} {xs:List AV} {i o:Nat}:(AV.iptr l xs i o).isAgg=false:=rfl
theorem isAgg_ref {a b c:Nat}:(AV.ref a b c).isAgg=false:=rfl
theorem isAgg_ptr {a b c:Nat}:(AV.ptr a b c).isAgg=false:=rfl
theorem isAgg_clo {g:FuncId} {cs:List AV}:(AV.clo g cs).isAgg=false:=rfl
theorem plain_agg {cs:List AV}:(AV.agg cs).plain=true:=rfl
theorem plain_sc {v:Value}:(AV.sc v).plain=true:=rfl
theorem plain_list {l f:Bool} {xs:List AV}:(AV.list l f xs).plain=true:=rfl
theorem plain_iptr {l:Bool} {xs:List AV} {i o:Nat}:(AV.iptr l xs i o).plain=true:=rfl
theorem plain_ref {a b c:Nat}:(AV.ref a b c).plain=true:=rfl
theorem plain_ptr {a b c:Nat}:(AV.ptr a b c).plain=true:=rfl
theorem plain_clo {g:FuncId} {cs:List AV}:(AV.clo g cs).plain=true:=rfl
theorem pure_agg {cs:List AV}:(AV.agg cs).pure=AV.pureL cs:=by simp[AV.pure]
theorem pure_sc {v:Value}:(AV.sc v).pure=true:=by simp[AV.pure]
theorem pure_list {l f:Bool} {xs:List AV}:(AV.list l f xs).pure= !l:=by simp[AV.pure]
theorem pure_iptr {l:Bool} {xs:List AV} {i o:Nat}:(AV.iptr l xs i o).pure= !l:=by simp[AV.pure]
theorem pure_ref {a b c:Nat}:(AV.ref a b c).pure=false:=by simp[AV.pure]
theorem pure_ptr {a b c:Nat}:(AV.ptr a b c).pure=false:=by simp[AV.pure]
theorem pure_dead:AV.dead.pure=false:=by simp[AV.pure]
theorem pure_clo {g:FuncId} {cs:List AV}:(AV.clo g cs).pure=AV.pureL cs:=by simp[AV.pure]
theorem pureL_nil:AV.pureL []=true:=rfl
theorem pureL_cons {a:AV} {r:List AV}:AV.pureL (a::r)=(a.pure&&AV.pureL r):=by simp[AV.pureL]
theorem has_agg {L:Nat} {cs:List AV}:(AV.agg cs).has L=AV.hasL L cs:=by simp[AV.has]
theorem has_sc {L:Nat} {v:Value}:(AV.sc v).has L=false:=rfl
theorem has_list {L:Nat} {l f:Bool} {xs:List AV}:(AV.list l f xs).has L=false:=rfl
theorem has_iptr {L:Nat} {l:Bool} {xs:List AV} {i o:Nat}:(AV.iptr l xs i o).has L=false:=rfl
theorem has_ref {L a b c:Nat}:(AV.ref a b c).has L=(L==a):=rfl
theorem has_ptr {L a b c:Nat}:(AV.ptr a b c).has L=(L==a):=rfl
theorem has_aref {L a b c d e:Nat}:(AV.aref a b c d e).has L=(L==a):=rfl
theorem has_clo {L:Nat} {g:FuncId} {cs:List AV}:(AV.clo g cs).has L=AV.hasL L cs:=rfl
theorem has_dead {L:Nat}:AV.dead.has L=false:=rfl
theorem hasL_nil {L:Nat}:AV.hasL L []=false:=rfl
theorem hasL_cons {L:Nat} {a:AV} {r:List AV}:AV.hasL L (a::r)=(a.has L||AV.hasL L r):=rfl
theorem binA_int {op:BinOp} {t:TypeId} {k k':IntKind} {u v:Int}:binA P op t (.sc (.int k u)) (.sc (.int k' v))=if k=k' then intA op k u v else if op= .shr then intA .shr k u v else none:=rfl
theorem binA_str {op:BinOp} {t:TypeId} {u v:ByteArray}:binA P op t (.sc (.string u)) (.sc (.string v))=strA op u v:=rfl
theorem binA_eql_bool {t:TypeId} {u v:Bool}:binA P .eql t (.sc (.bool u)) (.sc (.bool v))=if tyIsBool P t=true then some ⟨true,bl (u==v)⟩else none:=rfl
theorem binA_neq_bool {t:TypeId} {u v:Bool}:binA P .neq t (.sc (.bool u)) (.sc (.bool v))=if tyIsBool P t=true then some ⟨true,bl (!(u==v))⟩else none:=rfl
theorem binA_agg {op:BinOp} {t:TypeId} {a:AV} {cs:List AV}:binA P op t a (.agg cs)=none:=by
 cases a<;>first|rfl|(rename_i v;cases v<;>rfl)
def loadS (d:Option (Bool×Nat)) (e:Option (AV×Nat)):Option Sv:=
 match d,e with
 |some (ag,size),some (y,o)=>(rowE y ag size o).map fun a=>⟨true,a⟩
 |_,_=>none
theorem loadA_eq {t:TypeId} {p:AV} {ob:Objs}:loadA P t p ob=loadS (tyI P t) (ptE ob p):=by
 unfold loadA loadS
 cases tyI P t with
 |none=>rfl
 |some q=>obtain⟨a,b⟩:=q;cases ptE ob p<;>rfl
theorem loadS_some {ag:Bool} {size o:Nat} {y:AV}:loadS (some (ag,size)) (some (y,o))=(rowE y ag size o).map fun a=>⟨true,a⟩:=rfl
theorem rowE_agg {y:AV} {size o:Nat}:rowE y true size o=if o+size≤y.cells.length then some (if o=0∧size=y.cells.length∧y.isAgg=true then y else .agg ((y.cells.drop o).take size))else none:=rfl
theorem rowE_one {y:AV} {size o:Nat}:rowE y false size o=y.cells[o]?:=rfl
def ptS (x:Option AObj) (i o:Nat):Option (AV×Nat):=
 match x with
 |some x=>(x.xs[i]?).map fun y=>(y,o)
 |none=>none
theorem ptE_ptr {ob:Objs} {L i o:Nat}:ptE ob (.ptr L i o)=ptS (lk ob L) i o:=by simp only[ptE,ptS];cases lk ob L<;>rfl
theorem ptS_some {x:AObj} {i o:Nat}:ptS (some x) i o=(x.xs[i]?).map fun y=>(y,o):=rfl
theorem ptE_iptr {ob:Objs} {l:Bool} {xs:List AV} {i o:Nat}:ptE ob (.iptr l xs i o)=(xs[i]?).map fun y=>(y,o):=rfl
def fieldAddrS (d:Option (Nat×TypeId×Nat)) (p:AV):Option Sv:=
 match d with
 |some (off,_,n)=>match p with
  | .iptr l xs i o=>some ⟨decide (n≠0),.iptr l xs i (o+off)⟩
  | .ptr L i o=>some ⟨decide (n≠0),.ptr L i (o+off)⟩
  |_=>none
 |none=>none
theorem fieldAddrA_eq {t:TypeId} {f:Nat} {p:AV}:fieldAddrA P t f p=fieldAddrS (tyFd P t f) p:=rfl
theorem fieldAddrS_iptr {off n:Nat} {ft:TypeId} {l:Bool} {xs:List AV} {i o:Nat}:fieldAddrS (some (off,ft,n)) (.iptr l xs i o)=some ⟨decide (n≠0),.iptr l xs i (o+off)⟩:=rfl
theorem fieldAddrS_ptr {off n:Nat} {ft:TypeId} {L i o:Nat}:fieldAddrS (some (off,ft,n)) (.ptr L i o)=some ⟨decide (n≠0),.ptr L i (o+off)⟩:=rfl
theorem lenA_str {t:TypeId} {s:ByteArray}:lenA P t (.sc (.string s))=if tyStr P t=true then some ⟨true,nt .i64 s.size⟩else none:=rfl
def lenS (d:Option (TypeId×Nat×Nat)) (n:Nat):Option Sv:=match d with
 |some _=>some ⟨true,nt .i64 n⟩
 |none=>none
theorem lenS_some {q:TypeId×Nat×Nat} {n:Nat}:lenS (some q) n=some ⟨true,nt .i64 n⟩:=rfl
theorem lenA_list {t:TypeId} {l f:Bool} {xs:List AV}:lenA P t (.list l f xs)=lenS (tyEl P t) xs.length:=rfl
theorem lenA_ref {t:TypeId} {L lo n:Nat}:lenA P t (.ref L lo n)=lenS (tyEl P t) n:=rfl
theorem lenA_aref {t:TypeId} {L i o es n:Nat}:lenA P t (.aref L i o es n)=lenS (tyEl P t) n:=rfl
def ixListS (d:Option (TypeId×Nat×Nat)) (l:Bool) (xs:List AV) (i:Int):Option Sv:=match d with
 |some (_,es,_)=>some ⟨decide (0≤i∧i<xs.length∧ ∀y,xs[i.toNat]?=some y→y.cells.length=es),.iptr l xs i.toNat 0⟩
 |none=>none
theorem ixList {t:TypeId} {l f:Bool} {xs:List AV} {k:IntKind} {i:Int} {ob:Objs}:indexAddrA P t (.list l f xs) (.sc (.int k i)) ob=ixListS (tyEl P t) l xs i:=rfl
theorem ixListS_some {e:TypeId} {es b:Nat} {l:Bool} {xs:List AV} {i:Int}:ixListS (some (e,es,b)) l xs i=some ⟨decide (0≤i∧i<xs.length∧ ∀y,xs[i.toNat]?=some y→y.cells.length=es),.iptr l xs i.toNat 0⟩:=rfl
def ixRefS (d:Option (TypeId×Nat×Nat)) (x:Option AObj) (L lo n:Nat) (i:Int):Option Sv:=match d,x with
 |some (_,es,_),some x=>some ⟨decide (x.es=es∧0≤i∧i<n),.ptr L (lo+i.toNat) 0⟩
 |_,_=>none
theorem ixRef {t:TypeId} {L lo n:Nat} {k:IntKind} {i:Int} {ob:Objs}:indexAddrA P t (.ref L lo n) (.sc (.int k i)) ob=ixRefS (tyEl P t) (lk ob L) L lo n i:=by
 simp only[indexAddrA,ixRefS]
 cases tyEl P t<;>cases lk ob L<;>rfl
theorem ixRefS_some {e:TypeId} {es b:Nat} {x:AObj} {L lo n:Nat} {i:Int}:ixRefS (some (e,es,b)) (some x) L lo n i=some ⟨decide (x.es=es∧0≤i∧i<n),.ptr L (lo+i.toNat) 0⟩:=rfl
def ixArefS (d:Option (TypeId×Nat×Nat)) (L k o es' n:Nat) (i:Int):Option Sv:=match d with
 |some (_,es,_)=>some ⟨decide (es'=es∧0≤i∧i<n),.ptr L k (o+i.toNat*es)⟩
 |none=>none
theorem ixAref {t:TypeId} {L k o es n:Nat} {kk:IntKind} {i:Int} {ob:Objs}:indexAddrA P t (.aref L k o es n) (.sc (.int kk i)) ob=ixArefS (tyEl P t) L k o es n i:=rfl
theorem ixArefS_some {e:TypeId} {es b:Nat} {L k o es' n:Nat} {i:Int}:ixArefS (some (e,es,b)) L k o es' n i=some ⟨decide (es'=es∧0≤i∧i<n),.ptr L k (o+i.toNat*es)⟩:=rfl
def ixPtrS (d:Option (Nat×TypeId×Nat)) (L k o:Nat) (i:Int):Option Sv:=match d with
 |some (n,_,es)=>some ⟨decide (0≤i∧i<n),.ptr L k (o+i.toNat*es)⟩
 |none=>none
theorem ixPtr {t:TypeId} {L k o:Nat} {kk:IntKind} {i:Int} {ob:Objs}:indexAddrA P t (.ptr L k o) (.sc (.int kk i)) ob=ixPtrS (tyAr P t) L k o i:=rfl
theorem ixPtrS_some {e:TypeId} {n es L k o:Nat} {i:Int}:ixPtrS (some (n,e,es)) L k o i=some ⟨decide (0≤i∧i<n),.ptr L k (o+i.toNat*es)⟩:=rfl
def ixIptrS (d:Option (Nat×TypeId×Nat)) (l:Bool) (xs:List AV) (k o:Nat) (i:Int):Option Sv:=match d with
 |some (n,_,es)=>some ⟨decide (0≤i∧i<n),.iptr l xs k (o+i.toNat*es)⟩
 |none=>none
theorem ixIptr {t:TypeId} {l:Bool} {xs:List AV} {k o:Nat} {kk:IntKind} {i:Int} {ob:Objs}:indexAddrA P t (.iptr l xs k o) (.sc (.int kk i)) ob=ixIptrS (tyAr P t) l xs k o i:=rfl
theorem ixIptrS_some {e:TypeId} {n es k o:Nat} {l:Bool} {xs:List AV} {i:Int}:ixIptrS (some (n,e,es)) l xs k o i=some ⟨decide (0≤i∧i<n),.iptr l xs k (o+i.toNat*es)⟩:=rfl
theorem indexA_str {t:TypeId} {s:ByteArray} {k:IntKind} {i:Int}:indexA P t (.sc (.string s)) (.sc (.int k i))=if tyStr P t=true then some ⟨decide (0≤i∧i<s.size),nt .u8 (s.data.toList.getD i.toNat 0).toNat⟩else none:=rfl
def fieldS (d:Option (Nat×TypeId×Nat)) (P:Program) (cs:List AV):Option Sv:=match d with
 |some (off,ft,_)=>(partA P ft cs off).map fun a=>⟨true,a⟩
 |none=>none
theorem fieldA_agg {t:TypeId} {cs:List AV} {f:Nat}:fieldA P t (.agg cs) f=fieldS (tyFd P t f) P cs:=rfl
theorem fieldS_some {off n:Nat} {ft:TypeId} {cs:List AV}:fieldS (some (off,ft,n)) P cs=(partA P ft cs off).map fun a=>⟨true,a⟩:=rfl
def partS (d:Option (Bool×Nat)) (cs:List AV) (off:Nat):Option AV:=match d with
 |some (true,n)=>some (.agg ((cs.drop off).take n))
 |some (false,_)=>cs[off]?
 |none=>none
theorem partA_eq {t:TypeId} {cs:List AV} {off:Nat}:partA P t cs off=partS (tyI P t) cs off:=rfl
theorem partS_true {n off:Nat} {cs:List AV}:partS (some (true,n)) cs off=some (.agg ((cs.drop off).take n)):=rfl
theorem partS_false {n off:Nat} {cs:List AV}:partS (some (false,n)) cs off=cs[off]?:=rfl
def allocS (z:Option AV) (k d:Nat) (s:ASt):Option St:=match z with
 |some z=>if z.plain=true∧z.has d=false then some ⟨decide (d<s.n),s.fresh d (boxK z k) (.ptr d 0 0)⟩else none
 |none=>none
theorem allocA_eq {t:TypeId} {d:Nat}:allocA P t d s=allocS (zbS (tyBd P t) (tyZ P t) (rawZ P t)) (tyBd P t) d s:=rfl
theorem zbS_zero {z r:Option AV}:zbS 0 z r=z:=rfl
theorem zbS_succ {n:Nat} {z r:Option AV}:zbS (n+1) z r=r:=rfl
theorem boxK_eq {a:AV} {k:Nat}:boxK a k=⟨false,false,false,a.cells.length,[a],k⟩:=rfl
theorem allocS_some {z:AV} {k d:Nat}:allocS (some z) k d s=if z.plain=true∧z.has d=false then some ⟨decide (d<s.n),s.fresh d (boxK z k) (.ptr d 0 0)⟩else none:=rfl
theorem boxA_eq {b:AV} {d:Nat}:boxA b d s=if b.plain=true∧b.has d=false then some ⟨decide (d<s.n),s.fresh d (boxO b) (.ptr d 0 0)⟩else none:=rfl
theorem boxO_eq {a:AV}:boxO a=⟨false,false,false,a.cells.length,[a],0⟩:=rfl
theorem arrO_eq {es:Nat} {xs:List AV}:arrO es xs=⟨true,false,false,es,xs,0⟩:=rfl
def storeS (x:Option AObj) (d:Option (Bool×Nat)) (L i o:Nat) (a:AV) (s:ASt):Option St:=match x,d with
 |some x,some (_,size)=>match x.xs[i]? with
  |some y=>if x.fz=false∧a.plain=true∧a.cells.length=size∧o+size≤y.cells.length then
   if x.arr=true then match share s a with
    |some (s1,b)=>match lk s1.o L with
     |some x1=>if x1.fz=false∧b.pure=true∧b.cells.length=size∧b.plain=true then some ⟨true,{s1 with o:=setO s1.o L {x1 with xs:=x1.xs.set i (layE y b o)}}⟩else none
     |none=>none
    |none=>none
   else some ⟨true,{s with o:=setO s.o L {x with xs:=x.xs.set i (layE y a o)}}⟩
   else none
  |none=>none
 |_,_=>none
theorem storeA_ptr {t:TypeId} {L i o:Nat} {a:AV}:storeA P t (.ptr L i o) a s=storeS (lk s.o L) (tyI P t) L i o a s:=by
 simp only[storeA,storeS];cases lk s.o L<;>cases tyI P t<;>rfl
def storeB (y:Option AV) (fz pin:Bool) (es:Nat) (xs:List AV) (kd size L i o:Nat) (a:AV) (s:ASt):Option St:=match y with
 |some y=>if fz=false∧a.plain=true∧a.cells.length=size∧o+size≤y.cells.length then some ⟨true,{s with o:=setO s.o L ⟨false,fz,pin,es,xs.set i (layE y a o),kd⟩}⟩else none
 |none=>none
theorem storeS_box {kd:Nat} {fz pin ag:Bool} {es size L i o:Nat} {xs:List AV} {a:AV}:storeS (some ⟨false,fz,pin,es,xs,kd⟩) (some (ag,size)) L i o a s=storeB (xs[i]?) fz pin es xs kd size L i o a s:=by
 simp only[storeS,storeB]
 cases xs[i]?<;>rfl
theorem storeB_some {kd:Nat} {y:AV} {fz pin:Bool} {es size L i o:Nat} {xs:List AV} {a:AV}:storeB (some y) fz pin es xs kd size L i o a s=if fz=false∧a.plain=true∧a.cells.length=size∧o+size≤y.cells.length then some ⟨true,{s with o:=setO s.o L ⟨false,fz,pin,es,xs.set i (layE y a o),kd⟩}⟩else none:=rfl
def storeR (y:Option AV) (b:Option (ASt×AV)) (fz:Bool) (size L i o:Nat) (a:AV):Option St:=match y,b with
 |some y,some (s1,b)=>if fz=false∧a.plain=true∧a.cells.length=size∧o+size≤y.cells.length then match lk s1.o L with
  |some x1=>if x1.fz=false∧b.pure=true∧b.cells.length=size∧b.plain=true then some ⟨true,{s1 with o:=setO s1.o L {x1 with xs:=x1.xs.set i (layE y b o)}}⟩else none
  |none=>none
  else none
 |_,_=>none
theorem storeS_arr {kd:Nat} {fz pin ag:Bool} {es size L i o:Nat} {xs:List AV} {a:AV}:storeS (some ⟨true,fz,pin,es,xs,kd⟩) (some (ag,size)) L i o a s=storeR (xs[i]?) (share s a) fz size L i o a:=by
 simp only[storeS,storeR]
 cases xs[i]? with
 |none=>cases share s a<;>rfl
 |some y=>
  cases share s a with
  |none=>simp
  |some q=>rfl
def storeT (x1:Option AObj) (s1:ASt) (b y:AV) (size L i o:Nat):Option St:=match x1 with
 |some x1=>if x1.fz=false∧b.pure=true∧b.cells.length=size∧b.plain=true then some ⟨true,{s1 with o:=setO s1.o L {x1 with xs:=x1.xs.set i (layE y b o)}}⟩else none
 |none=>none
theorem storeR_some {y b a:AV} {s1:ASt} {fz:Bool} {size L i o:Nat}:storeR (some y) (some (s1,b)) fz size L i o a=if fz=false∧a.plain=true∧a.cells.length=size∧o+size≤y.cells.length then storeT (lk s1.o L) s1 b y size L i o else none:=by
 simp only[storeR,storeT]
theorem storeT_some {kd:Nat} {s1:ASt} {b y:AV} {size L i o:Nat} {arr fz pin:Bool} {es:Nat} {xs:List AV}:storeT (some ⟨arr,fz,pin,es,xs,kd⟩) s1 b y size L i o=
 if fz=false∧b.pure=true∧b.cells.length=size∧b.plain=true then some ⟨true,{s1 with o:=setO s1.o L ⟨arr,fz,pin,es,xs.set i (layE y b o),kd⟩}⟩else none:=rfl
theorem setO_eq {o:Objs} {L:Nat} {x:AObj}:setO o L x=(L,x)::o:=rfl
theorem layE_eq {y a:AV} {o:Nat}:layE y a o=if o=0∧a.cells.length=y.cells.length∧a.isAgg=y.isAgg then a else .agg (splice y.cells a.cells o):=rfl
theorem splice_eq {α:Type} {cs ds:List α} {off:Nat}:splice cs ds off=cs.take off++ds++cs.drop (off+ds.length):=rfl
def buildS (d:Option (List AV×List (Nat×Nat))) (ps:Option (List (Nat×AV))):Option Sv:=match d,ps with
 |some (z,pl),some ps=>(fillA (pl[·]?) z ps).map fun cs=>⟨true,.agg cs⟩
 |_,_=>none
theorem buildA_eq {t:TypeId} {ps:Option (List (Nat×AV))}:buildA P t ps=buildS (tyB P t) ps:=rfl
def fillS (pl:List (Nat×Nat)) (p:Option (Nat×Nat)) (cs:List AV) (a:AV) (r:List (Nat×AV)):Option (List AV):=match p with
 |some (off,size)=>if a.plain=true∧a.cells.length=size∧off+size≤cs.length then fillA (pl[·]?) (splice cs a.cells off) r else none
 |none=>none
def fillL (pl:List (Nat×Nat)) (cs:List AV) (ps:List (Nat×AV)):Option (List AV):=fillA (pl[·]?) cs ps
theorem buildS_some {z:List AV} {pl:List (Nat×Nat)} {ps:List (Nat×AV)}:buildS (some (z,pl)) (some ps)=(fillL pl z ps).map fun cs=>⟨true,.agg cs⟩:=rfl
theorem fillL_nil {pl:List (Nat×Nat)} {cs:List AV}:fillL pl cs []=some cs:=rfl
theorem fillL_cons {pl:List (Nat×Nat)} {cs:List AV} {i:Nat} {a:AV} {r:List (Nat×AV)}:fillL pl cs ((i,a)::r)=fillS pl (pl[i]?) cs a r:=rfl
theorem fillS_some {pl:List (Nat×Nat)} {off size:Nat} {cs:List AV} {a:AV} {r:List (Nat×AV)}:fillS pl (some (off,size)) cs a r=if a.plain=true∧a.cells.length=size∧off+size≤cs.length then fillL pl (splice cs a.cells off) r else none:=rfl
def sliceListS (d:Option (TypeId×Nat×Nat)) (l h:Option Int) (len full:Bool) (xs:List AV):Option Sv:=match d,l,h with
 |some (_,es,_),some l,some h=>some ⟨decide (0≤l∧l≤h∧h≤xs.length∧ ∀y∈xs,y.cells.length=es),.list len full ((xs.drop l.toNat).take (h.toNat - l.toNat))⟩
 |_,_,_=>none
theorem sliceA_list {t:TypeId} {len full:Bool} {xs:List AV} {lo hi:Option AV} {ob:Objs}:sliceA P t (.list len full xs) lo hi ob=sliceListS (tyEl P t) (bd lo 0) (bd hi xs.length) len (full&&hi.isNone) xs:=by
 simp only[sliceA,sliceListS]
 cases tyEl P t<;>cases bd lo 0<;>cases bd hi xs.length<;>rfl
theorem sliceListS_some {e:TypeId} {es b:Nat} {l h:Int} {len full:Bool} {xs:List AV}:sliceListS (some (e,es,b)) (some l) (some h) len full xs=some ⟨decide (0≤l∧l≤h∧h≤xs.length∧ ∀y∈xs,y.cells.length=es),.list len full ((xs.drop l.toNat).take (h.toNat - l.toNat))⟩:=rfl
def sliceRefS (d:Option (TypeId×Nat×Nat)) (x:Option AObj) (l h:Option Int) (L b n:Nat):Option Sv:=match d,x,l,h with
 |some (_,es,_),some x,some l,some h=>some ⟨decide (x.es=es∧0≤l∧l≤h∧h≤n),.ref L (b+l.toNat) (h.toNat - l.toNat)⟩
 |_,_,_,_=>none
theorem sliceA_ref {t:TypeId} {L b n:Nat} {lo hi:Option AV} {ob:Objs}:sliceA P t (.ref L b n) lo hi ob=sliceRefS (tyEl P t) (lk ob L) (bd lo 0) (bd hi n) L b n:=by
 simp only[sliceA,sliceRefS]
 cases tyEl P t<;>cases lk ob L<;>cases bd lo 0<;>cases bd hi n<;>rfl
theorem sliceRefS_some {e:TypeId} {es bb:Nat} {x:AObj} {l h:Int} {L b n:Nat}:sliceRefS (some (e,es,bb)) (some x) (some l) (some h) L b n=some ⟨decide (x.es=es∧0≤l∧l≤h∧h≤n),.ref L (b+l.toNat) (h.toNat - l.toNat)⟩:=rfl
def sliceStrS (c:Bool) (l h:Option Int) (s:ByteArray):Option Sv:=match c,l,h with
 |true,some l,some h=>some ⟨decide (0≤l∧l≤h∧h≤s.size),.sc (.string (s.extract l.toNat h.toNat))⟩
 |_,_,_=>none
theorem sliceA_str {t:TypeId} {s:ByteArray} {lo hi:Option AV} {ob:Objs}:sliceA P t (.sc (.string s)) lo hi ob=sliceStrS (tyStr P t) (bd lo 0) (bd hi s.size) s:=by
 simp only[sliceA,sliceStrS]
 cases tyStr P t<;>cases bd lo 0<;>cases bd hi s.size<;>rfl
theorem sliceStrS_some {l h:Int} {s:ByteArray}:sliceStrS true (some l) (some h) s=some ⟨decide (0≤l∧l≤h∧h≤s.size),.sc (.string (s.extract l.toNat h.toNat))⟩:=rfl
def slicePtrS (d:Option (Nat×TypeId×Nat)) (l:Option Int) (hi:Option AV) (L i o:Nat):Option Sv:=match d,l with
 |some (n,_,es),some l=>match bd hi n with
  |some h=>some ⟨decide (0≤l∧l≤h∧h≤n),.aref L i (o+l.toNat*es) es (h.toNat - l.toNat)⟩
  |none=>none
 |_,_=>none
theorem sliceA_ptr {t:TypeId} {L i o:Nat} {lo hi:Option AV} {ob:Objs}:sliceA P t (.ptr L i o) lo hi ob=slicePtrS (tyAr P t) (bd lo 0) hi L i o:=by
 simp only[sliceA,slicePtrS]
 cases tyAr P t<;>cases bd lo 0<;>rfl
def slicePtrT (h:Option Int) (n es:Nat) (l:Int) (L i o:Nat):Option Sv:=match h with
 |some h=>some ⟨decide (0≤l∧l≤h∧h≤n),.aref L i (o+l.toNat*es) es (h.toNat - l.toNat)⟩
 |none=>none
theorem slicePtrS_some {e:TypeId} {n es:Nat} {l:Int} {hi:Option AV} {L i o:Nat}:slicePtrS (some (n,e,es)) (some l) hi L i o=slicePtrT (bd hi n) n es l L i o:=rfl
theorem slicePtrT_some {n es:Nat} {l h:Int} {L i o:Nat}:slicePtrT (some h) n es l L i o=some ⟨decide (0≤l∧l≤h∧h≤n),.aref L i (o+l.toNat*es) es (h.toNat - l.toNat)⟩:=rfl
theorem bd_none {d:Int}:bd none d=some d:=rfl
theorem bd_some {k:IntKind} {i d:Int}:bd (some (.sc (.int k i))) d=some i:=rfl
def sliceO (a:Option AV) (l h:Option (Option AV)) (P:Program) (t:TypeId) (ob:Objs):Option Sv:=match a,l,h with
 |some _,some none,_=>none
 |some _,_,some none=>none
 |some a,l,h=>sliceA P t a (l.bind id) (h.bind id) ob
 |none,_,_=>none
theorem sliceO_nn {a:AV} {t:TypeId} {ob:Objs}:sliceO (some a) none none P t ob=sliceA P t a none none ob:=rfl
theorem sliceO_sn {a l:AV} {t:TypeId} {ob:Objs}:sliceO (some a) (some (some l)) none P t ob=sliceA P t a (some l) none ob:=rfl
theorem sliceO_ns {a h:AV} {t:TypeId} {ob:Objs}:sliceO (some a) none (some (some h)) P t ob=sliceA P t a none (some h) ob:=rfl
theorem sliceO_ss {a l h:AV} {t:TypeId} {ob:Objs}:sliceO (some a) (some (some l)) (some (some h)) P t ob=sliceA P t a (some l) (some h) ob:=rfl
theorem aop_slice {d:Nat} {ty:TypeId} {pos:String} {af:Array Edge} {g:Option (Nat×Bool)} {t:TypeId} {x:Operand} {lo hi:Option Operand}:
 aop P ⟨some d,.slice t x lo hi none,ty,pos,af,g⟩ s=ofSv (sliceO (ev s.t x) (lo.map (ev s.t)) (hi.map (ev s.t)) P t s.o):=by simp only[aop_slice',sliceO]
def buildSliceS (d:Option (TypeId×Nat×Nat)) (z:TypeId→Option Value) (ps:Option (List (Nat×AV))) (len dd:Nat) (s:ASt):Option St:=match d,ps with
 |some (e,es,_),some ps=>match z e with
  |some _=>if ps.map (·.1)=List.range len then match shareAll s (ps.map (·.2))with
   |some (s1,bs)=>some ⟨decide (dd<s1.n∧len*es≤2^24∧len≤maxRow∧ ∀b∈bs,b.pure=true∧b.cells.length=es),s1.fresh dd (arrO es bs) (.ref dd 0 len)⟩
   |none=>none
   else none
  |none=>none
 |_,_=>none
theorem buildSliceA_eq {t:TypeId} {len d:Nat} {ps:Option (List (Nat×AV))}:buildSliceA P t len ps d s=buildSliceS (tyEl P t) (tyZero P) ps len d s:=rfl
def buildSliceT (z:Option Value) (es:Nat) (ps:List (Nat×AV)) (len dd:Nat) (s:ASt):Option St:=match z with
 |some _=>if ps.map (·.1)=List.range len then match shareAll s (ps.map (·.2))with
  |some (s1,bs)=>some ⟨decide (dd<s1.n∧len*es≤2^24∧len≤maxRow∧ ∀b∈bs,b.pure=true∧b.cells.length=es),s1.fresh dd (arrO es bs) (.ref dd 0 len)⟩
  |none=>none
  else none
 |none=>none
theorem buildSliceS_some {e:TypeId} {es b:Nat} {z:TypeId→Option Value} {ps:List (Nat×AV)} {len d:Nat}:buildSliceS (some (e,es,b)) z (some ps) len d s=buildSliceT (z e) es ps len d s:=rfl
def buildSliceU (x:Option (ASt×List AV)) (es len dd:Nat):Option St:=match x with
 |some (s1,bs)=>some ⟨decide (dd<s1.n∧len*es≤2^24∧len≤maxRow∧ ∀b∈bs,b.pure=true∧b.cells.length=es),s1.fresh dd (arrO es bs) (.ref dd 0 len)⟩
 |none=>none
theorem buildSliceT_some {v:Value} {es:Nat} {ps:List (Nat×AV)} {len d:Nat}:buildSliceT (some v) es ps len d s=if ps.map (·.1)=List.range len then buildSliceU (shareAll s (ps.map (·.2))) es len d else none:=by
 simp only[buildSliceT,buildSliceU]
theorem buildSliceU_some {s1:ASt} {bs:List AV} {es len d:Nat}:buildSliceU (some (s1,bs)) es len d=some ⟨decide (d<s1.n∧len*es≤2^24∧len≤maxRow∧ ∀b∈bs,b.pure=true∧b.cells.length=es),s1.fresh d (arrO es bs) (.ref d 0 len)⟩:=rfl
def andS (x:Option (ASt×AV)) (r:List AV) (f:ASt→List AV→Option (ASt×List AV)):Option (ASt×List AV):=match x with
 |some (s1,b)=>match f s1 r with
  |some (s2,bs)=>some (s2,b::bs)
  |none=>none
 |none=>none
def consS (b:AV) (x:Option (ASt×List AV)):Option (ASt×List AV):=match x with
 |some (s2,bs)=>some (s2,b::bs)
 |none=>none
theorem andS_some {s1:ASt} {b:AV} {r:List AV} {f:ASt→List AV→Option (ASt×List AV)}:andS (some (s1,b)) r f=consS b (f s1 r):=rfl
theorem consS_some {s2:ASt} {b:AV} {bs:List AV}:consS b (some (s2,bs))=some (s2,b::bs):=rfl
theorem shareAll_nil:shareAll s []=some (s,[]):=rfl
theorem shareAll_cons {a:AV} {r:List AV}:shareAll s (a::r)=andS (share s a) r shareAll:=by first|rfl|(simp only[shareAll,andS];done)|(simp only[shareAll,andS];repeat' split)<;>simp_all
theorem shareL_nil:shareL s []=some (s,[]):=rfl
theorem shareL_cons {a:AV} {r:List AV}:shareL s (a::r)=andS (shareV s a) r shareL:=by first|rfl|(simp only[shareL,andS];done)|(simp only[shareL,andS];repeat' split)<;>simp_all
def aggS (x:Option (ASt×List AV)):Option (ASt×AV):=match x with
 |some (s1,ds)=>some (s1,.agg ds)
 |none=>none
theorem aggS_some {s1:ASt} {ds:List AV}:aggS (some (s1,ds))=some (s1,.agg ds):=rfl
theorem share_agg {cs:List AV}:share s (.agg cs)=aggS (shareL s cs):=rfl
theorem share_sc {v:Value}:share s (.sc v)=some (s,.sc v):=by simp[share,shareV,AV.pure]
theorem share_list {f:Bool} {xs:List AV}:share s (.list false f xs)=some (s,.list false f xs):=by simp[share,shareV,AV.pure]
theorem share_ref {L lo n:Nat}:share s (.ref L lo n)=shareV s (.ref L lo n):=rfl
theorem shareV_sc {v:Value}:shareV s (.sc v)=some (s,.sc v):=by simp[shareV,AV.pure]
theorem shareV_list {f:Bool} {xs:List AV}:shareV s (.list false f xs)=some (s,.list false f xs):=by simp[shareV,AV.pure]
def shareR (x:Option AObj) (s:ASt) (L lo n:Nat):Option (ASt×AV):=match x with
 |some x=>if x.arr=true∧x.pin=false then some (s.frz L x,.list false false (seg x.xs lo n))else none
 |none=>none
theorem shareV_ref {L lo n:Nat}:shareV s (.ref L lo n)=shareR (lk s.o L) s L lo n:=by
 simp only[shareV,shareR];cases lk s.o L<;>rfl
theorem shareR_some {kd:Nat} {fz:Bool} {es L lo n:Nat} {xs:List AV}:shareR (some ⟨true,fz,false,es,xs,kd⟩) s L lo n=some ({s with o:=(L,⟨true,true,false,es,xs,kd⟩)::s.o},.list false false (seg xs lo n)):=rfl
theorem seg_whole {α:Type} {xs:List α}:seg xs 0 xs.length=xs:=by simp[seg]
theorem seg_eq {α:Type} {xs:List α} {lo n:Nat}:seg xs lo n=if lo=0∧n=xs.length then xs else(xs.drop lo).take n:=rfl
def appS (d:Option (TypeId×Nat×Nat)) (d2:Bool) (ys:Option (List AV)) (z:TypeId→Option Value) (kk:TypeId→Nat) (a:AV) (dd:Nat) (s:ASt):Option St:=match d,d2,ys with
 |some (e,es,bytes),true,some ys=>match z e with
  |some _=>match a with
   | .list _ true xs=>some ⟨decide (dd<s.n∧(∀zv,z e=some zv→zv.cells.size=es)∧(∀y∈ys,y.cells.length=es)∧(∀y∈xs,y.cells.length=es)∧bytes≠0∧(2*(xs.length+ys.length)+200)*bytes≤2^48∧(xs= []∨ys≠ [])),
    s.renew dd dd dd (arrK es (xs++ys) (kk e)) (.ref dd 0 (xs++ys).length)⟩
   | .ref L lo n=>match lk s.o L with
    |some x=>if x.arr=true∧x.fz=false∧lo=0 then
     some ⟨decide (dd<s.n∧(∀zv,z e=some zv→zv.cells.size=es)∧(∀y∈ys,y.cells.length=es)∧x.es=es∧bytes≠0∧(2*(n+ys.length)+200)*bytes≤2^48∧n≤x.xs.length),
      s.renew L (if x.pin=true then dd else L) dd (arrK es (seg x.xs 0 n++ys) (if x.kd=kk e then kk e else 0)) (.ref (if x.pin=true then dd else L) 0 (n+ys.length))⟩else none
    |none=>none
   |_=>none
  |none=>none
 |_,_,_=>none
theorem appendA_eq {st xt:TypeId} {a b:AV} {d:Nat}:appendA P st xt a b d s=appS (tyEl P st) (tySrc P xt) (srcOf s.o b) (tyZero P) (kdE P) a d s:=by
 simp only[appendA,appS];cases tyEl P st<;>cases tySrc P xt<;>cases srcOf s.o b<;>rfl
def appR (x:Option AObj) (L n es bytes k dd:Nat) (ys:List AV) (s:ASt):Option St:=match x with
 |some x=>if x.arr=true∧x.fz=false then some ⟨decide (dd<s.n∧(∀y∈ys,y.cells.length=es)∧x.es=es∧(2*(n+ys.length)+200)*bytes≤2^48∧n≤x.xs.length),
  s.renew L (if x.pin=true then dd else L) dd (arrK es (seg x.xs 0 n++ys) (if x.kd=k then k else 0)) (.ref (if x.pin=true then dd else L) 0 (n+ys.length))⟩else none
 |none=>none
theorem appR_some {kd k:Nat} {L n es es' bytes d:Nat} {xs ys:List AV} {pin:Bool}:appR (some ⟨true,false,pin,es',xs,kd⟩) L n es bytes k d ys s=some ⟨decide (d<s.n∧(∀y∈ys,y.cells.length=es)∧es'=es∧(2*(n+ys.length)+200)*bytes≤2^48∧n≤xs.length),
 s.renew L (if pin=true then d else L) d (arrK es (seg xs 0 n++ys) (if kd=k then k else 0)) (.ref (if pin=true then d else L) 0 (n+ys.length))⟩:=rfl
theorem arrK_eq {es k:Nat} {xs:List AV}:arrK es xs k=⟨true,false,false,es,xs,k⟩:=rfl
theorem srcOf_list {o:Objs} {l f:Bool} {ys:List AV}:srcOf o (.list l f ys)=some ys:=rfl
theorem srcOf_ref {o:Objs} {L lo n:Nat}:srcOf o (.ref L lo n)=elemsOf o (.ref L lo n):=rfl
theorem srcOf_str {o:Objs} {b:ByteArray}:srcOf o (.sc (.string b))=some (b.data.toList.map bAV):=rfl
def elemsR (x:Option AObj) (lo n:Nat):Option (List AV):=match x with
 |some x=>if x.arr=true then some (seg x.xs lo n)else none
 |none=>none
theorem elemsOf_list {o:Objs} {l f:Bool} {ys:List AV}:elemsOf o (.list l f ys)=some ys:=rfl
theorem elemsOf_ref {o:Objs} {L lo n:Nat}:elemsOf o (.ref L lo n)=elemsR (lk o L) lo n:=by first|rfl|(simp only[elemsOf,elemsR];done)|(simp only[elemsOf,elemsR];repeat' split)<;>simp_all
theorem elemsR_some {kd:Nat} {fz pin:Bool} {es lo n:Nat} {xs:List AV}:elemsR (some ⟨true,fz,pin,es,xs,kd⟩) lo n=some (seg xs lo n):=rfl
def consO (b:Option AV) (x:Option (List AV)):Option (List AV):=match b,x with
 |some b,some bs=>some (b::bs)
 |_,_=>none
theorem consO_some {b:AV} {bs:List AV}:consO (some b) (some bs)=some (b::bs):=rfl
theorem lendAll_nil {o:Objs}:lendAll o []=some []:=rfl
theorem lendAll_cons {o:Objs} {a:AV} {r:List AV}:lendAll o (a::r)=consO (lend o a) (lendAll o r):=by
 simp only[lendAll,consO]
 cases lend o a with
 |none=>rfl
 |some b=>cases lendAll o r<;>rfl
theorem lendL_nil {o:Objs}:lendL o []=some []:=rfl
theorem lendL_cons {o:Objs} {a:AV} {r:List AV}:lendL o (a::r)=consO (lend1 o a) (lendL o r):=by
 simp only[lendL,consO]
 cases lend1 o a with
 |none=>rfl
 |some b=>cases lendL o r<;>rfl
theorem lend_agg {o:Objs} {cs:List AV}:lend o (.agg cs)=(lendL o cs).map .agg:=rfl
theorem lend_clo {o:Objs} {g:FuncId} {cs:List AV}:lend o (.clo g cs)=(lendL o cs).map (.clo g):=rfl
theorem lend_sc {o:Objs} {v:Value}:lend o (.sc v)=some (.sc v):=rfl
theorem lend_list {o:Objs} {l f:Bool} {xs:List AV}:lend o (.list l f xs)=some (.list l f xs):=rfl
theorem lend_iptr {o:Objs} {l:Bool} {xs:List AV} {i k:Nat}:lend o (.iptr l xs i k)=some (.iptr l xs i k):=rfl
theorem lend_dead {o:Objs}:lend o .dead=some .dead:=rfl
theorem lend1_sc {o:Objs} {v:Value}:lend1 o (.sc v)=some (.sc v):=rfl
theorem lend1_list {o:Objs} {l f:Bool} {xs:List AV}:lend1 o (.list l f xs)=some (.list l f xs):=rfl
theorem lend1_iptr {o:Objs} {l:Bool} {xs:List AV} {i k:Nat}:lend1 o (.iptr l xs i k)=some (.iptr l xs i k):=rfl
theorem lend1_dead {o:Objs}:lend1 o .dead=some .dead:=rfl
theorem lend_ref {o:Objs} {L lo n:Nat}:lend o (.ref L lo n)=lend1 o (.ref L lo n):=rfl
theorem lend_ptr {o:Objs} {L i k:Nat}:lend o (.ptr L i k)=lend1 o (.ptr L i k):=rfl
theorem lend_aref {o:Objs} {L i k es n:Nat}:lend o (.aref L i k es n)=lend1 o (.aref L i k es n):=rfl
def lendR (x:Option AObj) (lo n:Nat):Option AV:=match x with
 |some x=>if x.arr=true then some (.list (!x.fz) false (seg x.xs lo n))else none
 |none=>none
theorem lend1_ref {o:Objs} {L lo n:Nat}:lend1 o (.ref L lo n)=lendR (lk o L) lo n:=by first|rfl|(simp only[lend1,lendR];done)|(simp only[lend1,lendR];repeat' split)<;>simp_all
theorem lendR_some {kd:Nat} {fz pin:Bool} {es lo n:Nat} {xs:List AV}:lendR (some ⟨true,fz,pin,es,xs,kd⟩) lo n=some (.list (!fz) false (seg xs lo n)):=rfl
def lendP (x:Option AObj) (i k:Nat):Option AV:=match x with
 |some x=>if x.arr=true∨AV.pureL x.xs=true then some (.iptr true x.xs i k)else none
 |none=>none
theorem lend1_ptr {o:Objs} {L i k:Nat}:lend1 o (.ptr L i k)=lendP (lk o L) i k:=by first|rfl|(simp only[lend1,lendP];done)|(simp only[lend1,lendP];repeat' split)<;>simp_all
theorem lendP_some {kd:Nat} {arr fz pin:Bool} {es i k:Nat} {xs:List AV}:lendP (some ⟨arr,fz,pin,es,xs,kd⟩) i k=if arr=true∨AV.pureL xs=true then some (.iptr true xs i k)else none:=rfl
def lendQ (y:Option AV) (k es n:Nat):Option AV:=match y with
 |some y=>if y.pure=true∧k+n*es≤y.cells.length∧n≤1048576∧y.isAgg=true then some (.list true false ((List.range n).map fun j=>chunk y.cells (k+j*es) es))else none
 |none=>none
def lendA (x:Option AObj) (i k es n:Nat):Option AV:=match x with
 |some x=>lendQ (x.xs[i]?) k es n
 |none=>none
theorem lend1_aref {o:Objs} {L i k es n:Nat}:lend1 o (.aref L i k es n)=lendA (lk o L) i k es n:=by
 simp only[lend1,lendA]
 cases lk o L with
 |none=>rfl
 |some x=>simp only[lendQ];cases x.xs[i]?<;>rfl
theorem lendA_some {x:AObj} {i k es n:Nat}:lendA (some x) i k es n=lendQ (x.xs[i]?) k es n:=rfl
theorem lendQ_some {y:AV} {k es n:Nat}:lendQ (some y) k es n=if y.pure=true∧k+n*es≤y.cells.length∧n≤1048576∧y.isAgg=true then some (.list true false ((List.range n).map fun j=>chunk y.cells (k+j*es) es))else none:=rfl
theorem chunk_eq {cs:List AV} {off es:Nat}:chunk cs off es=if es=1 then cs.getD off .dead else .agg ((cs.drop off).take es):=rfl
theorem retS_own {d es:Nat} {xs:List AV}:retS s d (.own es xs)=s.renew d d d (arrO es xs) (.ref d 0 xs.length):=rfl
theorem retS_sc {d:Nat} {v:Value}:retS s d (.sc v)=s.put d (.sc v):=rfl
theorem retS_agg {d:Nat} {cs:List AV}:retS s d (.agg cs)=s.put d (.agg cs):=rfl
theorem retS_list {d:Nat} {l f:Bool} {xs:List AV}:retS s d (.list l f xs)=s.put d (.list l f xs):=rfl
theorem retS_clo {d:Nat} {g:FuncId} {cs:List AV}:retS s d (.clo g cs)=s.put d (.clo g cs):=rfl
def putT (d:Nat) (x:ASt×List AV):ASt:=x.1.put d (.tup x.2)
theorem retS_tup {d:Nat} {rs:List AV}:retS s d (.tup rs)=putT d (retL s.n d 0 s rs):=rfl
theorem putT_eq {d:Nat} {s1:ASt} {cs:List AV}:putT d (s1,cs)=s1.put d (.tup cs):=rfl
def consT (b:AV) (x:ASt×List AV):ASt×List AV:=(x.1,b::x.2)
theorem consT_eq {b:AV} {s1:ASt} {cs:List AV}:consT b (s1,cs)=(s1,b::cs):=rfl
theorem retL_nil {n d i:Nat}:retL n d i s []=(s,[]):=rfl
theorem retL_own {n d i es:Nat} {xs rs:List AV}:retL n d i s (.own es xs::rs)=consT (.ref (n*(i+1)+d) 0 xs.length) (retL n d (i+1) (s.adopt (n*(i+1)+d) (arrO es xs)) rs):=rfl
theorem retL_sc {n d i:Nat} {v:Value} {rs:List AV}:retL n d i s (.sc v::rs)=consT (.sc v) (retL n d (i+1) s rs):=rfl
theorem retL_agg {n d i:Nat} {cs:List AV} {rs:List AV}:retL n d i s (.agg cs::rs)=consT (.agg cs) (retL n d (i+1) s rs):=rfl
theorem retL_list {n d i:Nat} {l f:Bool} {xs rs:List AV}:retL n d i s (.list l f xs::rs)=consT (.list l f xs) (retL n d (i+1) s rs):=rfl
theorem entry_eq {n:Nat} {as:List AV}:entry n as=⟨n,(as.zipIdx 0).map fun p=>(p.2,p.1),[]⟩:=rfl
def consR (a:Option AV) (r:Option (List AV)):Option (List AV):=match a,r with
 |some a,some as=>some (a::as)
 |_,_=>none
theorem consR_some {a:AV} {r:List AV}:consR (some a) (some r)=some (a::r):=rfl
theorem resL_nil:resL P s []=some []:=rfl
theorem resL_cons {r:ResultVar} {rs:List ResultVar}:resL P s (r::rs)=consR (res1 P s r) (resL P s rs):=by
 simp only[resL,consR];cases res1 P s r<;>cases resL P s rs<;>rfl
theorem res1_tmp {t:Nat}:res1 P s (.tmp t)=lk s.t t:=rfl
def resC (p:Option AV) (t:TypeId) (P:Program) (o:Objs):Option AV:=match p with
 |some (.ptr L i k)=>(loadA P t (.ptr L i k) o).map (·.val)
 |_=>none
theorem res1_cell {a:Nat} {t:TypeId}:res1 P s (.cell a t)=resC (lk s.t a) t P s.o:=by first|rfl|(simp only[res1,resC];done)|(simp only[res1,resC];repeat' split)<;>simp_all
theorem resC_ptr {L i k:Nat} {t:TypeId} {o:Objs}:resC (some (.ptr L i k)) t P o=(loadA P t (.ptr L i k) o).map (·.val):=rfl
theorem freezeL_nil:freezeL [] s=some s:=rfl
def frzS (x:Option AObj) (L:Nat) (r:List Nat) (s:ASt):Option ASt:=match x with
 |some x=>if x.arr=true then freezeL r (s.frz L x)else none
 |none=>none
theorem freezeL_cons {L:Nat} {r:List Nat}:freezeL (L::r) s=frzS (lk s.o L) L r s:=by first|rfl|(simp only[freezeL,frzS];done)|(simp only[freezeL,frzS];repeat' split)<;>simp_all
theorem frzS_some {kd:Nat} {fz pin:Bool} {es L:Nat} {xs:List AV} {r:List Nat}:frzS (some ⟨true,fz,pin,es,xs,kd⟩) L r s=freezeL r {s with o:=(L,⟨true,true,pin,es,xs,kd⟩)::s.o}:=rfl
def handS (x:Option (ASt×List AV)):Option AV:=match x with
 |some (s2,ys)=>if nodupB (refsOf ys)=true then(finL s2.o ys).map pack else none
 |none=>none
theorem handS_some {s2:ASt} {ys:List AV}:handS (some (s2,ys))=if nodupB (refsOf ys)=true then(finL s2.o ys).map pack else none:=rfl
def aretS (xs:Option (List AV)) (s1:Option ASt):Option AV:=match xs,s1 with
 |some xs,some s1=>handS (handL s1 xs)
 |_,_=>none
theorem aret_eq {rs:List ResultVar} {fs:List Nat}:aret P rs fs s=aretS (resL P s rs) (freezeL fs s):=by
 simp only[aret,aretS]
 cases resL P s rs with
 |none=>rfl
 |some xs=>cases freezeL fs s with
  |none=>rfl
  |some s1=>simp only[handS];cases handL s1 xs<;>rfl
theorem aretS_some {xs:List AV} {s1:ASt}:aretS (some xs) (some s1)=handS (handL s1 xs):=rfl
theorem handL_nil:handL s []=some (s,[]):=rfl
theorem handL_cons {a:AV} {r:List AV}:handL s (a::r)=andS (hand1 s a) r handL:=by first|rfl|(simp only[handL,andS];done)|(simp only[handL,andS];repeat' split)<;>simp_all
theorem hand1_ref {L lo n:Nat}:hand1 s (.ref L lo n)=some (s,.ref L lo n):=rfl
theorem hand1_sc {v:Value}:hand1 s (.sc v)=some (s,.sc v):=by simp[hand1,share,shareV,AV.pure]
theorem hand1_agg {cs:List AV}:hand1 s (.agg cs)=aggS (shareL s cs):=rfl
theorem hand1_list {f:Bool} {xs:List AV}:hand1 s (.list false f xs)=some (s,.list false f xs):=by simp[hand1,share,shareV,AV.pure]
theorem hand1_clo {g:FuncId} {cs:List AV}:hand1 s (.clo g cs)=if AV.pureL cs=true then some (s,.clo g cs)else none:=rfl
theorem finL_nil {o:Objs}:finL o []=some []:=rfl
theorem finL_cons {o:Objs} {a:AV} {r:List AV}:finL o (a::r)=consR (fin1 o a) (finL o r):=by first|rfl|(simp only[finL,consR];done)|(simp only[finL,consR];repeat' split)<;>simp_all
theorem fin1_sc {o:Objs} {v:Value}:fin1 o (.sc v)=some (.sc v):=by simp[fin1,AV.pure]
theorem fin1_agg {o:Objs} {cs:List AV}:fin1 o (.agg cs)=if AV.pureL cs=true then some (.agg cs)else none:=rfl
theorem fin1_clo {o:Objs} {g:FuncId} {cs:List AV}:fin1 o (.clo g cs)=if AV.pureL cs=true then some (.clo g cs)else none:=rfl
theorem fin1_list {o:Objs} {f:Bool} {xs:List AV}:fin1 o (.list false f xs)=some (.list false f xs):=by simp[fin1,AV.pure]
def finR (x:Option AObj) (lo n:Nat):Option AV:=match x with
 |some x=>if x.arr=true then(if x.fz=true then some (.list false false (seg x.xs lo n))else if x.pin=false∧lo=0∧n=x.xs.length then some (.own x.es x.xs)else none)else none
 |none=>none
theorem fin1_ref {o:Objs} {L lo n:Nat}:fin1 o (.ref L lo n)=finR (lk o L) lo n:=by first|rfl|(simp only[fin1,finR];done)|(simp only[fin1,finR];repeat' split)<;>simp_all
theorem finR_fz {kd:Nat} {pin:Bool} {es lo n:Nat} {xs:List AV}:finR (some ⟨true,true,pin,es,xs,kd⟩) lo n=some (.list false false (seg xs lo n)):=rfl
theorem finR_own {kd:Nat} {es lo n:Nat} {xs:List AV}:finR (some ⟨true,false,false,es,xs,kd⟩) lo n=if lo=0∧n=xs.length then some (.own es xs)else none:=by simp[finR]
theorem refsOf_nil:refsOf []= []:=rfl
theorem refsOf_ref {L lo n:Nat} {r:List AV}:refsOf (.ref L lo n::r)=L::refsOf r:=rfl
theorem refsOf_sc {v:Value} {r:List AV}:refsOf (.sc v::r)=refsOf r:=rfl
theorem refsOf_agg {cs:List AV} {r:List AV}:refsOf (.agg cs::r)=refsOf r:=rfl
theorem refsOf_list {l f:Bool} {xs r:List AV}:refsOf (.list l f xs::r)=refsOf r:=rfl
theorem refsOf_clo {g:FuncId} {cs:List AV} {r:List AV}:refsOf (.clo g cs::r)=refsOf r:=rfl
theorem nodupB_nil:nodupB []=true:=rfl
theorem nodupB_cons {a:Nat} {r:List Nat}:nodupB (a::r)=(!r.contains a&&nodupB r):=rfl
theorem pack_one {r:AV}:pack [r]=r:=rfl
theorem pack_nil:pack []= .tup []:=rfl
theorem pack_two {a b:AV} {r:List AV}:pack (a::b::r)= .tup (a::b::r):=rfl
def endW (x:Option AV) (R:AV→Prop):Prop:=match x with
 |some r=>R r
 |none=>False
theorem endV_eq {rs:List ResultVar} {fs:List Nat} {R:AV→Prop}:endV P rs fs R s=endW (aret P rs fs s) R:=by simp only[endV,endW]
theorem endW_some {r:AV} {R:AV→Prop}:endW (some r) R=R r:=rfl
def gvS (x:Option AV) (want:Bool):GV:=match x with
 |some (.sc (.bool b))=> .test b want
 |some (.tup [])=> .skip
 |_=> .bad
theorem gvS_und {want:Bool}:gvS (some (.tup [])) want= .skip:=rfl
theorem gval_eq {ops:Array Oper} {j:Nat} {want:Bool}:gval ops (some (j,want)) s=gvS ((gslot ops j).bind (lk s.t)) want:=by first|rfl|(simp only[gval,gvS];done)|(simp only[gval,gvS];repeat' split)<;>simp_all
theorem gvS_bool {b want:Bool}:gvS (some (.sc (.bool b))) want= .test b want:=rfl
theorem gslot_eq {ops:Array Oper} {j:Nat}:gslot ops j=(ops[j]?).bind (·.dst):=rfl
end
attribute [go_sem ↓] awp_skip awp_region awp_seq awp_cond awp_block awp_exit awp_ret thenQ_normal thenQ_ret thenQ_exit blockQ_normal blockQ_ret blockQ_exit arun_nil arun_cons gK_run gK_tt gK_ff gK_tf gK_ft darun_zero allocsK_nil allocsK_cons isAl_eq List.filter_cons List.filter_nil darun_cons dgK_run dgK_tt dgK_ff dgK_tf dgK_ft dstep_eq
attribute [go_sem] gvS_und gK_skip dgK_skip dalK_some dskipK_some dstepK_v dstepK_no
attribute [go_sem] condQ_true condQ_false gval_none gval_eq gvS_bool gslot_eq skipK_some stepK_v stepK_h stepK_no put_eq fresh_eq renew_eq renew0_eq lk_nil lk_cons killT_nil killT_cons killO_nil killO_cons killX_arr killX_box del_nil del_cons
 kl_sc kl_list kl_iptr kl_ref kl_ptr kl_aref kl_dead kl_clo kl_tup kill1_sc kill1_list kill1_iptr kill1_ref kill1_ptr kill1_aref kill1_dead kill1_clo kill1_tup kill1_agg kl_mp kill1_mp
 ev_tmp ev_const ev_func cst_int cst_bool cst_string cst_nil cst_pnil cst_mnil cst_fnil cst_inil nt_eq bl_eq ofSv_some ofSv_none ofSt_some ofSt_none
attribute [go_sem] aop_move aop_assign aop_pick aop_load aop_bin aop_un aop_conv aop_fieldAddr aop_field aop_indexAddr aop_index aop_extract aop_build aop_makeFunc aop_nilCheck aop_len aop_cap aop_alloc aop_box aop_store aop_buildSlice aop_append aop_call
attribute [go_sem] wrap_i64 wrap_u64 wrap_u8 wrap_i32 wrap_u32 tdiv_pos tmod_pos capsA_nil capsA_cons partsA_nil partsA_cons
attribute [go_sem] cells_agg cells_sc cells_list cells_iptr cells_ref cells_ptr cells_clo isAgg_agg isAgg_sc isAgg_list isAgg_iptr isAgg_ref isAgg_ptr isAgg_clo plain_agg plain_sc plain_list plain_iptr plain_ref plain_ptr plain_clo
 pure_agg pure_sc pure_list pure_iptr pure_ref pure_ptr pure_dead pure_clo pureL_nil pureL_cons has_agg has_sc has_list has_iptr has_ref has_ptr has_aref has_clo has_dead hasL_nil hasL_cons
attribute [go_sem] binA_int binA_str binA_eql_bool binA_neq_bool binA_agg intA strA unA convA loadA_eq loadS_some rowE_agg rowE_one ptE_ptr ptS_some ptE_iptr fieldAddrA_eq fieldAddrS_iptr fieldAddrS_ptr lenA_str lenS_some lenA_list lenA_ref lenA_aref
 ixList ixListS_some ixRef ixRefS_some ixAref ixArefS_some ixPtr ixPtrS_some ixIptr ixIptrS_some fieldA_agg fieldS_some partA_eq partS_true partS_false allocA_eq allocS_some boxA_eq boxO_eq boxK_eq zbS_zero zbS_succ arrO_eq arrK_eq srcOf_list srcOf_ref srcOf_str
 storeA_ptr storeS_box storeB_some storeS_arr storeR_some storeT_some setO_eq layE_eq splice_eq buildA_eq buildS_some fillL_nil fillL_cons fillS_some
attribute [go_sem] sliceA_list sliceListS_some sliceA_ref sliceRefS_some sliceA_str sliceStrS_some sliceA_ptr slicePtrS_some slicePtrT_some bd_none bd_some buildSliceA_eq buildSliceS_some buildSliceT_some buildSliceU_some
 andS_some consS_some shareAll_nil shareAll_cons shareL_nil shareL_cons aggS_some share_agg share_sc share_list share_ref shareV_sc shareV_list shareV_ref shareR_some seg_whole seg_eq appendA_eq appR_some elemsOf_list elemsOf_ref elemsR_some
 consO_some lendAll_nil lendAll_cons lendL_nil lendL_cons lend_agg lend_clo lend_sc lend_list lend_iptr lend_dead lend1_sc lend1_list lend1_iptr lend1_dead lend_ref lend_ptr lend_aref lend1_ref lendR_some lend1_ptr lendP_some lend1_aref lendA_some lendQ_some chunk_eq
attribute [go_sem] retS_own retS_sc retS_agg retS_list retS_clo retS_tup putT_eq consT_eq retL_nil retL_own retL_sc retL_agg retL_list entry_eq consR_some resL_nil resL_cons res1_tmp res1_cell resC_ptr freezeL_nil freezeL_cons frzS_some handS_some aret_eq aretS_some
 handL_nil handL_cons hand1_ref hand1_sc hand1_agg hand1_list hand1_clo finL_nil finL_cons fin1_sc fin1_agg fin1_clo fin1_list fin1_ref finR_fz finR_own refsOf_nil refsOf_ref refsOf_sc refsOf_agg refsOf_list refsOf_clo nodupB_nil nodupB_cons pack_one pack_nil pack_two endV_eq endW_some
 aop_slice sliceO_nn sliceO_sn sliceO_ns sliceO_ss
attribute [go_sem] List.getElem?_cons_zero List.getElem?_cons_succ List.getElem?_nil List.map_cons List.map_nil List.length_cons List.length_nil List.take_zero List.take_succ_cons List.take_nil List.drop_zero List.drop_succ_cons List.drop_nil List.cons_append List.nil_append List.append_nil
 List.set_cons_zero List.set_cons_succ List.zipIdx_cons List.zipIdx_nil Option.map_some Option.map_none Option.bind_some Option.bind_none List.getElem?_toArray Nat.zero_add Nat.add_zero Int.toNat_natCast Int.toNat_zero List.contains_nil
 Bool.not_true Bool.not_false and_true true_and and_false false_and and_self or_true true_or or_false false_or if_true if_false ite_true ite_false ne_eq not_true_eq_false not_false_eq_true Bool.false_eq_true Bool.true_and Bool.and_true Bool.false_and Bool.and_false Bool.or_false Bool.false_or Bool.or_true Bool.true_or eq_self implies_true decide_true decide_false
section
variable {P : Program} {Q : Exit → ASt → Prop} {s : ASt} {k : ASt → Prop}
section asteps
variable {dd : Option Nat} {d : Nat} {ty : TypeId} {pos : String} {af : Array Edge} {g : Option (Nat × Bool)}
theorem astep_move {x:Operand}:astep P ⟨dd,.move x,ty,pos,af,g⟩ k s=stepK P (aop P ⟨dd,.move x,ty,pos,af,g⟩ s) dd k s:=rfl
theorem astep_assign {x:Operand}:astep P ⟨dd,.assign x,ty,pos,af,g⟩ k s=stepK P (aop P ⟨dd,.assign x,ty,pos,af,g⟩ s) dd k s:=rfl
theorem astep_pick {c x y:Operand}:astep P ⟨dd,.pick c x y,ty,pos,af,g⟩ k s=stepK P (aop P ⟨dd,.pick c x y,ty,pos,af,g⟩ s) dd k s:=rfl
theorem astep_alloc {t:TypeId}:astep P ⟨dd,.alloc t,ty,pos,af,g⟩ k s=stepK P (aop P ⟨dd,.alloc t,ty,pos,af,g⟩ s) dd k s:=rfl
theorem astep_box {t:TypeId} {x:Operand}:astep P ⟨dd,.box t x,ty,pos,af,g⟩ k s=stepK P (aop P ⟨dd,.box t x,ty,pos,af,g⟩ s) dd k s:=rfl
theorem astep_build {t:TypeId} {ps:Array (Nat×Operand)}:astep P ⟨dd,.build t ps,ty,pos,af,g⟩ k s=stepK P (aop P ⟨dd,.build t ps,ty,pos,af,g⟩ s) dd k s:=rfl
theorem astep_buildSlice {t:TypeId} {l:Nat} {ps:Array (Nat×Operand)}:astep P ⟨dd,.buildSlice t l ps,ty,pos,af,g⟩ k s=stepK P (aop P ⟨dd,.buildSlice t l ps,ty,pos,af,g⟩ s) dd k s:=rfl
theorem astep_load {t:TypeId} {x:Operand}:astep P ⟨dd,.load t x,ty,pos,af,g⟩ k s=stepK P (aop P ⟨dd,.load t x,ty,pos,af,g⟩ s) dd k s:=rfl
theorem astep_store {t:TypeId} {x y:Operand}:astep P ⟨dd,.store t x y,ty,pos,af,g⟩ k s=stepK P (aop P ⟨dd,.store t x y,ty,pos,af,g⟩ s) dd k s:=rfl
theorem astep_nilCheck {x:Operand}:astep P ⟨dd,.nilCheck x,ty,pos,af,g⟩ k s=stepK P (aop P ⟨dd,.nilCheck x,ty,pos,af,g⟩ s) dd k s:=rfl
theorem astep_unOp {u:UnOp} {t:TypeId} {x:Operand}:astep P ⟨dd,.unOp u t x,ty,pos,af,g⟩ k s=stepK P (aop P ⟨dd,.unOp u t x,ty,pos,af,g⟩ s) dd k s:=rfl
theorem astep_fieldAddr {t:TypeId} {x:Operand} {i:Nat}:astep P ⟨dd,.fieldAddr t x i,ty,pos,af,g⟩ k s=stepK P (aop P ⟨dd,.fieldAddr t x i,ty,pos,af,g⟩ s) dd k s:=rfl
theorem astep_field {t:TypeId} {x:Operand} {i:Nat}:astep P ⟨dd,.field t x i,ty,pos,af,g⟩ k s=stepK P (aop P ⟨dd,.field t x i,ty,pos,af,g⟩ s) dd k s:=rfl
theorem astep_indexAddr {t:TypeId} {x y:Operand}:astep P ⟨dd,.indexAddr t x y,ty,pos,af,g⟩ k s=stepK P (aop P ⟨dd,.indexAddr t x y,ty,pos,af,g⟩ s) dd k s:=rfl
theorem astep_index {t:TypeId} {x y:Operand}:astep P ⟨dd,.index t x y,ty,pos,af,g⟩ k s=stepK P (aop P ⟨dd,.index t x y,ty,pos,af,g⟩ s) dd k s:=rfl
theorem astep_slice {t:TypeId} {x:Operand} {l h m:Option Operand}:astep P ⟨dd,.slice t x l h m,ty,pos,af,g⟩ k s=stepK P (aop P ⟨dd,.slice t x l h m,ty,pos,af,g⟩ s) dd k s:=rfl
theorem astep_extract {x:Operand} {i:Nat}:astep P ⟨dd,.extract x i,ty,pos,af,g⟩ k s=stepK P (aop P ⟨dd,.extract x i,ty,pos,af,g⟩ s) dd k s:=rfl
theorem astep_makeFunc {fn:Fn} {a c:Array Operand}:astep P ⟨dd,.makeFunc fn a c,ty,pos,af,g⟩ k s=stepK P (aop P ⟨dd,.makeFunc fn a c,ty,pos,af,g⟩ s) dd k s:=rfl
theorem astep_makeMapN {t:TypeId} {x:Operand}:astep P ⟨dd,.makeMap t (some x),ty,pos,af,g⟩ k s=stepK P (aop P ⟨dd,.makeMap t (some x),ty,pos,af,g⟩ s) dd k s:=rfl
theorem astep_makeInterface {t:TypeId} {x:Operand}:astep P ⟨dd,.makeInterface t x,ty,pos,af,g⟩ k s=stepK P (aop P ⟨dd,.makeInterface t x,ty,pos,af,g⟩ s) dd k s:=rfl
theorem astep_callV {x:Operand} {xs:Array Operand} {ts:Array TypeId}:astep P ⟨dd,.call ⟨.value x,xs,ts⟩,ty,pos,af,g⟩ k s=stepK P (aop P ⟨dd,.call ⟨.value x,xs,ts⟩,ty,pos,af,g⟩ s) dd k s:=rfl
theorem astep_call_len {xs:Array Operand} {ts:Array TypeId}:astep P ⟨dd,.call ⟨.builtin .len,xs,ts⟩,ty,pos,af,g⟩ k s=stepK P (aop P ⟨dd,.call ⟨.builtin .len,xs,ts⟩,ty,pos,af,g⟩ s) dd k s:=rfl
theorem astep_call_append {xs:Array Operand} {ts:Array TypeId}:astep P ⟨dd,.call ⟨.builtin .append,xs,ts⟩,ty,pos,af,g⟩ k s=stepK P (aop P ⟨dd,.call ⟨.builtin .append,xs,ts⟩,ty,pos,af,g⟩ s) dd k s:=rfl
theorem astep_call_min {xs:Array Operand} {ts:Array TypeId}:astep P ⟨dd,.call ⟨.builtin .min,xs,ts⟩,ty,pos,af,g⟩ k s=stepK P (aop P ⟨dd,.call ⟨.builtin .min,xs,ts⟩,ty,pos,af,g⟩ s) dd k s:=rfl
theorem astep_call_max {xs:Array Operand} {ts:Array TypeId}:astep P ⟨dd,.call ⟨.builtin .max,xs,ts⟩,ty,pos,af,g⟩ k s=stepK P (aop P ⟨dd,.call ⟨.builtin .max,xs,ts⟩,ty,pos,af,g⟩ s) dd k s:=rfl
theorem astep_call_unsafeSliceData {xs:Array Operand} {ts:Array TypeId}:astep P ⟨dd,.call ⟨.builtin .unsafeSliceData,xs,ts⟩,ty,pos,af,g⟩ k s=stepK P (aop P ⟨dd,.call ⟨.builtin .unsafeSliceData,xs,ts⟩,ty,pos,af,g⟩ s) dd k s:=rfl
theorem astep_call_cap {xs:Array Operand} {ts:Array TypeId}:astep P ⟨dd,.call ⟨.builtin .cap,xs,ts⟩,ty,pos,af,g⟩ k s=stepK P (aop P ⟨dd,.call ⟨.builtin .cap,xs,ts⟩,ty,pos,af,g⟩ s) dd k s:=rfl
theorem astep_call_delete {xs:Array Operand} {ts:Array TypeId}:astep P ⟨dd,.call ⟨.builtin .delete,xs,ts⟩,ty,pos,af,g⟩ k s=stepK P (aop P ⟨dd,.call ⟨.builtin .delete,xs,ts⟩,ty,pos,af,g⟩ s) dd k s:=rfl
theorem astep_bin_add {t yt:TypeId} {x y:Operand}:astep P ⟨dd,.binOp .add t x y yt,ty,pos,af,g⟩ k s=stepK P (aop P ⟨dd,.binOp .add t x y yt,ty,pos,af,g⟩ s) dd k s:=rfl
theorem astep_bin_sub {t yt:TypeId} {x y:Operand}:astep P ⟨dd,.binOp .sub t x y yt,ty,pos,af,g⟩ k s=stepK P (aop P ⟨dd,.binOp .sub t x y yt,ty,pos,af,g⟩ s) dd k s:=rfl
theorem astep_bin_mul {t yt:TypeId} {x y:Operand}:astep P ⟨dd,.binOp .mul t x y yt,ty,pos,af,g⟩ k s=stepK P (aop P ⟨dd,.binOp .mul t x y yt,ty,pos,af,g⟩ s) dd k s:=rfl
theorem astep_bin_quo {t yt:TypeId} {x y:Operand}:astep P ⟨dd,.binOp .quo t x y yt,ty,pos,af,g⟩ k s=stepK P (aop P ⟨dd,.binOp .quo t x y yt,ty,pos,af,g⟩ s) dd k s:=rfl
theorem astep_bin_rem {t yt:TypeId} {x y:Operand}:astep P ⟨dd,.binOp .rem t x y yt,ty,pos,af,g⟩ k s=stepK P (aop P ⟨dd,.binOp .rem t x y yt,ty,pos,af,g⟩ s) dd k s:=rfl
theorem astep_bin_and {t yt:TypeId} {x y:Operand}:astep P ⟨dd,.binOp .and t x y yt,ty,pos,af,g⟩ k s=stepK P (aop P ⟨dd,.binOp .and t x y yt,ty,pos,af,g⟩ s) dd k s:=rfl
theorem astep_bin_or {t yt:TypeId} {x y:Operand}:astep P ⟨dd,.binOp .or t x y yt,ty,pos,af,g⟩ k s=stepK P (aop P ⟨dd,.binOp .or t x y yt,ty,pos,af,g⟩ s) dd k s:=rfl
theorem astep_bin_xor {t yt:TypeId} {x y:Operand}:astep P ⟨dd,.binOp .xor t x y yt,ty,pos,af,g⟩ k s=stepK P (aop P ⟨dd,.binOp .xor t x y yt,ty,pos,af,g⟩ s) dd k s:=rfl
theorem astep_bin_shl {t yt:TypeId} {x y:Operand}:astep P ⟨dd,.binOp .shl t x y yt,ty,pos,af,g⟩ k s=stepK P (aop P ⟨dd,.binOp .shl t x y yt,ty,pos,af,g⟩ s) dd k s:=rfl
theorem astep_bin_shr {t yt:TypeId} {x y:Operand}:astep P ⟨dd,.binOp .shr t x y yt,ty,pos,af,g⟩ k s=stepK P (aop P ⟨dd,.binOp .shr t x y yt,ty,pos,af,g⟩ s) dd k s:=rfl
theorem astep_bin_andNot {t yt:TypeId} {x y:Operand}:astep P ⟨dd,.binOp .andNot t x y yt,ty,pos,af,g⟩ k s=stepK P (aop P ⟨dd,.binOp .andNot t x y yt,ty,pos,af,g⟩ s) dd k s:=rfl
theorem astep_bin_eql {t yt:TypeId} {x y:Operand}:astep P ⟨dd,.binOp .eql t x y yt,ty,pos,af,g⟩ k s=nbT (nbQ P t y (ev s.t x)) P (aop P ⟨dd,.binOp .eql t x y yt,ty,pos,af,g⟩ s) dd k s:=rfl
theorem nbT_false {r:Res}:nbT false P r dd k s=stepK P r dd k s:=rfl
theorem nbT_true {r:Res} {d:Nat}:nbT true P r (some d) k s=(d<s.n∧nbP fun b=>k (s.put d (bl b))):=rfl
theorem nbQ_none {t:TypeId} {y:Operand}:nbQ P t y none=false:=rfl
theorem nbQ_sc {t:TypeId} {y:Operand} {v:Value}:nbQ P t y (some (.sc v))=false:=rfl
theorem nbQ_agg {t:TypeId} {y:Operand} {v:List AV}:nbQ P t y (some (.agg v))=false:=rfl
theorem nbQ_ref {t:TypeId} {y:Operand} {L lo n:Nat}:nbQ P t y (some (.ref L lo n))=false:=rfl
theorem nbQ_ptr {t:TypeId} {y:Operand} {L lo n:Nat}:nbQ P t y (some (.ptr L lo n))=false:=rfl
theorem nbQ_iptr {t:TypeId} {y:Operand} {l:Bool} {xs:List AV} {i o:Nat}:nbQ P t y (some (.iptr l xs i o))=false:=rfl
theorem nbQ_clo {t:TypeId} {y:Operand} {f:FuncId} {v:List AV}:nbQ P t y (some (.clo f v))=false:=rfl
theorem nbQ_mp {t:TypeId} {y:Operand} {L:Nat}:nbQ P t y (some (.mp L))=false:=rfl
theorem nbQ_cons {t:TypeId} {y:Operand} {l f:Bool} {x:AV} {xs:List AV}:nbQ P t y (some (.list l f (x::xs)))=false:=rfl
theorem nbQ_nil {t:TypeId} {l f:Bool}:nbQ P t (.const (.slice none 0 0)) (some (.list l f []))=decide (tyKd P t=1):=by
 unfold nbQ
 rw[decide_eq_decide]
 exact⟨fun h=>h.2,fun h=>⟨rfl,h⟩⟩
theorem nbQ_tmp {t:TypeId} {i:Nat} {a:Option AV}:nbQ P t (.tmp i) a=false:=by
 unfold nbQ;split
 ·simp[nilK]
 ·rfl
theorem astep_bin_lss {t yt:TypeId} {x y:Operand}:astep P ⟨dd,.binOp .lss t x y yt,ty,pos,af,g⟩ k s=stepK P (aop P ⟨dd,.binOp .lss t x y yt,ty,pos,af,g⟩ s) dd k s:=rfl
theorem astep_bin_leq {t yt:TypeId} {x y:Operand}:astep P ⟨dd,.binOp .leq t x y yt,ty,pos,af,g⟩ k s=stepK P (aop P ⟨dd,.binOp .leq t x y yt,ty,pos,af,g⟩ s) dd k s:=rfl
theorem astep_bin_gtr {t yt:TypeId} {x y:Operand}:astep P ⟨dd,.binOp .gtr t x y yt,ty,pos,af,g⟩ k s=stepK P (aop P ⟨dd,.binOp .gtr t x y yt,ty,pos,af,g⟩ s) dd k s:=rfl
theorem astep_bin_geq {t yt:TypeId} {x y:Operand}:astep P ⟨dd,.binOp .geq t x y yt,ty,pos,af,g⟩ k s=stepK P (aop P ⟨dd,.binOp .geq t x y yt,ty,pos,af,g⟩ s) dd k s:=rfl
def spS (r:Option St) (k:ASt→Prop) (z:Prop):Prop:=match r with
 |some r=>r.need∧k r.st
 |none=>z
theorem spS_some {n:Bool} {st:ASt} {z:Prop}:spS (some ⟨n,st⟩) k z=(n∧k st):=rfl
theorem spS_none {z:Prop}:spS none k z=z:=rfl
def cvS (v:Option AV) (d:Nat) (s:ASt):Option St:=match v with
 |some v=>some ⟨decide (d<s.n),s.put d v⟩
 |none=>none
theorem cvS_some {v:AV}:cvS (some v) d s=some ⟨decide (d<s.n),s.put d v⟩:=rfl
theorem cvS_none:cvS none d s=none:=rfl
def nqS (b:Bool) (d:Nat) (s:ASt):Option St:=match b with
 |true=>some ⟨decide (d<s.n),s.put d (bl false)⟩
 |false=>none
theorem nqS_true:nqS true d s=some ⟨decide (d<s.n),s.put d (bl false)⟩:=rfl
theorem nqS_false:nqS false d s=none:=rfl
theorem astep_convert {a b:TypeId} {x:Operand}:astep P ⟨some d,.convert a b x,ty,pos,af,g⟩ k s=spS (cvS (unsA P a b s.o (ev s.t x)) d s) k (stepK P (aop P ⟨some d,.convert a b x,ty,pos,af,g⟩ s) (some d) k s):=by
 simp only[astep,special,spS,cvS];cases unsA P a b s.o (ev s.t x)<;>rfl
theorem astep_neq {t yt:TypeId} {x y:Operand}:astep P ⟨some d,.binOp .neq t x y yt,ty,pos,af,g⟩ k s=spS (nqS (neqA P t (ev s.t x) (ev s.t y)) d s) k (stepK P (aop P ⟨some d,.binOp .neq t x y yt,ty,pos,af,g⟩ s) (some d) k s):=by
 simp only[astep,special,spS,nqS];cases neqA P t (ev s.t x) (ev s.t y)<;>rfl
theorem astep_ustr {x y:Operand} {pt it:TypeId}:astep P ⟨some d,.call ⟨.builtin .unsafeString,#[x,y],#[pt,it]⟩,ty,pos,af,g⟩ k s=spS (unsStr P pt d s (ev s.t x) (ev s.t y)) k (stepK P (aop P ⟨some d,.call ⟨.builtin .unsafeString,#[x,y],#[pt,it]⟩,ty,pos,af,g⟩ s) (some d) k s):=by
 simp only[astep,special,spS];rfl
theorem astep_makeMap {t:TypeId}:astep P ⟨some d,.makeMap t none,ty,pos,af,g⟩ k s=(decide (d<s.n)=true∧k (s.renew d d d mapO (.mp d))):=rfl
theorem astep_lookup {t:TypeId} {x y:Operand} {b:Bool}:astep P ⟨some d,.lookup t x y b,ty,pos,af,g⟩ k s=spS (lookS P t b d s (ev s.t x) (ev s.t y)) k (stepK P (aop P ⟨some d,.lookup t x y b,ty,pos,af,g⟩ s) (some d) k s):=by
 simp only[astep,special,spS];rfl
theorem astep_mapUpdate {t:TypeId} {x y z:Operand}:astep P ⟨none,.mapUpdate t x y z,ty,pos,af,g⟩ k s=spS (updS P t s (ev s.t x) (ev s.t y) (ev s.t z)) k (stepK P (aop P ⟨none,.mapUpdate t x y z,ty,pos,af,g⟩ s) none k s):=by
 simp only[astep,special,spS];rfl
theorem lookS_mp {t:TypeId} {b:Bool} {L:Nat} {v:Value}:lookS P t b d s (some (.mp L)) (some (.sc v))=lookX P t b d v s (lk s.o L):=rfl
def lkR (z:Option AV) (ok:Bool) (m:Option (Option (Nat×AV))):Option AV:=match z,m with
 |some z,some none=>some (if ok=true then .tup [z,bl false]else z)
 |some _,some (some (_,v))=>some (if ok=true then .tup [v,bl true]else v)
 |_,_=>none
theorem lkR_none {z:AV} {ok:Bool}:lkR (some z) ok (some none)=some (if ok=true then .tup [z,bl false]else z):=rfl
theorem lkR_some {z v:AV} {ok:Bool} {i:Nat}:lkR (some z) ok (some (some (i,v)))=some (if ok=true then .tup [v,bl true]else v):=rfl
theorem lookX_some {t:TypeId} {b:Bool} {v:Value} {ar fz pin:Bool} {es kd:Nat} {xs:List AV}:lookX P t b d v s (some ⟨ar,fz,pin,es,xs,kd⟩)=if tyMk P t v=true then cvS (lkR (tyMz P t) b (mget v xs 0)) d s else none:=by
 simp only[lookX,cvS]
 have e:lookA P t v b xs=lkR (tyMz P t) b (mget v xs 0):=by
  unfold lookA lkR
  cases tyMz P t with
  |none=>rfl
  |some z=>cases mget v xs 0 with
   |none=>rfl
   |some q=>cases q<;>rfl
 rw[e]
 cases lkR (tyMz P t) b (mget v xs 0)<;>rfl
def upR (r:Option ASt):Option St:=match r with
 |some r=>some ⟨true,r⟩
 |none=>none
theorem upR_some {r:ASt}:upR (some r)=some ⟨true,r⟩:=rfl
def mpR (P:Program) (t:TypeId) (L:Nat) (v:Value) (r:Option (ASt×AV)):Option ASt:=match r with
 |some (s1,v1)=>match lk s1.o L with
  |some x=>if tyMk P t v=true∧x.kd=1∧x.fz=false∧v1.pure=true then match mput v v1 x.xs with
   |some ys=>if ys.length≤maxRow then some {s1 with o:=setO s1.o L {x with xs:=ys}} else none
   |none=>none
   else none
  |none=>none
 |none=>none
def mpQ (P:Program) (t:TypeId) (L:Nat) (v:Value) (s1:ASt) (v1:AV) (x:Option AObj):Option ASt:=match x with
 |some x=>if tyMk P t v=true∧x.kd=1∧x.fz=false∧v1.pure=true then match mput v v1 x.xs with
  |some ys=>if ys.length≤maxRow then some {s1 with o:=setO s1.o L {x with xs:=ys}} else none
  |none=>none
  else none
 |none=>none
def mpP (L:Nat) (s1:ASt) (x:AObj) (ys:Option (List AV)):Option ASt:=match ys with
 |some ys=>if ys.length≤maxRow then some {s1 with o:=setO s1.o L {x with xs:=ys}} else none
 |none=>none
theorem updS_mp {t:TypeId} {L:Nat} {v:Value} {b:AV}:updS P t s (some (.mp L)) (some (.sc v)) (some b)=upR (mpR P t L v (share s b)):=by
 simp only[updS,upR,mupdA,mpR]
 cases share s b with
 |none=>rfl
 |some q=>
  obtain⟨s1,v1⟩:=q
  simp only
  cases lk s1.o L with
  |none=>rfl
  |some x=>
   simp only
   split
   ·cases mput v v1 x.xs with
    |none=>rfl
    |some ys=>simp only;split<;>rfl
   ·rfl
theorem mpR_some {t:TypeId} {L:Nat} {v:Value} {s1:ASt} {v1:AV}:mpR P t L v (some (s1,v1))=mpQ P t L v s1 v1 (lk s1.o L):=rfl
theorem mpQ_some {t:TypeId} {L:Nat} {v:Value} {s1:ASt} {v1:AV} {ar pin:Bool} {es:Nat} {xs:List AV}:mpQ P t L v s1 v1 (some ⟨ar,false,pin,es,xs,1⟩)=if tyMk P t v=true∧v1.pure=true then mpP L s1 ⟨ar,false,pin,es,xs,1⟩ (mput v v1 xs)else none:=by
 simp only[mpQ,mpP,true_and]
theorem mpP_some {L:Nat} {s1:ASt} {x:AObj} {ys:List AV}:mpP L s1 x (some ys)=if ys.length≤maxRow then some {s1 with o:=setO s1.o L {x with xs:=ys}} else none:=rfl
theorem mapO_eq:mapO=⟨true,false,false,0,[],1⟩:=rfl
theorem astep_makeSlice {t:TypeId} {x y:Operand}:astep P ⟨some d,.makeSlice t x y,ty,pos,af,g⟩ k s=spS (makeSliceA P t d s (ev s.t x) (ev s.t y)) k (stepK P (aop P ⟨some d,.makeSlice t x y,ty,pos,af,g⟩ s) (some d) k s):=by
 simp only[astep,special,spS];rfl
def mkS (P:Program) (d:Nat) (s:ASt) (l c:Int) (e es b:Nat) (z:Option AV):Option St:=match z with
 |some z=>if z.pure=true∧z.cells.length=es then some ⟨decide (d<s.n∧0≤l∧l≤c∧(b:Int)*c≤281474976710656∧c≤140737488355328),s.fresh d (arrO es (List.replicate l.toNat z)) (.ref d 0 l.toNat)⟩else none
 |none=>none
def mkT (P:Program) (d:Nat) (s:ASt) (l c:Int):Option (TypeId×Nat×Nat)→Option St
 |some (e,es,b)=>mkS P d s l c e es b (tyZ P e)
 |none=>none
theorem mkT_some {l c:Int} {e es b:Nat}:mkT P d s l c (some (e,es,b))=mkS P d s l c e es b (tyZ P e):=rfl
theorem mkS_some {l c:Int} {e es b:Nat} {z:AV}:mkS P d s l c e es b (some z)=if z.pure=true∧z.cells.length=es then some ⟨decide (d<s.n∧0≤l∧l≤c∧(b:Int)*c≤281474976710656∧c≤140737488355328),s.fresh d (arrO es (List.replicate l.toNat z)) (.ref d 0 l.toNat)⟩else none:=rfl
theorem makeSliceA_sc {t:TypeId} {kl kc:IntKind} {l c:Int}:makeSliceA P t d s (some (.sc (.int kl l))) (some (.sc (.int kc c)))=mkT P d s l c (tyEl P t):=by
 simp only[makeSliceA]
 cases tyEl P t with
 |none=>rfl
 |some q=>obtain⟨e,es,b⟩:=q;simp only[mkT,mkS];cases tyZ P e<;>rfl
theorem astep_call_clear {x:Operand} {t:TypeId}:astep P ⟨none,.call ⟨.builtin .clear,#[x],#[t]⟩,ty,pos,af,g⟩ k s=spS (clearA P t s (ev s.t x)) k (stepK P (aop P ⟨none,.call ⟨.builtin .clear,#[x],#[t]⟩,ty,pos,af,g⟩ s) none k s):=by
 simp only[astep,special,spS];rfl
def clS (s:ASt) (L lo n es:Nat):Option AV→Option AObj→Option St
 |some z,some x=>if x.arr=true∧x.fz=false∧x.kd≠1∧z.pure=true∧z.cells.length=es then
  some ⟨decide (x.es=es∧lo+n≤x.xs.length),{s with o:=setO s.o L {x with xs:=splice x.xs (List.replicate n z) lo}}⟩else none
 |_,_=>none
def clT (P:Program) (s:ASt) (L lo n:Nat):Option (TypeId×Nat×Nat)→Option St
 |some (e,es,_)=>clS s L lo n es (tyZ P e) (lk s.o L)
 |none=>none
theorem clearA_ref {t:TypeId} {L lo n:Nat}:clearA P t s (some (.ref L lo n))=clT P s L lo n (tyEl P t):=by
 simp only[clearA]
 cases tyEl P t with
 |none=>rfl
 |some q=>obtain⟨e,es,b⟩:=q;simp only[clT,clS];cases tyZ P e<;>cases lk s.o L<;>rfl
theorem clT_some {L lo n:Nat} {e es b:Nat}:clT P s L lo n (some (e,es,b))=clS s L lo n es (tyZ P e) (lk s.o L):=rfl
theorem clS_some {L lo n es:Nat} {z:AV} {x:AObj}:clS s L lo n es (some z) (some x)=if x.arr=true∧x.fz=false∧x.kd≠1∧z.pure=true∧z.cells.length=es then
 some ⟨decide (x.es=es∧lo+n≤x.xs.length),{s with o:=setO s.o L {x with xs:=splice x.xs (List.replicate n z) lo}}⟩else none:=rfl
theorem astep_call_copy {x y:Operand} {pt it:TypeId}:astep P ⟨some d,.call ⟨.builtin .copy,#[x,y],#[pt,it]⟩,ty,pos,af,g⟩ k s=spS (copyS P pt d s (ev s.t x) (ev s.t y)) k (stepK P (aop P ⟨some d,.call ⟨.builtin .copy,#[x,y],#[pt,it]⟩,ty,pos,af,g⟩ s) (some d) k s):=by
 simp only[astep,special,spS];rfl
def cpX (d:Nat) (s:ASt) (L lo n:Nat) (es:Nat) (ys:List AV):Option AObj→Option St
 |some x=>if x.arr=true∧x.fz=false∧x.kd≠1 then
  some ⟨decide (d<s.n∧(∀y∈ys,y.cells.length=es)∧x.es=es∧ys.length≤n∧(ys≠ []∨lo=0)∧lo+n≤x.xs.length),{s with o:=setO s.o L {x with xs:=splice x.xs ys lo}}.put d (nt .i64 ys.length)⟩
  else none
 |none=>none
def cpR (d:Nat) (s:ASt) (L lo n:Nat) (t:Option (TypeId×Nat×Nat)) (r:Option (List AV)):Option St:=match t,r with
 |some (_,es,_),some ys=>cpX d s L lo n es ys (lk s.o L)
 |_,_=>none
theorem copyS_ref {t:TypeId} {L lo n:Nat} {b:AV}:copyS P t d s (some (.ref L lo n)) (some b)=cpR d s L lo n (tyEl P t) (srcOf s.o b):=by
 simp only[copyS,copyA,cpR]
 cases tyEl P t with
 |none=>rfl
 |some q=>
  obtain⟨e,es,b'⟩:=q
  cases srcOf s.o b with
  |none=>rfl
  |some ys=>simp only;cases lk s.o L<;>rfl
theorem cpR_some {L lo n e es b:Nat} {ys:List AV}:cpR d s L lo n (some (e,es,b)) (some ys)=cpX d s L lo n es ys (lk s.o L):=rfl
theorem cpX_some {L lo n es kd:Nat} {ys xs:List AV} {pin:Bool} {e:Nat}:cpX d s L lo n es ys (some ⟨true,false,pin,e,xs,kd⟩)=if kd≠1 then
 some ⟨decide (d<s.n∧(∀y∈ys,y.cells.length=es)∧e=es∧ys.length≤n∧(ys≠ []∨lo=0)∧lo+n≤xs.length),{s with o:=setO s.o L ⟨true,false,pin,e,splice xs ys lo,kd⟩}.put d (nt .i64 ys.length)⟩else none:=by
 simp only[cpX,true_and]
theorem unsA_sc {a b:TypeId} {o:Objs} {v:Value}:unsA P a b o (some (.sc v))=none:=rfl
theorem unsA_list {a b:TypeId} {o:Objs} {l f:Bool} {xs:List AV}:unsA P a b o (some (.list l f xs))=none:=rfl
theorem unsA_ref {a b:TypeId} {o:Objs} {L lo n:Nat}:unsA P a b o (some (.ref L lo n))=unsB P a b (elemsOf o (.ref L lo n)):=rfl
def unsC:Option (List UInt8)→Option AV
 |some l=>some (.sc (.string ⟨l.toArray⟩))
 |none=>none
theorem unsC_some {l:List UInt8}:unsC (some l)=some (.sc (.string ⟨l.toArray⟩)):=rfl
theorem unsB_some {a b:TypeId} {ys:List AV}:unsB P a b (some ys)=if bstT P a b=true then unsC (bytesOf ys)else none:=by
 simp only[unsB];cases bytesOf ys<;>rfl
theorem bytesOf_nil:bytesOf []=some []:=rfl
theorem bytesOf_int {n:Int} {r:List AV}:bytesOf (.sc (.int .u8 n)::r)=if 0≤n∧n<256 then(bytesOf r).map (UInt8.ofNat n.toNat:: ·)else none:=rfl
theorem bytesOf_nt {n:Int} {r:List AV}:bytesOf (nt .u8 n::r)=if 0≤n∧n<256 then(bytesOf r).map (UInt8.ofNat n.toNat:: ·)else none:=rfl
attribute [go_sem] bstT unsC_some unsB_some bytesOf_nil bytesOf_int bytesOf_nt
theorem unsA_agg {a b:TypeId} {o:Objs} {cs:List AV}:unsA P a b o (some (.agg cs))=none:=rfl
theorem unsA_ptr {a b:TypeId} {o:Objs} {L:Nat}:unsA P a b o (some (.ptr L 0 0))=unsX P a b L (lk o L):=rfl
theorem unsX_some {a b:TypeId} {L:Nat} {fz pin:Bool} {es e:Nat} {xs:List AV}:unsX P a b L (some ⟨false,fz,pin,es+1,xs,e+2⟩)=if unsT P a b e (es+1)=true then some (.ptr L 0 0)else none:=by
 simp[unsX]
theorem neqA_sc {t:TypeId} {v:Value} {y:Option AV}:neqA P t (some (.sc v)) y=false:=rfl
theorem neqA_list {t:TypeId} {l f:Bool} {xs:List AV} {y:Option AV}:neqA P t (some (.list l f xs)) y=false:=rfl
theorem neqA_agg {t:TypeId} {cs:List AV} {y:Option AV}:neqA P t (some (.agg cs)) y=false:=rfl
theorem neqA_ref {t:TypeId} {L lo n:Nat} {y:Option AV}:neqA P t (some (.ref L lo n)) y=false:=rfl
theorem neqA_clo {t:TypeId} {f:FuncId} {cs:List AV} {y:Option AV}:neqA P t (some (.clo f cs)) y=false:=rfl
theorem neqA_iptr {t:TypeId} {l:Bool} {xs:List AV} {i o:Nat} {y:Option AV}:neqA P t (some (.iptr l xs i o)) y=false:=rfl
theorem neqA_ps {t:TypeId} {L i o:Nat} {v:Value}:neqA P t (some (.ptr L i o)) (some (.sc v))=false:=rfl
theorem neqA_pp {t:TypeId} {L i o L' i' o':Nat}:neqA P t (some (.ptr L i o)) (some (.ptr L' i' o'))=(decide (L=L'∧i=i'∧o=o')&&ptT P t):=rfl
theorem unsStr_sc {pt:TypeId} {v:Value} {y:Option AV}:unsStr P pt d s (some (.sc v)) y=none:=rfl
theorem unsStr_ptr {pt:TypeId} {L:Nat} {m:Int}:unsStr P pt d s (some (.ptr L 0 0)) (some (.sc (.int .i64 m)))=unsStrX P pt L d m s (lk s.o L):=rfl
theorem appendN_list {st xt:TypeId} {l f:Bool} {xs:List AV} {b:AV}:appendN P st xt (.list l f xs) b d s=appendA P st xt (.list l f xs) b d s:=rfl
theorem appendN_ref {st xt:TypeId} {L lo n:Nat} {b:AV}:appendN P st xt (.ref L lo n) b d s=appendA P st xt (.ref L lo n) b d s:=rfl
attribute [go_sem] nbT_false nbT_true nbQ_none nbQ_sc nbQ_agg nbQ_ref nbQ_ptr nbQ_iptr nbQ_clo nbQ_mp nbQ_cons nbQ_nil nbQ_tmp
attribute [go_sem] astep_move astep_assign astep_pick astep_alloc astep_box astep_build astep_buildSlice astep_load astep_store astep_nilCheck astep_unOp astep_fieldAddr astep_field astep_indexAddr astep_index astep_slice astep_extract astep_makeFunc astep_makeMap astep_makeMapN lookS_mp lkR_none lkR_some lookX_some upR_some updS_mp mpR_some mpQ_some mpP_some mapO_eq astep_makeSlice mkT_some mkS_some makeSliceA_sc astep_makeInterface astep_lookup astep_mapUpdate astep_callV astep_call_len astep_call_append astep_call_min astep_call_max astep_call_unsafeSliceData astep_call_copy copyS_ref cpR_some cpX_some astep_call_cap astep_call_clear clearA_ref clT_some clS_some astep_call_delete astep_bin_add astep_bin_sub astep_bin_mul astep_bin_quo astep_bin_rem astep_bin_and astep_bin_or astep_bin_xor astep_bin_shl astep_bin_shr astep_bin_andNot astep_bin_eql astep_bin_lss astep_bin_leq astep_bin_gtr astep_bin_geq spS_some spS_none cvS_some cvS_none nqS_true nqS_false astep_convert astep_neq astep_ustr unsA_sc unsA_list unsA_ref unsA_agg unsA_ptr unsX_some neqA_sc neqA_list neqA_agg neqA_ref neqA_clo neqA_iptr neqA_ps neqA_pp unsStr_sc unsStr_ptr appendN_list appendN_ref
end asteps
end
end Go.Ab
namespace Go.Ab
open Go.RowKit
mutual
def AV.okIn (o:Objs):AV→Bool
 | .agg cs=>AV.okInL o cs
 | .tup cs=>AV.okInL o cs
 | .clo _ cs=>AV.okInL o cs
 | .ref L _ _=>(lk o L).isSome
 | .ptr L _ _=>(lk o L).isSome
 | .aref L _ _ _ _=>(lk o L).isSome
 | .mp L=>(lk o L).isSome
 | .yl L=>(lk o L).isSome
 | .rc L _ _ _=>(lk o L).isSome
 |_=>true
def AV.okInL (o:Objs):List AV→Bool
 | []=>true
 |a::r=>a.okIn o&&AV.okInL o r
end
mutual
theorem okIn_has {o:Objs} {L:Nat}: ∀{a:AV},a.okIn o=true→a.has L=true→(lk o L).isSome=true
 | .agg cs,h,hh=>by simp only[AV.okIn]at h;simp only[AV.has]at hh;exact okInL_has h hh
 | .tup cs,h,hh=>by simp only[AV.okIn]at h;simp only[AV.has]at hh;exact okInL_has h hh
 | .clo g cs,h,hh=>by simp only[AV.okIn]at h;simp only[AV.has]at hh;exact okInL_has h hh
 | .ref L' _ _,h,hh=>by simp[AV.has]at hh;subst hh;simpa[AV.okIn]using h
 | .ptr L' _ _,h,hh=>by simp[AV.has]at hh;subst hh;simpa[AV.okIn]using h
 | .aref L' _ _ _ _,h,hh=>by simp[AV.has]at hh;subst hh;simpa[AV.okIn]using h
 | .mp L',h,hh=>by simp[AV.has]at hh;subst hh;simpa[AV.okIn]using h
 | .yl L',h,hh=>by simp[AV.has]at hh;subst hh;simpa[AV.okIn]using h
 | .rc L' _ _ _,h,hh=>by simp[AV.has]at hh;subst hh;simpa[AV.okIn]using h
 | .lh _,_,hh=>by simp[AV.has]at hh
 | .sc _,_,hh=>by simp[AV.has]at hh
 | .list _ _ _,_,hh=>by simp[AV.has]at hh
 | .iptr _ _ _ _,_,hh=>by simp[AV.has]at hh
 | .own _ _,_,hh=>by simp[AV.has]at hh
 | .dead,_,hh=>by simp[AV.has]at hh
theorem okInL_has {o:Objs} {L:Nat}: ∀{cs:List AV},AV.okInL o cs=true→AV.hasL L cs=true→(lk o L).isSome=true
 | [],_,hh=>by simp[AV.hasL]at hh
 |c::cs,h,hh=>by
  simp only[AV.okInL,Bool.and_eq_true]at h
  simp only[AV.hasL,Bool.or_eq_true]at hh
  rcases hh with hh|hh
  ·exact okIn_has h.1 hh
  ·exact okInL_has h.2 hh
end
theorem lk_mem {α:Type}: ∀{l:List (Nat×α)} {i:Nat} {a:α},lk l i=some a→(i,a)∈l
 | [],i,a,h=>by simp[lk]at h
 |(k,b)::l,i,a,h=>by
  simp only[lk]at h
  by_cases hk:k=i
  ·subst hk;rw[if_pos rfl]at h;obtain rfl:=Option.some.inj h;simp
  ·rw[if_neg hk]at h;simp[lk_mem h]
def boxOk (o:Objs) (x:AObj):Bool:=x.arr||AV.okInL o x.xs
theorem Le.sub {s0 s:ASt} (hn:s0.n=s.n) (ht: ∀p∈s0.t,lk s.t p.1=some p.2) (ho: ∀p∈s0.o,lk s.o p.1=some p.2) (hr: ∀p∈s0.t,p.2.okIn s0.o=true) (hb: ∀p∈s0.o,boxOk s0.o p.2=true):Le s0 s:=by
 intro C F μ a w hs
 have hlo: ∀L x,lk s0.o L=some x→lk s.o L=some x:=fun L x hx=>ho _ (lk_mem hx)
 have hloc: ∀L,(lk s0.o L).isSome=true→locOf s0.o μ L=locOf s.o μ L:=fun L hL=>by
  obtain⟨x,hx⟩:=Option.isSome_iff_exists.1 hL
  simp[locOf,hx,hlo L x hx]
 refine⟨F,μ,⟨hs.sw.facts,hs.sw.sub,hs.sw.lentc,hs.sw.grow,hs.sw.newf,hs.sw.fr,fun L x hx=>?_,fun L x L' x' b c c' hx hx'=>hs.sw.dist L x L' x' b c c' (hlo L x hx) (hlo L' x' hx'),
  fun L x b c hx=>hs.sw.excl L x b c (hlo L x hx),fun L x b c hx=>hs.sw.mine L x b c (hlo L x hx),fun L x x0 h0 hx=>hs.sw.keep L x x0 h0 (hlo L x hx)⟩,hs.defers,by rw[hn];exact hs.n,fun i x hx=>?_⟩
 ·have:=hs.sw.obj L x (hlo L x hx)
  cases hm:μ L with
  |none=>rw[hm]at this;exact this
  |some p=>
   obtain⟨b,cap⟩:=p
   rw[hm]at this
   cases harr:x.arr with
   |true=>
    rcases this with⟨c,e,q1,q2,q3,q4,q5,q6,q7⟩|this|⟨_,k2,_⟩
    rotate_left
    ·exact .inr (.inl this)
    ·rw[harr]at k2;cases k2
    refine .inl ⟨c,e,q1,q2,q3,q4,q5,fun i y j a hy hj=>?_,q7⟩
    obtain⟨v,g1,g2,g3,g4⟩:=q6 i y j a hy hj
    rw[harr]at g3
    exact⟨v,g1,g2,by rw[harr];exact g3,g4⟩
   |false=>
    refine this.congr rfl (FLe.refl _) fun L' hL'=>hloc L' ?_
    have:=hb _ (lk_mem hx)
    simp[boxOk,harr]at this
    exact okInL_has this hL'
 ·have hx':=ht _ (lk_mem hx)
  exact(hs.slot i x hx').congr (FLe.refl _) fun L hL=>hloc L (okIn_has (hr _ (lk_mem hx)) hL)
theorem Le.nil {s:ASt} {i T es:Nat} {l:Bool} (h:lk s.t i=some (.list l true [])):Le {n:=s.n,t:=(i,.ref T 0 0)::killT T (killT T s.t),o:=(T,arrO es [])::killO T (killO T (del s.o T))} s:=by
 intro C F μ a w hs
 have h1:=hs.renew0 (L:=T) (T:=T) (x:=arrO es []) (p:=none) rfl rfl rfl (Fr.refl _ _) (by rfl) (fun b c hbc=>by cases hbc)
 refine⟨F,upd μ T none,h1.sw,h1.defers,h1.n,fun j x hx=>?_⟩
 simp only[lk]at hx
 by_cases hij:i=j
 ·subst hij
  rw[if_pos rfl]at hx
  obtain rfl:=Option.some.inj hx
  have hv:=hs.slot i _ h
  generalize a.tmps.getD i undef=v at hv
  have hl:locOf ((T,arrO es [])::killO T (killO T (del s.o T))) (upd μ T none) T=some ⟨none,es,0,false⟩:=by simp[locOf,lk,upd,arrO,locO]
  cases hv with
  |nil=>exact .refNil hl
  |list g1 g2 g3 g4=>
   have:=g4 rfl
   simp at this
   subst this
   exact .refNil hl
 ·rw[if_neg hij]at hx
  exact h1.slot j x hx
theorem Le.move {s:ASt} {i T T' lo n:Nat} {x:AObj} (h:lk s.t i=some (.ref T lo n)) (hk:x.kd≠1) (hx:lk s.o T=some x) (ha:x.arr=true) (hz:x.fz=false):
 Le {n:=s.n,t:=(i,.ref T' lo n)::killT T (killT T' s.t),o:=(T',{x with pin:=false})::killO T (killO T' (del s.o T))} s:=by
 intro C F μ a w hs
 have ho:=hs.sw.obj T x hx
 have h1:=hs.renew0 (L:=T) (T:=T') (x:= {x with pin:=false}) (p:=μ T) hz rfl ha (Fr.refl _ _) (by
  cases hm:μ T with
  |none=>rw[hm]at ho;exact ho
  |some q=>
   obtain⟨b,cap⟩:=q
   rw[hm]at ho
   obtain⟨c,e,q1,q2,q3,q4,q5,q6,q7⟩:=ObjAt.std ho hk
   refine .inl ⟨c,e,q1,q2,q3,q4,q5,fun i y j a hy hj=>?_,q7⟩
   obtain⟨v,g1,g2,g3,g4⟩:=q6 i y j a hy hj
   rw[ha]at g3
   exact⟨v,g1,g2,by show RV (oF x.arr F) (oL x.arr noloc) a v;rw[ha];exact g3,g4⟩) (fun b c hbc=> .inr ⟨x,c,hx,hz,hbc⟩)
 refine⟨F,upd μ T' (μ T),h1.sw,h1.defers,h1.n,fun j y hy=>?_⟩
 simp only[lk]at hy
 by_cases hij:i=j
 ·subst hij
  rw[if_pos rfl]at hy
  obtain rfl:=Option.some.inj hy
  have hv:=hs.slot i _ h
  generalize a.tmps.getD i undef=v at hv
  have hl0:locOf s.o μ T=some ⟨μ T,x.es,x.xs.length,false⟩:=by simp[locOf,hx,locO_mk hk]
  have hl:locOf ((T',{x with pin:=false})::killO T (killO T' (del s.o T))) (upd μ T' (μ T)) T'=some ⟨μ T,x.es,x.xs.length,false⟩:=by simp[locOf,lk,upd,locO,hk]
  rcases RV_ref_inv hv hl0 with⟨hm,rfl,rfl,q,rfl⟩|⟨b,cap,o,c,hm,rfl,g1,g2,g3,g4⟩
  ·simp only at hm
   exact .refNil (hl.trans (by rw[hm]))
  ·simp only at hm
   exact .ref (hl.trans (by rw[hm])) g1 g2 g3 g4
 ·rw[if_neg hij]at hy
  exact h1.slot j y hy
theorem ACall.bound {P f} {args:List AV} {R:AV→Prop} {i:Nat} {l fl:Bool} {xs:List AV} (h:args[i]?=some (.list l fl xs)) (hc: ∀cargs w,(callFunc f cargs).run P w= .ok (.enter f cargs) w) (k:xs.length≤maxRow→ACall P f args R):ACall P f args R:=by
 refine⟨hc,fun w F cargs h1 h2 h3=>?_⟩
 have hi:i<cargs.size:=by rw[←h2];exact(List.getElem?_eq_some_iff.1 h).1
 refine(k ?_).2 w F cargs h1 h2 h3
 have hv:=h3 i _ cargs[i] h (by simp[hi])
 generalize cargs[i]=v at hv
 cases hv with
 |nil=>simp
 |list g1 g2 g3=>exact g3
theorem okIn_sc {o:Objs} {v:Value}:(AV.sc v).okIn o=true:=rfl
theorem okIn_list {o:Objs} {l f:Bool} {xs:List AV}:(AV.list l f xs).okIn o=true:=rfl
theorem okIn_iptr {o:Objs} {l:Bool} {xs:List AV} {i k:Nat}:(AV.iptr l xs i k).okIn o=true:=rfl
theorem okIn_dead {o:Objs}:AV.dead.okIn o=true:=rfl
theorem okIn_ref {o:Objs} {L a b:Nat}:(AV.ref L a b).okIn o=(lk o L).isSome:=rfl
theorem okIn_ptr {o:Objs} {L a b:Nat}:(AV.ptr L a b).okIn o=(lk o L).isSome:=rfl
theorem okIn_mp {o:Objs} {L:Nat}:(AV.mp L).okIn o=(lk o L).isSome:=rfl
theorem okIn_agg {o:Objs} {cs:List AV}:(AV.agg cs).okIn o=AV.okInL o cs:=by simp[AV.okIn]
theorem okIn_tup {o:Objs} {cs:List AV}:(AV.tup cs).okIn o=AV.okInL o cs:=by simp[AV.okIn]
theorem okIn_clo {o:Objs} {g:FuncId} {cs:List AV}:(AV.clo g cs).okIn o=AV.okInL o cs:=by simp[AV.okIn]
theorem okInL_nil {o:Objs}:AV.okInL o []=true:=rfl
theorem okInL_cons {o:Objs} {a:AV} {r:List AV}:AV.okInL o (a::r)=(a.okIn o&&AV.okInL o r):=by simp[AV.okInL]
theorem boxOk_arr {o:Objs} {fz pin:Bool} {es kd:Nat} {xs:List AV}:boxOk o ⟨true,fz,pin,es,xs,kd⟩=true:=rfl
theorem boxOk_box {o:Objs} {fz pin:Bool} {es kd:Nat} {xs:List AV}:boxOk o ⟨false,fz,pin,es,xs,kd⟩=AV.okInL o xs:=rfl
attribute [go_sem] okIn_sc okIn_list okIn_iptr okIn_dead okIn_ref okIn_ptr okIn_agg okIn_mp okIn_tup okIn_clo okInL_nil okInL_cons boxOk_arr boxOk_box Option.isSome_some
theorem awp_loop {P:Program} {b:Code} {Q:Exit→ASt→Prop} {s:ASt} (I:Nat→ASt→Prop) (n:Nat) (s0:ASt) (hle:Le s0 s) (h0:I n s0) (hr: ∀n s,I n s→awp P b (thenQ (Again I n) Q) s):awp P (.loop b) Q s:=⟨I,⟨n,s0,hle,h0⟩,hr⟩
theorem Again.mk {I:Nat→ASt→Prop} {n:Nat} {s:ASt} (n':Nat) (s0:ASt) (hn:n'<n) (hle:Le s0 s) (h:I n' s0):Again I n s:=⟨n',s0,hn,hle,h⟩
end Go.Ab
namespace Go.Ab
open Go.RowKit
def dd {α:Type}:List (Nat×α)→List (Nat×α)
 | []=> []
 |p::r=>p::(dd r).filter fun q=> !(q.1==p.1)
def norm (s:ASt):ASt:=if s.t.length≤2*s.n+16 then s else{n:=s.n,t:=dd s.t,o:=dd s.o}
def callOkB (P:Program) (g:FuncId):Bool:=match P.funcs[g]? with
 |some fn=> !(fn.name== "runtime.NumGoroutine")&&fn.body.isSome
 |none=>false
def axOp (P:Program) (call:FuncId→List AV→Nat→ASt→Option ASt) (o:Oper) (s:ASt):Option ASt:=
 match special P o s with
 |some r=>if r.need=true then some r.st else none
 |none=>match aop P o s,o.dst with
 | .v r,some d=>if(r.need&&decide (d<s.n))=true then some (s.put d r.val)else none
 | .h r,_=>if r.need=true then some r.st else none
 | .c g as,some d=>if d<s.n then call g as d s else none
 |_,_=>none
def axOps (P:Program) (call:FuncId→List AV→Nat→ASt→Option ASt) (ops:Array Oper):List Oper→ASt→Option ASt
 | [],s=>some s
 |o::r,s=>match gval ops o.guard s with
  | .run=>match axOp P call o s with
   |some s1=>axOps P call ops r s1
   |none=>none
  | .test b want=>match b==want with
   |true=>match axOp P call o s with
    |some s1=>axOps P call ops r s1
    |none=>none
   |false=>match o.dst with
    |some d=>if d<s.n then axOps P call ops r (s.put d (.tup []))else none
    |none=>axOps P call ops r s
  | .skip=>match o.dst with
   |some d=>if d<s.n then axOps P call ops r (s.put d (.tup []))else none
   |none=>axOps P call ops r s
  | .bad=>none
def axAllocs (P:Program):List Oper→ASt→Option ASt
 | [],s=>some s
 |o::r,s=>match o.op,o.dst with
  | .alloc t,some d=>match tyZ P t with
   |some z=>if(z.plain&&decide (d<s.n))=true then axAllocs P r ((s.adopt d (boxO z)).put d (.ptr d 0 0))else none
   |none=>none
  |_,_=>none
def dxOp (P:Program) (call:FuncId→List AV→Option AV) (o:Oper) (s:ASt):Option ASt:=
 match isAl o with
 |true=>match o.dst with
  |some d=>if d<s.n then some (s.put d .dead)else none
  |none=>none
 |false=>match aop P o s,o.dst with
 | .v r,some d=>if(r.need&&decide (d<s.n))=true then some (s.put d r.val)else none
 | .c g as,some d=>if d<s.n then match lendAll s.o as with
  |some bs=>match call g bs with
   |some v=>if flat v=true then some (s.put d v)else none
   |none=>none
  |none=>none
  else none
 |_,_=>none
def dxOps (P:Program) (call:FuncId→List AV→Nat→ASt→Option ASt) (pcall:FuncId→List AV→Option AV) (ops:Array Oper):Nat→List Oper→ASt→Option ASt
 |0,l,s=>match axAllocs P ((ops.toList.take (ops.size - l.length)).filter isAl) s with
  |some s1=>axOps P call ops l s1
  |none=>none
 |_+1,[],s=>none
 |m+1,o::r,s=>match gval ops o.guard s with
  | .run=>match dxOp P pcall o s with
   |some s1=>dxOps P call pcall ops m r s1
   |none=>none
  | .test b want=>match b==want with
   |true=>match dxOp P pcall o s with
    |some s1=>dxOps P call pcall ops m r s1
    |none=>none
   |false=>match o.dst with
    |some d=>if d<s.n then dxOps P call pcall ops m r (s.put d (.tup []))else none
    |none=>none
  | .skip=>match o.dst with
   |some d=>if d<s.n then dxOps P call pcall ops m r (s.put d (.tup []))else none
   |none=>none
  | .bad=>none
def drawM (ops:Array Oper):Nat→Nat
 |0=>0
 |m+1=>if drawOK ops m=true then drawM ops m else m+1
def maxKey (o:Objs):Nat:=o.foldl (fun m p=>max m p.1) 0
def refsL:List AV→List Nat
 | []=> []
 | .ref L _ _::r=>L::refsL r
 |_::r=>refsL r
structure Orc where
 p:FuncId→Option (List AV→Option AV)
 m:FuncId→Option (List AV→Objs→Option (AV×Objs))
 e:FuncId→Bool:=fun _=>false
 u:FuncId→Bool:=fun _=>false
def axBody (P:Program) (ih:Code→ASt→Option (Exit×ASt)) (g:FuncId) (as:List AV) (d:Nat) (s:ASt):Option ASt:=
 match P.funcs[g]? with
 |some fn=>match fn.body with
  |some c=>match callOkB P g&&decide (as.length≤fn.ntmps)&&keysLt (max s.n (maxKey s.o+1)) s.o with
   |true=>match ih c (entryM fn.ntmps (as.map (AV.ren (· +fn.ntmps))) (inO fn.ntmps s.o))with
    |some (.normal,s')=>match resL P s' fn.results.toList with
     |some xs=>some (backS fn.ntmps (max s.n (maxKey s.o+1)) s d (pack xs) s'.o)
     |none=>none
    |some (.ret,s')=>match resL P s' fn.results.toList with
     |some xs=>some (backS fn.ntmps (max s.n (maxKey s.o+1)) s d (pack xs) s'.o)
     |none=>none
    |_=>none
   |false=>none
  |none=>none
 |none=>none
def axPure (P:Program) (O:Orc) (ih:Code→ASt→Option (Exit×ASt)) (g:FuncId) (bs:List AV):Option AV:=
 match O.p g with
 |some f=>f bs
 |none=>match P.funcs[g]? with
 |some fn=>match fn.body with
  |some c=>match callOkB P g&&decide (bs.length≤fn.ntmps)with
   |true=>match ih c (entry fn.ntmps bs)with
    |some (.normal,s')=>aret P fn.results.toList (refsL ((resL P s' fn.results.toList).getD [])) s'
    |some (.ret,s')=>aret P fn.results.toList (refsL ((resL P s' fn.results.toList).getD [])) s'
    |_=>none
   |false=>none
  |none=>none
 |none=>none
def axCall (P:Program) (O:Orc) (ih:Code→ASt→Option (Exit×ASt)) (g:FuncId) (as:List AV) (d:Nat) (s:ASt):Option ASt:=
 match O.p g with
 |some f=>match lendAll s.o as with
  |some bs=>match f bs with
   |some v=>some (retS s d v)
   |none=>none
  |none=>none
 |none=>match O.u g with
 |true=>match lendAll s.o as with
  |some bs=>match axPure P O ih g bs with
   |some v=>some (retS s d v)
   |none=>none
  |none=>none
 |false=>match O.m g with
  |some f=>match keysLt (max s.n (maxKey s.o+1)) s.o with
   |true=>match f (as.map (AV.ren (· +64))) (inO 64 s.o)with
    |some (r,o')=>some (backS 64 (max s.n (maxKey s.o+1)) s d r o')
    |none=>none
   |false=>none
  |none=>match O.e g with
   |true=>match as with
    | [a]=>some (s.put d a)
    |_=>none
   |false=>axBody P ih g as d s
def axStep (P:Program) (O:Orc) (ih:Code→ASt→Option (Exit×ASt)) (c:Code) (s:ASt):Option (Exit×ASt):=
 match c with
 | .skip=>some (.normal,s)
 | .region _ ops draw=>match draw with
  |false=>match axOps P (axCall P O ih) ops ops.toList s with
   |some s'=>some (.normal,norm s')
   |none=>none
  |true=>match P.follows .mixedOrders with
   |true=>match drawOK ops (drawM ops ops.size)with
    |true=>match dxOps P (axCall P O ih) (axPure P O ih) ops (drawM ops ops.size) ops.toList s with
     |some s'=>some (.normal,norm s')
     |none=>none
    |false=>none
   |false=>none
 | .seq a b=>match ih a s with
  |some (.normal,s1)=>ih b s1
  |r=>r
 | .cond c x y=>match ev s.t c with
  |some (.sc (.bool b))=>ih (if b=true then x else y) s
  |_=>none
 | .block id b=>match ih b s with
  |some (.exit id',s1)=>if id'=id then some (.normal,s1)else some (.exit id',s1)
  |r=>r
 | .loop b=>match ih b s with
  |some (.normal,s1)=>ih (.loop b) s1
  |r=>r
 | .exit id=>some (.exit id,s)
 | .ret=>some (.ret,s)
 |_=>none
def ax (P:Program) (O:Orc):Nat→Code→ASt→Option (Exit×ASt)
 |0=>fun _ _=>none
 |k+1=>axStep P O (ax P O k)
end Go.Ab
namespace Go.Ab
open Go.RowKit Go.ChangeShapes Go.WideShapes
section
variable {H : Type} {enc : TypeId × Value → H} {P : Program} {T : TypeId → Prop}
theorem trod_stays' {W W':World} {base:Nat} {sp':Nat→Bool} (K:Kids P T) (hz: ∀t e,T t→P.underlying t=some (.slice e)→0<P.cellsOf e) {t:TypeId} (hT:T t) {v:Value} {d:DataW H} {ps:List MemPlace}
 (h:DataW.Trod enc P W base (fun _=>true) true t v d ps) (hsame: ∀p∈ps,W.sameAt W' p) (hs: ∀p∈ps,sp' p.block=true):DataW.Trod enc P W' base sp' true t v d ps:=by
 obtain⟨n,hn⟩:=h
 exact⟨n,DataW.trod_stays K (fun {t e}=>hz t e) (fun h=>by cases h) hT hn hsame hs⟩
theorem trodAll_stays {W W':World} {base:Nat} {sp':Nat→Bool} (K:Kids P T) (hz: ∀t e,T t→P.underlying t=some (.slice e)→0<P.cellsOf e):
 ∀{ts:List TypeId} {vs:List Value} {ds:List (DataW H)} {ps:List MemPlace},(∀t∈ts,T t)→DataW.TrodAll enc P W base (fun _=>true) true ts vs ds ps→(∀p∈ps,W.sameAt W' p)→(∀p∈ps,sp' p.block=true)→
  DataW.TrodAll enc P W' base sp' true ts vs ds ps
 | [],[],[],_,_,h,_,_=>h
 |_::_,_::_,_::_,_,hT,⟨p,q,h1,h2,e⟩,hm,hs=>⟨p,q,trod_stays' K hz (hT _ (List.mem_cons.2 (Or.inl rfl))) h1 (fun x hx=>hm x (by rw[e];exact List.mem_append_left _ hx)) (fun x hx=>hs x (by rw[e];exact List.mem_append_left _ hx)),
  trodAll_stays K hz (fun t ht=>hT t (List.mem_cons.2 (Or.inr ht))) h2 (fun x hx=>hm x (by rw[e];exact List.mem_append_right _ hx)) (fun x hx=>hs x (by rw[e];exact List.mem_append_right _ hx)),e⟩
theorem keptBut_of_fr {W W':World} (hfr:Fr (fun _=>False) W W') (may:MemPlace→Prop):W.keptBut W' may:=by
 refine⟨hfr.os,hfr.output,fun i hi=>?_⟩
 rw[hfr.block i hi (fun h=>h)]
 split
 ·rename_i h1 h2
  rw[h1]at h2
  cases h2
  exact⟨rfl,rfl,rfl,fun _ _=>rfl⟩
 ·rename_i h1 h2
  rw[h1]at h2
  cases h2
  exact .inr ⟨rfl,rfl⟩
 ·rfl
theorem sameAt_of_fr {W W':World} (hfr:Fr (fun _=>False) W W') {p:MemPlace} (hp:p.block<W.heap.size):W.sameAt W' p:=by
 cases p with
 |cell b off=>exact cell_of_block (hfr.block b hp (fun h=>h))
 |map b=>exact hfr.block b hp (fun h=>h)
theorem post_true (K:Kids P T) (hz: ∀t e,T t→P.underlying t=some (.slice e)→0<P.cellsOf e) {f:Func} {s:ChangeSpec} {apart fresh handsOn again:Bool} {W W':World} {args:Array Value} {ds gs:List (DataW H)} {before:List MemPlace} {bt:TypeId}
 (hT: ∀t∈f.params.toList,T t) (hrt:f.resultTypes= #[bt]) (hbt:P.underlying bt=some .bool) (hvars:s.vars= []) (hW:DataW.Whole enc P f.params.toList s.vars apart W args.toList ds gs before)
 (hfn:s.fn H ds= {results:= [.lit (.bool true)],args:=ds}) (hfr:Fr (fun _=>False) W W'):s.post enc P f apart fresh handsOn again W args (.bool true) W':=by
 have hW':=hW
 obtain⟨p,q,hA,hV,rfl,hzf,hn⟩:=hW
 rw[hvars]at hV
 obtain⟨rfl,rfl⟩:=trodVars_none hV
 have hlt: ∀x∈p,x.block<W.heap.size:=DataW.TrodAll.lt hA
 have hargs: ∀sp:Nat→Bool,(∀x∈p,sp x.block=true)→DataW.TrodAll enc P W' 0 sp true f.params.toList args.toList ds p:=fun sp hs=>
  trodAll_stays K hz hT hA (fun x hx=>sameAt_of_fr hfr (hlt x hx)) hs
 have hres: ∀(b:Nat) (sp:Nat→Bool) (hd:Bool),DataW.TrodAll enc P W' b sp hd f.resultTypes.toList ((Value.bool true).resultList f.resultTypes.size) [.lit (.bool true)] []:=fun b sp hd=>by
  rw[hrt]
  exact trodAll_cons_mk (shut_bool hbt _) trodAll_mk0
 have hvs: ∀sp:Nat→Bool,DataW.TrodVars enc P W' sp s.vars ([]:List (DataW H)) []:=fun sp=>by rw[hvars];rfl
 simp only[List.append_nil]at hW' hzf hn
 refine⟨ds,[],p,[],p,[],hW',?_,?_,?_,keptBut_of_fr hfr _,fun _=>⟨?_,?_⟩⟩
 ·simp only[List.append_nil,hfn];exact hres _ _ _
 ·simp only[List.append_nil,hfn];exact hargs _ (fun x hx=>by simpa using hlt x hx)
 ·simp only[List.append_nil,hfn];exact hvs _
 ·exact ok_one hrt rfl (okWide_bool_mk hbt _)
 ·refine⟨_,[],[]++p,⟨[]++p,[],trodAll_append (hargs _ (fun _ _=>rfl)) (hres 0 _ _),hvs _,by simp,fun b off hp=>?_,fun ha=>?_⟩,fun x hx _=>by simpa using hx⟩
  ·have hb:b<W.heap.size:=hlt (.cell b off) (by simpa using hp)
   have:W'.frozen? ⟨b,off,none⟩=W.frozen? ⟨b,off,none⟩:=by simp only[World.frozen?,hfr.block b hb (fun h=>h)]
   rw[this]
   exact hzf b off (by simpa using hp)
  ·simpa using hn ha
end
end Go.Ab
namespace Go.Ab
open Go.RowKit
structure Hide {α:Type} (K T:α):Prop where
 eq:K=T
theorem Hide.go {P:Program} {Q:Exit→ASt→Prop} {K:ASt→Prop} {c:Code} {s:ASt} (h:Hide K (awp P c Q)) (k:awp P c Q s):K s:=by rw[h.eq];exact k
theorem awp_seqK {P:Program} {a b:Code} {Q:Exit→ASt→Prop} {s:ASt} (h: ∀K,Hide K (awp P b Q)→awp P a (thenQ K Q) s):awp P (.seq a b) Q s:=h _ ⟨rfl⟩
def bt (s:ByteArray) (i:Nat):Int:=((s.data.toList.getD i 0).toNat:Int)
theorem bt_range (s:ByteArray) (i:Nat):0≤bt s i∧bt s i≤255:=by
 have:=(s.data.toList.getD i 0).toNat_lt
 unfold bt;omega
theorem indexA_bt {P:Program} {t:TypeId} {s:ByteArray} {k:IntKind} {i:Int}:indexA P t (.sc (.string s)) (.sc (.int k i))=if tyStr P t=true then some ⟨decide (0≤i∧i<s.size),nt .u8 (bt s i.toNat)⟩else none:=indexA_str
attribute [go_sem] indexA_bt
theorem max_if (a b:Int):(if b>a then b else a)=max a b:=by
 rw[Int.max_def];split<;>split<;>omega
theorem min_if (a b:Int):(if b<a then b else a)=min a b:=by
 rw[Int.min_def];split<;>split<;>omega
theorem openA_max {P:Program} {d:Option Nat} {x y:Operand} {ts:Array TypeId} {ty:TypeId} {pos:String} {af g} {ρ:Operand→Option AV} {k k':IntKind} {a b:Int}
 (hx:ρ x=some (.sc (.int k a))) (hy:ρ y=some (.sc (.int k' b))):openA P ⟨d,.call ⟨.builtin .max,#[x,y],ts⟩,ty,pos,af,g⟩ ρ=some ⟨true,.sc (.int k (max a b))⟩:=by
 unfold openA
 rw[if_pos ⟨rfl,by simp[Op.operands,Call.operands,hx,hy,toV,toV1]⟩]
 have e:still P (execOp (fun z=>orNil ((ρ z).bind toV)) ⟨d,.call ⟨.builtin .max,#[x,y],ts⟩,ty,pos,af,g⟩)=some (.value (.int k (if b>a then b else a))):=by
  simp only[execOp,resolve,Array.map,hx,hy]
  simp[hx,hy,toV,toV1,orNil]
  rfl
 rw[e,max_if]
 rfl
theorem openA_min {P:Program} {d:Option Nat} {x y:Operand} {ts:Array TypeId} {ty:TypeId} {pos:String} {af g} {ρ:Operand→Option AV} {k k':IntKind} {a b:Int}
 (hx:ρ x=some (.sc (.int k a))) (hy:ρ y=some (.sc (.int k' b))):openA P ⟨d,.call ⟨.builtin .min,#[x,y],ts⟩,ty,pos,af,g⟩ ρ=some ⟨true,.sc (.int k (min a b))⟩:=by
 unfold openA
 rw[if_pos ⟨rfl,by simp[Op.operands,Call.operands,hx,hy,toV,toV1]⟩]
 have e:still P (execOp (fun z=>orNil ((ρ z).bind toV)) ⟨d,.call ⟨.builtin .min,#[x,y],ts⟩,ty,pos,af,g⟩)=some (.value (.int k (if b<a then b else a))):=by
  simp only[execOp,resolve,Array.map,hx,hy]
  simp[hx,hy,toV,toV1,orNil]
  rfl
 rw[e,min_if]
 rfl
def mxS (f:Int→Int→Int) (z:Option Sv):Option AV→Option AV→Option Sv
 |some (.sc (.int k a)),some (.sc (.int _ b))=>some ⟨true,.sc (.int k (f a b))⟩
 |_,_=>z
theorem mxS_int {f:Int→Int→Int} {z:Option Sv} {k k':IntKind} {a b:Int}:mxS f z (some (.sc (.int k a))) (some (.sc (.int k' b)))=some ⟨true,.sc (.int k (f a b))⟩:=rfl
theorem mxS_eq {f:Int→Int→Int} {z:Option Sv} {x y:Option AV} (h: ∀k k' a b,x=some (.sc (.int k a))→y=some (.sc (.int k' b))→z=some ⟨true,.sc (.int k (f a b))⟩):z=mxS f z x y:=by
 unfold mxS
 split
 ·exact h _ _ _ _ rfl rfl
 ·rfl
theorem aop_max2 {P:Program} {d:Nat} {x y:Operand} {ts:Array TypeId} {ty:TypeId} {pos:String} {af g} {s:ASt}:aop P ⟨some d,.call ⟨.builtin .max,#[x,y],ts⟩,ty,pos,af,g⟩ s=
 ofSv (mxS max (openA P ⟨some d,.call ⟨.builtin .max,#[x,y],ts⟩,ty,pos,af,g⟩ (ev s.t)) (ev s.t x) (ev s.t y)):=
 aop_max.trans (congrArg ofSv (mxS_eq fun k k' a b hx hy=>openA_max hx hy))
theorem aop_min2 {P:Program} {d:Nat} {x y:Operand} {ts:Array TypeId} {ty:TypeId} {pos:String} {af g} {s:ASt}:aop P ⟨some d,.call ⟨.builtin .min,#[x,y],ts⟩,ty,pos,af,g⟩ s=
 ofSv (mxS min (openA P ⟨some d,.call ⟨.builtin .min,#[x,y],ts⟩,ty,pos,af,g⟩ (ev s.t)) (ev s.t x) (ev s.t y)):=
 aop_min.trans (congrArg ofSv (mxS_eq fun k k' a b hx hy=>openA_min hx hy))
attribute [go_sem] aop_max2 aop_min2 mxS_int
theorem beq_bytes (a b:ByteArray):(a==b)=decide (a=b):=by
 rw[Bool.eq_iff_iff,decide_eq_true_eq]
 constructor
 ·intro h
  obtain⟨a⟩:=a;obtain⟨b⟩:=b
  have h':(a==b)=true:=h
  rw[eq_of_beq h']
 ·rintro rfl
  obtain⟨a⟩:=a
  show(a==a)=true
  simp
def tyZs (P:Program) (e:TypeId):Option Nat:=(tyZero P e).map fun v=>v.cells.size
def appL (q:Option Nat) (kk es bytes:Nat) (ys xs:List AV) (d:Nat) (s:ASt):Option St:=match q with
 |some n=>some ⟨decide (d<s.n∧n=es∧(∀y∈ys,y.cells.length=es)∧(∀y∈xs,y.cells.length=es)∧bytes≠0∧(2*(xs.length+ys.length)+200)*bytes≤2^48∧(xs= []∨ys≠ [])),s.renew d d d (arrK es (xs++ys) kk) (.ref d 0 (xs++ys).length)⟩
 |none=>none
theorem appL_some {n kk es bytes d:Nat} {ys xs:List AV} {s:ASt}:appL (some n) kk es bytes ys xs d s=some ⟨decide (d<s.n∧n=es∧(∀y∈ys,y.cells.length=es)∧(∀y∈xs,y.cells.length=es)∧bytes≠0∧(2*(xs.length+ys.length)+200)*bytes≤2^48∧(xs= []∨ys≠ [])),s.renew d d d (arrK es (xs++ys) kk) (.ref d 0 (xs++ys).length)⟩:=rfl
theorem appS_list2 {P:Program} {e:TypeId} {es bytes:Nat} {ys xs:List AV} {l:Bool} {d:Nat} {s:ASt}:
 appS (some (e,es,bytes)) true (some ys) (tyZero P) (kdE P) (.list l true xs) d s=appL (tyZs P e) (kdE P e) es bytes ys xs d s:=by
 simp only[appS,appL,tyZs]
 cases tyZero P e with
 |none=>rfl
 |some v=>simp
def appQ (q:Option Nat) (x:Option AObj) (L n es bytes kk d:Nat) (ys:List AV) (s:ASt):Option St:=match q with
 |some z=>match x with
  |some x=>if x.arr=true∧x.fz=false then some ⟨decide (d<s.n∧z=es∧(∀y∈ys,y.cells.length=es)∧x.es=es∧bytes≠0∧(2*(n+ys.length)+200)*bytes≤2^48∧n≤x.xs.length),
   s.renew L (if x.pin=true then d else L) d (arrK es (seg x.xs 0 n++ys) (if x.kd=kk then kk else 0)) (.ref (if x.pin=true then d else L) 0 (n+ys.length))⟩else none
  |none=>none
 |none=>none
theorem appQ_some {z:Nat} {kd kk:Nat} {L n es es' bytes d:Nat} {xs ys:List AV} {pin:Bool} {s:ASt}:appQ (some z) (some ⟨true,false,pin,es',xs,kd⟩) L n es bytes kk d ys s=some ⟨decide (d<s.n∧z=es∧(∀y∈ys,y.cells.length=es)∧es'=es∧bytes≠0∧(2*(n+ys.length)+200)*bytes≤2^48∧n≤xs.length),
 s.renew L (if pin=true then d else L) d (arrK es (seg xs 0 n++ys) (if kd=kk then kk else 0)) (.ref (if pin=true then d else L) 0 (n+ys.length))⟩:=rfl
theorem appS_ref2 {P:Program} {e:TypeId} {es bytes:Nat} {ys:List AV} {L n d:Nat} {s:ASt}:
 appS (some (e,es,bytes)) true (some ys) (tyZero P) (kdE P) (.ref L 0 n) d s=appQ (tyZs P e) (lk s.o L) L n es bytes (kdE P e) d ys s:=by
 simp only[appS,appQ,tyZs]
 cases tyZero P e with
 |none=>rfl
 |some v=>
  cases lk s.o L with
  |none=>rfl
  |some x=>simp
theorem cells_bAV (c:UInt8):(bAV c).cells= [bAV c]:=rfl
attribute [go_sem] appL_some appS_list2 appQ_some appS_ref2 cells_bAV List.forall_mem_map
section
variable {P : Program} {Q : Exit → ASt → Prop} {s : ASt} {k : ASt → Prop}
theorem zqd {p:Prop} [Decidable p] {x y:Code} (h1:p→awp P x Q s) (h2: ¬p→awp P y Q s):condQ P (some (.sc (.bool (decide p)))) x y Q s:=condQ_dec h1 h2
theorem zqn {p:Prop} [Decidable p] {x y:Code} (h1: ¬p→awp P x Q s) (h2:p→awp P y Q s):condQ P (some (.sc (.bool (!decide p)))) x y Q s:=condQ_ndec h1 h2
theorem zgd {p:Prop} [Decidable p] {want:Bool} {o:Oper} (h1:p→gK P (.test true want) o k s) (h2: ¬p→gK P (.test false want) o k s):gK P (.test (decide p) want) o k s:=gK_dec h1 h2
theorem zgn {p:Prop} [Decidable p] {want:Bool} {o:Oper} (h1: ¬p→gK P (.test true want) o k s) (h2:p→gK P (.test false want) o k s):gK P (.test (!decide p) want) o k s:=gK_ndec h1 h2
theorem zdd {p:Prop} [Decidable p] {want:Bool} {o:Oper} (h1:p→dgK P (.test true want) o k s) (h2: ¬p→dgK P (.test false want) o k s):dgK P (.test (decide p) want) o k s:=dgK_dec h1 h2
theorem zdn {p:Prop} [Decidable p] {want:Bool} {o:Oper} (h1: ¬p→dgK P (.test true want) o k s) (h2:p→dgK P (.test false want) o k s):dgK P (.test (!decide p) want) o k s:=dgK_ndec h1 h2
end
theorem Le.sub4 {s0 s:ASt} (hn:s0.n=s.n) (h:(∀p∈s0.t,lk s.t p.1=some p.2)∧(∀p∈s0.o,lk s.o p.1=some p.2)∧(∀p∈s0.t,p.2.okIn s0.o=true)∧(∀p∈s0.o,boxOk s0.o p.2=true)):Le s0 s:=Le.sub hn h.1 h.2.1 h.2.2.1 h.2.2.2
end Go.Ab
namespace Go.Ab
open Go.RowKit Go.ChangeShapes Go.WideShapes
theorem law_calls {P:Program} {f:FuncId} {as:List AV} (h:ACall P f as (fun r=>r=bl true)) {W:World} {F:Bool→Facts} {cargs:Array Value} (hF:Fok F W) (hl:as.length=cargs.size)
 (ha: ∀(i:Nat) (a:AV) (v:Value),as[i]?=some a→cargs[i]?=some v→RV F noloc a v):Calls P f cargs W fun e W'=>e= .returned (.bool true)∧Fr (fun _=>False) W W':=
 (h.2 W F cargs hF hl ha).mono fun e W' ⟨v,r,F',he,hr,hp,hv⟩=>by
  subst hr
  obtain⟨p,hv⟩:=(show ∃p,ResV1 F' W' W.heap.size p v (bl true)from hv)
  obtain⟨_,hv⟩:=(show AV.pure (bl true)=true∧RV F' noloc (bl true) v from hv)
  cases hv
  exact⟨he,hp.fr⟩
end Go.Ab
namespace Go.Ab
open Go.RowKit
def wF (w:World):Bool→Facts:=fun _ b k=>w.cell? ⟨b,k,none⟩
theorem wF_ok (w:World):Fok (wF w) w:=⟨fun _ _ _ _ h=>h,fun _ _ _ h=>h⟩
def CellsR (w:World) (cs:List AV) (vs:List Value):Prop:=cs.length=vs.length∧ ∀(j:Nat) (a:AV) (v:Value),cs[j]?=some a→vs[j]?=some v→RV (wF w) noloc a v∧one v=true
theorem CellsR.nil {w:World}:CellsR w [] []:=⟨rfl,fun j a v h=>by simp at h⟩
theorem CellsR.one1 {w:World} {a:AV} {v:Value} (h:RV (wF w) noloc a v) (ho:one v=true):CellsR w [a] [v]:=⟨rfl,fun j b u hb hu=>by
 cases j with
 |zero=>simp at hb hu;subst hb;subst hu;exact⟨h,ho⟩
 |succ j=>simp at hb⟩
theorem CellsR.append {w:World} {cs cs':List AV} {vs vs':List Value} (h:CellsR w cs vs) (h':CellsR w cs' vs'):CellsR w (cs++cs') (vs++vs'):=by
 refine⟨by simp[h.1,h'.1],fun j a v ha hv=>?_⟩
 by_cases hj:j<cs.length
 ·rw[List.getElem?_append_left hj]at ha
  rw[List.getElem?_append_left (by rw[←h.1];exact hj)]at hv
  exact h.2 j a v ha hv
 ·rw[List.getElem?_append_right (by omega)]at ha
  rw[List.getElem?_append_right (by rw[←h.1];omega),←h.1]at hv
  exact h'.2 _ a v ha hv
section
variable {H : Type} {enc : TypeId × Value → H} {P : Program} {w : World}
def Came (enc:TypeId×Value→H) (P:Program) (w:World) {α:Type} (n:Nat) (t:TypeId) (en:α→AV) (ok:α→Prop):Prop:=
 ∀cs d ps,DataW.trod enc P w 0 (fun _=>true) true n t cs=some (d,ps)→(∀m∈d.weights P t,m≤reachBytes)→ ∃x,ok x∧CellsR w (en x).cells cs
theorem Came.zero {α:Type} {t:TypeId} {en:α→AV} {ok:α→Prop}:Came enc P w 0 t en ok:=fun cs d ps h=>by simp[DataW.trod]at h
theorem Came.bool {n:Nat} {t:TypeId} (hu:P.underlying t=some .bool):Came enc P w n t (fun b:Bool=> .sc (.bool b)) (fun _=>True):=by
 intro cs d ps h hw
 cases n with
 |zero=>simp[DataW.trod]at h
 |succ n=>
  rw[DataW.trod_step]at h
  unfold DataW.trodStep at h
  rw[hu]at h
  split at h<;>first|(rename_i b _ _;exact⟨_,trivial,CellsR.one1 (.sc rfl) rfl⟩)|simp_all
theorem Came.int {n:Nat} {t:TypeId} {k:IntKind} (hu:P.underlying t=some (.int k)):Came enc P w n t (fun i:Int=> .sc (.int k i)) (fun i=>k.min≤i∧i≤k.max):=by
 intro cs d ps h hw
 cases n with
 |zero=>simp[DataW.trod]at h
 |succ n=>
  rw[DataW.trod_step]at h
  unfold DataW.trodStep at h
  rw[hu]at h
  split at h
  case h_2 k0 k' m hk=>
   obtain rfl:k=k0:=by simpa using hk
   split at h
   ·rename_i hc
    obtain⟨rfl,hc⟩:=hc
    exact⟨m,by simpa[Lit.wf]using hc,CellsR.one1 (.sc rfl) rfl⟩
   ·cases h
  all_goals simp_all
theorem Came.string {n:Nat} {t:TypeId} (hu:P.underlying t=some .string):Came enc P w n t (fun s:ByteArray=> .sc (.string s)) (fun s=>s.size≤reachBytes):=by
 intro cs d ps h hw
 cases n with
 |zero=>simp[DataW.trod]at h
 |succ n=>
  rw[DataW.trod_step]at h
  unfold DataW.trodStep at h
  rw[hu]at h
  split at h
  case h_4 s hk=>
   split at h
   ·obtain⟨rfl,rfl⟩:=Prod.mk.inj (Option.some.inj h)
    exact⟨s,by have:=hw s.data.toList.length (by simp only[DataW.weights,List.mem_singleton]);rw[Array.length_toList]at this;exact this,CellsR.one1 (.sc rfl) rfl⟩
   ·cases h
  all_goals simp_all
theorem weightsAll_mem {e:TypeId}: ∀{ds:List (DataW H)} {d:DataW H},d∈ds→ ∀m∈d.weights P e,m∈DataW.weightsAll P e ds
 | [],_,h,_,_=>by simp at h
 |d0::ds,d,h,m,hm=>by
  simp only[DataW.weightsAll,List.mem_append]
  rcases List.mem_cons.1 h with rfl|h
  ·exact .inl hm
  ·exact .inr (weightsAll_mem h m hm)
theorem Came.slice {n:Nat} {t e:TypeId} {α:Type} {en:α→AV} {ok:α→Prop} (hu:P.underlying t=some (.slice e)) (hes:0<P.cellsOf e) (hb:0<P.bytesOf e) (h1:Came enc P w n e en ok):
 Came enc P w (n+1) t (fun l:List α=> .list false false (l.map en)) (fun l=>(∀x∈l,ok x)∧l.length*P.bytesOf e≤reachBytes):=by
 intro cs d ps h hw
 rw[DataW.trod_step]at h
 unfold DataW.trodStep at h
 rw[hu]at h
 split at h
 case h_7=>
  exact⟨[],⟨by simp,by simp⟩,CellsR.one1 .nil rfl⟩
 case h_8 e' a len cap hk=>
  obtain rfl:e=e':=by simpa using hk
  simp only at h
  split at h
  ·rename_i hc
   obtain⟨hc1,hc2,hc3⟩:=hc
   simp only[if_true,Option.map_eq_some_iff,Option.bind_eq_some_iff]at h
   obtain⟨elems,he,rest,hrest,hd⟩:=h
   obtain⟨rfl,rfl⟩:=Prod.mk.inj hd
   have hlen:elems.length=len:=by simpa using mapM_some_length he
   have hrl:rest.length=cap - len:=by simpa using mapM_some_length hrest
   have hel: ∀i,i<len→ ∃x:α,ok x∧ ∃vs:List Value,CellsR w (en x).cells vs∧vs.length=P.cellsOf e∧ ∀j,j<P.cellsOf e→w.cell? ((a.add (i*P.cellsOf e)).add j)=vs[j]?:=by
    intro i hi
    have hy:=mapM_some_get he i i (by simp[hi])
    have hlt:i<elems.length:=by omega
    rw[List.getElem?_eq_getElem hlt]at hy
    simp only[Option.bind_eq_some_iff]at hy
    obtain⟨vs,hv1,hv2⟩:=hy
    obtain⟨_,c2,c3⟩:=World.cells?_some hv1
    obtain⟨x,hx1,hx2⟩:=h1 vs elems[i].1 elems[i].2 hv2 (fun m hm=>hw m (by
     simp only[DataW.weights,hu,List.mem_cons,List.mem_append]
     exact .inr (.inl (weightsAll_mem (List.mem_map.2 ⟨_,List.getElem_mem hlt,rfl⟩) m hm))))
    exact⟨x,hx1,vs,hx2,c2,c3⟩
   have hwt:(len+(cap - len))*P.bytesOf e≤reachBytes:=by
    have:=hw ((elems.length+rest.length)*P.bytesOf e) (by simp[DataW.weights,hu])
    rw[hlen,hrl]at this;exact this
   have hwl:len*P.bytesOf e≤reachBytes:=Nat.le_trans (Nat.mul_le_mul_right _ (by omega)) hwt
   have hch: ∃l:List α,l.length=len∧ ∀(i:Nat) (x:α),l[i]?=some x→ok x∧ ∃vs:List Value,CellsR w (en x).cells vs∧vs.length=P.cellsOf e∧ ∀j,j<P.cellsOf e→w.cell? ((a.add (i*P.cellsOf e)).add j)=vs[j]?:=by
    clear he hrest hw hd hwt hwl hc2 hlen hrl
    induction len with
    |zero=>exact⟨[],rfl,fun i x hx=>by simp at hx⟩
    |succ m ih=>
     obtain⟨l,g1,g2⟩:=ih (fun i hi=>hel i (by omega))
     obtain⟨x,hx⟩:=hel m (by omega)
     refine⟨l++ [x],by simp[g1],fun i y hy=>?_⟩
     by_cases hi:i<l.length
     ·rw[List.getElem?_append_left hi]at hy;exact g2 i y hy
     ·rw[List.getElem?_append_right (by omega)]at hy
      cases hq:i - l.length with
      |zero=>
       rw[hq]at hy;simp at hy;subst hy
       obtain rfl:i=m:=by omega
       exact hx
      |succ q=>rw[hq]at hy;simp at hy
   obtain⟨l,g1,g2⟩:=hch
   refine⟨l,⟨fun x hx=>?_,by rw[g1];exact hwl⟩,CellsR.one1 ?_ rfl⟩
   ·obtain⟨i,hi⟩:=List.getElem?_of_mem hx
    exact(g2 i x hi).1
   ·by_cases hcap:cap=0
    ·subst hcap
     have hl0:len=0:=by omega
     subst hl0
     obtain rfl:l= []:=List.eq_nil_of_length_eq_zero g1
     exact .nil
    ·have hsp:a.spot=none:=by
      by_cases hl0:len=0
      ·have hr0:0<rest.length:=by omega
       have hy:=mapM_some_get hrest 0 0 (by rw[List.getElem?_range (by omega)])
       rw[List.getElem?_eq_getElem hr0]at hy
       simp only[Option.bind_eq_some_iff]at hy
       obtain⟨vs,hv1,hv2⟩:=hy
       obtain⟨_,c2,c3⟩:=World.cells?_some hv1
       have c0:=c3 0 hes
       rw[List.getElem?_eq_getElem (by omega)]at c0
       simpa[Addr.add,hl0]using World.cell?_spot c0
      ·have h0:0<l.length:=by omega
       obtain⟨_,vs,c1,c2,c3⟩:=g2 0 l[0] (by simp[h0])
       have c0:=c3 0 hes
       rw[List.getElem?_eq_getElem (by omega)]at c0
       simpa[Addr.add]using World.cell?_spot c0
     obtain⟨b,off,spot⟩:=a
     simp only at hsp
     subst hsp
     have hadd: ∀k,(Addr.mk b off none).add k=⟨b,off+k,none⟩:=fun k=>by
      unfold Addr.add;split
      ·rename_i hk;subst hk;rfl
      ·rfl
     have hadd2: ∀k j,((Addr.mk b off none).add k).add j=⟨b,off+k+j,none⟩:=fun k j=>by
      rw[hadd];unfold Addr.add;split
      ·rename_i hk;subst hk;rfl
      ·rfl
     simp only[hadd2]at g2
     have key:= @RV.list (wF w) noloc false false (l.map en) b off off cap (P.cellsOf e) (fun i j=>(w.cell? ⟨b,off+i*P.cellsOf e+j,none⟩).getD .nilIface)
      (fun y hy=>by
       obtain⟨x,hx,rfl⟩:=List.mem_map.1 hy
       obtain⟨i,hi⟩:=List.getElem?_of_mem hx
       obtain⟨_,vs,c1,c2,c3⟩:=g2 i x hi
       rw[c1.1,c2])
      (by rw[List.length_map,g1];exact hc2)
      (by
       rw[List.length_map,g1]
       have:len≤len*P.bytesOf e:=Nat.le_mul_of_pos_right _ hb
       have h47:=reachBytes_lt
       unfold maxRow;omega)
      (fun hf=>by cases hf) (fun _=>rfl)
      (fun i y j c hy hj=>by
       simp only[List.getElem?_map,Option.map_eq_some_iff]at hy
       obtain⟨x,hx,rfl⟩:=hy
       obtain⟨_,vs,c1,c2,c3⟩:=g2 i x hx
       have hjl:j<P.cellsOf e:=by rw[←c2,←c1.1];exact(List.getElem?_eq_some_iff.1 hj).1
       show w.cell? _=_
       rw[c3 j hjl,List.getElem?_eq_getElem (by omega)];rfl)
      (fun i y j c hy hj=>by
       simp only[List.getElem?_map,Option.map_eq_some_iff]at hy
       obtain⟨x,hx,rfl⟩:=hy
       obtain⟨_,vs,c1,c2,c3⟩:=g2 i x hx
       have hjl:j<P.cellsOf e:=by rw[←c2,←c1.1];exact(List.getElem?_eq_some_iff.1 hj).1
       have hv:vs[j]?=some vs[j]:=List.getElem?_eq_getElem (by omega)
       rw[c3 j hjl,hv]
       exact(c1.2 j c vs[j] hj hv).1)
      (fun i y j c hy hj=>by
       simp only[List.getElem?_map,Option.map_eq_some_iff]at hy
       obtain⟨x,hx,rfl⟩:=hy
       obtain⟨_,vs,c1,c2,c3⟩:=g2 i x hx
       have hjl:j<P.cellsOf e:=by rw[←c2,←c1.1];exact(List.getElem?_eq_some_iff.1 hj).1
       have hv:vs[j]?=some vs[j]:=List.getElem?_eq_getElem (by omega)
       rw[c3 j hjl,hv]
       exact(c1.2 j c vs[j] hj hv).2)
     rw[List.length_map,g1]at key
     exact key
  ·cases h
 all_goals simp_all
def CameF (enc:TypeId×Value→H) (P:Program) (w:World) {α:Type} (n N:Nat) (fs:List Field) (off:Nat) (en:α→List AV) (ok:α→Prop):Prop:=
 ∀(cs:List Value) (xs:List (DataW H×List MemPlace)),cs.length=N→fs.mapM (fun f=>DataW.trod enc P w 0 (fun _=>true) true n f.type ((cs.drop f.offset).take (P.cellsOf f.type)))=some xs→(∀m∈DataW.weightsEach P (fs.map (·.type)) (xs.map (·.1)),m≤reachBytes)→
  ∃x,ok x∧CellsR w (en x) (cs.drop off)
theorem CameF.nil {n N:Nat}:CameF enc P w n N [] N (fun _:Unit=> []) (fun _=>True):=by
 intro cs xs hN h hw
 refine⟨(),trivial,?_⟩
 rw[List.drop_of_length_le (by omega)]
 exact CellsR.nil
theorem CameF.cons {n N off:Nat} (k:Nat) {f:Field} {fs:List Field} {α β:Type} {en:α→AV} {ok:α→Prop} {enr:β→List AV} {okr:β→Prop} (ho:f.offset=off) (hk:P.cellsOf f.type=k)
 (h1:Came enc P w n f.type en ok) (h2:CameF enc P w n N fs (off+k) enr okr):CameF enc P w n N (f::fs) off (fun x:α×β=>(en x.1).cells++enr x.2) (fun x=>ok x.1∧okr x.2):=by
 intro cs xs hN h hw
 subst ho;subst hk
 simp only[List.mapM_cons]at h
 cases hy:DataW.trod enc P w 0 (fun _=>true) true n f.type ((cs.drop f.offset).take (P.cellsOf f.type))with
 |none=>simp[hy]at h
 |some y=>
  cases hz:fs.mapM (fun f=>DataW.trod enc P w 0 (fun _=>true) true n f.type ((cs.drop f.offset).take (P.cellsOf f.type)))with
  |none=>simp[hy,hz]at h
  |some ys=>
   simp[hy,hz]at h
   subst h
   simp only[List.map_cons,DataW.weightsEach,List.mem_append]at hw
   obtain⟨x,a1,a2⟩:=h1 _ y.1 y.2 hy (fun m hm=>hw m (.inl hm))
   obtain⟨z,b1,b2⟩:=h2 cs ys hN hz (fun m hm=>hw m (.inr hm))
   refine⟨(x,z),⟨a1,b1⟩,?_⟩
   have e:cs.drop f.offset=(cs.drop f.offset).take (P.cellsOf f.type)++cs.drop (f.offset+P.cellsOf f.type):=by
    rw[←List.drop_drop,List.take_append_drop]
   rw[e]
   exact a2.append b2
theorem Came.struct {n N:Nat} {t:TypeId} {fs:Array Field} {l:List Field} {α:Type} {en:α→List AV} {ok:α→Prop} (hu:P.underlying t=some (.struct fs)) (hl:fs.toList=l) (hN:P.cellsOf t=N)
 (h1:CameF enc P w n N l 0 en ok):Came enc P w (n+1) t (fun x:α=> .agg (en x)) ok:=by
 intro cs d ps h hw
 rw[DataW.trod_step]at h
 unfold DataW.trodStep at h
 rw[hu]at h
 split at h
 case h_9 cs0 fs' hk=>
  obtain rfl:fs=fs':=by simpa using hk
  split at h
  ·rename_i hc
   simp only[Option.map_eq_some_iff]at h
   obtain⟨xs,hx,hd⟩:=h
   obtain⟨rfl,rfl⟩:=Prod.mk.inj hd
   rw[hl]at hx
   obtain⟨x,a1,a2⟩:=h1 _ xs (by omega) hx (fun m hm=>hw m (by simpa[DataW.weights,hu,hl]using hm))
   exact⟨x,a1,by rw[List.drop_zero]at a2;exact a2⟩
  ·cases h
 all_goals simp_all
theorem Came.map {n:Nat} {t:TypeId} {α β:Type} {en:α→AV} {ok:α→Prop} {en':β→AV} {ok':β→Prop} (h:Came enc P w n t en ok) (g:α→β) (hg: ∀x,ok x→ok' (g x)∧en' (g x)=en x):Came enc P w n t en' ok':=by
 intro cs d ps h1 h2
 obtain⟨x,a1,a2⟩:=h cs d ps h1 h2
 obtain⟨b1,b2⟩:=hg x a1
 exact⟨g x,b1,by rw[b2];exact a2⟩
theorem Came.arg {t:TypeId} {α:Type} {en:α→AV} {ok:α→Prop} {base:Nat} {v:Value} {d:DataW H} {ps:List MemPlace} (h: ∀n,Came enc P w n t en ok) (ht:DataW.Trod enc P w 0 (fun _=>true) true t v d ps)
 (hv:Value.okWide P w .any base t v) (hw: ∀m∈d.weights P t,m≤reachBytes) (hag: ∀x cs,en x= .agg cs→tyAgg P t=true) (hna:tyAgg P t=true→ ∀x,∃cs,en x= .agg cs): ∃x,ok x∧RV (wF w) noloc (en x) v:=by
 obtain⟨n,ht⟩:=ht
 obtain⟨x,a1,a2,a3⟩:=h n _ d ps ht hw
 refine⟨x,a1,?_⟩
 unfold Value.okWide at hv
 by_cases hA:tyAgg P t=true
 ·obtain⟨cs,hcs⟩:=hna hA x
  rw[hcs]at a2 a3 ⊢
  have: ∃vs:Array Value,v= .agg vs:=by
   unfold tyAgg at hA
   split at hA<;>split at hv<;>simp_all<;>(obtain⟨vs,rfl,_⟩:=hv;exact⟨vs,rfl⟩)
  obtain⟨vs,rfl⟩:=this
  refine .agg (by simpa[AV.cells,Value.cells]using a2) (fun i a v ha hv=>(a3 i a v (by simpa[AV.cells]using ha) (by simpa[Value.cells]using hv)).1) (fun i v hv=>?_)
  have hl:cs.length=vs.size:=by simpa[AV.cells,Value.cells]using a2
  have hi:i<cs.length:=by rw[hl];exact(Array.getElem?_eq_some_iff.1 hv).1
  exact(a3 i cs[i] v (by simp[AV.cells,hi]) (by simpa[Value.cells]using hv)).2
 ·have hc:(en x).cells= [en x]:=by
   cases he:en x with
   |agg cs=>exact absurd (hag x cs he) hA
   |_=>rfl
  rw[hc]at a2 a3
  have hvc:v.cells.toList= [v]:=by
   unfold Value.cells at a2 ⊢
   split
   ·exfalso
    unfold tyAgg at hA
    split at hv
    ·simp_all
    ·simp_all
    ·unfold Cell.okWide Cell.ok at hv
     split at hv<;>simp_all
   ·rfl
  rw[hvc]at a3
  exact(a3 0 (en x) v rfl rfl).1
end
end Go.Ab
namespace Go.Ab
open Go.RowKit
def keepT (live:List Nat):List (Nat×AV)→List (Nat×AV)
 | []=> []
 |p::r=>if live.contains p.1=true then p::keepT live r else keepT live r
def dropO (out:List Nat):Objs→Objs
 | []=> []
 |p::r=>if out.contains p.1=true then dropO out r else p::dropO out r
theorem keepT_nil {live:List Nat}:keepT live []= []:=rfl
theorem keepT_cons {live:List Nat} {p:Nat×AV} {r:List (Nat×AV)}:keepT live (p::r)=if live.contains p.1=true then p::keepT live r else keepT live r:=rfl
theorem dropO_nil {out:List Nat}:dropO out []= []:=rfl
theorem dropO_cons {out:List Nat} {p:Nat×AObj} {r:Objs}:dropO out (p::r)=if out.contains p.1=true then dropO out r else p::dropO out r:=rfl
attribute [go_sem] keepT_nil keepT_cons dropO_nil dropO_cons
structure HideA {α:Type} (A:ASt→Prop) (S:α→ASt) (meas:α→Nat) (inv:α→Prop) (x:α):Prop where
 go: ∀s y,Le (S y) s→meas y<meas x→inv y→A s
structure Owe (p:Prop):Prop where
 it:p
theorem HideA.next {α:Type} {A:ASt→Prop} {S:α→ASt} {meas:α→Nat} {inv:α→Prop} {x:α} {s:ASt} (h:HideA A S meas inv x) (y:α) (hl:Le (S y) s) (hm:meas y<meas x) (hi:Owe (inv y)):A s:=h.go s y hl hm hi.it
theorem awp_for {α:Type} {P:Program} {b:Code} {Q:Exit→ASt→Prop} {n:Nat} {t:List (Nat×AV)} {o:Objs} (live out:List Nat) (f:α→List (Nat×AV)) (g:α→Objs) (meas:α→Nat) (inv:α→Prop) (x0:α)
 (h0:Le ⟨n,f x0++keepT live t,g x0++dropO out o⟩ ⟨n,t,o⟩) (hi:Owe (inv x0))
 (hr: ∀x,inv x→ ∀A,HideA A (fun x=>⟨n,f x++keepT live t,g x++dropO out o⟩) meas inv x→awp P b (thenQ A Q) ⟨n,f x++keepT live t,g x++dropO out o⟩):awp P (.loop b) Q ⟨n,t,o⟩:=by
 refine⟨fun m s=> ∃x,m=meas x∧inv x∧s=⟨n,f x++keepT live t,g x++dropO out o⟩,⟨meas x0,_,h0,x0,rfl,hi.it,rfl⟩,?_⟩
 rintro m s ⟨x,rfl,hx,rfl⟩
 exact hr x hx _ ⟨fun s y hl hm hi=>⟨meas y,_,hm,hl,y,rfl,hi,rfl⟩⟩
end Go.Ab
namespace Go.Ab
open Go.RowKit
def renS (σ:Nat→Nat) (s:ASt):ASt:= {n:=s.n,t:=s.t.map fun p=>(p.1,p.2.ren σ),o:=renO σ (fun _ b=>b) s.o}
theorem Le.ren {s:ASt} (σ τ:Nat→Nat) (h1: ∀p∈s.o,τ (σ p.1)=p.1) (h2: ∀p∈s.o,p.2.pin=true→σ p.1=p.1):Le (renS σ s) s:=by
 intro C F μ a w hs
 have h:=hs.sw
 have hlk: ∀{M y},lk (renO σ (fun _ b=>b) s.o) M=some y→ ∃x,M=σ (τ M)∧lk s.o (τ M)=some x∧y= {renX σ x with pin:=x.pin}:=fun {M y} hy=>by
  obtain⟨x,g1,g2,g3⟩:=lk_ren (σ:=σ) (τ:=τ) h1 hy
  exact⟨x,g1,g2,g3⟩
 have htau: ∀{L x},lk s.o L=some x→τ (σ L)=L:=fun {L x} hx=>h1 _ (lk_mem hx)
 have hloc: ∀L,locOf s.o μ L≠none→locOf (renS σ s).o (fun M=>μ (τ M)) (σ L)=locOf s.o μ L:=fun L hL=>
  locOf_ren (σ:=σ) (τ:=τ) (q:=fun _ b=>b) (μ':=fun M=>μ (τ M)) h1 (fun L x hx=>by show μ (τ (σ L))=μ L;rw[htau hx]) hL
 refine⟨F,fun M=>μ (τ M),⟨h.facts,h.sub,h.lentc,h.grow,h.newf,h.fr,fun M y hy=>?_,fun M y M' y' b c c' hy hy' hm hm'=>?_,fun M y b c hy hm hz=>?_,fun M y b c hy hm=>?_,fun M y y0 h0 hy hp=>?_⟩,hs.defers,hs.n,fun i x hx=>?_⟩
 ·obtain⟨x,g1,g2,rfl⟩:=hlk hy
  exact ObjR_ren (h.obj _ x g2) fun L hL=>hloc L hL
 ·obtain⟨x,g1,g2,rfl⟩:=hlk hy
  obtain⟨x',g1',g2',rfl⟩:=hlk hy'
  rw[g1,g1',h.dist _ x _ x' b c c' g2 g2' hm hm']
 ·obtain⟨x,g1,g2,rfl⟩:=hlk hy
  exact h.excl _ x b c g2 hm (by simpa[renX_fz]using hz)
 ·obtain⟨x,g1,g2,rfl⟩:=hlk hy
  exact h.mine _ x b c g2 hm
 ·obtain⟨x,g1,g2,rfl⟩:=hlk hy
  have hp:x.pin=true:=hp
  have e:σ (τ M)=τ M:=h2 _ (lk_mem g2) hp
  have hM:M=τ M:=g1.trans e
  rw[hM]at h0
  have:=h.keep _ x y0 h0 g2 hp
  rw[←hM]at this
  show μ (τ M)=_∧_
  rw[←hM]
  exact⟨this.1,by rw[renX_loc];exact this.2.1,by show(renX _ x).arr=_;rw[renX_arr];exact this.2.2⟩
 ·simp only[renS]at hx
  rw[get_map (fun y:AV=>y.ren σ)]at hx
  cases hy:lk s.t i with
  |none=>simp[hy]at hx
  |some y=>
   simp[hy]at hx
   subst hx
   have hv:=hs.slot i y hy
   exact hv.ren fun L hL=>hloc L (hv.has_loc L hL)
def endL (P:Program) (rs:List ResultVar) (R:AV→Objs→Prop):Exit→ASt→Prop
 | .normal,s=> ∃s0 xs,Le s0 s∧resL P s0 rs=some xs∧R (pack xs) s0.o
 | .ret,s=> ∃s0 xs,Le s0 s∧resL P s0 rs=some xs∧R (pack xs) s0.o
 |_,_=>False
theorem mcall_of_awpL {P:Program} {f:FuncId} {fn:Func} {c:Code} {args:List AV} {o:Objs} {R:AV→Objs→Prop} (hf:P.funcs[f]?=some fn) (hc: ∀cargs w,(callFunc f cargs).run P w= .ok (.enter f cargs) w) (hb:fn.body=some c)
 (hn:args.length≤fn.ntmps) (h:awp P c (endL P fn.results.toList R) (entryM fn.ntmps args o)):MCall P f args o R:=by
 refine mcall_of_AWp hf hc hb hn fun C F μ a w hm hs=>?_
 refine wpIn_mono (awp_sound c _ _ (.inl rfl) h C F μ a w hm hs) ?_
 rintro e a' w' ⟨F',μ',s',hq,hm',hs'⟩
 cases e with
 |normal=>
  obtain⟨s0,xs,hl,h1,h2⟩:=hq
  obtain⟨F2,μ2,hs2⟩:=hl _ F' μ' a' w' hs'
  exact⟨F2,μ2,s0,⟨xs,h1,h2⟩,hm',hs2⟩
 |ret=>
  obtain⟨s0,xs,hl,h1,h2⟩:=hq
  obtain⟨F2,μ2,hs2⟩:=hl _ F' μ' a' w' hs'
  exact⟨F2,μ2,s0,⟨xs,h1,h2⟩,hm',hs2⟩
 |_=>exact hq.elim
end Go.Ab
namespace Go.Ab
open Go.RowKit
def mapL (ps:List (Nat×Nat)) (L:Nat):Nat:=match lk ps L with
 |some M=>M
 |none=>L
theorem mapL_nil {L:Nat}:mapL [] L=L:=rfl
theorem mapL_cons {k v L:Nat} {r:List (Nat×Nat)}:mapL ((k,v)::r) L=if k=L then v else mapL r L:=by
 unfold mapL;simp only[lk];by_cases h:k=L
 ·rw[if_pos h,if_pos h]
 ·rw[if_neg h,if_neg h]
theorem stepK_fis {P:Program} {s:ASt} {k:ASt→Prop} {g:FuncId} {as:List AV} {d:Nat} (ps qs:List (Nat×Nat)) (B:Nat) (oc:Objs) (ac:List AV) {r0:AV} {o0:Objs} (hf:Fits (mapL ps) (mapL qs) B oc s.o) (hac:AV.labsL (isK oc) ac=true) (has:as=ac.map (AV.ren (mapL ps)))
 (hc:MCall P g ac oc (fun r o'=>r=r0∧o'=o0)) (hd:d<s.n) (hrest:restOk (mapL ps) (mapL qs) oc o0 s.o=true) (hk:k (useS (mapL ps) (mapL qs) B oc s d r0 o0)):stepK P (.c g as) (some d) k s:=
 stepK_f (mapL ps) (mapL qs) B oc ac hf hac has hc hd fun r o' h=>by obtain⟨rfl,rfl⟩:=h;exact⟨hrest,hk⟩
theorem killOs_nil {o:Objs}:killOs [] o=o:=rfl
theorem killOs_cons {T:Nat} {r:List Nat} {o:Objs}:killOs (T::r) o=killOs r (killO T o):=rfl
attribute [go_sem] killOs_nil killOs_cons
def slotsF (q:Nat→Bool):List (Nat×AV)→List (Nat×AV)
 | []=> []
 |p::r=>(p.1,if p.2.labs q=true then p.2 else .dead)::slotsF q r
theorem slotsF_map (q:Nat→Bool): ∀t:List (Nat×AV),t.map (fun p=>(p.1,if p.2.labs q=true then p.2 else .dead))=slotsF q t
 | []=>rfl
 |p::r=>by simp only[List.map_cons,slotsF,slotsF_map q r]
theorem slotsF_nil {q:Nat→Bool}:slotsF q []= []:=rfl
theorem slotsF_cons {q:Nat→Bool} {p:Nat×AV} {r:List (Nat×AV)}:slotsF q (p::r)=(p.1,if p.2.labs q=true then p.2 else .dead)::slotsF q r:=rfl
def objsF (σ:Nat→Nat) (q:Nat→Bool):Objs→Objs
 | []=> []
 |p::r=>(σ p.1,{renX σ p.2 with pin:=q p.1})::objsF σ q r
theorem objsF_nil {σ:Nat→Nat} {q:Nat→Bool}:objsF σ q []= []:=rfl
theorem objsF_cons {σ:Nat→Nat} {q:Nat→Bool} {p:Nat×AObj} {r:Objs}:objsF σ q (p::r)=(σ p.1,{renX σ p.2 with pin:=q p.1})::objsF σ q r:=rfl
theorem objsF_map (σ:Nat→Nat) (q:Nat→Bool): ∀o:Objs,renO σ (fun L _=>q L) o=objsF σ q o
 | []=>rfl
 |p::r=>by simp only[renO,List.map_cons,objsF]at*;rw[←objsF_map σ q r];rfl
theorem useS_eq {σ τ:Nat→Nat} {B:Nat} {oc:Objs} {s:ASt} {d:Nat} {r:AV} {o':Objs}:useS σ τ B oc s d r o'=
 ⟨s.n,(d,r.ren (fN σ B oc o'))::slotsF (okF σ τ oc o') s.t,objsF (fN σ B oc o') (fun L=>kept oc o' L&&pinOf s.o (σ L)) o'++restO σ oc s.o⟩:=by
 unfold useS outF
 rw[slotsF_map,objsF_map]
theorem restO_nil {σ:Nat→Nat} {oc:Objs}:restO σ oc []= []:=rfl
theorem restO_cons {σ:Nat→Nat} {oc:Objs} {p:Nat×AObj} {r:Objs}:restO σ oc (p::r)=if img σ oc p.1=true then restO σ oc r else p::restO σ oc r:=by
 unfold restO;rw[List.filter_cons];cases img σ oc p.1<;>simp
theorem img_nil {σ:Nat→Nat} {M:Nat}:img σ [] M=false:=rfl
theorem img_cons {σ:Nat→Nat} {p:Nat×AObj} {oc:Objs} {M:Nat}:img σ (p::oc) M=(decide (σ p.1=M)||img σ oc M):=by
 unfold img;rw[List.any_cons];rfl
theorem isK_nil {L:Nat}:isK [] L=false:=rfl
theorem isK_cons {p:Nat×AObj} {o:Objs} {L:Nat}:isK (p::o) L=(decide (p.1=L)||isK o L):=by
 unfold isK;obtain⟨k,x⟩:=p;simp only[lk];by_cases h:k=L
 ·simp[h]
 ·simp[h]
theorem pinOf_nil {L:Nat}:pinOf [] L=false:=rfl
theorem pinOf_cons {p:Nat×AObj} {o:Objs} {L:Nat}:pinOf (p::o) L=if p.1=L then p.2.pin else pinOf o L:=by
 unfold pinOf;obtain⟨k,x⟩:=p;simp only[lk];by_cases h:k=L
 ·rw[if_pos h,if_pos h]
 ·rw[if_neg h,if_neg h]
theorem kept_eq {oc o':Objs} {L:Nat}:kept oc o' L=(isK oc L&&pinOf o' L):=rfl
theorem okF_eq {σ τ:Nat→Nat} {oc o':Objs} {M:Nat}:okF σ τ oc o' M=(!img σ oc M||kept oc o' (τ M)):=rfl
theorem fN_eq {σ:Nat→Nat} {B:Nat} {oc o':Objs} {L:Nat}:fN σ B oc o' L=if kept oc o' L=true then σ L else L+B:=rfl
theorem restOk_eq {σ τ:Nat→Nat} {oc o' s:Objs}:restOk σ τ oc o' s=(restO σ oc s).all fun p=>p.2.arr||AV.labsL (okF σ τ oc o') p.2.xs:=rfl
theorem renX_true {σ:Nat→Nat} {fz pin:Bool} {es kd:Nat} {xs:List AV}:renX σ ⟨true,fz,pin,es,xs,kd⟩=⟨true,fz,pin,es,xs,kd⟩:=rfl
theorem renX_false {σ:Nat→Nat} {fz pin:Bool} {es kd:Nat} {xs:List AV}:renX σ ⟨false,fz,pin,es,xs,kd⟩=⟨false,fz,pin,es,xs.map (AV.ren σ),kd⟩:=rfl
theorem sameX_some {σ:Nat→Nat} {x y:AObj}:sameX σ x (some y)=(y.kd=x.kd∧y.arr=x.arr∧y.fz=x.fz∧y.es=x.es∧y.xs=(renX σ x).xs):=rfl
theorem keysLt_nil {B:Nat}:keysLt B []=true:=rfl
theorem keysLt_cons {B:Nat} {p:Nat×AObj} {o:Objs}:keysLt B (p::o)=(decide (p.1<B)&&keysLt B o):=rfl
attribute [go_sem] mapL_nil mapL_cons slotsF_nil slotsF_cons objsF_nil objsF_cons useS_eq restO_nil restO_cons img_nil img_cons isK_nil isK_cons pinOf_nil pinOf_cons kept_eq okF_eq fN_eq restOk_eq renX_true renX_false sameX_some keysLt_nil keysLt_cons
 AV.ren AV.renL AV.labs AV.labsL List.all_cons List.all_nil List.forall_mem_cons
def rawQ (q:Option (List AV)) (z y:Option St):Option St:=match q with
 |some []=>z
 |_=>y
def rawE (a:Option (TypeId×Nat×Nat)) (b:Bool) (d:Nat) (s:ASt):Option St:=match a,b with
 |some _,true=>some ⟨decide (d<s.n),s.put d (.sc (.slice none 0 0))⟩
 |_,_=>none
theorem appendN_raw {P:Program} {st xt:TypeId} {b:AV} {d:Nat} {s:ASt}:appendN P st xt (.sc (.slice none 0 0)) b d s=rawQ (srcOf s.o b) (rawE (tyEl P st) (tySrc P xt) d s) (appendA P st xt (.list false true []) b d s):=by
 unfold appendN rawQ rawE
 cases srcOf s.o b with
 |none=>rfl
 |some l=>cases l<;>rfl
theorem rawQ_nil {z y:Option St}:rawQ (some []) z y=z:=rfl
theorem rawQ_cons {a:AV} {l:List AV} {z y:Option St}:rawQ (some (a::l)) z y=y:=rfl
theorem rawE_some {q:TypeId×Nat×Nat} {d:Nat} {s:ASt}:rawE (some q) true d s=some ⟨decide (d<s.n),s.put d (.sc (.slice none 0 0))⟩:=rfl
attribute [go_sem] appendN_raw rawQ_nil rawQ_cons rawE_some
def dtQ (n L:Nat) (x:Option AObj):Option Sv:=match x with
 |some x=>if x.arr=true then some ⟨decide (n≠0),.ptr L 0 0⟩else none
 |none=>none
def dtS (z:Option Sv) (o:Objs):Option AV→Option Sv
 |some (.ref L 0 n)=>dtQ n L (lk o L)
 |_=>z
theorem dtS_ref {z:Option Sv} {o:Objs} {L n:Nat}:dtS z o (some (.ref L 0 n))=dtQ n L (lk o L):=rfl
theorem dtS_sc {z:Option Sv} {o:Objs} {v:Value}:dtS z o (some (.sc v))=z:=rfl
theorem dtQ_some {n L:Nat} {fz pin:Bool} {es kd:Nat} {xs:List AV}:dtQ n L (some ⟨true,fz,pin,es,xs,kd⟩)=some ⟨decide (n≠0),.ptr L 0 0⟩:=rfl
theorem aop_sdata {P:Program} {d:Nat} {x:Operand} {ts:Array TypeId} {ty:TypeId} {pos:String} {af g} {s:ASt}:aop P ⟨some d,.call ⟨.builtin .unsafeSliceData,#[x],ts⟩,ty,pos,af,g⟩ s=
 ofSv (dtS (openA P ⟨some d,.call ⟨.builtin .unsafeSliceData,#[x],ts⟩,ty,pos,af,g⟩ (ev s.t)) s.o (ev s.t x)):=by
 have e:aop P ⟨some d,.call ⟨.builtin .unsafeSliceData,#[x],ts⟩,ty,pos,af,g⟩ s=ofSv (match ev s.t x with
  |some (.ref L lo n)=>dataA L lo n s.o
  |_=>openA P ⟨some d,.call ⟨.builtin .unsafeSliceData,#[x],ts⟩,ty,pos,af,g⟩ (ev s.t)):=rfl
 rw[e]
 cases hx:ev s.t x with
 |none=>rfl
 |some a=>
  cases a with
  |ref L lo n=>
   cases lo with
   |zero=>
    simp only[dtS,dtQ,dataA]
    cases lk s.o L with
    |none=>rfl
    |some x=>simp
   |succ lo=>
    have:dataA L (lo+1) n s.o=none:=by
     unfold dataA
     cases lk s.o L with
     |none=>rfl
     |some x=>simp
    simp only[dtS,this]
    unfold openA
    rw[if_neg]
    rintro⟨_,h⟩
    have:=h x (by simp[Op.operands,Call.operands])
    rw[hx]at this
    simp[toV,toV1]at this
  |_=>rfl
attribute [go_sem] aop_sdata dtS_ref dtS_sc dtQ_some
theorem bytesOf_map: ∀l:List UInt8,bytesOf (l.map bAV)=some l
 | []=>rfl
 |c::l=>by
  have h:=c.toNat_lt
  simp only[List.map_cons,bAV,bytesOf,bytesOf_map l]
  rw[if_pos (by constructor<;>omega)]
  simp
theorem unsStrX_b {P:Program} {pt:TypeId} {L d:Nat} {s:ASt} {l:List UInt8} {pin:Bool} {kd:Nat}:unsStrX P pt L d (l.length:Int) s (some ⟨true,false,pin,1,l.map bAV,kd⟩)=
 if strT P pt kd=true then some ⟨decide (d<s.n∧l≠ []),(s.renew0 L L (arrO 1 [])).put d (.sc (.string ⟨l.toArray⟩))⟩else none:=by
 simp only[unsStrX,bytesOf_map]
 simp
attribute [go_sem] unsStrX_b
theorem renewZ_eq {n:Nat} {t:List (Nat×AV)} {o:Objs} {L T:Nat} {x:AObj}:ASt.renew0 ⟨n,t,o⟩ L T x=⟨n,killT L (killT T t),(T,x)::killO L (killO T (del o L))⟩:=rfl
attribute [go_sem] renewZ_eq
theorem lenA_raw {P:Program} {t:TypeId}:lenA P t (.sc (.slice none 0 0))=lenS (tyEl P t) 0:=rfl
attribute [go_sem] lenA_raw
theorem maxRow_eq:maxRow=140737488355328:=rfl
attribute [go_sem] maxRow_eq
theorem entryM_eq {n:Nat} {as:List AV} {o:Objs}:entryM n as o=⟨n,(as.zipIdx 0).map fun p=>(p.2,p.1),o⟩:=rfl
theorem Fits.mk' {σ τ:Nat→Nat} {B:Nat} {oc s:Objs} (h1:keysLt B s=true) (h2: ∀p∈oc,τ (σ p.1)=p.1∧p.2.pin=true∧sameX σ p.2 (lk s (σ p.1))∧(p.2.arr||AV.labsL (isK oc) p.2.xs)=true):Fits σ τ B oc s:=⟨h1,h2⟩
theorem endL_ret {P:Program} {rs:List ResultVar} {R:AV→Objs→Prop} {s:ASt} (s0:ASt) (xs:List AV) (hl:Le s0 s) (h1:resL P s0 rs=some xs) (h2:R (pack xs) s0.o):endL P rs R .ret s:=⟨s0,xs,hl,h1,h2⟩
theorem endL_normal {P:Program} {rs:List ResultVar} {R:AV→Objs→Prop} {s:ASt} (s0:ASt) (xs:List AV) (hl:Le s0 s) (h1:resL P s0 rs=some xs) (h2:R (pack xs) s0.o):endL P rs R .normal s:=⟨s0,xs,hl,h1,h2⟩
theorem Le.renSub {s0 s:ASt} (ps qs:List (Nat×Nat)) (h1: ∀p∈s.o,mapL qs (mapL ps p.1)=p.1) (h2: ∀p∈s.o,p.2.pin=true→mapL ps p.1=p.1) (hl:Le s0 (renS (mapL ps) s)):Le s0 s:=hl.trans (Le.ren _ _ h1 h2)
def renT' (σ:Nat→Nat):List (Nat×AV)→List (Nat×AV)
 | []=> []
 |p::r=>(p.1,p.2.ren σ)::renT' σ r
theorem renT'_nil {σ:Nat→Nat}:renT' σ []= []:=rfl
theorem renT'_cons {σ:Nat→Nat} {p:Nat×AV} {r:List (Nat×AV)}:renT' σ (p::r)=(p.1,p.2.ren σ)::renT' σ r:=rfl
def renO' (σ:Nat→Nat):Objs→Objs
 | []=> []
 |p::r=>(σ p.1,{renX σ p.2 with pin:=p.2.pin})::renO' σ r
theorem renO'_nil {σ:Nat→Nat}:renO' σ []= []:=rfl
theorem renO'_cons {σ:Nat→Nat} {p:Nat×AObj} {r:Objs}:renO' σ (p::r)=(σ p.1,{renX σ p.2 with pin:=p.2.pin})::renO' σ r:=rfl
theorem renS_eq {σ:Nat→Nat} {n:Nat} {t:List (Nat×AV)} {o:Objs}:renS σ ⟨n,t,o⟩=⟨n,renT' σ t,renO' σ o⟩:=by
 have h1: ∀t:List (Nat×AV),t.map (fun p=>(p.1,p.2.ren σ))=renT' σ t:=fun t=>by
  induction t with
  |nil=>rfl
  |cons p r ih=>simp only[List.map_cons,renT',ih]
 have h2: ∀o:Objs,renO σ (fun _ b=>b) o=renO' σ o:=fun o=>by
  induction o with
  |nil=>rfl
  |cons p r ih=>simp only[renO,List.map_cons,renO']at*;rw[ih]
 simp only[renS,h1,h2]
attribute [go_sem] renT'_nil renT'_cons renO'_nil renO'_cons renS_eq entryM_eq
theorem zHg {P:Program} {Q:Exit→ASt→Prop} {K:ASt→Prop} {c:Code} {s:ASt} (k:awp P c Q s) (h:Hide K (awp P c Q):=by assumption):K s:=Hide.go h k
theorem zAo {a b:Prop} (hb:b) (ha:a:=by omega):a∧b:=⟨ha,hb⟩
theorem zDr {P:Program} {id:Nat} {ops:Array Oper} {Q:Exit→ASt→Prop} {s:ASt} (m:Nat) (hm:P.follows .mixedOrders=true) (h:darun P ops m ops.toList (Q .normal) s) (hok:drawOK ops m=true:=by decide+kernel):awp P (.region id ops true) Q s:=awp_draw m hm hok h
theorem zT:(∀i:Decidable True,@decide True i=true)∧(∀i:Decidable False,@decide False i=false)∧((¬False)=True):=⟨fun _=>by simp,fun _=>by simp,by simp⟩
end Go.Ab
