/-
  Ab20: the rules by which a walk is reckoned.
-/
import Derived.Test.YtldecgghhaoliaaAb19
namespace Go.Ab
open Go.RowKit
set_option linter.unusedVariables false
section
variable {P : Program} {Q : Exit → ASt → Prop} {s : ASt} {k : ASt → Prop}

theorem awp_skip : awp P .skip Q s = Q .normal s := rfl
theorem awp_region {id : Nat} {ops : Array Oper} : awp P (.region id ops false) Q s = arun P ops ops.toList (Q .normal) s := by simp [awp]
theorem awp_seq {a b : Code} : awp P (.seq a b) Q s = awp P a (thenQ (awp P b Q) Q) s := rfl
/-- A test's outcome is looked at before its ways. -/
def condQ (P : Program) (v : Option AV) (x y : Code) (Q : Exit → ASt → Prop) (s : ASt) : Prop :=
  match v with
  | some (.sc (.bool b)) => (b = true → awp P x Q s) ∧ (b = false → awp P y Q s)
  | _ => False
theorem awp_cond {c : Operand} {x y : Code} : awp P (.cond c x y) Q s = condQ P (ev s.t c) x y Q s := rfl
theorem awp_block {id : Nat} {b : Code} : awp P (.block id b) Q s = awp P b (blockQ id Q) s := rfl
theorem awp_exit {id : Nat} : awp P (.exit id) Q s = Q (.exit id) s := rfl
theorem awp_ret : awp P .ret Q s = Q .ret s := rfl
theorem thenQ_normal {K : ASt → Prop} : thenQ K Q .normal s = K s := rfl
theorem thenQ_ret {K : ASt → Prop} : thenQ K Q .ret s = Q .ret s := rfl
theorem thenQ_exit {K : ASt → Prop} {id : Nat} : thenQ K Q (.exit id) s = Q (.exit id) s := rfl
theorem blockQ_normal {id : Nat} : blockQ id Q .normal s = Q .normal s := rfl
theorem blockQ_ret {id : Nat} : blockQ id Q .ret s = Q .ret s := rfl
theorem blockQ_exit {id id' : Nat} : blockQ id Q (.exit id') s = if id' = id then Q .normal s else Q (.exit id') s := rfl
theorem condQ_true {x y : Code} : condQ P (some (.sc (.bool true))) x y Q s = awp P x Q s := by simp [condQ]
theorem condQ_false {x y : Code} : condQ P (some (.sc (.bool false))) x y Q s = awp P y Q s := by simp [condQ]
theorem condQ_split {b : Bool} {x y : Code} (h1 : b = true → awp P x Q s) (h2 : b = false → awp P y Q s) : condQ P (some (.sc (.bool b))) x y Q s := ⟨h1, h2⟩
theorem condQ_dec {p : Prop} [Decidable p] {x y : Code} (h1 : p → awp P x Q s) (h2 : ¬ p → awp P y Q s) : condQ P (some (.sc (.bool (decide p)))) x y Q s :=
  ⟨fun h => h1 (of_decide_eq_true h), fun h => h2 (of_decide_eq_false h)⟩
theorem condQ_ndec {p : Prop} [Decidable p] {x y : Code} (h1 : ¬ p → awp P x Q s) (h2 : p → awp P y Q s) : condQ P (some (.sc (.bool (!decide p)))) x y Q s :=
  ⟨fun h => h1 (by simpa using h), fun h => h2 (by simpa using h)⟩
/-- The end of a walk: what is handed back. -/
def endV (P : Program) (rs : List ResultVar) (fs : List Nat) (R : AV → Prop) (s : ASt) : Prop := match aret P rs fs s with
  | some r => R r
  | none => False
theorem end_ret {rs : List ResultVar} {R : AV → Prop} (fs : List Nat) (h : endV P rs fs R s) : endQ P rs R .ret s := by
  unfold endV at h
  split at h
  · rename_i r hr; exact ⟨fs, r, hr, h⟩
  · exact h.elim
theorem end_normal {rs : List ResultVar} {R : AV → Prop} (fs : List Nat) (h : endV P rs fs R s) : endQ P rs R .normal s := by
  unfold endV at h
  split at h
  · rename_i r hr; exact ⟨fs, r, hr, h⟩
  · exact h.elim

theorem arun_nil {ops : Array Oper} : arun P ops [] k s = k s := rfl
theorem arun_cons {ops : Array Oper} {o : Oper} {r : List Oper} : arun P ops (o :: r) k s = gK P (gval ops o.guard s) o (arun P ops r k) s := rfl
theorem gval_none {ops : Array Oper} : gval ops none s = .run := rfl
theorem gval_some {ops : Array Oper} {j : Nat} {want : Bool} : gval ops (some (j, want)) s = match (gslot ops j).bind (lk s.t) with
  | some (.sc (.bool b)) => .test b want
  | some (.tup []) => .skip
  | _ => .bad := rfl
theorem gK_skip {o : Oper} : gK P .skip o k s = skipK o.dst k s := rfl
theorem dgK_skip {o : Oper} : dgK P .skip o k s = dskipK o.dst k s := rfl
theorem dalK_some {d : Nat} : dalK (some d) k s = (d < s.n ∧ k (s.put d .dead)) := rfl
theorem gK_run {o : Oper} : gK P .run o k s = astep P o k s := rfl
theorem gK_tt {o : Oper} : gK P (.test true true) o k s = astep P o k s := by simp [gK]
theorem gK_ff {o : Oper} : gK P (.test false false) o k s = astep P o k s := by simp [gK]
theorem gK_tf {o : Oper} : gK P (.test true false) o k s = skipK o.dst k s := by simp [gK]
theorem gK_ft {o : Oper} : gK P (.test false true) o k s = skipK o.dst k s := by simp [gK]
theorem gK_split {b want : Bool} {o : Oper} (h1 : b = true → gK P (.test true want) o k s) (h2 : b = false → gK P (.test false want) o k s) : gK P (.test b want) o k s := by
  cases b
  · exact h2 rfl
  · exact h1 rfl
theorem gK_dec {p : Prop} [Decidable p] {want : Bool} {o : Oper} (h1 : p → gK P (.test true want) o k s) (h2 : ¬ p → gK P (.test false want) o k s) : gK P (.test (decide p) want) o k s :=
  gK_split (fun h => h1 (of_decide_eq_true h)) (fun h => h2 (of_decide_eq_false h))
theorem gK_ndec {p : Prop} [Decidable p] {want : Bool} {o : Oper} (h1 : ¬ p → gK P (.test true want) o k s) (h2 : p → gK P (.test false want) o k s) : gK P (.test (!decide p) want) o k s :=
  gK_split (fun h => h1 (by simpa using h)) (fun h => h2 (by simpa using h))
theorem skipK_some {d : Nat} : skipK (some d) k s = (d < s.n ∧ k (s.put d (.tup []))) := rfl
theorem stepK_v {n : Bool} {a : AV} {d : Nat} : stepK P (.v ⟨n, a⟩) (some d) k s = (n ∧ d < s.n ∧ k (s.put d a)) := rfl
theorem stepK_h {n : Bool} {s' : ASt} {d : Option Nat} : stepK P (.h ⟨n, s'⟩) d k s = (n ∧ k s') := by cases d <;> rfl
theorem stepK_no {d : Option Nat} : stepK P .no d k s = False := by cases d <;> rfl
/-- A call, by a contract. -/
theorem stepK_call {g : FuncId} {as bs : List AV} {d : Nat} {R : AV → Prop} (fs : List Nat) (s1 : ASt) (hf : freezeL fs s = some s1) (hl : lendAll s1.o as = some bs) (hc : ACall P g bs R) (hd : d < s.n) (hk : ∀ r, R r → k (retS s1 d r)) :
    stepK P (.c g as) (some d) k s := ⟨hd, .inl ⟨fs, s1, bs, R, hf, hl, hc, hk⟩⟩
/-- A call that works on the caller's objects. -/
theorem stepK_m {g : FuncId} {as : List AV} {d : Nat} (K B : Nat) {R : AV → Objs → Prop} (hB : keysLt B s.o = true) (hc : MCall P g (as.map (AV.ren (· + K))) (inO K s.o) R) (hd : d < s.n) (hk : ∀ r o', R r o' → k (backS K B s d r o')) :
    stepK P (.c g as) (some d) k s := ⟨hd, .inr (.inl ⟨K, B, R, hB, hc, hk⟩)⟩
/-- A call that hands its argument back. -/
theorem stepK_same {g : FuncId} {a : AV} {d : Nat} (h : ∀ x w, (callFunc g #[x]).run P w = .ok (.value x) w) (hd : d < s.n) (hk : k (s.put d a)) : stepK P (.c g [a]) (some d) k s := ⟨hd, .inr (.inr ⟨a, rfl, h, hk⟩)⟩
/-- A call of a function whose result is known. -/
theorem stepK_is {g : FuncId} {as bs : List AV} {d : Nat} {r : AV} (hl : lendAll s.o as = some bs) (hc : ACall P g bs (fun x => x = r)) (hd : d < s.n) (hk : k (retS s d r)) :
    stepK P (.c g as) (some d) k s := stepK_call [] s rfl hl hc hd fun _ h => h ▸ hk

/-- A region that draws its order: m operations come to values, the rest waits for them. -/
theorem awp_draw {id : Nat} {ops : Array Oper} (m : Nat) (hm : P.follows .mixedOrders = true) (hok : drawOK ops m = true) (h : darun P ops m ops.toList (Q .normal) s) : awp P (.region id ops true) Q s := ⟨hm, m, hok, h⟩
theorem darun_zero {ops : Array Oper} {l : List Oper} : darun P ops 0 l k s = allocsK P ((ops.toList.take (ops.size - l.length)).filter isAl) (arun P ops l k) s := rfl
theorem allocsK_nil : allocsK P [] k s = k s := rfl
theorem isAl_eq {d : Option Nat} {op : Op} {ty : TypeId} {pos af g} : isAl ⟨d, op, ty, pos, af, g⟩ = match op, d, g with
  | .alloc _, some _, none => true
  | _, _, _ => false := rfl
theorem allocsK_cons {t : TypeId} {d : Nat} {ty : TypeId} {pos af g} {r : List Oper} : allocsK P (⟨some d, .alloc t, ty, pos, af, g⟩ :: r) k s = match tyZ P t with
  | some z => z.plain = true ∧ d < s.n ∧ allocsK P r k ((s.adopt d (boxO z)).put d (.ptr d 0 0))
  | none => False := rfl
theorem darun_cons {ops : Array Oper} {m : Nat} {o : Oper} {r : List Oper} : darun P ops (m + 1) (o :: r) k s = dgK P (gval ops o.guard s) o (darun P ops m r k) s := rfl
theorem dgK_run {o : Oper} : dgK P .run o k s = dstep P o k s := rfl
theorem dgK_tt {o : Oper} : dgK P (.test true true) o k s = dstep P o k s := by simp [dgK]
theorem dgK_ff {o : Oper} : dgK P (.test false false) o k s = dstep P o k s := by simp [dgK]
theorem dgK_tf {o : Oper} : dgK P (.test true false) o k s = dskipK o.dst k s := by simp [dgK]
theorem dgK_ft {o : Oper} : dgK P (.test false true) o k s = dskipK o.dst k s := by simp [dgK]
theorem dgK_split {b want : Bool} {o : Oper} (h1 : b = true → dgK P (.test true want) o k s) (h2 : b = false → dgK P (.test false want) o k s) : dgK P (.test b want) o k s := by
  cases b
  · exact h2 rfl
  · exact h1 rfl
theorem dgK_dec {p : Prop} [Decidable p] {want : Bool} {o : Oper} (h1 : p → dgK P (.test true want) o k s) (h2 : ¬ p → dgK P (.test false want) o k s) : dgK P (.test (decide p) want) o k s :=
  dgK_split (fun h => h1 (of_decide_eq_true h)) (fun h => h2 (of_decide_eq_false h))
theorem dgK_ndec {p : Prop} [Decidable p] {want : Bool} {o : Oper} (h1 : ¬ p → dgK P (.test true want) o k s) (h2 : p → dgK P (.test false want) o k s) : dgK P (.test (!decide p) want) o k s :=
  dgK_split (fun h => h1 (by simpa using h)) (fun h => h2 (by simpa using h))
theorem dskipK_some {d : Nat} : dskipK (some d) k s = (d < s.n ∧ k (s.put d (.tup []))) := rfl
theorem dstep_eq {o : Oper} : dstep P o k s = match isAl o with
  | true => dalK o.dst k s
  | false => dstepK P (aop P o s) o.dst k s := rfl
theorem dstepK_v {n : Bool} {a : AV} {d : Nat} : dstepK P (.v ⟨n, a⟩) (some d) k s = (n ∧ d < s.n ∧ k (s.put d a)) := rfl
theorem dstepK_no {d : Option Nat} : dstepK P .no d k s = False := by cases d <;> rfl
theorem dstepK_is {g : FuncId} {as bs : List AV} {d : Nat} {r : AV} (hl : lendAll s.o as = some bs) (hc : ACall P g bs (fun x => x = r)) (hf : flat r = true) (hd : d < s.n) (hk : k (s.put d r)) :
    dstepK P (.c g as) (some d) k s := ⟨hd, bs, r, hl, hc, hf, hk⟩

theorem put_eq {n : Nat} {t : List (Nat × AV)} {o : Objs} {d : Nat} {a : AV} : ASt.put ⟨n, t, o⟩ d a = ⟨n, (d, a) :: t, o⟩ := rfl
theorem fresh_eq {n : Nat} {t : List (Nat × AV)} {o : Objs} {d : Nat} {x : AObj} {r : AV} : ASt.fresh ⟨n, t, o⟩ d x r = ⟨n, (d, r) :: killT d t, (d, x) :: killO d o⟩ := rfl
theorem renew_eq {n : Nat} {t : List (Nat × AV)} {o : Objs} {L T d : Nat} {x : AObj} {r : AV} : ASt.renew ⟨n, t, o⟩ L T d x r = ⟨n, (d, r) :: killT L (killT T t), (T, x) :: killO L (killO T (del o L))⟩ := rfl
theorem renew0_eq {n : Nat} {t : List (Nat × AV)} {o : Objs} {T : Nat} {x : AObj} : ASt.adopt ⟨n, t, o⟩ T x = ⟨n, killT T (killT T t), (T, x) :: killO T (killO T (del o T))⟩ := rfl
theorem lk_nil {α : Type} {i : Nat} : lk ([] : List (Nat × α)) i = none := rfl
theorem lk_cons {α : Type} {k i : Nat} {a : α} {r : List (Nat × α)} : lk ((k, a) :: r) i = if k = i then some a else lk r i := rfl

theorem killT_nil {L : Nat} : killT L [] = [] := rfl
theorem killT_cons {L i : Nat} {a : AV} {r : List (Nat × AV)} : killT L ((i, a) :: r) = (i, kill1 L a) :: killT L r := rfl
theorem killO_nil {L : Nat} : killO L [] = [] := rfl
theorem killO_cons {L i : Nat} {x : AObj} {r : Objs} : killO L ((i, x) :: r) = (i, killX L x) :: killO L r := rfl
theorem killX_arr {kd : Nat} {L es : Nat} {fz pin : Bool} {xs : List AV} : killX L ⟨true, fz, pin, es, xs, kd⟩ = ⟨true, fz, pin, es, xs, kd⟩ := rfl
theorem killX_box {kd : Nat} {L es : Nat} {fz pin : Bool} {xs : List AV} : killX L ⟨false, fz, pin, es, xs, kd⟩ = ⟨false, fz, pin, es, xs.map (kill1 L), kd⟩ := rfl
theorem del_nil {L : Nat} : del [] L = [] := rfl
theorem del_cons {L i : Nat} {x : AObj} {r : Objs} : del ((i, x) :: r) L = if i = L then del r L else (i, x) :: del r L := by
  simp only [del, List.filter_cons]
  by_cases h : i = L <;> simp [h]

theorem kl_sc {L : Nat} {v : Value} : kl L (.sc v) = .sc v := by simp [kl, AV.has]
theorem kl_list {L : Nat} {l f : Bool} {xs : List AV} : kl L (.list l f xs) = .list l f xs := by simp [kl, AV.has]
theorem kl_iptr {L i o : Nat} {l : Bool} {xs : List AV} : kl L (.iptr l xs i o) = .iptr l xs i o := by simp [kl, AV.has]
theorem kl_ref {L L' a b : Nat} : kl L (.ref L' a b) = if L = L' then .dead else .ref L' a b := by simp [kl, AV.has]
theorem kl_ptr {L L' a b : Nat} : kl L (.ptr L' a b) = if L = L' then .dead else .ptr L' a b := by simp [kl, AV.has]
theorem kl_aref {L L' a b c d : Nat} : kl L (.aref L' a b c d) = if L = L' then .dead else .aref L' a b c d := by simp [kl, AV.has]
theorem kl_mp {L L' : Nat} : kl L (.mp L') = if L = L' then .dead else .mp L' := by simp [kl, AV.has]
theorem kill1_mp {L L' : Nat} : kill1 L (.mp L') = if L = L' then .dead else .mp L' := kl_mp
theorem kl_dead {L : Nat} : kl L .dead = .dead := by simp [kl]
theorem kl_clo {L : Nat} {g : FuncId} {cs : List AV} : kl L (.clo g cs) = if AV.hasL L cs = true then .dead else .clo g cs := rfl
theorem kl_tup {L : Nat} {cs : List AV} : kl L (.tup cs) = if AV.hasL L cs = true then .dead else .tup cs := rfl
theorem kill1_sc {L : Nat} {v : Value} : kill1 L (.sc v) = .sc v := kl_sc
theorem kill1_list {L : Nat} {l f : Bool} {xs : List AV} : kill1 L (.list l f xs) = .list l f xs := kl_list
theorem kill1_iptr {L i o : Nat} {l : Bool} {xs : List AV} : kill1 L (.iptr l xs i o) = .iptr l xs i o := kl_iptr
theorem kill1_ref {L L' a b : Nat} : kill1 L (.ref L' a b) = if L = L' then .dead else .ref L' a b := kl_ref
theorem kill1_ptr {L L' a b : Nat} : kill1 L (.ptr L' a b) = if L = L' then .dead else .ptr L' a b := kl_ptr
theorem kill1_aref {L L' a b c d : Nat} : kill1 L (.aref L' a b c d) = if L = L' then .dead else .aref L' a b c d := kl_aref
theorem kill1_dead {L : Nat} : kill1 L .dead = .dead := kl_dead
theorem kill1_clo {L : Nat} {g : FuncId} {cs : List AV} : kill1 L (.clo g cs) = if AV.hasL L cs = true then .dead else .clo g cs := kl_clo
theorem kill1_tup {L : Nat} {cs : List AV} : kill1 L (.tup cs) = if AV.hasL L cs = true then .dead else .tup cs := kl_tup
theorem kill1_agg {L : Nat} {cs : List AV} : kill1 L (.agg cs) = .agg (cs.map (kl L)) := rfl

mutual
theorem pure_not_has {L : Nat} : ∀ {a : AV}, a.pure = true → a.has L = false
  | .agg cs, h => by simp only [AV.pure] at h; simp only [AV.has]; exact pureL_not_hasL h
  | .clo g cs, h => by simp only [AV.pure] at h; simp only [AV.has]; exact pureL_not_hasL h
  | .sc _, h => rfl
  | .list _ _ _, h => rfl
  | .iptr _ _ _ _, h => rfl
  | .own _ _, h => rfl
  | .dead, h => rfl
  | .ref _ _ _, h => by simp [AV.pure] at h
  | .ptr _ _ _, h => by simp [AV.pure] at h
  | .aref _ _ _ _ _, h => by simp [AV.pure] at h
  | .tup _, h => by simp [AV.pure] at h
theorem pureL_not_hasL {L : Nat} : ∀ {cs : List AV}, AV.pureL cs = true → AV.hasL L cs = false
  | [], _ => rfl
  | c :: cs, h => by
    simp [AV.pureL] at h
    simp [AV.hasL, pure_not_has h.1, pureL_not_hasL h.2]
end
theorem kl_pure {L : Nat} {a : AV} (h : a.pure = true) : kl L a = a := by simp [kl, pure_not_has h]
theorem kill1_pure {L : Nat} {a : AV} (h : a.pure = true) : kill1 L a = a := by
  cases a with
  | agg cs =>
    simp only [kill1]
    congr 1
    have : ∀ l : List AV, AV.pureL l = true → l.map (kl L) = l := by
      intro l
      induction l with
      | nil => intro _; rfl
      | cons c l ih => intro hp; simp [AV.pureL] at hp; simp [kl_pure hp.1, ih hp.2]
    exact this cs (by simpa [AV.pure] using h)
  | _ => exact kl_pure h

theorem ev_tmp {t : List (Nat × AV)} {i : Nat} : ev t (.tmp i) = lk t i := rfl
theorem ev_const {t : List (Nat × AV)} {v : Value} : ev t (.const v) = cst v := rfl
theorem ev_func {t : List (Nat × AV)} {f : FuncId} : ev t (.func f) = some (.clo f []) := rfl
theorem cst_int {k : IntKind} {n : Int} : cst (.int k n) = some (nt k n) := rfl
theorem cst_bool {b : Bool} : cst (.bool b) = some (bl b) := rfl
theorem cst_string {b : ByteArray} : cst (.string b) = some (.sc (.string b)) := rfl
theorem cst_nil : cst (.slice none 0 0) = some (.list false true []) := rfl
theorem cst_pnil : cst (.pointer none) = some (.sc (.pointer none)) := rfl
theorem cst_mnil : cst (.map none) = some (.sc (.map none)) := rfl
theorem cst_fnil : cst .nilFunc = some (.sc .nilFunc) := rfl
theorem cst_inil : cst .nilIface = some (.sc .nilIface) := rfl
theorem nt_eq {k : IntKind} {n : Int} : nt k n = .sc (.int k n) := rfl
theorem bl_eq {b : Bool} : bl b = .sc (.bool b) := rfl
theorem ofSv_some {r : Sv} : ofSv (some r) = .v r := rfl
theorem ofSv_none : ofSv none = .no := rfl
theorem ofSt_some {r : St} : ofSt (some r) = .h r := rfl
theorem ofSt_none : ofSt none = .no := rfl

section ops
variable {d : Nat} {ty : TypeId} {pos : String} {af : Array Edge} {g : Option (Nat × Bool)}
theorem aop_move {x : Operand} : aop P ⟨some d, .move x, ty, pos, af, g⟩ s = ofSv ((ev s.t x).map fun a => ⟨true, a⟩) := rfl
theorem aop_assign {x : Operand} : aop P ⟨some d, .assign x, ty, pos, af, g⟩ s = ofSv ((ev s.t x).map fun a => ⟨true, a⟩) := rfl
theorem aop_pick {c a b : Operand} : aop P ⟨some d, .pick c a b, ty, pos, af, g⟩ s = ofSv (match ev s.t c with
    | some (.sc (.bool c)) => (if c = true then ev s.t a else ev s.t b).map fun a => ⟨true, a⟩
    | _ => none) := rfl
theorem aop_load {t : TypeId} {a : Operand} : aop P ⟨some d, .load t a, ty, pos, af, g⟩ s = ofSv (match ev s.t a with
    | some p => loadA P t p s.o
    | none => none) := rfl
theorem aop_bin {op : BinOp} {t yt : TypeId} {x y : Operand} : aop P ⟨some d, .binOp op t x y yt, ty, pos, af, g⟩ s = ofSv (match ev s.t x, ev s.t y with
    | some a, some b => match binA P op t a b with
      | some r => some r
      | none => match nilEqA P op t a y with
        | some r => some r
        | none => match aggEqA P op t a b with
          | some r => some r
          | none => openA P ⟨some d, .binOp op t x y yt, ty, pos, af, g⟩ (ev s.t)
    | _, _ => none) := rfl
theorem nilEqA_tmp {op : BinOp} {t : TypeId} {a : AV} {i : Nat} : nilEqA P op t a (.tmp i) = none := by simp [nilEqA, nilK]
theorem nilEqA_int {op : BinOp} {t : TypeId} {a : AV} {k : IntKind} {n : Int} : nilEqA P op t a (.const (.int k n)) = none := by simp [nilEqA, nilK]
theorem nilEqA_bool {op : BinOp} {t : TypeId} {a : AV} {b : Bool} : nilEqA P op t a (.const (.bool b)) = none := by simp [nilEqA, nilK]
theorem nilEqA_str {op : BinOp} {t : TypeId} {a : AV} {b : ByteArray} : nilEqA P op t a (.const (.string b)) = none := by simp [nilEqA, nilK]
theorem nilEqA_agg {op : BinOp} {t : TypeId} {a : AV} {b : Array Value} : nilEqA P op t a (.const (.agg b)) = none := by simp [nilEqA, nilK]
attribute [go_sem] nilEqA_tmp nilEqA_int nilEqA_bool nilEqA_str nilEqA_agg
theorem aop_un {op : UnOp} {t : TypeId} {x : Operand} : aop P ⟨some d, .unOp op t x, ty, pos, af, g⟩ s = ofSv (match ev s.t x with
    | some a => unA op a
    | none => none) := rfl
theorem aop_conv {t u : TypeId} {x : Operand} : aop P ⟨some d, .convert t u x, ty, pos, af, g⟩ s = ofSv (match ev s.t x with
    | some a => if (P.underlying t).isSome = true then match convA P u a with
      | some r => some r
      | none => openA P ⟨some d, .convert t u x, ty, pos, af, g⟩ (ev s.t) else none
    | none => none) := rfl
theorem aop_fieldAddr {t : TypeId} {x : Operand} {f : Nat} : aop P ⟨some d, .fieldAddr t x f, ty, pos, af, g⟩ s = ofSv (match ev s.t x with
    | some p => fieldAddrA P t f p
    | none => none) := rfl
theorem aop_field {t : TypeId} {x : Operand} {f : Nat} : aop P ⟨some d, .field t x f, ty, pos, af, g⟩ s = ofSv (match ev s.t x with
    | some p => fieldA P t p f
    | none => none) := rfl
theorem aop_indexAddr {t : TypeId} {x i : Operand} : aop P ⟨some d, .indexAddr t x i, ty, pos, af, g⟩ s = ofSv (match ev s.t x, ev s.t i with
    | some a, some b => indexAddrA P t a b s.o
    | _, _ => none) := rfl
theorem aop_index {t : TypeId} {x i : Operand} : aop P ⟨some d, .index t x i, ty, pos, af, g⟩ s = ofSv (match ev s.t x, ev s.t i with
    | some a, some b => indexA P t a b
    | _, _ => none) := rfl
theorem aop_slice' {t : TypeId} {x : Operand} {lo hi : Option Operand} : aop P ⟨some d, .slice t x lo hi none, ty, pos, af, g⟩ s = ofSv (match ev s.t x, lo.map (ev s.t), hi.map (ev s.t) with
    | some _, some none, _ => none
    | some _, _, some none => none
    | some a, l, h => sliceA P t a (l.bind id) (h.bind id) s.o
    | none, _, _ => none) := rfl
theorem aop_extract {x : Operand} {i : Nat} : aop P ⟨some d, .extract x i, ty, pos, af, g⟩ s = ofSv (match ev s.t x with
    | some (.tup vs) => (vs[i]?).map fun a => ⟨true, a⟩
    | _ => none) := rfl
theorem aop_build {t : TypeId} {parts : Array (Nat × Operand)} : aop P ⟨some d, .build t parts, ty, pos, af, g⟩ s = ofSv (buildA P t (partsA (ev s.t) parts.toList)) := rfl
theorem aop_makeFunc {f : FuncId} {first caps : Array Operand} : aop P ⟨some d, .makeFunc (.func f) first caps, ty, pos, af, g⟩ s = ofSv (if first.size = 0 then (capsA (ev s.t) caps.toList).map fun cs => ⟨true, .clo f cs⟩ else none) := rfl
theorem aop_nilCheck {x : Operand} : aop P ⟨some d, .nilCheck x, ty, pos, af, g⟩ s = ofSv (match ev s.t x with
    | some (.ptr L i o) => some ⟨true, .ptr L i o⟩
    | some (.iptr l xs i o) => some ⟨true, .iptr l xs i o⟩
    | _ => none) := rfl
theorem aop_len {xs : Array Operand} {ts : Array TypeId} : aop P ⟨some d, .call ⟨.builtin .len, xs, ts⟩, ty, pos, af, g⟩ s = ofSv (match xs.toList, ts.toList with
    | [x], [t] => match ev s.t x with
      | some a => lenA P t a
      | none => none
    | _, _ => none) := rfl
theorem aop_min {xs : Array Operand} {ts : Array TypeId} : aop P ⟨some d, .call ⟨.builtin .min, xs, ts⟩, ty, pos, af, g⟩ s = ofSv (openA P ⟨some d, .call ⟨.builtin .min, xs, ts⟩, ty, pos, af, g⟩ (ev s.t)) := rfl
theorem aop_max {xs : Array Operand} {ts : Array TypeId} : aop P ⟨some d, .call ⟨.builtin .max, xs, ts⟩, ty, pos, af, g⟩ s = ofSv (openA P ⟨some d, .call ⟨.builtin .max, xs, ts⟩, ty, pos, af, g⟩ (ev s.t)) := rfl
theorem aop_alloc {t : TypeId} : aop P ⟨some d, .alloc t, ty, pos, af, g⟩ s = ofSt (allocA P t d s) := rfl
theorem aop_box {t : TypeId} {x : Operand} : aop P ⟨some d, .box t x, ty, pos, af, g⟩ s = (match ev s.t x with
    | some a => ofSt (boxA a d s)
    | none => .no) := rfl
theorem aop_store {t : TypeId} {p x : Operand} : aop P ⟨none, .store t p x, ty, pos, af, g⟩ s = (match ev s.t p, ev s.t x with
    | some a, some b => ofSt (storeA P t a b s)
    | _, _ => .no) := rfl
theorem aop_buildSlice {t : TypeId} {len : Nat} {parts : Array (Nat × Operand)} : aop P ⟨some d, .buildSlice t len parts, ty, pos, af, g⟩ s = ofSt (buildSliceA P t len (partsA (ev s.t) parts.toList) d s) := rfl
theorem aop_append {xs : Array Operand} {ts : Array TypeId} : aop P ⟨some d, .call ⟨.builtin .append, xs, ts⟩, ty, pos, af, g⟩ s = (match xs.toList, ts.toList with
    | [x, y], [st, xt] => match ev s.t x, ev s.t y with
      | some a, some b => ofSt (appendN P st xt a b d s)
      | _, _ => .no
    | _, _ => .no) := rfl
theorem aop_call {f : Operand} {xs : Array Operand} {ts : Array TypeId} : aop P ⟨some d, .call ⟨.value f, xs, ts⟩, ty, pos, af, g⟩ s = (match ev s.t f, capsA (ev s.t) xs.toList with
    | some (.clo g caps), some as => .c g (as ++ caps)
    | _, _ => .no) := rfl
end ops

theorem wrap_i64 {n : Int} (h1 : -9223372036854775808 ≤ n) (h2 : n ≤ 9223372036854775807) : IntKind.i64.wrap n = n := IntWalk.i64_in n ⟨h1, h2⟩
theorem wrap_u64 {n : Int} (h1 : 0 ≤ n) (h2 : n ≤ 18446744073709551615) : IntKind.u64.wrap n = n := IntWalk.u64_in n ⟨h1, h2⟩
theorem wrap_u8 {n : Int} (h1 : 0 ≤ n) (h2 : n ≤ 255) : IntKind.u8.wrap n = n := IntWalk.u8_in n ⟨h1, h2⟩
theorem wrap_i32 {n : Int} (h1 : -2147483648 ≤ n) (h2 : n ≤ 2147483647) : IntKind.i32.wrap n = n := IntWalk.i32_in n ⟨h1, h2⟩
theorem wrap_u32 {n : Int} (h1 : 0 ≤ n) (h2 : n ≤ 4294967295) : IntKind.u32.wrap n = n := IntWalk.u32_in n ⟨h1, h2⟩
theorem tdiv_pos {a b : Int} (h : 0 ≤ a) : a.tdiv b = a / b := Int.tdiv_eq_ediv_of_nonneg h
theorem tmod_pos {a b : Int} (h : 0 ≤ a) : a.tmod b = a % b := Int.tmod_eq_emod_of_nonneg h

theorem capsA_nil {ρ : Operand → Option AV} : capsA ρ [] = some [] := rfl
theorem capsA_cons {ρ : Operand → Option AV} {x : Operand} {r : List Operand} : capsA ρ (x :: r) = (match ρ x with
  | some a => match capsA ρ r with
    | some as => some (a :: as)
    | none => none
  | none => none) := by
  simp only [capsA, List.mapM_cons]
  cases ρ x with
  | none => rfl
  | some a =>
    simp
    cases List.mapM ρ r <;> rfl
theorem partsA_nil {ρ : Operand → Option AV} : partsA ρ [] = some [] := rfl
theorem partsA_cons {ρ : Operand → Option AV} {i : Nat} {x : Operand} {r : List (Nat × Operand)} : partsA ρ ((i, x) :: r) = (match ρ x with
  | some a => match partsA ρ r with
    | some as => some ((i, a) :: as)
    | none => none
  | none => none) := by
  simp only [partsA, List.mapM_cons]
  cases ρ x with
  | none => rfl
  | some a =>
    simp
    cases List.mapM (fun p : Nat × Operand => Option.map (fun a => (p.1, a)) (ρ p.2)) r <;> rfl

theorem cells_agg {cs : List AV} : (AV.agg cs).cells = cs := rfl
theorem cells_sc {v : Value} : (AV.sc v).cells = [.sc v] := rfl
theorem cells_list {l f : Bool} {xs : List AV} : (AV.list l f xs).cells = [.list l f xs] := rfl
theorem cells_iptr {l : Bool} {xs : List AV} {i o : Nat} : (AV.iptr l xs i o).cells = [.iptr l xs i o] := rfl
theorem cells_ref {a b c : Nat} : (AV.ref a b c).cells = [.ref a b c] := rfl
theorem cells_ptr {a b c : Nat} : (AV.ptr a b c).cells = [.ptr a b c] := rfl
theorem cells_clo {g : FuncId} {cs : List AV} : (AV.clo g cs).cells = [.clo g cs] := rfl
theorem isAgg_agg {cs : List AV} : (AV.agg cs).isAgg = true := rfl
theorem isAgg_sc {v : Value} : (AV.sc v).isAgg = false := rfl
theorem isAgg_list {l f : Bool} {xs : List AV} : (AV.list l f xs).isAgg = false := rfl
theorem isAgg_iptr {l : Bool} {xs : List AV} {i o : Nat} : (AV.iptr l xs i o).isAgg = false := rfl
theorem isAgg_ref {a b c : Nat} : (AV.ref a b c).isAgg = false := rfl
theorem isAgg_ptr {a b c : Nat} : (AV.ptr a b c).isAgg = false := rfl
theorem isAgg_clo {g : FuncId} {cs : List AV} : (AV.clo g cs).isAgg = false := rfl
theorem plain_agg {cs : List AV} : (AV.agg cs).plain = true := rfl
theorem plain_sc {v : Value} : (AV.sc v).plain = true := rfl
theorem plain_list {l f : Bool} {xs : List AV} : (AV.list l f xs).plain = true := rfl
theorem plain_iptr {l : Bool} {xs : List AV} {i o : Nat} : (AV.iptr l xs i o).plain = true := rfl
theorem plain_ref {a b c : Nat} : (AV.ref a b c).plain = true := rfl
theorem plain_ptr {a b c : Nat} : (AV.ptr a b c).plain = true := rfl
theorem plain_clo {g : FuncId} {cs : List AV} : (AV.clo g cs).plain = true := rfl
theorem pure_agg {cs : List AV} : (AV.agg cs).pure = AV.pureL cs := by simp [AV.pure]
theorem pure_sc {v : Value} : (AV.sc v).pure = true := by simp [AV.pure]
theorem pure_list {l f : Bool} {xs : List AV} : (AV.list l f xs).pure = !l := by simp [AV.pure]
theorem pure_iptr {l : Bool} {xs : List AV} {i o : Nat} : (AV.iptr l xs i o).pure = !l := by simp [AV.pure]
theorem pure_ref {a b c : Nat} : (AV.ref a b c).pure = false := by simp [AV.pure]
theorem pure_ptr {a b c : Nat} : (AV.ptr a b c).pure = false := by simp [AV.pure]
theorem pure_dead : AV.dead.pure = false := by simp [AV.pure]
theorem pure_clo {g : FuncId} {cs : List AV} : (AV.clo g cs).pure = AV.pureL cs := by simp [AV.pure]
theorem pureL_nil : AV.pureL [] = true := rfl
theorem pureL_cons {a : AV} {r : List AV} : AV.pureL (a :: r) = (a.pure && AV.pureL r) := by simp [AV.pureL]
theorem has_agg {L : Nat} {cs : List AV} : (AV.agg cs).has L = AV.hasL L cs := by simp [AV.has]
theorem has_sc {L : Nat} {v : Value} : (AV.sc v).has L = false := rfl
theorem has_list {L : Nat} {l f : Bool} {xs : List AV} : (AV.list l f xs).has L = false := rfl
theorem has_iptr {L : Nat} {l : Bool} {xs : List AV} {i o : Nat} : (AV.iptr l xs i o).has L = false := rfl
theorem has_ref {L a b c : Nat} : (AV.ref a b c).has L = (L == a) := rfl
theorem has_ptr {L a b c : Nat} : (AV.ptr a b c).has L = (L == a) := rfl
theorem has_aref {L a b c d e : Nat} : (AV.aref a b c d e).has L = (L == a) := rfl
theorem has_clo {L : Nat} {g : FuncId} {cs : List AV} : (AV.clo g cs).has L = AV.hasL L cs := rfl
theorem has_dead {L : Nat} : AV.dead.has L = false := rfl
theorem hasL_nil {L : Nat} : AV.hasL L [] = false := rfl
theorem hasL_cons {L : Nat} {a : AV} {r : List AV} : AV.hasL L (a :: r) = (a.has L || AV.hasL L r) := rfl

theorem binA_int {op : BinOp} {t : TypeId} {k k' : IntKind} {u v : Int} : binA P op t (.sc (.int k u)) (.sc (.int k' v)) = if k = k' then intA op k u v else if op = .shr then intA .shr k u v else none := rfl
theorem binA_str {op : BinOp} {t : TypeId} {u v : ByteArray} : binA P op t (.sc (.string u)) (.sc (.string v)) = strA op u v := rfl
theorem binA_eql_bool {t : TypeId} {u v : Bool} : binA P .eql t (.sc (.bool u)) (.sc (.bool v)) = if tyIsBool P t = true then some ⟨true, bl (u == v)⟩ else none := rfl
theorem binA_neq_bool {t : TypeId} {u v : Bool} : binA P .neq t (.sc (.bool u)) (.sc (.bool v)) = if tyIsBool P t = true then some ⟨true, bl (!(u == v))⟩ else none := rfl
theorem binA_agg {op : BinOp} {t : TypeId} {a : AV} {cs : List AV} : binA P op t a (.agg cs) = none := by
  cases a <;> first | rfl | (rename_i v; cases v <;> rfl)
theorem orOpen {r : Sv} {x : Option Sv} : (match some r with | some r => some r | none => x) = some r := rfl

/-- Staged: what a function looks at stands among its arguments. -/
def loadS (d : Option (Bool × Nat)) (e : Option (AV × Nat)) : Option Sv :=
  match d, e with
  | some (ag, size), some (y, o) => (rowE y ag size o).map fun a => ⟨true, a⟩
  | _, _ => none
theorem loadA_eq {t : TypeId} {p : AV} {ob : Objs} : loadA P t p ob = loadS (tyI P t) (ptE ob p) := by
  unfold loadA loadS
  cases tyI P t with
  | none => rfl
  | some q => obtain ⟨a, b⟩ := q; cases ptE ob p <;> rfl
theorem loadS_some {ag : Bool} {size o : Nat} {y : AV} : loadS (some (ag, size)) (some (y, o)) = (rowE y ag size o).map fun a => ⟨true, a⟩ := rfl
theorem rowE_agg {y : AV} {size o : Nat} : rowE y true size o = if o + size ≤ y.cells.length then some (if o = 0 ∧ size = y.cells.length ∧ y.isAgg = true then y else .agg ((y.cells.drop o).take size)) else none := rfl
theorem rowE_one {y : AV} {size o : Nat} : rowE y false size o = y.cells[o]? := rfl
def ptS (x : Option AObj) (i o : Nat) : Option (AV × Nat) :=
  match x with
  | some x => (x.xs[i]?).map fun y => (y, o)
  | none => none
theorem ptE_ptr {ob : Objs} {L i o : Nat} : ptE ob (.ptr L i o) = ptS (lk ob L) i o := by simp only [ptE, ptS]; cases lk ob L <;> rfl
theorem ptS_some {x : AObj} {i o : Nat} : ptS (some x) i o = (x.xs[i]?).map fun y => (y, o) := rfl
theorem ptE_iptr {ob : Objs} {l : Bool} {xs : List AV} {i o : Nat} : ptE ob (.iptr l xs i o) = (xs[i]?).map fun y => (y, o) := rfl

def fieldAddrS (d : Option (Nat × TypeId × Nat)) (p : AV) : Option Sv :=
  match d with
  | some (off, _, n) => match p with
    | .iptr l xs i o => some ⟨decide (n ≠ 0), .iptr l xs i (o + off)⟩
    | .ptr L i o => some ⟨decide (n ≠ 0), .ptr L i (o + off)⟩
    | _ => none
  | none => none
theorem fieldAddrA_eq {t : TypeId} {f : Nat} {p : AV} : fieldAddrA P t f p = fieldAddrS (tyFd P t f) p := rfl
theorem fieldAddrS_iptr {off n : Nat} {ft : TypeId} {l : Bool} {xs : List AV} {i o : Nat} : fieldAddrS (some (off, ft, n)) (.iptr l xs i o) = some ⟨decide (n ≠ 0), .iptr l xs i (o + off)⟩ := rfl
theorem fieldAddrS_ptr {off n : Nat} {ft : TypeId} {L i o : Nat} : fieldAddrS (some (off, ft, n)) (.ptr L i o) = some ⟨decide (n ≠ 0), .ptr L i (o + off)⟩ := rfl

theorem lenA_str {t : TypeId} {s : ByteArray} : lenA P t (.sc (.string s)) = if tyStr P t = true then some ⟨true, nt .i64 s.size⟩ else none := rfl
def lenS (d : Option (TypeId × Nat × Nat)) (n : Nat) : Option Sv := match d with
  | some _ => some ⟨true, nt .i64 n⟩
  | none => none
theorem lenS_some {q : TypeId × Nat × Nat} {n : Nat} : lenS (some q) n = some ⟨true, nt .i64 n⟩ := rfl
theorem lenA_list {t : TypeId} {l f : Bool} {xs : List AV} : lenA P t (.list l f xs) = lenS (tyEl P t) xs.length := rfl
theorem lenA_ref {t : TypeId} {L lo n : Nat} : lenA P t (.ref L lo n) = lenS (tyEl P t) n := rfl
theorem lenA_aref {t : TypeId} {L i o es n : Nat} : lenA P t (.aref L i o es n) = lenS (tyEl P t) n := rfl

def ixListS (d : Option (TypeId × Nat × Nat)) (l : Bool) (xs : List AV) (i : Int) : Option Sv := match d with
  | some (_, es, _) => some ⟨decide (0 ≤ i ∧ i < xs.length ∧ ∀ y, xs[i.toNat]? = some y → y.cells.length = es), .iptr l xs i.toNat 0⟩
  | none => none
theorem ixList {t : TypeId} {l f : Bool} {xs : List AV} {k : IntKind} {i : Int} {ob : Objs} : indexAddrA P t (.list l f xs) (.sc (.int k i)) ob = ixListS (tyEl P t) l xs i := rfl
theorem ixListS_some {e : TypeId} {es b : Nat} {l : Bool} {xs : List AV} {i : Int} : ixListS (some (e, es, b)) l xs i = some ⟨decide (0 ≤ i ∧ i < xs.length ∧ ∀ y, xs[i.toNat]? = some y → y.cells.length = es), .iptr l xs i.toNat 0⟩ := rfl
def ixRefS (d : Option (TypeId × Nat × Nat)) (x : Option AObj) (L lo n : Nat) (i : Int) : Option Sv := match d, x with
  | some (_, es, _), some x => some ⟨decide (x.es = es ∧ 0 ≤ i ∧ i < n), .ptr L (lo + i.toNat) 0⟩
  | _, _ => none
theorem ixRef {t : TypeId} {L lo n : Nat} {k : IntKind} {i : Int} {ob : Objs} : indexAddrA P t (.ref L lo n) (.sc (.int k i)) ob = ixRefS (tyEl P t) (lk ob L) L lo n i := by
  simp only [indexAddrA, ixRefS]
  cases tyEl P t <;> cases lk ob L <;> rfl
theorem ixRefS_some {e : TypeId} {es b : Nat} {x : AObj} {L lo n : Nat} {i : Int} : ixRefS (some (e, es, b)) (some x) L lo n i = some ⟨decide (x.es = es ∧ 0 ≤ i ∧ i < n), .ptr L (lo + i.toNat) 0⟩ := rfl
def ixArefS (d : Option (TypeId × Nat × Nat)) (L k o es' n : Nat) (i : Int) : Option Sv := match d with
  | some (_, es, _) => some ⟨decide (es' = es ∧ 0 ≤ i ∧ i < n), .ptr L k (o + i.toNat * es)⟩
  | none => none
theorem ixAref {t : TypeId} {L k o es n : Nat} {kk : IntKind} {i : Int} {ob : Objs} : indexAddrA P t (.aref L k o es n) (.sc (.int kk i)) ob = ixArefS (tyEl P t) L k o es n i := rfl
theorem ixArefS_some {e : TypeId} {es b : Nat} {L k o es' n : Nat} {i : Int} : ixArefS (some (e, es, b)) L k o es' n i = some ⟨decide (es' = es ∧ 0 ≤ i ∧ i < n), .ptr L k (o + i.toNat * es)⟩ := rfl
def ixPtrS (d : Option (Nat × TypeId × Nat)) (L k o : Nat) (i : Int) : Option Sv := match d with
  | some (n, _, es) => some ⟨decide (0 ≤ i ∧ i < n), .ptr L k (o + i.toNat * es)⟩
  | none => none
theorem ixPtr {t : TypeId} {L k o : Nat} {kk : IntKind} {i : Int} {ob : Objs} : indexAddrA P t (.ptr L k o) (.sc (.int kk i)) ob = ixPtrS (tyAr P t) L k o i := rfl
theorem ixPtrS_some {e : TypeId} {n es L k o : Nat} {i : Int} : ixPtrS (some (n, e, es)) L k o i = some ⟨decide (0 ≤ i ∧ i < n), .ptr L k (o + i.toNat * es)⟩ := rfl
def ixIptrS (d : Option (Nat × TypeId × Nat)) (l : Bool) (xs : List AV) (k o : Nat) (i : Int) : Option Sv := match d with
  | some (n, _, es) => some ⟨decide (0 ≤ i ∧ i < n), .iptr l xs k (o + i.toNat * es)⟩
  | none => none
theorem ixIptr {t : TypeId} {l : Bool} {xs : List AV} {k o : Nat} {kk : IntKind} {i : Int} {ob : Objs} : indexAddrA P t (.iptr l xs k o) (.sc (.int kk i)) ob = ixIptrS (tyAr P t) l xs k o i := rfl
theorem ixIptrS_some {e : TypeId} {n es k o : Nat} {l : Bool} {xs : List AV} {i : Int} : ixIptrS (some (n, e, es)) l xs k o i = some ⟨decide (0 ≤ i ∧ i < n), .iptr l xs k (o + i.toNat * es)⟩ := rfl

theorem indexA_str {t : TypeId} {s : ByteArray} {k : IntKind} {i : Int} : indexA P t (.sc (.string s)) (.sc (.int k i)) = if tyStr P t = true then some ⟨decide (0 ≤ i ∧ i < s.size), nt .u8 (s.data.toList.getD i.toNat 0).toNat⟩ else none := rfl
def fieldS (d : Option (Nat × TypeId × Nat)) (P : Program) (cs : List AV) : Option Sv := match d with
  | some (off, ft, _) => (partA P ft cs off).map fun a => ⟨true, a⟩
  | none => none
theorem fieldA_agg {t : TypeId} {cs : List AV} {f : Nat} : fieldA P t (.agg cs) f = fieldS (tyFd P t f) P cs := rfl
theorem fieldS_some {off n : Nat} {ft : TypeId} {cs : List AV} : fieldS (some (off, ft, n)) P cs = (partA P ft cs off).map fun a => ⟨true, a⟩ := rfl
def partS (d : Option (Bool × Nat)) (cs : List AV) (off : Nat) : Option AV := match d with
  | some (true, n) => some (.agg ((cs.drop off).take n))
  | some (false, _) => cs[off]?
  | none => none
theorem partA_eq {t : TypeId} {cs : List AV} {off : Nat} : partA P t cs off = partS (tyI P t) cs off := rfl
theorem partS_true {n off : Nat} {cs : List AV} : partS (some (true, n)) cs off = some (.agg ((cs.drop off).take n)) := rfl
theorem partS_false {n off : Nat} {cs : List AV} : partS (some (false, n)) cs off = cs[off]? := rfl

def allocS (z : Option AV) (k d : Nat) (s : ASt) : Option St := match z with
  | some z => if z.plain = true ∧ z.has d = false then some ⟨decide (d < s.n), s.fresh d (boxK z k) (.ptr d 0 0)⟩ else none
  | none => none
theorem allocA_eq {t : TypeId} {d : Nat} : allocA P t d s = allocS (zbS (tyBd P t) (tyZ P t) (rawZ P t)) (tyBd P t) d s := rfl
theorem zbS_zero {z r : Option AV} : zbS 0 z r = z := rfl
theorem zbS_succ {n : Nat} {z r : Option AV} : zbS (n + 1) z r = r := rfl
theorem boxK_eq {a : AV} {k : Nat} : boxK a k = ⟨false, false, false, a.cells.length, [a], k⟩ := rfl
theorem allocS_some {z : AV} {k d : Nat} : allocS (some z) k d s = if z.plain = true ∧ z.has d = false then some ⟨decide (d < s.n), s.fresh d (boxK z k) (.ptr d 0 0)⟩ else none := rfl
theorem boxA_eq {b : AV} {d : Nat} : boxA b d s = if b.plain = true ∧ b.has d = false then some ⟨decide (d < s.n), s.fresh d (boxO b) (.ptr d 0 0)⟩ else none := rfl
theorem boxO_eq {a : AV} : boxO a = ⟨false, false, false, a.cells.length, [a], 0⟩ := rfl
theorem arrO_eq {es : Nat} {xs : List AV} : arrO es xs = ⟨true, false, false, es, xs, 0⟩ := rfl

def storeS (x : Option AObj) (d : Option (Bool × Nat)) (L i o : Nat) (a : AV) (s : ASt) : Option St := match x, d with
  | some x, some (_, size) => match x.xs[i]? with
      | some y => if x.fz = false ∧ a.plain = true ∧ a.cells.length = size ∧ o + size ≤ y.cells.length then
          if x.arr = true then match share s a with
            | some (s1, b) => match lk s1.o L with
              | some x1 => if x1.fz = false ∧ b.pure = true ∧ b.cells.length = size ∧ b.plain = true then some ⟨true, { s1 with o := setO s1.o L { x1 with xs := x1.xs.set i (layE y b o) } }⟩ else none
              | none => none
            | none => none
          else some ⟨true, { s with o := setO s.o L { x with xs := x.xs.set i (layE y a o) } }⟩
        else none
      | none => none
  | _, _ => none
theorem storeA_ptr {t : TypeId} {L i o : Nat} {a : AV} : storeA P t (.ptr L i o) a s = storeS (lk s.o L) (tyI P t) L i o a s := by
  simp only [storeA, storeS]; cases lk s.o L <;> cases tyI P t <;> rfl
/-- A store into a box. -/
def storeB (y : Option AV) (fz pin : Bool) (es : Nat) (xs : List AV) (kd size L i o : Nat) (a : AV) (s : ASt) : Option St := match y with
  | some y => if fz = false ∧ a.plain = true ∧ a.cells.length = size ∧ o + size ≤ y.cells.length then some ⟨true, { s with o := setO s.o L ⟨false, fz, pin, es, xs.set i (layE y a o), kd⟩ }⟩ else none
  | none => none
theorem storeS_box {kd : Nat} {fz pin ag : Bool} {es size L i o : Nat} {xs : List AV} {a : AV} : storeS (some ⟨false, fz, pin, es, xs, kd⟩) (some (ag, size)) L i o a s = storeB (xs[i]?) fz pin es xs kd size L i o a s := by
  simp only [storeS, storeB]
  cases xs[i]? <;> rfl
theorem storeB_some {kd : Nat} {y : AV} {fz pin : Bool} {es size L i o : Nat} {xs : List AV} {a : AV} : storeB (some y) fz pin es xs kd size L i o a s = if fz = false ∧ a.plain = true ∧ a.cells.length = size ∧ o + size ≤ y.cells.length then some ⟨true, { s with o := setO s.o L ⟨false, fz, pin, es, xs.set i (layE y a o), kd⟩ }⟩ else none := rfl
/-- A store into an array: the value is shared first. -/
def storeR (y : Option AV) (b : Option (ASt × AV)) (fz : Bool) (size L i o : Nat) (a : AV) : Option St := match y, b with
  | some y, some (s1, b) => if fz = false ∧ a.plain = true ∧ a.cells.length = size ∧ o + size ≤ y.cells.length then match lk s1.o L with
              | some x1 => if x1.fz = false ∧ b.pure = true ∧ b.cells.length = size ∧ b.plain = true then some ⟨true, { s1 with o := setO s1.o L { x1 with xs := x1.xs.set i (layE y b o) } }⟩ else none
              | none => none
      else none
  | _, _ => none
theorem storeS_arr {kd : Nat} {fz pin ag : Bool} {es size L i o : Nat} {xs : List AV} {a : AV} : storeS (some ⟨true, fz, pin, es, xs, kd⟩) (some (ag, size)) L i o a s = storeR (xs[i]?) (share s a) fz size L i o a := by
  simp only [storeS, storeR]
  cases xs[i]? with
  | none => cases share s a <;> rfl
  | some y =>
    cases share s a with
    | none => simp
    | some q => rfl
def storeT (x1 : Option AObj) (s1 : ASt) (b y : AV) (size L i o : Nat) : Option St := match x1 with
  | some x1 => if x1.fz = false ∧ b.pure = true ∧ b.cells.length = size ∧ b.plain = true then some ⟨true, { s1 with o := setO s1.o L { x1 with xs := x1.xs.set i (layE y b o) } }⟩ else none
  | none => none
theorem storeR_some {y b a : AV} {s1 : ASt} {fz : Bool} {size L i o : Nat} : storeR (some y) (some (s1, b)) fz size L i o a = if fz = false ∧ a.plain = true ∧ a.cells.length = size ∧ o + size ≤ y.cells.length then storeT (lk s1.o L) s1 b y size L i o else none := by
  simp only [storeR, storeT]
theorem storeT_some {kd : Nat} {s1 : ASt} {b y : AV} {size L i o : Nat} {arr fz pin : Bool} {es : Nat} {xs : List AV} : storeT (some ⟨arr, fz, pin, es, xs, kd⟩) s1 b y size L i o =
  if fz = false ∧ b.pure = true ∧ b.cells.length = size ∧ b.plain = true then some ⟨true, { s1 with o := setO s1.o L ⟨arr, fz, pin, es, xs.set i (layE y b o), kd⟩ }⟩ else none := rfl
theorem setO_eq {o : Objs} {L : Nat} {x : AObj} : setO o L x = (L, x) :: o := rfl
theorem layE_eq {y a : AV} {o : Nat} : layE y a o = if o = 0 ∧ a.cells.length = y.cells.length ∧ a.isAgg = y.isAgg then a else .agg (splice y.cells a.cells o) := rfl
theorem splice_eq {α : Type} {cs ds : List α} {off : Nat} : splice cs ds off = cs.take off ++ ds ++ cs.drop (off + ds.length) := rfl

def buildS (d : Option (List AV × List (Nat × Nat))) (ps : Option (List (Nat × AV))) : Option Sv := match d, ps with
  | some (z, pl), some ps => (fillA (pl[·]?) z ps).map fun cs => ⟨true, .agg cs⟩
  | _, _ => none
theorem buildA_eq {t : TypeId} {ps : Option (List (Nat × AV))} : buildA P t ps = buildS (tyB P t) ps := rfl
def fillS (pl : List (Nat × Nat)) (p : Option (Nat × Nat)) (cs : List AV) (a : AV) (r : List (Nat × AV)) : Option (List AV) := match p with
  | some (off, size) => if a.plain = true ∧ a.cells.length = size ∧ off + size ≤ cs.length then fillA (pl[·]?) (splice cs a.cells off) r else none
  | none => none
def fillL (pl : List (Nat × Nat)) (cs : List AV) (ps : List (Nat × AV)) : Option (List AV) := fillA (pl[·]?) cs ps
theorem buildS_some {z : List AV} {pl : List (Nat × Nat)} {ps : List (Nat × AV)} : buildS (some (z, pl)) (some ps) = (fillL pl z ps).map fun cs => ⟨true, .agg cs⟩ := rfl
theorem fillL_nil {pl : List (Nat × Nat)} {cs : List AV} : fillL pl cs [] = some cs := rfl
theorem fillL_cons {pl : List (Nat × Nat)} {cs : List AV} {i : Nat} {a : AV} {r : List (Nat × AV)} : fillL pl cs ((i, a) :: r) = fillS pl (pl[i]?) cs a r := rfl
theorem fillS_some {pl : List (Nat × Nat)} {off size : Nat} {cs : List AV} {a : AV} {r : List (Nat × AV)} : fillS pl (some (off, size)) cs a r = if a.plain = true ∧ a.cells.length = size ∧ off + size ≤ cs.length then fillL pl (splice cs a.cells off) r else none := rfl

def sliceListS (d : Option (TypeId × Nat × Nat)) (l h : Option Int) (len full : Bool) (xs : List AV) : Option Sv := match d, l, h with
  | some (_, es, _), some l, some h => some ⟨decide (0 ≤ l ∧ l ≤ h ∧ h ≤ xs.length ∧ ∀ y ∈ xs, y.cells.length = es), .list len full ((xs.drop l.toNat).take (h.toNat - l.toNat))⟩
  | _, _, _ => none
theorem sliceA_list {t : TypeId} {len full : Bool} {xs : List AV} {lo hi : Option AV} {ob : Objs} : sliceA P t (.list len full xs) lo hi ob = sliceListS (tyEl P t) (bd lo 0) (bd hi xs.length) len (full && hi.isNone) xs := by
  simp only [sliceA, sliceListS]
  cases tyEl P t <;> cases bd lo 0 <;> cases bd hi xs.length <;> rfl
theorem sliceListS_some {e : TypeId} {es b : Nat} {l h : Int} {len full : Bool} {xs : List AV} : sliceListS (some (e, es, b)) (some l) (some h) len full xs = some ⟨decide (0 ≤ l ∧ l ≤ h ∧ h ≤ xs.length ∧ ∀ y ∈ xs, y.cells.length = es), .list len full ((xs.drop l.toNat).take (h.toNat - l.toNat))⟩ := rfl
def sliceRefS (d : Option (TypeId × Nat × Nat)) (x : Option AObj) (l h : Option Int) (L b n : Nat) : Option Sv := match d, x, l, h with
  | some (_, es, _), some x, some l, some h => some ⟨decide (x.es = es ∧ 0 ≤ l ∧ l ≤ h ∧ h ≤ n), .ref L (b + l.toNat) (h.toNat - l.toNat)⟩
  | _, _, _, _ => none
theorem sliceA_ref {t : TypeId} {L b n : Nat} {lo hi : Option AV} {ob : Objs} : sliceA P t (.ref L b n) lo hi ob = sliceRefS (tyEl P t) (lk ob L) (bd lo 0) (bd hi n) L b n := by
  simp only [sliceA, sliceRefS]
  cases tyEl P t <;> cases lk ob L <;> cases bd lo 0 <;> cases bd hi n <;> rfl
theorem sliceRefS_some {e : TypeId} {es bb : Nat} {x : AObj} {l h : Int} {L b n : Nat} : sliceRefS (some (e, es, bb)) (some x) (some l) (some h) L b n = some ⟨decide (x.es = es ∧ 0 ≤ l ∧ l ≤ h ∧ h ≤ n), .ref L (b + l.toNat) (h.toNat - l.toNat)⟩ := rfl
def sliceStrS (c : Bool) (l h : Option Int) (s : ByteArray) : Option Sv := match c, l, h with
  | true, some l, some h => some ⟨decide (0 ≤ l ∧ l ≤ h ∧ h ≤ s.size), .sc (.string (s.extract l.toNat h.toNat))⟩
  | _, _, _ => none
theorem sliceA_str {t : TypeId} {s : ByteArray} {lo hi : Option AV} {ob : Objs} : sliceA P t (.sc (.string s)) lo hi ob = sliceStrS (tyStr P t) (bd lo 0) (bd hi s.size) s := by
  simp only [sliceA, sliceStrS]
  cases tyStr P t <;> cases bd lo 0 <;> cases bd hi s.size <;> rfl
theorem sliceStrS_some {l h : Int} {s : ByteArray} : sliceStrS true (some l) (some h) s = some ⟨decide (0 ≤ l ∧ l ≤ h ∧ h ≤ s.size), .sc (.string (s.extract l.toNat h.toNat))⟩ := rfl
def slicePtrS (d : Option (Nat × TypeId × Nat)) (l : Option Int) (hi : Option AV) (L i o : Nat) : Option Sv := match d, l with
  | some (n, _, es), some l => match bd hi n with
    | some h => some ⟨decide (0 ≤ l ∧ l ≤ h ∧ h ≤ n), .aref L i (o + l.toNat * es) es (h.toNat - l.toNat)⟩
    | none => none
  | _, _ => none
theorem sliceA_ptr {t : TypeId} {L i o : Nat} {lo hi : Option AV} {ob : Objs} : sliceA P t (.ptr L i o) lo hi ob = slicePtrS (tyAr P t) (bd lo 0) hi L i o := by
  simp only [sliceA, slicePtrS]
  cases tyAr P t <;> cases bd lo 0 <;> rfl
def slicePtrT (h : Option Int) (n es : Nat) (l : Int) (L i o : Nat) : Option Sv := match h with
  | some h => some ⟨decide (0 ≤ l ∧ l ≤ h ∧ h ≤ n), .aref L i (o + l.toNat * es) es (h.toNat - l.toNat)⟩
  | none => none
theorem slicePtrS_some {e : TypeId} {n es : Nat} {l : Int} {hi : Option AV} {L i o : Nat} : slicePtrS (some (n, e, es)) (some l) hi L i o = slicePtrT (bd hi n) n es l L i o := rfl
theorem slicePtrT_some {n es : Nat} {l h : Int} {L i o : Nat} : slicePtrT (some h) n es l L i o = some ⟨decide (0 ≤ l ∧ l ≤ h ∧ h ≤ n), .aref L i (o + l.toNat * es) es (h.toNat - l.toNat)⟩ := rfl
theorem bd_none {d : Int} : bd none d = some d := rfl
theorem bd_some {k : IntKind} {i d : Int} : bd (some (.sc (.int k i))) d = some i := rfl

def sliceO (a : Option AV) (l h : Option (Option AV)) (P : Program) (t : TypeId) (ob : Objs) : Option Sv := match a, l, h with
    | some _, some none, _ => none
    | some _, _, some none => none
    | some a, l, h => sliceA P t a (l.bind id) (h.bind id) ob
    | none, _, _ => none
theorem sliceO_nn {a : AV} {t : TypeId} {ob : Objs} : sliceO (some a) none none P t ob = sliceA P t a none none ob := rfl
theorem sliceO_sn {a l : AV} {t : TypeId} {ob : Objs} : sliceO (some a) (some (some l)) none P t ob = sliceA P t a (some l) none ob := rfl
theorem sliceO_ns {a h : AV} {t : TypeId} {ob : Objs} : sliceO (some a) none (some (some h)) P t ob = sliceA P t a none (some h) ob := rfl
theorem sliceO_ss {a l h : AV} {t : TypeId} {ob : Objs} : sliceO (some a) (some (some l)) (some (some h)) P t ob = sliceA P t a (some l) (some h) ob := rfl

theorem aop_slice {d : Nat} {ty : TypeId} {pos : String} {af : Array Edge} {g : Option (Nat × Bool)} {t : TypeId} {x : Operand} {lo hi : Option Operand} :
    aop P ⟨some d, .slice t x lo hi none, ty, pos, af, g⟩ s = ofSv (sliceO (ev s.t x) (lo.map (ev s.t)) (hi.map (ev s.t)) P t s.o) := by simp only [aop_slice', sliceO]

def buildSliceS (d : Option (TypeId × Nat × Nat)) (z : TypeId → Option Value) (ps : Option (List (Nat × AV))) (len dd : Nat) (s : ASt) : Option St := match d, ps with
  | some (e, es, _), some ps => match z e with
    | some _ => if ps.map (·.1) = List.range len then match shareAll s (ps.map (·.2)) with
        | some (s1, bs) => some ⟨decide (dd < s1.n ∧ len * es ≤ 2 ^ 24 ∧ len ≤ maxRow ∧ ∀ b ∈ bs, b.pure = true ∧ b.cells.length = es), s1.fresh dd (arrO es bs) (.ref dd 0 len)⟩
        | none => none
      else none
    | none => none
  | _, _ => none
theorem buildSliceA_eq {t : TypeId} {len d : Nat} {ps : Option (List (Nat × AV))} : buildSliceA P t len ps d s = buildSliceS (tyEl P t) (tyZero P) ps len d s := rfl
def buildSliceT (z : Option Value) (es : Nat) (ps : List (Nat × AV)) (len dd : Nat) (s : ASt) : Option St := match z with
    | some _ => if ps.map (·.1) = List.range len then match shareAll s (ps.map (·.2)) with
        | some (s1, bs) => some ⟨decide (dd < s1.n ∧ len * es ≤ 2 ^ 24 ∧ len ≤ maxRow ∧ ∀ b ∈ bs, b.pure = true ∧ b.cells.length = es), s1.fresh dd (arrO es bs) (.ref dd 0 len)⟩
        | none => none
      else none
    | none => none
theorem buildSliceS_some {e : TypeId} {es b : Nat} {z : TypeId → Option Value} {ps : List (Nat × AV)} {len d : Nat} : buildSliceS (some (e, es, b)) z (some ps) len d s = buildSliceT (z e) es ps len d s := rfl
def buildSliceU (x : Option (ASt × List AV)) (es len dd : Nat) : Option St := match x with
  | some (s1, bs) => some ⟨decide (dd < s1.n ∧ len * es ≤ 2 ^ 24 ∧ len ≤ maxRow ∧ ∀ b ∈ bs, b.pure = true ∧ b.cells.length = es), s1.fresh dd (arrO es bs) (.ref dd 0 len)⟩
  | none => none
theorem buildSliceT_some {v : Value} {es : Nat} {ps : List (Nat × AV)} {len d : Nat} : buildSliceT (some v) es ps len d s = if ps.map (·.1) = List.range len then buildSliceU (shareAll s (ps.map (·.2))) es len d else none := by
  simp only [buildSliceT, buildSliceU]
theorem buildSliceU_some {s1 : ASt} {bs : List AV} {es len d : Nat} : buildSliceU (some (s1, bs)) es len d = some ⟨decide (d < s1.n ∧ len * es ≤ 2 ^ 24 ∧ len ≤ maxRow ∧ ∀ b ∈ bs, b.pure = true ∧ b.cells.length = es), s1.fresh d (arrO es bs) (.ref d 0 len)⟩ := rfl

/-- Sharing, staged. -/
def andS (x : Option (ASt × AV)) (r : List AV) (f : ASt → List AV → Option (ASt × List AV)) : Option (ASt × List AV) := match x with
  | some (s1, b) => match f s1 r with
    | some (s2, bs) => some (s2, b :: bs)
    | none => none
  | none => none
def consS (b : AV) (x : Option (ASt × List AV)) : Option (ASt × List AV) := match x with
  | some (s2, bs) => some (s2, b :: bs)
  | none => none
theorem andS_some {s1 : ASt} {b : AV} {r : List AV} {f : ASt → List AV → Option (ASt × List AV)} : andS (some (s1, b)) r f = consS b (f s1 r) := rfl
theorem consS_some {s2 : ASt} {b : AV} {bs : List AV} : consS b (some (s2, bs)) = some (s2, b :: bs) := rfl
theorem shareAll_nil : shareAll s [] = some (s, []) := rfl
theorem shareAll_cons {a : AV} {r : List AV} : shareAll s (a :: r) = andS (share s a) r shareAll := by first | rfl | (simp only [shareAll, andS]; done) | (simp only [shareAll, andS]; repeat' split) <;> simp_all
theorem shareL_nil : shareL s [] = some (s, []) := rfl
theorem shareL_cons {a : AV} {r : List AV} : shareL s (a :: r) = andS (shareV s a) r shareL := by first | rfl | (simp only [shareL, andS]; done) | (simp only [shareL, andS]; repeat' split) <;> simp_all
def aggS (x : Option (ASt × List AV)) : Option (ASt × AV) := match x with
  | some (s1, ds) => some (s1, .agg ds)
  | none => none
theorem aggS_some {s1 : ASt} {ds : List AV} : aggS (some (s1, ds)) = some (s1, .agg ds) := rfl
theorem share_agg {cs : List AV} : share s (.agg cs) = aggS (shareL s cs) := rfl
theorem share_sc {v : Value} : share s (.sc v) = some (s, .sc v) := by simp [share, shareV, AV.pure]
theorem share_list {f : Bool} {xs : List AV} : share s (.list false f xs) = some (s, .list false f xs) := by simp [share, shareV, AV.pure]
theorem share_ref {L lo n : Nat} : share s (.ref L lo n) = shareV s (.ref L lo n) := rfl
theorem shareV_sc {v : Value} : shareV s (.sc v) = some (s, .sc v) := by simp [shareV, AV.pure]
theorem shareV_list {f : Bool} {xs : List AV} : shareV s (.list false f xs) = some (s, .list false f xs) := by simp [shareV, AV.pure]
def shareR (x : Option AObj) (s : ASt) (L lo n : Nat) : Option (ASt × AV) := match x with
    | some x => if x.arr = true ∧ x.pin = false then some (s.frz L x, .list false false (seg x.xs lo n)) else none
    | none => none
theorem shareV_ref {L lo n : Nat} : shareV s (.ref L lo n) = shareR (lk s.o L) s L lo n := by
  simp only [shareV, shareR]; cases lk s.o L <;> rfl
theorem shareR_some {kd : Nat} {fz : Bool} {es L lo n : Nat} {xs : List AV} : shareR (some ⟨true, fz, false, es, xs, kd⟩) s L lo n = some ({ s with o := (L, ⟨true, true, false, es, xs, kd⟩) :: s.o }, .list false false (seg xs lo n)) := rfl
theorem share_pure {a : AV} (h : a.pure = true) (hn : a.isAgg = false) : share s a = some (s, a) := by
  cases a <;> first | (simp [AV.isAgg] at hn; done) | (simp [AV.pure] at h; done) | (simp [share, shareV, AV.pure]; done) | (simp [share, shareV, AV.pure] at *; simp [h])
theorem seg_whole {α : Type} {xs : List α} : seg xs 0 xs.length = xs := by simp [seg]
theorem seg_eq {α : Type} {xs : List α} {lo n : Nat} : seg xs lo n = if lo = 0 ∧ n = xs.length then xs else (xs.drop lo).take n := rfl

/-- append, staged. -/
def appS (d : Option (TypeId × Nat × Nat)) (d2 : Bool) (ys : Option (List AV)) (z : TypeId → Option Value) (kk : TypeId → Nat) (a : AV) (dd : Nat) (s : ASt) : Option St := match d, d2, ys with
  | some (e, es, bytes), true, some ys => match z e with
    | some _ => match a with
      | .list _ true xs => some ⟨decide (dd < s.n ∧ (∀ zv, z e = some zv → zv.cells.size = es) ∧ (∀ y ∈ ys, y.cells.length = es) ∧ (∀ y ∈ xs, y.cells.length = es) ∧ bytes ≠ 0 ∧ (2 * (xs.length + ys.length) + 200) * bytes ≤ 2 ^ 48 ∧ (xs = [] ∨ ys ≠ [])),
          s.renew dd dd dd (arrK es (xs ++ ys) (kk e)) (.ref dd 0 (xs ++ ys).length)⟩
      | .ref L lo n => match lk s.o L with
        | some x => if x.arr = true ∧ x.fz = false ∧ lo = 0 then
            some ⟨decide (dd < s.n ∧ (∀ zv, z e = some zv → zv.cells.size = es) ∧ (∀ y ∈ ys, y.cells.length = es) ∧ x.es = es ∧ bytes ≠ 0 ∧ (2 * (n + ys.length) + 200) * bytes ≤ 2 ^ 48 ∧ n ≤ x.xs.length),
              s.renew L (if x.pin = true then dd else L) dd (arrK es (seg x.xs 0 n ++ ys) (if x.kd = kk e then kk e else 0)) (.ref (if x.pin = true then dd else L) 0 (n + ys.length))⟩ else none
        | none => none
      | _ => none
    | none => none
  | _, _, _ => none
theorem appendA_eq {st xt : TypeId} {a b : AV} {d : Nat} : appendA P st xt a b d s = appS (tyEl P st) (tySrc P xt) (srcOf s.o b) (tyZero P) (kdE P) a d s := by
  simp only [appendA, appS]; cases tyEl P st <;> cases tySrc P xt <;> cases srcOf s.o b <;> rfl
theorem appS_list {e : TypeId} {es bytes : Nat} {ys xs : List AV} {z : TypeId → Option Value} {kk : TypeId → Nat} {l : Bool} {d : Nat} {v : Value} (hz : z e = some v) (hs : v.cells.size = es) (hb : bytes ≠ 0) :
    appS (some (e, es, bytes)) true (some ys) z kk (.list l true xs) d s = some ⟨decide (d < s.n ∧ (∀ y ∈ ys, y.cells.length = es) ∧ (∀ y ∈ xs, y.cells.length = es) ∧ (2 * (xs.length + ys.length) + 200) * bytes ≤ 2 ^ 48 ∧ (xs = [] ∨ ys ≠ [])),
          s.renew d d d (arrK es (xs ++ ys) (kk e)) (.ref d 0 (xs ++ ys).length)⟩ := by
  simp only [appS, hz]
  simp [hs, hb]
def appR (x : Option AObj) (L n es bytes k dd : Nat) (ys : List AV) (s : ASt) : Option St := match x with
  | some x => if x.arr = true ∧ x.fz = false then some ⟨decide (dd < s.n ∧ (∀ y ∈ ys, y.cells.length = es) ∧ x.es = es ∧ (2 * (n + ys.length) + 200) * bytes ≤ 2 ^ 48 ∧ n ≤ x.xs.length),
              s.renew L (if x.pin = true then dd else L) dd (arrK es (seg x.xs 0 n ++ ys) (if x.kd = k then k else 0)) (.ref (if x.pin = true then dd else L) 0 (n + ys.length))⟩ else none
  | none => none
theorem appS_ref {e : TypeId} {es bytes : Nat} {ys : List AV} {z : TypeId → Option Value} {kk : TypeId → Nat} {L n d : Nat} {v : Value} (hz : z e = some v) (hs : v.cells.size = es) (hb : bytes ≠ 0) :
    appS (some (e, es, bytes)) true (some ys) z kk (.ref L 0 n) d s = appR (lk s.o L) L n es bytes (kk e) d ys s := by
  simp only [appS, hz, appR]
  cases lk s.o L with
  | none => rfl
  | some x => simp [hs, hb]
theorem appR_some {kd k : Nat} {L n es es' bytes d : Nat} {xs ys : List AV} {pin : Bool} : appR (some ⟨true, false, pin, es', xs, kd⟩) L n es bytes k d ys s = some ⟨decide (d < s.n ∧ (∀ y ∈ ys, y.cells.length = es) ∧ es' = es ∧ (2 * (n + ys.length) + 200) * bytes ≤ 2 ^ 48 ∧ n ≤ xs.length),
              s.renew L (if pin = true then d else L) d (arrK es (seg xs 0 n ++ ys) (if kd = k then k else 0)) (.ref (if pin = true then d else L) 0 (n + ys.length))⟩ := rfl
theorem arrK_eq {es k : Nat} {xs : List AV} : arrK es xs k = ⟨true, false, false, es, xs, k⟩ := rfl
theorem srcOf_list {o : Objs} {l f : Bool} {ys : List AV} : srcOf o (.list l f ys) = some ys := rfl
theorem srcOf_ref {o : Objs} {L lo n : Nat} : srcOf o (.ref L lo n) = elemsOf o (.ref L lo n) := rfl
theorem srcOf_str {o : Objs} {b : ByteArray} : srcOf o (.sc (.string b)) = some (b.data.toList.map bAV) := rfl
def elemsR (x : Option AObj) (lo n : Nat) : Option (List AV) := match x with
  | some x => if x.arr = true then some (seg x.xs lo n) else none
  | none => none
theorem elemsOf_list {o : Objs} {l f : Bool} {ys : List AV} : elemsOf o (.list l f ys) = some ys := rfl
theorem elemsOf_ref {o : Objs} {L lo n : Nat} : elemsOf o (.ref L lo n) = elemsR (lk o L) lo n := by first | rfl | (simp only [elemsOf, elemsR]; done) | (simp only [elemsOf, elemsR]; repeat' split) <;> simp_all
theorem elemsR_some {kd : Nat} {fz pin : Bool} {es lo n : Nat} {xs : List AV} : elemsR (some ⟨true, fz, pin, es, xs, kd⟩) lo n = some (seg xs lo n) := rfl

/-- Lending, staged. -/
def consO (b : Option AV) (x : Option (List AV)) : Option (List AV) := match b, x with
  | some b, some bs => some (b :: bs)
  | _, _ => none
theorem consO_some {b : AV} {bs : List AV} : consO (some b) (some bs) = some (b :: bs) := rfl
theorem lendAll_nil {o : Objs} : lendAll o [] = some [] := rfl
theorem lendAll_cons {o : Objs} {a : AV} {r : List AV} : lendAll o (a :: r) = consO (lend o a) (lendAll o r) := by
  simp only [lendAll, consO]
  cases lend o a with
  | none => rfl
  | some b => cases lendAll o r <;> rfl
theorem lendL_nil {o : Objs} : lendL o [] = some [] := rfl
theorem lendL_cons {o : Objs} {a : AV} {r : List AV} : lendL o (a :: r) = consO (lend1 o a) (lendL o r) := by
  simp only [lendL, consO]
  cases lend1 o a with
  | none => rfl
  | some b => cases lendL o r <;> rfl
theorem lend_agg {o : Objs} {cs : List AV} : lend o (.agg cs) = (lendL o cs).map .agg := rfl
theorem lend_clo {o : Objs} {g : FuncId} {cs : List AV} : lend o (.clo g cs) = (lendL o cs).map (.clo g) := rfl
theorem lend_sc {o : Objs} {v : Value} : lend o (.sc v) = some (.sc v) := rfl
theorem lend_list {o : Objs} {l f : Bool} {xs : List AV} : lend o (.list l f xs) = some (.list l f xs) := rfl
theorem lend_iptr {o : Objs} {l : Bool} {xs : List AV} {i k : Nat} : lend o (.iptr l xs i k) = some (.iptr l xs i k) := rfl
theorem lend_dead {o : Objs} : lend o .dead = some .dead := rfl
theorem lend1_sc {o : Objs} {v : Value} : lend1 o (.sc v) = some (.sc v) := rfl
theorem lend1_list {o : Objs} {l f : Bool} {xs : List AV} : lend1 o (.list l f xs) = some (.list l f xs) := rfl
theorem lend1_iptr {o : Objs} {l : Bool} {xs : List AV} {i k : Nat} : lend1 o (.iptr l xs i k) = some (.iptr l xs i k) := rfl
theorem lend1_dead {o : Objs} : lend1 o .dead = some .dead := rfl
theorem lend_ref {o : Objs} {L lo n : Nat} : lend o (.ref L lo n) = lend1 o (.ref L lo n) := rfl
theorem lend_ptr {o : Objs} {L i k : Nat} : lend o (.ptr L i k) = lend1 o (.ptr L i k) := rfl
theorem lend_aref {o : Objs} {L i k es n : Nat} : lend o (.aref L i k es n) = lend1 o (.aref L i k es n) := rfl
def lendR (x : Option AObj) (lo n : Nat) : Option AV := match x with
  | some x => if x.arr = true then some (.list (!x.fz) false (seg x.xs lo n)) else none
  | none => none
theorem lend1_ref {o : Objs} {L lo n : Nat} : lend1 o (.ref L lo n) = lendR (lk o L) lo n := by first | rfl | (simp only [lend1, lendR]; done) | (simp only [lend1, lendR]; repeat' split) <;> simp_all
theorem lendR_some {kd : Nat} {fz pin : Bool} {es lo n : Nat} {xs : List AV} : lendR (some ⟨true, fz, pin, es, xs, kd⟩) lo n = some (.list (!fz) false (seg xs lo n)) := rfl
def lendP (x : Option AObj) (i k : Nat) : Option AV := match x with
  | some x => if x.arr = true ∨ AV.pureL x.xs = true then some (.iptr true x.xs i k) else none
  | none => none
theorem lend1_ptr {o : Objs} {L i k : Nat} : lend1 o (.ptr L i k) = lendP (lk o L) i k := by first | rfl | (simp only [lend1, lendP]; done) | (simp only [lend1, lendP]; repeat' split) <;> simp_all
theorem lendP_some {kd : Nat} {arr fz pin : Bool} {es i k : Nat} {xs : List AV} : lendP (some ⟨arr, fz, pin, es, xs, kd⟩) i k = if arr = true ∨ AV.pureL xs = true then some (.iptr true xs i k) else none := rfl
def lendQ (y : Option AV) (k es n : Nat) : Option AV := match y with
  | some y => if y.pure = true ∧ k + n * es ≤ y.cells.length ∧ n ≤ 1048576 ∧ y.isAgg = true then some (.list true false ((List.range n).map fun j => chunk y.cells (k + j * es) es)) else none
  | none => none
def lendA (x : Option AObj) (i k es n : Nat) : Option AV := match x with
  | some x => lendQ (x.xs[i]?) k es n
  | none => none
theorem lend1_aref {o : Objs} {L i k es n : Nat} : lend1 o (.aref L i k es n) = lendA (lk o L) i k es n := by
  simp only [lend1, lendA]
  cases lk o L with
  | none => rfl
  | some x => simp only [lendQ]; cases x.xs[i]? <;> rfl
theorem lendA_some {x : AObj} {i k es n : Nat} : lendA (some x) i k es n = lendQ (x.xs[i]?) k es n := rfl
theorem lendQ_some {y : AV} {k es n : Nat} : lendQ (some y) k es n = if y.pure = true ∧ k + n * es ≤ y.cells.length ∧ n ≤ 1048576 ∧ y.isAgg = true then some (.list true false ((List.range n).map fun j => chunk y.cells (k + j * es) es)) else none := rfl
theorem chunk_eq {cs : List AV} {off es : Nat} : chunk cs off es = if es = 1 then cs.getD off .dead else .agg ((cs.drop off).take es) := rfl

theorem retS_own {d es : Nat} {xs : List AV} : retS s d (.own es xs) = s.renew d d d (arrO es xs) (.ref d 0 xs.length) := rfl
theorem retS_sc {d : Nat} {v : Value} : retS s d (.sc v) = s.put d (.sc v) := rfl
theorem retS_agg {d : Nat} {cs : List AV} : retS s d (.agg cs) = s.put d (.agg cs) := rfl
theorem retS_list {d : Nat} {l f : Bool} {xs : List AV} : retS s d (.list l f xs) = s.put d (.list l f xs) := rfl
theorem retS_clo {d : Nat} {g : FuncId} {cs : List AV} : retS s d (.clo g cs) = s.put d (.clo g cs) := rfl
def putT (d : Nat) (x : ASt × List AV) : ASt := x.1.put d (.tup x.2)
theorem retS_tup {d : Nat} {rs : List AV} : retS s d (.tup rs) = putT d (retL s.n d 0 s rs) := rfl
theorem putT_eq {d : Nat} {s1 : ASt} {cs : List AV} : putT d (s1, cs) = s1.put d (.tup cs) := rfl
def consT (b : AV) (x : ASt × List AV) : ASt × List AV := (x.1, b :: x.2)
theorem consT_eq {b : AV} {s1 : ASt} {cs : List AV} : consT b (s1, cs) = (s1, b :: cs) := rfl
theorem retL_nil {n d i : Nat} : retL n d i s [] = (s, []) := rfl
theorem retL_own {n d i es : Nat} {xs rs : List AV} : retL n d i s (.own es xs :: rs) = consT (.ref (n * (i + 1) + d) 0 xs.length) (retL n d (i + 1) (s.adopt (n * (i + 1) + d) (arrO es xs)) rs) := rfl
theorem retL_sc {n d i : Nat} {v : Value} {rs : List AV} : retL n d i s (.sc v :: rs) = consT (.sc v) (retL n d (i + 1) s rs) := rfl
theorem retL_agg {n d i : Nat} {cs : List AV} {rs : List AV} : retL n d i s (.agg cs :: rs) = consT (.agg cs) (retL n d (i + 1) s rs) := rfl
theorem retL_list {n d i : Nat} {l f : Bool} {xs rs : List AV} : retL n d i s (.list l f xs :: rs) = consT (.list l f xs) (retL n d (i + 1) s rs) := rfl

theorem entry_eq {n : Nat} {as : List AV} : entry n as = ⟨n, (as.zipIdx 0).map fun p => (p.2, p.1), []⟩ := rfl
/-- The end, staged. -/
def consR (a : Option AV) (r : Option (List AV)) : Option (List AV) := match a, r with
  | some a, some as => some (a :: as)
  | _, _ => none
theorem consR_some {a : AV} {r : List AV} : consR (some a) (some r) = some (a :: r) := rfl
theorem resL_nil : resL P s [] = some [] := rfl
theorem resL_cons {r : ResultVar} {rs : List ResultVar} : resL P s (r :: rs) = consR (res1 P s r) (resL P s rs) := by
  simp only [resL, consR]; cases res1 P s r <;> cases resL P s rs <;> rfl
theorem res1_tmp {t : Nat} : res1 P s (.tmp t) = lk s.t t := rfl
def resC (p : Option AV) (t : TypeId) (P : Program) (o : Objs) : Option AV := match p with
    | some (.ptr L i k) => (loadA P t (.ptr L i k) o).map (·.val)
    | _ => none
theorem res1_cell {a : Nat} {t : TypeId} : res1 P s (.cell a t) = resC (lk s.t a) t P s.o := by first | rfl | (simp only [res1, resC]; done) | (simp only [res1, resC]; repeat' split) <;> simp_all
theorem resC_ptr {L i k : Nat} {t : TypeId} {o : Objs} : resC (some (.ptr L i k)) t P o = (loadA P t (.ptr L i k) o).map (·.val) := rfl
theorem freezeL_nil : freezeL [] s = some s := rfl
def frzS (x : Option AObj) (L : Nat) (r : List Nat) (s : ASt) : Option ASt := match x with
  | some x => if x.arr = true then freezeL r (s.frz L x) else none
  | none => none
theorem freezeL_cons {L : Nat} {r : List Nat} : freezeL (L :: r) s = frzS (lk s.o L) L r s := by first | rfl | (simp only [freezeL, frzS]; done) | (simp only [freezeL, frzS]; repeat' split) <;> simp_all
theorem frzS_some {kd : Nat} {fz pin : Bool} {es L : Nat} {xs : List AV} {r : List Nat} : frzS (some ⟨true, fz, pin, es, xs, kd⟩) L r s = freezeL r { s with o := (L, ⟨true, true, pin, es, xs, kd⟩) :: s.o } := rfl
def handS (x : Option (ASt × List AV)) : Option AV := match x with
  | some (s2, ys) => if nodupB (refsOf ys) = true then (finL s2.o ys).map pack else none
  | none => none
theorem handS_some {s2 : ASt} {ys : List AV} : handS (some (s2, ys)) = if nodupB (refsOf ys) = true then (finL s2.o ys).map pack else none := rfl
def aretS (xs : Option (List AV)) (s1 : Option ASt) : Option AV := match xs, s1 with
  | some xs, some s1 => handS (handL s1 xs)
  | _, _ => none
theorem aret_eq {rs : List ResultVar} {fs : List Nat} : aret P rs fs s = aretS (resL P s rs) (freezeL fs s) := by
  simp only [aret, aretS]
  cases resL P s rs with
  | none => rfl
  | some xs => cases freezeL fs s with
    | none => rfl
    | some s1 => simp only [handS]; cases handL s1 xs <;> rfl
theorem aretS_some {xs : List AV} {s1 : ASt} : aretS (some xs) (some s1) = handS (handL s1 xs) := rfl
theorem handL_nil : handL s [] = some (s, []) := rfl
theorem handL_cons {a : AV} {r : List AV} : handL s (a :: r) = andS (hand1 s a) r handL := by first | rfl | (simp only [handL, andS]; done) | (simp only [handL, andS]; repeat' split) <;> simp_all
theorem hand1_ref {L lo n : Nat} : hand1 s (.ref L lo n) = some (s, .ref L lo n) := rfl
theorem hand1_sc {v : Value} : hand1 s (.sc v) = some (s, .sc v) := by simp [hand1, share, shareV, AV.pure]
theorem hand1_agg {cs : List AV} : hand1 s (.agg cs) = aggS (shareL s cs) := rfl
theorem hand1_list {f : Bool} {xs : List AV} : hand1 s (.list false f xs) = some (s, .list false f xs) := by simp [hand1, share, shareV, AV.pure]
theorem hand1_clo {g : FuncId} {cs : List AV} : hand1 s (.clo g cs) = if AV.pureL cs = true then some (s, .clo g cs) else none := rfl
theorem finL_nil {o : Objs} : finL o [] = some [] := rfl
theorem finL_cons {o : Objs} {a : AV} {r : List AV} : finL o (a :: r) = consR (fin1 o a) (finL o r) := by first | rfl | (simp only [finL, consR]; done) | (simp only [finL, consR]; repeat' split) <;> simp_all
theorem fin1_sc {o : Objs} {v : Value} : fin1 o (.sc v) = some (.sc v) := by simp [fin1, AV.pure]
theorem fin1_agg {o : Objs} {cs : List AV} : fin1 o (.agg cs) = if AV.pureL cs = true then some (.agg cs) else none := rfl
theorem fin1_clo {o : Objs} {g : FuncId} {cs : List AV} : fin1 o (.clo g cs) = if AV.pureL cs = true then some (.clo g cs) else none := rfl
theorem fin1_list {o : Objs} {f : Bool} {xs : List AV} : fin1 o (.list false f xs) = some (.list false f xs) := by simp [fin1, AV.pure]
def finR (x : Option AObj) (lo n : Nat) : Option AV := match x with
    | some x => if x.arr = true then (if x.fz = true then some (.list false false (seg x.xs lo n)) else if x.pin = false ∧ lo = 0 ∧ n = x.xs.length then some (.own x.es x.xs) else none) else none
    | none => none
theorem fin1_ref {o : Objs} {L lo n : Nat} : fin1 o (.ref L lo n) = finR (lk o L) lo n := by first | rfl | (simp only [fin1, finR]; done) | (simp only [fin1, finR]; repeat' split) <;> simp_all
theorem finR_fz {kd : Nat} {pin : Bool} {es lo n : Nat} {xs : List AV} : finR (some ⟨true, true, pin, es, xs, kd⟩) lo n = some (.list false false (seg xs lo n)) := rfl
theorem finR_own {kd : Nat} {es lo n : Nat} {xs : List AV} : finR (some ⟨true, false, false, es, xs, kd⟩) lo n = if lo = 0 ∧ n = xs.length then some (.own es xs) else none := by simp [finR]
theorem refsOf_nil : refsOf [] = [] := rfl
theorem refsOf_ref {L lo n : Nat} {r : List AV} : refsOf (.ref L lo n :: r) = L :: refsOf r := rfl
theorem refsOf_sc {v : Value} {r : List AV} : refsOf (.sc v :: r) = refsOf r := rfl
theorem refsOf_agg {cs : List AV} {r : List AV} : refsOf (.agg cs :: r) = refsOf r := rfl
theorem refsOf_list {l f : Bool} {xs r : List AV} : refsOf (.list l f xs :: r) = refsOf r := rfl
theorem refsOf_clo {g : FuncId} {cs : List AV} {r : List AV} : refsOf (.clo g cs :: r) = refsOf r := rfl
theorem nodupB_nil : nodupB [] = true := rfl
theorem nodupB_cons {a : Nat} {r : List Nat} : nodupB (a :: r) = (!r.contains a && nodupB r) := rfl
theorem pack_one {r : AV} : pack [r] = r := rfl
theorem pack_nil : pack [] = .tup [] := rfl
theorem pack_two {a b : AV} {r : List AV} : pack (a :: b :: r) = .tup (a :: b :: r) := rfl
def endW (x : Option AV) (R : AV → Prop) : Prop := match x with
  | some r => R r
  | none => False
theorem endV_eq {rs : List ResultVar} {fs : List Nat} {R : AV → Prop} : endV P rs fs R s = endW (aret P rs fs s) R := by simp only [endV, endW]
theorem endW_some {r : AV} {R : AV → Prop} : endW (some r) R = R r := rfl

def gvS (x : Option AV) (want : Bool) : GV := match x with
  | some (.sc (.bool b)) => .test b want
  | some (.tup []) => .skip
  | _ => .bad
theorem gvS_und {want : Bool} : gvS (some (.tup [])) want = .skip := rfl
theorem gval_eq {ops : Array Oper} {j : Nat} {want : Bool} : gval ops (some (j, want)) s = gvS ((gslot ops j).bind (lk s.t)) want := by first | rfl | (simp only [gval, gvS]; done) | (simp only [gval, gvS]; repeat' split) <;> simp_all
theorem gvS_bool {b want : Bool} : gvS (some (.sc (.bool b))) want = .test b want := rfl
theorem gslot_eq {ops : Array Oper} {j : Nat} : gslot ops j = (ops[j]?).bind (·.dst) := rfl

end
attribute [go_sem ↓] awp_skip awp_region awp_seq awp_cond awp_block awp_exit awp_ret thenQ_normal thenQ_ret thenQ_exit blockQ_normal blockQ_ret blockQ_exit arun_nil arun_cons gK_run gK_tt gK_ff gK_tf gK_ft darun_zero allocsK_nil allocsK_cons isAl_eq List.filter_cons List.filter_nil darun_cons dgK_run dgK_tt dgK_ff dgK_tf dgK_ft dstep_eq
attribute [go_sem] gvS_und gK_skip dgK_skip dalK_some dskipK_some dstepK_v dstepK_no
attribute [go_sem] condQ_true condQ_false gval_none gval_eq gvS_bool gslot_eq skipK_some stepK_v stepK_h stepK_no put_eq fresh_eq renew_eq renew0_eq lk_nil lk_cons killT_nil killT_cons killO_nil killO_cons killX_arr killX_box del_nil del_cons
  kl_sc kl_list kl_iptr kl_ref kl_ptr kl_aref kl_dead kl_clo kl_tup kill1_sc kill1_list kill1_iptr kill1_ref kill1_ptr kill1_aref kill1_dead kill1_clo kill1_tup kill1_agg kl_mp kill1_mp
  ev_tmp ev_const ev_func cst_int cst_bool cst_string cst_nil cst_pnil cst_mnil cst_fnil cst_inil nt_eq bl_eq ofSv_some ofSv_none ofSt_some ofSt_none
attribute [go_sem] aop_move aop_assign aop_pick aop_load aop_bin aop_un aop_conv aop_fieldAddr aop_field aop_indexAddr aop_index aop_extract aop_build aop_makeFunc aop_nilCheck aop_len aop_alloc aop_box aop_store aop_buildSlice aop_append aop_call
attribute [go_sem] wrap_i64 wrap_u64 wrap_u8 wrap_i32 wrap_u32 tdiv_pos tmod_pos capsA_nil capsA_cons partsA_nil partsA_cons
attribute [go_sem] cells_agg cells_sc cells_list cells_iptr cells_ref cells_ptr cells_clo isAgg_agg isAgg_sc isAgg_list isAgg_iptr isAgg_ref isAgg_ptr isAgg_clo plain_agg plain_sc plain_list plain_iptr plain_ref plain_ptr plain_clo
  pure_agg pure_sc pure_list pure_iptr pure_ref pure_ptr pure_dead pure_clo pureL_nil pureL_cons has_agg has_sc has_list has_iptr has_ref has_ptr has_aref has_clo has_dead hasL_nil hasL_cons
attribute [go_sem] binA_int binA_str binA_eql_bool binA_neq_bool binA_agg intA strA unA convA loadA_eq loadS_some rowE_agg rowE_one ptE_ptr ptS_some ptE_iptr fieldAddrA_eq fieldAddrS_iptr fieldAddrS_ptr lenA_str lenS_some lenA_list lenA_ref lenA_aref
  ixList ixListS_some ixRef ixRefS_some ixAref ixArefS_some ixPtr ixPtrS_some ixIptr ixIptrS_some fieldA_agg fieldS_some partA_eq partS_true partS_false allocA_eq allocS_some boxA_eq boxO_eq boxK_eq zbS_zero zbS_succ arrO_eq arrK_eq srcOf_list srcOf_ref srcOf_str
  storeA_ptr storeS_box storeB_some storeS_arr storeR_some storeT_some setO_eq layE_eq splice_eq buildA_eq buildS_some fillL_nil fillL_cons fillS_some
attribute [go_sem] sliceA_list sliceListS_some sliceA_ref sliceRefS_some sliceA_str sliceStrS_some sliceA_ptr slicePtrS_some slicePtrT_some bd_none bd_some buildSliceA_eq buildSliceS_some buildSliceT_some buildSliceU_some
  andS_some consS_some shareAll_nil shareAll_cons shareL_nil shareL_cons aggS_some share_agg share_sc share_list share_ref shareV_sc shareV_list shareV_ref shareR_some seg_whole seg_eq appendA_eq appR_some elemsOf_list elemsOf_ref elemsR_some
  consO_some lendAll_nil lendAll_cons lendL_nil lendL_cons lend_agg lend_clo lend_sc lend_list lend_iptr lend_dead lend1_sc lend1_list lend1_iptr lend1_dead lend_ref lend_ptr lend_aref lend1_ref lendR_some lend1_ptr lendP_some lend1_aref lendA_some lendQ_some chunk_eq
attribute [go_sem] retS_own retS_sc retS_agg retS_list retS_clo retS_tup putT_eq consT_eq retL_nil retL_own retL_sc retL_agg retL_list entry_eq consR_some resL_nil resL_cons res1_tmp res1_cell resC_ptr freezeL_nil freezeL_cons frzS_some handS_some aret_eq aretS_some
  handL_nil handL_cons hand1_ref hand1_sc hand1_agg hand1_list hand1_clo finL_nil finL_cons fin1_sc fin1_agg fin1_clo fin1_list fin1_ref finR_fz finR_own refsOf_nil refsOf_ref refsOf_sc refsOf_agg refsOf_list refsOf_clo nodupB_nil nodupB_cons pack_one pack_nil pack_two endV_eq endW_some
  aop_slice sliceO_nn sliceO_sn sliceO_ns sliceO_ss
attribute [go_sem] List.getElem?_cons_zero List.getElem?_cons_succ List.getElem?_nil List.map_cons List.map_nil List.length_cons List.length_nil List.take_zero List.take_succ_cons List.take_nil List.drop_zero List.drop_succ_cons List.drop_nil List.cons_append List.nil_append List.append_nil
  List.set_cons_zero List.set_cons_succ List.zipIdx_cons List.zipIdx_nil Option.map_some Option.map_none Option.bind_some Option.bind_none List.getElem?_toArray Nat.zero_add Nat.add_zero Int.toNat_natCast Int.toNat_zero List.contains_nil
  Bool.not_true Bool.not_false and_true true_and and_false false_and and_self or_true true_or or_false false_or if_true if_false ite_true ite_false ne_eq not_true_eq_false not_false_eq_true Bool.false_eq_true Bool.true_and Bool.and_true Bool.false_and Bool.and_false Bool.or_false Bool.false_or Bool.or_true Bool.true_or eq_self implies_true decide_true decide_false
section
variable {P : Program} {Q : Exit → ASt → Prop} {s : ASt} {k : ASt → Prop}
section asteps
variable {dd : Option Nat} {d : Nat} {ty : TypeId} {pos : String} {af : Array Edge} {g : Option (Nat × Bool)}
theorem astep_move {x : Operand} : astep P ⟨dd, .move x, ty, pos, af, g⟩ k s = stepK P (aop P ⟨dd, .move x, ty, pos, af, g⟩ s) dd k s := rfl
theorem astep_assign {x : Operand} : astep P ⟨dd, .assign x, ty, pos, af, g⟩ k s = stepK P (aop P ⟨dd, .assign x, ty, pos, af, g⟩ s) dd k s := rfl
theorem astep_pick {c x y : Operand} : astep P ⟨dd, .pick c x y, ty, pos, af, g⟩ k s = stepK P (aop P ⟨dd, .pick c x y, ty, pos, af, g⟩ s) dd k s := rfl
theorem astep_alloc {t : TypeId} : astep P ⟨dd, .alloc t, ty, pos, af, g⟩ k s = stepK P (aop P ⟨dd, .alloc t, ty, pos, af, g⟩ s) dd k s := rfl
theorem astep_box {t : TypeId} {x : Operand} : astep P ⟨dd, .box t x, ty, pos, af, g⟩ k s = stepK P (aop P ⟨dd, .box t x, ty, pos, af, g⟩ s) dd k s := rfl
theorem astep_build {t : TypeId} {ps : Array (Nat × Operand)} : astep P ⟨dd, .build t ps, ty, pos, af, g⟩ k s = stepK P (aop P ⟨dd, .build t ps, ty, pos, af, g⟩ s) dd k s := rfl
theorem astep_buildSlice {t : TypeId} {l : Nat} {ps : Array (Nat × Operand)} : astep P ⟨dd, .buildSlice t l ps, ty, pos, af, g⟩ k s = stepK P (aop P ⟨dd, .buildSlice t l ps, ty, pos, af, g⟩ s) dd k s := rfl
theorem astep_load {t : TypeId} {x : Operand} : astep P ⟨dd, .load t x, ty, pos, af, g⟩ k s = stepK P (aop P ⟨dd, .load t x, ty, pos, af, g⟩ s) dd k s := rfl
theorem astep_store {t : TypeId} {x y : Operand} : astep P ⟨dd, .store t x y, ty, pos, af, g⟩ k s = stepK P (aop P ⟨dd, .store t x y, ty, pos, af, g⟩ s) dd k s := rfl
theorem astep_nilCheck {x : Operand} : astep P ⟨dd, .nilCheck x, ty, pos, af, g⟩ k s = stepK P (aop P ⟨dd, .nilCheck x, ty, pos, af, g⟩ s) dd k s := rfl
theorem astep_unOp {u : UnOp} {t : TypeId} {x : Operand} : astep P ⟨dd, .unOp u t x, ty, pos, af, g⟩ k s = stepK P (aop P ⟨dd, .unOp u t x, ty, pos, af, g⟩ s) dd k s := rfl
theorem astep_fieldAddr {t : TypeId} {x : Operand} {i : Nat} : astep P ⟨dd, .fieldAddr t x i, ty, pos, af, g⟩ k s = stepK P (aop P ⟨dd, .fieldAddr t x i, ty, pos, af, g⟩ s) dd k s := rfl
theorem astep_field {t : TypeId} {x : Operand} {i : Nat} : astep P ⟨dd, .field t x i, ty, pos, af, g⟩ k s = stepK P (aop P ⟨dd, .field t x i, ty, pos, af, g⟩ s) dd k s := rfl
theorem astep_indexAddr {t : TypeId} {x y : Operand} : astep P ⟨dd, .indexAddr t x y, ty, pos, af, g⟩ k s = stepK P (aop P ⟨dd, .indexAddr t x y, ty, pos, af, g⟩ s) dd k s := rfl
theorem astep_index {t : TypeId} {x y : Operand} : astep P ⟨dd, .index t x y, ty, pos, af, g⟩ k s = stepK P (aop P ⟨dd, .index t x y, ty, pos, af, g⟩ s) dd k s := rfl
theorem astep_slice {t : TypeId} {x : Operand} {l h m : Option Operand} : astep P ⟨dd, .slice t x l h m, ty, pos, af, g⟩ k s = stepK P (aop P ⟨dd, .slice t x l h m, ty, pos, af, g⟩ s) dd k s := rfl
theorem astep_extract {x : Operand} {i : Nat} : astep P ⟨dd, .extract x i, ty, pos, af, g⟩ k s = stepK P (aop P ⟨dd, .extract x i, ty, pos, af, g⟩ s) dd k s := rfl
theorem astep_makeFunc {fn : Fn} {a c : Array Operand} : astep P ⟨dd, .makeFunc fn a c, ty, pos, af, g⟩ k s = stepK P (aop P ⟨dd, .makeFunc fn a c, ty, pos, af, g⟩ s) dd k s := rfl
theorem astep_makeMapN {t : TypeId} {x : Operand} : astep P ⟨dd, .makeMap t (some x), ty, pos, af, g⟩ k s = stepK P (aop P ⟨dd, .makeMap t (some x), ty, pos, af, g⟩ s) dd k s := rfl
theorem astep_makeInterface {t : TypeId} {x : Operand} : astep P ⟨dd, .makeInterface t x, ty, pos, af, g⟩ k s = stepK P (aop P ⟨dd, .makeInterface t x, ty, pos, af, g⟩ s) dd k s := rfl
theorem astep_callV {x : Operand} {xs : Array Operand} {ts : Array TypeId} : astep P ⟨dd, .call ⟨.value x, xs, ts⟩, ty, pos, af, g⟩ k s = stepK P (aop P ⟨dd, .call ⟨.value x, xs, ts⟩, ty, pos, af, g⟩ s) dd k s := rfl
theorem astep_call_len {xs : Array Operand} {ts : Array TypeId} : astep P ⟨dd, .call ⟨.builtin .len, xs, ts⟩, ty, pos, af, g⟩ k s = stepK P (aop P ⟨dd, .call ⟨.builtin .len, xs, ts⟩, ty, pos, af, g⟩ s) dd k s := rfl
theorem astep_call_append {xs : Array Operand} {ts : Array TypeId} : astep P ⟨dd, .call ⟨.builtin .append, xs, ts⟩, ty, pos, af, g⟩ k s = stepK P (aop P ⟨dd, .call ⟨.builtin .append, xs, ts⟩, ty, pos, af, g⟩ s) dd k s := rfl
theorem astep_call_min {xs : Array Operand} {ts : Array TypeId} : astep P ⟨dd, .call ⟨.builtin .min, xs, ts⟩, ty, pos, af, g⟩ k s = stepK P (aop P ⟨dd, .call ⟨.builtin .min, xs, ts⟩, ty, pos, af, g⟩ s) dd k s := rfl
theorem astep_call_max {xs : Array Operand} {ts : Array TypeId} : astep P ⟨dd, .call ⟨.builtin .max, xs, ts⟩, ty, pos, af, g⟩ k s = stepK P (aop P ⟨dd, .call ⟨.builtin .max, xs, ts⟩, ty, pos, af, g⟩ s) dd k s := rfl
theorem astep_call_unsafeSliceData {xs : Array Operand} {ts : Array TypeId} : astep P ⟨dd, .call ⟨.builtin .unsafeSliceData, xs, ts⟩, ty, pos, af, g⟩ k s = stepK P (aop P ⟨dd, .call ⟨.builtin .unsafeSliceData, xs, ts⟩, ty, pos, af, g⟩ s) dd k s := rfl
theorem astep_call_cap {xs : Array Operand} {ts : Array TypeId} : astep P ⟨dd, .call ⟨.builtin .cap, xs, ts⟩, ty, pos, af, g⟩ k s = stepK P (aop P ⟨dd, .call ⟨.builtin .cap, xs, ts⟩, ty, pos, af, g⟩ s) dd k s := rfl
theorem astep_call_clear {xs : Array Operand} {ts : Array TypeId} : astep P ⟨dd, .call ⟨.builtin .clear, xs, ts⟩, ty, pos, af, g⟩ k s = stepK P (aop P ⟨dd, .call ⟨.builtin .clear, xs, ts⟩, ty, pos, af, g⟩ s) dd k s := rfl
theorem astep_call_delete {xs : Array Operand} {ts : Array TypeId} : astep P ⟨dd, .call ⟨.builtin .delete, xs, ts⟩, ty, pos, af, g⟩ k s = stepK P (aop P ⟨dd, .call ⟨.builtin .delete, xs, ts⟩, ty, pos, af, g⟩ s) dd k s := rfl
theorem astep_bin_add {t yt : TypeId} {x y : Operand} : astep P ⟨dd, .binOp .add t x y yt, ty, pos, af, g⟩ k s = stepK P (aop P ⟨dd, .binOp .add t x y yt, ty, pos, af, g⟩ s) dd k s := rfl
theorem astep_bin_sub {t yt : TypeId} {x y : Operand} : astep P ⟨dd, .binOp .sub t x y yt, ty, pos, af, g⟩ k s = stepK P (aop P ⟨dd, .binOp .sub t x y yt, ty, pos, af, g⟩ s) dd k s := rfl
theorem astep_bin_mul {t yt : TypeId} {x y : Operand} : astep P ⟨dd, .binOp .mul t x y yt, ty, pos, af, g⟩ k s = stepK P (aop P ⟨dd, .binOp .mul t x y yt, ty, pos, af, g⟩ s) dd k s := rfl
theorem astep_bin_quo {t yt : TypeId} {x y : Operand} : astep P ⟨dd, .binOp .quo t x y yt, ty, pos, af, g⟩ k s = stepK P (aop P ⟨dd, .binOp .quo t x y yt, ty, pos, af, g⟩ s) dd k s := rfl
theorem astep_bin_rem {t yt : TypeId} {x y : Operand} : astep P ⟨dd, .binOp .rem t x y yt, ty, pos, af, g⟩ k s = stepK P (aop P ⟨dd, .binOp .rem t x y yt, ty, pos, af, g⟩ s) dd k s := rfl
theorem astep_bin_and {t yt : TypeId} {x y : Operand} : astep P ⟨dd, .binOp .and t x y yt, ty, pos, af, g⟩ k s = stepK P (aop P ⟨dd, .binOp .and t x y yt, ty, pos, af, g⟩ s) dd k s := rfl
theorem astep_bin_or {t yt : TypeId} {x y : Operand} : astep P ⟨dd, .binOp .or t x y yt, ty, pos, af, g⟩ k s = stepK P (aop P ⟨dd, .binOp .or t x y yt, ty, pos, af, g⟩ s) dd k s := rfl
theorem astep_bin_xor {t yt : TypeId} {x y : Operand} : astep P ⟨dd, .binOp .xor t x y yt, ty, pos, af, g⟩ k s = stepK P (aop P ⟨dd, .binOp .xor t x y yt, ty, pos, af, g⟩ s) dd k s := rfl
theorem astep_bin_shl {t yt : TypeId} {x y : Operand} : astep P ⟨dd, .binOp .shl t x y yt, ty, pos, af, g⟩ k s = stepK P (aop P ⟨dd, .binOp .shl t x y yt, ty, pos, af, g⟩ s) dd k s := rfl
theorem astep_bin_shr {t yt : TypeId} {x y : Operand} : astep P ⟨dd, .binOp .shr t x y yt, ty, pos, af, g⟩ k s = stepK P (aop P ⟨dd, .binOp .shr t x y yt, ty, pos, af, g⟩ s) dd k s := rfl
theorem astep_bin_andNot {t yt : TypeId} {x y : Operand} : astep P ⟨dd, .binOp .andNot t x y yt, ty, pos, af, g⟩ k s = stepK P (aop P ⟨dd, .binOp .andNot t x y yt, ty, pos, af, g⟩ s) dd k s := rfl
theorem astep_bin_eql {t yt : TypeId} {x y : Operand} : astep P ⟨dd, .binOp .eql t x y yt, ty, pos, af, g⟩ k s = stepK P (aop P ⟨dd, .binOp .eql t x y yt, ty, pos, af, g⟩ s) dd k s := rfl
theorem astep_bin_lss {t yt : TypeId} {x y : Operand} : astep P ⟨dd, .binOp .lss t x y yt, ty, pos, af, g⟩ k s = stepK P (aop P ⟨dd, .binOp .lss t x y yt, ty, pos, af, g⟩ s) dd k s := rfl
theorem astep_bin_leq {t yt : TypeId} {x y : Operand} : astep P ⟨dd, .binOp .leq t x y yt, ty, pos, af, g⟩ k s = stepK P (aop P ⟨dd, .binOp .leq t x y yt, ty, pos, af, g⟩ s) dd k s := rfl
theorem astep_bin_gtr {t yt : TypeId} {x y : Operand} : astep P ⟨dd, .binOp .gtr t x y yt, ty, pos, af, g⟩ k s = stepK P (aop P ⟨dd, .binOp .gtr t x y yt, ty, pos, af, g⟩ s) dd k s := rfl
theorem astep_bin_geq {t yt : TypeId} {x y : Operand} : astep P ⟨dd, .binOp .geq t x y yt, ty, pos, af, g⟩ k s = stepK P (aop P ⟨dd, .binOp .geq t x y yt, ty, pos, af, g⟩ s) dd k s := rfl
def spS (r : Option St) (k : ASt → Prop) (z : Prop) : Prop := match r with
  | some r => r.need ∧ k r.st
  | none => z
theorem spS_some {n : Bool} {st : ASt} {z : Prop} : spS (some ⟨n, st⟩) k z = (n ∧ k st) := rfl
theorem spS_none {z : Prop} : spS none k z = z := rfl
def cvS (v : Option AV) (d : Nat) (s : ASt) : Option St := match v with
  | some v => some ⟨decide (d < s.n), s.put d v⟩
  | none => none
theorem cvS_some {v : AV} : cvS (some v) d s = some ⟨decide (d < s.n), s.put d v⟩ := rfl
theorem cvS_none : cvS none d s = none := rfl
def nqS (b : Bool) (d : Nat) (s : ASt) : Option St := match b with
  | true => some ⟨decide (d < s.n), s.put d (bl false)⟩
  | false => none
theorem nqS_true : nqS true d s = some ⟨decide (d < s.n), s.put d (bl false)⟩ := rfl
theorem nqS_false : nqS false d s = none := rfl
theorem astep_convert {a b : TypeId} {x : Operand} : astep P ⟨some d, .convert a b x, ty, pos, af, g⟩ k s = spS (cvS (unsA P a b s.o (ev s.t x)) d s) k (stepK P (aop P ⟨some d, .convert a b x, ty, pos, af, g⟩ s) (some d) k s) := by
  simp only [astep, special, spS, cvS]; cases unsA P a b s.o (ev s.t x) <;> rfl
theorem astep_neq {t yt : TypeId} {x y : Operand} : astep P ⟨some d, .binOp .neq t x y yt, ty, pos, af, g⟩ k s = spS (nqS (neqA P t (ev s.t x) (ev s.t y)) d s) k (stepK P (aop P ⟨some d, .binOp .neq t x y yt, ty, pos, af, g⟩ s) (some d) k s) := by
  simp only [astep, special, spS, nqS]; cases neqA P t (ev s.t x) (ev s.t y) <;> rfl
theorem astep_ustr {x y : Operand} {pt it : TypeId} : astep P ⟨some d, .call ⟨.builtin .unsafeString, #[x, y], #[pt, it]⟩, ty, pos, af, g⟩ k s = spS (unsStr P pt d s (ev s.t x) (ev s.t y)) k (stepK P (aop P ⟨some d, .call ⟨.builtin .unsafeString, #[x, y], #[pt, it]⟩, ty, pos, af, g⟩ s) (some d) k s) := by
  simp only [astep, special, spS]; rfl
theorem astep_makeMap {t : TypeId} : astep P ⟨some d, .makeMap t none, ty, pos, af, g⟩ k s = (decide (d < s.n) = true ∧ k (s.renew d d d mapO (.mp d))) := rfl
theorem astep_lookup {t : TypeId} {x y : Operand} {b : Bool} : astep P ⟨some d, .lookup t x y b, ty, pos, af, g⟩ k s = spS (lookS P t b d s (ev s.t x) (ev s.t y)) k (stepK P (aop P ⟨some d, .lookup t x y b, ty, pos, af, g⟩ s) (some d) k s) := by
  simp only [astep, special, spS]; rfl
theorem astep_mapUpdate {t : TypeId} {x y z : Operand} : astep P ⟨none, .mapUpdate t x y z, ty, pos, af, g⟩ k s = spS (updS P t s (ev s.t x) (ev s.t y) (ev s.t z)) k (stepK P (aop P ⟨none, .mapUpdate t x y z, ty, pos, af, g⟩ s) none k s) := by
  simp only [astep, special, spS]; rfl
theorem lookS_mp {t : TypeId} {b : Bool} {L : Nat} {v : Value} : lookS P t b d s (some (.mp L)) (some (.sc v)) = lookX P t b d v s (lk s.o L) := rfl
def lkR (z : Option AV) (ok : Bool) (m : Option (Option (Nat × AV))) : Option AV := match z, m with
  | some z, some none => some (if ok = true then .tup [z, bl false] else z)
  | some _, some (some (_, v)) => some (if ok = true then .tup [v, bl true] else v)
  | _, _ => none
theorem lkR_none {z : AV} {ok : Bool} : lkR (some z) ok (some none) = some (if ok = true then .tup [z, bl false] else z) := rfl
theorem lkR_some {z v : AV} {ok : Bool} {i : Nat} : lkR (some z) ok (some (some (i, v))) = some (if ok = true then .tup [v, bl true] else v) := rfl
theorem lookX_some {t : TypeId} {b : Bool} {v : Value} {ar fz pin : Bool} {es kd : Nat} {xs : List AV} : lookX P t b d v s (some ⟨ar, fz, pin, es, xs, kd⟩) = if tyMk P t v = true then cvS (lkR (tyMz P t) b (mget v xs 0)) d s else none := by
  simp only [lookX, cvS]
  have e : lookA P t v b xs = lkR (tyMz P t) b (mget v xs 0) := by
    unfold lookA lkR
    cases tyMz P t with
    | none => rfl
    | some z => cases mget v xs 0 with
      | none => rfl
      | some q => cases q <;> rfl
  rw [e]
  cases lkR (tyMz P t) b (mget v xs 0) <;> rfl
def upR (r : Option ASt) : Option St := match r with
  | some r => some ⟨true, r⟩
  | none => none
theorem upR_some {r : ASt} : upR (some r) = some ⟨true, r⟩ := rfl
def mpR (P : Program) (t : TypeId) (L : Nat) (v : Value) (r : Option (ASt × AV)) : Option ASt := match r with
  | some (s1, v1) => match lk s1.o L with
    | some x => if tyMk P t v = true ∧ x.kd = 1 ∧ x.fz = false ∧ v1.pure = true then match mput v v1 x.xs with
        | some ys => if ys.length ≤ maxRow then some { s1 with o := setO s1.o L { x with xs := ys } } else none
        | none => none
      else none
    | none => none
  | none => none
def mpQ (P : Program) (t : TypeId) (L : Nat) (v : Value) (s1 : ASt) (v1 : AV) (x : Option AObj) : Option ASt := match x with
    | some x => if tyMk P t v = true ∧ x.kd = 1 ∧ x.fz = false ∧ v1.pure = true then match mput v v1 x.xs with
        | some ys => if ys.length ≤ maxRow then some { s1 with o := setO s1.o L { x with xs := ys } } else none
        | none => none
      else none
    | none => none
def mpP (L : Nat) (s1 : ASt) (x : AObj) (ys : Option (List AV)) : Option ASt := match ys with
  | some ys => if ys.length ≤ maxRow then some { s1 with o := setO s1.o L { x with xs := ys } } else none
  | none => none
theorem updS_mp {t : TypeId} {L : Nat} {v : Value} {b : AV} : updS P t s (some (.mp L)) (some (.sc v)) (some b) = upR (mpR P t L v (share s b)) := by
  simp only [updS, upR, mupdA, mpR]
  cases share s b with
  | none => rfl
  | some q =>
    obtain ⟨s1, v1⟩ := q
    simp only
    cases lk s1.o L with
    | none => rfl
    | some x =>
      simp only
      split
      · cases mput v v1 x.xs with
        | none => rfl
        | some ys => simp only; split <;> rfl
      · rfl
theorem mpR_some {t : TypeId} {L : Nat} {v : Value} {s1 : ASt} {v1 : AV} : mpR P t L v (some (s1, v1)) = mpQ P t L v s1 v1 (lk s1.o L) := rfl
theorem mpQ_some {t : TypeId} {L : Nat} {v : Value} {s1 : ASt} {v1 : AV} {ar pin : Bool} {es : Nat} {xs : List AV} : mpQ P t L v s1 v1 (some ⟨ar, false, pin, es, xs, 1⟩) = if tyMk P t v = true ∧ v1.pure = true then mpP L s1 ⟨ar, false, pin, es, xs, 1⟩ (mput v v1 xs) else none := by
  simp only [mpQ, mpP, true_and]
theorem mpP_some {L : Nat} {s1 : ASt} {x : AObj} {ys : List AV} : mpP L s1 x (some ys) = if ys.length ≤ maxRow then some { s1 with o := setO s1.o L { x with xs := ys } } else none := rfl
theorem mapO_eq : mapO = ⟨true, false, false, 0, [], 1⟩ := rfl
theorem astep_makeSlice {t : TypeId} {x y : Operand} : astep P ⟨some d, .makeSlice t x y, ty, pos, af, g⟩ k s = spS (makeSliceA P t d s (ev s.t x) (ev s.t y)) k (stepK P (aop P ⟨some d, .makeSlice t x y, ty, pos, af, g⟩ s) (some d) k s) := by
  simp only [astep, special, spS]; rfl
def mkS (P : Program) (d : Nat) (s : ASt) (l c : Int) (e es b : Nat) (z : Option AV) : Option St := match z with
  | some z => if z.pure = true ∧ z.cells.length = es then some ⟨decide (d < s.n ∧ 0 ≤ l ∧ l ≤ c ∧ (b : Int) * c ≤ 281474976710656 ∧ c ≤ 140737488355328), s.fresh d (arrO es (List.replicate l.toNat z)) (.ref d 0 l.toNat)⟩ else none
  | none => none
def mkT (P : Program) (d : Nat) (s : ASt) (l c : Int) : Option (TypeId × Nat × Nat) → Option St
  | some (e, es, b) => mkS P d s l c e es b (tyZ P e)
  | none => none
theorem mkT_some {l c : Int} {e es b : Nat} : mkT P d s l c (some (e, es, b)) = mkS P d s l c e es b (tyZ P e) := rfl
theorem mkS_some {l c : Int} {e es b : Nat} {z : AV} : mkS P d s l c e es b (some z) = if z.pure = true ∧ z.cells.length = es then some ⟨decide (d < s.n ∧ 0 ≤ l ∧ l ≤ c ∧ (b : Int) * c ≤ 281474976710656 ∧ c ≤ 140737488355328), s.fresh d (arrO es (List.replicate l.toNat z)) (.ref d 0 l.toNat)⟩ else none := rfl
theorem makeSliceA_sc {t : TypeId} {kl kc : IntKind} {l c : Int} : makeSliceA P t d s (some (.sc (.int kl l))) (some (.sc (.int kc c))) = mkT P d s l c (tyEl P t) := by
  simp only [makeSliceA]
  cases tyEl P t with
  | none => rfl
  | some q => obtain ⟨e, es, b⟩ := q; simp only [mkT, mkS]; cases tyZ P e <;> rfl
theorem astep_call_copy {x y : Operand} {pt it : TypeId} : astep P ⟨some d, .call ⟨.builtin .copy, #[x, y], #[pt, it]⟩, ty, pos, af, g⟩ k s = spS (copyS P pt d s (ev s.t x) (ev s.t y)) k (stepK P (aop P ⟨some d, .call ⟨.builtin .copy, #[x, y], #[pt, it]⟩, ty, pos, af, g⟩ s) (some d) k s) := by
  simp only [astep, special, spS]; rfl
def cpX (d : Nat) (s : ASt) (L lo n : Nat) (es : Nat) (ys : List AV) : Option AObj → Option St
  | some x => if x.arr = true ∧ x.fz = false ∧ x.kd ≠ 1 then
        some ⟨decide (d < s.n ∧ (∀ y ∈ ys, y.cells.length = es) ∧ x.es = es ∧ ys.length ≤ n ∧ (ys ≠ [] ∨ lo = 0) ∧ lo + n ≤ x.xs.length), { s with o := setO s.o L { x with xs := splice x.xs ys lo } }.put d (nt .i64 ys.length)⟩
      else none
  | none => none
def cpR (d : Nat) (s : ASt) (L lo n : Nat) (t : Option (TypeId × Nat × Nat)) (r : Option (List AV)) : Option St := match t, r with
  | some (_, es, _), some ys => cpX d s L lo n es ys (lk s.o L)
  | _, _ => none
theorem copyS_ref {t : TypeId} {L lo n : Nat} {b : AV} : copyS P t d s (some (.ref L lo n)) (some b) = cpR d s L lo n (tyEl P t) (srcOf s.o b) := by
  simp only [copyS, copyA, cpR]
  cases tyEl P t with
  | none => rfl
  | some q =>
    obtain ⟨e, es, b'⟩ := q
    cases srcOf s.o b with
    | none => rfl
    | some ys => simp only; cases lk s.o L <;> rfl
theorem cpR_some {L lo n e es b : Nat} {ys : List AV} : cpR d s L lo n (some (e, es, b)) (some ys) = cpX d s L lo n es ys (lk s.o L) := rfl
theorem cpX_some {L lo n es kd : Nat} {ys xs : List AV} {pin : Bool} {e : Nat} : cpX d s L lo n es ys (some ⟨true, false, pin, e, xs, kd⟩) = if kd ≠ 1 then
        some ⟨decide (d < s.n ∧ (∀ y ∈ ys, y.cells.length = es) ∧ e = es ∧ ys.length ≤ n ∧ (ys ≠ [] ∨ lo = 0) ∧ lo + n ≤ xs.length), { s with o := setO s.o L ⟨true, false, pin, e, splice xs ys lo, kd⟩ }.put d (nt .i64 ys.length)⟩ else none := by
  simp only [cpX, true_and]
theorem unsA_sc {a b : TypeId} {o : Objs} {v : Value} : unsA P a b o (some (.sc v)) = none := rfl
theorem unsA_list {a b : TypeId} {o : Objs} {l f : Bool} {xs : List AV} : unsA P a b o (some (.list l f xs)) = none := rfl
theorem unsA_ref {a b : TypeId} {o : Objs} {L lo n : Nat} : unsA P a b o (some (.ref L lo n)) = none := rfl
theorem unsA_agg {a b : TypeId} {o : Objs} {cs : List AV} : unsA P a b o (some (.agg cs)) = none := rfl
theorem unsA_ptr {a b : TypeId} {o : Objs} {L : Nat} : unsA P a b o (some (.ptr L 0 0)) = unsX P a b L (lk o L) := rfl
theorem unsX_some {a b : TypeId} {L : Nat} {fz pin : Bool} {es e : Nat} {xs : List AV} : unsX P a b L (some ⟨false, fz, pin, es + 1, xs, e + 2⟩) = if unsT P a b e (es + 1) = true then some (.ptr L 0 0) else none := by
  simp [unsX]
theorem neqA_sc {t : TypeId} {v : Value} {y : Option AV} : neqA P t (some (.sc v)) y = false := rfl
theorem neqA_list {t : TypeId} {l f : Bool} {xs : List AV} {y : Option AV} : neqA P t (some (.list l f xs)) y = false := rfl
theorem neqA_agg {t : TypeId} {cs : List AV} {y : Option AV} : neqA P t (some (.agg cs)) y = false := rfl
theorem neqA_ref {t : TypeId} {L lo n : Nat} {y : Option AV} : neqA P t (some (.ref L lo n)) y = false := rfl
theorem neqA_clo {t : TypeId} {f : FuncId} {cs : List AV} {y : Option AV} : neqA P t (some (.clo f cs)) y = false := rfl
theorem neqA_iptr {t : TypeId} {l : Bool} {xs : List AV} {i o : Nat} {y : Option AV} : neqA P t (some (.iptr l xs i o)) y = false := rfl
theorem neqA_ps {t : TypeId} {L i o : Nat} {v : Value} : neqA P t (some (.ptr L i o)) (some (.sc v)) = false := rfl
theorem neqA_pp {t : TypeId} {L i o L' i' o' : Nat} : neqA P t (some (.ptr L i o)) (some (.ptr L' i' o')) = (decide (L = L' ∧ i = i' ∧ o = o') && ptT P t) := rfl
theorem unsStr_sc {pt : TypeId} {v : Value} {y : Option AV} : unsStr P pt d s (some (.sc v)) y = none := rfl
theorem unsStr_ptr {pt : TypeId} {L : Nat} {m : Int} : unsStr P pt d s (some (.ptr L 0 0)) (some (.sc (.int .i64 m))) = unsStrX P pt L d m s (lk s.o L) := rfl
theorem appendN_list {st xt : TypeId} {l f : Bool} {xs : List AV} {b : AV} : appendN P st xt (.list l f xs) b d s = appendA P st xt (.list l f xs) b d s := rfl
theorem appendN_ref {st xt : TypeId} {L lo n : Nat} {b : AV} : appendN P st xt (.ref L lo n) b d s = appendA P st xt (.ref L lo n) b d s := rfl
attribute [go_sem] astep_move astep_assign astep_pick astep_alloc astep_box astep_build astep_buildSlice astep_load astep_store astep_nilCheck astep_unOp astep_fieldAddr astep_field astep_indexAddr astep_index astep_slice astep_extract astep_makeFunc astep_makeMap astep_makeMapN lookS_mp lkR_none lkR_some lookX_some upR_some updS_mp mpR_some mpQ_some mpP_some mapO_eq astep_makeSlice mkT_some mkS_some makeSliceA_sc astep_makeInterface astep_lookup astep_mapUpdate astep_callV astep_call_len astep_call_append astep_call_min astep_call_max astep_call_unsafeSliceData astep_call_copy copyS_ref cpR_some cpX_some astep_call_cap astep_call_clear astep_call_delete astep_bin_add astep_bin_sub astep_bin_mul astep_bin_quo astep_bin_rem astep_bin_and astep_bin_or astep_bin_xor astep_bin_shl astep_bin_shr astep_bin_andNot astep_bin_eql astep_bin_lss astep_bin_leq astep_bin_gtr astep_bin_geq spS_some spS_none cvS_some cvS_none nqS_true nqS_false astep_convert astep_neq astep_ustr unsA_sc unsA_list unsA_ref unsA_agg unsA_ptr unsX_some neqA_sc neqA_list neqA_agg neqA_ref neqA_clo neqA_iptr neqA_ps neqA_pp unsStr_sc unsStr_ptr appendN_list appendN_ref
end asteps
end
end Go.Ab
