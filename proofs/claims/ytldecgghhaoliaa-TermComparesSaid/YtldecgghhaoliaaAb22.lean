/-
  Ab22: a run that is reckoned: code over a closed state.
-/
import Derived.Test.YtldecgghhaoliaaAb21
import Derived.Test.YtldecgghhaoliaaAb19b
namespace Go.Ab
open Go.RowKit
set_option linter.unusedVariables false
set_option linter.unusedSimpArgs false

/- Weakest preconditions by meaning. -/
theorem AWp.post {P c} {Q Q' : Exit → ASt → Prop} {s : ASt} (h : AWp P c Q s) (hq : ∀ e s, Q e s → ∃ s0, Le s0 s ∧ Q' e s0) : AWp P c Q' s := fun C F μ a w hs =>
  wp_mono (h C F μ a w hs) fun e a' w' ⟨F', μ', s', h1, h2⟩ => by
    obtain ⟨s0, h3, h4⟩ := hq e s' h1
    obtain ⟨F2, μ2, h5⟩ := h3 C F' μ' a' w' h2
    exact ⟨F2, μ2, s0, h4, h5⟩
theorem AWp.seq {P x y} {Q : Exit → ASt → Prop} {s : ASt} (h : AWp P x (thenQ (AWp P y Q) Q) s) : AWp P (.seq x y) Q s := fun C F μ a w hs => by
  refine wp_seq (wp_mono (h C F μ a w hs) ?_)
  rintro e a' w' ⟨F', μ', s', hq, hs'⟩
  cases e with
  | normal => exact hq C F' μ' a' w' hs'
  | _ => exact ⟨F', μ', s', hq, hs'⟩
theorem AWp.cond {P c x y} {Q : Exit → ASt → Prop} {s : ASt} {b : Bool} (hb : ev s.t c = some (.sc (.bool b))) (h : AWp P (if b = true then x else y) Q s) : AWp P (.cond c x y) Q s := fun C F μ a w hs => by
  have hrv := evs hs c _ hb
  generalize hv : a.eval c = v at hrv
  cases hrv
  cases b with
  | true => exact wp_cond_true hv (h C F μ a w hs)
  | false => exact wp_cond_false hv (h C F μ a w hs)
theorem AWp.block {P id b} {Q : Exit → ASt → Prop} {s : ASt} (h : AWp P b (blockQ id Q) s) : AWp P (.block id b) Q s := fun C F μ a w hs => by
  refine wp_block (wp_mono (h C F μ a w hs) ?_)
  rintro e a' w' ⟨F', μ', s', hq, hs'⟩
  cases e with
  | exit id' =>
    simp only [Exit.inBlock]
    simp only [blockQ] at hq
    split
    · rename_i hid; rw [if_pos hid] at hq; exact ⟨F', μ', s', hq, hs'⟩
    · rename_i hid; rw [if_neg hid] at hq; exact ⟨F', μ', s', hq, hs'⟩
  | _ => exact ⟨F', μ', s', hq, hs'⟩
theorem AWp.loop {P b} {Q : Exit → ASt → Prop} (I : Nat → ASt → Prop) {n : Nat} {s : ASt} (h0 : I n s) (hr : ∀ n s, I n s → AWp P b (thenQ (fun s => ∃ n', n' < n ∧ I n' s) Q) s) : AWp P (.loop b) Q s := fun C F μ a w hs => by
  refine wp_loop_ghost (fun n a w => ∃ F μ s, I n s ∧ SR C F μ s a w) n ⟨F, μ, s, h0, hs⟩ ?_
  rintro n a w ⟨F, μ, s, hI, hs⟩
  refine wp_mono (hr n s hI C F μ a w hs) ?_
  rintro e a' w' ⟨F', μ', s', hq, hs'⟩
  cases e with
  | normal =>
    obtain ⟨n', hlt, hI'⟩ := hq
    exact ⟨n', hlt, F', μ', s', hI', hs'⟩
  | _ => exact ⟨F', μ', s', hq, hs'⟩

/-- Only the first entry of each name counts. -/
def dd {α : Type} : List (Nat × α) → List (Nat × α)
  | [] => []
  | p :: r => p :: (dd r).filter fun q => !(q.1 == p.1)
theorem lk_skip {α : Type} (k : Nat) : ∀ (l : List (Nat × α)) (i : Nat), i ≠ k → lk (l.filter fun q => !(q.1 == k)) i = lk l i
  | [], i, _ => rfl
  | (j, a) :: l, i, h => by
    simp only [List.filter_cons]
    by_cases hj : j = k
    · subst hj
      simp only [beq_self_eq_true, Bool.not_true, Bool.false_eq_true, if_false, lk]
      rw [if_neg (fun e => h e.symm), lk_skip j l i h]
    · simp only [beq_eq_false_iff_ne.2 hj, Bool.not_false, if_true, lk, lk_skip k l i h]
theorem lk_dd {α : Type} : ∀ (l : List (Nat × α)) (i : Nat), lk (dd l) i = lk l i
  | [], i => rfl
  | (j, a) :: l, i => by
    simp only [dd, lk]
    by_cases hj : j = i
    · rw [if_pos hj, if_pos hj]
    · rw [if_neg hj, if_neg hj, lk_skip j (dd l) i (fun e => hj e.symm), lk_dd l i]
def norm (s : ASt) : ASt := if s.t.length ≤ 2 * s.n + 16 then s else { n := s.n, t := dd s.t, o := dd s.o }
theorem norm_le (s : ASt) : Le (norm s) s := by
  unfold norm
  split
  · exact Le.refl s
  · intro C F μ a w h
    have hlo : ∀ L, lk (dd s.o) L = lk s.o L := lk_dd s.o
    have hloc : locOf (dd s.o) μ = locOf s.o μ := by funext L; simp [locOf, hlo]
    refine ⟨F, μ, ⟨h.sw.facts, h.sw.sub, h.sw.lentc, h.sw.grow, h.sw.newf, h.sw.fr, ?_, ?_, ?_, ?_, ?_⟩, h.defers, h.n, ?_⟩
    · intro L x hx; rw [hloc]; rw [hlo] at hx; exact h.sw.obj L x hx
    · intro L x L' x'; rw [hlo, hlo]; exact h.sw.dist L x L' x'
    · intro L x; rw [hlo]; exact h.sw.excl L x
    · intro L x; rw [hlo]; exact h.sw.mine L x
    · intro L x x0; rw [hlo]; exact h.sw.keep L x x0
    · intro i x hx; rw [hloc]; rw [lk_dd] at hx; exact h.slot i x hx

def callOkB (P : Program) (g : FuncId) : Bool := match P.funcs[g]? with
  | some fn => !(fn.name == "runtime.NumGoroutine") && fn.body.isSome
  | none => false
theorem callOk {P : Program} {g : FuncId} (h : callOkB P g = true) (cargs : Array Value) (w : World) : (callFunc g cargs).run P w = .ok (.enter g cargs) w := by
  unfold callOkB at h
  split at h
  · rename_i fn hf
    simp only [Bool.and_eq_true, Bool.not_eq_true'] at h
    have hb : fn.body.isNone = false := by cases hq : fn.body <;> simp_all
    have hn : ¬ fn.name = "runtime.NumGoroutine" := by simpa using h.1
    have hb' : fn.body ≠ none := fun e => by simp [e] at hb
    simp [callFunc, hf, hn, hb']
  · cases h

def axOp (P : Program) (call : FuncId → List AV → Nat → ASt → Option ASt) (o : Oper) (s : ASt) : Option ASt :=
  match special P o s with
  | some r => if r.need = true then some r.st else none
  | none => match aop P o s, o.dst with
  | .v r, some d => if (r.need && decide (d < s.n)) = true then some (s.put d r.val) else none
  | .h r, _ => if r.need = true then some r.st else none
  | .c g as, some d => if d < s.n then call g as d s else none
  | _, _ => none
def axOps (P : Program) (call : FuncId → List AV → Nat → ASt → Option ASt) (ops : Array Oper) : List Oper → ASt → Option ASt
  | [], s => some s
  | o :: r, s => match gval ops o.guard s with
    | .run => match axOp P call o s with
      | some s1 => axOps P call ops r s1
      | none => none
    | .test b want => match b == want with
      | true => match axOp P call o s with
        | some s1 => axOps P call ops r s1
        | none => none
      | false => match o.dst with
        | some d => if d < s.n then axOps P call ops r (s.put d (.tup [])) else none
        | none => axOps P call ops r s
    | .skip => match o.dst with
        | some d => if d < s.n then axOps P call ops r (s.put d (.tup [])) else none
        | none => axOps P call ops r s
    | .bad => none

def CallM (P : Program) (call : FuncId → List AV → Nat → ASt → Option ASt) : Prop :=
  ∀ g as d s s', call g as d s = some s' → d < s.n → ∀ k : ASt → Prop, k s' → stepK P (.c g as) (some d) k s

theorem axOp_sound {P : Program} {call : FuncId → List AV → Nat → ASt → Option ASt} (hc : CallM P call) {o : Oper} {s s' : ASt} (h : axOp P call o s = some s') {k : ASt → Prop} (hk : k s') : astep P o k s := by
  unfold axOp at h
  unfold astep
  split at h
  · rename_i r hr
    rw [hr]
    split at h
    · rename_i hn
      obtain rfl := Option.some.inj h
      exact ⟨hn, hk⟩
    · cases h
  rename_i hsp
  rw [hsp]
  simp only
  split at h
  · rename_i r d hr hd
    rw [hr, hd]
    split at h
    · rename_i hn
      obtain rfl := Option.some.inj h
      simp only [Bool.and_eq_true, decide_eq_true_eq] at hn
      exact ⟨hn.1, hn.2, hk⟩
    · cases h
  · rename_i r hr
    rw [hr]
    split at h
    · rename_i hn
      obtain rfl := Option.some.inj h
      cases o.dst <;> exact ⟨hn, hk⟩
    · cases h
  · rename_i g as d hr hd
    rw [hr, hd]
    split at h
    · rename_i hn
      exact hc g as d s s' h hn k hk
    · cases h
  · cases h

theorem axOps_sound {P : Program} {call : FuncId → List AV → Nat → ASt → Option ASt} (hc : CallM P call) {ops : Array Oper} : ∀ (l : List Oper) (s s' : ASt), axOps P call ops l s = some s' → ∀ k : ASt → Prop, k s' → arun P ops l k s
  | [], s, s', h, k, hk => by simp [axOps] at h; subst h; exact hk
  | o :: r, s, s', h, k, hk => by
    simp only [axOps] at h
    simp only [arun]
    unfold gK
    split at h
    · rename_i hg
      rw [hg]
      split at h
      · rename_i s1 h1; exact axOp_sound hc h1 (axOps_sound hc r s1 s' h k hk)
      · cases h
    · rename_i b want hg
      rw [hg]
      refine ⟨fun e => ?_, fun e => ?_⟩
      · rw [show (b == want) = true by simp [e]] at h
        simp only at h
        split at h
        · rename_i s1 h1; exact axOp_sound hc h1 (axOps_sound hc r s1 s' h k hk)
        · cases h
      · rw [show (b == want) = false by simp [e]] at h
        simp only at h
        unfold skipK
        split at h
        · rename_i d hd
          rw [hd]
          split at h
          · rename_i hn; exact ⟨hn, axOps_sound hc r _ s' h k hk⟩
          · cases h
        · rename_i hd
          rw [hd]
          exact axOps_sound hc r _ s' h k hk
    · rename_i hg
      rw [hg]
      unfold skipK
      split at h
      · rename_i d hd
        rw [hd]
        split at h
        · rename_i hn; exact ⟨hn, axOps_sound hc r _ s' h k hk⟩
        · cases h
      · rename_i hd
        rw [hd]
        exact axOps_sound hc r _ s' h k hk
    · cases h

/- A region that draws its order. -/
def axAllocs (P : Program) : List Oper → ASt → Option ASt
  | [], s => some s
  | o :: r, s => match o.op, o.dst with
    | .alloc t, some d => match tyZ P t with
      | some z => if (z.plain && decide (d < s.n)) = true then axAllocs P r ((s.adopt d (boxO z)).put d (.ptr d 0 0)) else none
      | none => none
    | _, _ => none
theorem axAllocs_sound {P : Program} : ∀ (al : List Oper) (s s' : ASt), axAllocs P al s = some s' → ∀ k : ASt → Prop, k s' → allocsK P al k s
  | [], s, s', h, k, hk => by simp [axAllocs] at h; subst h; exact hk
  | o :: r, s, s', h, k, hk => by
    simp only [axAllocs] at h
    simp only [allocsK]
    split at h
    · rename_i t d ho hd
      rw [ho, hd]
      split at h
      · rename_i z hz
        split at h
        · rename_i hc
          simp only [Bool.and_eq_true, decide_eq_true_eq] at hc
          simp only [hz]
          exact ⟨hc.1, hc.2, axAllocs_sound r _ s' h k hk⟩
        · cases h
      · cases h
    · cases h
def dxOp (P : Program) (call : FuncId → List AV → Option AV) (o : Oper) (s : ASt) : Option ASt :=
  match isAl o with
  | true => match o.dst with
    | some d => if d < s.n then some (s.put d .dead) else none
    | none => none
  | false => match aop P o s, o.dst with
  | .v r, some d => if (r.need && decide (d < s.n)) = true then some (s.put d r.val) else none
  | .c g as, some d => if d < s.n then match lendAll s.o as with
      | some bs => match call g bs with
        | some v => if flat v = true then some (s.put d v) else none
        | none => none
      | none => none
    else none
  | _, _ => none
def dxOps (P : Program) (call : FuncId → List AV → Nat → ASt → Option ASt) (pcall : FuncId → List AV → Option AV) (ops : Array Oper) : Nat → List Oper → ASt → Option ASt
  | 0, l, s => match axAllocs P ((ops.toList.take (ops.size - l.length)).filter isAl) s with
    | some s1 => axOps P call ops l s1
    | none => none
  | _ + 1, [], s => none
  | m + 1, o :: r, s => match gval ops o.guard s with
    | .run => match dxOp P pcall o s with
      | some s1 => dxOps P call pcall ops m r s1
      | none => none
    | .test b want => match b == want with
      | true => match dxOp P pcall o s with
        | some s1 => dxOps P call pcall ops m r s1
        | none => none
      | false => match o.dst with
        | some d => if d < s.n then dxOps P call pcall ops m r (s.put d (.tup [])) else none
        | none => none
    | .skip => match o.dst with
        | some d => if d < s.n then dxOps P call pcall ops m r (s.put d (.tup [])) else none
        | none => none
    | .bad => none

def CallP (P : Program) (call : FuncId → List AV → Option AV) : Prop := ∀ g bs v, call g bs = some v → ACall P g bs (fun x => x = v)

theorem dxOp_sound {P : Program} {call : FuncId → List AV → Option AV} (hc : CallP P call) {o : Oper} {s s' : ASt} (h : dxOp P call o s = some s') {k : ASt → Prop} (hk : k s') : dstep P o k s := by
  unfold dxOp at h
  unfold dstep
  split at h
  · rename_i hal
    rw [hal]
    split at h
    · rename_i d hd
      rw [hd]
      split at h
      · rename_i hn
        obtain rfl := Option.some.inj h
        exact ⟨hn, hk⟩
      · cases h
    · cases h
  rename_i hal
  rw [hal]
  split at h
  · rename_i r d hr hd
    rw [hr, hd]
    split at h
    · rename_i hn
      obtain rfl := Option.some.inj h
      simp only [Bool.and_eq_true, decide_eq_true_eq] at hn
      exact ⟨hn.1, hn.2, hk⟩
    · cases h
  · rename_i g as d hr hd
    rw [hr, hd]
    split at h
    · rename_i hn
      split at h
      · rename_i bs hb
        split at h
        · rename_i v hv
          split at h
          · rename_i hf
            obtain rfl := Option.some.inj h
            exact ⟨hn, bs, v, hb, hc g bs v hv, hf, hk⟩
          · cases h
        · cases h
      · cases h
    · cases h
  · cases h

theorem dxOps_sound {P : Program} {call : FuncId → List AV → Nat → ASt → Option ASt} {pcall : FuncId → List AV → Option AV} (hc : CallM P call) (hp : CallP P pcall) {ops : Array Oper} : ∀ (m : Nat) (l : List Oper) (s s' : ASt),
    dxOps P call pcall ops m l s = some s' → ∀ k : ASt → Prop, k s' → darun P ops m l k s
  | 0, l, s, s', h, k, hk => by
    simp only [dxOps] at h
    split at h
    · rename_i s1 h1
      exact axAllocs_sound _ s s1 h1 _ (axOps_sound hc l s1 s' h k hk)
    · cases h
  | m + 1, [], s, s', h, k, hk => by simp [dxOps] at h
  | m + 1, o :: r, s, s', h, k, hk => by
    simp only [dxOps] at h
    simp only [darun]
    unfold dgK
    split at h
    · rename_i hg
      rw [hg]
      split at h
      · rename_i s1 h1; exact dxOp_sound hp h1 (dxOps_sound hc hp m r s1 s' h k hk)
      · cases h
    · rename_i b want hg
      rw [hg]
      refine ⟨fun e => ?_, fun e => ?_⟩
      · rw [show (b == want) = true by simp [e]] at h
        simp only at h
        split at h
        · rename_i s1 h1; exact dxOp_sound hp h1 (dxOps_sound hc hp m r s1 s' h k hk)
        · cases h
      · rw [show (b == want) = false by simp [e]] at h
        simp only at h
        unfold dskipK
        split at h
        · rename_i d hd
          rw [hd]
          split at h
          · rename_i hn; exact ⟨hn, dxOps_sound hc hp m r _ s' h k hk⟩
          · cases h
        · cases h
    · rename_i hg
      rw [hg]
      unfold dskipK
      split at h
      · rename_i d hd
        rw [hd]
        split at h
        · rename_i hn; exact ⟨hn, dxOps_sound hc hp m r _ s' h k hk⟩
        · cases h
      · cases h
    · cases h

/-- How many operations of a region come to values first. -/
def drawM (ops : Array Oper) : Nat → Nat
  | 0 => 0
  | m + 1 => if drawOK ops m = true then drawM ops m else m + 1

def maxKey (o : Objs) : Nat := o.foldl (fun m p => max m p.1) 0
def refsL : List AV → List Nat
  | [] => []
  | .ref L _ _ :: r => L :: refsL r
  | _ :: r => refsL r

/-- Functions whose contract is known: pure ones, and such as work on the caller's objects. -/
structure Orc where
  p : FuncId → Option (List AV → Option AV)
  m : FuncId → Option (List AV → Objs → Option (AV × Objs))
  e : FuncId → Bool := fun _ => false
  u : FuncId → Bool := fun _ => false
structure OrcOk (P : Program) (O : Orc) : Prop where
  p : ∀ g f, O.p g = some f → ∀ bs v, f bs = some v → ACall P g bs (fun x => x = v)
  m : ∀ g f, O.m g = some f → ∀ bs o r o', f bs o = some (r, o') → MCall P g bs o (fun x y => x = r ∧ y = o')
  e : ∀ g, O.e g = true → ∀ x w, (callFunc g #[x]).run P w = .ok (.value x) w
def noOrc : Orc := ⟨fun _ => none, fun _ => none, fun _ => false, fun _ => false⟩
theorem noOrc_ok (P : Program) : OrcOk P noOrc := ⟨fun g f h => (by cases h), fun g f h => (by cases h), fun g h => (by cases h)⟩

/-- A call, its body reckoned by ih. -/
def axBody (P : Program) (ih : Code → ASt → Option (Exit × ASt)) (g : FuncId) (as : List AV) (d : Nat) (s : ASt) : Option ASt :=
  match P.funcs[g]? with
  | some fn => match fn.body with
    | some c => match callOkB P g && decide (as.length ≤ fn.ntmps) && keysLt (max s.n (maxKey s.o + 1)) s.o with
      | true => match ih c (entryM fn.ntmps (as.map (AV.ren (· + fn.ntmps))) (inO fn.ntmps s.o)) with
        | some (.normal, s') => match resL P s' fn.results.toList with
          | some xs => some (backS fn.ntmps (max s.n (maxKey s.o + 1)) s d (pack xs) s'.o)
          | none => none
        | some (.ret, s') => match resL P s' fn.results.toList with
          | some xs => some (backS fn.ntmps (max s.n (maxKey s.o + 1)) s d (pack xs) s'.o)
          | none => none
        | _ => none
      | false => none
    | none => none
  | none => none
def axPure (P : Program) (O : Orc) (ih : Code → ASt → Option (Exit × ASt)) (g : FuncId) (bs : List AV) : Option AV :=
  match O.p g with
  | some f => f bs
  | none => match P.funcs[g]? with
  | some fn => match fn.body with
    | some c => match callOkB P g && decide (bs.length ≤ fn.ntmps) with
      | true => match ih c (entry fn.ntmps bs) with
        | some (.normal, s') => aret P fn.results.toList (refsL ((resL P s' fn.results.toList).getD [])) s'
        | some (.ret, s') => aret P fn.results.toList (refsL ((resL P s' fn.results.toList).getD [])) s'
        | _ => none
      | false => none
    | none => none
  | none => none
def axCall (P : Program) (O : Orc) (ih : Code → ASt → Option (Exit × ASt)) (g : FuncId) (as : List AV) (d : Nat) (s : ASt) : Option ASt :=
  match O.p g with
  | some f => match lendAll s.o as with
    | some bs => match f bs with
      | some v => some (retS s d v)
      | none => none
    | none => none
  | none => match O.u g with
  | true => match lendAll s.o as with
    | some bs => match axPure P O ih g bs with
      | some v => some (retS s d v)
      | none => none
    | none => none
  | false => match O.m g with
    | some f => match keysLt (max s.n (maxKey s.o + 1)) s.o with
      | true => match f (as.map (AV.ren (· + 64))) (inO 64 s.o) with
        | some (r, o') => some (backS 64 (max s.n (maxKey s.o + 1)) s d r o')
        | none => none
      | false => none
    | none => match O.e g with
      | true => match as with
        | [a] => some (s.put d a)
        | _ => none
      | false => axBody P ih g as d s

/-- Code, one step deeper than ih. -/
def axStep (P : Program) (O : Orc) (ih : Code → ASt → Option (Exit × ASt)) (c : Code) (s : ASt) : Option (Exit × ASt) :=
  match c with
  | .skip => some (.normal, s)
  | .region _ ops draw => match draw with
    | false => match axOps P (axCall P O ih) ops ops.toList s with
      | some s' => some (.normal, norm s')
      | none => none
    | true => match P.follows .mixedOrders with
      | true => match drawOK ops (drawM ops ops.size) with
        | true => match dxOps P (axCall P O ih) (axPure P O ih) ops (drawM ops ops.size) ops.toList s with
          | some s' => some (.normal, norm s')
          | none => none
        | false => none
      | false => none
  | .seq a b => match ih a s with
    | some (.normal, s1) => ih b s1
    | r => r
  | .cond c x y => match ev s.t c with
    | some (.sc (.bool b)) => ih (if b = true then x else y) s
    | _ => none
  | .block id b => match ih b s with
    | some (.exit id', s1) => if id' = id then some (.normal, s1) else some (.exit id', s1)
    | r => r
  | .loop b => match ih b s with
    | some (.normal, s1) => ih (.loop b) s1
    | r => r
  | .exit id => some (.exit id, s)
  | .ret => some (.ret, s)
  | _ => none
def ax (P : Program) (O : Orc) : Nat → Code → ASt → Option (Exit × ASt)
  | 0 => fun _ _ => none
  | k + 1 => axStep P O (ax P O k)

/-- The one exit and the one state. -/
def isQ (e : Exit) (s : ASt) : Exit → ASt → Prop := fun e1 s1 => e1 = e ∧ s1 = s
def Good (P : Program) (ih : Code → ASt → Option (Exit × ASt)) : Prop := ∀ c s e s', ih c s = some (e, s') → AWp P c (isQ e s') s

theorem axBody_sound {P : Program} {ih : Code → ASt → Option (Exit × ASt)} (hi : Good P ih) : CallM P (axBody P ih) := by
  intro g as d s s' h hd k hk
  unfold axBody at h
  split at h
  · rename_i fn hf
    split at h
    · rename_i c hb
      split at h
      · rename_i hok
        simp only [Bool.and_eq_true, decide_eq_true_eq] at hok
        obtain ⟨⟨h1, h2⟩, h3⟩ := hok
        have key : ∀ e s1 xs, ih c (entryM fn.ntmps (as.map (AV.ren (· + fn.ntmps))) (inO fn.ntmps s.o)) = some (e, s1) → (e = .normal ∨ e = .ret) → resL P s1 fn.results.toList = some xs →
            s' = backS fn.ntmps (max s.n (maxKey s.o + 1)) s d (pack xs) s1.o → stepK P (.c g as) (some d) k s := by
          intro e s1 xs he1 he hx hs'
          refine ⟨hd, .inr (.inl ⟨fn.ntmps, max s.n (maxKey s.o + 1), fun r o' => r = pack xs ∧ o' = s1.o, h3, ?_, ?_⟩)⟩
          · refine mcall_of_AWp hf (fun cargs w => callOk h1 cargs w) hb (by simpa using h2) ((hi c _ e s1 he1).post fun e' s2 h => ⟨s2, Le.refl _, ?_⟩)
            obtain ⟨rfl, rfl⟩ := h
            rcases he with rfl | rfl
            · exact ⟨xs, hx, rfl, rfl⟩
            · exact ⟨xs, hx, rfl, rfl⟩
          · rintro r o' ⟨rfl, rfl⟩
            rw [← hs']; exact hk
        split at h
        · rename_i s1 h4
          split at h
          · rename_i xs h5
            exact key _ s1 xs h4 (.inl rfl) h5 (Option.some.inj h).symm
          · cases h
        · rename_i s1 h4
          split at h
          · rename_i xs h5
            exact key _ s1 xs h4 (.inr rfl) h5 (Option.some.inj h).symm
          · cases h
        · cases h
      · cases h
    · cases h
  · cases h

theorem axPure_sound {P : Program} {O : Orc} (hO : OrcOk P O) {ih : Code → ASt → Option (Exit × ASt)} (hi : Good P ih) : CallP P (axPure P O ih) := by
  intro g bs v h
  unfold axPure at h
  split at h
  · rename_i f hf
    exact hO.p g f hf bs v h
  split at h
  · rename_i fn hf
    split at h
    · rename_i c hb
      split at h
      · rename_i hok
        simp only [Bool.and_eq_true, decide_eq_true_eq] at hok
        obtain ⟨h1, h2⟩ := hok
        have key : ∀ e s1 fs, ih c (entry fn.ntmps bs) = some (e, s1) → (e = .normal ∨ e = .ret) → aret P fn.results.toList fs s1 = some v → ACall P g bs (fun x => x = v) := by
          intro e s1 fs he1 he hx
          refine acall_of_AWp hf (fun cargs w => callOk h1 cargs w) hb h2 ((hi c _ e s1 he1).post fun e' s2 h => ⟨s2, Le.refl _, ?_⟩)
          obtain ⟨rfl, rfl⟩ := h
          rcases he with rfl | rfl
          · exact ⟨fs, v, hx, rfl⟩
          · exact ⟨fs, v, hx, rfl⟩
        split at h
        · rename_i s1 h4; exact key _ s1 _ h4 (.inl rfl) h
        · rename_i s1 h4; exact key _ s1 _ h4 (.inr rfl) h
        · cases h
      · cases h
    · cases h
  · cases h

theorem axCall_sound {P : Program} {O : Orc} (hO : OrcOk P O) {ih : Code → ASt → Option (Exit × ASt)} (hi : Good P ih) : CallM P (axCall P O ih) := by
  intro g as d s s' h hd k hk
  unfold axCall at h
  split at h
  · rename_i f hf
    split at h
    · rename_i bs hb
      split at h
      · rename_i v hv
        obtain rfl := Option.some.inj h
        exact ⟨hd, .inl ⟨[], s, bs, _, rfl, hb, hO.p g f hf bs v hv, fun r hr => by rw [hr]; exact hk⟩⟩
      · cases h
    · cases h
  split at h
  · split at h
    · rename_i bs hb
      split at h
      · rename_i v hv
        obtain rfl := Option.some.inj h
        exact ⟨hd, .inl ⟨[], s, bs, _, rfl, hb, axPure_sound hO hi g bs v hv, fun r hr => by rw [hr]; exact hk⟩⟩
      · cases h
    · cases h
  · split at h
    · rename_i f hf
      split at h
      · rename_i hB
        split at h
        · rename_i r o' hr
          obtain rfl := Option.some.inj h
          exact ⟨hd, .inr (.inl ⟨64, _, _, hB, hO.m g f hf _ _ r o' hr, fun r' o2 hr' => by rw [hr'.1, hr'.2]; exact hk⟩)⟩
        · cases h
      · cases h
    · split at h
      · rename_i he
        split at h
        · rename_i a
          obtain rfl := Option.some.inj h
          exact ⟨hd, .inr (.inr ⟨a, rfl, hO.e g he, hk⟩)⟩
        · cases h
      · exact axBody_sound hi g as d s s' h hd k hk

theorem axStep_sound {P : Program} {O : Orc} (hO : OrcOk P O) {ih : Code → ASt → Option (Exit × ASt)} (hi : Good P ih) {c : Code} (hl : ∀ b, c ≠ .loop b) {s : ASt} {e : Exit} {s' : ASt} (h : axStep P O ih c s = some (e, s')) : AWp P c (isQ e s') s := by
  unfold axStep at h
  split at h
  · obtain ⟨rfl, rfl⟩ := Prod.mk.inj (Option.some.inj h)
    exact awp_sound .skip _ _ ⟨rfl, rfl⟩
  · rename_i id ops draw
    split at h
    · split at h
      · rename_i s1 h1
        obtain ⟨rfl, rfl⟩ := Prod.mk.inj (Option.some.inj h)
        refine (awp_sound (.region id ops false) (isQ .normal s1) s ?_).post fun e' s2 hq => ?_
        · exact axOps_sound (axCall_sound hO hi) ops.toList s s1 h1 _ ⟨rfl, rfl⟩
        · obtain ⟨rfl, rfl⟩ := hq
          exact ⟨_, norm_le s2, rfl, rfl⟩
      · cases h
    · split at h
      · rename_i hm
        split at h
        · rename_i hok
          split at h
          · rename_i s1 h1
            obtain ⟨rfl, rfl⟩ := Prod.mk.inj (Option.some.inj h)
            refine (awp_sound (.region id ops true) (isQ .normal s1) s ?_).post fun e' s2 hq => ?_
            · exact ⟨hm, _, hok, dxOps_sound (axCall_sound hO hi) (axPure_sound hO hi) _ ops.toList s s1 h1 _ ⟨rfl, rfl⟩⟩
            · obtain ⟨rfl, rfl⟩ := hq
              exact ⟨_, norm_le s2, rfl, rfl⟩
          · cases h
        · cases h
      · cases h
  · rename_i x y
    refine AWp.seq ?_
    split at h
    · rename_i s1 h1
      refine (hi x s _ s1 h1).post fun e' s2 hq => ⟨s2, Le.refl _, ?_⟩
      obtain ⟨rfl, rfl⟩ := hq
      exact hi y _ e s' h
    · rename_i hne
      refine (hi x s e s' h).post fun e' s2 hq => ⟨s2, Le.refl _, ?_⟩
      obtain ⟨rfl, rfl⟩ := hq
      cases e' with
      | normal => exact (hne _ h).elim
      | _ => exact ⟨rfl, rfl⟩
  · rename_i b x y
    split at h
    · rename_i v hv
      exact AWp.cond hv (hi _ s e s' h)
    · cases h
  · rename_i id b
    refine AWp.block ?_
    split at h
    · rename_i id' s1 h1
      refine (hi b s _ s1 h1).post fun e' s2 hq => ⟨s2, Le.refl _, ?_⟩
      obtain ⟨rfl, rfl⟩ := hq
      simp only [blockQ]
      split at h
      · rename_i hid
        obtain ⟨rfl, rfl⟩ := Prod.mk.inj (Option.some.inj h)
        rw [if_pos hid]; exact ⟨rfl, rfl⟩
      · rename_i hid
        obtain ⟨rfl, rfl⟩ := Prod.mk.inj (Option.some.inj h)
        rw [if_neg hid]; exact ⟨rfl, rfl⟩
    · rename_i hne
      refine (hi b s e s' h).post fun e' s2 hq => ⟨s2, Le.refl _, ?_⟩
      obtain ⟨rfl, rfl⟩ := hq
      cases e' with
      | exit id' => exact (hne _ _ h).elim
      | _ => exact ⟨rfl, rfl⟩
  · exact (hl _ rfl).elim
  · obtain ⟨rfl, rfl⟩ := Prod.mk.inj (Option.some.inj h)
    exact awp_sound (.exit _) _ _ ⟨rfl, rfl⟩
  · obtain ⟨rfl, rfl⟩ := Prod.mk.inj (Option.some.inj h)
    exact awp_sound .ret _ _ ⟨rfl, rfl⟩
  · cases h

theorem ax_sound {P : Program} {O : Orc} (hO : OrcOk P O) (k : Nat) : Good P (ax P O k) := by
  induction k using Nat.strongRecOn with
  | _ k ih =>
    cases k with
    | zero => intro c s e s' h; cases h
    | succ k =>
      intro c s e s' h
      by_cases hl : ∃ b, c = .loop b
      · obtain ⟨b, rfl⟩ := hl
        refine AWp.loop (fun n s => n ≤ k + 1 ∧ ax P O n (.loop b) s = some (e, s')) (n := k + 1) ⟨Nat.le_refl _, h⟩ ?_
        rintro n s ⟨hn, hs⟩
        cases n with
        | zero => cases hs
        | succ m =>
          have hs' : (match ax P O m b s with | some (.normal, s1) => ax P O m (.loop b) s1 | r => r) = some (e, s') := hs
          split at hs'
          · rename_i s1 h1
            refine (ih m (by omega) b s _ s1 h1).post fun e' s2 hq => ⟨s2, Le.refl _, ?_⟩
            obtain ⟨rfl, rfl⟩ := hq
            exact ⟨m, by omega, by omega, hs'⟩
          · rename_i hne
            refine (ih m (by omega) b s e s' hs').post fun e' s2 hq => ⟨s2, Le.refl _, ?_⟩
            obtain ⟨rfl, rfl⟩ := hq
            cases e' with
            | normal => exact (hne _ hs').elim
            | _ => exact ⟨rfl, rfl⟩
      · exact axStep_sound hO (ih k (by omega)) (fun b hb => hl ⟨b, hb⟩) h

/-- A contract by a run that is reckoned: the call's result is r. -/
def axIs (P : Program) (O : Orc) (k : Nat) (g : FuncId) (bs : List AV) (t : AV → Bool) : Bool := match axPure P O (ax P O k) g bs with
  | some v => t v
  | none => false
theorem axIs_sound {P : Program} {O : Orc} (hO : OrcOk P O) {k : Nat} {g : FuncId} {bs : List AV} {t : AV → Bool} (h : axIs P O k g bs t = true) : ACall P g bs (fun r => t r = true) := by
  unfold axIs at h
  split at h
  · rename_i v hv
    exact (axPure_sound hO (ax_sound hO k) g bs v hv).mono fun r hr => hr ▸ h
  · cases h
def isTrueA : AV → Bool
  | .sc (.bool true) => true
  | _ => false
theorem isTrueA_eq : ∀ {r : AV}, isTrueA r = true → r = .sc (.bool true)
  | .sc (.bool true), _ => rfl
end Go.Ab
