/-
  Ab18a: the steps of a region.
-/
import Derived.Test.YtldecgghhaoliaaAb17d
import Derived.Orders
import Derived.Deep.LoopGhost
namespace Go.Ab
open Go.RowKit
set_option linter.unusedVariables false
set_option linter.unusedSimpArgs false

/-- What one operation is. -/
inductive Res where
  | v (r : Sv)
  | h (r : St)
  | c (f : FuncId) (args : List AV)
  | no

def ofSv : Option Sv → Res
  | some r => .v r
  | none => .no
def ofSt : Option St → Res
  | some r => .h r
  | none => .no

def aop (P : Program) (o : Oper) (s : ASt) : Res :=
  match o.op, o.dst with
  | .alloc t, some d => ofSt (allocA P t d s)
  | .box t x, some d => match ev s.t x with
    | some a => ofSt (boxA a d s)
    | none => .no
  | .store t p x, none => match ev s.t p, ev s.t x with
    | some a, some b => ofSt (storeA P t a b s)
    | _, _ => .no
  | .buildSlice t len parts, some d => ofSt (buildSliceA P t len (partsA (ev s.t) parts.toList) d s)
  | .call { callee := .builtin .append, args := xs, argTypes := ts }, some d => match xs.toList, ts.toList with
    | [x, y], [st, xt] => match ev s.t x, ev s.t y with
      | some a, some b => ofSt (appendN P st xt a b d s)
      | _, _ => .no
    | _, _ => .no
  | .call { callee := .value f, args := xs, .. }, some _ => match ev s.t f, capsA (ev s.t) xs.toList with
    | some (.clo g caps), some as => .c g (as ++ caps)
    | _, _ => .no
  | _, some _ => ofSv (aval P o (ev s.t) s.o)
  | _, none => .no

def freezeL : List Nat → ASt → Option ASt
  | [], s => some s
  | L :: r, s => match lk s.o L with
    | some x => if x.arr = true then freezeL r (s.frz L x) else none
    | none => none

/-- What is owed where an operation comes to r. -/
def stepK (P : Program) (r : Res) (d : Option Nat) (k : ASt → Prop) (s : ASt) : Prop :=
  match r, d with
  | .v r, some d => r.need ∧ d < s.n ∧ k (s.put d r.val)
  | .h r, _ => r.need ∧ k r.st
  | .c g as, some d => d < s.n ∧ ((∃ (fs : List Nat) (s1 : ASt) (bs : List AV) (R : AV → Prop), freezeL fs s = some s1 ∧ lendAll s1.o as = some bs ∧ ACall P g bs R ∧ ∀ r, R r → k (retS s1 d r)) ∨
      (∃ (K B : Nat) (R : AV → Objs → Prop), keysLt B s.o = true ∧ MCall P g (as.map (AV.ren (· + K))) (inO K s.o) R ∧ ∀ r o', R r o' → k (backS K B s d r o')) ∨
      ∃ a, as = [a] ∧ (∀ x w, (callFunc g #[x]).run P w = .ok (.value x) w) ∧ k (s.put d a))
  | _, _ => False
/- What strings.Builder does with addresses. -/
def unsT (P : Program) (src dst e : TypeId) (es : Nat) : Bool := match P.underlying src, P.underlying dst with
  | some (.pointer t), some .unsafePointer => match P.info? t with
    | some j => decide (j.size ≠ 0)
    | none => false
  | some .unsafePointer, some (.pointer u) => (P.info? u).isSome && liesAt P P.depth e (es / P.cellsOf e) 0 u 1
  | _, _ => false
def unsX (P : Program) (src dst : TypeId) (L : Nat) : Option AObj → Option AV
  | some x => if x.arr = false ∧ 2 ≤ x.kd ∧ x.es ≠ 0 ∧ unsT P src dst (x.kd - 2) x.es = true then some (.ptr L 0 0) else none
  | none => none
def unsA (P : Program) (src dst : TypeId) (o : Objs) : Option AV → Option AV
  | some (.ptr L 0 0) => unsX P src dst L (lk o L)
  | _ => none
def ptT (P : Program) (t : TypeId) : Bool := (match P.underlying t with
  | some (.pointer te) => (P.info? te).isSome
  | _ => false) && !P.eqGuardType P.depth t
def neqA (P : Program) (t : TypeId) : Option AV → Option AV → Bool
  | some (.ptr L i k), some (.ptr L' i' k') => decide (L = L' ∧ i = i' ∧ k = k') && ptT P t
  | _, _ => false
def bytesOf : List AV → Option (List UInt8)
  | [] => some []
  | .sc (.int .u8 n) :: r => if 0 ≤ n ∧ n < 256 then (bytesOf r).map (UInt8.ofNat n.toNat :: ·) else none
  | _ :: _ => none
def strT (P : Program) (pt kd : Nat) : Bool := match P.underlying pt with
  | some (.pointer e) => decide (kd = e + 2 ∧ P.cellsOf e = 1)
  | _ => false
def unsStrX (P : Program) (pt : TypeId) (L d : Nat) (m : Int) (s : ASt) : Option AObj → Option St
  | some x => match bytesOf x.xs with
    | some l => if x.arr = true ∧ x.fz = false ∧ x.es = 1 ∧ m = l.length ∧ strT P pt x.kd = true then some ⟨decide (d < s.n ∧ l ≠ []), (s.renew0 L L (arrO 1 [])).put d (.sc (.string ⟨l.toArray⟩))⟩ else none
    | none => none
  | none => none
def unsStr (P : Program) (pt : TypeId) (d : Nat) (s : ASt) : Option AV → Option AV → Option St
  | some (.ptr L 0 0), some (.sc (.int .i64 m)) => unsStrX P pt L d m s (lk s.o L)
  | _, _ => none
/- Maps. -/
def lookX (P : Program) (t : TypeId) (ok : Bool) (d : Nat) (k : Value) (s : ASt) : Option AObj → Option St
  | some x => if tyMk P t k = true then (lookA P t k ok x.xs).map fun r => ⟨decide (d < s.n), s.put d r⟩ else none
  | none => none
def lookS (P : Program) (t : TypeId) (ok : Bool) (d : Nat) (s : ASt) : Option AV → Option AV → Option St
  | some (.mp L), some (.sc k) => lookX P t ok d k s (lk s.o L)
  | _, _ => none
def updS (P : Program) (t : TypeId) (s : ASt) : Option AV → Option AV → Option AV → Option St
  | some (.mp L), some (.sc k), some v => (mupdA P t L k v s).map fun r => ⟨true, r⟩
  | _, _, _ => none
def copyS (P : Program) (t : TypeId) (d : Nat) (s : ASt) : Option AV → Option AV → Option St
  | some a, some b => copyA P t a b d s
  | _, _ => none
def special (P : Program) (o : Oper) (s : ASt) : Option St := match o.op, o.dst with
  | .convert a b x, some d => (unsA P a b s.o (ev s.t x)).map fun v => ⟨decide (d < s.n), s.put d v⟩
  | .binOp .neq t x y _, some d => if neqA P t (ev s.t x) (ev s.t y) = true then some ⟨decide (d < s.n), s.put d (bl false)⟩ else none
  | .call { callee := .builtin .unsafeString, args := xs, argTypes := ts }, some d => match xs.toList, ts.toList with
    | [x, y], [pt, _] => unsStr P pt d s (ev s.t x) (ev s.t y)
    | _, _ => none
  | .makeMap _ none, some d => some ⟨decide (d < s.n), s.renew d d d mapO (.mp d)⟩
  | .lookup t m k ok, some d => lookS P t ok d s (ev s.t m) (ev s.t k)
  | .mapUpdate t m k x, none => updS P t s (ev s.t m) (ev s.t k) (ev s.t x)
  | .makeSlice t x y, some d => makeSliceA P t d s (ev s.t x) (ev s.t y)
  | .call { callee := .builtin .copy, args := xs, argTypes := ts }, some d => match xs.toList, ts.toList with
    | [x, y], [t, _] => copyS P t d s (ev s.t x) (ev s.t y)
    | _, _ => none
  | _, _ => none
def astep (P : Program) (o : Oper) (k : ASt → Prop) (s : ASt) : Prop := match special P o s with
  | some r => r.need ∧ k r.st
  | none => stepK P (aop P o s) o.dst k s

/-- The slot that guards an operation. -/
def gslot (ops : Array Oper) (j : Nat) : Option Nat := (ops[j]?).bind (·.dst)

/-- What a guard says. -/
inductive GV where
  | run
  | test (b want : Bool)
  | skip
  | bad
def gval (ops : Array Oper) (g : Option (Nat × Bool)) (s : ASt) : GV :=
  match g with
  | none => .run
  | some (j, want) => match (gslot ops j).bind (lk s.t) with
    | some (.sc (.bool b)) => .test b want
    | some (.tup []) => .skip
    | _ => .bad
def skipK (d : Option Nat) (k : ASt → Prop) (s : ASt) : Prop :=
  match d with
  | some d => d < s.n ∧ k (s.put d (.tup []))
  | none => k s
theorem RV.und {F loc} : RV F loc (.tup []) undef := .tup rfl (by intro i a v h; simp at h)
def gK (P : Program) (g : GV) (o : Oper) (k : ASt → Prop) (s : ASt) : Prop :=
  match g with
  | .run => astep P o k s
  | .test b want => (b = want → astep P o k s) ∧ (b ≠ want → skipK o.dst k s)
  | .skip => skipK o.dst k s
  | .bad => False

/-- A slot that was passed over yields nothing. -/
theorem und_yields {F loc} {a : Act} {ops : Array Oper} {j d : Nat} (hj : (ops[j]?).bind (·.dst) = some d) (hrv : RV F loc (.tup []) (a.tmps.getD d undef)) : yielded ops a.tmps j = none := by
  unfold yielded
  generalize hv : a.tmps.getD d undef = v at hrv
  cases hrv with
  | tup hl hr =>
    simp only [hj, Option.bind_some]
    rw [Array.getD_eq_getD_getElem?] at hv
    cases ht : a.tmps[d]? with
    | none => rfl
    | some u => simp [ht] at hv; subst hv; rfl

def arun (P : Program) (ops : Array Oper) : List Oper → (ASt → Prop) → ASt → Prop
  | [], k, s => k s
  | o :: r, k, s => gK P (gval ops o.guard s) o (arun P ops r k) s

/-- Semantic weakening. -/
def Le (s0 s : ASt) : Prop := ∀ C F μ a w, SR C F μ s a w → ∃ F' μ', SR C F' μ' s0 a w
theorem Le.refl (s : ASt) : Le s s := fun _ F μ _ _ h => ⟨F, μ, h⟩
theorem Le.trans {a b c : ASt} (h : Le a b) (k : Le b c) : Le a c := fun C F μ x w hs => by
  obtain ⟨F1, μ1, h1⟩ := k C F μ x w hs
  exact h C F1 μ1 x w h1

/-- What a piece of code owes: the meaning. -/
def AWp (P : Program) (c : Code) (Q : Exit → ASt → Prop) (s : ASt) : Prop :=
  ∀ C F μ a w, SR C F μ s a w → c.wp P (fun e a' w' => ∃ F' μ' s', Q e s' ∧ SR C F' μ' s' a' w') a w

theorem AWp.le {P c Q} {s0 s : ASt} (h : AWp P c Q s0) (hl : Le s0 s) : AWp P c Q s := fun C F μ a w hs => by
  obtain ⟨F', μ', h'⟩ := hl C F μ a w hs
  exact h C F' μ' a w h'

theorem freezeL_sound {C μ} {a : Act} {w : World} : ∀ {fs : List Nat} {F} {s s1 : ASt}, SR C F μ s a w → freezeL fs s = some s1 → ∃ F', FLe F F' ∧ SR C F' μ s1 a w ∧ s1.n = s.n ∧ locOf s1.o μ = locOf s.o μ
  | [], F, s, s1, h, he => by simp [freezeL] at he; subst he; exact ⟨F, FLe.refl _, h, rfl, rfl⟩
  | L :: fs, F, s, s1, h, he => by
    simp only [freezeL] at he
    split at he
    · rename_i x hg
      split at he
      · rename_i ha
        obtain ⟨F', h1, h2⟩ := h.freeze hg ha
        obtain ⟨F2, k1, k2, k3, k4⟩ := freezeL_sound h2 he
        exact ⟨F2, h1.trans k1, k2, k3, k4.trans (locOf_setO (x' := x.frz) hg (fun _ => rfl))⟩
      · cases he
    · cases he

/-- The meaning of a step. -/
def SStep (P : Program) (o : Oper) (k : ASt → Prop) (s : ASt) : Prop :=
  ∀ C F μ a w (next : Act → World → Prop) (Q : Exit → Act → World → Prop), SR C F μ s a w → (∀ a' w' s' F' μ', k s' → SR C F' μ' s' a' w' → next a' w') → o.wp P a w next Q

theorem evs {C F μ} {s : ASt} {a : Act} {w : World} (h : SR C F μ s a w) : ∀ x b, ev s.t x = some b → RV F (locOf s.o μ) b (a.eval x) := fun x b hb => ev_sound h hb

theorem put_none (a : Act) (v : Value) : a.put none v = a := rfl

theorem ofSv_v {x : Option Sv} {r : Sv} (h : ofSv x = .v r) : x = some r := by cases x <;> simp_all [ofSv]
theorem ofSv_h {x : Option Sv} {r : St} (h : ofSv x = .h r) : False := by cases x <;> simp_all [ofSv]
theorem ofSv_c {x : Option Sv} {g as} (h : ofSv x = .c g as) : False := by cases x <;> simp_all [ofSv]
theorem ofSt_h {x : Option St} {r : St} (h : ofSt x = .h r) : x = some r := by cases x <;> simp_all [ofSt]
theorem ofSt_v {x : Option St} {r : Sv} (h : ofSt x = .v r) : False := by cases x <;> simp_all [ofSt]
theorem ofSt_c {x : Option St} {g as} (h : ofSt x = .c g as) : False := by cases x <;> simp_all [ofSt]

theorem aop_v {P : Program} {o : Oper} {s : ASt} {r : Sv} (h : aop P o s = .v r) : aval P o (ev s.t) s.o = some r := by
  unfold aop at h
  split at h
  · exact (ofSt_v h).elim
  · split at h
    · exact (ofSt_v h).elim
    · cases h
  · split at h
    · exact (ofSt_v h).elim
    · cases h
  · exact (ofSt_v h).elim
  · split at h
    · split at h
      · exact (ofSt_v h).elim
      · cases h
    · cases h
  · split at h
    · cases h
    · cases h
  · exact ofSv_v h
  · cases h

theorem aop_h {P : Program} {o : Oper} {s : ASt} {r : St} (h : aop P o s = .h r) (hn : r.need) {C F μ} {a : Act} {w : World} (hs : SR C F μ s a w) :
    (∃ d v w' F' μ', o.dst = some d ∧ (execOp a.eval o).run P w = .ok (.value v) w' ∧ SR C F' μ' r.st (a.put (some d) v) w') ∨
    (∃ w' F' μ', o.dst = none ∧ (execOp a.eval o).run P w = .ok .skip w' ∧ SR C F' μ' r.st a w') := by
  unfold aop at h
  split at h
  · rename_i t d ho hd
    obtain ⟨v, w', μ', h1, h2⟩ := allocA_sound hs (ofSt_h h) hn
    exact .inl ⟨d, v, w', F, μ', hd, by simp [execOp, ho, h1], h2⟩
  · rename_i t x d ho hd
    split at h
    · rename_i b hb
      obtain ⟨v, w', μ', h1, h2⟩ := boxA_sound (P := P) (t := t) hs (evs hs x b hb) (ofSt_h h) hn
      exact .inl ⟨d, v, w', F, μ', hd, by simp [execOp, ho, h1], h2⟩
    · cases h
  · rename_i t p x ho hd
    split at h
    · rename_i b c hb hc
      obtain ⟨w', F', μ', h1, h2⟩ := storeA_sound (P := P) hs (evs hs p b hb) (evs hs x c hc) (ofSt_h h)
      exact .inr ⟨w', F', μ', hd, by simp [execOp, ho, h1], h2⟩
    · cases h
  · rename_i t len parts d ho hd
    obtain ⟨v, w', F', μ', h1, h2⟩ := buildSliceA_sound (P := P) hs (evs hs) (ofSt_h h) hn
    exact .inl ⟨d, v, w', F', μ', hd, by simp [execOp, ho, h1], h2⟩
  · rename_i xs ts d ho hd
    split at h
    · rename_i x y st xt hxs hts
      split at h
      · rename_i b c hb hc
        obtain ⟨v, w', μ', h1, h2⟩ := appendN_sound (P := P) (ty := o.type) hs (evs hs x b hb) (evs hs y c hc) (ofSt_h h) hn
        have hx : xs = #[x, y] := by cases xs; simp_all
        have ht : ts = #[st, xt] := by cases ts; simp_all
        subst hx; subst ht
        exact .inl ⟨d, v, w', F, μ', hd, by simp [execOp, ho, resolve, invoke, builtin, h1], h2⟩
      · cases h
    · cases h
  · split at h
    · cases h
    · cases h
  · exact (ofSv_h h).elim
  · cases h

theorem aop_c0 {P : Program} {o : Oper} {s : ASt} {g : FuncId} {as : List AV} (h : aop P o s = .c g as) {C F μ} {a : Act} {w : World} (hs : SR C F μ s a w) :
    ∃ cargs : Array Value, (execOp a.eval o).run P w = (callFunc g cargs).run P w ∧ as.length = cargs.size ∧ ∀ (i : Nat) (x : AV) (v : Value), as[i]? = some x → cargs[i]? = some v → RV F (locOf s.o μ) x v := by
  unfold aop at h
  split at h
  · exact (ofSt_c h).elim
  · split at h
    · exact (ofSt_c h).elim
    · cases h
  · split at h
    · exact (ofSt_c h).elim
    · cases h
  · exact (ofSt_c h).elim
  · split at h
    · split at h
      · exact (ofSt_c h).elim
      · cases h
    · cases h
  · rename_i f xs ts d ho hd
    split at h
    · rename_i g' caps as' hf hcs
      obtain ⟨rfl, rfl⟩ : g' = g ∧ as' ++ caps = as := by simpa using h
      have hfv := evs hs f _ hf
      generalize hfe : a.eval f = fv at hfv
      cases hfv with
      | @clo _ _ _ _ vs h1 h2 =>
        obtain ⟨m1, m2⟩ := mapM_some hcs
        refine ⟨xs.map a.eval ++ vs, ?_, by simp [m1, h1], fun i x v hx hv => ?_⟩
        · simp [execOp, ho, resolve, Deferred.ofValue, hfe, invoke]
        · by_cases hi : i < as'.length
          · rw [List.getElem?_append_left hi] at hx
            rw [Array.getElem?_append_left (by simp; rw [m1] at hi; simpa using hi)] at hv
            simp only [Array.getElem?_map] at hv
            cases hxi : xs[i]? with
            | none => simp [hxi] at hv
            | some y =>
              simp [hxi] at hv
              subst hv
              exact evs hs y x (m2 i y x (by simpa using hxi) hx)
          · rw [List.getElem?_append_right (by omega)] at hx
            have hxl : xs.size = as'.length := by rw [m1]; simp
            rw [Array.getElem?_append_right (by simp; omega)] at hv
            simp only [Array.size_map, hxl] at hv
            exact h2 _ x v hx hv
    · cases h
  · exact (ofSv_c h).elim
  · cases h

theorem aop_c {P : Program} {o : Oper} {s : ASt} {g : FuncId} {as : List AV} (h : aop P o s = .c g as) {C F μ} {a : Act} {w : World} (hs : SR C F μ s a w) (hcall : ∀ cargs w, (callFunc g cargs).run P w = .ok (.enter g cargs) w) :
    ∃ cargs : Array Value, (execOp a.eval o).run P w = .ok (.enter g cargs) w ∧ as.length = cargs.size ∧ ∀ (i : Nat) (x : AV) (v : Value), as[i]? = some x → cargs[i]? = some v → RV F (locOf s.o μ) x v := by
  obtain ⟨cargs, h1, h2, h3⟩ := aop_c0 h hs
  exact ⟨cargs, by rw [h1, hcall], h2, h3⟩

theorem bytesOf_get : ∀ {xs : List AV} {l : List UInt8}, bytesOf xs = some l → xs = l.map bAV
  | [], l, h => by simp [bytesOf] at h; subst h; rfl
  | a :: r, l, h => by
    unfold bytesOf at h
    split at h
    · rename_i he; cases he
    · rename_i n r' he
      obtain ⟨rfl, rfl⟩ := List.cons.inj he
      split at h
      · rename_i hc
        simp only [Option.map_eq_some_iff] at h
        obtain ⟨l', hl', rfl⟩ := h
        rw [bytesOf_get hl']
        simp only [List.map_cons, bAV]
        congr 3
        simp only [UInt8.toNat_ofNat']
        omega
      · cases h
    · cases h

theorem ptr_at {P : Program} {C F μ} {s : ASt} {a : Act} {w : World} (hs : SR C F μ s a w) {x : Operand} {L : Nat} {y : AObj} (hx : ev s.t x = some (.ptr L 0 0)) (hg : lk s.o L = some y) :
    ∃ b cap, a.eval x = .pointer (some ⟨b, 0, none⟩) ∧ μ L = some (b, cap) ∧ StdAt F (locOf s.o μ) w y b cap := by
  have hv := evs hs x _ hx
  have ho := hs.sw.obj L y hg
  generalize a.eval x = v at hv
  cases hv with
  | @ptr _ _ _ _ _ b cap es len g1 g2 =>
    simp only [locOf, hg, Option.map_some] at g1
    obtain ⟨hm, rfl, rfl, hk1⟩ := locO_std (Option.some.inj g1)
    rw [hm] at ho
    exact ⟨b, cap, by simp, hm, ho.std hk1⟩

theorem special_sound {P : Program} {o : Oper} {s : ASt} {r : St} (h : special P o s = some r) (hn : r.need) {C F μ} {a : Act} {w : World} (hs : SR C F μ s a w) :
    (∃ d v w' F' μ', o.dst = some d ∧ (execOp a.eval o).run P w = .ok (.value v) w' ∧ SR C F' μ' r.st (a.put (some d) v) w') ∨
    (∃ w' F' μ', o.dst = none ∧ (execOp a.eval o).run P w = .ok .skip w' ∧ SR C F' μ' r.st a w') := by
  unfold special at h
  split at h
  · rename_i src dst x d ho hd
    simp only [Option.map_eq_some_iff] at h
    obtain ⟨v, hv, rfl⟩ := h
    unfold unsA at hv
    split at hv
    · rename_i L hx
      unfold unsX at hv
      split at hv
      · rename_i y hg
        split at hv
        · rename_i hc
          obtain ⟨c1, c2, c3, c4⟩ := hc
          obtain rfl := Option.some.inj hv
          obtain ⟨b, cap, e1, e2, c, e, q1, q2, q3, q4, q5, q6, q7⟩ := ptr_at (P := P) hs hx hg
          have hrv := evs hs x _ hx
          obtain ⟨hk, hcap⟩ : y.kd = e + 2 ∧ cap = 1 := by
            rcases q7 with q7 | ⟨q7, q8⟩
            · omega
            · exact ⟨q7, q8 c1⟩
          subst hcap
          have hsh : w.shape? b = some (e, y.es) := by
            have : c.size = y.es := by omega
            rw [← this]
            simp [World.shape?, q1]
          rw [show y.kd - 2 = e by omega] at c4
          refine .inl ⟨d, a.eval x, w, F, μ, hd, ?_, hs.put (of_decide_eq_true hn) hrv⟩
          rw [e1]
          have hrun : (convert src dst (.pointer (some ⟨b, 0, none⟩))).run P w = .ok (.pointer (some ⟨b, 0, none⟩)) w := by
            unfold unsT at c4
            split at c4
            · rename_i t h1 h2
              split at c4
              · rename_i j hj
                exact Lib.run_to_unsafe w ⟨b, 0, none⟩ h1 h2 hj (of_decide_eq_true c4) hsh (Nat.pos_of_ne_zero c3)
              · cases c4
            · rename_i u h1 h2
              simp only [Bool.and_eq_true] at c4
              obtain ⟨j, hj⟩ := Option.isSome_iff_exists.1 c4.1
              exact Lib.run_from_unsafe w ⟨b, 0, none⟩ h1 h2 hj hsh c4.2
            · cases c4
          simp [execOp, ho, e1, hrun]
        · cases hv
      · cases hv
    · cases hv
  · rename_i t x y yt d ho hd
    split at h
    · rename_i hc
      obtain rfl := Option.some.inj h
      unfold neqA at hc
      split at hc
      · rename_i L i k L' i' k' hx hy
        simp only [Bool.and_eq_true, decide_eq_true_eq] at hc
        obtain ⟨⟨rfl, rfl, rfl⟩, hpt⟩ := hc
        have hvx := evs hs x _ hx
        have hvy := evs hs y _ hy
        refine .inl ⟨d, .bool false, w, F, μ, hd, ?_, hs.put (of_decide_eq_true hn) (.sc rfl)⟩
        generalize hex : a.eval x = vx at hvx
        generalize hey : a.eval y = vy at hvy
        cases hvx with
        | @ptr _ _ _ _ _ b cap es len g1 g2 =>
          cases hvy with
          | @ptr _ _ _ _ _ b' cap' es' len' g1' g2' =>
            rw [g1] at g1'
            simp at g1'
            obtain ⟨⟨rfl, _⟩, rfl, _⟩ := g1'
            unfold ptT at hpt
            simp only [Bool.and_eq_true, Bool.not_eq_true'] at hpt
            obtain ⟨hp1, hp2⟩ := hpt
            split at hp1
            · rename_i te hte
              obtain ⟨j, hj⟩ := Option.isSome_iff_exists.1 hp1
              have h1 := Lib.run_neq_ptr_same (P := P) w ⟨b, i * es + k, none⟩ hte hj
              have hg : (eqGuard .neq t x y (.pointer (some ⟨b, i * es + k, none⟩)) (.pointer (some ⟨b, i * es + k, none⟩))).run P w = .ok () w := by
                unfold eqGuard
                simp [hp2]
              simp [execOp, ho, hex, hey, hg, h1]
            · cases hp1
      · cases hc
    · cases h
  · rename_i xs ts d ho hd
    split at h
    · rename_i x y pt it hxs hts
      have hx1 : xs = #[x, y] := by cases xs; simp_all
      have ht1 : ts = #[pt, it] := by cases ts; simp_all
      subst hx1; subst ht1
      unfold unsStr at h
      split at h
      · rename_i L m hx hy
        unfold unsStrX at h
        split at h
        · rename_i z hg
          split at h
          · rename_i l hl
            split at h
            · rename_i hc
              obtain ⟨c1, c2, c3, rfl, c5⟩ := hc
              obtain rfl := Option.some.inj h
              obtain ⟨hdn, hl0⟩ := of_decide_eq_true hn
              obtain ⟨b, cap, e1, e2, c, e, q1, q2, q3, q4, q5, q6, q7⟩ := ptr_at (P := P) hs hx hg
              have hxs := bytesOf_get hl
              have hvy := evs hs y _ hy
              have hey : a.eval y = .int .i64 l.length := by
                generalize a.eval y = vy at hvy
                cases hvy
                rfl
              unfold strT at c5
              split at c5
              · rename_i e' hpt
                obtain ⟨c6, c7⟩ := of_decide_eq_true c5
                have hee : e = e' := by
                  rcases q7 with q7 | ⟨q7, _⟩
                  · rw [q7] at c6; exact absurd c6.symm (Nat.succ_ne_zero _)
                  · exact Nat.add_right_cancel (q7.symm.trans c6)
                subst hee
                have hlen : z.xs.length = l.length := by rw [hxs]; simp
                have hsh : w.shape? b = some (e, c.size) := by simp [World.shape?, q1]
                have hcs : c.size = cap := by rw [q2, c3, Nat.mul_one]
                have hrun := Lib.run_unsafeString_row (P := P) w pt it o.type e hpt c7 b c.size hsh l hl0 (by omega) (by unfold maxRow at q4; omega) (fun j x hj => by
                  obtain ⟨v, g1, g2, g3, g4⟩ := q6 j (bAV x) 0 (bAV x) (by rw [hxs]; simp [hj]) rfl
                  have hv : v = .int .u8 x.toNat := by
                    generalize hba : bAV x = q at g3
                    cases g3 <;> simp [bAV] at hba
                    exact hba.symm
                  subst hv
                  rw [c3, Nat.mul_one, Nat.add_zero] at g1
                  rw [add_none, Nat.zero_add]
                  simp [World.cell?, q1, g1])
                refine .inl ⟨d, .string ⟨l.toArray⟩, w.freeze ⟨b, 0, none⟩ l.length, F, upd μ L none, hd, ?_, ?_⟩
                · simp [execOp, ho, resolve, invoke, builtin, e1, hey, hrun]
                · have hfr : Fr (fun k => ∃ y c, lk s.o L = some y ∧ y.fz = false ∧ μ L = some (k, c)) w (w.freeze ⟨b, 0, none⟩ l.length) := by
                    unfold World.freeze
                    split
                    · exact Fr.refl _ w
                    · refine ⟨rfl, rfl, rfl, by simp, fun k hk hm => ?_⟩
                      simp only [Array.getElem?_modify]
                      rw [if_neg (fun hkb => hm ⟨z, cap, hg, c2, by rw [e2, hkb]⟩)]
                  have h1 := hs.renew0 (L := L) (T := L) (x := arrO 1 []) (p := none) rfl rfl rfl hfr (by rfl) (fun b c hbc => by cases hbc)
                  exact h1.put hdn (.sc rfl)
              · cases c5
            · cases h
          · cases h
        · cases h
      · cases h
    · cases h
  · rename_i t d ho hd
    obtain rfl := Option.some.inj h
    obtain ⟨v, w', μ', h1, h2⟩ := makeMap_sound (P := P) hs (t := t) (of_decide_eq_true hn)
    exact .inl ⟨d, v, w', F, μ', hd, by simp [execOp, ho, h1], h2⟩
  · rename_i t m k ok d ho hd
    unfold lookS at h
    split at h
    · rename_i L kv hm hk
      unfold lookX at h
      split at h
      · rename_i x hg
        split at h
        · rename_i hc
          simp only [Option.map_eq_some_iff] at h
          obtain ⟨y, hy, rfl⟩ := h
          obtain ⟨v, h1, h2⟩ := lookA_sound hs hc hg (evs hs m _ hm) hy
          have hkv := evs hs k _ hk
          have hek : a.eval k = kv := by
            generalize a.eval k = z at hkv
            cases hkv
            rfl
          exact .inl ⟨d, v, w, F, μ, hd, by simp [execOp, ho, hek, h1], hs.put (of_decide_eq_true hn) h2⟩
        · cases h
      · cases h
    · cases h
  · rename_i t m k x ho hd
    unfold updS at h
    split at h
    · rename_i L kv v hm hk hx
      simp only [Option.map_eq_some_iff] at h
      obtain ⟨s1, hy, rfl⟩ := h
      obtain ⟨w', F', μ', h1, h2⟩ := mupdA_sound hs (evs hs m _ hm) (evs hs x _ hx) hy
      have hkv := evs hs k _ hk
      have hek : a.eval k = kv := by
        generalize a.eval k = z at hkv
        cases hkv
        rfl
      exact .inr ⟨w', F', μ', hd, by simp [execOp, ho, hek, h1], h2⟩
    · cases h
  · rename_i t x y d ho hd
    cases hx : ev s.t x with
    | none => rw [hx] at h; simp [makeSliceA] at h
    | some xa => cases hy : ev s.t y with
      | none => rw [hx, hy] at h; unfold makeSliceA at h; split at h <;> simp_all
      | some ya =>
        rw [hx, hy] at h
        obtain ⟨v, w', μ', h1, h2⟩ := makeSliceA_sound hs (evs hs x _ hx) (evs hs y _ hy) h hn
        exact .inl ⟨d, v, w', F, μ', hd, by simp [execOp, ho, h1], h2⟩
  · rename_i xs ts d ho hd
    split at h
    · rename_i x y pt it hxs hts
      have hx1 : xs = #[x, y] := by cases xs; simp_all
      have ht1 : ts = #[pt, it] := by cases ts; simp_all
      subst hx1; subst ht1
      unfold copyS at h
      split at h
      · rename_i xa ya hx hy
        obtain ⟨v, w', h1, h2⟩ := copyA_sound (xt := it) (ty := o.type) hs (evs hs x _ hx) (evs hs y _ hy) h hn
        exact .inl ⟨d, v, w', F, μ, hd, by simp [execOp, ho, resolve, invoke, builtin, h1], h2⟩
      · cases h
    · cases h
  · cases h

theorem astep_sound {P : Program} {o : Oper} {k : ASt → Prop} {s : ASt} (h : astep P o k s) : SStep P o k s := by
  intro C F μ a w next Q hs hk
  unfold astep at h
  split at h
  · rename_i r hr
    obtain ⟨hn, h⟩ := h
    rcases special_sound hr hn hs with ⟨d, v, w', F', μ', hd, h1, h2⟩ | ⟨w', F', μ', hd, h1, h2⟩
    · unfold Oper.wp
      rw [h1, Oper.upon_value, hd]
      exact hk _ _ _ _ _ h h2
    · unfold Oper.wp
      rw [h1, Oper.upon_skip, hd]
      exact hk _ _ _ _ _ h h2
  unfold stepK at h
  split at h
  · rename_i r d hr hd
    obtain ⟨hn, hdn, h⟩ := h
    obtain ⟨z, h1, h2⟩ := aval_sound hs.sw (evs hs) (fun _ => rfl) (aop_v hr) hn
    unfold Oper.wp
    rw [h1, Oper.upon_value, hd]
    exact hk _ _ _ _ _ h (hs.put hdn h2)
  · rename_i r hr
    obtain ⟨hn, h⟩ := h
    rcases aop_h hr hn hs with ⟨d, v, w', F', μ', hd, h1, h2⟩ | ⟨w', F', μ', hd, h1, h2⟩
    · unfold Oper.wp
      rw [h1, Oper.upon_value, hd]
      exact hk _ _ _ _ _ h h2
    · unfold Oper.wp
      rw [h1, Oper.upon_skip, hd]
      exact hk _ _ _ _ _ h h2
  · rename_i g as d hr hd
    obtain ⟨hdn, ⟨fs, s1, bs, R, hf, hl, hc, hk'⟩ | ⟨K, B, R, hB, hc, hk'⟩ | ⟨x, rfl, hc, hk'⟩⟩ := h
    · obtain ⟨cargs, h1, h2, h3⟩ := aop_c hr hs hc.1
      obtain ⟨F1, f1, f2, f3, f4⟩ := freezeL_sound hs hf
      obtain ⟨l1, l2⟩ := lendAll_sound f2.sw hl
      have hcalls := hc.2 w (callF F1 w) cargs (callF_ok f2.sw) (by omega) (fun i b v hb hv => by
        have hi : i < as.length := by rw [← l1]; exact (List.getElem?_eq_some_iff.1 hb).1
        exact l2 i as[i] b (by simp [hi]) hb v (by rw [f4]; exact (h3 i as[i] v (by simp [hi]) hv).mono f1))
      unfold Oper.wp
      rw [h1, Oper.upon_enter]
      refine hcalls.mono ?_
      rintro e w' ⟨v, r, F', rfl, hR, hp, hres⟩
      obtain ⟨F2, μ', k1⟩ := retS_sound f2 hp hres (d := d) (by rw [f3]; exact hdn)
      show next (a.put o.dst v) w'
      rw [hd]
      exact hk _ _ _ _ _ (hk' r hR) k1
    · obtain ⟨cargs, h1, h2, h3⟩ := aop_c hr hs hc.1
      unfold Oper.wp
      rw [h1, Oper.upon_enter]
      refine (hc.use hs hB hdn h2 h3).mono ?_
      rintro e w' ⟨v, r, o', F', μ', rfl, hR, k1⟩
      show next (a.put o.dst v) w'
      rw [hd]
      exact hk _ _ _ _ _ (hk' r o' hR) k1
    · obtain ⟨cargs, h1, h2, h3⟩ := aop_c0 hr hs
      simp only [List.length_cons, List.length_nil] at h2
      obtain ⟨v, rfl⟩ : ∃ v, cargs = #[v] := by
        obtain ⟨l⟩ := cargs
        match l, h2 with
        | [v], _ => exact ⟨v, rfl⟩
      unfold Oper.wp
      rw [h1, hc, Oper.upon_value, hd]
      exact hk _ _ _ _ _ hk' (hs.put hdn (h3 0 x v rfl rfl))
  · exact h.elim

/-- One operation of a region. -/
theorem gK_op {P : Program} {ops : Array Oper} {Q : Exit → Act → World → Prop} {o : Oper} {i : Nat} (ho : ops[i]? = some o) {k : ASt → Prop} {s : ASt} (h : gK P (gval ops o.guard s) o k s) {C F μ} {a : Act} {w : World} (hs : SR C F μ s a w)
    {K : Act → World → Prop} (rest : ∀ a' w' s' F' μ', k s' → SR C F' μ' s' a' w' → K a' w') : wpOp P ops Q i K a w := by
  simp only [wpOp, ho]
  unfold gK at h
  split at h
  · rename_i hg
    have hg' : o.guard = none := by
      cases hgo : o.guard with
      | none => rfl
      | some p =>
        obtain ⟨j, want⟩ := p
        simp only [gval, hgo] at hg
        split at hg <;> cases hg
    rw [if_pos (by simp [Region.wanted, hg'])]
    exact .inl (astep_sound h C F μ a w _ Q hs rest)
  · rename_i b want hg
    obtain ⟨j, hgo, hb⟩ : ∃ j, o.guard = some (j, want) ∧ (gslot ops j).bind (lk s.t) = some (.sc (.bool b)) := by
      cases hgo : o.guard with
      | none => simp [gval, hgo] at hg
      | some p =>
        obtain ⟨j, want'⟩ := p
        simp only [gval, hgo] at hg
        split at hg
        · rename_i b' hb
          obtain ⟨rfl, rfl⟩ := GV.test.inj hg
          exact ⟨j, rfl, hb⟩
        · cases hg
        · cases hg
    obtain ⟨h1, h2⟩ := h
    have hy : yielded ops a.tmps j = some b := by
      unfold yielded
      unfold gslot at hb
      cases hj : (ops[j]?).bind (·.dst) with
      | none => simp [hj] at hb
      | some d =>
        simp [hj] at hb
        have hrv := hs.slot d _ hb
        generalize hv : a.tmps.getD d undef = v at hrv
        cases hrv
        simp only [Option.bind_some]
        rw [Array.getD_eq_getD_getElem?] at hv
        cases ht : a.tmps[d]? with
        | none => simp [ht, undef] at hv
        | some u => simp [ht] at hv; subst hv; rfl
    by_cases hbw : b = want
    · rw [if_pos (by simp [Region.wanted, hgo, hy, hbw])]
      exact .inl (astep_sound (h1 hbw) C F μ a w _ Q hs rest)
    · rw [if_neg (by simp [Region.wanted, hgo, hy, hbw])]
      have h2 := h2 hbw
      unfold skipK at h2
      split at h2
      · rename_i d hd
        obtain ⟨hdn, h2⟩ := h2
        rw [hd]
        exact rest _ _ _ _ _ h2 (hs.put hdn .und)
      · rename_i hd
        rw [hd]
        exact rest _ _ _ _ _ h2 hs
  · rename_i hg
    obtain ⟨j, want, hgo, hb⟩ : ∃ j want, o.guard = some (j, want) ∧ (gslot ops j).bind (lk s.t) = some (.tup []) := by
      cases hgo : o.guard with
      | none => simp [gval, hgo] at hg
      | some p =>
        obtain ⟨j, want'⟩ := p
        simp only [gval, hgo] at hg
        split at hg
        · cases hg
        · rename_i hb; exact ⟨j, want', rfl, hb⟩
        · cases hg
    have hy : yielded ops a.tmps j = none := by
      unfold gslot at hb
      cases hj : (ops[j]?).bind (·.dst) with
      | none => simp [hj] at hb
      | some d =>
        simp [hj] at hb
        exact und_yields hj (hs.slot d _ hb)
    rw [if_neg (by simp [Region.wanted, hgo, hy])]
    unfold skipK at h
    split at h
    · rename_i d hd
      obtain ⟨hdn, h2⟩ := h
      rw [hd]
      exact rest _ _ _ _ _ h2 (hs.put hdn .und)
    · rename_i hd
      rw [hd]
      exact rest _ _ _ _ _ h hs
  · exact h.elim

/-- The operations of a region, in the order of the text. -/
theorem arun_sound {P : Program} {ops : Array Oper} {Q : Exit → Act → World → Prop} : ∀ (l : List Oper) (i : Nat) (k : ASt → Prop) (s : ASt), arun P ops l k s → (∀ j, l[j]? = ops[i + j]?) →
    ∀ C F μ a w, SR C F μ s a w → (∀ a' w' s' F' μ', k s' → SR C F' μ' s' a' w' → Q .normal a' w') → wpOps P ops Q (List.range' i l.length) a w
  | [], i, k, s, h, hl, C, F, μ, a, w, hs, hk => hk _ _ _ _ _ h hs
  | o :: r, i, k, s, h, hl, C, F, μ, a, w, hs, hk => by
    have ho : ops[i]? = some o := by have := hl 0; simpa using this.symm
    have hr : ∀ j, r[j]? = ops[i + 1 + j]? := fun j => by
      have := hl (j + 1)
      rw [show i + 1 + j = i + (j + 1) by omega]
      simpa using this
    rw [List.length_cons, List.range'_succ, wpOps_cons]
    exact gK_op ho h hs fun a' w' s' F' μ' h' hs' => arun_sound r (i + 1) k s' h' hr C F' μ' a' w' hs' hk

end Go.Ab
