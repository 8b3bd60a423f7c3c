/-
  Ab3: the operations that make a value and leave the memory alone.
-/
import Derived.Test.YtldecgghhaoliaaAb2
import Derived.Orders
namespace Go.Ab
open Go.RowKit
set_option linter.unusedVariables false
set_option linter.unusedSimpArgs false

def tyAgg (P : Program) (t : TypeId) : Bool := match P.underlying t with | some (.struct _) => true | some (.array _ _) => true | _ => false
def tySize (P : Program) (t : TypeId) : Option Nat := (P.info? t).map (·.size)
def tyBytes (P : Program) (t : TypeId) : Option Nat := (P.info? t).map (·.bytes)
def tyZero (P : Program) (t : TypeId) : Option Value := (P.info? t).bind (·.zero)

theorem run_underlying_ok {P : Program} {t : TypeId} {d : TypeDesc} (h : P.underlying t = some d) (w : World) : (underlying t).run P w = .ok d w := by
  simp [underlying, h]
theorem run_isAgg_ok {P : Program} {t : TypeId} {d : TypeDesc} (h : P.underlying t = some d) (w : World) : (isAgg t).run P w = .ok (tyAgg P t) w := by
  unfold isAgg tyAgg
  simp only [Sem.run_bind, run_underlying_ok h, Result.andThen_ok, h]
  cases d <;> rfl
theorem run_sizeOf_ok {P : Program} {t : TypeId} {n : Nat} (h : tySize P t = some n) (w : World) : (sizeOf t).run P w = .ok n w := by
  unfold tySize at h
  cases hi : P.info? t with
  | none => simp [hi] at h
  | some i => simp [hi] at h; subst h; simp [sizeOf, typeInfo, hi]
theorem run_zeroValue_ok {P : Program} {t : TypeId} {v : Value} (h : tyZero P t = some v) (w : World) : (zeroValue t).run P w = .ok v w := by
  unfold tyZero at h
  cases hi : P.info? t with
  | none => simp [hi] at h
  | some i => simp [hi] at h; simp [zeroValue, typeInfo, hi, h]

/-- Constants. -/
def cst1 : Value → Option AV
  | .slice none 0 0 => some (.list false true [])
  | v => if scalar v then some (.sc v) else none
def cst : Value → Option AV
  | .agg cs => (cs.toList.mapM cst1).map .agg
  | v => cst1 v

theorem one_of_scalar {v : Value} (h : scalar v = true) : one v = true := by
  cases v <;> simp_all [scalar, Value.oneCell']

theorem RV_cst1 {F loc} {v : Value} {a : AV} (h : cst1 v = some a) : RV F loc a v ∧ one v = true := by
  unfold cst1 at h
  split at h
  · obtain rfl := Option.some.inj h; exact ⟨.nil, rfl⟩
  · split at h
    · rename_i hs; obtain rfl := Option.some.inj h; exact ⟨.sc hs, one_of_scalar hs⟩
    · cases h

theorem mapM_some {α β : Type} {f : α → Option β} : ∀ {l : List α} {r : List β}, l.mapM f = some r → r.length = l.length ∧ ∀ (i : Nat) (a : α) (b : β), l[i]? = some a → r[i]? = some b → f a = some b
  | [], r, h => by simp at h; subst h; simp
  | x :: l, r, h => by
    simp only [List.mapM_cons] at h
    cases hx : f x with
    | none => simp [hx] at h
    | some y =>
      cases hl : l.mapM f with
      | none => simp [hx, hl] at h
      | some ys =>
        simp [hx, hl] at h
        subst h
        obtain ⟨h1, h2⟩ := mapM_some hl
        refine ⟨by simp [h1], fun i a b ha hb => ?_⟩
        cases i with
        | zero => simp at ha hb; subst ha; subst hb; exact hx
        | succ i => simp at ha hb; exact h2 i a b ha hb

theorem RV_cst {F loc} {v : Value} {a : AV} (h : cst v = some a) : RV F loc a v := by
  unfold cst at h
  split at h
  · rename_i cs
    cases hm : cs.toList.mapM cst1 with
    | none => simp [hm] at h
    | some r =>
      simp [hm] at h
      subst h
      obtain ⟨h1, h2⟩ := mapM_some hm
      refine .agg (by simpa using h1) (fun i a v ha hv => (RV_cst1 (h2 i v a (by simpa using hv) ha)).1) fun i v hv => ?_
      have hlt : i < r.length := by rw [h1]; have := (Array.getElem?_eq_some_iff.1 hv).1; simpa using this
      exact (RV_cst1 (F := F) (loc := loc) (h2 i v r[i] (by simpa using hv) (by simp [hlt]))).2
  · exact (RV_cst1 h).1

/-- The value of an operand. -/
def ev (t : List (Nat × AV)) : Operand → Option AV
  | .tmp i => lk t i
  | .const v => cst v
  | .func f => some (.clo f [])
  | .global _ => none

theorem ev_sound {C F μ} {s : ASt} {a : Act} {w : World} (h : SR C F μ s a w) {x : Operand} {b : AV} (hb : ev s.t x = some b) : RV F (locOf s.o μ) b (a.eval x) := by
  cases x with
  | tmp i => exact h.slot i b hb
  | const v => exact RV_cst hb
  | global g => simp [ev] at hb
  | func f => simp [ev] at hb; subst hb; exact .clo (by rfl) (by intro i a v ha; simp at ha)

/-- A computation that asks nothing of the memory. -/
def still (P : Program) {α : Type} : Sem α → Option α
  | .pure a => some a
  | .program k => still P (k P)
  | .mark _ k => still P k
  | _ => none
theorem still_run {P : Program} {α : Type} : ∀ {s : Sem α} {a : α}, still P s = some a → ∀ w, s.run P w = .ok a w
  | .pure _, _, h, _ => by simp [still] at h; subst h; rfl
  | .program k, _, h, w => by simp only [still] at h; exact still_run h w
  | .mark _ k, _, h, w => by simp only [still] at h; exact still_run (s := k) h w

/-- A value that lies open: it holds no row and no reference. -/
def toV1 : AV → Option Value
  | .sc v => some v
  | _ => none
def toV : AV → Option Value
  | .agg cs => (cs.mapM toV1).map fun l => .agg l.toArray
  | a => toV1 a
theorem toV1_sound {F loc} {a : AV} {v v' : Value} (h : RV F loc a v) (hv : toV1 a = some v') : v' = v := by
  cases h <;> simp_all [toV1]
theorem toV_sound {F loc} {a : AV} {v v' : Value} (h : RV F loc a v) (hv : toV a = some v') : v' = v := by
  cases h with
  | @agg _ _ cs vs hl hr ho =>
    simp only [toV] at hv
    cases hm : cs.mapM toV1 with
    | none => simp [hm] at hv
    | some r =>
      simp [hm] at hv
      subst hv
      obtain ⟨h1, h2⟩ := mapM_some hm
      congr 1
      apply Array.ext
      · simp [h1, hl]
      · intro i hi hi'
        have hic : i < cs.length := by rw [hl]; exact hi'
        have := h2 i cs[i] r[i] (by simp [hic]) (by simp at hi; simp [hi])
        simpa using toV1_sound (hr i cs[i] vs[i] (by simp [hic]) (by simp [hi'])) this
  | _ => simp_all [toV, toV1]

instance decSome {α : Type} {o : Option α} {p : α → Prop} [h : ∀ a, Decidable (p a)] : Decidable (∀ y, o = some y → p y) :=
  match o with
  | none => .isTrue (by simp)
  | some a => match h a with
    | .isTrue k => .isTrue (by simpa using k)
    | .isFalse k => .isFalse (by simpa using k)
/-- What a value operation needs, and what it makes. -/
structure Sv where
  need : Bool
  val : AV

def bl (b : Bool) : AV := .sc (.bool b)
def nt (k : IntKind) (n : Int) : AV := .sc (.int k n)

def intA (op : BinOp) (k : IntKind) (u v : Int) : Option Sv :=
  match op with
  | .add => some ⟨true, nt k (k.wrap (u + v))⟩
  | .sub => some ⟨true, nt k (k.wrap (u - v))⟩
  | .mul => some ⟨true, nt k (k.wrap (u * v))⟩
  | .quo => some ⟨decide (v ≠ 0), nt k (k.wrap (u.tdiv v))⟩
  | .rem => some ⟨decide (v ≠ 0), nt k (u.tmod v)⟩
  | .eql => some ⟨true, bl (decide (u = v))⟩
  | .neq => some ⟨true, bl (!decide (u = v))⟩
  | .lss => some ⟨true, bl (decide (u < v))⟩
  | .leq => some ⟨true, bl (decide (u ≤ v))⟩
  | .gtr => some ⟨true, bl (decide (v < u))⟩
  | .geq => some ⟨true, bl (decide (v ≤ u))⟩
  | .shr => some ⟨decide (0 ≤ v), nt k (u.fdiv (2 ^ (min v.toNat k.bits)))⟩
  | _ => none

def strA (op : BinOp) (u v : ByteArray) : Option Sv :=
  match op with
  | .add => some ⟨decide (u.size + v.size ≤ 2 ^ 62), .sc (.string (u ++ v))⟩
  | .eql => some ⟨true, bl (decide (u = v))⟩
  | .neq => some ⟨true, bl (!decide (u = v))⟩
  | .lss => some ⟨true, bl (Op.bytesLess u.toList v.toList)⟩
  | .gtr => some ⟨true, bl (!(Op.bytesLess u.toList v.toList || decide (u = v)))⟩
  | .leq => some ⟨true, bl (Op.bytesLess u.toList v.toList || decide (u = v))⟩
  | .geq => some ⟨true, bl (!Op.bytesLess u.toList v.toList)⟩
  | _ => none

def tyIsBool (P : Program) (t : TypeId) : Bool := match P.underlying t with | some .bool => true | _ => false

def binA (P : Program) (op : BinOp) (t : TypeId) (a b : AV) : Option Sv :=
  match a, b with
  | .sc (.int k u), .sc (.int k' v) => if k = k' then intA op k u v else if op = .shr then intA .shr k u v else none
  | .sc (.string u), .sc (.string v) => strA op u v
  | .sc (.bool u), .sc (.bool v) => if tyIsBool P t = true then match op with
    | .eql => some ⟨true, bl (u == v)⟩
    | .neq => some ⟨true, bl (!(u == v))⟩
    | _ => none else none
  | _, _ => none

theorem intA_sound {P : Program} {op : BinOp} {k k' : IntKind} {u v : Int} {r : Sv} (h : intA op k u v = some r) (hn : r.need) (hk : k = k' ∨ op = .shr) (w : World) (t : TypeId) (x y : Operand) :
    ∃ z, (do eqGuard op t x y (.int k u) (.int k' v); binOp op t (.int k u) (.int k' v) : Sem Value).run P w = .ok z w ∧ r.val = .sc z ∧ scalar z = true := by
  by_cases hs : op = .shr
  · subst hs
    simp [intA] at h
    subst h
    have hn' : ¬ v < 0 := by simpa using hn
    refine ⟨.int k (u.fdiv (2 ^ (min v.toNat k.bits))), ?_, rfl, rfl⟩
    simp [eqGuard, binOp, Op.shift, hn']
  · obtain rfl : k = k' := hk.resolve_right hs
    cases op <;> simp [intA] at h <;> subst h <;>
      first
      | exact absurd rfl hs
      | (refine ⟨_, ?_, rfl, rfl⟩; simp [eqGuard, binOp, Op.intArith, Op.intCmp]; done)
      | (refine ⟨_, ?_, rfl, rfl⟩; (have hn' : ¬ v = 0 := by simpa using hn); simp [eqGuard, binOp, Op.intDiv, hn']; done)
      | (refine ⟨_, ?_, rfl, rfl⟩; simp [eqGuard, binOp, Op.intCmp, bne]; rfl)

theorem toList_inj {u v : ByteArray} (h : u.toList = v.toList) : u = v := by
  rw [ByteArray.toList_eq, ByteArray.toList_eq] at h
  obtain ⟨⟨x⟩⟩ := u
  obtain ⟨⟨y⟩⟩ := v
  simpa using h

theorem strA_sound {P : Program} {op : BinOp} {u v : ByteArray} {r : Sv} (h : strA op u v = some r) (hn : r.need) (w : World) (t : TypeId) (x y : Operand) :
    ∃ z, (do eqGuard op t x y (.string u) (.string v); binOp op t (.string u) (.string v) : Sem Value).run P w = .ok z w ∧ r.val = .sc z ∧ scalar z = true := by
  have he : (u.toList == v.toList) = decide (u = v) := by
    rw [← beq_toListBytes]
    by_cases h : u = v
    · subst h; rw [beq_toListBytes]; simp
    · rw [beq_toListBytes, beq_eq_false_iff_ne.2 (fun e => h (toList_inj e))]; simp [h]
  cases op <;> simp [strA] at h <;> subst h
  · have hn' : u.size + v.size ≤ 2 ^ 62 := of_decide_eq_true hn
    have hf : ¬ IntKind.i64.max < ((u.size + v.size : Nat) : Int) := by
      have : IntKind.i64.max = 9223372036854775807 := by decide
      rw [this]; omega
    refine ⟨.string (u ++ v), ?_, rfl, rfl⟩
    show (do eqGuard .add t x y (.string u) (.string v); Op.stringOp .add u v : Sem Value).run P w = _
    simp only [eqGuard, Op.stringOp]
    rw [if_neg hf]
    rfl
  · refine ⟨_, ?_, rfl, rfl⟩; simp [eqGuard, binOp, Op.stringOp, he]
  · refine ⟨_, ?_, rfl, rfl⟩; simp [eqGuard, binOp, Op.stringOp, he]
  all_goals (refine ⟨_, ?_, rfl, rfl⟩; simp [eqGuard, binOp, Op.stringOp, he])

theorem run_equalIn_bool {P : Program} {t : TypeId} (hu : P.underlying t = some .bool) (u v : Bool) (w : World) (d : Nat) : (Op.equalIn (d + 1) t (.bool u) (.bool v)).run P w = .ok (u == v) w := by
  simp only [Op.equalIn, Sem.run_bind, run_underlying_ok hu, Result.andThen_ok]
  rfl
theorem run_eq_bool {P : Program} {t : TypeId} (h : tyIsBool P t = true) (u v : Bool) (w : World) : (Op.equal t (.bool u) (.bool v)).run P w = .ok (u == v) w := by
  unfold tyIsBool at h
  split at h
  · rename_i hu
    exact run_equalIn_bool hu u v w 9999
  · cases h

theorem binA_sound {P : Program} {F loc} {op : BinOp} {t : TypeId} {a b : AV} {u v : Value} {r : Sv} (h : binA P op t a b = some r) (hn : r.need) (ha : RV F loc a u) (hb : RV F loc b v) (w : World) (x y : Operand) :
    ∃ z, (do eqGuard op t x y u v; binOp op t u v : Sem Value).run P w = .ok z w ∧ RV F loc r.val z := by
  unfold binA at h
  split at h
  · cases ha; cases hb
    split at h
    · rename_i hk
      obtain ⟨z, h1, h2, h3⟩ := intA_sound (P := P) h hn (.inl hk) w t x y
      exact ⟨z, h1, h2 ▸ .sc h3⟩
    · split at h
      · rename_i hop
        subst hop
        obtain ⟨z, h1, h2, h3⟩ := intA_sound (P := P) h hn (.inr rfl) w t x y
        exact ⟨z, h1, h2 ▸ .sc h3⟩
      · cases h
  · cases ha; cases hb
    obtain ⟨z, h1, h2, h3⟩ := strA_sound (P := P) h hn w t x y
    exact ⟨z, h1, h2 ▸ .sc h3⟩
  · rename_i p q
    cases ha; cases hb
    split at h
    · rename_i ht
      split at h
      · obtain rfl := Option.some.inj h
        refine ⟨.bool (p == q), ?_, .sc rfl⟩
        simp [eqGuard, binOp, run_eq_bool ht]
      · obtain rfl := Option.some.inj h
        refine ⟨.bool (!(p == q)), ?_, .sc rfl⟩
        simp [eqGuard, binOp, run_eq_bool ht]
      · cases h
    · cases h
  · cases h

end Go.Ab
