/-
  Ab24: what stands behind a piece of code, kept out of sight while the piece is walked.
-/
import Derived.Test.YtldecgghhaoliaaAb23
namespace Go.Ab
open Go.RowKit
set_option linter.unusedVariables false

structure Hide {α : Type} (K T : α) : Prop where
  eq : K = T
theorem Hide.go {P : Program} {Q : Exit → ASt → Prop} {K : ASt → Prop} {c : Code} {s : ASt} (h : Hide K (awp P c Q)) (k : awp P c Q s) : K s := by rw [h.eq]; exact k
theorem awp_seqK {P : Program} {a b : Code} {Q : Exit → ASt → Prop} {s : ASt} (h : ∀ K, Hide K (awp P b Q) → awp P a (thenQ K Q) s) : awp P (.seq a b) Q s := h _ ⟨rfl⟩
theorem awp_of_eq {P : Program} {c c' : Code} {Q : Exit → ASt → Prop} {s : ASt} (e : c = c') (h : awp P c' Q s) : awp P c Q s := e ▸ h
/-- The byte of a string at a place. -/
def bt (s : ByteArray) (i : Nat) : Int := ((s.data.toList.getD i 0).toNat : Int)
theorem bt_range (s : ByteArray) (i : Nat) : 0 ≤ bt s i ∧ bt s i ≤ 255 := by
  have := (s.data.toList.getD i 0).toNat_lt
  unfold bt; omega
theorem indexA_bt {P : Program} {t : TypeId} {s : ByteArray} {k : IntKind} {i : Int} : indexA P t (.sc (.string s)) (.sc (.int k i)) = if tyStr P t = true then some ⟨decide (0 ≤ i ∧ i < s.size), nt .u8 (bt s i.toNat)⟩ else none := indexA_str
attribute [go_sem] indexA_bt
theorem condQ_nsplit {P : Program} {Q : Exit → ASt → Prop} {s : ASt} {b : Bool} {x y : Code} (h1 : b = false → awp P x Q s) (h2 : b = true → awp P y Q s) : condQ P (some (.sc (.bool (!b)))) x y Q s :=
  ⟨fun h => h1 (by simpa using h), fun h => h2 (by simpa using h)⟩
theorem gK_nsplit {P : Program} {k : ASt → Prop} {s : ASt} {b want : Bool} {o : Oper} (h1 : b = false → gK P (.test true want) o k s) (h2 : b = true → gK P (.test false want) o k s) : gK P (.test (!b) want) o k s := by
  cases b
  · exact h1 rfl
  · exact h2 rfl
theorem dgK_nsplit {P : Program} {k : ASt → Prop} {s : ASt} {b want : Bool} {o : Oper} (h1 : b = false → dgK P (.test true want) o k s) (h2 : b = true → dgK P (.test false want) o k s) : dgK P (.test (!b) want) o k s := by
  cases b
  · exact h1 rfl
  · exact h2 rfl
theorem max_if (a b : Int) : (if b > a then b else a) = max a b := by
  rw [Int.max_def]; split <;> split <;> omega
theorem min_if (a b : Int) : (if b < a then b else a) = min a b := by
  rw [Int.min_def]; split <;> split <;> omega
theorem openA_max {P : Program} {d : Option Nat} {x y : Operand} {ts : Array TypeId} {ty : TypeId} {pos : String} {af g} {ρ : Operand → Option AV} {k k' : IntKind} {a b : Int}
    (hx : ρ x = some (.sc (.int k a))) (hy : ρ y = some (.sc (.int k' b))) : openA P ⟨d, .call ⟨.builtin .max, #[x, y], ts⟩, ty, pos, af, g⟩ ρ = some ⟨true, .sc (.int k (max a b))⟩ := by
  unfold openA
  rw [if_pos ⟨rfl, by simp [Op.operands, Call.operands, hx, hy, toV, toV1]⟩]
  have e : still P (execOp (fun z => orNil ((ρ z).bind toV)) ⟨d, .call ⟨.builtin .max, #[x, y], ts⟩, ty, pos, af, g⟩) = some (.value (.int k (if b > a then b else a))) := by
    simp only [execOp, resolve, Array.map, hx, hy]
    simp [hx, hy, toV, toV1, orNil]
    rfl
  rw [e, max_if]
  rfl
theorem openA_min {P : Program} {d : Option Nat} {x y : Operand} {ts : Array TypeId} {ty : TypeId} {pos : String} {af g} {ρ : Operand → Option AV} {k k' : IntKind} {a b : Int}
    (hx : ρ x = some (.sc (.int k a))) (hy : ρ y = some (.sc (.int k' b))) : openA P ⟨d, .call ⟨.builtin .min, #[x, y], ts⟩, ty, pos, af, g⟩ ρ = some ⟨true, .sc (.int k (min a b))⟩ := by
  unfold openA
  rw [if_pos ⟨rfl, by simp [Op.operands, Call.operands, hx, hy, toV, toV1]⟩]
  have e : still P (execOp (fun z => orNil ((ρ z).bind toV)) ⟨d, .call ⟨.builtin .min, #[x, y], ts⟩, ty, pos, af, g⟩) = some (.value (.int k (if b < a then b else a))) := by
    simp only [execOp, resolve, Array.map, hx, hy]
    simp [hx, hy, toV, toV1, orNil]
    rfl
  rw [e, min_if]
  rfl
def mxS (f : Int → Int → Int) (z : Option Sv) : Option AV → Option AV → Option Sv
  | some (.sc (.int k a)), some (.sc (.int _ b)) => some ⟨true, .sc (.int k (f a b))⟩
  | _, _ => z
theorem mxS_int {f : Int → Int → Int} {z : Option Sv} {k k' : IntKind} {a b : Int} : mxS f z (some (.sc (.int k a))) (some (.sc (.int k' b))) = some ⟨true, .sc (.int k (f a b))⟩ := rfl
theorem mxS_eq {f : Int → Int → Int} {z : Option Sv} {x y : Option AV} (h : ∀ k k' a b, x = some (.sc (.int k a)) → y = some (.sc (.int k' b)) → z = some ⟨true, .sc (.int k (f a b))⟩) : z = mxS f z x y := by
  unfold mxS
  split
  · exact h _ _ _ _ rfl rfl
  · rfl
theorem aop_max2 {P : Program} {d : Nat} {x y : Operand} {ts : Array TypeId} {ty : TypeId} {pos : String} {af g} {s : ASt} : aop P ⟨some d, .call ⟨.builtin .max, #[x, y], ts⟩, ty, pos, af, g⟩ s =
    ofSv (mxS max (openA P ⟨some d, .call ⟨.builtin .max, #[x, y], ts⟩, ty, pos, af, g⟩ (ev s.t)) (ev s.t x) (ev s.t y)) :=
  aop_max.trans (congrArg ofSv (mxS_eq fun k k' a b hx hy => openA_max hx hy))
theorem aop_min2 {P : Program} {d : Nat} {x y : Operand} {ts : Array TypeId} {ty : TypeId} {pos : String} {af g} {s : ASt} : aop P ⟨some d, .call ⟨.builtin .min, #[x, y], ts⟩, ty, pos, af, g⟩ s =
    ofSv (mxS min (openA P ⟨some d, .call ⟨.builtin .min, #[x, y], ts⟩, ty, pos, af, g⟩ (ev s.t)) (ev s.t x) (ev s.t y)) :=
  aop_min.trans (congrArg ofSv (mxS_eq fun k k' a b hx hy => openA_min hx hy))
attribute [go_sem] aop_max2 aop_min2 mxS_int
theorem beq_bytes (a b : ByteArray) : (a == b) = decide (a = b) := by
  rw [Bool.eq_iff_iff, decide_eq_true_eq]
  constructor
  · intro h
    obtain ⟨a⟩ := a; obtain ⟨b⟩ := b
    have h' : (a == b) = true := h
    rw [eq_of_beq h']
  · rintro rfl
    obtain ⟨a⟩ := a
    show (a == a) = true
    simp
/- append, reckoned. -/
def tyZs (P : Program) (e : TypeId) : Option Nat := (tyZero P e).map fun v => v.cells.size
def appL (q : Option Nat) (kk es bytes : Nat) (ys xs : List AV) (d : Nat) (s : ASt) : Option St := match q with
  | some n => some ⟨decide (d < s.n ∧ n = es ∧ (∀ y ∈ ys, y.cells.length = es) ∧ (∀ y ∈ xs, y.cells.length = es) ∧ bytes ≠ 0 ∧ (2 * (xs.length + ys.length) + 200) * bytes ≤ 2 ^ 48 ∧ (xs = [] ∨ ys ≠ [])), s.renew d d d (arrK es (xs ++ ys) kk) (.ref d 0 (xs ++ ys).length)⟩
  | none => none
theorem appL_some {n kk es bytes d : Nat} {ys xs : List AV} {s : ASt} : appL (some n) kk es bytes ys xs d s = some ⟨decide (d < s.n ∧ n = es ∧ (∀ y ∈ ys, y.cells.length = es) ∧ (∀ y ∈ xs, y.cells.length = es) ∧ bytes ≠ 0 ∧ (2 * (xs.length + ys.length) + 200) * bytes ≤ 2 ^ 48 ∧ (xs = [] ∨ ys ≠ [])), s.renew d d d (arrK es (xs ++ ys) kk) (.ref d 0 (xs ++ ys).length)⟩ := rfl
theorem appS_list2 {P : Program} {e : TypeId} {es bytes : Nat} {ys xs : List AV} {l : Bool} {d : Nat} {s : ASt} :
    appS (some (e, es, bytes)) true (some ys) (tyZero P) (kdE P) (.list l true xs) d s = appL (tyZs P e) (kdE P e) es bytes ys xs d s := by
  simp only [appS, appL, tyZs]
  cases tyZero P e with
  | none => rfl
  | some v => simp
def appQ (q : Option Nat) (x : Option AObj) (L n es bytes kk d : Nat) (ys : List AV) (s : ASt) : Option St := match q with
  | some z => match x with
    | some x => if x.arr = true ∧ x.fz = false then some ⟨decide (d < s.n ∧ z = es ∧ (∀ y ∈ ys, y.cells.length = es) ∧ x.es = es ∧ bytes ≠ 0 ∧ (2 * (n + ys.length) + 200) * bytes ≤ 2 ^ 48 ∧ n ≤ x.xs.length),
              s.renew L (if x.pin = true then d else L) d (arrK es (seg x.xs 0 n ++ ys) (if x.kd = kk then kk else 0)) (.ref (if x.pin = true then d else L) 0 (n + ys.length))⟩ else none
    | none => none
  | none => none
theorem appQ_some {z : Nat} {kd kk : Nat} {L n es es' bytes d : Nat} {xs ys : List AV} {pin : Bool} {s : ASt} : appQ (some z) (some ⟨true, false, pin, es', xs, kd⟩) L n es bytes kk d ys s = some ⟨decide (d < s.n ∧ z = es ∧ (∀ y ∈ ys, y.cells.length = es) ∧ es' = es ∧ bytes ≠ 0 ∧ (2 * (n + ys.length) + 200) * bytes ≤ 2 ^ 48 ∧ n ≤ xs.length),
              s.renew L (if pin = true then d else L) d (arrK es (seg xs 0 n ++ ys) (if kd = kk then kk else 0)) (.ref (if pin = true then d else L) 0 (n + ys.length))⟩ := rfl
theorem appS_ref2 {P : Program} {e : TypeId} {es bytes : Nat} {ys : List AV} {L n d : Nat} {s : ASt} :
    appS (some (e, es, bytes)) true (some ys) (tyZero P) (kdE P) (.ref L 0 n) d s = appQ (tyZs P e) (lk s.o L) L n es bytes (kdE P e) d ys s := by
  simp only [appS, appQ, tyZs]
  cases tyZero P e with
  | none => rfl
  | some v =>
    cases lk s.o L with
    | none => rfl
    | some x => simp
theorem cells_bAV (c : UInt8) : (bAV c).cells = [bAV c] := rfl
attribute [go_sem] appL_some appS_list2 appQ_some appS_ref2 cells_bAV List.forall_mem_map
end Go.Ab
