/-
  Ab8: all value operations.
-/
import Derived.Test.YtldecgghhaoliaaAb7
import Derived.DeepKeys
import Derived.Lib.UnsafeStr
import Derived.Lib.Builder
namespace Go.Ab
open Go.RowKit
set_option linter.unusedVariables false
set_option linter.unusedSimpArgs false

def orNil (x : Option Value) : Value := x.getD .nilIface

/-- An operation over operands that lie open is run as it stands. -/
def noSel : Op → Bool
  | .select _ _ => false
  | _ => true
def openA (P : Program) (o : Oper) (ρ : Operand → Option AV) : Option Sv :=
  if noSel o.op = true ∧ (∀ x ∈ o.op.operands, ((ρ x).bind toV).isSome = true) then
    match still P (execOp (fun x => orNil ((ρ x).bind toV)) o) with
    | some (.value v) => (cst v).map fun a => ⟨true, a⟩
    | _ => none
  else none

theorem openA_sound {P : Program} {F loc} {o : Oper} {ρ : Operand → Option AV} {ρv : Operand → Value} (hρ : ∀ x a, ρ x = some a → RV F loc a (ρv x)) {r : Sv} (h : openA P o ρ = some r) (w : World) :
    ∃ z, (execOp ρv o).run P w = .ok (.value z) w ∧ RV F loc r.val z := by
  unfold openA at h
  split at h
  · rename_i hc
    obtain ⟨hs, ha⟩ := hc
    split at h
    · rename_i v hv
      cases hcst : cst v with
      | none => simp [hcst] at h
      | some a =>
        simp [hcst] at h
        subst h
        have he : execOp ρv o = execOp (fun x => orNil ((ρ x).bind toV)) o := execOp_congr o (fun cs b he => by simp [he, noSel] at hs) (fun x hx => by
          have := ha x hx
          cases hr : ρ x with
          | none => simp [hr] at this
          | some a =>
            cases ht : toV a with
            | none => simp [hr, ht] at this
            | some u => simp [orNil, ht]; exact (toV_sound (hρ x a hr) ht).symm)
        exact ⟨v, by rw [he]; exact still_run hv w, RV_cst hcst⟩
    · cases h
  · cases h

def capsA (ρ : Operand → Option AV) (xs : List Operand) : Option (List AV) := xs.mapM ρ

/- Structs compared. -/
def eqV (P : Program) : Nat → TypeId → List Value → List Value → Option Bool
  | 0, _, _, _ => none
  | d + 1, t, xs, ys => match P.underlying t with
    | some .bool => match xs, ys with
      | [.bool a], [.bool b] => some (a == b)
      | _, _ => none
    | some (.int _) => match xs, ys with
      | [.int k a], [.int k' b] => if k = k' then some (a == b) else none
      | _, _ => none
    | some .string => match xs, ys with
      | [.string a], [.string b] => some (a == b)
      | _, _ => none
    | some (.struct fs) => if xs.length = P.cellsOf t ∧ ys.length = P.cellsOf t ∧ P.stoodInHeld t = false then eqFs (fun t xs ys => eqV P d t xs ys) P.cellsOf xs ys fs.toList else none
    | _ => none
where eqFs (e : TypeId → List Value → List Value → Option Bool) (sz : TypeId → Nat) (xs ys : List Value) : List Field → Option Bool
  | [] => some true
  | f :: r => if f.name = "_" then none else match e f.type ((xs.drop f.offset).take (sz f.type)) ((ys.drop f.offset).take (sz f.type)), eqFs e sz xs ys r with
    | some a, some b => some (a && b)
    | _, _ => none

theorem eqV_shape {P : Program} {d : Nat} {t : TypeId} {xs ys : List Value} {q : Bool} (h : eqV P d t xs ys = some q) :
    (P.plainKey t = true ∧ ∃ a b, xs = [a] ∧ ys = [b] ∧ a.cells = #[a] ∧ b.cells = #[b] ∧ (∀ cs, a ≠ .agg cs) ∧ ∀ cs, b ≠ .agg cs) ∨ (∃ fs, P.underlying t = some (.struct fs) ∧ xs.length = P.cellsOf t ∧ ys.length = P.cellsOf t) := by
  cases d with
  | zero => simp [eqV] at h
  | succ d =>
    unfold eqV at h
    split at h
    · rename_i hu
      split at h
      · exact .inl ⟨by simp [Program.plainKey, hu], _, _, rfl, rfl, rfl, rfl, by simp, by simp⟩
      · cases h
    · rename_i hu
      split at h
      · exact .inl ⟨by simp [Program.plainKey, hu], _, _, rfl, rfl, rfl, rfl, by simp, by simp⟩
      · cases h
    · rename_i hu
      split at h
      · exact .inl ⟨by simp [Program.plainKey, hu], _, _, rfl, rfl, rfl, rfl, by simp, by simp⟩
      · cases h
    · rename_i fs hu
      split at h
      · rename_i hc; exact .inr ⟨fs, hu, hc.1, hc.2.1⟩
      · cases h
    · cases h

theorem part_agg {P : Program} {w : World} {e : TypeId} {fs : Array Field} (hu : P.underlying e = some (.struct fs)) {off : Nat} {xs : Array Value} :
    (part e xs off).run P w = .ok (.agg (xs.extract off (off + P.cellsOf e))) w ∧ (xs.extract off (off + P.cellsOf e)).toList = (xs.toList.drop off).take (P.cellsOf e) := by
  obtain ⟨i, hi⟩ := info_of_underlying hu
  refine ⟨by simp [part, isAgg, run_underlying hu, run_sizeOf w hi], ?_⟩
  rw [Array.toList_extract]
  simp [List.extract]

def EqAtV (P : Program) (dd d : Nat) : Prop := ∀ (t : TypeId) (w : World) (x y : Value) (q : Bool), eqV P d t x.cells.toList y.cells.toList = some q →
  ((∃ cs, x = .agg cs) ↔ ∃ fs, P.underlying t = some (.struct fs)) → ((∃ cs, y = .agg cs) ↔ ∃ fs, P.underlying t = some (.struct fs)) → (Op.equalIn dd t x y).run P w = .ok q w

theorem run_eqFs {P : Program} {dd d : Nat} (IH : EqAtV P dd d) (xs ys : Array Value) (w : World) : ∀ (fs : List Field) (q : Bool), eqV.eqFs (fun t xs ys => eqV P d t xs ys) P.cellsOf xs.toList ys.toList fs = some q → (Op.eqFields dd xs ys fs).run P w = .ok q w
  | [], q, h => by simp [eqV.eqFs] at h; subst h; simp [Op.eqFields]
  | f :: fs, q, h => by
    unfold eqV.eqFs at h
    split at h
    · cases h
    · rename_i hn
      split at h
      · rename_i a b ha hb
        obtain rfl := Option.some.inj h
        have hstep : ∃ u v, (part f.type xs f.offset).run P w = .ok u w ∧ (part f.type ys f.offset).run P w = .ok v w ∧ (Op.equalIn dd f.type u v).run P w = .ok a w := by
          rcases eqV_shape ha with ⟨hp, u, v, hu, hv, cu, cv, nu, nv⟩ | ⟨fs', hu, hl1, hl2⟩
          · refine ⟨u, v, run_part_plain w hp (getElem?_of_chunk hu), run_part_plain w hp (getElem?_of_chunk hv), ?_⟩
            have hna : ¬ ∃ fs, P.underlying f.type = some (.struct fs) := by rintro ⟨fs, e⟩; simp [Program.plainKey, e] at hp
            rw [hu, hv] at ha
            exact IH f.type w u v a (by rw [cu, cv]; exact ha) ⟨fun ⟨cs, e⟩ => (nu cs e).elim, fun h => (hna h).elim⟩ ⟨fun ⟨cs, e⟩ => (nv cs e).elim, fun h => (hna h).elim⟩
          · obtain ⟨p1, c1⟩ := part_agg (w := w) hu (off := f.offset) (xs := xs)
            obtain ⟨p2, c2⟩ := part_agg (w := w) hu (off := f.offset) (xs := ys)
            exact ⟨_, _, p1, p2, IH f.type w _ _ a (by simp only [Value.cells]; rw [c1, c2]; exact ha) ⟨fun _ => ⟨_, hu⟩, fun _ => ⟨_, rfl⟩⟩ ⟨fun _ => ⟨_, hu⟩, fun _ => ⟨_, rfl⟩⟩⟩
        obtain ⟨u, v, p1, p2, p3⟩ := hstep
        have hr := run_eqFs IH xs ys w fs b hb
        simp only [Op.eqFields, hn, ne_eq, not_false_eq_true, if_true, Sem.run_bind, p1, p2, p3, Result.andThen_ok]
        cases a
        · simp
        · simpa using hr
      · cases h

theorem run_eqV {P : Program} (dd : Nat) : ∀ d, EqAtV P (dd + d) d
  | 0 => fun t w x y q h => by simp [eqV] at h
  | d + 1 => fun t w x y q h hx hy => by
    have h0 := h
    unfold eqV at h
    split at h
    · rename_i hu
      split at h
      · rename_i a b ea eb
        obtain rfl := Option.some.inj h
        have hxa : x = .bool a := by
          cases x <;> simp_all [Value.cells]
        have hyb : y = .bool b := by
          cases y <;> simp_all [Value.cells]
        subst hxa; subst hyb
        show (Op.equalIn (dd + d + 1) t _ _).run P w = _
        simp [Op.equalIn, run_underlying hu]
      · cases h
    · rename_i q' hu
      split at h
      · rename_i k a k' b ea eb
        split at h
        · rename_i hk
          subst hk
          obtain rfl := Option.some.inj h
          have hxa : x = .int k a := by
            cases x <;> simp_all [Value.cells]
          have hyb : y = .int k b := by
            cases y <;> simp_all [Value.cells]
          subst hxa; subst hyb
          show (Op.equalIn (dd + d + 1) t _ _).run P w = _
          simp [Op.equalIn, run_underlying hu]
        · cases h
      · cases h
    · rename_i hu
      split at h
      · rename_i a b ea eb
        obtain rfl := Option.some.inj h
        have hxa : x = .string a := by
          cases x <;> simp_all [Value.cells]
        have hyb : y = .string b := by
          cases y <;> simp_all [Value.cells]
        subst hxa; subst hyb
        show (Op.equalIn (dd + d + 1) t _ _).run P w = _
        simp [Op.equalIn, run_underlying hu]
      · cases h
    · rename_i fs hu
      split at h
      · rename_i hc
        obtain ⟨xs, rfl⟩ := hx.2 ⟨fs, hu⟩
        obtain ⟨ys, rfl⟩ := hy.2 ⟨fs, hu⟩
        have hfs : P.fieldsOf t = fs := by simp [Program.fieldsOf, hu]
        show (Op.equalIn (dd + d + 1) t _ _).run P w = _
        rw [run_equalIn_struct w (dd + d) t xs ys (by rw [hfs]; exact hu) hc.2.2, hfs]
        exact run_eqFs (run_eqV dd d) xs ys w fs.toList q h
      · cases h
    · cases h

def aggEqA (P : Program) (op : BinOp) (t : TypeId) (a b : AV) : Option Sv :=
  match toV a, toV b with
  | some (.agg u), some (.agg v) => if P.eqGuardType P.depth t = false then
      match eqV P 100 t u.toList v.toList with
      | some q => match P.underlying t with
        | some (.struct _) => match op with
          | .eql => some ⟨true, bl q⟩
          | .neq => some ⟨true, bl (!q)⟩
          | _ => none
        | _ => none
      | none => none
    else none
  | _, _ => none
theorem aggEqA_sound {P : Program} {F loc} {op : BinOp} {t : TypeId} {a b : AV} {x y : Operand} {u v : Value} {r : Sv} (h : aggEqA P op t a b = some r) (ha : RV F loc a u) (hb : RV F loc b v) :
    ∃ z, r.val = .sc z ∧ scalar z = true ∧ ∀ w, (do eqGuard op t x y u v; binOp op t u v : Sem Value).run P w = .ok z w := by
  unfold aggEqA at h
  split at h
  · rename_i u' v' hu hv
    obtain rfl := toV_sound ha hu
    obtain rfl := toV_sound hb hv
    split at h
    · rename_i hc
      split at h
      · rename_i q hq
        split at h
        · rename_i fs hfs
          have heq : ∀ w, (Op.equal t (.agg u') (.agg v')).run P w = .ok q w := fun w =>
            run_eqV 9900 100 t w (.agg u') (.agg v') q hq ⟨fun _ => ⟨_, hfs⟩, fun _ => ⟨_, rfl⟩⟩ ⟨fun _ => ⟨_, hfs⟩, fun _ => ⟨_, rfl⟩⟩
          have hg : ∀ w, (eqGuard op t x y (.agg u') (.agg v')).run P w = .ok () w := fun w => by
            unfold eqGuard
            cases op <;> simp [hc]
          split at h
          · obtain rfl := Option.some.inj h
            exact ⟨_, rfl, rfl, fun w => by simp [hg, binOp, heq]⟩
          · obtain rfl := Option.some.inj h
            exact ⟨_, rfl, rfl, fun w => by simp [hg, binOp, heq]⟩
          · cases h
        · cases h
      · cases h
    · cases h
  · cases h

/- A comparison with nil. -/
def nilK : Operand → Nat
  | .const (.slice none 0 0) => 1
  | .const (.pointer none) => 2
  | .const .nilFunc => 3
  | _ => 0
def tyKd (P : Program) (t : TypeId) : Nat := match P.underlying t with
  | some (.slice _) => 1
  | some (.pointer _) => 2
  | some (.func _ _ _) => 3
  | _ => 0
def nonNil : AV → Nat
  | .list _ _ (_ :: _) => 1
  | .ref _ _ (_ + 1) => 1
  | .aref _ _ _ _ (_ + 1) => 1
  | .ptr _ _ _ => 2
  | .iptr _ _ _ _ => 2
  | .clo _ _ => 3
  | _ => 0
def nilEqA (P : Program) (op : BinOp) (t : TypeId) (a : AV) (y : Operand) : Option Sv :=
  if nilK y ≠ 0 ∧ tyKd P t = nilK y ∧ nonNil a = nilK y then match op with
    | .eql => some ⟨true, bl false⟩
    | .neq => some ⟨true, bl true⟩
    | _ => none
  else none

theorem nonNil_val {F loc} {a : AV} {u : Value} (ha : RV F loc a u) : (nonNil a = 1 → ∃ p n c, u = .slice (some p) n c) ∧ (nonNil a = 2 → ∃ p, u = .pointer (some p)) ∧ (nonNil a = 3 → ∃ f x y, u = .func f x y) := by
  cases ha with
  | list => exact ⟨fun _ => ⟨_, _, _, rfl⟩, fun h => by (rename_i xs _ _ _ _ _ _ _ _ _ _ _ _ _ _; cases xs <;> simp [nonNil] at h), fun h => by (rename_i xs _ _ _ _ _ _ _ _ _ _ _ _ _ _; cases xs <;> simp [nonNil] at h)⟩
  | refNil => exact ⟨fun h => by simp [nonNil] at h, fun h => by simp [nonNil] at h, fun h => by simp [nonNil] at h⟩
  | @ref _ _ _ _ n => exact ⟨fun _ => ⟨_, _, _, rfl⟩, fun h => by cases n <;> simp [nonNil] at h, fun h => by cases n <;> simp [nonNil] at h⟩
  | @aref _ _ _ _ _ _ _ _ _ _ n => exact ⟨fun _ => ⟨_, _, _, rfl⟩, fun h => by cases n <;> simp [nonNil] at h, fun h => by cases n <;> simp [nonNil] at h⟩
  | ptr => exact ⟨fun h => by simp [nonNil] at h, fun _ => ⟨_, rfl⟩, fun h => by simp [nonNil] at h⟩
  | iptr => exact ⟨fun h => by simp [nonNil] at h, fun _ => ⟨_, rfl⟩, fun h => by simp [nonNil] at h⟩
  | clo => exact ⟨fun h => by simp [nonNil] at h, fun h => by simp [nonNil] at h, fun _ => ⟨_, _, _, rfl⟩⟩
  | _ => exact ⟨fun h => by simp [nonNil] at h, fun h => by simp [nonNil] at h, fun h => by simp [nonNil] at h⟩

theorem run_equalIn_nil1 {P : Program} {t : TypeId} {e} (hu : P.underlying t = some (.slice e)) (p n c) (w : World) (d : Nat) : (Op.equalIn (d + 1) t (.slice (some p) n c) (.slice none 0 0)).run P w = .ok false w := by
  simp only [Op.equalIn, Sem.run_bind, run_underlying_ok hu, Result.andThen_ok]
  rfl
theorem run_equalIn_nil2 {P : Program} {t : TypeId} {e} (hu : P.underlying t = some (.pointer e)) (p) (w : World) (d : Nat) : (Op.equalIn (d + 1) t (.pointer (some p)) (.pointer none)).run P w = .ok false w := by
  simp only [Op.equalIn, Sem.run_bind, run_underlying_ok hu, Result.andThen_ok]
  rfl
theorem run_equalIn_nil3 {P : Program} {t : TypeId} {e1 e2 e3} (hu : P.underlying t = some (.func e1 e2 e3)) (f x y) (w : World) (d : Nat) : (Op.equalIn (d + 1) t (.func f x y) .nilFunc).run P w = .ok false w := by
  simp only [Op.equalIn, Sem.run_bind, run_underlying_ok hu, Result.andThen_ok]
  rfl
theorem nilEqA_sound {P : Program} {F loc} {op : BinOp} {t : TypeId} {a : AV} {x y : Operand} {u v : Value} {r : Sv} (h : nilEqA P op t a y = some r) (ha : RV F loc a u) (hc : ∀ z, y = .const z → v = z) (w : World) :
    ∃ z, (do eqGuard op t x y u v; binOp op t u v : Sem Value).run P w = .ok z w ∧ RV F loc r.val z := by
  unfold nilEqA at h
  split at h
  · rename_i hk
    obtain ⟨h0, h1, h2⟩ := hk
    obtain ⟨n1, n2, n3⟩ := nonNil_val ha
    have key : (Op.equal t u v).run P w = .ok false w ∧ (eqGuard op t x y u v).run P w = .ok () w ∧ binOp .eql t u v = (do pure (.bool (← Op.equal t u v))) ∧ binOp .neq t u v = (do pure (.bool (!(← Op.equal t u v)))) := by
      unfold nilK at h0 h1 h2
      split at h1
      · obtain rfl := hc _ rfl
        obtain ⟨p, n, c, rfl⟩ := n1 h2
        unfold tyKd at h1
        split at h1 <;> first | cases h1 | skip
        rename_i e hu
        refine ⟨?_, by unfold eqGuard; cases op <;> rfl, rfl, rfl⟩
        exact run_equalIn_nil1 hu p n c w 9999
      · obtain rfl := hc _ rfl
        obtain ⟨p, rfl⟩ := n2 h2
        unfold tyKd at h1
        split at h1 <;> first | cases h1 | skip
        rename_i e hu
        refine ⟨?_, by unfold eqGuard; cases op <;> rfl, rfl, rfl⟩
        exact run_equalIn_nil2 hu p w 9999
      · obtain rfl := hc _ rfl
        obtain ⟨f, q1, q2, rfl⟩ := n3 h2
        unfold tyKd at h1
        split at h1 <;> first | cases h1 | skip
        rename_i e1 e2 e3 hu
        refine ⟨?_, by unfold eqGuard; cases op <;> rfl, rfl, rfl⟩
        exact run_equalIn_nil3 hu f q1 q2 w 9999
      · rename_i hn
        exact (h0 (by split <;> first | rfl | (exfalso; simp_all))).elim
    obtain ⟨k1, k2, k3, k4⟩ := key
    split at h
    · obtain rfl := Option.some.inj h
      exact ⟨.bool false, by simp [k2, k3, k1], .sc rfl⟩
    · obtain rfl := Option.some.inj h
      exact ⟨.bool true, by simp [k2, k4, k1], .sc rfl⟩
    · cases h
  · cases h

/-- The value of an operation that leaves the memory alone. -/
def dataA (L lo n : Nat) (ob : Objs) : Option Sv := match lk ob L with
  | some x => if x.arr = true ∧ lo = 0 then some ⟨decide (n ≠ 0), .ptr L 0 0⟩ else none
  | none => none
theorem dataA_sound {P : Program} {F : Bool → Facts} {μ : Pl} {ob : Objs} {L lo n : Nat} {r : Sv} (h : dataA L lo n ob = some r) (hn : r.need) {v : Value} (hv : RV F (locOf ob μ) (.ref L lo n) v) (ts : Array TypeId) (ty : TypeId) (w : World) :
    ∃ z, (Builtin.unsafeSliceData_ ts ty #[v]).run P w = .ok z w ∧ RV F (locOf ob μ) r.val z := by
  unfold dataA at h
  split at h
  · rename_i x hg
    split at h
    · rename_i hc
      obtain ⟨ha, rfl⟩ := hc
      obtain rfl := Option.some.inj h
      have h0 : n ≠ 0 := of_decide_eq_true hn
      cases hv with
      | refNil g => exact (h0 rfl).elim
      | @ref _ _ _ _ _ b cap es len o c g1 g2 g3 g4 g5 =>
        have ho := g4 (.inr rfl)
        simp at ho
        subst ho
        exact ⟨_, Lib.run_unsafeSliceData_row (P := P) (w := w) ts ty ⟨b, 0, none⟩ n c (by omega), by simpa using RV.ptr (F := F) (i := 0) (k := 0) g1 (by omega)⟩
    · cases h
  · cases h
def aval (P : Program) (o : Oper) (ρ : Operand → Option AV) (ob : Objs) : Option Sv :=
  match o.op with
  | .move x => (ρ x).map fun a => ⟨true, a⟩
  | .assign x => (ρ x).map fun a => ⟨true, a⟩
  | .pick c a b => match ρ c with
    | some (.sc (.bool c)) => (if c = true then ρ a else ρ b).map fun a => ⟨true, a⟩
    | _ => none
  | .load t a => match ρ a with
    | some p => loadA P t p ob
    | none => none
  | .binOp op t x y _ => match ρ x, ρ y with
    | some a, some b => match binA P op t a b with
      | some r => some r
      | none => match nilEqA P op t a y with
        | some r => some r
        | none => match aggEqA P op t a b with
          | some r => some r
          | none => openA P o ρ
    | _, _ => none
  | .unOp op _ x => match ρ x with
    | some a => unA op a
    | none => none
  | .convert s d x => match ρ x with
    | some a => if (P.underlying s).isSome = true then match convA P d a with
      | some r => some r
      | none => openA P o ρ else none
    | none => none
  | .fieldAddr s x f => match ρ x with
    | some p => fieldAddrA P s f p
    | none => none
  | .field s x f => match ρ x with
    | some p => fieldA P s p f
    | none => none
  | .indexAddr t x i => match ρ x, ρ i with
    | some a, some b => indexAddrA P t a b ob
    | _, _ => none
  | .index t x i => match ρ x, ρ i with
    | some a, some b => indexA P t a b
    | _, _ => none
  | .slice t x lo hi none => match ρ x, lo.map ρ, hi.map ρ with
    | some _, some none, _ => none
    | some _, _, some none => none
    | some a, l, h => sliceA P t a (l.bind id) (h.bind id) ob
    | none, _, _ => none
  | .extract x i => match ρ x with
    | some (.tup vs) => (vs[i]?).map fun a => ⟨true, a⟩
    | _ => none
  | .build t parts => buildA P t (partsA ρ parts.toList)
  | .makeFunc (.func f) first caps => if first.size = 0 then (capsA ρ caps.toList).map fun cs => ⟨true, .clo f cs⟩ else none
  | .nilCheck x => match ρ x with
    | some (.ptr L i o) => some ⟨true, .ptr L i o⟩
    | some (.iptr l xs i o) => some ⟨true, .iptr l xs i o⟩
    | _ => none
  | .call { callee := .builtin .len, args := xs, argTypes := ts } => match xs.toList, ts.toList with
    | [x], [t] => match ρ x with
      | some a => lenA P t a
      | none => none
    | _, _ => none
  | .call { callee := .builtin .unsafeSliceData, args := xs, .. } => match xs.toList with
    | [x] => match ρ x with
      | some (.ref L lo n) => dataA L lo n ob
      | _ => openA P o ρ
    | _ => none
  | .call { callee := .builtin .unsafeString, .. } => openA P o ρ
  | .call { callee := .builtin .min, .. } => openA P o ρ
  | .call { callee := .builtin .max, .. } => openA P o ρ
  | .makeInterface _ _ => openA P o ρ
  | .typeAssert _ _ _ _ => openA P o ρ
  | _ => none

theorem RO_of {F loc} {ρ : Operand → Option AV} {ρv : Operand → Value} (hρ : ∀ x a, ρ x = some a → RV F loc a (ρv x)) (lo : Option Operand) (h : lo.map ρ ≠ some none) : RO F loc ((lo.map ρ).bind id) (lo.map ρv) := by
  cases lo with
  | none => exact .none
  | some x =>
    cases hx : ρ x with
    | none => simp [hx] at h
    | some a => simp [hx]; exact .some (hρ x a hx)

theorem aval_sound {P : Program} {C F μ} {ob : Objs} {w : World} (hw : SW C F μ ob w) {ρ : Operand → Option AV} {ρv : Operand → Value} (hρ : ∀ x a, ρ x = some a → RV F (locOf ob μ) a (ρv x)) (hcst : ∀ v, ρv (.const v) = v) {o : Oper} {r : Sv}
    (h : aval P o ρ ob = some r) (hn : r.need) : ∃ z, (execOp ρv o).run P w = .ok (.value z) w ∧ RV F (locOf ob μ) r.val z := by
  unfold aval at h
  split at h
  · rename_i x ho
    cases hx : ρ x with
    | none => simp [hx] at h
    | some a => simp [hx] at h; subst h; exact ⟨ρv x, by simp [execOp, ho], hρ x a hx⟩
  · rename_i x ho
    cases hx : ρ x with
    | none => simp [hx] at h
    | some a => simp [hx] at h; subst h; exact ⟨ρv x, by simp [execOp, ho], hρ x a hx⟩
  · rename_i c a b ho
    split at h
    · rename_i cb hc
      have hcv := hρ c _ hc
      generalize hcc : ρv c = vc at hcv
      cases hcv
      cases cb with
      | true =>
        cases hx : ρ a with
        | none => simp [hx] at h
        | some a' => simp [hx] at h; subst h; exact ⟨ρv a, by simp [execOp, ho, hcc, asBool], hρ a a' hx⟩
      | false =>
        cases hx : ρ b with
        | none => simp [hx] at h
        | some a' => simp [hx] at h; subst h; exact ⟨ρv b, by simp [execOp, ho, hcc, asBool], hρ b a' hx⟩
    · cases h
  · rename_i t a ho
    split at h
    · rename_i p hp
      obtain ⟨z, h1, h2⟩ := loadA_sound hw h (hρ a p hp)
      exact ⟨z, by simp [execOp, ho, h1], h2⟩
    · cases h
  · rename_i op t x y yt ho
    split at h
    · rename_i a b ha hb
      split at h
      · rename_i r' hr
        obtain rfl := Option.some.inj h
        obtain ⟨z, h1, h2⟩ := binA_sound (P := P) hr hn (hρ x a ha) (hρ y b hb) w x y
        refine ⟨z, ?_, h2⟩
        simp only [execOp, ho, Sem.run_bind, Result.andThen_ok] at h1 ⊢
        rw [h1]; rfl
      · split at h
        · rename_i r' hr
          obtain rfl := Option.some.inj h
          obtain ⟨z, h1, h2⟩ := nilEqA_sound (P := P) (x := x) (v := ρv y) hr (hρ x a ha) (fun z hz => by rw [hz]; exact hcst z) w
          refine ⟨z, ?_, h2⟩
          simp only [execOp, ho, Sem.run_bind, Result.andThen_ok] at h1 ⊢
          rw [h1]; rfl
        · split at h
          · rename_i r' hr
            obtain rfl := Option.some.inj h
            obtain ⟨z, hz, hs, hrun⟩ := aggEqA_sound (P := P) (x := x) (y := y) hr (hρ x a ha) (hρ y b hb)
            refine ⟨z, ?_, by rw [hz]; exact .sc hs⟩
            have h1 := hrun w
            simp only [execOp, ho, Sem.run_bind, Result.andThen_ok] at h1 ⊢
            rw [h1]; rfl
          · exact openA_sound hρ h w
    · cases h
  · rename_i op t x ho
    split at h
    · rename_i a ha
      obtain ⟨z, h1, h2⟩ := unA_sound (P := P) h (hρ x a ha) w
      exact ⟨z, by simp [execOp, ho, h1], h2⟩
    · cases h
  · rename_i s d x ho
    split at h
    · rename_i a ha
      split at h
      · rename_i hs
        split at h
        · rename_i r' hr
          obtain rfl := Option.some.inj h
          obtain ⟨z, h1, h2⟩ := convA_sound (P := P) hr hs (hρ x a ha) w
          exact ⟨z, by simp [execOp, ho, h1], h2⟩
        · exact openA_sound hρ h w
      · cases h
    · cases h
  · rename_i s x f ho
    split at h
    · rename_i p hp
      obtain ⟨z, h1, h2⟩ := fieldAddrA_sound h hn (hρ x p hp) w
      exact ⟨z, by simp [execOp, ho, h1], h2⟩
    · cases h
  · rename_i s x f ho
    split at h
    · rename_i p hp
      obtain ⟨z, h1, h2⟩ := fieldA_sound h (hρ x p hp) w
      exact ⟨z, by simp [execOp, ho, h1], h2⟩
    · cases h
  · rename_i t x i ho
    split at h
    · rename_i a b ha hb
      obtain ⟨z, h1, h2⟩ := indexAddrA_sound h hn (hρ x a ha) (hρ i b hb) w
      exact ⟨z, by simp [execOp, ho, h1], h2⟩
    · cases h
  · rename_i t x i ho
    split at h
    · rename_i a b ha hb
      obtain ⟨z, h1, h2⟩ := indexA_sound h hn (hρ x a ha) (hρ i b hb) w
      exact ⟨z, by simp [execOp, ho, h1], h2⟩
    · cases h
  · rename_i t x lo hi ho
    split at h
    · cases h
    · cases h
    · rename_i a hx hn1 hn2
      obtain ⟨z, h1, h2⟩ := sliceA_sound h hn (hρ x a hx) (RO_of hρ lo (by first | exact fun e => hn1 e | (intro e; simp_all))) (RO_of hρ hi (by first | exact fun e => hn2 e | (intro e; simp_all))) w
      exact ⟨z, by simp [execOp, ho, h1], h2⟩
    · cases h
  · rename_i x i ho
    split at h
    · rename_i vs hx
      cases hi : vs[i]? with
      | none => simp [hi] at h
      | some a =>
        simp [hi] at h
        subst h
        have hxv := hρ x _ hx
        generalize hvx : ρv x = vx at hxv
        cases hxv with
        | @tup _ _ _ us h1 h2 =>
          have hlt : i < us.size := by rw [← h1]; exact (List.getElem?_eq_some_iff.1 hi).1
          exact ⟨us[i], by simp [execOp, ho, hvx, Instr.extract, hlt], h2 i a us[i] hi (by simp [hlt])⟩
    · cases h
  · rename_i t parts ho
    obtain ⟨z, h1, h2⟩ := buildA_sound hρ h w
    exact ⟨z, by simp [execOp, ho, h1], h2⟩
  · rename_i f first caps ho
    split at h
    · rename_i hf
      cases hc : capsA ρ caps.toList with
      | none => simp [hc] at h
      | some cs =>
        simp [hc] at h
        subst h
        obtain ⟨m1, m2⟩ := mapM_some hc
        have hf0 : first = #[] := by simpa using hf
        subst hf0
        refine ⟨.func (.func f) #[] (caps.map ρv), by simp [execOp, ho, Instr.makeFunc], .clo (by simp [m1]) fun i a v ha hv => ?_⟩
        simp only [Array.getElem?_map] at hv
        cases hci : caps[i]? with
        | none => simp [hci] at hv
        | some x =>
          simp [hci] at hv
          subst hv
          exact hρ x a (m2 i x a (by simpa using hci) ha)
    · cases h
  · rename_i x ho
    split at h
    · rename_i L i o hx
      obtain rfl := Option.some.inj h
      have hxv := hρ x _ hx
      generalize hvx : ρv x = vx at hxv
      have hxv' := hxv
      cases hxv' with
      | ptr g1 g2 => exact ⟨_, by simp [execOp, ho, hvx], hxv⟩
    · rename_i l xs i o hx
      obtain rfl := Option.some.inj h
      have hxv := hρ x _ hx
      generalize hvx : ρv x = vx at hxv
      have hxv' := hxv
      cases hxv' with
      | iptr g1 g2 g3 g4 g5 => exact ⟨_, by simp [execOp, ho, hvx], hxv⟩
    · cases h
  · rename_i xs ts ho
    split at h
    · rename_i x t hxs hts
      split at h
      · rename_i a ha
        obtain ⟨z, h1, h2⟩ := lenA_sound (P := P) (ty := o.type) h (hρ x a ha) w
        have hx : xs = #[x] := by cases xs; simp_all
        have ht : ts = #[t] := by cases ts; simp_all
        subst hx; subst ht
        refine ⟨z, ?_, h2⟩
        simp [execOp, ho, resolve, invoke, builtin, h1]
      · cases h
    · cases h
  · rename_i xs ts ho
    split at h
    · rename_i x hxs
      have hx1 : xs = #[x] := by cases xs; simp_all
      subst hx1
      split at h
      · rename_i L lo n hx
        obtain ⟨z, h1, h2⟩ := dataA_sound (P := P) h hn (hρ x _ hx) ts o.type w
        exact ⟨z, by simp [execOp, ho, resolve, invoke, builtin, h1], h2⟩
      · exact openA_sound hρ h w
    · cases h
  · exact openA_sound hρ h w
  · exact openA_sound hρ h w
  · exact openA_sound hρ h w
  · exact openA_sound hρ h w
  · exact openA_sound hρ h w
  · cases h

end Go.Ab
