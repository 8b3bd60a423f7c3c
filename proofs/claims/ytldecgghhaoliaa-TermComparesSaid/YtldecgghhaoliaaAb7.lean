/-
  Ab7: built structs; tuples; closures; all value operations together.
-/
import Derived.Test.YtldecgghhaoliaaAb6
namespace Go.Ab
open Go.RowKit
set_option linter.unusedVariables false
set_option linter.unusedSimpArgs false

/-- Cells, one by one. -/
structure CV (F : Bool → Facts) (loc : Nat → Option LI) (cs : List AV) (vs : Array Value) : Prop where
  len : cs.length = vs.size
  rv : ∀ (i : Nat) (a : AV) (v : Value), cs[i]? = some a → vs[i]? = some v → RV F loc a v
  one : ∀ (i : Nat) (v : Value), vs[i]? = some v → one v = true

/-- A value that a variable can hold. -/
def AV.plain : AV → Bool
  | .tup _ => false
  | .dead => false
  | .own _ _ => false
  | _ => true

theorem RV.cv {F loc} {a : AV} {v : Value} (h : RV F loc a v) (hp : a.plain = true) : CV F loc a.cells v.cells := by
  cases h with
  | agg h1 h2 h3 => exact ⟨h1, h2, h3⟩
  | tup => simp [AV.plain] at hp
  | dead => simp [AV.plain] at hp
  | @sc _ _ v hs =>
    have : v.cells = #[v] := by cases v <;> simp_all [Value.cells, scalar]
    rw [this]
    refine ⟨rfl, fun i a u ha hu => ?_, fun i u hu => ?_⟩
    · cases i with
      | zero => simp [AV.cells] at ha hu; subst ha; subst hu; exact .sc hs
      | succ i => simp [AV.cells] at ha
    · cases i with
      | zero => simp at hu; subst hu; exact one_of_scalar hs
      | succ i => simp at hu
  | _ =>
    rename_i hh
    first
    | (refine ⟨rfl, fun i a u ha hu => ?_, fun i u hu => ?_⟩
       · cases i with
         | zero => simp [AV.cells, Value.cells] at ha hu; subst ha; subst hu; first | exact .nil | (constructor <;> assumption) | (exact .refNil (by assumption))
         | succ i => simp [AV.cells] at ha
       · cases i with
         | zero => simp [Value.cells] at hu; subst hu; rfl
         | succ i => simp [Value.cells] at hu)

def splice {α : Type} (cs ds : List α) (off : Nat) : List α := cs.take off ++ ds ++ cs.drop (off + ds.length)

theorem splice_length {α : Type} {cs ds : List α} {off : Nat} (h : off + ds.length ≤ cs.length) : (splice cs ds off).length = cs.length := by
  simp [splice]; omega
theorem splice_get {α : Type} {cs ds : List α} {off : Nat} (h : off + ds.length ≤ cs.length) (i : Nat) : (splice cs ds off)[i]? = if off ≤ i ∧ i < off + ds.length then ds[i - off]? else cs[i]? := by
  unfold splice
  have ht : (cs.take off).length = off := by simp; omega
  by_cases h1 : i < off
  · rw [List.append_assoc, List.getElem?_append_left (by omega), if_neg (by omega), List.getElem?_take, if_pos h1]
  · by_cases h2 : i < off + ds.length
    · rw [if_pos ⟨by omega, h2⟩, List.getElem?_append_left (by simp [ht]; omega), List.getElem?_append_right (by omega), ht]
    · rw [if_neg (by omega), List.getElem?_append_right (by simp [ht]; omega), List.getElem?_drop]
      congr 1
      simp [ht]; omega

theorem fold_get (off : Nat) : ∀ (us : List Value) (k : Nat) (cs : Array Value) (i : Nat), off + k + us.length ≤ cs.size →
    ((us.zipIdx k).foldl (fun cs x => cs.setIfInBounds (off + x.2) x.1) cs)[i]? = if off + k ≤ i ∧ i < off + k + us.length then us[i - (off + k)]? else cs[i]?
  | [], k, cs, i, _ => by simp; intro h; omega
  | u :: us, k, cs, i, h => by
    simp only [List.zipIdx_cons, List.foldl_cons]
    simp only [List.length_cons] at h
    rw [fold_get off us (k + 1) _ i (by simp; omega)]
    by_cases h1 : i = off + k
    · subst h1
      rw [if_neg (by omega), if_pos ⟨by omega, by simp⟩, Nat.sub_self, Array.getElem?_setIfInBounds, if_pos rfl, if_pos (by omega)]
      rfl
    · by_cases h2 : off + (k + 1) ≤ i ∧ i < off + (k + 1) + us.length
      · rw [if_pos h2, if_pos ⟨by omega, by simp; omega⟩]
        obtain ⟨d, hd⟩ : ∃ d, i - (off + k) = d + 1 := ⟨i - (off + k) - 1, by omega⟩
        rw [hd, List.getElem?_cons_succ]
        congr 1; omega
      · rw [if_neg h2, if_neg (by simp; omega)]
        simp [Array.getElem?_setIfInBounds]
        intro he; omega

theorem fold_size (off : Nat) : ∀ (l : List (Value × Nat)) (cs : Array Value), (l.foldl (fun cs x => cs.setIfInBounds (off + x.2) x.1) cs).size = cs.size
  | [], _ => rfl
  | x :: l, cs => by rw [List.foldl_cons, fold_size off l]; simp

theorem CV.splice {F loc} {cs ds : List AV} {vs us : Array Value} (h : CV F loc cs vs) (k : CV F loc ds us) {off : Nat} (hle : off + ds.length ≤ cs.length) :
    CV F loc (Ab.splice cs ds off) (us.zipIdx.foldl (fun cs x => cs.setIfInBounds (off + x.2) x.1) vs) := by
  have hu : us.zipIdx.foldl (fun cs x => cs.setIfInBounds (off + x.2) x.1) vs = ((us.toList.zipIdx 0).foldl (fun cs x => cs.setIfInBounds (off + x.2) x.1) vs) := by
    rw [← Array.foldl_toList, Array.toList_zipIdx]
  have hg := fun i => fold_get off us.toList 0 vs i (by have := k.len; have := h.len; simp; omega)
  rw [hu]
  have hsz := fold_size off (us.toList.zipIdx 0) vs
  refine ⟨by rw [splice_length hle, hsz, h.len], fun i a v ha hv => ?_, fun i v hv => ?_⟩
  · rw [splice_get hle] at ha
    rw [hg] at hv
    simp only [Nat.add_zero, Array.length_toList, ← k.len] at hv
    split at ha
    · rename_i hc
      rw [if_pos hc] at hv
      exact k.rv _ a v ha (by simpa using hv)
    · rename_i hc
      rw [if_neg hc] at hv
      exact h.rv i a v ha hv
  · rw [hg] at hv
    split at hv
    · exact k.one _ v (by simpa using hv)
    · exact h.one i v hv

/-- The parts of a built aggregate, laid one behind the other into the zero value's cells. -/
def fillA (place : Nat → Option (Nat × Nat)) : List AV → List (Nat × AV) → Option (List AV)
  | cs, [] => some cs
  | cs, (i, a) :: r => match place i with
    | some (off, size) => if a.plain = true ∧ a.cells.length = size ∧ off + size ≤ cs.length then fillA place (splice cs a.cells off) r else none
    | none => none

theorem fillA_sound {F loc} {place : Nat → Option (Nat × Nat)} : ∀ {cs : List AV} {ps : List (Nat × AV)} {vs : Array Value} {qs : List (Nat × Value)} {r : List AV}, fillA place cs ps = some r → CV F loc cs vs →
    ps.length = qs.length → (∀ (k : Nat) (p : Nat × AV) (q : Nat × Value), ps[k]? = some p → qs[k]? = some q → p.1 = q.1 ∧ RV F loc p.2 q.2) → ∃ us, Instr.fill place vs qs = some us ∧ CV F loc r us
  | cs, [], vs, qs, r, h, hc, hl, hq => by
    simp [fillA] at h; subst h
    cases qs with
    | nil => exact ⟨vs, rfl, hc⟩
    | cons q qs => simp at hl
  | cs, (i, a) :: ps, vs, qs, r, h, hc, hl, hq => by
    cases qs with
    | nil => simp at hl
    | cons q qs =>
      obtain ⟨i', v⟩ := q
      obtain ⟨he, hv⟩ := hq 0 (i, a) (i', v) rfl rfl
      simp only at he hv
      subst he
      simp only [fillA] at h
      split at h
      · rename_i off size hp
        split at h
        · rename_i hcond
          obtain ⟨h1, h2, h3⟩ := hcond
          have hcv := hv.cv h1
          have hcs := hc.splice hcv (off := off) (by omega)
          obtain ⟨us, g1, g2⟩ := fillA_sound (qs := qs) h hcs (by simpa using hl) (fun k p q hp hq' => hq (k + 1) p q (by simpa using hp) (by simpa using hq'))
          refine ⟨us, ?_, g2⟩
          simp only [Instr.fill, hp]
          have hsz : v.cells.size = size := by rw [← hcv.len]; exact h2
          rw [if_neg (by simp [hsz]; have := hc.len; omega)]
          exact g1
        · cases h
      · cases h

/-- Of a struct's or an array's type: the cells of its zero value; offset and size of each part. -/
def tyB (P : Program) (t : TypeId) : Option (List AV × List (Nat × Nat)) :=
  match P.info? t, P.underlying t with
  | some it, some (.struct fields) => match it.zero, fields.toList.mapM (fun f => (P.info? f.type).map fun i => (f.offset, i.size)) with
    | some z, some pl => (z.cells.toList.mapM cst1).map fun cs => (cs, pl)
    | _, _ => none
  | some it, some (.array n e) => match it.zero, P.info? e with
    | some z, some ie => (z.cells.toList.mapM cst1).map fun cs => (cs, (List.range n).map fun i => (i * ie.size, ie.size))
    | _, _ => none
  | _, _ => none

theorem fill_congr {f g : Nat → Option (Nat × Nat)} (h : ∀ i p, f i = some p → g i = some p) : ∀ (cs : Array Value) (l : List (Nat × Value)) (r : Array Value), Instr.fill f cs l = some r → Instr.fill g cs l = some r
  | _, [], _, e => e
  | cs, (i, v) :: l, r, e => by
    simp only [Instr.fill] at e ⊢
    cases hf : f i with
    | none => simp [hf] at e
    | some p =>
      rw [hf] at e
      rw [h i p hf]
      obtain ⟨off, size⟩ := p
      simp only at e ⊢
      split at e
      · cases e
      · rename_i hc
        rw [if_neg hc]
        exact fill_congr h _ l r e

theorem cst1_cv {F loc} {vs : List Value} {cs : List AV} (h : vs.mapM cst1 = some cs) : CV F loc cs vs.toArray := by
  obtain ⟨h1, h2⟩ := mapM_some h
  refine ⟨by simpa using h1, fun i a v ha hv => (RV_cst1 (h2 i v a (by simpa using hv) ha)).1, fun i v hv => ?_⟩
  have hlt : i < cs.length := by rw [h1]; have := (Array.getElem?_eq_some_iff.1 hv).1; simpa using this
  exact (RV_cst1 (F := F) (loc := loc) (h2 i v cs[i] (by simpa using hv) (by simp [hlt]))).2

theorem tyB_built {P : Program} {F loc} {t : TypeId} {z : List AV} {pl : List (Nat × Nat)} (h : tyB P t = some (z, pl)) {ps : List (Nat × AV)} {qs : List (Nat × Value)} {r : List AV} (hf : fillA (pl[·]?) z ps = some r)
    (hl : ps.length = qs.length) (hq : ∀ (k : Nat) (p : Nat × AV) (q : Nat × Value), ps[k]? = some p → qs[k]? = some q → p.1 = q.1 ∧ RV F loc p.2 q.2) : ∃ us, P.built t qs = some us ∧ CV F loc r us := by
  unfold tyB at h
  split at h
  · rename_i it fields hi hu
    split at h
    · rename_i zv pl' hz hp
      cases hm : zv.cells.toList.mapM cst1 with
      | none => simp [hm] at h
      | some cs =>
        simp [hm] at h
        obtain ⟨rfl, rfl⟩ := h
        have hc := cst1_cv (F := F) (loc := loc) hm
        rw [Array.toArray_toList] at hc
        obtain ⟨us, g1, g2⟩ := fillA_sound hf hc hl hq
        refine ⟨us, ?_, g2⟩
        simp only [Program.built, hi, hu, hz, hp]
        exact fill_congr (fun i p hp => by simpa using hp) _ _ _ g1
    · cases h
  · rename_i it n e hi hu
    split at h
    · rename_i zv ie hz hp
      cases hm : zv.cells.toList.mapM cst1 with
      | none => simp [hm] at h
      | some cs =>
        simp [hm] at h
        obtain ⟨rfl, rfl⟩ := h
        have hc := cst1_cv (F := F) (loc := loc) hm
        rw [Array.toArray_toList] at hc
        obtain ⟨us, g1, g2⟩ := fillA_sound hf hc hl hq
        refine ⟨us, ?_, g2⟩
        simp only [Program.built, hi, hu, hz, hp]
        exact fill_congr (fun i p hp => by obtain ⟨_, rfl⟩ := range_map hp; rfl) _ _ _ g1
    · cases h
  · cases h

def partsA (ρ : Operand → Option AV) (parts : List (Nat × Operand)) : Option (List (Nat × AV)) := parts.mapM fun p => (ρ p.2).map fun a => (p.1, a)

def buildA (P : Program) (t : TypeId) (ps : Option (List (Nat × AV))) : Option Sv :=
  match tyB P t, ps with
  | some (z, pl), some ps => (fillA (pl[·]?) z ps).map fun cs => ⟨true, .agg cs⟩
  | _, _ => none

theorem buildA_sound {P : Program} {F loc} {t : TypeId} {ρ : Operand → Option AV} {ρv : Operand → Value} (hρ : ∀ x a, ρ x = some a → RV F loc a (ρv x)) {parts : Array (Nat × Operand)} {r : Sv}
    (h : buildA P t (partsA ρ parts.toList) = some r) (w : World) : ∃ z, (Instr.build t (parts.map fun (i, x) => (i, ρv x))).run P w = .ok z w ∧ RV F loc r.val z := by
  unfold buildA at h
  split at h
  · rename_i z pl ps ht hp
    cases hf : fillA (pl[·]?) z ps with
    | none => simp [hf] at h
    | some cs =>
      simp [hf] at h
      subst h
      obtain ⟨m1, m2⟩ := mapM_some hp
      obtain ⟨us, g1, g2⟩ := tyB_built (P := P) (F := F) (loc := loc) ht (qs := (parts.map fun (i, x) => (i, ρv x)).toList) hf (by simp [m1]) (fun k p q hk hq => by
        simp only [Array.toList_map, List.getElem?_map] at hq
        cases hpk : parts.toList[k]? with
        | none => simp [hpk] at hq
        | some y =>
          simp [hpk] at hq
          subst hq
          have := m2 k y p hpk hk
          cases hy : ρ y.2 with
          | none => simp [hy] at this
          | some a =>
            simp [hy] at this
            subst this
            exact ⟨rfl, hρ _ _ hy⟩)
      exact ⟨.agg us, run_build w t _ us g1, .agg g2.len g2.rv g2.one⟩
  · cases h

def unA (op : UnOp) (x : AV) : Option Sv :=
  match op, x with
  | .not, .sc (.bool b) => some ⟨true, bl (!b)⟩
  | .neg, .sc (.int k n) => some ⟨true, nt k (k.wrap (-n))⟩
  | _, _ => none

theorem unA_sound {P : Program} {F loc} {op : UnOp} {x : AV} {v : Value} {r : Sv} (h : unA op x = some r) (hx : RV F loc x v) (w : World) : ∃ z, (Op.unary op v).run P w = .ok z w ∧ RV F loc r.val z := by
  unfold unA at h
  split at h
  · obtain rfl := Option.some.inj h; cases hx
    rename_i b _
    exact ⟨.bool (!b), by simp [Op.unary], .sc rfl⟩
  · obtain rfl := Option.some.inj h; cases hx
    rename_i k n _
    exact ⟨.int k (k.wrap (-n)), by simp [Op.unary, Op.intArith], .sc rfl⟩
  · cases h

def convA (P : Program) (d : TypeId) (x : AV) : Option Sv :=
  match x with
  | .sc (.int _ n) => match tyK P d with
    | some k => some ⟨true, nt k (k.wrap n)⟩
    | none => none
  | _ => none

theorem convA_sound {P : Program} {F loc} {s d : TypeId} {x : AV} {v : Value} {r : Sv} (h : convA P d x = some r) (hs : (P.underlying s).isSome = true) (hx : RV F loc x v) (w : World) : ∃ z, (convert s d v).run P w = .ok z w ∧ RV F loc r.val z := by
  unfold convA at h
  split at h
  · rename_i k n
    cases hx
    split at h
    · rename_i k' hk
      obtain rfl := Option.some.inj h
      unfold tyK at hk
      split at hk
      · rename_i k'' hu
        obtain rfl := Option.some.inj hk
        obtain ⟨ds, hds⟩ := Option.isSome_iff_exists.1 hs
        refine ⟨.int k'' (k''.wrap n), ?_, .sc rfl⟩
        simp only [convert, Sem.run_bind, run_underlying_ok hds, run_underlying_ok hu, Result.andThen_ok]
        rfl
      · cases hk
    · cases h
  · cases h

end Go.Ab
