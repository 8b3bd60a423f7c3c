/-
  Ab4: loads, addresses, parts, slices: the value operations that look at rows and objects.
-/
import Derived.Test.YtldecgghhaoliaaAb3
namespace Go.Ab
open Go.RowKit
set_option linter.unusedVariables false
set_option linter.unusedSimpArgs false

/-- Of a type: is it a struct or an array; how many cells it fills. -/
def tyI (P : Program) (t : TypeId) : Option (Bool × Nat) :=
  match P.underlying t, P.info? t with
  | some _, some i => some (tyAgg P t, i.size)
  | _, _ => none
/-- Of a slice's type: its element's type, cells, bytes. -/
def tyEl (P : Program) (t : TypeId) : Option (TypeId × Nat × Nat) :=
  match P.underlying t with
  | some (.slice e) => (P.info? e).map fun i => (e, i.size, i.bytes)
  | _ => none
/-- Of an array's type: its length, its element's type and cells. -/
def tyAr (P : Program) (t : TypeId) : Option (Nat × TypeId × Nat) :=
  match P.underlying t with
  | some (.array n e) => (P.info? e).map fun i => (n, e, i.size)
  | _ => none
/-- Of a struct's type: the offset and the type of field f. -/
def tyFd (P : Program) (t : TypeId) (f : Nat) : Option (Nat × TypeId × Nat) :=
  match P.underlying t with
  | some (.struct fs) => match fs[f]? with
    | some x => (P.info? x.type).map fun i => (x.offset, x.type, i.size)
    | none => none
  | _ => none
theorem tyFd_run {P : Program} {t : TypeId} {f off ft n : Nat} (h : tyFd P t f = some (off, ft, n)) (w : World) : ∃ fs x, (underlying t).run P w = .ok (.struct fs) w ∧ fs[f]? = some x ∧ x.offset = off ∧ x.type = ft ∧ (sizeOf ft).run P w = .ok n w := by
  unfold tyFd at h
  split at h
  · rename_i fs hu
    split at h
    · rename_i x hx
      cases hi : P.info? x.type with
      | none => simp [hi] at h
      | some i =>
        simp [hi] at h
        obtain ⟨rfl, rfl, rfl⟩ := h
        exact ⟨fs, x, run_underlying_ok hu w, hx, rfl, rfl, by simp [sizeOf, typeInfo, hi]⟩
    · cases h
  · cases h
def tyK (P : Program) (t : TypeId) : Option IntKind := match P.underlying t with | some (.int k) => some k | _ => none
def tyStr (P : Program) (t : TypeId) : Bool := match P.underlying t with | some .string => true | _ => false

theorem tyI_run {P : Program} {t : TypeId} {a : Bool} {n : Nat} (h : tyI P t = some (a, n)) (w : World) : (isAgg t).run P w = .ok a w ∧ (sizeOf t).run P w = .ok n w := by
  unfold tyI at h
  split at h
  · rename_i d i hd hi
    simp at h
    obtain ⟨rfl, rfl⟩ := h
    exact ⟨run_isAgg_ok hd w, by simp [sizeOf, typeInfo, hi]⟩
  · cases h
theorem tyEl_run {P : Program} {t e : TypeId} {n m : Nat} (h : tyEl P t = some (e, n, m)) (w : World) : (underlying t).run P w = .ok (.slice e) w ∧ (sizeOf e).run P w = .ok n w ∧ ∃ i, P.info? e = some i ∧ i.size = n ∧ i.bytes = m := by
  unfold tyEl at h
  split at h
  · rename_i e' hu
    cases hi : P.info? e' with
    | none => simp [hi] at h
    | some i =>
      simp [hi] at h
      obtain ⟨rfl, rfl, rfl⟩ := h
      exact ⟨run_underlying_ok hu w, by simp [sizeOf, typeInfo, hi], i, hi, rfl, rfl⟩
  · cases h
theorem tyAr_run {P : Program} {t e : TypeId} {n m : Nat} (h : tyAr P t = some (n, e, m)) (w : World) : (underlying t).run P w = .ok (.array n e) w ∧ (sizeOf e).run P w = .ok m w := by
  unfold tyAr at h
  split at h
  · rename_i n' e' hu
    cases hi : P.info? e' with
    | none => simp [hi] at h
    | some i =>
      simp [hi] at h
      obtain ⟨rfl, rfl, rfl⟩ := h
      exact ⟨run_underlying_ok hu w, by simp [sizeOf, typeInfo, hi]⟩
  · cases h

def AV.isAgg : AV → Bool
  | .agg _ => true
  | _ => false

/-- What a load of size cells (an aggregate or one cell) at cell o of the element y gives. -/
def rowE (y : AV) (ag : Bool) (size o : Nat) : Option AV :=
  if ag = true then
    if o + size ≤ y.cells.length then some (if o = 0 ∧ size = y.cells.length ∧ y.isAgg = true then y else .agg ((y.cells.drop o).take size)) else none
  else y.cells[o]?

theorem RV_cells {F loc} {a : AV} {v : Value} (h : RV F loc a v) (ho : one v = true) (hd : a.isAgg = false) : a.cells = [a] := by
  cases a <;> simp_all [AV.cells, AV.isAgg]

theorem range_map {α : Type} {f : Nat → α} {n i : Nat} {v : α} (h : ((List.range n).map f)[i]? = some v) : i < n ∧ f i = v := by
  rw [List.getElem?_map] at h
  by_cases hi : i < n
  · rw [List.getElem?_range hi] at h; exact ⟨hi, by simpa using h⟩
  · rw [List.getElem?_eq_none (by simpa using hi)] at h; simp at h

/-- A load out of cells that are known one by one. -/
theorem load_cells {P : Program} {F loc} {y : AV} {w : World} {b p : Nat} (hc : ∀ (j : Nat) (a : AV), y.cells[j]? = some a → ∃ v, w.cell? ⟨b, p + j, none⟩ = some v ∧ one v = true ∧ RV F loc a v)
    {t : TypeId} {ag : Bool} {size : Nat} (ht : tyI P t = some (ag, size)) {o : Nat} {r : AV} (hr : rowE y ag size o = some r) :
    ∃ v, (Instr.loadAt t (.pointer (some ⟨b, p + o, none⟩))).run P w = .ok v w ∧ RV F loc r v := by
  obtain ⟨h1, h2⟩ := tyI_run ht w
  have hadd : ∀ j, (⟨b, p + o, none⟩ : Addr).add j = ⟨b, p + o + j, none⟩ := fun j => by unfold Addr.add; split <;> simp_all
  cases ag with
  | false =>
    simp only [rowE, Bool.false_eq_true, if_false] at hr
    obtain ⟨v, g1, g2, g3⟩ := hc o r hr
    refine ⟨v, ?_, g3⟩
    simp [Instr.loadAt, Instr.sureAddr, loadVar, h1, g1]
  | true =>
    simp only [rowE, if_true] at hr
    split at hr
    · rename_i hle
      have hex : ∀ j, j < size → ∃ v, w.cell? ⟨b, p + o + j, none⟩ = some v ∧ one v = true ∧ ∀ a, y.cells[o + j]? = some a → RV F loc a v := by
        intro j hj
        have hlt : o + j < y.cells.length := by omega
        obtain ⟨v, g1, g2, g3⟩ := hc (o + j) y.cells[o + j] (by simp [hlt])
        exact ⟨v, by rw [Nat.add_assoc]; exact g1, g2, fun a ha => by simp [hlt] at ha; subst ha; exact g3⟩
      obtain ⟨f, hf⟩ : ∃ f : Nat → Value, ∀ j, j < size → w.cell? ⟨b, p + o + j, none⟩ = some (f j) ∧ one (f j) = true ∧ ∀ a, y.cells[o + j]? = some a → RV F loc a (f j) :=
        ⟨fun j => if h : j < size then (hex j h).choose else .nilIface, fun j hj => by simp only [hj, dif_pos]; exact (hex j hj).choose_spec⟩
      have hl : (loadCells ⟨b, p + o, none⟩ size).run P w = .ok ((List.range size).map f).toArray w := by
        have := run_loadCells_list (P := P) w ⟨b, p + o, none⟩ ((List.range size).map f) (fun j v hv => by
          rw [hadd]
          obtain ⟨hj, rfl⟩ := range_map hv
          exact (hf j hj).1)
        simpa using this
      have hres : RV F loc (.agg ((y.cells.drop o).take size)) (.agg ((List.range size).map f).toArray) := by
        refine .agg (by simp; omega) (fun i a v ha hv => ?_) (fun i v hv => ?_)
        · obtain ⟨hi, rfl⟩ := range_map (by simpa using hv)
          rw [List.getElem?_take, if_pos hi, List.getElem?_drop] at ha
          exact (hf i hi).2.2 a ha
        · obtain ⟨hi, rfl⟩ := range_map (by simpa using hv)
          exact (hf i hi).2.1
      refine ⟨.agg ((List.range size).map f).toArray, ?_, ?_⟩
      · simp [Instr.loadAt, Instr.sureAddr, loadVar, h1, h2, hl]
      · have hr' := Option.some.inj hr
        subst hr'
        split
        · rename_i hcond
          obtain ⟨rfl, hs, hag⟩ := hcond
          cases y with
          | agg cs =>
            simp only [AV.cells] at hs
            have : (cs.drop 0).take size = cs := by simp [hs]
            simp only [AV.cells] at hres
            rw [this] at hres
            exact hres
          | _ => simp [AV.isAgg] at hag
        · exact hres
    · cases hr

/-- Element i of what a pointer points at. -/
def ptE (ob : Objs) : AV → Option (AV × Nat)
  | .iptr _ xs i o => (xs[i]?).map fun y => (y, o)
  | .ptr L i o => match lk ob L with
    | some x => (x.xs[i]?).map fun y => (y, o)
    | none => none
  | _ => none

def loadA (P : Program) (t : TypeId) (p : AV) (ob : Objs) : Option Sv :=
  match tyI P t with
  | some (ag, size) => match ptE ob p with
    | some (y, o) => (rowE y ag size o).map fun a => ⟨true, a⟩
    | none => none
  | none => none

theorem RV.under {F : Bool → Facts} {loc : Nat → Option LI} {a : AV} {v : Value} (h : RV (sh F) noloc a v) : RV (oF true F) (oL true loc) a v := h

theorem loadA_sound {P : Program} {C F μ} {ob : Objs} {w : World} (hw : SW C F μ ob w) {t : TypeId} {p : AV} {v : Value} {r : Sv} (h : loadA P t p ob = some r) (hp : RV F (locOf ob μ) p v) :
    ∃ z, (Instr.loadAt t v).run P w = .ok z w ∧ RV F (locOf ob μ) r.val z := by
  unfold loadA at h
  split at h
  · rename_i ag size ht
    split at h
    · rename_i y o hpe
      cases hr : rowE y ag size o with
      | none => simp [hr] at h
      | some a =>
        simp [hr] at h
        subst h
        cases hp with
        | @iptr _ _ lent xs b o0 es i k f g1 g2 g3 g4 g5 =>
          simp only [ptE] at hpe
          cases hx : xs[i]? with
          | none => simp [hx] at hpe
          | some y' =>
            simp [hx] at hpe
            obtain ⟨rfl, rfl⟩ := hpe
            refine load_cells (y := y') (p := o0 + i * es) (fun j a ha => ?_) ht hr
            exact ⟨f i j, hw.facts _ _ _ _ (g3 i y' j a hx ha), g5 i y' j a hx ha, (g4 i y' j a hx ha).up hw.sub⟩
        | @ptr _ _ L i k b cap es len g1 g2 =>
          simp only [ptE] at hpe
          cases hg : lk ob L with
          | none => simp [hg] at hpe
          | some x =>
            simp [hg] at hpe
            obtain ⟨y', hx, rfl, rfl⟩ := hpe
            have hloc : locOf ob μ L = some (locO x (μ L)) := by simp [locOf, hg]
            rw [hloc] at g1
            obtain ⟨hm, rfl, rfl, hk1⟩ := locO_std (Option.some.inj g1)
            have ho := hw.obj L x hg
            rw [hm] at ho
            refine load_cells (y := y') (p := i * x.es) (fun j a ha => ?_) ht hr
            obtain ⟨v, q1, q2, q3⟩ := ObjAt.cell ho hk1 hx ha
            refine ⟨v, q1, q2, ?_⟩
            cases harr : x.arr with
            | false => rw [harr] at q3; exact q3
            | true => rw [harr] at q3; exact RV.up q3 hw.sub
        | _ => simp [ptE] at hpe
    · cases h
  · cases h

end Go.Ab
