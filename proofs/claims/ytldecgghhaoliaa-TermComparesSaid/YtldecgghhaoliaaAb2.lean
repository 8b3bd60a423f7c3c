/-
  Ab2: the abstract state as a whole and what it says of the machine's memory; its stability.
-/
import Derived.Test.YtldecgghhaoliaaAb1
namespace Go.Ab
open Go.RowKit

def lk {α : Type} : List (Nat × α) → Nat → Option α
  | [], _ => none
  | (k, a) :: r, i => if k = i then some a else lk r i

structure AObj where
  arr : Bool
  fz : Bool
  pin : Bool
  es : Nat
  xs : List AV
  kd : Nat := 0

abbrev Objs := List (Nat × AObj)
abbrev Pl := Nat → Option (Nat × Nat)

structure ASt where
  n : Nat
  t : List (Nat × AV)
  o : Objs

structure Cx where
  w0 : World
  F0 : Bool → Facts
  o0 : Objs
  μ0 : Pl

/-- The blocks of the caller that the call may change. -/
def Cx.M (C : Cx) (b : Nat) : Prop := ∃ L x c, lk C.o0 L = some x ∧ C.μ0 L = some (b, c)

def locO (x : AObj) (p : Option (Nat × Nat)) : LI := if x.kd = 1 then ⟨p, 0, 0, true⟩ else ⟨p, x.es, x.xs.length, false⟩
theorem locO_std {x : AObj} {p q : Option (Nat × Nat)} {es len : Nat} (h : locO x p = ⟨q, es, len, false⟩) : p = q ∧ x.es = es ∧ x.xs.length = len ∧ x.kd ≠ 1 := by
  unfold locO at h
  split at h
  · simp at h
  · rename_i hk; simp at h; exact ⟨h.1, h.2.1, h.2.2, hk⟩
theorem locO_map {x : AObj} {p q : Option (Nat × Nat)} {es len : Nat} (h : locO x p = ⟨q, es, len, true⟩) : p = q ∧ x.kd = 1 := by
  unfold locO at h
  split at h
  · rename_i hk; simp at h; exact ⟨h.1, hk⟩
  · simp at h
theorem locO_mk {x : AObj} (hk : x.kd ≠ 1) (p : Option (Nat × Nat)) : locO x p = ⟨p, x.es, x.xs.length, false⟩ := if_neg hk
theorem locO_congr {x y : AObj} (h1 : x.es = y.es) (h2 : x.xs.length = y.xs.length) (h3 : x.kd = y.kd) (p : Option (Nat × Nat)) : locO x p = locO y p := by unfold locO; rw [h1, h2, h3]
def locOf (o : Objs) (μ : Pl) : Nat → Option LI := fun L => (lk o L).map fun x => locO x (μ L)

structure Fr (M : Nat → Prop) (w w' : World) : Prop where
  os : w'.os = w.os
  tape : w'.tape = w.tape
  output : w'.output = w.output
  size : w.heap.size ≤ w'.heap.size
  block : ∀ k, k < w.heap.size → ¬ M k → w'.heap[k]? = w.heap[k]?

theorem Fr.refl (M : Nat → Prop) (w : World) : Fr M w w := ⟨rfl, rfl, rfl, Nat.le_refl _, fun _ _ _ => rfl⟩
theorem Fr.trans {M M' : Nat → Prop} {a b c : World} (h : Fr M a b) (k : Fr M' b c) (hM : ∀ x, x < a.heap.size → M' x → M x) : Fr M a c :=
  ⟨k.os.trans h.os, k.tape.trans h.tape, k.output.trans h.output, Nat.le_trans h.size k.size, fun i hi hn =>
    (k.block i (Nat.lt_of_lt_of_le hi h.size) (fun hm => hn (hM i hi hm))).trans (h.block i hi hn)⟩

/-- The facts under which the parts of an object hold: an array's hold no reference. -/
def oF (arr : Bool) (F : Bool → Facts) : Bool → Facts := if arr then sh F else F
def oL (arr : Bool) (loc : Nat → Option LI) : Nat → Option LI := if arr then noloc else loc

/-- The object x lies in block b with room for cap elements. Its kind: 0: nothing is known of the block's type; t + 2: it is t; 1: a map, whose entries are pairs. -/
def StdAt (F : Bool → Facts) (loc : Nat → Option LI) (w : World) (x : AObj) (b cap : Nat) : Prop :=
  ∃ c e, w.heap[b]? = some (.cells c e (0, 0)) ∧ c.size = cap * x.es ∧ x.xs.length ≤ cap ∧ x.xs.length ≤ maxRow ∧ (∀ y ∈ x.xs, y.cells.length = x.es) ∧
    (∀ (i : Nat) (y : AV) (j : Nat) (a : AV), x.xs[i]? = some y → y.cells[j]? = some a → ∃ v, c[i * x.es + j]? = some v ∧ one v = true ∧ RV (oF x.arr F) (oL x.arr loc) a v ∧ (x.fz = true → F false b (i * x.es + j) = some v)) ∧
    (x.kd = 0 ∨ (x.kd = e + 2 ∧ (x.arr = false → cap = 1)))
def MapAt (F : Bool → Facts) (w : World) (x : AObj) (b : Nat) : Prop :=
  x.kd = 1 ∧ x.arr = true ∧ x.xs.length ≤ maxRow ∧ ∃ es clock, w.heap[b]? = some (.map es clock) ∧ es.size = x.xs.length ∧
    ∀ (i : Nat) (e : MapEntry) (y : AV), es[i]? = some e → x.xs[i]? = some y → ∃ v, y = .tup [.sc e.key, v] ∧ RV (sh F) noloc v e.val
def ObjAt (F : Bool → Facts) (loc : Nat → Option LI) (w : World) (x : AObj) (b cap : Nat) : Prop := StdAt F loc w x b cap ∨ MapAt F w x b
theorem ObjAt.std {F loc w x b cap} (h : ObjAt F loc w x b cap) (hk : x.kd ≠ 1) : StdAt F loc w x b cap := h.resolve_right fun h => hk h.1
theorem ObjAt.map {F loc w x b cap} (h : ObjAt F loc w x b cap) (hk : x.kd = 1) : MapAt F w x b := h.resolve_left fun ⟨c, e, _, _, _, _, _, _, h⟩ => by omega
theorem ObjAt.lt {F loc w x b cap} (h : ObjAt F loc w x b cap) : ∃ o, w.heap[b]? = some o := by
  rcases h with ⟨c, e, h, _⟩ | ⟨_, _, _, es, k, h, _⟩
  · exact ⟨_, h⟩
  · exact ⟨_, h⟩

def ObjR (F : Bool → Facts) (loc : Nat → Option LI) (w : World) (x : AObj) : Option (Nat × Nat) → Prop
  | none => x.xs = []
  | some (b, cap) => ObjAt F loc w x b cap

structure SW (C : Cx) (F : Bool → Facts) (μ : Pl) (o : Objs) (w : World) : Prop where
  facts : ∀ l b k v, F l b k = some v → w.cell? ⟨b, k, none⟩ = some v
  sub : Sub F
  lentc : ∀ b k v, F true b k = some v → C.F0 true b k = some v ∨ F false b k = some v
  grow : FLe C.F0 F
  newf : ∀ b k v, F false b k = some v → C.F0 false b k = some v ∨ C.w0.heap.size ≤ b ∨ C.M b
  fr : Fr C.M C.w0 w
  obj : ∀ L x, lk o L = some x → ObjR F (locOf o μ) w x (μ L)
  dist : ∀ L x L' x' b c c', lk o L = some x → lk o L' = some x' → μ L = some (b, c) → μ L' = some (b, c') → L = L'
  excl : ∀ L x b c, lk o L = some x → μ L = some (b, c) → x.fz = false → ∀ l k, F l b k = none
  mine : ∀ L x b c, lk o L = some x → μ L = some (b, c) → C.w0.heap.size ≤ b ∨ C.M b
  keep : ∀ L x x0, lk C.o0 L = some x0 → lk o L = some x → x.pin = true → μ L = C.μ0 L ∧ locO x none = locO x0 none ∧ x.arr = x0.arr

structure SR (C : Cx) (F : Bool → Facts) (μ : Pl) (s : ASt) (a : Act) (w : World) : Prop where
  sw : SW C F μ s.o w
  defers : a.defers = []
  n : a.tmps.size = s.n
  slot : ∀ i x, lk s.t i = some x → RV F (locOf s.o μ) x (a.tmps.getD i undef)

/-- Only the memory itself counts, not the draws. -/
theorem SW.drew {C : Cx} {F : Bool → Facts} {μ : Pl} {o : Objs} {w w' : World} (h : SW C F μ o w) (hh : w'.heap = w.heap) (h1 : w'.os = w.os) (h2 : w'.tape = w.tape) (h3 : w'.output = w.output) : SW C F μ o w' := by
  have hc : ∀ a, w'.cell? a = w.cell? a := fun a => by simp [World.cell?, hh]
  refine ⟨fun l b k v e => by rw [hc]; exact h.facts l b k v e, h.sub, h.lentc, h.grow, h.newf, ?_, ?_, h.dist, h.excl, h.mine, h.keep⟩
  · exact ⟨h1.trans h.fr.os, h2.trans h.fr.tape, h3.trans h.fr.output, by rw [hh]; exact h.fr.size, fun k hk hm => by rw [hh]; exact h.fr.block k hk hm⟩
  · intro L x hx
    have := h.obj L x hx
    revert this
    cases μ L with
    | none => exact id
    | some p => obtain ⟨b, c⟩ := p; intro h; simpa [ObjR, ObjAt, StdAt, MapAt, hh] using h

theorem SR.drew {C : Cx} {F : Bool → Facts} {μ : Pl} {s : ASt} {a : Act} {w : World} (h : SR C F μ s a w) : SR C F μ s a { w with drawn := w.drawn + 1 } :=
  ⟨h.sw.drew rfl rfl rfl rfl, h.defers, h.n, h.slot⟩

/-- What an object is, in another world that holds the same block, under more facts and the same places. -/
theorem ObjAt.congr {F F' : Bool → Facts} {loc loc' : Nat → Option LI} {w w' : World} {x : AObj} {b cap : Nat} (h : ObjAt F loc w x b cap)
    (hb : w'.heap[b]? = w.heap[b]?) (hF : FLe F F') (hl : ∀ L, AV.hasL L x.xs = true → loc' L = loc L) : ObjAt F' loc' w' x b cap := by
  rcases h with ⟨c, e, h1, h2, h3, h4, h5, h6, h7⟩ | ⟨k1, k2, k4, es, ck, k5, k6, k7⟩
  rotate_left
  · exact .inr ⟨k1, k2, k4, es, ck, by rw [hb]; exact k5, k6, fun i e y he hy => by obtain ⟨v, e1, e2⟩ := k7 i e y he hy; exact ⟨v, e1, e2.mono hF.sh⟩⟩
  refine .inl ⟨c, e, by rw [hb]; exact h1, h2, h3, h4, h5, fun i y j a hy ha => ?_, h7⟩
  obtain ⟨v, g1, g2, g3, g4⟩ := h6 i y j a hy ha
  refine ⟨v, g1, g2, ?_, fun hz => hF _ _ _ _ (g4 hz)⟩
  cases harr : x.arr with
  | true => rw [harr] at g3; exact g3.mono hF.sh
  | false =>
    rw [harr] at g3
    refine g3.congr hF fun L hL => hl L ?_
    refine hasL_get hy ?_
    cases y with
    | agg cs => simp only [AV.has]; exact hasL_get ha hL
    | _ => cases j with
      | zero => simp [AV.cells] at ha; subst ha; exact hL
      | succ j => simp [AV.cells] at ha

theorem get_block_lt {w : World} {b : Nat} {x : Obj} (h : w.heap[b]? = some x) : b < w.heap.size := by
  rcases Nat.lt_or_ge b w.heap.size with h' | h'
  · exact h'
  · simp [Array.getElem?_eq_none h'] at h

theorem cell_lt {w : World} {b k : Nat} {v : Value} (h : w.cell? ⟨b, k, none⟩ = some v) : b < w.heap.size := by
  unfold World.cell? at h
  cases hb : w.heap[b]? with
  | none => simp [hb] at h
  | some x => exact get_block_lt hb

theorem cell_of_block {w w' : World} {b k : Nat} (h : w'.heap[b]? = w.heap[b]?) : w'.cell? ⟨b, k, none⟩ = w.cell? ⟨b, k, none⟩ := by
  simp [World.cell?, h]

/-- A cell of an object, read. -/
theorem ObjAt.cell {F : Bool → Facts} {loc : Nat → Option LI} {w : World} {x : AObj} {b cap : Nat} (h0 : ObjAt F loc w x b cap) (hk : x.kd ≠ 1) {i j : Nat} {y a : AV} (hy : x.xs[i]? = some y) (ha : y.cells[j]? = some a) :
    ∃ v, w.cell? ⟨b, i * x.es + j, none⟩ = some v ∧ one v = true ∧ RV (oF x.arr F) (oL x.arr loc) a v := by
  obtain ⟨c, e, h1, h2, h3, h4, h5, h6, h7⟩ := h0.std hk
  obtain ⟨v, g1, g2, g3, g4⟩ := h6 i y j a hy ha
  exact ⟨v, by simp [World.cell?, h1, g1], g2, g3⟩

end Go.Ab
