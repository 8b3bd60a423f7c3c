/-
  Ab9: an object that ceases to be named; an object that is made.
-/
import Derived.Test.YtldecgghhaoliaaAb8
namespace Go.Ab
open Go.RowKit
set_option linter.unusedVariables false
set_option linter.unusedSimpArgs false

def kl (L : Nat) (a : AV) : AV := if a.has L = true then .dead else a
def kill1 (L : Nat) : AV → AV
  | .agg cs => .agg (cs.map (kl L))
  | a => kl L a
def killT (L : Nat) (t : List (Nat × AV)) : List (Nat × AV) := t.map fun p => (p.1, kill1 L p.2)
def killX (L : Nat) (x : AObj) : AObj := if x.arr = true then x else { x with xs := x.xs.map (kill1 L) }
def killO (L : Nat) (o : Objs) : Objs := o.map fun p => (p.1, killX L p.2)

theorem get_map {α β : Type} (f : α → β) : ∀ (l : List (Nat × α)) (i : Nat), lk (l.map fun p => (p.1, f p.2)) i = (lk l i).map f
  | [], _ => rfl
  | (k, a) :: r, i => by
    simp only [List.map_cons, lk]
    split
    · rfl
    · exact get_map f r i

theorem kl_has (L : Nat) (a : AV) : (kl L a).has L = false := by
  unfold kl; split
  · rfl
  · simp_all
theorem hasL_map_kl (L : Nat) : ∀ cs : List AV, AV.hasL L (cs.map (kl L)) = false
  | [] => rfl
  | c :: cs => by simp [AV.hasL, kl_has, hasL_map_kl L cs]
theorem kill1_has (L : Nat) (a : AV) : (kill1 L a).has L = false := by
  unfold kill1
  split
  · simp [AV.has, hasL_map_kl]
  · exact kl_has L a
theorem hasL_map_kill1 (L : Nat) : ∀ cs : List AV, AV.hasL L (cs.map (kill1 L)) = false
  | [] => rfl
  | c :: cs => by simp [AV.hasL, kill1_has, hasL_map_kill1 L cs]

theorem RV.kl {F loc} {L : Nat} {a : AV} {v : Value} (h : RV F loc a v) : RV F loc (Ab.kl L a) v := by
  unfold Ab.kl; split
  · exact .dead
  · exact h
theorem RV.kill1 {F loc} {L : Nat} {a : AV} {v : Value} (h : RV F loc a v) : RV F loc (Ab.kill1 L a) v := by
  cases h with
  | agg h1 h2 h3 =>
    refine .agg (by simpa using h1) (fun i a v ha hv => ?_) h3
    simp only [List.getElem?_map, Option.map_eq_some_iff] at ha
    obtain ⟨a', ha', rfl⟩ := ha
    exact (h2 i a' v ha' hv).kl
  | tup h1 h2 => exact (RV.tup h1 h2).kl
  | sc h => exact (RV.sc h).kl
  | nil => exact RV.nil.kl
  | list h1 h2 h3 h4 h5 h6 h7 h8 => exact (RV.list h1 h2 h3 h4 h5 h6 h7 h8).kl
  | iptr h1 h2 h6 h7 h8 => exact (RV.iptr h1 h2 h6 h7 h8).kl
  | refNil h => exact (RV.refNil h).kl
  | ref h h1 h2 h3 h4 => exact (RV.ref h h1 h2 h3 h4).kl
  | ptr h h1 => exact (RV.ptr h h1).kl
  | mp h => exact (RV.mp h).kl
  | aref h h1 h2 h3 => exact (RV.aref h h1 h2 h3).kl
  | clo h1 h2 => exact (RV.clo h1 h2).kl
  | dead => exact RV.dead.kl

theorem cells_not_agg {y : AV} (h : y.isAgg = false) : y.cells = [y] := by
  cases y <;> first | rfl | (simp [AV.isAgg] at h)
theorem kl_isAgg {L : Nat} {y : AV} (h : y.isAgg = false) : (kl L y).isAgg = false := by
  unfold kl
  by_cases hc : y.has L = true
  · rw [if_pos hc]; rfl
  · rw [if_neg hc]; exact h
theorem kill1_cells (L : Nat) (y : AV) : (kill1 L y).cells = y.cells.map (kl L) := by
  cases hy : y.isAgg with
  | true => cases y <;> first | rfl | (simp [AV.isAgg] at hy)
  | false =>
    have h1 : kill1 L y = kl L y := by cases y <;> first | rfl | (simp [AV.isAgg] at hy)
    rw [h1, cells_not_agg hy, cells_not_agg (kl_isAgg hy)]
    rfl

theorem ObjAt.hasL {F loc w} {x : AObj} {b cap : Nat} (h : ObjAt F loc w x b cap) (ha : x.arr = true) (L : Nat) : AV.hasL L x.xs = false := by
  rw [Bool.eq_false_iff]
  intro hh
  obtain ⟨i, y, hy, hL⟩ := hasL_ex hh
  rcases h with ⟨c, e, h1, h2, h3, h4, h5, h6, h7⟩ | ⟨k1, k2, k4, es, ck, k5, k6, k7⟩
  rotate_left
  · have hi : i < es.size := by rw [k6]; exact (List.getElem?_eq_some_iff.1 hy).1
    obtain ⟨v, e1, e2⟩ := k7 i es[i] y (by simp [hi]) hy
    subst e1
    simp only [AV.has, AV.hasL, Bool.or_false, Bool.false_or] at hL
    exact e2.noloc_has (fun _ => rfl) L hL
  cases y with
  | agg cs =>
    simp only [AV.has] at hL
    obtain ⟨j, a, hj, haL⟩ := hasL_ex hL
    obtain ⟨v, g1, g2, g3, g4⟩ := h6 i _ j a hy hj
    rw [ha] at g3
    exact g3.noloc_has (fun _ => rfl) L haL
  | _ =>
    obtain ⟨v, g1, g2, g3, g4⟩ := h6 i _ 0 _ hy (by rfl)
    rw [ha] at g3
    exact g3.noloc_has (fun _ => rfl) L hL

theorem ObjAt.kill {F loc w} {x : AObj} {b cap : Nat} (h : ObjAt F loc w x b cap) (L : Nat) : ObjAt F loc w (killX L x) b cap ∧ AV.hasL L (killX L x).xs = false := by
  cases ha : x.arr with
  | true => simp only [killX, ha, if_true]; exact ⟨h, h.hasL ha L⟩
  | false =>
    simp only [killX, ha, Bool.false_eq_true, if_false]
    refine ⟨?_, hasL_map_kill1 L _⟩
    obtain ⟨c, e, h1, h2, h3, h4, h5, h6, h7⟩ := h.resolve_right (fun ⟨_, k2, _⟩ => by rw [ha] at k2; cases k2)
    refine .inl ⟨c, e, h1, h2, by simpa using h3, by simpa using h4, ?_, ?_, h7.imp_right fun h => ⟨h.1, fun _ => h.2 ha⟩⟩
    · intro y hy
      simp only [List.mem_map] at hy
      obtain ⟨y', hy', rfl⟩ := hy
      rw [kill1_cells]; simp; exact h5 y' hy'
    · intro i y j a hy hj
      simp only [List.getElem?_map, Option.map_eq_some_iff] at hy
      obtain ⟨y', hy', rfl⟩ := hy
      rw [kill1_cells] at hj
      simp only [List.getElem?_map, Option.map_eq_some_iff] at hj
      obtain ⟨a', ha', rfl⟩ := hj
      obtain ⟨v, g1, g2, g3, g4⟩ := h6 i y' j a' hy' ha'
      exact ⟨v, g1, g2, by simp only [ha] at g3 ⊢; exact g3.kl, g4⟩

theorem killX_es (L : Nat) (x : AObj) : (killX L x).es = x.es ∧ (killX L x).xs.length = x.xs.length ∧ (killX L x).pin = x.pin ∧ (killX L x).fz = x.fz ∧ (killX L x).arr = x.arr := by
  unfold killX; split <;> simp
theorem killX_kd (L : Nat) (x : AObj) : (killX L x).kd = x.kd := by
  unfold killX; split <;> simp

theorem killX_loc (L : Nat) (x : AObj) (p : Option (Nat × Nat)) : locO (killX L x) p = locO x p := locO_congr (killX_es L x).1 (killX_es L x).2.1 (killX_kd L x) p
theorem get_killT (L : Nat) (t : List (Nat × AV)) (i : Nat) : lk (killT L t) i = (lk t i).map (kill1 L) := get_map _ _ _
theorem get_killO (L : Nat) (o : Objs) (i : Nat) : lk (killO L o) i = (lk o i).map (killX L) := get_map _ _ _

theorem locOf_killO (L : Nat) (o : Objs) (μ : Pl) : locOf (killO L o) μ = locOf o μ := by
  funext i
  simp only [locOf, get_killO, Option.map_map]
  congr 1
  funext x
  obtain ⟨h1, h2, _⟩ := killX_es L x
  exact locO_congr h1 h2 (killX_kd L x) _

/-- The place of one object turned: of the others, that do not name it, nothing turns. -/
def upd (μ : Pl) (d : Nat) (p : Option (Nat × Nat)) : Pl := fun L => if L = d then p else μ L

theorem alloc_heap_old {w : World} {o : Obj} {b : Nat} (h : b < w.heap.size) : (w.alloc o).heap[b]? = w.heap[b]? := by
  show (w.heap.push o)[b]? = _
  rw [Array.getElem?_push, if_neg (by omega)]
theorem alloc_heap_new {w : World} {o : Obj} : (w.alloc o).heap[w.heap.size]? = some o := by
  show (w.heap.push o)[w.heap.size]? = _
  simp

/-- The cells of an object that is to be. -/
structure Fresh (F : Bool → Facts) (loc : Nat → Option LI) (x : AObj) (c : Array Value) (cap : Nat) (e : TypeId) : Prop where
  size : c.size = cap * x.es
  fits : x.xs.length ≤ cap
  row : x.xs.length ≤ maxRow
  es : ∀ y ∈ x.xs, y.cells.length = x.es
  rv : ∀ (i : Nat) (y : AV) (j : Nat) (a : AV), x.xs[i]? = some y → y.cells[j]? = some a → ∃ v, c[i * x.es + j]? = some v ∧ one v = true ∧ RV (oF x.arr F) (oL x.arr loc) a v
  fz : x.fz = false
  pin : x.pin = false
  kd : x.kd = 0 ∨ (x.kd = e + 2 ∧ (x.arr = false → cap = 1))

def ASt.put (s : ASt) (d : Nat) (a : AV) : ASt := { s with t := (d, a) :: s.t }
def ASt.fresh (s : ASt) (d : Nat) (x : AObj) (r : AV) : ASt := { n := s.n, t := (d, r) :: killT d s.t, o := (d, x) :: killO d s.o }

theorem put_slot {a : Act} {d : Nat} {v : Value} (hd : d < a.tmps.size) (i : Nat) : (a.put (some d) v).tmps.getD i undef = if i = d then v else a.tmps.getD i undef := by
  simp only [Act.put, Array.getD_eq_getD_getElem?, Array.getElem?_setIfInBounds]
  by_cases h : i = d
  · subst h; simp [hd]
  · simp [h, Ne.symm h]

theorem SR.put {C F μ} {s : ASt} {a : Act} {w : World} (h : SR C F μ s a w) {d : Nat} (hd : d < s.n) {x : AV} {v : Value} (hx : RV F (locOf s.o μ) x v) : SR C F μ (s.put d x) (a.put (some d) v) w := by
  refine ⟨h.sw, h.defers, by simp [Act.put, ASt.put, h.n], fun i y hy => ?_⟩
  rw [put_slot (by rw [h.n]; exact hd)]
  simp only [ASt.put, lk] at hy
  by_cases hi : d = i
  · rw [if_pos hi] at hy
    obtain rfl := Option.some.inj hy
    rw [if_pos hi.symm]; exact hx
  · rw [if_neg hi] at hy
    rw [if_neg (Ne.symm hi)]; exact h.slot i y hy

theorem oL_congr {arr : Bool} {loc loc' : Nat → Option LI} {F : Bool → Facts} {a : AV} {v : Value} (h : RV (oF arr F) (oL arr loc) a v) (hl : ∀ L, a.has L = true → loc' L = loc L) : RV (oF arr F) (oL arr loc') a v := by
  cases arr
  · exact RV.congr h (FLe.refl _) hl
  · exact h

theorem SR.fresh {C F μ} {s : ASt} {a : Act} {w : World} (h : SR C F μ s a w) {d : Nat} (hd : d < s.n) {x : AObj} {c : Array Value} {e : TypeId} {cap : Nat} (hx : Fresh F (locOf s.o μ) x c cap e)
    (hL : AV.hasL d x.xs = false) {r : AV} {v : Value} (hr : ∀ loc : Nat → Option LI, loc d = some ⟨some (w.heap.size, cap), x.es, x.xs.length, false⟩ → RV F loc r v) :
    SR C F (upd μ d (some (w.heap.size, cap))) (s.fresh d x r) (a.put (some d) v) (w.alloc (.cells c e (0, 0))) := by
  have hsw := h.sw
  have hlt : ∀ l b k u, F l b k = some u → b < w.heap.size := fun l b k u hu => cell_lt (hsw.facts l b k u hu)
  have hold : ∀ b, b < w.heap.size → (w.alloc (.cells c e (0, 0))).heap[b]? = w.heap[b]? := fun b hb => alloc_heap_old hb
  have hget : ∀ L, lk (s.fresh d x r).o L = if d = L then some x else (lk s.o L).map (killX d) := fun L => by
    simp only [ASt.fresh, lk, get_killO]
  have hloc : ∀ L, L ≠ d → locOf (s.fresh d x r).o (upd μ d (some (w.heap.size, cap))) L = locOf s.o μ L := fun L hne => by
    simp only [locOf, hget, if_neg (Ne.symm hne), upd, if_neg hne, Option.map_map]
    congr 1
    funext y
    obtain ⟨g1, g2, _⟩ := killX_es d y
    exact locO_congr g1 g2 (killX_kd d y) _
  have hlocd : locOf (s.fresh d x r).o (upd μ d (some (w.heap.size, cap))) d = some ⟨some (w.heap.size, cap), x.es, x.xs.length, false⟩ := by
    have hk : x.kd ≠ 1 := by rcases hx.kd with h | h <;> omega
    simp [locOf, hget, upd, locO_mk hk]
  have hblk : ∀ L y b cc, lk s.o L = some y → μ L = some (b, cc) → b < w.heap.size := fun L y b cc hy hm => by
    have := hsw.obj L y hy
    rw [hm] at this
    obtain ⟨_, g⟩ := ObjAt.lt this
    exact get_block_lt g
  refine ⟨⟨?_, hsw.sub, hsw.lentc, hsw.grow, hsw.newf, ?_, ?_, ?_, ?_, ?_, ?_⟩, h.defers, by simp [Act.put, ASt.fresh, h.n], ?_⟩
  · intro l b k u hu
    rw [cell_of_block (hold b (hlt l b k u hu))]
    exact hsw.facts l b k u hu
  · exact ⟨hsw.fr.os, hsw.fr.tape, hsw.fr.output, by have := hsw.fr.size; simp; omega, fun k hk hm => by rw [hold k (Nat.lt_of_lt_of_le hk hsw.fr.size)]; exact hsw.fr.block k hk hm⟩
  · intro L y hy
    rw [hget] at hy
    by_cases hdL : d = L
    · rw [if_pos hdL] at hy
      obtain rfl := Option.some.inj hy
      subst hdL
      simp only [upd, if_true, ObjR]
      refine .inl ⟨c, e, alloc_heap_new, hx.size, hx.fits, hx.row, hx.es, fun i y j a' hy ha => ?_, hx.kd⟩
      obtain ⟨v', g1, g2, g3⟩ := hx.rv i y j a' hy ha
      refine ⟨v', g1, g2, oL_congr g3 fun L hL' => hloc L ?_, fun hz => by rw [hx.fz] at hz; cases hz⟩
      rintro rfl
      have : AV.hasL L x.xs = true := by
        refine hasL_get hy ?_
        cases y with
        | agg cs => simp only [AV.has]; exact hasL_get ha hL'
        | _ => cases j with
          | zero => simp [AV.cells] at ha; subst ha; exact hL'
          | succ j => simp [AV.cells] at ha
      rw [hL] at this; cases this
    · rw [if_neg hdL] at hy
      simp only [Option.map_eq_some_iff] at hy
      obtain ⟨y', hy', rfl⟩ := hy
      have ho := hsw.obj L y' hy'
      simp only [upd, if_neg (Ne.symm hdL)]
      cases hm : μ L with
      | none =>
        rw [hm] at ho
        have : (killX d y').xs.length = y'.xs.length := (killX_es d y').2.1
        simp only [ObjR] at ho ⊢
        rw [ho] at this
        exact List.length_eq_zero_iff.1 this
      | some p =>
        obtain ⟨b, cc⟩ := p
        rw [hm] at ho
        obtain ⟨g1, g2⟩ := ObjAt.kill ho d
        refine g1.congr (hold b (hblk L y' b cc hy' hm)) (FLe.refl _) fun L' hL' => hloc L' ?_
        rintro rfl
        rw [g2] at hL'; cases hL'
  · intro L y L' y' b cc cc' hy hy' hm hm'
    rw [hget] at hy hy'
    simp only [upd] at hm hm'
    by_cases hdL : d = L
    · by_cases hdL' : d = L'
      · rw [← hdL, ← hdL']
      · rw [if_neg hdL'] at hy'
        rw [if_neg (Ne.symm hdL')] at hm'
        rw [if_pos hdL.symm] at hm
        simp only [Option.map_eq_some_iff] at hy'
        obtain ⟨y'', hy'', _⟩ := hy'
        have := hblk L' y'' b cc' hy'' hm'
        simp at hm; omega
    · rw [if_neg hdL] at hy
      rw [if_neg (Ne.symm hdL)] at hm
      simp only [Option.map_eq_some_iff] at hy
      obtain ⟨y1, hy1, _⟩ := hy
      by_cases hdL' : d = L'
      · rw [if_pos hdL'.symm] at hm'
        have := hblk L y1 b cc hy1 hm
        simp at hm'; omega
      · rw [if_neg hdL'] at hy'
        rw [if_neg (Ne.symm hdL')] at hm'
        simp only [Option.map_eq_some_iff] at hy'
        obtain ⟨y2, hy2, _⟩ := hy'
        exact hsw.dist L y1 L' y2 b cc cc' hy1 hy2 hm hm'
  · intro L y b cc hy hm hz l k
    rw [hget] at hy
    simp only [upd] at hm
    by_cases hdL : d = L
    · rw [if_pos hdL.symm] at hm
      simp at hm
      cases hF : F l b k with
      | none => rfl
      | some u => have := hlt l b k u hF; omega
    · rw [if_neg hdL] at hy
      rw [if_neg (Ne.symm hdL)] at hm
      simp only [Option.map_eq_some_iff] at hy
      obtain ⟨y1, hy1, rfl⟩ := hy
      exact hsw.excl L y1 b cc hy1 hm (by rw [← (killX_es d y1).2.2.2.1]; exact hz) l k
  · intro L y b cc hy hm
    rw [hget] at hy
    simp only [upd] at hm
    by_cases hdL : d = L
    · rw [if_pos hdL.symm] at hm
      simp at hm
      left; have := hsw.fr.size; omega
    · rw [if_neg hdL] at hy
      rw [if_neg (Ne.symm hdL)] at hm
      simp only [Option.map_eq_some_iff] at hy
      obtain ⟨y1, hy1, rfl⟩ := hy
      exact hsw.mine L y1 b cc hy1 hm
  · intro L y x0 h0 hy hp
    rw [hget] at hy
    by_cases hdL : d = L
    · rw [if_pos hdL] at hy
      obtain rfl := Option.some.inj hy
      rw [hx.pin] at hp; cases hp
    · rw [if_neg hdL] at hy
      simp only [Option.map_eq_some_iff] at hy
      obtain ⟨y1, hy1, rfl⟩ := hy
      obtain ⟨g1, g2, g3, g4, g5⟩ := killX_es d y1
      have := hsw.keep L y1 x0 h0 hy1 (by rw [← g3]; exact hp)
      simp only [upd, if_neg (Ne.symm hdL), killX_loc, g5]
      exact this
  · intro i y hy
    rw [put_slot (by rw [h.n]; exact hd)]
    simp only [ASt.fresh, lk] at hy
    by_cases hi : d = i
    · rw [if_pos hi] at hy
      obtain rfl := Option.some.inj hy
      rw [if_pos hi.symm]
      exact hr _ hlocd
    · rw [if_neg hi, get_killT] at hy
      simp only [Option.map_eq_some_iff] at hy
      obtain ⟨y', hy', rfl⟩ := hy
      rw [if_neg (Ne.symm hi)]
      refine (h.slot i y' hy').kill1.congr (FLe.refl _) fun L hL' => hloc L ?_
      rintro rfl
      rw [kill1_has] at hL'; cases hL'

end Go.Ab
