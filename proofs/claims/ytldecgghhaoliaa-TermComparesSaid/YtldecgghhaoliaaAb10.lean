/-
  Ab10: a row that is frozen; a store.
-/
import Derived.Test.YtldecgghhaoliaaAb9
namespace Go.Ab
open Go.RowKit
set_option linter.unusedVariables false
set_option linter.unusedSimpArgs false

def AObj.frz (x : AObj) : AObj := { x with fz := true }
/-- The object L is turned into x, of the same shape. -/
def setO (o : Objs) (L : Nat) (x : AObj) : Objs := (L, x) :: o

theorem get_setO (o : Objs) (L : Nat) (x : AObj) (i : Nat) : lk (setO o L x) i = if L = i then some x else lk o i := rfl

theorem locOf_setO {o : Objs} {μ : Pl} {L : Nat} {x x' : AObj} (h : lk o L = some x) (h1 : ∀ p, locO x' p = locO x p) : locOf (setO o L x') μ = locOf o μ := by
  funext i
  simp only [locOf, get_setO]
  by_cases hi : L = i
  · subst hi; simp [h, h1]
  · rw [if_neg hi]

/-- One object's content turned, in a world that turned at its block alone. -/
theorem SW.turn {C F μ} {o : Objs} {w w' : World} (h : SW C F μ o w) {L : Nat} {x x' : AObj} (hg : lk o L = some x) (h1 : ∀ p, locO x' p = locO x p) (h3 : x'.pin = x.pin) (h4 : x'.arr = x.arr)
    {b cap : Nat} (hm : μ L = some (b, cap)) (hz : x.fz = false) (hz' : x'.fz = false) (hw : Fr (· = b) w w') (hs : w'.heap.size = w.heap.size) (ho : ObjAt F (locOf o μ) w' x' b cap) : SW C F μ (setO o L x') w' := by
  have hloc := locOf_setO (μ := μ) hg h1
  have hlt : ∀ l b k u, F l b k = some u → b < w.heap.size := fun l b k u hu => cell_lt (h.facts l b k u hu)
  have hb : b < w.heap.size := by
    have := h.obj L x hg
    rw [hm] at this
    obtain ⟨_, g⟩ := ObjAt.lt this
    exact get_block_lt g
  have hmine := h.mine L x b cap hg hm
  refine ⟨?_, h.sub, h.lentc, h.grow, h.newf, ?_, ?_, ?_, ?_, ?_, ?_⟩
  · intro l b' k u hu
    have hne : b' ≠ b := by rintro rfl; rw [h.excl L x b' cap hg hm hz l k] at hu; cases hu
    rw [cell_of_block (hw.block b' (hlt l b' k u hu) hne)]
    exact h.facts l b' k u hu
  · refine h.fr.trans hw fun k hk hkb => ?_
    subst hkb
    rcases hmine with hh | hh
    · omega
    · exact hh
  · intro L' y hy
    rw [hloc]
    rw [get_setO] at hy
    by_cases hLL : L = L'
    · rw [if_pos hLL] at hy
      obtain rfl := Option.some.inj hy
      subst hLL
      rw [hm]
      exact ho
    · rw [if_neg hLL] at hy
      have hoy := h.obj L' y hy
      cases hm' : μ L' with
      | none => rw [hm'] at hoy; exact hoy
      | some p =>
        obtain ⟨b', cap'⟩ := p
        rw [hm'] at hoy
        have hne : b' ≠ b := by rintro rfl; exact hLL (h.dist L x L' y b' cap cap' hg hy hm hm')
        obtain ⟨_, g⟩ := ObjAt.lt hoy
        exact hoy.congr (hw.block b' (get_block_lt g) hne) (FLe.refl _) fun _ _ => rfl
  · intro L1 y1 L2 y2 b' c1 c2 hy1 hy2 hm1 hm2
    rw [get_setO] at hy1 hy2
    have e1 : ∃ z, lk o L1 = some z := by
      by_cases hh : L = L1
      · exact ⟨x, hh ▸ hg⟩
      · rw [if_neg hh] at hy1; exact ⟨_, hy1⟩
    have e2 : ∃ z, lk o L2 = some z := by
      by_cases hh : L = L2
      · exact ⟨x, hh ▸ hg⟩
      · rw [if_neg hh] at hy2; exact ⟨_, hy2⟩
    obtain ⟨z1, e1⟩ := e1
    obtain ⟨z2, e2⟩ := e2
    exact h.dist L1 z1 L2 z2 b' c1 c2 e1 e2 hm1 hm2
  · intro L1 y1 b' c1 hy1 hm1 hz1 l k
    rw [get_setO] at hy1
    by_cases hh : L = L1
    · subst hh
      exact h.excl L x b' c1 hg hm1 hz l k
    · rw [if_neg hh] at hy1; exact h.excl L1 y1 b' c1 hy1 hm1 hz1 l k
  · intro L1 y1 b' c1 hy1 hm1
    rw [get_setO] at hy1
    by_cases hh : L = L1
    · subst hh; exact h.mine L x b' c1 hg hm1
    · rw [if_neg hh] at hy1; exact h.mine L1 y1 b' c1 hy1 hm1
  · intro L1 y1 x0 h0 hy1 hp
    rw [get_setO] at hy1
    by_cases hh : L = L1
    · subst hh
      rw [if_pos rfl] at hy1
      obtain rfl := Option.some.inj hy1
      have := h.keep L x x0 h0 hg (by rw [← h3]; exact hp)
      rw [h1, h4]; exact this
    · rw [if_neg hh] at hy1; exact h.keep L1 y1 x0 h0 hy1 hp

/-- The facts, and the first n cells of block b beside them. -/
def addF (F : Bool → Facts) (b n : Nat) (c : Array Value) : Bool → Facts := fun l b' k => if b' = b ∧ k < n then c[k]? else F l b' k

theorem addF_le {F : Bool → Facts} {b n : Nat} {c : Array Value} (h : ∀ l k, F l b k = none) : FLe F (addF F b n c) := by
  intro l b' k v hv
  unfold addF
  by_cases hb : b' = b
  · subst hb; rw [h] at hv; cases hv
  · rw [if_neg (by simp [hb])]; exact hv

/-- An array that is changed no more. -/
theorem SW.freeze {C F μ} {o : Objs} {w : World} (h : SW C F μ o w) {L : Nat} {x : AObj} (hg : lk o L = some x) (ha : x.arr = true) : ∃ F', FLe F F' ∧ SW C F' μ (setO o L x.frz) w := by
  have hloc := locOf_setO (μ := μ) (x' := x.frz) hg (fun _ => rfl)
  by_cases hz : x.fz = true
  · refine ⟨F, FLe.refl _, ?_⟩
    have hx : x.frz = x := by cases x; simp [AObj.frz] at *; exact hz
    rw [hx] at hloc ⊢
    have hgg : ∀ i : Nat, lk (setO o L x) i = lk o i := fun i => by
      rw [get_setO]
      by_cases hh : L = i
      · subst hh; simp [hg]
      · rw [if_neg hh]
    exact ⟨h.facts, h.sub, h.lentc, h.grow, h.newf, h.fr, fun L' y hy => by rw [hloc]; rw [hgg] at hy; exact h.obj L' y hy, fun L1 y1 L2 y2 b c1 c2 => by rw [hgg, hgg]; exact h.dist L1 y1 L2 y2 b c1 c2,
      fun L1 y1 b c1 => by rw [hgg]; exact h.excl L1 y1 b c1, fun L1 y1 b c1 => by rw [hgg]; exact h.mine L1 y1 b c1, fun L1 y1 x0 => by rw [hgg]; exact h.keep L1 y1 x0⟩
  · have hz : x.fz = false := by simpa using hz
    have hgg : ∀ i y, lk (setO o L x.frz) i = some y → (L = i ∧ y = x.frz) ∨ (L ≠ i ∧ lk o i = some y) := fun i y hy => by
      rw [get_setO] at hy
      by_cases hh : L = i
      · rw [if_pos hh] at hy; exact .inl ⟨hh, (Option.some.inj hy).symm⟩
      · rw [if_neg hh] at hy; exact .inr ⟨hh, hy⟩
    have hgx : ∀ i y, lk (setO o L x.frz) i = some y → ∃ z, lk o i = some z ∧ z.pin = y.pin ∧ (∀ p, locO z p = locO y p) ∧ z.arr = y.arr := fun i y hy => by
      rcases hgg i y hy with ⟨rfl, rfl⟩ | ⟨_, hy'⟩
      · exact ⟨x, hg, rfl, fun _ => rfl, rfl⟩
      · exact ⟨y, hy', rfl, fun _ => rfl, rfl⟩
    by_cases hk : x.kd = 1
    · refine ⟨F, FLe.refl _, h.facts, h.sub, h.lentc, h.grow, h.newf, h.fr, ?_, ?_, ?_, ?_, ?_⟩
      · intro L' y hy
        rw [hloc]
        rcases hgg L' y hy with ⟨rfl, rfl⟩ | ⟨_, hy'⟩
        · have := h.obj L x hg
          revert this
          cases μ L with
          | none => exact id
          | some p => obtain ⟨b, c⟩ := p; intro ho; have hm : MapAt F w x b := ObjAt.map (x := x) ho hk; exact .inr hm
        · exact h.obj L' y hy'
      · intro L1 y1 L2 y2 b c1 c2 hy1 hy2
        obtain ⟨z1, e1, _⟩ := hgx L1 y1 hy1
        obtain ⟨z2, e2, _⟩ := hgx L2 y2 hy2
        exact h.dist L1 z1 L2 z2 b c1 c2 e1 e2
      · intro L1 y1 b c1 hy1 hm1 hz1
        rcases hgg L1 y1 hy1 with ⟨rfl, rfl⟩ | ⟨_, hy'⟩
        · simp [AObj.frz] at hz1
        · exact h.excl L1 y1 b c1 hy' hm1 hz1
      · intro L1 y1 b c1 hy1
        obtain ⟨z1, e1, _⟩ := hgx L1 y1 hy1
        exact h.mine L1 z1 b c1 e1
      · intro L1 y1 x0 h0 hy1 hp
        obtain ⟨z1, e1, e2, e3, e5⟩ := hgx L1 y1 hy1
        rw [← e3, ← e5]
        exact h.keep L1 z1 x0 h0 e1 (by rw [e2]; exact hp)
    cases hm : μ L with
    | none =>
      refine ⟨F, FLe.refl _, h.facts, h.sub, h.lentc, h.grow, h.newf, h.fr, ?_, ?_, ?_, ?_, ?_⟩
      · intro L' y hy
        rw [hloc]
        rcases hgg L' y hy with ⟨rfl, rfl⟩ | ⟨_, hy'⟩
        · have := h.obj L x hg; rw [hm] at this ⊢; exact this
        · exact h.obj L' y hy'
      · intro L1 y1 L2 y2 b c1 c2 hy1 hy2
        obtain ⟨z1, e1, _⟩ := hgx L1 y1 hy1
        obtain ⟨z2, e2, _⟩ := hgx L2 y2 hy2
        exact h.dist L1 z1 L2 z2 b c1 c2 e1 e2
      · intro L1 y1 b c1 hy1 hm1 hz1
        rcases hgg L1 y1 hy1 with ⟨rfl, rfl⟩ | ⟨_, hy'⟩
        · rw [hm] at hm1; cases hm1
        · exact h.excl L1 y1 b c1 hy' hm1 hz1
      · intro L1 y1 b c1 hy1
        obtain ⟨z1, e1, _⟩ := hgx L1 y1 hy1
        exact h.mine L1 z1 b c1 e1
      · intro L1 y1 x0 h0 hy1 hp
        obtain ⟨z1, e1, e2, e3, e5⟩ := hgx L1 y1 hy1
        rw [← e3, ← e5]
        exact h.keep L1 z1 x0 h0 e1 (by rw [e2]; exact hp)
    | some p =>
      obtain ⟨b, cap⟩ := p
      have hob := h.obj L x hg
      rw [hm] at hob
      obtain ⟨c, e, q1, q2, q3, q4, q5, q6, q7⟩ := hob.std hk
      have hex := h.excl L x b cap hg hm hz
      have hle : FLe F (addF F b (x.xs.length * x.es) c) := addF_le hex
      have hnew : ∀ l b' k v, addF F b (x.xs.length * x.es) c l b' k = some v → F l b' k = some v ∨ (b' = b ∧ c[k]? = some v) := by
        intro l b' k v hv
        unfold addF at hv
        split at hv
        · rename_i hc; exact .inr ⟨hc.1, hv⟩
        · exact .inl hv
      have hsub : Sub (addF F b (x.xs.length * x.es) c) := by
        intro b' k v hv
        unfold addF at hv ⊢
        split at hv
        · rename_i hc; rw [if_pos hc]; exact hv
        · rename_i hc; rw [if_neg hc]; exact h.sub _ _ _ hv
      refine ⟨_, hle, ?_, hsub, ?_, h.grow.trans hle, ?_, h.fr, ?_, ?_, ?_, ?_, ?_⟩
      · intro l b' k v hv
        rcases hnew l b' k v hv with hv | ⟨hbb, hv1⟩
        · exact h.facts l b' k v hv
        · rw [hbb]; simp [World.cell?, q1, hv1]
      · intro b' k v hv
        unfold addF at hv ⊢
        split at hv
        · rename_i hc; rw [if_pos hc]; exact .inr hv
        · rename_i hc; rw [if_neg hc]; exact h.lentc _ _ _ hv
      · intro b' k v hv
        rcases hnew false b' k v hv with hv | ⟨rfl, hv⟩
        · exact h.newf b' k v hv
        · exact .inr (h.mine L x b' cap hg hm)
      · intro L' y hy
        rw [hloc]
        rcases hgg L' y hy with ⟨rfl, rfl⟩ | ⟨hne, hy'⟩
        · rw [hm]
          refine .inl ⟨c, e, q1, q2, q3, q4, q5, fun i y j a hy hj => ?_, q7⟩
          obtain ⟨v, g1, g2, g3, g4⟩ := q6 i y j a hy hj
          refine ⟨v, g1, g2, ?_, fun _ => ?_⟩
          · rw [ha] at g3
            show RV (oF x.arr _) (oL x.arr _) a v
            rw [ha]
            exact RV.mono g3 hle.sh
          · have hi : i < x.xs.length := (List.getElem?_eq_some_iff.1 hy).1
            have hjj : j < x.es := by
              have := q5 y (List.mem_of_getElem? hy)
              rw [← this]; exact (List.getElem?_eq_some_iff.1 hj).1
            unfold addF
            have hlt : i * x.es + j < x.xs.length * x.es := by
              have : (i + 1) * x.es ≤ x.xs.length * x.es := Nat.mul_le_mul_right _ hi
              rw [Nat.add_mul] at this; omega
            rw [if_pos ⟨rfl, hlt⟩]; exact g1
        · have hoy := h.obj L' y hy'
          cases hm' : μ L' with
          | none => rw [hm'] at hoy; exact hoy
          | some p =>
            obtain ⟨b', cap'⟩ := p
            rw [hm'] at hoy
            exact hoy.congr rfl hle fun _ _ => rfl
      · intro L1 y1 L2 y2 b c1 c2 hy1 hy2
        obtain ⟨z1, e1, _⟩ := hgx L1 y1 hy1
        obtain ⟨z2, e2, _⟩ := hgx L2 y2 hy2
        exact h.dist L1 z1 L2 z2 b c1 c2 e1 e2
      · intro L1 y1 b' c1 hy1 hm1 hz1 l k
        rcases hgg L1 y1 hy1 with ⟨rfl, rfl⟩ | ⟨hne, hy'⟩
        · simp [AObj.frz] at hz1
        · have hbb : b' ≠ b := by rintro rfl; exact hne (h.dist L x L1 y1 b' cap c1 hg hy' hm hm1)
          unfold addF
          rw [if_neg (by simp [hbb])]
          exact h.excl L1 y1 b' c1 hy' hm1 hz1 l k
      · intro L1 y1 b c1 hy1
        obtain ⟨z1, e1, _⟩ := hgx L1 y1 hy1
        exact h.mine L1 z1 b c1 e1
      · intro L1 y1 x0 h0 hy1 hp
        obtain ⟨z1, e1, e2, e3, e5⟩ := hgx L1 y1 hy1
        rw [← e3, ← e5]
        exact h.keep L1 z1 x0 h0 e1 (by rw [e2]; exact hp)

def ASt.frz (s : ASt) (L : Nat) (x : AObj) : ASt := { s with o := setO s.o L x.frz }

theorem SR.freeze {C F μ} {s : ASt} {a : Act} {w : World} (h : SR C F μ s a w) {L : Nat} {x : AObj} (hg : lk s.o L = some x) (ha : x.arr = true) : ∃ F', FLe F F' ∧ SR C F' μ (s.frz L x) a w := by
  obtain ⟨F', h1, h2⟩ := h.sw.freeze hg ha
  refine ⟨F', h1, h2, h.defers, h.n, fun i y hy => ?_⟩
  have hloc : locOf (s.frz L x).o μ = locOf s.o μ := locOf_setO (x' := x.frz) hg (fun _ => rfl)
  rw [hloc]
  exact (h.slot i y hy).mono h1

def seg {α : Type} (xs : List α) (lo n : Nat) : List α := if lo = 0 ∧ n = xs.length then xs else (xs.drop lo).take n

theorem seg_get {α : Type} {xs : List α} {lo n : Nat} (h : lo + n ≤ xs.length) (i : Nat) : (seg xs lo n)[i]? = if i < n then xs[lo + i]? else none := by
  unfold seg
  split
  · rename_i hc
    obtain ⟨rfl, rfl⟩ := hc
    by_cases hi : i < xs.length
    · simp [hi]
    · simp [hi]
  · rw [List.getElem?_take]
    split
    · rw [List.getElem?_drop]
    · rfl
theorem seg_length {α : Type} {xs : List α} {lo n : Nat} (h : lo + n ≤ xs.length) : (seg xs lo n).length = n := by
  unfold seg
  split
  · rename_i hc; exact hc.2.symm
  · simp; omega
theorem seg_mem {α : Type} {xs : List α} {lo n : Nat} {x : α} (h : x ∈ seg xs lo n) : x ∈ xs := by
  unfold seg at h
  split at h
  · exact h
  · exact List.mem_of_mem_drop (List.mem_of_mem_take h)

/-- A slice of an array, as a row by value, under facts that hold the array's cells. -/
theorem RV.row {F G : Bool → Facts} {o : Objs} {μ : Pl} {w : World} {L : Nat} {x : AObj} (hg : lk o L = some x) (ho : ObjR F (locOf o μ) w x (μ L)) (ha : x.arr = true) {lo n : Nat} {v : Value}
    (h : RV F (locOf o μ) (.ref L lo n) v) {lent : Bool} (hFG : FLe (sh F) (sh G))
    (hc : ∀ b cap, μ L = some (b, cap) → ∀ (i : Nat) (y : AV) (j : Nat) (a : AV) (u : Value), x.xs[i]? = some y → y.cells[j]? = some a → w.cell? ⟨b, i * x.es + j, none⟩ = some u → G lent b (i * x.es + j) = some u)
    (loc : Nat → Option LI) : RV G loc (.list lent false (seg x.xs lo n)) v := by
  have hloc : locOf o μ L = some (locO x (μ L)) := by simp [locOf, hg]
  cases h with
  | refNil g =>
    rw [hloc] at g
    obtain ⟨hm, -, -, -⟩ := locO_std (Option.some.inj g)
    rw [hm] at ho
    have : x.xs = [] := ho
    rw [this]
    exact .nil
  | @ref _ _ _ _ _ b cap es len p c g1 g2 g3 g4 g5 =>
    rw [hloc] at g1
    obtain ⟨hm, rfl, rfl, hk1⟩ := locO_std (Option.some.inj g1)
    rw [hm] at ho
    have hcell : ∀ (i : Nat) (y : AV) (j : Nat) (a : AV), x.xs[i]? = some y → y.cells[j]? = some a → ∃ u, w.cell? ⟨b, i * x.es + j, none⟩ = some u ∧ one u = true ∧ RV (oF x.arr F) (oL x.arr (locOf o μ)) a u :=
      fun i y j a hy hj => ObjAt.cell ho hk1 hy hj
    obtain ⟨cc, e, q1, q2, q3, q4, q5, q6, q7⟩ := ho.std hk1
    have hlen := seg_length (xs := x.xs) g2
    let f : Nat → Nat → Value := fun i j => (w.cell? ⟨b, (lo + i) * x.es + j, none⟩).getD .nilIface
    have hget : ∀ (i : Nat) (y : AV), (seg x.xs lo n)[i]? = some y → x.xs[lo + i]? = some y := fun i y hy => by
      rw [seg_get g2] at hy
      split at hy
      · exact hy
      · cases hy
    have key := @RV.list G loc lent false (seg x.xs lo n) b (lo * x.es) p c x.es f (fun y hy => q5 y (seg_mem hy)) (by rw [hlen]; exact g3) (by rw [hlen]; unfold maxRow at *; omega) (fun h => by cases h)
      (fun hne => g4 (.inl (by rintro rfl; have := List.length_eq_zero_iff.1 hlen; exact hne this)))
      (fun i y j a hy hj => by
        obtain ⟨u, r1, r2, r3⟩ := hcell _ y j a (hget i y hy) hj
        have := hc b cap hm _ y j a u (hget i y hy) hj r1
        rw [Nat.add_mul] at this r1
        simp only [f, Nat.add_mul, r1, Option.getD_some]
        exact this)
      (fun i y j a hy hj => by
        obtain ⟨u, r1, r2, r3⟩ := hcell _ y j a (hget i y hy) hj
        simp only [f, r1, Option.getD_some]
        rw [ha] at r3
        exact RV.mono r3 hFG)
      (fun i y j a hy hj => by
        obtain ⟨u, r1, r2, r3⟩ := hcell _ y j a (hget i y hy) hj
        simp only [f, r1, Option.getD_some]
        exact r2)
    rw [hlen] at key
    exact key

end Go.Ab
