/-
  Ab17b: calls that work on the caller's own objects: the objects under other names; the way in and the way back.
-/
import Derived.Test.YtldecgghhaoliaaAb17
namespace Go.Ab
open Go.RowKit
set_option linter.unusedVariables false
set_option linter.unusedSimpArgs false

mutual
/-- A value, the objects that it names under other names. -/
def AV.ren (σ : Nat → Nat) : AV → AV
  | .agg cs => .agg (AV.renL σ cs)
  | .tup cs => .tup (AV.renL σ cs)
  | .clo f cs => .clo f (AV.renL σ cs)
  | .ref L lo n => .ref (σ L) lo n
  | .ptr L i o => .ptr (σ L) i o
  | .aref L i o es n => .aref (σ L) i o es n
  | .sc v => .sc v
  | .list l f xs => .list l f xs
  | .iptr l xs i o => .iptr l xs i o
  | .own es xs => .own es xs
  | .mp L => .mp (σ L)
  | .dead => .dead
def AV.renL (σ : Nat → Nat) : List AV → List AV
  | [] => []
  | a :: r => a.ren σ :: AV.renL σ r
end
theorem renL_map (σ : Nat → Nat) : ∀ l : List AV, AV.renL σ l = l.map (AV.ren σ)
  | [] => rfl
  | a :: r => by simp [AV.renL, renL_map σ r]
mutual
/-- All names in a value are good. -/
def AV.labs (p : Nat → Bool) : AV → Bool
  | .agg cs => AV.labsL p cs
  | .tup cs => AV.labsL p cs
  | .clo _ cs => AV.labsL p cs
  | .ref L _ _ => p L
  | .ptr L _ _ => p L
  | .aref L _ _ _ _ => p L
  | .mp L => p L
  | _ => true
def AV.labsL (p : Nat → Bool) : List AV → Bool
  | [] => true
  | a :: r => a.labs p && AV.labsL p r
end
mutual
theorem labs_has {p : Nat → Bool} {L : Nat} : ∀ {a : AV}, a.labs p = true → a.has L = true → p L = true
  | .agg cs, h, hh => by simp only [AV.labs] at h; simp only [AV.has] at hh; exact labsL_has h hh
  | .tup cs, h, hh => by simp only [AV.labs] at h; simp only [AV.has] at hh; exact labsL_has h hh
  | .clo g cs, h, hh => by simp only [AV.labs] at h; simp only [AV.has] at hh; exact labsL_has h hh
  | .ref L' _ _, h, hh => by simp [AV.has] at hh; subst hh; simpa [AV.labs] using h
  | .ptr L' _ _, h, hh => by simp [AV.has] at hh; subst hh; simpa [AV.labs] using h
  | .aref L' _ _ _ _, h, hh => by simp [AV.has] at hh; subst hh; simpa [AV.labs] using h
  | .mp L', h, hh => by simp [AV.has] at hh; subst hh; simpa [AV.labs] using h
  | .sc _, _, hh => by simp [AV.has] at hh
  | .list _ _ _, _, hh => by simp [AV.has] at hh
  | .iptr _ _ _ _, _, hh => by simp [AV.has] at hh
  | .own _ _, _, hh => by simp [AV.has] at hh
  | .dead, _, hh => by simp [AV.has] at hh
theorem labsL_has {p : Nat → Bool} {L : Nat} : ∀ {cs : List AV}, AV.labsL p cs = true → AV.hasL L cs = true → p L = true
  | [], _, hh => by simp [AV.hasL] at hh
  | c :: cs, h, hh => by
    simp only [AV.labsL, Bool.and_eq_true] at h
    simp only [AV.hasL, Bool.or_eq_true] at hh
    rcases hh with hh | hh
    · exact labs_has h.1 hh
    · exact labsL_has h.2 hh
end

/-- What a value names is there. -/
theorem RV.has_loc {F : Bool → Facts} {loc : Nat → Option LI} {a : AV} {v : Value} (h : RV F loc a v) : ∀ L, a.has L = true → loc L ≠ none := by
  induction h with
  | @agg F loc cs vs hl hr ho ih =>
    intro L hL
    simp only [AV.has] at hL
    obtain ⟨i, a, h1, h2⟩ := hasL_ex hL
    have hi : i < vs.size := by rw [← hl]; exact (List.getElem?_eq_some_iff.1 h1).1
    exact ih i a vs[i] h1 (by simp [hi]) L h2
  | @tup F loc cs vs hl hr ih =>
    intro L hL
    simp only [AV.has] at hL
    obtain ⟨i, a, h1, h2⟩ := hasL_ex hL
    have hi : i < vs.size := by rw [← hl]; exact (List.getElem?_eq_some_iff.1 h1).1
    exact ih i a vs[i] h1 (by simp [hi]) L h2
  | @clo F loc g cs vs hl hr ih =>
    intro L hL
    simp only [AV.has] at hL
    obtain ⟨i, a, h1, h2⟩ := hasL_ex hL
    have hi : i < vs.size := by rw [← hl]; exact (List.getElem?_eq_some_iff.1 h1).1
    exact ih i a vs[i] h1 (by simp [hi]) L h2
  | refNil h => intro L hL; simp [AV.has] at hL; subst hL; rw [h]; simp
  | ref h => intro L hL; simp [AV.has] at hL; subst hL; rw [h]; simp
  | ptr h => intro L hL; simp [AV.has] at hL; subst hL; rw [h]; simp
  | aref h => intro L hL; simp [AV.has] at hL; subst hL; rw [h]; simp
  | mp h => intro L hL; simp [AV.has] at hL; subst hL; rw [h]; simp
  | _ => intro L hL; simp [AV.has] at hL

theorem RV.ren {F : Bool → Facts} {loc : Nat → Option LI} {a : AV} {v : Value} (h : RV F loc a v) : ∀ {loc' : Nat → Option LI} {σ : Nat → Nat}, (∀ L, a.has L = true → loc' (σ L) = loc L) → RV F loc' (a.ren σ) v := by
  induction h with
  | sc h => intro loc' σ _; exact .sc h
  | @agg F loc cs vs hl hr ho ih =>
    intro loc' σ hloc
    simp only [AV.ren, renL_map]
    refine .agg (by simpa using hl) (fun i a v ha hv => ?_) ho
    rw [List.getElem?_map] at ha
    cases hc : cs[i]? with
    | none => simp [hc] at ha
    | some c => simp [hc] at ha; subst ha; exact ih i c v hc hv fun L hL => hloc L (by simp only [AV.has]; exact hasL_get hc hL)
  | @tup F loc cs vs hl hr ih =>
    intro loc' σ hloc
    simp only [AV.ren, renL_map]
    refine .tup (by simpa using hl) (fun i a v ha hv => ?_)
    rw [List.getElem?_map] at ha
    cases hc : cs[i]? with
    | none => simp [hc] at ha
    | some c => simp [hc] at ha; subst ha; exact ih i c v hc hv fun L hL => hloc L (by simp only [AV.has]; exact hasL_get hc hL)
  | nil => intro loc' σ _; exact .nil
  | list h1 h2 h3 h4 h5 h6 h7 h8 ih => intro loc' σ _; exact .list h1 h2 h3 h4 h5 h6 h7 h8
  | iptr h1 h2 h6 h7 h8 ih => intro loc' σ _; exact .iptr h1 h2 h6 h7 h8
  | refNil h => intro loc' σ hloc; exact .refNil ((hloc _ (by simp [AV.has])).trans h)
  | ref h h1 h2 h3 h4 => intro loc' σ hloc; exact .ref ((hloc _ (by simp [AV.has])).trans h) h1 h2 h3 h4
  | ptr h h1 => intro loc' σ hloc; exact .ptr ((hloc _ (by simp [AV.has])).trans h) h1
  | aref h h1 h2 h3 => intro loc' σ hloc; exact .aref ((hloc _ (by simp [AV.has])).trans h) h1 h2 h3
  | @clo F loc g cs vs hl hr ih =>
    intro loc' σ hloc
    simp only [AV.ren, renL_map]
    refine .clo (by simpa using hl) (fun i a v ha hv => ?_)
    rw [List.getElem?_map] at ha
    cases hc : cs[i]? with
    | none => simp [hc] at ha
    | some c => simp [hc] at ha; subst ha; exact ih i c v hc hv fun L hL => hloc L (by simp only [AV.has]; exact hasL_get hc hL)
  | mp h => intro loc' σ hloc; exact .mp ((hloc _ (by simp [AV.has])).trans h)
  | dead => intro loc' σ _; exact .dead

theorem ren_cells (σ : Nat → Nat) (a : AV) : (a.ren σ).cells = a.cells.map (AV.ren σ) := by
  cases a <;> simp [AV.ren, AV.cells, renL_map]

def renX (σ : Nat → Nat) (x : AObj) : AObj := if x.arr = true then x else { x with xs := x.xs.map (AV.ren σ) }
/-- The objects under other names, and pinned or not as q says. -/
def renO (σ : Nat → Nat) (q : Nat → Bool → Bool) (o : Objs) : Objs := o.map fun p => (σ p.1, { renX σ p.2 with pin := q p.1 p.2.pin })
def renT (σ : Nat → Nat) (t : List (Nat × AV)) : List (Nat × AV) := t.map fun p => (p.1, p.2.ren σ)

theorem renX_arr (σ x) : (renX σ x).arr = x.arr := by unfold renX; split <;> rfl
theorem renX_fz (σ x) : (renX σ x).fz = x.fz := by unfold renX; split <;> rfl
theorem renX_es (σ x) : (renX σ x).es = x.es := by unfold renX; split <;> rfl
theorem locO_any {x y : AObj} (h : locO x none = locO y none) (p : Option (Nat × Nat)) : locO x p = locO y p := by
  unfold locO at *
  split at h <;> split at h <;> simp_all
theorem renX_kd (σ x) : (renX σ x).kd = x.kd := by unfold renX; split <;> rfl
theorem renX_loc (σ : Nat → Nat) (x : AObj) (b : Bool) (p : Option (Nat × Nat)) : locO { renX σ x with pin := b } p = locO x p :=
  locO_congr (by unfold renX; split <;> rfl) (by unfold renX; split <;> simp) (by unfold renX; split <;> rfl) p
theorem renX_len (σ x) : (renX σ x).xs.length = x.xs.length := by unfold renX; split <;> simp

section
variable {σ τ : Nat → Nat} {q : Nat → Bool → Bool}

theorem lk_ren : ∀ {o : Objs} {M : Nat} {y : AObj}, (∀ p ∈ o, τ (σ p.1) = p.1) → lk (renO σ q o) M = some y → ∃ x, M = σ (τ M) ∧ lk o (τ M) = some x ∧ y = { renX σ x with pin := q (τ M) x.pin }
  | [], M, y, _, h => by simp [renO, lk] at h
  | (k, x) :: o, M, y, hk, h => by
    simp only [renO, List.map_cons, lk] at h
    by_cases hM : σ k = M
    · rw [if_pos hM] at h
      have h1 : τ M = k := by rw [← hM]; exact hk (k, x) (by simp)
      exact ⟨x, by rw [h1]; exact hM.symm, by rw [h1]; simp [lk], by rw [h1]; exact (Option.some.inj h).symm⟩
    · rw [if_neg hM] at h
      obtain ⟨x', g1, g2, g3⟩ := lk_ren (o := o) (fun p hp => hk p (by simp [hp])) h
      refine ⟨x', g1, ?_, g3⟩
      simp only [lk]
      rw [if_neg (fun e => hM (by rw [e]; exact g1.symm))]
      exact g2

theorem lk_ren_of : ∀ {o : Objs} {L : Nat} {x : AObj}, (∀ p ∈ o, τ (σ p.1) = p.1) → lk o L = some x → lk (renO σ q o) (σ L) = some { renX σ x with pin := q L x.pin } ∧ τ (σ L) = L
  | [], L, x, _, h => by simp [lk] at h
  | (k, x') :: o, L, x, hk, h => by
    simp only [renO, List.map_cons, lk]
    simp only [lk] at h
    by_cases hL : k = L
    · subst hL
      rw [if_pos rfl] at h
      obtain rfl := Option.some.inj h
      exact ⟨by simp, hk (k, x') (by simp)⟩
    · rw [if_neg hL] at h
      obtain ⟨g1, g2⟩ := lk_ren_of (o := o) (fun p hp => hk p (by simp [hp])) h
      refine ⟨?_, g2⟩
      rw [if_neg (fun e => hL (by have := hk (k, x') (by simp); simp only at this; rw [e, g2] at this; exact this.symm))]
      exact g1

theorem locOf_ren {o : Objs} {μ μ' : Pl} (hk : ∀ p ∈ o, τ (σ p.1) = p.1) (hμ : ∀ L x, lk o L = some x → μ' (σ L) = μ L) {L : Nat} (hL : locOf o μ L ≠ none) : locOf (renO σ q o) μ' (σ L) = locOf o μ L := by
  unfold locOf at hL ⊢
  cases hx : lk o L with
  | none => simp [hx] at hL
  | some x =>
    obtain ⟨g1, g2⟩ := lk_ren_of (q := q) hk hx
    rw [g1]
    simp only [Option.map_some, renX_loc, hμ L x hx]

theorem ObjR_ren {F : Bool → Facts} {loc loc' : Nat → Option LI} {w : World} {x : AObj} {p : Option (Nat × Nat)} {b : Bool} (h : ObjR F loc w x p) (hl : ∀ L, loc L ≠ none → loc' (σ L) = loc L) : ObjR F loc' w { renX σ x with pin := b } p := by
  cases p with
  | none =>
    show (renX σ x).xs = []
    have h' : x.xs = [] := h
    unfold renX
    split <;> simp [h']
  | some p =>
    obtain ⟨bl, cap⟩ := p
    rcases h with ⟨c, e, h1, h2, h3, h4, h5, h6, h7⟩ | hmap
    rotate_left
    · have hx : renX σ x = x := by simp [renX, hmap.2.1]
      rw [hx]
      exact .inr hmap
    cases harr : x.arr with
    | true =>
      have hx : renX σ x = x := by simp [renX, harr]
      rw [hx]
      refine .inl ⟨c, e, h1, h2, h3, h4, h5, fun i y j a hy ha => ?_, h7⟩
      obtain ⟨v, g1, g2, g3, g4⟩ := h6 i y j a hy ha
      refine ⟨v, g1, g2, ?_, g4⟩
      show RV (oF x.arr F) (oL x.arr loc') a v
      rw [harr] at g3 ⊢; exact g3
    | false =>
      have hx : renX σ x = { x with xs := x.xs.map (AV.ren σ) } := by simp [renX, harr]
      rw [hx]
      refine .inl ⟨c, e, h1, h2, by simpa using h3, by simpa using h4, fun y hy => ?_, fun i y j a hy ha => ?_, h7⟩
      · obtain ⟨z, hz, rfl⟩ := List.mem_map.1 hy
        rw [ren_cells]; simpa using h5 z hz
      · simp only [List.getElem?_map] at hy
        cases hz : x.xs[i]? with
        | none => simp [hz] at hy
        | some z =>
          simp [hz] at hy
          subst hy
          rw [ren_cells, List.getElem?_map] at ha
          cases hb : z.cells[j]? with
          | none => simp [hb] at ha
          | some a0 =>
            simp [hb] at ha
            subst ha
            obtain ⟨v, g1, g2, g3, g4⟩ := h6 i z j a0 hz hb
            refine ⟨v, g1, g2, ?_, g4⟩
            show RV (oF x.arr F) (oL x.arr loc') _ v
            rw [harr] at g3 ⊢
            exact g3.ren fun L hL => hl L (g3.has_loc L hL)
end

/-- The way in: the caller's objects beyond the callee's names, all pinned. -/
def inO (K : Nat) (o : Objs) : Objs := renO (· + K) (fun _ _ => true) o
def inMu (K : Nat) (μ : Pl) : Pl := fun M => if K ≤ M then μ (M - K) else none
def inCx (C : Cx) (F : Bool → Facts) (μ : Pl) (o : Objs) (w : World) (K : Nat) : Cx := { w0 := w, F0 := F, o0 := inO K o, μ0 := inMu K μ }

theorem in_key {K : Nat} {o : Objs} : ∀ p ∈ o, (fun M => M - K) ((fun L => L + K) p.1) = p.1 := fun p _ => by simp

theorem in_loc {K : Nat} {o : Objs} {μ : Pl} {L : Nat} (hL : locOf o μ L ≠ none) : locOf (inO K o) (inMu K μ) (L + K) = locOf o μ L :=
  locOf_ren (σ := (· + K)) (τ := (· - K)) (in_key (K := K)) (fun L x _ => by simp [inMu]) hL

theorem SW.enter {C F μ} {o : Objs} {w : World} (h : SW C F μ o w) (K : Nat) : SW (inCx C F μ o w K) F (inMu K μ) (inO K o) w := by
  have hlk : ∀ {M y}, lk (inO K o) M = some y → ∃ x, M = (M - K) + K ∧ lk o (M - K) = some x ∧ y = { renX (· + K) x with pin := true } := fun {M y} hy => by
    obtain ⟨x, g1, g2, g3⟩ := lk_ren (σ := (· + K)) (τ := (· - K)) (in_key (K := K)) hy
    exact ⟨x, g1, g2, g3⟩
  have hmu : ∀ {M}, M = (M - K) + K → inMu K μ M = μ (M - K) := fun {M} hM => by unfold inMu; rw [if_pos (by omega)]
  refine ⟨h.facts, h.sub, fun b k v hv => .inl hv, FLe.refl _, fun b k v hv => .inl hv, Fr.refl _ _, fun M y hy => ?_, fun M y M' y' b c c' hy hy' hm hm' => ?_, fun M y b c hy hm hz => ?_, fun M y b c hy hm => ?_, fun M y y0 h0 hy hp => ?_⟩
  · obtain ⟨x, g1, g2, rfl⟩ := hlk hy
    rw [hmu g1]
    exact ObjR_ren (h.obj _ x g2) fun L hL => in_loc hL
  · obtain ⟨x, g1, g2, rfl⟩ := hlk hy
    obtain ⟨x', g1', g2', rfl⟩ := hlk hy'
    rw [hmu g1] at hm
    rw [hmu g1'] at hm'
    have := h.dist _ x _ x' b c c' g2 g2' hm hm'
    omega
  · obtain ⟨x, g1, g2, rfl⟩ := hlk hy
    rw [hmu g1] at hm
    exact h.excl _ x b c g2 hm (by simpa [renX_fz] using hz)
  · exact .inr ⟨M, y, c, hy, hm⟩
  · have : y = y0 := by have := h0.symm.trans hy; exact (Option.some.inj this).symm
    subst this
    exact ⟨rfl, rfl, rfl⟩

/-- Behind the call: an object of the caller that still is what it was. -/
def old (K : Nat) (o o' : Objs) (L : Nat) : Bool := decide (K ≤ L) && (lk o (L - K)).isSome && match lk o' L with
  | some x => x.pin
  | none => false
def outN (K B : Nat) (o o' : Objs) (L : Nat) : Nat := if old K o o' L = true then L - K else L + B
def outTau (K B : Nat) (M : Nat) : Nat := if M < B then M + K else M - B
def pinOf (o : Objs) (L : Nat) : Bool := match lk o L with
  | some x => x.pin
  | none => false
/-- The caller's objects behind the call. -/
def outO (K B : Nat) (o o' : Objs) : Objs := renO (outN K B o o') (fun L b => old K o o' L && pinOf o (L - K)) o'
def keysLt (B : Nat) (o : Objs) : Bool := o.all fun p => decide (p.1 < B)
/-- The caller's state behind the call: r the result. -/
def backS (K B : Nat) (s : ASt) (d : Nat) (r : AV) (o' : Objs) : ASt :=
  { n := s.n, t := (d, r.ren (outN K B s.o o')) :: s.t.map fun p => (p.1, if p.2.labs (fun L => old K s.o o' (L + K)) = true then p.2 else .dead), o := outO K B s.o o' }

theorem keysLt_lk {B : Nat} : ∀ {o : Objs} {L : Nat} {x : AObj}, keysLt B o = true → lk o L = some x → L < B
  | [], L, x, _, h => by simp [lk] at h
  | (k, y) :: o, L, x, hk, h => by
    simp only [keysLt, List.all_cons, Bool.and_eq_true, decide_eq_true_eq] at hk
    simp only [lk] at h
    by_cases hL : k = L
    · subst hL; exact hk.1
    · rw [if_neg hL] at h; exact keysLt_lk hk.2 h

theorem old_spec {K : Nat} {o o' : Objs} {L : Nat} (h : old K o o' L = true) : K ≤ L ∧ (∃ x0, lk o (L - K) = some x0) ∧ ∃ x, lk o' L = some x ∧ x.pin = true := by
  simp only [old, Bool.and_eq_true, decide_eq_true_eq] at h
  obtain ⟨⟨h1, h2⟩, h3⟩ := h
  refine ⟨h1, Option.isSome_iff_exists.1 h2, ?_⟩
  cases hx : lk o' L with
  | none => simp [hx] at h3
  | some x => simp [hx] at h3; exact ⟨x, rfl, h3⟩

theorem out_key {K B : Nat} {o o' : Objs} (hB : keysLt B o = true) (L : Nat) : outTau K B (outN K B o o' L) = L := by
  unfold outN
  split
  · rename_i h
    obtain ⟨h1, ⟨x0, h2⟩, _⟩ := old_spec h
    have := keysLt_lk hB h2
    unfold outTau
    rw [if_pos this]; omega
  · unfold outTau
    rw [if_neg (by omega)]; omega

theorem SR.leave {C F μ} {s : ASt} {a : Act} {w : World} (h : SR C F μ s a w) {K B : Nat} (hB : keysLt B s.o = true) {F' : Bool → Facts} {μ' : Pl} {o' : Objs} {w' : World} (h' : SW (inCx C F μ s.o w K) F' μ' o' w')
    {d : Nat} (hd : d < s.n) {r : AV} {v : Value} (hr : RV F' (locOf o' μ') r v) :
    SR C F' (fun M => μ' (outTau K B M)) (backS K B s d r o') (a.put (some d) v) w' := by
  have hsw := h.sw
  have hkey : ∀ p ∈ o', outTau K B (outN K B s.o o' p.1) = p.1 := fun p _ => out_key hB p.1
  have hlk : ∀ {M y}, lk (outO K B s.o o') M = some y → ∃ x, M = outN K B s.o o' (outTau K B M) ∧ lk o' (outTau K B M) = some x ∧ y = { renX (outN K B s.o o') x with pin := old K s.o o' (outTau K B M) && pinOf s.o (outTau K B M - K) } := fun {M y} hy => by
    obtain ⟨x, g1, g2, g3⟩ := lk_ren (σ := outN K B s.o o') (τ := outTau K B) hkey hy
    exact ⟨x, g1, g2, g3⟩
  have hloc : ∀ L, locOf o' μ' L ≠ none → locOf (outO K B s.o o') (fun M => μ' (outTau K B M)) (outN K B s.o o' L) = locOf o' μ' L := fun L hL =>
    locOf_ren (σ := outN K B s.o o') (τ := outTau K B) hkey (fun L x _ => by simp only [out_key hB]) hL
  have hM : ∀ b, (inCx C F μ s.o w K).M b → C.w0.heap.size ≤ b ∨ C.M b := by
    rintro b ⟨M, x, c, hx, hm⟩
    obtain ⟨x0, g1, g2, _⟩ := lk_ren (o := s.o) (q := fun _ _ => true) (M := M) (y := x) (σ := (· + K)) (τ := (· - K)) (in_key (K := K)) hx
    have hm' : μ (M - K) = some (b, c) := by
      have : inMu K μ M = some (b, c) := hm
      unfold inMu at this
      split at this
      · exact this
      · cases this
    exact hsw.mine _ x0 b c g2 hm'
  have hold : ∀ L, old K s.o o' (L + K) = true → outN K B s.o o' (L + K) = L ∧ ∃ x0 x, lk s.o L = some x0 ∧ lk o' (L + K) = some x ∧ x.pin = true ∧ μ' (L + K) = μ L ∧ (∀ p, locO x p = locO x0 p) ∧ x.arr = x0.arr := by
    intro L hL
    obtain ⟨g1, ⟨x0, g2⟩, x, g3, g4⟩ := old_spec hL
    rw [Nat.add_sub_cancel] at g2
    refine ⟨by unfold outN; rw [if_pos hL]; omega, x0, x, g2, g3, g4, ?_⟩
    obtain ⟨k1, _⟩ := lk_ren_of (σ := (· + K)) (τ := (· - K)) (q := fun _ _ => true) (in_key (K := K)) g2
    have := h'.keep (L + K) x _ k1 g3 g4
    obtain ⟨e1, e2, e4⟩ := this
    refine ⟨?_, fun p => (locO_any e2 p).trans (renX_loc _ _ _ _), by rw [e4]; exact renX_arr _ _⟩
    rw [e1]
    show inMu K μ (L + K) = μ L
    simp [inMu]
  refine ⟨⟨h'.facts, h'.sub, ?_, hsw.grow.trans h'.grow, ?_, ?_, ?_, ?_, ?_, ?_, ?_⟩, h.defers, ?_, ?_⟩
  · intro b k u hu
    rcases h'.lentc b k u hu with hh | hh
    · rcases hsw.lentc b k u hh with hh | hh
      · exact .inl hh
      · exact .inr (h'.grow _ _ _ _ hh)
    · exact .inr hh
  · intro b k u hu
    rcases h'.newf b k u hu with hh | hh | hh
    · exact hsw.newf b k u hh
    · exact .inr (.inl (Nat.le_trans hsw.fr.size hh))
    · exact .inr (hM b hh)
  · refine hsw.fr.trans h'.fr fun k hk hkm => ?_
    rcases hM k hkm with hh | hh
    · omega
    · exact hh
  · intro M y hy
    obtain ⟨x, g1, g2, rfl⟩ := hlk hy
    exact ObjR_ren (h'.obj _ x g2) fun L hL => hloc L hL
  · intro M y M' y' b c c' hy hy' hm hm'
    obtain ⟨x, g1, g2, rfl⟩ := hlk hy
    obtain ⟨x', g1', g2', rfl⟩ := hlk hy'
    have := h'.dist _ x _ x' b c c' g2 g2' hm hm'
    rw [g1, g1', this]
  · intro M y b c hy hm hz
    obtain ⟨x, g1, g2, rfl⟩ := hlk hy
    exact h'.excl _ x b c g2 hm (by simpa [renX_fz] using hz)
  · intro M y b c hy hm
    obtain ⟨x, g1, g2, rfl⟩ := hlk hy
    rcases h'.mine _ x b c g2 hm with hh | hh
    · exact .inl (Nat.le_trans hsw.fr.size hh)
    · exact hM b hh
  · intro M y y0 h0 hy hp
    obtain ⟨x, g1, g2, rfl⟩ := hlk hy
    simp only [Bool.and_eq_true] at hp
    obtain ⟨hp1, hp2⟩ := hp
    have hKM : K ≤ outTau K B M := (old_spec hp1).1
    have hp1' : old K s.o o' ((outTau K B M - K) + K) = true := by rw [Nat.sub_add_cancel hKM]; exact hp1
    obtain ⟨k1, x0, x1, k2, k3, k4, k5, k6, k8⟩ := hold _ hp1'
    rw [Nat.sub_add_cancel hKM] at k1 k3 k5
    have hMe : outTau K B M - K = M := by rw [← k1]; exact g1.symm
    rw [hMe] at k2 k5 hp2
    have hx1 : x1 = x := Option.some.inj (k3.symm.trans g2)
    subst hx1
    have hpin : x0.pin = true := by simpa [pinOf, k2] using hp2
    obtain ⟨e1, e2, e4⟩ := hsw.keep M x0 y0 h0 k2 hpin
    refine ⟨k5.trans e1, ?_, ?_⟩
    · rw [renX_loc, k6, e2]
    · show (renX _ x1).arr = _
      rw [renX_arr, k8, e4]
  · show (a.put (some d) v).tmps.size = s.n
    simp [Act.put, h.n]
  · intro i x hx
    rw [put_slot (by rw [h.n]; exact hd)]
    simp only [backS, lk] at hx
    by_cases hi : d = i
    · subst hi
      rw [if_pos rfl] at hx ⊢
      obtain rfl := Option.some.inj hx
      exact hr.ren fun L hL => hloc L (hr.has_loc L hL)
    · rw [if_neg hi] at hx
      rw [if_neg (fun e => hi e.symm)]
      rw [get_map (fun y : AV => if y.labs (fun L => old K s.o o' (L + K)) = true then y else .dead)] at hx
      cases hy : lk s.t i with
      | none => simp [hy] at hx
      | some y =>
        simp [hy] at hx
        have hv := h.slot i y hy
        split at hx
        · rename_i hlab
          subst hx
          refine hv.congr h'.grow fun L hL => ?_
          obtain ⟨k1, x0, x1, k2, k3, k4, k5, k6, k8⟩ := hold L (labs_has (p := fun L => old K s.o o' (L + K)) hlab hL)
          have hne : locOf o' μ' (L + K) ≠ none := by simp [locOf, k3]
          have := hloc (L + K) hne
          rw [k1] at this
          rw [show (backS K B s d r o').o = outO K B s.o o' from rfl, this]
          simp [locOf, k2, k3, k5, k6]
        · subst hx; exact .dead

/-- Called on the objects o, function f returns a value and turns the objects as R says. -/
def MCall (P : Program) (f : FuncId) (args : List AV) (o : Objs) (R : AV → Objs → Prop) : Prop :=
  (∀ cargs w, (callFunc f cargs).run P w = .ok (.enter f cargs) w) ∧
  ∀ (C : Cx) (F : Bool → Facts) (μ : Pl) (w : World) (cargs : Array Value), C.w0 = w → C.F0 = F → C.o0 = o → C.μ0 = μ → SW C F μ o w → args.length = cargs.size →
    (∀ (i : Nat) (a : AV) (v : Value), args[i]? = some a → cargs[i]? = some v → RV F (locOf o μ) a v) →
    Calls P f cargs w fun e w' => ∃ v r o' F' μ', e = .returned v ∧ R r o' ∧ SW C F' μ' o' w' ∧ RV F' (locOf o' μ') r v

theorem MCall.mono {P f args o} {R R' : AV → Objs → Prop} (h : MCall P f args o R) (hR : ∀ r o', R r o' → R' r o') : MCall P f args o R' :=
  ⟨h.1, fun C F μ w cargs h1 h2 h3 h4 h5 h6 h7 => (h.2 C F μ w cargs h1 h2 h3 h4 h5 h6 h7).mono fun e w' ⟨v, r, o', F', μ', g1, g2, g3⟩ => ⟨v, r, o', F', μ', g1, hR r o' g2, g3⟩⟩

/-- The call, from the caller's state. -/
theorem MCall.use {P f} {as : List AV} {R : AV → Objs → Prop} {C F μ} {s : ASt} {a : Act} {w : World} {K B : Nat} (hc : MCall P f (as.map (AV.ren (· + K))) (inO K s.o) R) (h : SR C F μ s a w) (hB : keysLt B s.o = true) {d : Nat} (hd : d < s.n)
    {cargs : Array Value} (hl : as.length = cargs.size) (hv : ∀ (i : Nat) (x : AV) (v : Value), as[i]? = some x → cargs[i]? = some v → RV F (locOf s.o μ) x v) :
    Calls P f cargs w fun e w' => ∃ v r o' F' μ', e = .returned v ∧ R r o' ∧ SR C F' μ' (backS K B s d r o') (a.put (some d) v) w' := by
  refine (hc.2 (inCx C F μ s.o w K) F (inMu K μ) w cargs rfl rfl rfl rfl (h.sw.enter K) (by simpa using hl) (fun i x v hx hxv => ?_)).mono ?_
  · rw [List.getElem?_map] at hx
    cases hy : as[i]? with
    | none => simp [hy] at hx
    | some y =>
      simp [hy] at hx
      subst hx
      have := hv i y v hy hxv
      exact this.ren fun L hL => in_loc (this.has_loc L hL)
  · rintro e w' ⟨v, r, o', F', μ', rfl, hR, hsw, hr⟩
    exact ⟨v, r, o', F', _, rfl, hR, h.leave hB hsw hd hr⟩

end Go.Ab
