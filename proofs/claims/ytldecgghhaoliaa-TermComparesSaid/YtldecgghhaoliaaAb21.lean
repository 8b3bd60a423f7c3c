/-
  Ab21: weaker states, for the head of a loop.
-/
import Derived.Test.YtldecgghhaoliaaAb20
namespace Go.Ab
open Go.RowKit
set_option linter.unusedVariables false
set_option linter.unusedSimpArgs false

mutual
/-- All that a value names is there. -/
def AV.okIn (o : Objs) : AV → Bool
  | .agg cs => AV.okInL o cs
  | .tup cs => AV.okInL o cs
  | .clo _ cs => AV.okInL o cs
  | .ref L _ _ => (lk o L).isSome
  | .ptr L _ _ => (lk o L).isSome
  | .aref L _ _ _ _ => (lk o L).isSome
  | .mp L => (lk o L).isSome
  | _ => true
def AV.okInL (o : Objs) : List AV → Bool
  | [] => true
  | a :: r => a.okIn o && AV.okInL o r
end

mutual
theorem okIn_has {o : Objs} {L : Nat} : ∀ {a : AV}, a.okIn o = true → a.has L = true → (lk o L).isSome = true
  | .agg cs, h, hh => by simp only [AV.okIn] at h; simp only [AV.has] at hh; exact okInL_has h hh
  | .tup cs, h, hh => by simp only [AV.okIn] at h; simp only [AV.has] at hh; exact okInL_has h hh
  | .clo g cs, h, hh => by simp only [AV.okIn] at h; simp only [AV.has] at hh; exact okInL_has h hh
  | .ref L' _ _, h, hh => by simp [AV.has] at hh; subst hh; simpa [AV.okIn] using h
  | .ptr L' _ _, h, hh => by simp [AV.has] at hh; subst hh; simpa [AV.okIn] using h
  | .aref L' _ _ _ _, h, hh => by simp [AV.has] at hh; subst hh; simpa [AV.okIn] using h
  | .mp L', h, hh => by simp [AV.has] at hh; subst hh; simpa [AV.okIn] using h
  | .sc _, _, hh => by simp [AV.has] at hh
  | .list _ _ _, _, hh => by simp [AV.has] at hh
  | .iptr _ _ _ _, _, hh => by simp [AV.has] at hh
  | .own _ _, _, hh => by simp [AV.has] at hh
  | .dead, _, hh => by simp [AV.has] at hh
theorem okInL_has {o : Objs} {L : Nat} : ∀ {cs : List AV}, AV.okInL o cs = true → AV.hasL L cs = true → (lk o L).isSome = true
  | [], _, hh => by simp [AV.hasL] at hh
  | c :: cs, h, hh => by
    simp only [AV.okInL, Bool.and_eq_true] at h
    simp only [AV.hasL, Bool.or_eq_true] at hh
    rcases hh with hh | hh
    · exact okIn_has h.1 hh
    · exact okInL_has h.2 hh
end

theorem lk_mem {α : Type} : ∀ {l : List (Nat × α)} {i : Nat} {a : α}, lk l i = some a → (i, a) ∈ l
  | [], i, a, h => by simp [lk] at h
  | (k, b) :: l, i, a, h => by
    simp only [lk] at h
    by_cases hk : k = i
    · subst hk; rw [if_pos rfl] at h; obtain rfl := Option.some.inj h; simp
    · rw [if_neg hk] at h; simp [lk_mem h]

def boxOk (o : Objs) (x : AObj) : Bool := x.arr || AV.okInL o x.xs

/-- Slots and objects forgotten. -/
theorem Le.sub {s0 s : ASt} (hn : s0.n = s.n) (ht : ∀ p ∈ s0.t, lk s.t p.1 = some p.2) (ho : ∀ p ∈ s0.o, lk s.o p.1 = some p.2) (hr : ∀ p ∈ s0.t, p.2.okIn s0.o = true) (hb : ∀ p ∈ s0.o, boxOk s0.o p.2 = true) : Le s0 s := by
  intro C F μ a w hs
  have hlo : ∀ L x, lk s0.o L = some x → lk s.o L = some x := fun L x hx => ho _ (lk_mem hx)
  have hloc : ∀ L, (lk s0.o L).isSome = true → locOf s0.o μ L = locOf s.o μ L := fun L hL => by
    obtain ⟨x, hx⟩ := Option.isSome_iff_exists.1 hL
    simp [locOf, hx, hlo L x hx]
  refine ⟨F, μ, ⟨hs.sw.facts, hs.sw.sub, hs.sw.lentc, hs.sw.grow, hs.sw.newf, hs.sw.fr, fun L x hx => ?_, fun L x L' x' b c c' hx hx' => hs.sw.dist L x L' x' b c c' (hlo L x hx) (hlo L' x' hx'),
    fun L x b c hx => hs.sw.excl L x b c (hlo L x hx), fun L x b c hx => hs.sw.mine L x b c (hlo L x hx), fun L x x0 h0 hx => hs.sw.keep L x x0 h0 (hlo L x hx)⟩, hs.defers, by rw [hn]; exact hs.n, fun i x hx => ?_⟩
  · have := hs.sw.obj L x (hlo L x hx)
    cases hm : μ L with
    | none => rw [hm] at this; exact this
    | some p =>
      obtain ⟨b, cap⟩ := p
      rw [hm] at this
      cases harr : x.arr with
      | true =>
        rcases this with ⟨c, e, q1, q2, q3, q4, q5, q6, q7⟩ | this
        rotate_left
        · exact .inr this
        refine .inl ⟨c, e, q1, q2, q3, q4, q5, fun i y j a hy hj => ?_, q7⟩
        obtain ⟨v, g1, g2, g3, g4⟩ := q6 i y j a hy hj
        rw [harr] at g3
        exact ⟨v, g1, g2, by rw [harr]; exact g3, g4⟩
      | false =>
        refine this.congr rfl (FLe.refl _) fun L' hL' => hloc L' ?_
        have := hb _ (lk_mem hx)
        simp [boxOk, harr] at this
        exact okInL_has this hL'
  · have hx' := ht _ (lk_mem hx)
    exact (hs.slot i x hx').congr (FLe.refl _) fun L hL => hloc L (okIn_has (hr _ (lk_mem hx)) hL)

/-- A nil slice becomes an array of the walk's own, of no element. -/
theorem Le.nil {s : ASt} {i T es : Nat} {l : Bool} (h : lk s.t i = some (.list l true [])) : Le { n := s.n, t := (i, .ref T 0 0) :: killT T (killT T s.t), o := (T, arrO es []) :: killO T (killO T (del s.o T)) } s := by
  intro C F μ a w hs
  have h1 := hs.renew0 (L := T) (T := T) (x := arrO es []) (p := none) rfl rfl rfl (Fr.refl _ _) (by rfl) (fun b c hbc => by cases hbc)
  refine ⟨F, upd μ T none, h1.sw, h1.defers, h1.n, fun j x hx => ?_⟩
  simp only [lk] at hx
  by_cases hij : i = j
  · subst hij
    rw [if_pos rfl] at hx
    obtain rfl := Option.some.inj hx
    have hv := hs.slot i _ h
    generalize a.tmps.getD i undef = v at hv
    have hl : locOf ((T, arrO es []) :: killO T (killO T (del s.o T))) (upd μ T none) T = some ⟨none, es, 0, false⟩ := by simp [locOf, lk, upd, arrO, locO]
    cases hv with
    | nil => exact .refNil hl
    | list g1 g2 g3 g4 =>
      have := g4 rfl
      simp at this
      subst this
      exact .refNil hl
  · rw [if_neg hij] at hx
    exact h1.slot j x hx

/-- An array gets another name. -/
theorem Le.move {s : ASt} {i T T' lo n : Nat} {x : AObj} (h : lk s.t i = some (.ref T lo n)) (hk : x.kd ≠ 1) (hx : lk s.o T = some x) (ha : x.arr = true) (hz : x.fz = false) :
    Le { n := s.n, t := (i, .ref T' lo n) :: killT T (killT T' s.t), o := (T', { x with pin := false }) :: killO T (killO T' (del s.o T)) } s := by
  intro C F μ a w hs
  have ho := hs.sw.obj T x hx
  have h1 := hs.renew0 (L := T) (T := T') (x := { x with pin := false }) (p := μ T) hz rfl ha (Fr.refl _ _) (by
    cases hm : μ T with
    | none => rw [hm] at ho; exact ho
    | some q =>
      obtain ⟨b, cap⟩ := q
      rw [hm] at ho
      obtain ⟨c, e, q1, q2, q3, q4, q5, q6, q7⟩ := ObjAt.std ho hk
      refine .inl ⟨c, e, q1, q2, q3, q4, q5, fun i y j a hy hj => ?_, q7⟩
      obtain ⟨v, g1, g2, g3, g4⟩ := q6 i y j a hy hj
      rw [ha] at g3
      exact ⟨v, g1, g2, by show RV (oF x.arr F) (oL x.arr noloc) a v; rw [ha]; exact g3, g4⟩) (fun b c hbc => .inr ⟨x, c, hx, hz, hbc⟩)
  refine ⟨F, upd μ T' (μ T), h1.sw, h1.defers, h1.n, fun j y hy => ?_⟩
  simp only [lk] at hy
  by_cases hij : i = j
  · subst hij
    rw [if_pos rfl] at hy
    obtain rfl := Option.some.inj hy
    have hv := hs.slot i _ h
    generalize a.tmps.getD i undef = v at hv
    have hl0 : locOf s.o μ T = some ⟨μ T, x.es, x.xs.length, false⟩ := by simp [locOf, hx, locO_mk hk]
    have hl : locOf ((T', { x with pin := false }) :: killO T (killO T' (del s.o T))) (upd μ T' (μ T)) T' = some ⟨μ T, x.es, x.xs.length, false⟩ := by simp [locOf, lk, upd, locO, hk]
    rcases RV_ref_inv hv hl0 with ⟨hm, rfl, rfl, q, rfl⟩ | ⟨b, cap, o, c, hm, rfl, g1, g2, g3, g4⟩
    · simp only at hm
      exact .refNil (hl.trans (by rw [hm]))
    · simp only at hm
      exact .ref (hl.trans (by rw [hm])) g1 g2 g3 g4
  · rw [if_neg hij] at hy
    exact h1.slot j y hy

/-- What is known of a row's length. -/
theorem AWp.bound {P c Q} {s : ASt} {i : Nat} {l f : Bool} {xs : List AV} (h : lk s.t i = some (.list l f xs)) (k : xs.length ≤ maxRow → AWp P c Q s) : AWp P c Q s := by
  intro C F μ a w hs
  refine k ?_ C F μ a w hs
  have hv := hs.slot i _ h
  generalize a.tmps.getD i undef = v at hv
  cases hv with
  | nil => simp
  | list g1 g2 g3 => exact g3

/-- A contract may know that its slices are not longer than memory. -/
theorem ACall.bound {P f} {args : List AV} {R : AV → Prop} {i : Nat} {l fl : Bool} {xs : List AV} (h : args[i]? = some (.list l fl xs)) (hc : ∀ cargs w, (callFunc f cargs).run P w = .ok (.enter f cargs) w) (k : xs.length ≤ maxRow → ACall P f args R) : ACall P f args R := by
  refine ⟨hc, fun w F cargs h1 h2 h3 => ?_⟩
  have hi : i < cargs.size := by rw [← h2]; exact (List.getElem?_eq_some_iff.1 h).1
  refine (k ?_).2 w F cargs h1 h2 h3
  have hv := h3 i _ cargs[i] h (by simp [hi])
  generalize cargs[i] = v at hv
  cases hv with
  | nil => simp
  | list g1 g2 g3 => exact g3

theorem okIn_sc {o : Objs} {v : Value} : (AV.sc v).okIn o = true := rfl
theorem okIn_list {o : Objs} {l f : Bool} {xs : List AV} : (AV.list l f xs).okIn o = true := rfl
theorem okIn_iptr {o : Objs} {l : Bool} {xs : List AV} {i k : Nat} : (AV.iptr l xs i k).okIn o = true := rfl
theorem okIn_dead {o : Objs} : AV.dead.okIn o = true := rfl
theorem okIn_ref {o : Objs} {L a b : Nat} : (AV.ref L a b).okIn o = (lk o L).isSome := rfl
theorem okIn_ptr {o : Objs} {L a b : Nat} : (AV.ptr L a b).okIn o = (lk o L).isSome := rfl
theorem okIn_mp {o : Objs} {L : Nat} : (AV.mp L).okIn o = (lk o L).isSome := rfl
theorem okIn_agg {o : Objs} {cs : List AV} : (AV.agg cs).okIn o = AV.okInL o cs := by simp [AV.okIn]
theorem okIn_tup {o : Objs} {cs : List AV} : (AV.tup cs).okIn o = AV.okInL o cs := by simp [AV.okIn]
theorem okIn_clo {o : Objs} {g : FuncId} {cs : List AV} : (AV.clo g cs).okIn o = AV.okInL o cs := by simp [AV.okIn]
theorem okInL_nil {o : Objs} : AV.okInL o [] = true := rfl
theorem okInL_cons {o : Objs} {a : AV} {r : List AV} : AV.okInL o (a :: r) = (a.okIn o && AV.okInL o r) := by simp [AV.okInL]
theorem boxOk_arr {o : Objs} {fz pin : Bool} {es kd : Nat} {xs : List AV} : boxOk o ⟨true, fz, pin, es, xs, kd⟩ = true := rfl
theorem boxOk_box {o : Objs} {fz pin : Bool} {es kd : Nat} {xs : List AV} : boxOk o ⟨false, fz, pin, es, xs, kd⟩ = AV.okInL o xs := rfl
attribute [go_sem] okIn_sc okIn_list okIn_iptr okIn_dead okIn_ref okIn_ptr okIn_agg okIn_mp okIn_tup okIn_clo okInL_nil okInL_cons boxOk_arr boxOk_box Option.isSome_some
/-- The head of a loop. -/
theorem awp_loop {P : Program} {b : Code} {Q : Exit → ASt → Prop} {s : ASt} (I : Nat → ASt → Prop) (n : Nat) (s0 : ASt) (hle : Le s0 s) (h0 : I n s0) (hr : ∀ n s, I n s → awp P b (thenQ (Again I n) Q) s) : awp P (.loop b) Q s := ⟨I, ⟨n, s0, hle, h0⟩, hr⟩
theorem Again.mk {I : Nat → ASt → Prop} {n : Nat} {s : ASt} (n' : Nat) (s0 : ASt) (hn : n' < n) (hle : Le s0 s) (h : I n' s0) : Again I n s := ⟨n', s0, hn, hle, h⟩
end Go.Ab
