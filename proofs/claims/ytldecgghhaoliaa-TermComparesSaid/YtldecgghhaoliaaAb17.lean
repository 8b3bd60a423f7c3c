/-
  Ab17: behind a call; a function's own entry and end.
-/
import Derived.Test.YtldecgghhaoliaaAb16
namespace Go.Ab
open Go.RowKit
set_option linter.unusedVariables false
set_option linter.unusedSimpArgs false

def ASt.adopt (s : ASt) (T : Nat) (x : AObj) : ASt := s.renew0 T T x

/-- The parts of a tuple; a row that is handed over becomes an object of its own. -/
def retL (n d : Nat) : Nat → ASt → List AV → ASt × List AV
  | _, s, [] => (s, [])
  | i, s, .own es xs :: rs => ((retL n d (i + 1) (s.adopt (n * (i + 1) + d) (arrO es xs)) rs).1, .ref (n * (i + 1) + d) 0 xs.length :: (retL n d (i + 1) (s.adopt (n * (i + 1) + d) (arrO es xs)) rs).2)
  | i, s, r :: rs => ((retL n d (i + 1) s rs).1, r :: (retL n d (i + 1) s rs).2)

/-- The state behind a call whose result is r. -/
def retS (s : ASt) (d : Nat) : AV → ASt
  | .own es xs => s.renew d d d (arrO es xs) (.ref d 0 xs.length)
  | .tup rs => (retL s.n d 0 s rs).1.put d (.tup (retL s.n d 0 s rs).2)
  | r => s.put d r

/-- The caller's facts behind the call. -/
def backF (F F' : Bool → Facts) : Bool → Facts := fun l b k => if l = true then (F' false b k).or (F true b k) else F' false b k

theorem SR.back {C F μ} {s : ASt} {a : Act} {w w' : World} (h : SR C F μ s a w) {F' : Bool → Facts} (hp : APost (callF F w) w F' w') : FLe F (backF F F') ∧ SR C (backF F F') μ s a w' := by
  have hFF : ∀ b k v, F false b k = some v → F' false b k = some v := fun b k v hv => hp.le false b k v hv
  have hle : FLe F (backF F F') := by
    intro l b k v hv
    cases l
    · exact hFF b k v hv
    · show (F' false b k).or (F true b k) = some v
      cases hf : F' false b k with
      | none => exact hv
      | some u =>
        have h1 := hp.ok.facts false b k u hf
        have h2 : w'.cell? ⟨b, k, none⟩ = some v := by
          have hw := h.sw.facts true b k v hv
          have := hp.le true b k v hw
          exact hp.ok.facts true b k v this
        rw [h1] at h2
        simpa using h2
  have hblk : ∀ k, k < w.heap.size → w'.heap[k]? = w.heap[k]? := fun k hk => hp.fr.block k hk (fun hh => hh)
  have hsw := h.sw
  have hnew : ∀ l b k v, backF F F' l b k = some v → F l b k = some v ∨ F' false b k = some v := by
    intro l b k v hv
    cases l
    · exact .inr hv
    · have hv' : (F' false b k).or (F true b k) = some v := hv
      cases hf : F' false b k with
      | none => rw [hf] at hv'; exact .inl hv'
      | some u => rw [hf] at hv'; exact .inr hv'
  have hob : ∀ L y b cc, lk s.o L = some y → μ L = some (b, cc) → b < w.heap.size := fun L y b cc hy hm => by
    have := hsw.obj L y hy
    rw [hm] at this
    obtain ⟨_, g⟩ := ObjAt.lt this
    exact get_block_lt g
  refine ⟨hle, ⟨?_, ?_, ?_, hsw.grow.trans hle, ?_, ?_, ?_, hsw.dist, ?_, hsw.mine, hsw.keep⟩, h.defers, h.n, fun i x hx => (h.slot i x hx).mono hle⟩
  · intro l b k v hv
    rcases hnew l b k v hv with hv | hv
    · have hw := hsw.facts l b k v hv
      rw [cell_of_block (hblk b (cell_lt hw))]; exact hw
    · exact hp.ok.facts false b k v hv
  · intro b k v hv
    show (F' false b k).or (F true b k) = some v
    have hv' : F' false b k = some v := hv
    rw [hv']; rfl
  · intro b k v hv
    rcases hnew true b k v hv with hv | hv
    · rcases hsw.lentc b k v hv with hh | hh
      · exact .inl hh
      · exact .inr (hFF b k v hh)
    · exact .inr hv
  · intro b k v hv
    rcases hp.newf b k v hv with hh | hh
    · exact hsw.newf b k v hh
    · exact .inr (.inl (Nat.le_trans hsw.fr.size hh))
  · exact hsw.fr.trans hp.fr (fun _ _ hh => hh.elim)
  · intro L y hy
    have ho := hsw.obj L y hy
    cases hm : μ L with
    | none => rw [hm] at ho; exact ho
    | some p =>
      obtain ⟨b, cc⟩ := p
      rw [hm] at ho
      exact ho.congr (hblk b (hob L y b cc hy hm)) hle fun _ _ => rfl
  · intro L y b cc hy hm hz l k
    have hF := hsw.excl L y b cc hy hm hz
    cases hb : backF F F' l b k with
    | none => rfl
    | some v =>
      rcases hnew l b k v hb with hv | hv
      · rw [hF] at hv; cases hv
      · rcases hp.newf b k v hv with hh | hh
        · have : F false b k = some v := hh
          rw [hF] at this; cases this
        · have := hob L y b cc hy hm; omega

theorem retL_n (n d : Nat) : ∀ (rs : List AV) (i : Nat) (s : ASt), (retL n d i s rs).1.n = s.n ∧ (retL n d i s rs).2.length = rs.length
  | [], i, s => ⟨rfl, rfl⟩
  | r :: rs, i, s => by
    cases r with
    | own es xs =>
      simp only [retL]
      obtain ⟨h1, h2⟩ := retL_n n d rs (i + 1) (s.adopt (n * (i + 1) + d) (arrO es xs))
      exact ⟨h1, by simp [h2]⟩
    | _ =>
      simp only [retL]
      obtain ⟨h1, h2⟩ := retL_n n d rs (i + 1) s
      exact ⟨h1, by simp [h2]⟩

theorem adopt_loc (s : ASt) (T : Nat) (x : AObj) (μ : Pl) (p) : locOf (s.adopt T x).o (upd μ T p) T = some (locO x (p)) := by simp [locOf, ASt.adopt, ASt.renew0, lk, upd]
theorem adopt_loc_ne (s : ASt) {T L : Nat} (x : AObj) (μ : Pl) (p) (h : L ≠ T) : locOf (s.adopt T x).o (upd μ T p) L = locOf s.o μ L := by
  simp only [locOf, ASt.adopt, ASt.renew0, lk, get_killO, get_del, if_neg (Ne.symm h), upd, if_neg h, Option.map_map]
  congr 1
  funext y
  exact (killX_loc T (killX T y) _).trans (killX_loc T y _)

theorem SR.adopt {C F μ} {s : ASt} {a : Act} {w : World} (h : SR C F μ s a w) {base es : Nat} {xs : List AV} {u : Value} {p : Option (Nat × Nat)} (h0 : OwnR F w base es xs u p) (hb : C.w0.heap.size ≤ base) (T : Nat)
    (hf : ∀ b c, p = some (b, c) → ∀ L y c', lk s.o L = some y → μ L = some (b, c') → False) : SR C F (upd μ T p) (s.adopt T (arrO es xs)) a w := by
  refine h.renew0 rfl rfl rfl (Fr.refl _ _) ?_ fun b c hbc => ?_
  · cases p with
    | none => exact h0.1
    | some q => exact h0.2.1
  · subst hbc
    exact .inl ⟨Nat.le_trans hb h0.2.2.1, h0.2.2.2, fun L y c' hy hm => hf b c rfl L y c' hy hm⟩

theorem OwnR.ref {F w base es xs u p} (h0 : OwnR F w base es xs u p) {loc : Nat → Option LI} {T : Nat} (hl : loc T = some ⟨p, es, xs.length, false⟩) : RV F loc (.ref T 0 xs.length) u := by
  cases p with
  | none =>
    obtain ⟨rfl, q, rfl⟩ := h0
    exact .refNil hl
  | some q =>
    obtain ⟨b, cap⟩ := q
    obtain ⟨rfl, ho, _⟩ := h0
    have hle : xs.length ≤ cap := by obtain ⟨c, e, q1, q2, q3, q4⟩ := ho.std (by simp [arrO]); exact q3
    exact .ref (o := 0) (c := cap) hl (by omega) hle (fun _ => by simp) (fun _ => rfl)

theorem adopt_objs {s : ASt} {T : Nat} {x : AObj} {L : Nat} {y : AObj} (h : lk (s.adopt T x).o L = some y) : L = T ∨ ∃ z, lk s.o L = some z := by
  simp only [ASt.adopt, ASt.renew0, lk, get_killO, get_del] at h
  by_cases hT : T = L
  · exact .inl hT.symm
  · rw [if_neg hT, if_neg hT] at h
    simp only [Option.map_map, Option.map_eq_some_iff] at h
    obtain ⟨z, hz, _⟩ := h
    exact .inr ⟨z, hz⟩

def isOwn : AV → Bool
  | .own _ _ => true
  | _ => false
theorem retL_other {n d i : Nat} {s : ASt} {r : AV} {rs : List AV} (h : isOwn r = false) : retL n d i s (r :: rs) = ((retL n d (i + 1) s rs).1, r :: (retL n d (i + 1) s rs).2) := by
  cases r <;> first | rfl | (simp [isOwn] at h)
theorem ResV1_other {F w base p u} {r : AV} (h : isOwn r = false) (hr : ResV1 F w base p u r) : r.pure = true ∧ RV F noloc r u := by
  cases r <;> first | exact hr | (simp [isOwn] at h)

/-- Taking over the rows of a tuple. -/
theorem retL_sound {C F} {a : Act} {w : World} {base n d : Nat} (hd : d < n) {ps : Nat → Option (Nat × Nat)} (hdist : ∀ i j b c c', ps i = some (b, c) → ps j = some (b, c') → i = j) :
    ∀ (rs : List AV) (us : List Value) (i : Nat) (s : ASt) (μ : Pl), SR C F μ s a w → s.n = n →
      (∀ L y b c, lk s.o L = some y → μ L = some (b, c) → b < base ∨ ∃ j c', j < i ∧ ps j = some (b, c')) → C.w0.heap.size ≤ base →
      rs.length = us.length → (∀ (k : Nat) (r : AV) (u : Value), rs[k]? = some r → us[k]? = some u → ResV1 F w base (ps (i + k)) u r) →
      ∃ μ', SR C F μ' (retL n d i s rs).1 a w ∧ (∀ (k : Nat) (x : AV) (u : Value), (retL n d i s rs).2[k]? = some x → us[k]? = some u → RV F (locOf (retL n d i s rs).1.o μ') x u) ∧
        ∀ L, (∀ j, i ≤ j → L ≠ n * (j + 1) + d) → locOf (retL n d i s rs).1.o μ' L = locOf s.o μ L
  | [], us, i, s, μ, h, hn, hob, hb, hl, hr => ⟨μ, h, fun k x u hx => by simp [retL] at hx, fun L _ => rfl⟩
  | r :: rs, [], i, s, μ, h, hn, hob, hb, hl, hr => by simp at hl
  | r :: rs, u :: us, i, s, μ, h, hn, hob, hb, hl, hr => by
    have h0 := hr 0 r u rfl rfl
    rw [Nat.add_zero] at h0
    have hr' : ∀ (k : Nat) (r : AV) (u : Value), rs[k]? = some r → us[k]? = some u → ResV1 F w base (ps (i + 1 + k)) u r := fun k r' u' hk hu => by
      have := hr (k + 1) r' u' (by simpa using hk) (by simpa using hu)
      rw [show i + (k + 1) = i + 1 + k by omega] at this
      exact this
    cases hown : isOwn r with
    | true =>
      cases r with
      | own es xs =>
        have h0' : OwnR F w base es xs u (ps i) := h0
        have hadopt := h.adopt h0' hb (n * (i + 1) + d) (fun b c hbc L y c' hy hm => by
          have hq : OwnR F w base es xs u (some (b, c)) := hbc ▸ h0'
          rcases hob L y b c' hy hm with hh | ⟨j, c2, hj, hp⟩
          · have := hq.2.2.1; omega
          · have := hdist i j b c c2 hbc hp; omega)
        obtain ⟨μ', k1, k2, k3⟩ := retL_sound hd hdist rs us (i + 1) (s.adopt (n * (i + 1) + d) (arrO es xs)) (upd μ (n * (i + 1) + d) (ps i)) hadopt hn (fun L y b c hy hm => by
          simp only [upd] at hm
          by_cases hT : L = n * (i + 1) + d
          · rw [if_pos hT] at hm
            exact .inr ⟨i, c, by omega, hm⟩
          · rw [if_neg hT] at hm
            rcases adopt_objs hy with hh | ⟨z, hz⟩
            · exact (hT hh).elim
            · rcases hob L z b c hz hm with hh | ⟨j, c', hj, hp⟩
              · exact .inl hh
              · exact .inr ⟨j, c', by omega, hp⟩) hb (by simpa using hl) hr'
        have hTj : ∀ j, i + 1 ≤ j → n * (i + 1) + d ≠ n * (j + 1) + d := fun j hj he => by
          have : n * (i + 1) < n * (j + 1) := Nat.mul_lt_mul_of_pos_left (by omega) (by omega)
          omega
        refine ⟨μ', k1, fun k x v hx hv => ?_, fun L hL => ?_⟩
        · cases k with
          | zero =>
            simp only [retL, List.getElem?_cons_zero] at hx hv
            obtain rfl := Option.some.inj hx
            obtain rfl := Option.some.inj hv
            exact h0'.ref (by
              show locOf (retL n d (i + 1) (s.adopt (n * (i + 1) + d) (arrO es xs)) rs).1.o μ' _ = _
              rw [k3 _ hTj, adopt_loc]; rfl)
          | succ k =>
            simp only [retL, List.getElem?_cons_succ] at hx hv
            exact k2 k x v hx hv
        · show locOf (retL n d (i + 1) (s.adopt (n * (i + 1) + d) (arrO es xs)) rs).1.o μ' L = _
          rw [k3 L (fun j hj => hL j (by omega)), adopt_loc_ne _ _ _ _ (hL i (Nat.le_refl _))]
      | _ => simp [isOwn] at hown
    | false =>
      obtain ⟨hp, hv0⟩ := ResV1_other hown h0
      rw [retL_other hown]
      obtain ⟨μ', k1, k2, k3⟩ := retL_sound hd hdist rs us (i + 1) s μ h hn (fun L y b c hy hm => by
        rcases hob L y b c hy hm with hh | ⟨j, c', hj, hp⟩
        · exact .inl hh
        · exact .inr ⟨j, c', by omega, hp⟩) hb (by simpa using hl) hr'
      refine ⟨μ', k1, fun k x v hx hv => ?_, fun L hL => k3 L (fun j hj => hL j (by omega))⟩
      cases k with
      | zero =>
        simp only [List.getElem?_cons_zero] at hx hv
        obtain rfl := Option.some.inj hx
        obtain rfl := Option.some.inj hv
        exact hv0.congr (FLe.refl _) fun L hL => (hv0.noloc_has (fun _ => rfl) L hL).elim
      | succ k =>
        simp only [List.getElem?_cons_succ] at hx hv
        exact k2 k x v hx hv

theorem retS_sound {C F μ} {s : ASt} {a : Act} {w w' : World} (h : SR C F μ s a w) {F' : Bool → Facts} {v : Value} {r : AV} (hp : APost (callF F w) w F' w') (hr : ResV F' w' w.heap.size v r) {d : Nat} (hd : d < s.n) :
    ∃ F'' μ', SR C F'' μ' (retS s d r) (a.put (some d) v) w' := by
  obtain ⟨hle, hb⟩ := h.back hp
  have hbase : C.w0.heap.size ≤ w.heap.size := h.sw.fr.size
  have hsh : sh F' = sh (backF F F') := rfl
  have hobj : ∀ L y b c, lk s.o L = some y → μ L = some (b, c) → b < w.heap.size := fun L y b c hy hm => by
    have := h.sw.obj L y hy
    rw [hm] at this
    obtain ⟨_, g⟩ := ObjAt.lt this
    exact get_block_lt g
  have conv1 : ∀ (p : Option (Nat × Nat)) (u : Value) (r : AV), ResV1 F' w' w.heap.size p u r → ResV1 (backF F F') w' w.heap.size p u r := by
    intro p u r hr
    cases hown : isOwn r with
    | true =>
      cases r with
      | own es xs =>
        have hr' : OwnR F' w' w.heap.size es xs u p := hr
        show OwnR (backF F F') w' w.heap.size es xs u p
        cases p with
        | none => exact hr'
        | some q =>
          obtain ⟨b, cap⟩ := q
          obtain ⟨g1, g2, g3, g4⟩ := hr'
          refine ⟨g1, ?_, g3, fun l k => ?_⟩
          · obtain ⟨c, e, q1, q2, q3, q4, q5, q6, q7⟩ := g2.std (by simp [arrO])
            exact .inl ⟨c, e, q1, q2, q3, q4, q5, fun i y j a hy hj => by
              obtain ⟨u, r1, r2, r3, r4⟩ := q6 i y j a hy hj
              exact ⟨u, r1, r2, r3, fun hz => by simp [arrO] at hz⟩, q7⟩
          · cases hbk : backF F F' l b k with
            | none => rfl
            | some u =>
              have h2 := hb.sw.facts l b k u hbk
              cases l
              · have : F' false b k = some u := hbk
                rw [g4] at this; cases this
              · have hbk' : (F' false b k).or (F true b k) = some u := hbk
                rw [g4] at hbk'
                have hF : F true b k = some u := hbk'
                have := cell_lt (h.sw.facts true b k u hF)
                omega
      | _ => simp [isOwn] at hown
    | false =>
      obtain ⟨q1, q2⟩ := ResV1_other hown hr
      have q3 : RV (backF F F') noloc r u := RV.up (q2.shared q1) hb.sw.sub
      cases r <;> first | exact ⟨q1, q3⟩ | (simp [isOwn] at hown)
  cases r with
  | own es xs =>
    obtain ⟨p, hr⟩ := hr
    have h1 : OwnR (backF F F') w' w.heap.size es xs v p := conv1 p v _ hr
    refine ⟨backF F F', upd μ d p, ?_⟩
    have hre : SR C (backF F F') (upd μ d p) (s.adopt d (arrO es xs)) a w' := hb.adopt h1 hbase d (fun b c hbc L y c' hy hm => by
      have hq : OwnR (backF F F') w' w.heap.size es xs v (some (b, c)) := hbc ▸ h1
      have := hobj L y b c' hy hm
      have := hq.2.2.1; omega)
    exact hre.put (s := s.adopt d (arrO es xs)) hd (h1.ref (by rw [adopt_loc]; rfl))
  | tup rs =>
    obtain ⟨vs, ps, rfl, hl, hrs, hdist⟩ := hr
    obtain ⟨μ', k1, k2, k3⟩ := retL_sound (n := s.n) (d := d) hd hdist rs vs.toList 0 s μ hb rfl (fun L y b c hy hm => .inl (hobj L y b c hy hm)) hbase (by simpa using hl) (fun k r u hk hu => by
      rw [Nat.zero_add]; exact conv1 _ _ _ (hrs k r u hk (by simpa using hu)))
    obtain ⟨e1, e2⟩ := retL_n s.n d rs 0 s
    refine ⟨backF F F', μ', k1.put (by rw [e1]; exact hd) (.tup (by rw [e2, hl]) fun i x u hx hu => k2 i x u hx (by simpa using hu))⟩
  | _ =>
    obtain ⟨p, hr⟩ := hr
    obtain ⟨q1, q2⟩ := ResV1_other rfl hr
    exact ⟨backF F F', μ, hb.put hd (RV.up (q2.shared q1) hb.sw.sub)⟩

end Go.Ab
