/-
  Ab15: literals of slices, make, copy.
-/
import Derived.Test.YtldecgghhaoliaaAb14
namespace Go.Ab
open Go.RowKit
set_option linter.unusedVariables false
set_option linter.unusedSimpArgs false

def shareAll : ASt → List AV → Option (ASt × List AV)
  | s, [] => some (s, [])
  | s, a :: r => match share s a with
    | some (s1, b) => match shareAll s1 r with
      | some (s2, bs) => some (s2, b :: bs)
      | none => none
    | none => none

theorem shareAll_sound {C μ} {a : Act} {w : World} : ∀ {cs ds : List AV} {F} {s s' : ASt}, SR C F μ s a w → shareAll s cs = some (s', ds) →
    ∃ F', FLe F F' ∧ SR C F' μ s' a w ∧ s'.n = s.n ∧ locOf s'.o μ = locOf s.o μ ∧ ds.length = cs.length ∧ ∀ (i : Nat) (x y : AV) (v : Value), cs[i]? = some x → ds[i]? = some y → RV F (locOf s.o μ) x v → RV F' noloc y v
  | [], ds, F, s, s', h, he => by
    simp [shareAll] at he
    obtain ⟨rfl, rfl⟩ := he
    exact ⟨F, FLe.refl _, h, rfl, rfl, rfl, fun i x y v hx => by simp at hx⟩
  | c :: cs, ds, F, s, s', h, he => by
    simp only [shareAll] at he
    split at he
    · rename_i s1 b h1
      split at he
      · rename_i s2 bs h2
        obtain ⟨rfl, rfl⟩ := Prod.mk.inj (Option.some.inj he)
        obtain ⟨F1, a1, a2, a3, a4, a5⟩ := share_sound h h1
        obtain ⟨F2, b1, b2, b3, b4, b5, b6⟩ := shareAll_sound a2 h2
        refine ⟨F2, a1.trans b1, b2, b3.trans a3, b4.trans a4, by simp [b5], fun i x y v hx hy hv => ?_⟩
        cases i with
        | zero => simp at hx hy; subst hx; subst hy; exact (a5 v hv).mono b1
        | succ i => simp at hx hy; exact b6 i x y v hx hy (by rw [a4]; exact hv.mono a1)
      · cases he
    · cases he

theorem pure_plain {a : AV} (h : a.pure = true) : a.plain = true := by cases a <;> first | rfl | (simp [AV.pure] at h)
theorem pure_has {F loc} {a : AV} {v : Value} (h : RV F loc a v) (hn : ∀ L, loc L = none) (L : Nat) : a.has L = false := by
  rw [Bool.eq_false_iff]; exact fun hh => h.noloc_has hn L hh

/-- The elements laid one behind the other. -/
theorem fill_all {es : Nat} : ∀ (vs : List Value) (m : Nat) (cs : Array Value), (∀ v ∈ vs, v.cells.size = es) → (m + vs.length) * es ≤ cs.size →
    ∃ r, Instr.fill (fun i => some (i * es, es)) cs ((vs.zipIdx m).map fun p => (p.2, p.1)) = some r ∧ r.size = cs.size ∧ (∀ k, k < m * es → r[k]? = cs[k]?) ∧
      ∀ (p : Nat) (v : Value) (j : Nat), vs[p]? = some v → j < es → r[(m + p) * es + j]? = v.cells[j]?
  | [], m, cs, _, _ => ⟨cs, rfl, rfl, fun _ _ => rfl, fun p v j hv => by simp at hv⟩
  | v :: vs, m, cs, hs, hl => by
    have hv : v.cells.size = es := hs v (by simp)
    simp only [List.length_cons] at hl
    have hm1 : (m + 1) * es ≤ cs.size := Nat.le_trans (Nat.mul_le_mul_right _ (by omega)) hl
    rw [Nat.add_mul] at hm1
    have hg := fun i => fold_get (m * es) v.cells.toList 0 cs i (by simp [hv]; omega)
    have hu : v.cells.zipIdx.foldl (fun cs x => cs.setIfInBounds (m * es + x.2) x.1) cs = ((v.cells.toList.zipIdx 0).foldl (fun cs x => cs.setIfInBounds (m * es + x.2) x.1) cs) := by
      rw [← Array.foldl_toList, Array.toList_zipIdx]
    have hz := fold_size (m * es) (v.cells.toList.zipIdx 0) cs
    obtain ⟨r, h1, h2, h3, h4⟩ := fill_all vs (m + 1) ((v.cells.toList.zipIdx 0).foldl (fun cs x => cs.setIfInBounds (m * es + x.2) x.1) cs) (fun u hu => hs u (by simp [hu])) (by rw [hz]; rw [show m + 1 + vs.length = m + (vs.length + 1) by omega]; exact hl)
    refine ⟨r, ?_, h2.trans hz, fun k hk => ?_, fun p u j hp hj => ?_⟩
    · simp only [List.zipIdx_cons, List.map_cons, Instr.fill]
      rw [if_neg (by simp [hv]; omega)]
      have : (v.cells.zipIdx.foldl (fun cs (x : Value × Nat) => match x with | (c, j) => cs.setIfInBounds (m * es + j) c) cs) = v.cells.zipIdx.foldl (fun cs x => cs.setIfInBounds (m * es + x.2) x.1) cs := rfl
      rw [this, hu]
      exact h1
    · rw [h3 k (by rw [Nat.add_mul]; omega), hg k]
      rw [if_neg (by simp; omega)]
    · cases p with
      | zero =>
        simp at hp; subst hp
        rw [Nat.add_zero, h3 (m * es + j) (by rw [Nat.add_mul]; omega), hg]
        rw [if_pos ⟨by omega, by simp [hv]; omega⟩]
        simp
      | succ p =>
        simp at hp
        rw [show m + (p + 1) = m + 1 + p by omega]
        exact h4 p u j hp hj

def buildSliceA (P : Program) (t : TypeId) (len : Nat) (ps : Option (List (Nat × AV))) (d : Nat) (s : ASt) : Option St :=
  match tyEl P t, ps with
  | some (e, es, _), some ps => match tyZero P e with
    | some _ => if ps.map (·.1) = List.range len then match shareAll s (ps.map (·.2)) with
        | some (s1, bs) => some ⟨decide (d < s1.n ∧ len * es ≤ 2 ^ 24 ∧ len ≤ maxRow ∧ ∀ b ∈ bs, b.pure = true ∧ b.cells.length = es), s1.fresh d (arrO es bs) (.ref d 0 len)⟩
        | none => none
      else none
    | none => none
  | _, _ => none

theorem buildSliceA_sound {P : Program} {C F μ} {s : ASt} {a : Act} {w : World} (h : SR C F μ s a w) {t : TypeId} {len : Nat} {ρ : Operand → Option AV} {ρv : Operand → Value} (hρ : ∀ x a, ρ x = some a → RV F (locOf s.o μ) a (ρv x)) {parts : Array (Nat × Operand)} {d : Nat} {r : St}
    (he : buildSliceA P t len (partsA ρ parts.toList) d s = some r) (hn : r.need) :
    ∃ v w' F' μ', (Instr.buildSlice t len (parts.map fun (i, x) => (i, ρv x))).run P w = .ok v w' ∧ SR C F' μ' r.st (a.put (some d) v) w' := by
  unfold buildSliceA at he
  split at he
  · rename_i e es bytes ps ht hp
    split at he
    · rename_i zv hz
      split at he
      · rename_i hix
        split at he
        · rename_i s1 bs hs1
          obtain rfl := Option.some.inj he
          obtain ⟨hd, hlen, hrow, hbs⟩ := of_decide_eq_true hn
          obtain ⟨hu, hs, _⟩ := tyEl_run ht w
          obtain ⟨m1, m2⟩ := mapM_some hp
          obtain ⟨F', f1, f2, f3, f4, f5, f6⟩ := shareAll_sound h hs1
          have hpl : ps.length = len := by have := congrArg List.length hix; simpa using this
          have hbl : bs.length = len := by rw [f5]; simpa using hpl
          let vs : List Value := parts.toList.map fun p => ρv p.2
          have hvl : vs.length = len := by simp [vs, ← m1, hpl]
          have hrv : ∀ (i : Nat) (y : AV) (v : Value), bs[i]? = some y → vs[i]? = some v → RV F' noloc y v := by
            intro i y v hy hv
            simp only [vs, List.getElem?_map, Option.map_eq_some_iff] at hv
            obtain ⟨q, hq, rfl⟩ := hv
            have hi : i < ps.length := by rw [m1]; exact (List.getElem?_eq_some_iff.1 hq).1
            have hpi : ps[i]? = some ps[i] := by simp [hi]
            have hq2 := m2 i q ps[i] hq hpi
            cases hr : ρ q.2 with
            | none => simp [hr] at hq2
            | some b =>
              simp [hr] at hq2
              refine f6 i b y _ ?_ hy (hρ _ _ hr)
              rw [List.getElem?_map, hpi, ← hq2]; rfl
          have hcv : ∀ (i : Nat) (y : AV) (v : Value), bs[i]? = some y → vs[i]? = some v → CV (sh F') noloc y.cells v.cells ∧ y.cells.length = es := fun i y v hy hv => by
            obtain ⟨g1, g2⟩ := hbs y (List.mem_of_getElem? hy)
            exact ⟨((hrv i y v hy hv).shared g1).cv (pure_plain g1), g2⟩
          have hvsz : ∀ v ∈ vs, v.cells.size = es := fun v hv => by
            obtain ⟨i, hi⟩ := List.getElem?_of_mem hv
            have hib : i < bs.length := by rw [hbl, ← hvl]; exact (List.getElem?_eq_some_iff.1 hi).1
            obtain ⟨g1, g2⟩ := hcv i bs[i] v (by simp [hib]) hi
            rw [← g1.len]; exact g2
          obtain ⟨c0, hc0, hc0s⟩ : ∃ c0 : Array Value, (do let zero ← (if len * es = 0 then pure #[] else do pure (← zeroValue e).cells); pure ((Array.range (len * es)).map (zero[· % zero.size]!)) : Sem (Array Value)).run P w = .ok c0 w ∧ c0.size = len * es := by
            by_cases h0 : len * es = 0
            · exact ⟨#[], by simp [h0], by simp [h0]⟩
            · refine ⟨(Array.range (len * es)).map (zv.cells[· % zv.cells.size]!), ?_, by simp⟩
              simp [h0, run_zeroValue_ok hz]
          obtain ⟨cells, k1, k2, k3, k4⟩ := fill_all (es := es) vs 0 c0 hvsz (by rw [hc0s, hvl, Nat.zero_add]; exact Nat.le_refl _)
          have hparts : (parts.map fun (i, x) => (i, ρv x)).toList = (vs.zipIdx 0).map fun p => (p.2, p.1) := by
            apply List.ext_getElem?
            intro i
            simp only [Array.toList_map, List.getElem?_map, List.getElem?_zipIdx, vs, Nat.zero_add]
            cases hq : parts.toList[i]? with
            | none => simp
            | some q =>
              have hi : i < ps.length := by rw [m1]; exact (List.getElem?_eq_some_iff.1 hq).1
              have hq2 := m2 i q ps[i] hq (by simp [hi])
              have hfst : ps[i].1 = i := by
                have := congrArg (·[i]?) hix
                simp only [List.getElem?_map, List.getElem?_range (by omega : i < len)] at this
                simpa [hi] using this
              cases hr : ρ q.2 with
              | none => simp [hr] at hq2
              | some b =>
                simp [hr] at hq2
                have : q.1 = i := by rw [← hfst, ← hq2]
                simp [this]
          refine ⟨.slice (some ⟨w.heap.size, 0, none⟩) len len, w.alloc (.cells cells e (0, 0)), F', upd μ d (some (w.heap.size, len)), ?_, ?_⟩
          · have hbig : ¬ 2 ^ 24 < len * es := by omega
            simp only [Sem.run_bind] at hc0
            simp only [Instr.buildSlice, Sem.run_bind, hu, hs, Result.andThen_ok]
            have hparts' : List.map (fun x => (x.1, ρv x.2)) parts.toList = (vs.zipIdx 0).map fun p => (p.2, p.1) := by rw [← hparts, Array.toList_map]
            by_cases h0 : len * es = 0
            · have hc00 : c0 = #[] := Array.eq_empty_of_size_eq_zero (by rw [hc0s, h0])
              have hr0 : (Array.map (fun x : Nat => (default : Value)) (Array.range 0)) = c0 := by rw [hc00]; exact Array.eq_empty_of_size_eq_zero (by simp)
              simp [h0]
              rw [hparts', hr0, k1]
              simp [newRow]
            · simp [h0, run_zeroValue_ok hz] at hc0
              simp [h0, hbig, run_zeroValue_ok hz, hc0]
              rw [hparts', k1]
              simp [newRow]
          · refine f2.fresh hd (x := arrO es bs) (c := cells) (cap := len) ⟨by rw [k2, hc0s]; rfl, by simp [arrO, hbl], by simp [arrO, hbl]; exact hrow, fun y hy => (hbs y hy).2, fun i y j a' hy hj => ?_, rfl, rfl, .inl rfl⟩ ?_ fun loc hl => ?_
            · have hib : i < vs.length := by rw [hvl, ← hbl]; exact (List.getElem?_eq_some_iff.1 hy).1
              obtain ⟨g1, g2⟩ := hcv i y vs[i] hy (by simp [hib])
              have hjl : j < es := by rw [← g2]; exact (List.getElem?_eq_some_iff.1 hj).1
              have hjs : j < vs[i].cells.size := by rw [← g1.len]; exact (List.getElem?_eq_some_iff.1 hj).1
              have hk := k4 i vs[i] j (by simp [hib]) hjl
              rw [Nat.zero_add] at hk
              refine ⟨vs[i].cells[j], ?_, g1.one j _ (by simp [hjs]), g1.rv j a' _ hj (by simp [hjs])⟩
              show cells[i * es + j]? = _
              rw [hk]; simp [hjs]
            · rw [Bool.eq_false_iff]
              intro hh
              obtain ⟨i, y, hy, hL⟩ := hasL_ex hh
              have hib : i < vs.length := by rw [hvl, ← hbl]; exact (List.getElem?_eq_some_iff.1 hy).1
              exact (hrv i y vs[i] hy (by simp [hib])).noloc_has (fun _ => rfl) d hL
            · have := @RV.ref F' loc d 0 len w.heap.size len es bs.length 0 len (by rw [hl]; rfl) (by omega) (Nat.le_refl _) (fun _ => by simp) (fun _ => rfl)
              exact this
        · cases he
      · cases he
    · cases he
  · cases he

end Go.Ab
