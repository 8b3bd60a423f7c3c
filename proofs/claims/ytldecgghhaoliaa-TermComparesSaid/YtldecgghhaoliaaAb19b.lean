/-
  Ab19b: the contract of a function that works on its caller's objects.
-/
import Derived.Test.YtldecgghhaoliaaAb19
namespace Go.Ab
open Go.RowKit
set_option linter.unusedVariables false
set_option linter.unusedSimpArgs false

def entryM (n : Nat) (as : List AV) (o : Objs) : ASt := { n := n, t := (as.zipIdx 0).map fun p => (p.2, p.1), o := o }
def endM (P : Program) (rs : List ResultVar) (R : AV → Objs → Prop) : Exit → ASt → Prop
  | .normal, s => ∃ xs, resL P s rs = some xs ∧ R (pack xs) s.o
  | .ret, s => ∃ xs, resL P s rs = some xs ∧ R (pack xs) s.o
  | _, _ => False

theorem endM_post {P : Program} {fn : Func} {R : AV → Objs → Prop} {C : Cx} {F μ} {s : ASt} {a : Act} {w : World} (h : SR C F μ s a w) (hq : ∃ xs, resL P s fn.results.toList = some xs ∧ R (pack xs) s.o) :
    a.defers = [] ∧ ∃ v, (results fn a.tmps).run P w = .ok v w ∧ ∃ v' r o' F' μ', Ending.returned v = .returned v' ∧ R r o' ∧ SW C F' μ' o' w ∧ RV F' (locOf o' μ') r v' := by
  refine ⟨h.defers, ?_⟩
  obtain ⟨xs, hx, hR⟩ := hq
  obtain ⟨vs, k1, k2, k3⟩ := resL_sound h hx
  have hrun : (results fn a.tmps).run P w = .ok (if h : vs.toArray.size = 1 then vs.toArray[0] else .tuple vs.toArray) w := by
    have he : results fn a.tmps = (do let vs ← fn.results.mapM (resSem a.tmps); pure (if h : vs.size = 1 then vs[0] else .tuple vs)) := by
      unfold results
      congr 1
    rw [he, Sem.run_bind, Array.mapM_eq_mapM_toList, Sem.run_map, k1]
    rfl
  refine ⟨_, hrun, _, pack xs, s.o, F, μ, rfl, hR, h.sw, ?_⟩
  by_cases h1 : vs.length = 1
  · obtain ⟨v, rfl⟩ := List.length_eq_one_iff.1 h1
    obtain ⟨x, rfl⟩ := List.length_eq_one_iff.1 (k2.trans h1)
    exact k3 0 x v rfl rfl
  · have hne : ¬ vs.toArray.size = 1 := by simpa using h1
    rw [dif_neg hne]
    have hpk : pack xs = .tup xs := by
      cases xs with
      | nil => rfl
      | cons z zs => cases zs with
        | nil => simp at k2; omega
        | cons z' zs => rfl
    rw [hpk]
    exact .tup (by simpa using k2) fun i x v hx hv => k3 i x v hx (by simpa using hv)

theorem mcall_of_AWp {P : Program} {f : FuncId} {fn : Func} {c : Code} {args : List AV} {o : Objs} {R : AV → Objs → Prop} (hf : P.funcs[f]? = some fn) (hc : ∀ cargs w, (callFunc f cargs).run P w = .ok (.enter f cargs) w) (hb : fn.body = some c)
    (hn : args.length ≤ fn.ntmps) (h : AWp P c (endM P fn.results.toList R) (entryM fn.ntmps args o)) : MCall P f args o R := by
  refine ⟨hc, fun C F μ w cargs h1 h2 h3 h4 hsw hl hrv => ?_⟩
  refine calls_of_wp hf hb ?_
  have hsr : SR C F μ (entryM fn.ntmps args o) { tmps := cargs ++ Array.replicate (fn.ntmps - cargs.size) undef, defers := [] } w := by
    refine ⟨hsw, rfl, ?_, fun i x hx => ?_⟩
    · simp [entryM]; omega
    · obtain ⟨_, h2⟩ := get_zip args 0 i x hx
      rw [Nat.sub_zero] at h2
      have hi : i < cargs.size := by rw [← hl]; exact (List.getElem?_eq_some_iff.1 h2).1
      have hg : ((cargs ++ Array.replicate (fn.ntmps - cargs.size) undef).getD i undef) = cargs[i] := by
        rw [Array.getD_eq_getD_getElem?, Array.getElem?_append_left hi]; simp [hi]
      rw [hg]
      exact hrv i x cargs[i] h2 (by simp [hi])
  refine wp_mono (h C F μ _ w hsr) ?_
  rintro e a' w' ⟨F', μ', s', hq, hs'⟩
  cases e with
  | normal => exact endM_post hs' hq
  | ret => exact endM_post hs' hq
  | _ => exact hq.elim

theorem mcall_of_awp {P : Program} {f : FuncId} {fn : Func} {c : Code} {args : List AV} {o : Objs} {R : AV → Objs → Prop} (hf : P.funcs[f]? = some fn) (hc : ∀ cargs w, (callFunc f cargs).run P w = .ok (.enter f cargs) w) (hb : fn.body = some c)
    (hn : args.length ≤ fn.ntmps) (h : awp P c (endM P fn.results.toList R) (entryM fn.ntmps args o)) : MCall P f args o R :=
  mcall_of_AWp hf hc hb hn (awp_sound c _ _ h)

/-- The same as 'acall_of_awp', by meaning. -/
theorem acall_of_AWp {P : Program} {f : FuncId} {fn : Func} {c : Code} {args : List AV} {R : AV → Prop} (hf : P.funcs[f]? = some fn) (hc : ∀ cargs w, (callFunc f cargs).run P w = .ok (.enter f cargs) w) (hb : fn.body = some c)
    (hn : args.length ≤ fn.ntmps) (h : AWp P c (endQ P fn.results.toList R) (entry fn.ntmps args)) : ACall P f args R := by
  refine ⟨hc, fun w F cargs hok hl hrv => ?_⟩
  refine calls_of_wp hf hb ?_
  let C : Cx := { w0 := w, F0 := F, o0 := [], μ0 := fun _ => none }
  have hM : ∀ b, ¬ C.M b := fun b ⟨L, x, cc, hx, _⟩ => by simp [C, lk] at hx
  have hsr : SR C F (fun _ => none) (entry fn.ntmps args) { tmps := cargs ++ Array.replicate (fn.ntmps - cargs.size) undef, defers := [] } w := by
    refine ⟨⟨hok.facts, hok.sub, fun b k v hv => .inl hv, FLe.refl _, fun b k v hv => .inl hv, Fr.refl _ _, fun L x hx => ?_, fun L x L' x' b c c' hx => ?_, fun L x b c hx => ?_, fun L x b c hx => ?_, fun L x x0 hx => ?_⟩, rfl, ?_, fun i x hx => ?_⟩
    · simp [entry, lk] at hx
    · simp [entry, lk] at hx
    · simp [entry, lk] at hx
    · simp [entry, lk] at hx
    · simp [C, lk] at hx
    · simp [entry]; omega
    · obtain ⟨_, h2⟩ := get_zip args 0 i x hx
      rw [Nat.sub_zero] at h2
      have hi : i < cargs.size := by rw [← hl]; exact (List.getElem?_eq_some_iff.1 h2).1
      have hg : ((cargs ++ Array.replicate (fn.ntmps - cargs.size) undef).getD i undef) = cargs[i] := by
        rw [Array.getD_eq_getD_getElem?, Array.getElem?_append_left hi]; simp [hi]
      rw [hg]
      have := hrv i x cargs[i] h2 (by simp [hi])
      exact this.congr (FLe.refl _) fun L hL => (this.noloc_has (fun _ => rfl) L hL).elim
  refine wp_mono (h C F _ _ w hsr) ?_
  rintro e a' w' ⟨F', μ', s', hq, hs'⟩
  cases e with
  | normal => exact endQ_post hM hs' hq
  | ret => exact endQ_post hM hs' hq
  | _ => exact hq.elim

end Go.Ab
