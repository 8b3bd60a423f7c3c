/-
  Ab23: from a contract to a given row: behind a call that changes nothing, the arguments read as they did.
-/
import Derived.Test.YtldecgghhaoliaaAb22
import Derived.ProofKit
import Derived.OpenShut
import Derived.ReadAgain
import Derived.ChangeStays
import Derived.ChangeSame
namespace Go.Ab
open Go.RowKit Go.ChangeShapes Go.WideShapes
set_option linter.unusedVariables false
set_option linter.unusedSimpArgs false

section
variable {H : Type} {enc : TypeId × Value → H} {P : Program} {T : TypeId → Prop}

theorem trod_stays' {W W' : World} {base : Nat} {sp' : Nat → Bool} (K : Kids P T) (hz : ∀ t e, T t → P.underlying t = some (.slice e) → 0 < P.cellsOf e) {t : TypeId} (hT : T t) {v : Value} {d : DataW H} {ps : List MemPlace}
    (h : DataW.Trod enc P W base (fun _ => true) true t v d ps) (hsame : ∀ p ∈ ps, W.sameAt W' p) (hs : ∀ p ∈ ps, sp' p.block = true) : DataW.Trod enc P W' base sp' true t v d ps := by
  obtain ⟨n, hn⟩ := h
  exact ⟨n, DataW.trod_stays K (fun {t e} => hz t e) (fun h => by cases h) hT hn hsame hs⟩

theorem trodAll_stays {W W' : World} {base : Nat} {sp' : Nat → Bool} (K : Kids P T) (hz : ∀ t e, T t → P.underlying t = some (.slice e) → 0 < P.cellsOf e) :
    ∀ {ts : List TypeId} {vs : List Value} {ds : List (DataW H)} {ps : List MemPlace}, (∀ t ∈ ts, T t) → DataW.TrodAll enc P W base (fun _ => true) true ts vs ds ps → (∀ p ∈ ps, W.sameAt W' p) → (∀ p ∈ ps, sp' p.block = true) →
      DataW.TrodAll enc P W' base sp' true ts vs ds ps
  | [], [], [], _, _, h, _, _ => h
  | _ :: _, _ :: _, _ :: _, _, hT, ⟨p, q, h1, h2, e⟩, hm, hs => ⟨p, q, trod_stays' K hz (hT _ (List.mem_cons.2 (Or.inl rfl))) h1 (fun x hx => hm x (by rw [e]; exact List.mem_append_left _ hx)) (fun x hx => hs x (by rw [e]; exact List.mem_append_left _ hx)),
      trodAll_stays K hz (fun t ht => hT t (List.mem_cons.2 (Or.inr ht))) h2 (fun x hx => hm x (by rw [e]; exact List.mem_append_right _ hx)) (fun x hx => hs x (by rw [e]; exact List.mem_append_right _ hx)), e⟩

theorem keptBut_of_fr {W W' : World} (hfr : Fr (fun _ => False) W W') (may : MemPlace → Prop) : W.keptBut W' may := by
  refine ⟨hfr.os, hfr.output, fun i hi => ?_⟩
  rw [hfr.block i hi (fun h => h)]
  split
  · rename_i h1 h2
    rw [h1] at h2
    cases h2
    exact ⟨rfl, rfl, rfl, fun _ _ => rfl⟩
  · rename_i h1 h2
    rw [h1] at h2
    cases h2
    exact .inr ⟨rfl, rfl⟩
  · rfl

theorem sameAt_of_fr {W W' : World} (hfr : Fr (fun _ => False) W W') {p : MemPlace} (hp : p.block < W.heap.size) : W.sameAt W' p := by
  cases p with
  | cell b off => exact cell_of_block (hfr.block b hp (fun h => h))
  | map b => exact hfr.block b hp (fun h => h)

/-- A law that returns true and leaves all as it was. -/
theorem post_true (K : Kids P T) (hz : ∀ t e, T t → P.underlying t = some (.slice e) → 0 < P.cellsOf e) {f : Func} {s : ChangeSpec} {apart fresh handsOn again : Bool} {W W' : World} {args : Array Value} {ds gs : List (DataW H)} {before : List MemPlace} {bt : TypeId}
    (hT : ∀ t ∈ f.params.toList, T t) (hrt : f.resultTypes = #[bt]) (hbt : P.underlying bt = some .bool) (hvars : s.vars = []) (hW : DataW.Whole enc P f.params.toList s.vars apart W args.toList ds gs before)
    (hfn : s.fn H ds = { results := [.lit (.bool true)], args := ds }) (hfr : Fr (fun _ => False) W W') : s.post enc P f apart fresh handsOn again W args (.bool true) W' := by
  have hW' := hW
  obtain ⟨p, q, hA, hV, rfl, hzf, hn⟩ := hW
  rw [hvars] at hV
  obtain ⟨rfl, rfl⟩ := trodVars_none hV
  have hlt : ∀ x ∈ p, x.block < W.heap.size := DataW.TrodAll.lt hA
  have hargs : ∀ sp : Nat → Bool, (∀ x ∈ p, sp x.block = true) → DataW.TrodAll enc P W' 0 sp true f.params.toList args.toList ds p := fun sp hs =>
    trodAll_stays K hz hT hA (fun x hx => sameAt_of_fr hfr (hlt x hx)) hs
  have hres : ∀ (b : Nat) (sp : Nat → Bool) (hd : Bool), DataW.TrodAll enc P W' b sp hd f.resultTypes.toList ((Value.bool true).resultList f.resultTypes.size) [.lit (.bool true)] [] := fun b sp hd => by
    rw [hrt]
    exact trodAll_cons_mk (shut_bool hbt _) trodAll_mk0
  have hvs : ∀ sp : Nat → Bool, DataW.TrodVars enc P W' sp s.vars ([] : List (DataW H)) [] := fun sp => by rw [hvars]; rfl
  simp only [List.append_nil] at hW' hzf hn
  refine ⟨ds, [], p, [], p, [], hW', ?_, ?_, ?_, keptBut_of_fr hfr _, fun _ => ⟨?_, ?_⟩⟩
  · simp only [List.append_nil, hfn]; exact hres _ _ _
  · simp only [List.append_nil, hfn]; exact hargs _ (fun x hx => by simpa using hlt x hx)
  · simp only [List.append_nil, hfn]; exact hvs _
  · exact ok_one hrt rfl (okWide_bool_mk hbt _)
  · refine ⟨_, [], [] ++ p, ⟨[] ++ p, [], trodAll_append (hargs _ (fun _ _ => rfl)) (hres 0 _ _), hvs _, by simp, fun b off hp => ?_, fun ha => ?_⟩, fun x hx _ => by simpa using hx⟩
    · have hb : b < W.heap.size := hlt (.cell b off) (by simpa using hp)
      have : W'.frozen? ⟨b, off, none⟩ = W.frozen? ⟨b, off, none⟩ := by simp only [World.frozen?, hfr.block b hb (fun h => h)]
      rw [this]
      exact hzf b off (by simpa using hp)
    · simpa using hn ha
end
end Go.Ab
