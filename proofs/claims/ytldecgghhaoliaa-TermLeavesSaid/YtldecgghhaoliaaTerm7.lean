/-
  Term7: sorted lists of terms, plainly.
-/
import Derived.Test.YtldecgghhaoliaaTerm6
import Derived.Test.YtldecgghhaoliaaA5
namespace Go.Proofs.Ytldecgghhaoliaa
open Go.Ab
set_option linter.unusedSimpArgs false
set_option maxRecDepth 100000
def Sasc (l : List Tm) : Prop := l.Pairwise fun a b => cmpT a b < 0
theorem cmp_lt_le {a b c : Tm} (h : cmpT a b < 0) (k : cmpT b c ≤ 0) : cmpT a c < 0 := by
  have := cmp_TR a b c (by omega) k
  omega
theorem cmp_le_lt {a b c : Tm} (h : cmpT a b ≤ 0) (k : cmpT b c < 0) : cmpT a c < 0 := by
  have := cmp_TR a b c h (by omega)
  omega
theorem cmp_pre : Pre cmpT := ⟨fun x y z h k => (cmp_TR x y z h k).1, fun x y h => by rw [cmp_neg x y]; omega⟩
theorem asc_uniq : ∀ {a b : List Tm}, Sasc a → Sasc b → (∀ t, t ∈ a ↔ t ∈ b) → a = b
  | [], [], _, _, _ => rfl
  | [], u :: r, _, _, h => absurd ((h u).2 List.mem_cons_self) (by simp)
  | t :: q, [], _, _, h => absurd ((h t).1 List.mem_cons_self) (by simp)
  | t :: q, u :: r, ha, hb, h => by
    obtain ⟨a1, a2⟩ := List.pairwise_cons.1 ha
    obtain ⟨b1, b2⟩ := List.pairwise_cons.1 hb
    have htu : t = u := by
      rcases List.mem_cons.1 ((h t).1 List.mem_cons_self) with e | e
      · exact e
      · rcases List.mem_cons.1 ((h u).2 List.mem_cons_self) with e2 | e2
        · exact e2.symm
        · have h1 := a1 _ e2
          have h2 := b1 _ e
          rw [cmp_neg t u] at h2
          omega
    subst htu
    congr 1
    refine asc_uniq a2 b2 fun x => ?_
    constructor
    · intro hx
      rcases List.mem_cons.1 ((h x).1 (List.mem_cons_of_mem _ hx)) with e | e
      · subst e; have := a1 _ hx; rw [cmp_self] at this; omega
      · exact e
    · intro hx
      rcases List.mem_cons.1 ((h x).2 (List.mem_cons_of_mem _ hx)) with e | e
      · subst e; have := b1 _ hx; rw [cmp_self] at this; omega
      · exact e
/-- A term put into an ascending list. -/
def insT (t : Tm) : List Tm → List Tm
  | [] => [t]
  | u :: r => if cmpT u t < 0 then u :: insT t r else if cmpT u t = 0 then u :: r else t :: u :: r
def sortT (l : List Tm) : List Tm := l.foldl (fun o t => insT t o) []
theorem mem_insT {t x : Tm} : ∀ {o : List Tm}, x ∈ insT t o ↔ x = t ∨ x ∈ o
  | [] => by simp [insT]
  | u :: r => by
    unfold insT
    split
    · simp only [List.mem_cons, mem_insT (o := r)]
      constructor <;> (intro h; rcases h with h | h | h <;> simp [h])
    · split
      · rename_i h0
        have : u = t := (cmp_zero _ _).1 h0
        subst this
        simp
      · simp only [List.mem_cons]
theorem asc_insT {t : Tm} : ∀ {o : List Tm}, Sasc o → Sasc (insT t o)
  | [], _ => by simp [insT, Sasc]
  | u :: r, h => by
    obtain ⟨h1, h2⟩ := List.pairwise_cons.1 h
    unfold insT
    split
    · rename_i hu
      refine List.pairwise_cons.2 ⟨fun x hx => ?_, asc_insT h2⟩
      rcases mem_insT.1 hx with e | e
      · rw [e]; exact hu
      · exact h1 x e
    · split
      · exact h
      · rename_i n1 n2
        have hut : cmpT t u < 0 := by rw [cmp_neg u t]; omega
        refine List.pairwise_cons.2 ⟨fun x hx => ?_, h⟩
        rcases List.mem_cons.1 hx with e | e
        · rw [e]; exact hut
        · exact cmp_lt_le hut (Int.le_of_lt (h1 x e))
theorem foldl_ins : ∀ (l o : List Tm), Sasc o → Sasc (l.foldl (fun o t => insT t o) o) ∧ ∀ x, x ∈ l.foldl (fun o t => insT t o) o ↔ x ∈ l ∨ x ∈ o
  | [], o, h => ⟨h, fun x => by simp⟩
  | t :: r, o, h => by
    obtain ⟨h1, h2⟩ := foldl_ins r (insT t o) (asc_insT h)
    refine ⟨h1, fun x => ?_⟩
    rw [List.foldl_cons, h2, mem_insT, List.mem_cons]
    constructor
    · rintro (a | a | a) <;> simp [a]
    · rintro ((a | a) | a) <;> simp [a]
theorem sort_asc (l : List Tm) : Sasc (sortT l) := (foldl_ins l [] List.Pairwise.nil).1
theorem sort_mem (l : List Tm) (x : Tm) : x ∈ sortT l ↔ x ∈ l := by
  have := (foldl_ins l [] List.Pairwise.nil).2 x
  simpa [sortT] using this
theorem sort_self {s : List Tm} (h : Sasc s) : sortT s = s := asc_uniq (sort_asc s) h (sort_mem s)
theorem sortT_next {l : List Tm} {i : Nat} (h : i < l.length) : sortT (l.take (i + 1)) = insT l[i] (sortT (l.take i)) := by
  unfold sortT
  rw [take_next h, List.foldl_append]; rfl
/-- A sorted list, each element once: of the first i. -/
def ddP (l : List Tm) : Nat → List Tm
  | 0 => []
  | i + 1 => match l[i]? with
    | some t => if i = 0 ∨ cmpT (l.getD (i - 1) t) t ≠ 0 then ddP l i ++ [t] else ddP l i
    | none => ddP l i
theorem ddP_next {l : List Tm} {i : Nat} (h : i < l.length) : ddP l (i + 1) = if i = 0 ∨ cmpT (l.getD (i - 1) l[i]) l[i] ≠ 0 then ddP l i ++ [l[i]] else ddP l i := by
  rw [ddP, List.getElem?_eq_getElem h]
theorem ddP_facts {l : List Tm} (hs : SrtOn cmpT l 0 l.length) : ∀ i, i ≤ l.length → Sasc (ddP l i) ∧ ∀ x, x ∈ ddP l i ↔ x ∈ l.take i
  | 0, _ => ⟨List.Pairwise.nil, fun x => by simp [ddP]⟩
  | i + 1, hi => by
    have hlt : i < l.length := by omega
    obtain ⟨h1, h2⟩ := ddP_facts hs i (by omega)
    rw [ddP_next hlt, take_next hlt]
    split
    · rename_i hc
      refine ⟨List.pairwise_append.2 ⟨h1, by simp, fun x hx y hy => ?_⟩, fun x => by simp only [List.mem_append, List.mem_singleton, h2]⟩
      simp only [List.mem_singleton] at hy
      subst hy
      rcases hc with rfl | hc
      · simp [ddP] at hx
      · rw [h2, List.mem_take_iff_getElem] at hx
        obtain ⟨k, hk, rfl⟩ := hx
        have hi0 : i - 1 < l.length := by omega
        have hd : l.getD (i - 1) l[i] = l[i - 1] := by rw [List.getD_eq_getElem?_getD, List.getElem?_eq_getElem hi0]; rfl
        rw [hd] at hc
        have h3 := hs (i - 1) i _ _ (Nat.zero_le _) (by omega) hlt (List.getElem?_eq_getElem hi0) (List.getElem?_eq_getElem hlt)
        have h4 : cmpT l[k] l[i - 1] ≤ 0 := by
          by_cases e : k = i - 1
          · subst e; rw [cmp_self]; exact Int.le_refl _
          · exact hs k (i - 1) _ _ (Nat.zero_le _) (by omega) hi0 (List.getElem?_eq_getElem (by omega)) (List.getElem?_eq_getElem hi0)
        exact cmp_le_lt h4 (by omega)
    · rename_i hc
      simp only [not_or, Decidable.not_not] at hc
      refine ⟨h1, fun x => ?_⟩
      rw [h2]
      simp only [List.mem_append, List.mem_singleton]
      constructor
      · exact .inl
      · rintro (h | rfl)
        · exact h
        · have hi0 : i - 1 < l.length := by omega
          have hd : l.getD (i - 1) l[i] = l[i - 1] := by rw [List.getD_eq_getElem?_getD, List.getElem?_eq_getElem hi0]; rfl
          rw [hd] at hc
          have e := (cmp_zero _ _).1 hc.2
          rw [← e, List.mem_take_iff_getElem]
          exact ⟨i - 1, by omega, rfl⟩
theorem ddP_sort {l m : List Tm} (hp : m.Perm l) (hs : SrtOn cmpT m 0 l.length) : ddP m m.length = sortT l := by
  rw [← hp.length_eq] at hs
  obtain ⟨h1, h2⟩ := ddP_facts hs m.length (Nat.le_refl _)
  refine asc_uniq h1 (sort_asc l) fun x => ?_
  rw [h2, List.take_length, sort_mem, hp.mem_iff]
instance : DecidableEq Tm := fun a b => decidable_of_iff (eqT a b = true) (eqT_iff a b)
/-- Where a term is. -/
def fndT (s : List Tm) (t : Tm) : Int := if s.findIdx (fun u => decide (u = t)) < s.length then (s.findIdx (fun u => decide (u = t)) : Nat) else -1

end Go.Proofs.Ytldecgghhaoliaa
