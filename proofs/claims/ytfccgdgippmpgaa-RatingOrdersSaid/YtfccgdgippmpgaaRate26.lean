/-
  Rate26: where the reference puts a player.
-/
import Derived.Test.YtfccgdgippmpgaaSrtR4
namespace Go.Proofs.Ytfccgdgippmpgaa
open Go.Ab
set_option linter.unusedSimpArgs false
set_option maxRecDepth 100000
set_option maxHeartbeats 8000000
/-- How many of the first k stand ahead of r. -/
def cnt (l : List Rt) (r : Rt) (k : Nat) : Nat := (l.take k).countP fun x => decide (cfR x r < 0)
def place (l : List Rt) (r : Rt) : Nat := cnt l r l.length
def outs (l : List Rt) : Nat → List Int
  | 0 => List.replicate l.length 0
  | i + 1 => match l[i]? with
    | some r => (outs l i).set (place l r) r.p
    | none => outs l i
theorem outs_len (l : List Rt) : ∀ i, (outs l i).length = l.length
  | 0 => by simp [outs]
  | i + 1 => by
    unfold outs
    split
    · rw [List.length_set, outs_len l i]
    · exact outs_len l i
theorem outs_next {l : List Rt} {i : Nat} (h : i < l.length) : outs l (i + 1) = (outs l i).set (place l l[i]) l[i].p := by
  rw [outs, List.getElem?_eq_getElem h]
theorem cnt_zero (l : List Rt) (r : Rt) : cnt l r 0 = 0 := rfl
theorem cnt_next {l : List Rt} {r : Rt} {k : Nat} (h : k < l.length) : cnt l r (k + 1) = cnt l r k + if cfR l[k] r < 0 then 1 else 0 := by
  unfold cnt
  rw [take_next h, List.countP_append]
  congr 1
  simp [List.countP_cons]
theorem cnt_le (l : List Rt) (r : Rt) (k : Nat) : cnt l r k ≤ k := by
  unfold cnt
  exact Nat.le_trans List.countP_le_length (by rw [List.length_take]; omega)
theorem cfR_zero {a b : Rt} (h : cfR a b = 0) : a.p = b.p := by unfold cfR ord at h; split at h <;> (repeat' split at h) <;> omega
theorem cfR_anti {a b : Rt} (h : cfR a b < 0) : ¬ cfR b a < 0 := by unfold cfR ord at *; (repeat' split at h) <;> (repeat' split) <;> omega
theorem cfR_self (a : Rt) : cfR a a = 0 := by unfold cfR ord; simp
section
variable {l O : List Rt}
theorem strict (ha : Asc l) (hp : O.Perm l) (hs : SrtOn cfR O 0 l.length) {i j : Nat} (hij : i < j) (hj : j < O.length) : cfR O[i] O[j] < 0 := by
  have hl := hp.length_eq
  have h := hs i j O[i] O[j] (Nat.zero_le _) hij (by omega) (List.getElem?_eq_getElem (by omega)) (List.getElem?_eq_getElem hj)
  refine Classical.byContradiction fun hn => ?_
  have h0 : cfR O[i] O[j] = 0 := by omega
  have hpp := cfR_zero h0
  -- players differ
  have hnd : (l.map (·.p)).Nodup := by
    rw [List.Nodup, List.pairwise_iff_getElem]
    intro a b ha' hb' hab
    simp only [List.length_map] at ha' hb'
    simp only [List.getElem_map]
    have := ha a b l[a] l[b] hab (List.getElem?_eq_getElem ha') (List.getElem?_eq_getElem hb')
    omega
  have hnd' : (O.map (·.p)).Nodup := (hp.map _).nodup_iff.2 hnd
  have := List.pairwise_iff_getElem.1 hnd' i j (by simp; omega) (by simpa using hj) hij
  simp only [List.getElem_map] at this
  exact this hpp
theorem place_eq (ha : Asc l) (hp : O.Perm l) (hs : SrtOn cfR O 0 l.length) {j : Nat} (hj : j < O.length) : place l O[j] = j := by
  unfold place cnt
  rw [List.take_length, ← hp.countP_eq]
  have e : O = O.take j ++ O.drop j := (List.take_append_drop j O).symm
  have h1 : (O.take j).countP (fun x => decide (cfR x O[j] < 0)) = j := by
    rw [List.countP_eq_length.2 ?_, List.length_take]
    · omega
    · intro x hx
      rw [List.mem_take_iff_getElem] at hx
      obtain ⟨k, hk, rfl⟩ := hx
      exact decide_eq_true (strict ha hp hs (by omega) hj)
  have h2 : (O.drop j).countP (fun x => decide (cfR x O[j] < 0)) = 0 := by
    rw [List.countP_eq_zero]
    intro x hx
    rw [List.mem_drop_iff_getElem] at hx
    obtain ⟨k, hk, rfl⟩ := hx
    simp only [decide_eq_true_eq]
    rcases Nat.eq_zero_or_pos k with rfl | hk0
    · simp [cfR_self]
    · exact cfR_anti (strict ha hp hs (show j < j + k by omega) (by omega))
  calc O.countP (fun x => decide (cfR x O[j] < 0)) = (O.take j ++ O.drop j).countP (fun x => decide (cfR x O[j] < 0)) := by rw [List.take_append_drop]
    _ = j := by rw [List.countP_append, h1, h2]; rfl
theorem place_lt (ha : Asc l) (hp : O.Perm l) (hs : SrtOn cfR O 0 l.length) {r : Rt} (hr : r ∈ l) : place l r < l.length ∧ O[place l r]? = some r := by
  obtain ⟨j, hj⟩ := List.getElem?_of_mem (hp.mem_iff.2 hr)
  obtain ⟨hjl, rfl⟩ := List.getElem?_eq_some_iff.1 hj
  rw [place_eq ha hp hs hjl]
  exact ⟨by rw [← hp.length_eq]; exact hjl, hj⟩
theorem outs_get (ha : Asc l) (hp : O.Perm l) (hs : SrtOn cfR O 0 l.length) : ∀ (m : Nat), m ≤ l.length → ∀ (i : Nat) (hi : i < l.length), i < m → (outs l m)[place l l[i]]? = some l[i].p
  | 0, _, i, hi, h => absurd h (Nat.not_lt_zero _)
  | m + 1, hm, i, hi, h => by
    have hml : m < l.length := by omega
    rw [outs_next hml, List.getElem?_set, outs_len]
    have h1 := place_lt ha hp hs (List.getElem_mem hi)
    have h2 := place_lt ha hp hs (List.getElem_mem hml)
    by_cases e : place l l[m] = place l l[i]
    · rw [if_pos e, if_pos h2.1]
      have : l[i] = l[m] := by
        rw [e, h1.2] at h2
        exact Option.some.inj h2.2
      rw [this]
    · rw [if_neg e]
      have him : i < m := by
        rcases Nat.lt_or_eq_of_le (Nat.le_of_lt_succ h) with h | h
        · exact h
        · subst h; exact absurd rfl e
      exact outs_get ha hp hs m (by omega) i hi him
theorem outs_all (ha : Asc l) (hp : O.Perm l) (hs : SrtOn cfR O 0 l.length) : outs l l.length = O.map (·.p) := by
  apply List.ext_getElem?
  intro j
  have hl := hp.length_eq
  by_cases hj : j < O.length
  · have hm := hp.mem_iff.1 (List.getElem_mem hj)
    obtain ⟨i, hi⟩ := List.getElem?_of_mem hm
    obtain ⟨hil, he⟩ := List.getElem?_eq_some_iff.1 hi
    have := outs_get ha hp hs l.length (Nat.le_refl _) i hil hil
    rw [he, place_eq ha hp hs hj] at this
    rw [this, List.getElem?_map, List.getElem?_eq_getElem hj]; rfl
  · rw [List.getElem?_eq_none (by rw [outs_len]; omega), List.getElem?_eq_none (by rw [List.length_map]; omega)]
end
end Go.Proofs.Ytfccgdgippmpgaa
