/-
  Rate10: what a match does to the ratings, plainly.
-/
import Derived.Test.YtfccgdgippmpgaaRate9
namespace Go.Proofs.Ytfccgdgippmpgaa
open Go.Ab
set_option linter.unusedSimpArgs false
set_option maxRecDepth 100000
/-- The value in hundredths. -/
def Rt.c (r : Rt) : Int := (cts r.n r.d).1
/-- Where a player is; where it would be. -/
def pos (l : List Rt) (p : Int) : Nat := l.findIdx (fun r => decide (r.p = p))
def cut (l : List Rt) (p : Int) : Nat := l.findIdx (fun r => decide (p ≤ r.p))
def Asc (l : List Rt) : Prop := ∀ (i j : Nat) (a b : Rt), i < j → l[i]? = some a → l[j]? = some b → a.p < b.p
theorem asc_pos {l : List Rt} {n : Nat} (h : asc l n = true) {i : Nat} {a b : Rt} (hi : i < n) (ha : l[i]? = some a) (hb : l[i + 1]? = some b) : a.p < b.p := by
  unfold asc at h
  rw [List.all_eq_true] at h
  have := h i (by simpa using hi)
  rw [ha, hb] at this
  simpa using this
theorem asc_Asc {l : List Rt} (h : asc l (l.length - 1) = true) : Asc l := by
  intro i j a b hij ha hb
  obtain ⟨d, rfl⟩ : ∃ d, j = i + 1 + d := ⟨j - i - 1, by omega⟩
  clear hij
  induction d generalizing b with
  | zero =>
    have := (List.getElem?_eq_some_iff.1 hb).1
    exact asc_pos h (by omega) ha hb
  | succ d ih =>
    have hl := (List.getElem?_eq_some_iff.1 hb).1
    have hm : l[i + 1 + d]? = some l[i + 1 + d] := List.getElem?_eq_getElem (by omega)
    have h1 := ih _ hm
    have h2 := asc_pos h (i := i + 1 + d) (by omega) hm (by rw [← hb]; rfl)
    omega
theorem pos_spec {l : List Rt} {p : Int} (h : pos l p < l.length) : l[pos l p].p = p := by
  have h' : l.findIdx (fun r => decide (r.p = p)) < l.length := h
  have := List.findIdx_getElem (xs := l) (p := fun r => decide (r.p = p)) (w := h')
  exact of_decide_eq_true this
theorem pos_uniq {l : List Rt} (ha : Asc l) {p : Int} {k : Nat} {r : Rt} (hk : l[k]? = some r) (hp : r.p = p) : pos l p = k := by
  have hkl := (List.getElem?_eq_some_iff.1 hk).1
  have h1 : pos l p < l.length := by
    unfold pos
    rw [List.findIdx_lt_length]
    exact ⟨r, List.mem_of_getElem? hk, by simpa using hp⟩
  have h2 := pos_spec h1
  have h3 : l[pos l p]? = some l[pos l p] := List.getElem?_eq_getElem h1
  rcases Nat.lt_trichotomy (pos l p) k with h | h | h
  · have := ha _ _ _ _ h h3 hk; omega
  · exact h
  · have := ha _ _ _ _ h hk h3; omega
theorem cut_lt {l : List Rt} {p : Int} {k : Nat} {r : Rt} (hk : l[k]? = some r) (h : k < cut l p) : r.p < p := by
  obtain ⟨hl, e⟩ := List.getElem?_eq_some_iff.1 hk
  have := List.not_of_lt_findIdx (xs := l) (p := fun r => decide (p ≤ r.p)) h
  rw [e] at this
  have := of_decide_eq_false this
  omega
theorem cut_spec {l : List Rt} {p : Int} (h : cut l p < l.length) : p ≤ l[cut l p].p := by
  have h' : l.findIdx (fun r => decide (p ≤ r.p)) < l.length := h
  have := List.findIdx_getElem (xs := l) (p := fun r => decide (p ≤ r.p)) (w := h')
  exact of_decide_eq_true this
theorem cut_ge {l : List Rt} (ha : Asc l) {p : Int} {k : Nat} {r : Rt} (hk : l[k]? = some r) (h : cut l p ≤ k) : p ≤ r.p := by
  obtain ⟨hl, e⟩ := List.getElem?_eq_some_iff.1 hk
  have hc : cut l p < l.length := by omega
  have h1 := cut_spec hc
  rcases Nat.lt_or_eq_of_le h with h | h
  · have := ha _ _ _ _ h (List.getElem?_eq_getElem hc) hk; omega
  · subst h; rw [← e]; exact h1
theorem cut_le (l : List Rt) (p : Int) : cut l p ≤ l.length := List.findIdx_le_length
theorem cut_found {l : List Rt} (ha : Asc l) (p : Int) : (match l[cut l p]? with
    | some r => decide (ord r.p p = 0)
    | none => false) = decide (pos l p < l.length) ∧ (pos l p < l.length → cut l p = pos l p) := by
  constructor
  · split
    · rename_i r hr
      rw [decide_eq_decide]
      constructor
      · intro h
        have e : r.p = p := by unfold ord at h; split at h <;> (try split at h) <;> omega
        rw [pos_uniq ha hr e]
        exact (List.getElem?_eq_some_iff.1 hr).1
      · intro h
        have h1 := pos_spec h
        have h2 := cut_ge ha hr (Nat.le_refl _)
        have h3 : ¬ pos l p < cut l p := fun hh => by
          have := cut_lt (List.getElem?_eq_getElem h) hh; omega
        rcases Nat.lt_or_eq_of_le (Nat.le_of_not_lt h3) with h4 | h4
        · have := ha _ _ _ _ h4 hr (List.getElem?_eq_getElem h); omega
        · rw [h4, List.getElem?_eq_getElem h] at hr
          have := Option.some.inj hr
          rw [← this, h1]
          unfold ord; simp
    · rename_i hr
      symm
      rw [decide_eq_false_iff_not]
      intro h
      have h0 : l.length ≤ cut l p := List.getElem?_eq_none_iff.1 hr
      have h1 := pos_spec h
      have := cut_lt (p := p) (List.getElem?_eq_getElem h) (by omega)
      omega
  · intro h
    have h1 := pos_spec h
    have h3 : ¬ pos l p < cut l p := fun hh => by
      have := cut_lt (List.getElem?_eq_getElem h) hh; omega
    have hc : cut l p < l.length := by omega
    rcases Nat.lt_or_eq_of_le (Nat.le_of_not_lt h3) with h4 | h4
    · have h5 := ha _ _ _ _ h4 (List.getElem?_eq_getElem hc) (List.getElem?_eq_getElem h)
      have h6 := cut_ge ha (p := p) (List.getElem?_eq_getElem hc) (Nat.le_refl _)
      omega
    · exact h4
/-- One pair of a match. -/
def stp (s : List Sc) (l : List Rt) (i j : Nat) (A : List Int) : List Int := match s[i]?, s[j]? with
  | some x, some y =>
    let t := tr x.c y.c ((l.map Rt.c).getD (pos l x.p) 0) ((l.map Rt.c).getD (pos l y.p) 0) s.length
    (A.set (pos l x.p) (A.getD (pos l x.p) 0 + t)).set (pos l y.p) (A.getD (pos l y.p) 0 - t)
  | _, _ => A
/-- The pairs (i, i + 1) .. (i, i + k). -/
def inn (s : List Sc) (l : List Rt) (i : Nat) (A : List Int) : Nat → List Int
  | 0 => A
  | k + 1 => stp s l i (i + 1 + k) (inn s l i A k)
/-- All the pairs of the first i. -/
def outr (s : List Sc) (l : List Rt) : Nat → List Int
  | 0 => l.map Rt.c
  | i + 1 => inn s l i (outr s l i) (s.length - (i + 1))
theorem stp_len (s : List Sc) (l : List Rt) (i j : Nat) (A : List Int) : (stp s l i j A).length = A.length := by
  unfold stp; split <;> simp
theorem inn_len (s : List Sc) (l : List Rt) (i : Nat) (A : List Int) (k : Nat) : (inn s l i A k).length = A.length := by
  induction k with
  | zero => rfl
  | succ k ih => rw [inn, stp_len, ih]
theorem outr_len (s : List Sc) (l : List Rt) (i : Nat) : (outr s l i).length = l.length := by
  induction i with
  | zero => simp [outr]
  | succ i ih => rw [outr, inn_len, ih]
/-- Numbers near the range of the values. -/
def Bd (A : List Int) (m : Nat) : Prop := ∀ a ∈ A, -10000000 - 4000 * (m : Int) ≤ a ∧ a ≤ 10000000 + 4000 * (m : Int)
theorem Bd.get {A : List Int} {m : Nat} (h : Bd A m) (k : Nat) : -10000000 - 4000 * (m : Int) ≤ A.getD k 0 ∧ A.getD k 0 ≤ 10000000 + 4000 * (m : Int) := by
  by_cases hk : k < A.length
  · rw [List.getD_eq_getElem?_getD, List.getElem?_eq_getElem hk]
    exact h _ (List.getElem_mem hk)
  · rw [List.getD_eq_getElem?_getD, List.getElem?_eq_none (by omega)]
    simp; omega
theorem Bd.mono {A : List Int} {m m' : Nat} (h : Bd A m) (hm : m ≤ m') : Bd A m' := fun a ha => by have := h a ha; omega
theorem Bd.set {A : List Int} {m : Nat} (h : Bd A m) (k : Nat) (v : Int) (hv : -10000000 - 4000 * (m : Int) ≤ v ∧ v ≤ 10000000 + 4000 * (m : Int)) : Bd (A.set k v) m := fun a ha => by
  rcases List.mem_or_eq_of_mem_set ha with h1 | h1
  · exact h a h1
  · rw [h1]; exact hv
theorem stp_bd {s : List Sc} {l : List Rt} {i j : Nat} {A : List Int} {m : Nat} (h : Bd A m) (hn : 2 ≤ s.length ∧ s.length ≤ 4) (hp : ∀ x ∈ s, ptOk x = true) : Bd (stp s l i j A) (m + 1) := by
  unfold stp
  split
  · rename_i x y hx hy
    have h1 := (ptOk_iff x).1 (hp x (List.mem_of_getElem? hx))
    have h2 := (ptOk_iff y).1 (hp y (List.mem_of_getElem? hy))
    have ht := tr_range (a := (l.map Rt.c).getD (pos l x.p) 0) (b := (l.map Rt.c).getD (pos l y.p) 0) (n := s.length) h1.2 h2.2 (by omega)
    have g1 := h.get (pos l x.p)
    have g2 := h.get (pos l y.p)
    dsimp only
    simp only [Sc.c]
    refine ((h.mono (Nat.le_succ _)).set _ _ ?_).set _ _ ?_ <;> omega
  · exact h.mono (Nat.le_succ _)
theorem inn_bd {s : List Sc} {l : List Rt} {i : Nat} {A : List Int} {m : Nat} (h : Bd A m) (hn : 2 ≤ s.length ∧ s.length ≤ 4) (hp : ∀ x ∈ s, ptOk x = true) (k : Nat) : Bd (inn s l i A k) (m + k) := by
  induction k with
  | zero => exact h
  | succ k ih => exact stp_bd ih hn hp
theorem vals_bd {l : List Rt} (hr : l.all rgt = true) : Bd (l.map Rt.c) 0 := fun a ha => by
  obtain ⟨r, h1, rfl⟩ := List.mem_map.1 ha
  have := rgt_cts (List.all_eq_true.1 hr r h1)
  unfold Rt.c; omega
theorem outr_bd {s : List Sc} {l : List Rt} (hr : l.all rgt = true) (hn : 2 ≤ s.length ∧ s.length ≤ 4) (hp : ∀ x ∈ s, ptOk x = true) (i : Nat) : Bd (outr s l i) (4 * i) := by
  induction i with
  | zero => exact vals_bd hr
  | succ i ih => exact (inn_bd ih hn hp _).mono (by omega)
/-- The ratings behind the match, as the program writes them: of the scores that are left. -/
def fin (A : List Int) (l : List Rt) : List Sc → List Rt → Option (List Rt)
  | [], O => some O
  | x :: r, O => match O[pos l x.p]? with
    | none => none
    | some y => if 1000000 < y.g + 1 ∨ A.getD (pos l x.p) 0 < -10000000 ∨ 10000000 < A.getD (pos l x.p) 0 then none
      else fin A l r (O.set (pos l x.p) ⟨y.p, (mkQ (A.getD (pos l x.p) 0) 100).1, (mkQ (A.getD (pos l x.p) 0) 100).2.1, y.g + 1⟩)
def fndB (l : List Rt) (s : List Sc) : Bool := s.all fun x => decide (pos l x.p < l.length)
/-- The errno and the ratings behind a match. -/
def upd (l : List Rt) (s : List Sc) : Int × List Rt :=
  if chk l ≠ 0 then (chk l, []) else if scB s = false then (13, []) else if fndB l s = false then (21, []) else
    match fin (outr s l s.length) l s l with
    | none => (12, [])
    | some O => (0, O)
def updV (u : Int × List Rt) : AV := if u.1 = 0 then .tup [.own 4 (u.2.map eRt), nt .i64 0] else .tup [.list false true [], nt .i64 u.1]
end Go.Proofs.Ytfccgdgippmpgaa
