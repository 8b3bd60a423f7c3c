/-
  Rate22: both matches leave the same.
-/
import Derived.Test.YtfccgdgippmpgaaRate21
import Derived.Test.YtfccgdgippmpgaaRate13
namespace Go.Proofs.Ytfccgdgippmpgaa
open Go.Ab
set_option linter.unusedSimpArgs false
set_option maxRecDepth 100000
theorem tr_swap {p q a b n : Int} (hn : 2 ≤ n) : tr q p b a n = - tr p q a b n := by
  have hx : xpd b a = 80000 - xpd a b := by unfold xpd; omega
  unfold tr
  rw [hx, show 40000 + 400 * (q - p) - (80000 - xpd a b) = -(40000 + 400 * (p - q) - xpd a b) by omega]
  generalize 40000 + 400 * (p - q) - xpd a b = x
  have hd : 1 ≤ 25 * (n - 1) := by omega
  generalize 25 * (n - 1) = d at *
  unfold rnd
  rcases Int.lt_trichotomy x 0 with h | h | h
  · rw [if_neg (by omega), if_pos h]; omega
  · subst h
    have h0 : half 0 d = 0 := by
      unfold half
      rw [Int.mul_zero, Int.zero_add]; exact Int.ediv_eq_zero_of_lt (by omega) (by omega)
    simp [h0]
  · rw [if_pos (by omega), if_neg (by omega), Int.neg_neg]
/-- The transfer of a pair; who stands at place k. -/
def Tt (s : List Sc) (l : List Rt) (i j : Nat) : Int := match s[i]?, s[j]? with
  | some x, some y => tr x.c y.c (val l x.p) (val l y.p) s.length
  | _, _ => 0
def atP (s : List Sc) (l : List Rt) (k i : Nat) : Bool := match s[i]? with
  | some x => decide (pos l x.p = k)
  | none => false
theorem Tt_swap {s : List Sc} {l : List Rt} (hn : 2 ≤ s.length) (i j : Nat) : Tt s l j i = - Tt s l i j := by
  unfold Tt
  cases s[i]? <;> cases s[j]? <;> simp
  exact tr_swap (by omega)
theorem stp_get {s : List Sc} {l : List Rt} {i j : Nat} {A : List Int} {k : Nat} (hk : k < A.length) (hne : ¬ (atP s l k i = true ∧ atP s l k j = true)) :
    (stp s l i j A).getD k 0 = A.getD k 0 + (if atP s l k i = true then Tt s l i j else 0) - (if atP s l k j = true then Tt s l i j else 0) := by
  unfold stp Tt
  cases hx : s[i]? with
  | none => simp
  | some x =>
    cases hy : s[j]? with
    | none => simp
    | some y =>
      have ai : atP s l k i = decide (pos l x.p = k) := by unfold atP; rw [hx]
      have aj : atP s l k j = decide (pos l y.p = k) := by unfold atP; rw [hy]
      rw [ai, aj] at hne ⊢
      simp only [decide_eq_true_eq] at hne ⊢
      unfold val
      generalize tr x.c y.c ((l.map Rt.c).getD (pos l x.p) 0) ((l.map Rt.c).getD (pos l y.p) 0) s.length = T
      simp only [List.getD_eq_getElem?_getD, List.getElem?_set, List.length_set]
      by_cases h1 : pos l x.p = k
      · have h2 : ¬ pos l y.p = k := fun h => hne ⟨h1, h⟩
        simp [h1, h2, hk]
      · by_cases h2 : pos l y.p = k
        · simp [h1, h2, hk]
        · simp [h1, h2]
theorem inn_get {s : List Sc} {l : List Rt} {i : Nat} {A : List Int} {k m : Nat} (hk : k < A.length) (hne : ∀ a b, atP s l k a = true → atP s l k b = true → a = b) :
    (inn s l i A (m + 1)).getD k 0 = (inn s l i A m).getD k 0 + (if atP s l k i = true then Tt s l i (i + 1 + m) else 0) - (if atP s l k (i + 1 + m) = true then Tt s l i (i + 1 + m) else 0) := by
  rw [inn]
  exact stp_get (by rw [inn_len]; exact hk) fun ⟨h1, h2⟩ => by have := hne _ _ h1 h2; omega
/-- The sum of what place a gets. -/
def tot (s : List Sc) (l : List Rt) (a : Nat) : Nat → Int
  | 0 => 0
  | j + 1 => tot s l a j + (if j = a then 0 else Tt s l a j)
theorem outr_at {s : List Sc} {l : List Rt} (hn : 2 ≤ s.length ∧ s.length ≤ 4) {k : Nat} (hk : k < l.length) (hne : ∀ a b, atP s l k a = true → atP s l k b = true → a = b) {a : Nat} (ha : a < s.length) (hat : atP s l k a = true) :
    (outr s l s.length).getD k 0 = (l.map Rt.c).getD k 0 + tot s l a s.length := by
  have hq : ∀ i, atP s l k i = decide (i = a) := fun i => by
    rw [Bool.eq_iff_iff, decide_eq_true_eq]
    exact ⟨fun h => hne _ _ h hat, fun h => by rw [h]; exact hat⟩
  have hg := fun (i m : Nat) (A : List Int) (h : k < A.length) => inn_get (s := s) (l := l) (i := i) (A := A) (m := m) h hne
  have g0 : ∀ i A, inn s l i A 0 = A := fun _ _ => rfl
  have ho := outr_len s l
  have hsw := Tt_swap (l := l) hn.1
  have t01 := hsw 0 1
  have t02 := hsw 0 2
  have t03 := hsw 0 3
  have t12 := hsw 1 2
  have t13 := hsw 1 3
  have t23 := hsw 2 3
  have o0 : outr s l 0 = l.map Rt.c := rfl
  have os : ∀ i, outr s l (i + 1) = inn s l i (outr s l i) (s.length - (i + 1)) := fun _ => rfl
  have key : s.length = 2 ∨ s.length = 3 ∨ s.length = 4 := by omega
  rcases key with e | e | e
  · rw [e] at ha os ⊢
    have l0 : k < (outr s l 0).length := by rw [ho]; exact hk
    have e1 := os 0
    have e2 := os 1
    simp only [Nat.zero_add, Nat.reduceAdd, Nat.reduceSub] at e1 e2
    have x00 := hg 0 0 _ l0
    simp only [Nat.zero_add, Nat.reduceAdd] at x00
    rw [← e1] at x00
    rw [g0] at x00 e2
    rw [e2]
    show _ = (outr s l 0).getD k 0 + _
    generalize (outr s l 0).getD k 0 = G0 at *
    generalize (outr s l 1).getD k 0 = G1 at *
    clear e1 e2 os ho o0 g0 hg hsw l0
    have : a = 0 ∨ a = 1 := by omega
    rcases this with rfl | rfl <;> simp [hq, tot] at * <;> omega
  · rw [e] at ha os ⊢
    have l0 : k < (outr s l 0).length := by rw [ho]; exact hk
    have l1 : k < (outr s l 1).length := by rw [ho]; exact hk
    have e1 := os 0
    have e2 := os 1
    have e3 := os 2
    simp only [Nat.zero_add, Nat.reduceAdd, Nat.reduceSub] at e1 e2 e3
    have x00 := hg 0 0 _ l0
    have x01 := hg 0 1 _ l0
    have x10 := hg 1 0 _ l1
    simp only [Nat.zero_add, Nat.reduceAdd] at x00 x01 x10
    rw [← e1] at x01
    rw [← e2] at x10
    rw [g0] at x00 x10 e3
    rw [e3]
    show _ = (outr s l 0).getD k 0 + _
    generalize (outr s l 0).getD k 0 = G0 at *
    generalize (outr s l 1).getD k 0 = G1 at *
    generalize (outr s l 2).getD k 0 = G2 at *
    generalize (inn s l 0 (outr s l 0) 1).getD k 0 = H01 at *
    clear e1 e2 e3 os ho o0 g0 hg hsw l0 l1
    have : a = 0 ∨ a = 1 ∨ a = 2 := by omega
    rcases this with rfl | rfl | rfl <;> simp [hq, tot] at * <;> omega
  · rw [e] at ha os ⊢
    have l0 : k < (outr s l 0).length := by rw [ho]; exact hk
    have l1 : k < (outr s l 1).length := by rw [ho]; exact hk
    have l2 : k < (outr s l 2).length := by rw [ho]; exact hk
    have e1 := os 0
    have e2 := os 1
    have e3 := os 2
    have e4 := os 3
    simp only [Nat.zero_add, Nat.reduceAdd, Nat.reduceSub] at e1 e2 e3 e4
    have x00 := hg 0 0 _ l0
    have x01 := hg 0 1 _ l0
    have x02 := hg 0 2 _ l0
    have x10 := hg 1 0 _ l1
    have x11 := hg 1 1 _ l1
    have x20 := hg 2 0 _ l2
    simp only [Nat.zero_add, Nat.reduceAdd] at x00 x01 x02 x10 x11 x20
    rw [← e1] at x02
    rw [← e2] at x11
    rw [← e3] at x20
    rw [g0] at x00 x10 x20 e4
    rw [e4]
    show _ = (outr s l 0).getD k 0 + _
    generalize (outr s l 0).getD k 0 = G0 at *
    generalize (outr s l 1).getD k 0 = G1 at *
    generalize (outr s l 2).getD k 0 = G2 at *
    generalize (outr s l 3).getD k 0 = G3 at *
    generalize (inn s l 0 (outr s l 0) 1).getD k 0 = H01 at *
    generalize (inn s l 0 (outr s l 0) 2).getD k 0 = H02 at *
    generalize (inn s l 1 (outr s l 1) 1).getD k 0 = H11 at *
    clear e1 e2 e3 e4 os ho o0 g0 hg hsw l0 l1 l2
    have : a = 0 ∨ a = 1 ∨ a = 2 ∨ a = 3 := by omega
    rcases this with rfl | rfl | rfl | rfl <;> simp [hq, tot] at * <;> omega
theorem atP_uniq {l : List Rt} {s : List Sc} (hF : Fnd l s) {k : Nat} : ∀ a b, atP s l k a = true → atP s l k b = true → a = b := by
  intro a b ha hb
  unfold atP at ha hb
  split at ha
  · rename_i x hx
    split at hb
    · rename_i y hy
      obtain ⟨h1, rfl⟩ := List.getElem?_eq_some_iff.1 hx
      obtain ⟨h2, rfl⟩ := List.getElem?_eq_some_iff.1 hy
      refine Classical.byContradiction fun hn => ?_
      have := pos_ne hF.nd hF.lt h1 h2 hn
      have := of_decide_eq_true ha
      have := of_decide_eq_true hb
      omega
    · cases hb
  · cases ha
/-- A player's place, and a score's player. -/
theorem atP_iff {l : List Rt} {s : List Sc} (hF : Fnd l s) (hA : Asc l) {k a : Nat} (hk : k < l.length) (ha : a < s.length) : atP s l k a = true ↔ s[a].p = l[k].p := by
  unfold atP
  rw [List.getElem?_eq_getElem ha]
  simp only [decide_eq_true_eq]
  constructor
  · intro h
    have h1 := pos_spec (hF.lt _ (List.getElem_mem ha))
    rw [← h1]
    congr 2
  · intro h
    exact pos_uniq hA (List.getElem?_eq_getElem hk) h.symm
theorem tsum_tot {s : List Sc} {l : List Rt} {a : Nat} {c : Int} (ha : a < s.length) (hc : val l s[a].p = c) : ∀ j, tsum s l c a j = tot s l a j := by
  intro j
  induction j with
  | zero => rfl
  | succ j ih =>
    rw [tsum, tot, ih]
    congr 1
    by_cases e : j = a
    · rw [if_pos e, if_pos e]
    · rw [if_neg e, if_neg e]
      unfold Tt
      rw [List.getElem?_eq_getElem ha]
      cases s[j]? with
      | none => rfl
      | some y => dsimp only; rw [hc]
theorem rsum_none {s : List Sc} {l : List Rt} {r : Rt} (h : ∀ (a : Nat) (ha : a < s.length), s[a].p ≠ r.p) : ∀ k, rsum s l r k = 0 ∧ rcnt s r k = 0 := by
  intro k
  induction k with
  | zero => exact ⟨rfl, rfl⟩
  | succ k ih =>
    rw [rsum, rcnt, ih.1, ih.2]
    cases hx : s[k]? with
    | none => simp
    | some x =>
      obtain ⟨hk, rfl⟩ := List.getElem?_eq_some_iff.1 hx
      simp [h k hk]
theorem rsum_one {s : List Sc} {l : List Rt} {r : Rt} {a : Nat} (ha : a < s.length) (h : ∀ (b : Nat) (hb : b < s.length), s[b].p = r.p ↔ b = a) : ∀ k, rsum s l r k = (if a < k then tsum s l r.c a s.length else 0) ∧ rcnt s r k = if a < k then 1 else 0 := by
  intro k
  induction k with
  | zero => exact ⟨rfl, rfl⟩
  | succ k ih =>
    rw [rsum, rcnt, ih.1, ih.2]
    cases hx : s[k]? with
    | none =>
      have := List.getElem?_eq_none_iff.1 hx
      have h1 : a < k := by omega
      have h2 : a < k + 1 := by omega
      simp [h1, h2]
    | some x =>
      obtain ⟨hk, rfl⟩ := List.getElem?_eq_some_iff.1 hx
      by_cases e : k = a
      · subst e
        simp [(h k hk).2 rfl]
      · have hn : ¬ s[k].p = r.p := fun hh => e ((h k hk).1 hh)
        simp only [hn, if_false, Int.add_zero]
        by_cases h1 : a < k
        · rw [if_pos h1, if_pos (by omega), if_pos h1, if_pos (by omega)]; exact ⟨rfl, rfl⟩
        · rw [if_neg h1, if_neg (by omega), if_neg h1, if_neg (by omega)]; exact ⟨rfl, rfl⟩
theorem rupd_eq (l : List Rt) (s : List Sc) : rupd l s = upd l s := by
  unfold rupd upd
  by_cases h0 : chk l ≠ 0
  · rw [if_pos h0, if_pos h0]
  rw [if_neg h0, if_neg h0]
  have h0 : chk l = 0 := Classical.byContradiction h0
  by_cases h1 : scB s = false
  · rw [if_pos h1, if_pos h1]
  rw [if_neg h1, if_neg h1]
  by_cases h2 : fndB l s = false
  · rw [if_pos h2, if_pos h2]
  rw [if_neg h2, if_neg h2]
  simp only [Bool.not_eq_false] at h1 h2
  obtain ⟨hl16, hrg, hasc⟩ := chk_facts h0
  obtain ⟨hn2, hn4, hpt, hnd⟩ := scB_facts h1
  have hF : Fnd l s := ⟨fndB_lt h2, hnd⟩
  have hol := outr_len s l s.length
  have hun := fun k => atP_uniq hF (k := k)
  -- what is left of a place, by both
  have key : ∀ (k : Nat) (hk : k < l.length), ((∃ x ∈ s, pos l x.p = k) → (outr s l s.length).getD k 0 = l[k].c + rsum s l l[k] s.length ∧ rcnt s l[k] s.length = 1) ∧
      ((∀ x ∈ s, pos l x.p ≠ k) → rsum s l l[k] s.length = 0 ∧ rcnt s l[k] s.length = 0) := by
    intro k hk
    refine ⟨fun ⟨x, hx, hp⟩ => ?_, fun hp => ?_⟩
    · obtain ⟨a, hxa⟩ := List.getElem?_of_mem hx
      obtain ⟨ha, rfl⟩ := List.getElem?_eq_some_iff.1 hxa
      have hat : atP s l k a = true := by unfold atP; rw [List.getElem?_eq_getElem ha]; simpa using hp
      have h3 := outr_at ⟨hn2, hn4⟩ hk (hun k) ha hat
      have hone : ∀ (b : Nat) (hb : b < s.length), s[b].p = l[k].p ↔ b = a := fun b hb => by
        rw [← atP_iff hF hasc hk hb]
        exact ⟨fun h => hun k _ _ h hat, fun h => by rw [h]; exact hat⟩
      obtain ⟨h4, h5⟩ := rsum_one (l := l) ha hone s.length
      rw [if_pos ha] at h4 h5
      have hv : val l s[a].p = l[k].c := by
        unfold val
        rw [hp, List.getD_eq_getElem?_getD, List.getElem?_map, List.getElem?_eq_getElem hk]; rfl
      rw [h4, tsum_tot ha hv]
      rw [h3, List.getD_eq_getElem?_getD, List.getElem?_map, List.getElem?_eq_getElem hk]
      exact ⟨rfl, h5⟩
    · exact rsum_none (fun a ha he => by
        have := (atP_iff hF hasc hk ha).2 he
        unfold atP at this
        rw [List.getElem?_eq_getElem ha] at this
        exact hp _ (List.getElem_mem ha) (of_decide_eq_true this)) _
  have calm : ∀ (k : Nat) (hk : k < l.length), (∀ x ∈ s, pos l x.p ≠ k) → ¬ rbad s l l[k] ∧ rnew s l l[k] = l[k] := by
    intro k hk hp
    obtain ⟨g1, g2⟩ := (key k hk).2 hp
    have hr := rgt_cts (List.all_eq_true.1 hrg _ (List.getElem_mem hk))
    have hm := mk_cts hr.1
    have hc : l[k].c = (cts l[k].n l[k].d).1 := rfl
    refine ⟨?_, ?_⟩
    · unfold rbad
      rw [g1, g2, hc]; omega
    · unfold rnew
      rw [g1, g2, Int.add_zero, hc, hm, Int.add_zero]
  have same : ∀ (k : Nat) (hk : k < l.length), (∃ x ∈ s, pos l x.p = k) → (rbad s l l[k] ↔ bad l[k] ((outr s l s.length).getD k 0)) ∧ rnew s l l[k] = newR l[k] ((outr s l s.length).getD k 0) := by
    intro k hk hp
    obtain ⟨g1, g2⟩ := (key k hk).1 hp
    refine ⟨?_, ?_⟩
    · unfold rbad bad
      rw [g1, g2]; omega
    · unfold rnew newR
      rw [g1, g2]
  cases hfin : fin (outr s l s.length) l s l with
  | none =>
    obtain ⟨x, hx, y, hy, hb⟩ := fin_none hfin (fun x hx => hF.lt x hx) (pos_nodup hF)
    obtain ⟨hk, rfl⟩ := List.getElem?_eq_some_iff.1 hy
    rw [if_pos ⟨_, List.getElem_mem hk, (same _ hk ⟨x, hx, rfl⟩).1.2 hb⟩]
  | some O =>
    obtain ⟨hlen, hO⟩ := fin_some hfin (pos_nodup hF)
    have hno : ¬ ∃ r ∈ l, rbad s l r := by
      rintro ⟨r, hr, hb⟩
      obtain ⟨k, hkr⟩ := List.getElem?_of_mem hr
      obtain ⟨hk, rfl⟩ := List.getElem?_eq_some_iff.1 hkr
      by_cases hp : ∃ x ∈ s, pos l x.p = k
      · obtain ⟨y, hy, hnb, _⟩ := (hO k).2 hp
        rw [List.getElem?_eq_getElem hk] at hy
        obtain rfl := Option.some.inj hy
        exact hnb ((same k hk hp).1.1 hb)
      · exact (calm k hk fun x hx he => hp ⟨x, hx, he⟩).1 hb
    rw [if_neg hno]
    congr 1
    apply List.ext_getElem?
    intro k
    by_cases hk : k < l.length
    · rw [List.getElem?_map, List.getElem?_eq_getElem hk]
      by_cases hp : ∃ x ∈ s, pos l x.p = k
      · obtain ⟨y, hy, _, hOk⟩ := (hO k).2 hp
        rw [List.getElem?_eq_getElem hk] at hy
        obtain rfl := Option.some.inj hy
        rw [hOk, Option.map_some, (same k hk hp).2]
      · have hp' : ∀ x ∈ s, pos l x.p ≠ k := fun x hx he => hp ⟨x, hx, he⟩
        rw [(hO k).1 hp', List.getElem?_eq_getElem hk, Option.map_some, (calm k hk hp').2]
    · rw [List.getElem?_eq_none (by rw [List.length_map]; omega), List.getElem?_eq_none (by omega)]
end Go.Proofs.Ytfccgdgippmpgaa
