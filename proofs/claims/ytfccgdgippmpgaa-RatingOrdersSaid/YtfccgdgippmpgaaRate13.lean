/-
  Rate13: what a match does to the ratings: the plain laws.
-/
import Derived.Test.YtfccgdgippmpgaaRate12
import Derived.Test.YtfccgdgippmpgaaRate5
namespace Go.Proofs.Ytfccgdgippmpgaa
open Go.Ab
set_option linter.unusedSimpArgs false
set_option maxRecDepth 100000
theorem mk_parts {n : Int} {m : Nat} (hm : 0 < m) (hm2 : m ≤ 1073741824) (hn : -1073741824 ≤ n ∧ n ≤ 1073741824) : ∃ g u v : Nat, n.natAbs = g * u ∧ m = g * v ∧ Nat.gcd u v = 1 ∧ 0 < g ∧ 0 < v ∧ mkQ n m = ((if n < 0 then -(u : Int) else u), (v : Int), 0) := by
  have hg : 0 < Nat.gcd n.natAbs m := Nat.gcd_pos_of_pos_right _ hm
  refine ⟨Nat.gcd n.natAbs m, n.natAbs / Nat.gcd n.natAbs m, m / Nat.gcd n.natAbs m, (Nat.mul_div_cancel' (Nat.gcd_dvd_left _ _)).symm, (Nat.mul_div_cancel' (Nat.gcd_dvd_right _ _)).symm, ?_, hg, Nat.div_pos (Nat.le_of_dvd hm (Nat.gcd_dvd_right _ _)) hg, ?_⟩
  · rw [Nat.gcd_div (Nat.gcd_dvd_left _ _) (Nat.gcd_dvd_right _ _), Nat.div_self hg]
  · unfold mkQ
    have b1 : n.natAbs / Nat.gcd n.natAbs m ≤ n.natAbs := Nat.div_le_self _ _
    have b2 : m / Nat.gcd n.natAbs m ≤ m := Nat.div_le_self _ _
    have e2 : (m : Int).natAbs = m := rfl
    rw [if_neg (by omega), e2, if_neg (by omega)]
    have d2 : decide ((m : Int) < 0) = false := by simp
    rw [d2]
    by_cases h : n < 0
    · simp [h]
    · simp [h]
/-- Hundredths, made and read. -/
theorem mk100 {n : Int} (hn : -100000000 ≤ n ∧ n ≤ 100000000) : (mkQ n 100).2.2 = 0 ∧ cts (mkQ n 100).1 (mkQ n 100).2.1 = (n, true) := by
  obtain ⟨g, u, v, h1, h2, h3, hg, hv, h4⟩ := mk_parts (n := n) (m := 100) (by decide) (by decide) (by omega)
  have h4' : mkQ n 100 = ((if n < 0 then -(u : Int) else u), (v : Int), 0) := h4
  rw [h4']
  refine ⟨rfl, ?_⟩
  have hu : u ≤ n.natAbs := by rw [h1]; exact Nat.le_mul_of_pos_left _ hg
  have hv2 : v ≤ 100 := by rw [h2]; exact Nat.le_mul_of_pos_left _ hg
  have hok : okF (if n < 0 then -(u : Int) else u) (v : Int) = true := by
    rw [okF_iff]
    have e : (if n < 0 then -(u : Int) else u).natAbs = u := by split <;> omega
    rw [e]
    refine ⟨by omega, by omega, ?_, ?_, by simpa using h3⟩
    · split <;> omega
    · split <;> omega
  have e1 : (100 : Int) % v = 0 := by
    have h : (100 : Nat) % v = 0 := by rw [h2]; exact Nat.mul_mod_left _ _
    exact_mod_cast h
  have e2 : (100 : Int) / v = g := by
    have h : (100 : Nat) / v = g := by rw [h2]; exact Nat.mul_div_cancel _ hv
    exact_mod_cast h
  unfold cts
  rw [if_pos ⟨hok, e1⟩, e2]
  have h5 : (n.natAbs : Int) = g * u := by rw [h1]; simp
  have h6 : (if n < 0 then -(u : Int) else u) * (g : Int) = n := by
    rw [Int.mul_comm] at h5
    split
    · rw [Int.neg_mul]; omega
    · omega
  dsimp only
  rw [h6]
theorem mk_cts {n d : Int} (h : (cts n d).2 = true) : mkQ (cts n d).1 100 = (n, d, 0) := by
  unfold cts at *
  split at h
  · rename_i hc
    rw [if_pos hc]
    dsimp only
    obtain ⟨hok, hmod⟩ := hc
    obtain ⟨d1, d2, n1, n2, hg⟩ := okF_iff.1 hok
    obtain ⟨D, rfl⟩ : ∃ D : Nat, d = D := ⟨d.natAbs, by omega⟩
    have hmod' : (100 : Nat) % D = 0 := by exact_mod_cast hmod
    obtain ⟨k, hk⟩ := Nat.dvd_of_mod_eq_zero hmod'
    have hD : 0 < D := by omega
    have hk0 : 0 < k := Nat.pos_of_ne_zero fun h => by rw [h] at hk; simp at hk
    have e2 : (100 : Int) / D = k := by
      have h : (100 : Nat) / D = k := by rw [hk]; exact Nat.mul_div_cancel_left _ hD
      exact_mod_cast h
    rw [e2]
    unfold mkQ
    have ea : (n * (k : Int)).natAbs = n.natAbs * k := by rw [Int.natAbs_mul]; rfl
    have eb : (100 : Int).natAbs = D * k := by rw [← hk]; rfl
    have eg : Nat.gcd (n.natAbs * k) (D * k) = k := by
      have hg' : Nat.gcd n.natAbs D = 1 := by simpa using hg
      rw [Nat.gcd_mul_right, hg', Nat.one_mul]
    rw [if_neg (by decide), ea, eb, eg, Nat.mul_div_cancel _ hk0, Nat.mul_div_cancel _ hk0, if_neg (by omega)]
    have hs : decide (n * (k : Int) < 0) = decide (n < 0) := by
      rw [decide_eq_decide]
      constructor
      · intro h
        rcases Int.lt_or_le n 0 with h' | h'
        · exact h'
        · have := Int.mul_nonneg h' (show (0 : Int) ≤ k by omega); omega
      · intro h; exact Int.mul_neg_of_neg_of_pos h (by omega)
    rw [hs]
    have d2 : decide ((100 : Int) < 0) = false := by decide
    rw [d2]
    by_cases hn : n < 0
    · simp only [hn, decide_true]
      rw [if_neg (by decide)]
      congr 1; omega
    · simp only [hn, decide_false, if_true]
      congr 1; omega
  · simp at h
def sumZ : List Int → Int
  | [] => 0
  | a :: r => a + sumZ r
theorem sumZ_append : ∀ a b : List Int, sumZ (a ++ b) = sumZ a + sumZ b
  | [], b => by simp [sumZ]
  | x :: r, b => by simp only [List.cons_append, sumZ, sumZ_append r b]; omega
theorem sumZ_set : ∀ {A : List Int} {k : Nat} (h : k < A.length) (v : Int), sumZ (A.set k v) = sumZ A + v - A[k]
  | a :: r, 0, _, v => by simp only [List.set_cons_zero, sumZ, List.getElem_cons_zero]; omega
  | a :: r, k + 1, h, v => by
    simp only [List.set_cons_succ, sumZ, List.getElem_cons_succ]
    rw [sumZ_set (by simpa using h)]; omega
/-- Places in range, all different. -/
structure Fnd (l : List Rt) (s : List Sc) : Prop where
  lt : ∀ x ∈ s, pos l x.p < l.length
  nd : (s.map (·.p)).Nodup
theorem stp_sum {s : List Sc} {l : List Rt} (hF : Fnd l s) {i j : Nat} (hij : i ≠ j) {A : List Int} (hA : A.length = l.length) : sumZ (stp s l i j A) = sumZ A := by
  unfold stp
  split
  · rename_i x y hx hy
    obtain ⟨hi, rfl⟩ := List.getElem?_eq_some_iff.1 hx
    obtain ⟨hj, rfl⟩ := List.getElem?_eq_some_iff.1 hy
    have h1 := hF.lt _ (List.getElem_mem hi)
    have h2 := hF.lt _ (List.getElem_mem hj)
    have hne := pos_ne hF.nd hF.lt hi hj hij
    dsimp only
    rw [sumZ_set (by rw [List.length_set]; omega), sumZ_set (by omega), List.getElem_set_ne hne]
    generalize tr s[i].c s[j].c ((l.map Rt.c).getD (pos l s[i].p) 0) ((l.map Rt.c).getD (pos l s[j].p) 0) s.length = T
    rw [List.getD_eq_getElem?_getD, List.getD_eq_getElem?_getD, List.getElem?_eq_getElem (show pos l s[i].p < A.length by omega), List.getElem?_eq_getElem (show pos l s[j].p < A.length by omega)]
    simp only [Option.getD_some]
    omega
  · rfl
theorem inn_sum {s : List Sc} {l : List Rt} (hF : Fnd l s) {i : Nat} {A : List Int} (hA : A.length = l.length) (k : Nat) : sumZ (inn s l i A k) = sumZ A := by
  induction k with
  | zero => rfl
  | succ k ih => rw [inn, stp_sum hF (by omega) (by rw [inn_len]; exact hA), ih]
theorem outr_sum {s : List Sc} {l : List Rt} (hF : Fnd l s) (i : Nat) : sumZ (outr s l i) = sumZ (l.map Rt.c) := by
  induction i with
  | zero => rfl
  | succ i ih => rw [outr, inn_sum hF (outr_len s l i), ih]
theorem stp_out {s : List Sc} {l : List Rt} {i j k : Nat} {A : List Int} (h : ∀ x ∈ s, pos l x.p ≠ k) : (stp s l i j A)[k]? = A[k]? := by
  unfold stp
  split
  · rename_i x y hx hy
    dsimp only
    rw [List.getElem?_set_ne (h y (List.mem_of_getElem? hy)), List.getElem?_set_ne (h x (List.mem_of_getElem? hx))]
  · rfl
theorem inn_out {s : List Sc} {l : List Rt} {i k m : Nat} {A : List Int} (h : ∀ x ∈ s, pos l x.p ≠ k) : (inn s l i A m)[k]? = A[k]? := by
  induction m with
  | zero => rfl
  | succ m ih => rw [inn, stp_out h, ih]
theorem outr_out {s : List Sc} {l : List Rt} {i k : Nat} (h : ∀ x ∈ s, pos l x.p ≠ k) : (outr s l i)[k]? = (l.map Rt.c)[k]? := by
  induction i with
  | zero => rfl
  | succ i ih => rw [outr, inn_out h, ih]
def bad (y : Rt) (a : Int) : Prop := 1000000 < y.g + 1 ∨ a < -10000000 ∨ 10000000 < a
instance (y : Rt) (a : Int) : Decidable (bad y a) := by unfold bad; exact inferInstance
def newR (y : Rt) (a : Int) : Rt := ⟨y.p, (mkQ a 100).1, (mkQ a 100).2.1, y.g + 1⟩
theorem fin_cons {A : List Int} {l : List Rt} {x : Sc} {r : List Sc} {O : List Rt} {y : Rt} (hy : O[pos l x.p]? = some y) : fin A l (x :: r) O = if bad y (A.getD (pos l x.p) 0) then none else fin A l r (O.set (pos l x.p) (newR y (A.getD (pos l x.p) 0))) := by
  rw [fin, hy]; rfl
theorem fin_some {A : List Int} {l : List Rt} : ∀ {r : List Sc} {O O' : List Rt}, fin A l r O = some O' → (r.map fun x => pos l x.p).Nodup → O'.length = O.length ∧ ∀ k : Nat, ((∀ x ∈ r, pos l x.p ≠ k) → O'[k]? = O[k]?) ∧
    ((∃ x ∈ r, pos l x.p = k) → ∃ y, O[k]? = some y ∧ ¬ bad y (A.getD k 0) ∧ O'[k]? = some (newR y (A.getD k 0)))
  | [], O, O', h, _ => by
    obtain rfl : O = O' := by simpa [fin] using h
    exact ⟨rfl, fun k => ⟨fun _ => rfl, by simp⟩⟩
  | x :: r, O, O', h, hn => by
    rw [List.map_cons, List.nodup_cons] at hn
    obtain ⟨hnx, hn⟩ := hn
    cases hy : O[pos l x.p]? with
    | none => simp [fin, hy] at h
    | some y =>
      rw [fin_cons hy] at h
      have hlt := (List.getElem?_eq_some_iff.1 hy).1
      split at h
      · cases h
      · rename_i hb
        obtain ⟨g1, g2⟩ := fin_some h hn
        rw [List.length_set] at g1
        refine ⟨g1, fun k => ⟨fun hk => ?_, fun hk => ?_⟩⟩
        · have := (g2 k).1 fun z hz => hk z (List.mem_cons_of_mem _ hz)
          rw [this, List.getElem?_set_ne (hk x List.mem_cons_self)]
        · by_cases e : pos l x.p = k
          · subst e
            have := (g2 (pos l x.p)).1 fun z hz he => hnx (List.mem_map.2 ⟨z, hz, he⟩)
            refine ⟨y, hy, hb, ?_⟩
            rw [this, List.getElem?_set, if_pos rfl, if_pos hlt]
          · obtain ⟨z, hz, hzk⟩ := hk
            rcases List.mem_cons.1 hz with rfl | hz
            · exact absurd hzk e
            · have := (g2 k).2 ⟨z, hz, hzk⟩
              rwa [List.getElem?_set_ne e] at this
theorem fin_none {A : List Int} {l : List Rt} : ∀ {r : List Sc} {O : List Rt}, fin A l r O = none → (∀ x ∈ r, pos l x.p < O.length) → (r.map fun x => pos l x.p).Nodup → ∃ x ∈ r, ∃ y, O[pos l x.p]? = some y ∧ bad y (A.getD (pos l x.p) 0)
  | [], O, h, _, _ => by simp [fin] at h
  | x :: r, O, h, hlt, hn => by
    rw [List.map_cons, List.nodup_cons] at hn
    obtain ⟨hnx, hn⟩ := hn
    have hx := hlt x List.mem_cons_self
    have hy : O[pos l x.p]? = some O[pos l x.p] := List.getElem?_eq_getElem hx
    rw [fin_cons hy] at h
    split at h
    · rename_i hb
      exact ⟨x, List.mem_cons_self, _, hy, hb⟩
    · obtain ⟨z, hz, w, hw, hb⟩ := fin_none h (fun z hz => by rw [List.length_set]; exact hlt z (List.mem_cons_of_mem _ hz)) hn
      have : pos l x.p ≠ pos l z.p := fun he => hnx (List.mem_map.2 ⟨z, hz, he.symm⟩)
      rw [List.getElem?_set_ne this] at hw
      exact ⟨z, List.mem_cons_of_mem _ hz, w, hw, hb⟩
theorem asc_congr {l O : List Rt} (h : O.map (·.p) = l.map (·.p)) (n : Nat) : asc O n = asc l n := by
  have hg : ∀ k : Nat, (O[k]?).map (·.p) = (l[k]?).map (·.p) := fun k => by rw [← List.getElem?_map, ← List.getElem?_map, h]
  unfold asc
  congr 1
  funext i
  have h1 := hg i
  have h2 := hg (i + 1)
  cases ha : O[i]? <;> cases hb : l[i]? <;> cases hc : O[i + 1]? <;> cases hd : l[i + 1]? <;> simp_all
theorem pos_nodup {l : List Rt} {s : List Sc} (hF : Fnd l s) : (s.map fun x => pos l x.p).Nodup := by
  rw [List.Nodup, List.pairwise_iff_getElem]
  intro i j hi hj hij
  simp only [List.length_map] at hi hj
  simp only [List.getElem_map]
  exact pos_ne hF.nd hF.lt hi hj (by omega)
/-- What is so of the ratings behind a match. -/
structure Upd (l : List Rt) (s : List Sc) (O : List Rt) : Prop where
  chk : chk l = 0
  sc : scB s = true
  fnd : Fnd l s
  chkO : Go.Proofs.Ytfccgdgippmpgaa.chk O = 0
  cs : O.map Rt.c = outr s l s.length
  ps : O.map (·.p) = l.map (·.p)
  len : O.length = l.length
  fin : Go.Proofs.Ytfccgdgippmpgaa.fin (outr s l s.length) l s l = some O
  vals : ∀ (k : Nat) (r : Rt), O[k]? = some r → mkQ r.c 100 = (r.n, r.d, 0) ∧ r.ok
theorem fndB_lt {l : List Rt} {s : List Sc} (h : fndB l s = true) : ∀ x ∈ s, pos l x.p < l.length := fun x hx => of_decide_eq_true (List.all_eq_true.1 h x hx)
theorem upd_facts {l : List Rt} {s : List Sc} {O : List Rt} (h : upd l s = (0, O)) (hl : ∀ r ∈ l, r.ok) : Upd l s O := by
  unfold upd at h
  split at h
  · rename_i h0; exact absurd (Prod.mk.inj h).1 h0
  · rename_i h0
    have h0 : chk l = 0 := Classical.byContradiction h0
    split at h
    · cases (Prod.mk.inj h).1
    · rename_i h1
      split at h
      · cases (Prod.mk.inj h).1
      · rename_i h2
        simp only [Bool.not_eq_false] at h1 h2
        split at h
        · cases (Prod.mk.inj h).1
        · rename_i O' hfin
          obtain rfl := (Prod.mk.inj h).2
          obtain ⟨hl16, hrg, hasc⟩ := chk_facts h0
          obtain ⟨hn2, hn4, hpt, hnd⟩ := scB_facts h1
          have hF : Fnd l s := ⟨fndB_lt h2, hnd⟩
          obtain ⟨hlen, hk⟩ := fin_some hfin (pos_nodup hF)
          have hol := outr_len s l s.length
          have key : ∀ (k : Nat) (r : Rt), l[k]? = some r → ∃ r', O'[k]? = some r' ∧ r'.p = r.p ∧ (outr s l s.length)[k]? = some r'.c ∧ rgt r' = true ∧ mkQ r'.c 100 = (r'.n, r'.d, 0) ∧ r'.ok := by
            intro k r hr
            have hkl := (List.getElem?_eq_some_iff.1 hr).1
            have hrr := List.all_eq_true.1 hrg r (List.mem_of_getElem? hr)
            have hrc := rgt_cts hrr
            by_cases hp : ∃ x ∈ s, pos l x.p = k
            · obtain ⟨y, hy, hb, hO⟩ := (hk k).2 hp
              rw [hr] at hy
              cases hy
              have hAk : (outr s l s.length)[k]? = some (outr s l s.length)[k] := List.getElem?_eq_getElem (by omega)
              rw [List.getD_eq_getElem?_getD, hAk, Option.getD_some] at hb hO
              generalize (outr s l s.length)[k]'(by omega) = a at *
              unfold bad at hb
              have hm := mk100 (n := a) (by omega)
              have hq := mkQ_range a 100
              have hc : (newR r a).c = a := by unfold Rt.c newR; rw [hm.2]
              refine ⟨_, hO, rfl, by rw [hc]; exact hAk, ?_, ?_, ?_⟩
              · unfold rgt
                unfold newR
                dsimp only
                rw [hm.2]
                simp only [Bool.and_eq_true, decide_eq_true_eq, true_and]
                exact ⟨⟨⟨⟨hrc.2.1, by omega⟩, by omega⟩, by omega⟩, by omega⟩
              · rw [hc]
                show mkQ a 100 = ((mkQ a 100).1, (mkQ a 100).2.1, 0)
                rw [← hm.1]
              · have := hl r (List.mem_of_getElem? hr)
                have e1 : (newR r a).n = (mkQ a 100).1 := rfl
                have e2 : (newR r a).d = (mkQ a 100).2.1 := rfl
                have e3 : (newR r a).g = r.g + 1 := rfl
                exact ⟨this.p, by rw [e1]; omega, by rw [e2]; omega, by rw [e3]; omega⟩
            · have hp' : ∀ x ∈ s, pos l x.p ≠ k := fun x hx he => hp ⟨x, hx, he⟩
              have hO := (hk k).1 hp'
              rw [hr] at hO
              refine ⟨r, hO, rfl, ?_, hrr, mk_cts hrc.1, hl r (List.mem_of_getElem? hr)⟩
              rw [outr_out hp', List.getElem?_map, hr]; rfl
          have hps : O'.map (·.p) = l.map (·.p) := by
            apply List.ext_getElem?
            intro k
            rw [List.getElem?_map, List.getElem?_map]
            by_cases hkl : k < l.length
            · obtain ⟨r', g1, g2, _⟩ := key k _ (List.getElem?_eq_getElem hkl)
              rw [g1, List.getElem?_eq_getElem hkl]; simp [g2]
            · rw [List.getElem?_eq_none (by omega), List.getElem?_eq_none (by omega)]
          refine ⟨h0, h1, hF, ?_, ?_, hps, hlen, hfin, ?_⟩
          · have hr : O'.all rgt = true := by
              rw [List.all_eq_true]
              intro z hz
              obtain ⟨k, hkz⟩ := List.getElem?_of_mem hz
              have hkl := (List.getElem?_eq_some_iff.1 hkz).1
              obtain ⟨r', g1, _, _, g4, _⟩ := key k _ (List.getElem?_eq_getElem (show k < l.length by omega))
              rw [g1] at hkz; cases hkz; exact g4
            have hch := h0
            unfold chk at hch ⊢
            rw [hlen, hr, asc_congr hps]
            rw [hrg] at hch
            exact hch
          · apply List.ext_getElem?
            intro k
            rw [List.getElem?_map]
            by_cases hkl : k < l.length
            · obtain ⟨r', g1, g2, g3, _⟩ := key k _ (List.getElem?_eq_getElem hkl)
              rw [g1, g3]; rfl
            · rw [List.getElem?_eq_none (by omega), List.getElem?_eq_none (by omega)]; rfl
          · intro k r hkr
            have hkl := (List.getElem?_eq_some_iff.1 hkr).1
            obtain ⟨r', g1, _, _, _, g5, g6⟩ := key k _ (List.getElem?_eq_getElem (show k < l.length by omega))
            rw [g1] at hkr; cases hkr; exact ⟨g5, g6⟩
end Go.Proofs.Ytfccgdgippmpgaa
