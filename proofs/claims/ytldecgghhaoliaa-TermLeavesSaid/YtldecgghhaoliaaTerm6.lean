/-
  Term6: equality of terms; the order is total.
-/
import Derived.Test.YtldecgghhaoliaaTerm5
namespace Go.Proofs.Ytldecgghhaoliaa
open Go.Ab
set_option linter.unusedSimpArgs false
set_option maxRecDepth 100000
set_option maxHeartbeats 4000000
mutual
def eqT : Tm → Tm → Bool
  | .mk s ts, b => decide (s = b.name) && eqL ts b.args
def eqL : List Tm → List Tm → Bool
  | [], [] => true
  | t :: r, u :: q => eqT t u && eqL r q
  | _, _ => false
end
theorem eqT_eq {a b : Tm} : eqT a b = (decide (a.name = b.name) && eqL a.args b.args) := by cases a; rfl
theorem tm_eta (t : Tm) : t = .mk t.name t.args := by cases t; rfl
theorem eqL_of {ts us : List Tm} (h : ∀ t ∈ ts, ∀ u, eqT t u = true ↔ t = u) : eqL ts us = true ↔ ts = us := by
  induction ts generalizing us with
  | nil => cases us <;> simp [eqL]
  | cons t r ih =>
    cases us with
    | nil => simp [eqL]
    | cons u q =>
      simp only [eqL, Bool.and_eq_true, List.cons.injEq]
      rw [h t (by simp), ih (fun v hv => h v (by simp [hv]))]
theorem eqT_iff : ∀ a b : Tm, eqT a b = true ↔ a = b := by
  refine tm_ind fun a ih b => ?_
  rw [eqT_eq, Bool.and_eq_true, decide_eq_true_eq, eqL_of ih]
  constructor
  · rintro ⟨h1, h2⟩; rw [tm_eta a, tm_eta b, h1, h2]
  · rintro rfl; exact ⟨rfl, rfl⟩
theorem eqL_iff (ts us : List Tm) : eqL ts us = true ↔ ts = us := eqL_of fun t _ u => eqT_iff t u
theorem eqL_len {ts us : List Tm} (h : ts.length ≠ us.length) : eqL ts us = false := by
  rw [Bool.eq_false_iff]; intro e; rw [(eqL_iff ts us).1 e] at h; exact h rfl
theorem plainTerms_of (ts us : List Tm) (l f l' f' : Bool) (h : ∀ t ∈ ts, ∀ u, ACall Try.prog 33 [eT t, eT u] (fun r => r = bl (eqT t u))) :
    ACall Try.prog 35 [.list l f (ts.map eTm), .list l' f' (us.map eTm)] (fun r => r = bl (eqL ts us)) := by
  refine ACall.bound (i := 0) rfl Try.call35 fun hb => ?_
  rw [List.length_map] at hb
  have hb : ts.length ≤ 140737488355328 := hb
  by_cases hl : ts.length = us.length
  · have hl' : (ts.length : Int) = us.length := by omega
    generalize hR : eqL ts us = R
    refine acall_of_awp Try.func35 Try.call35 rfl (by simp [Try.ntmps35]) ?_; simp only [Try.ntmps35, Try.results35]
    repeat' (first
    | (refine awp_seqK (fun K hK => ?_))
    | (refine Hide.go (by assumption) ?_)
    | ((first | refine zqd ?_ ?_ | refine zqn ?_ ?_ | refine zgd ?_ ?_ | refine zgn ?_ ?_ | refine zdd ?_ ?_ | refine zdn ?_ ?_) <;> (intro h; first | (exfalso; omega) | (simp only [h, decide_true, decide_false, not_false_eq_true]) | skip))
    | (refine end_ret [] ?_; simp [go_sem, hl])
    | ((fail_if_success with_reducible (refine Owe.mk ?_)); (simp (disch := omega) [go_sem, hl]))
    | (refine And.intro (by omega) ?_)
    | (refine awp_draw 10 mix (by decide +kernel) ?_)
    | (refine nbI fun bq => ?_)
    | ((first | refine zqm ?_ ?_ | refine zgm ?_ ?_ | refine zdm ?_ ?_) <;> (intro h; simp only [h, Bool.not_true, Bool.not_false]))
    | ((first | refine zqs ?_ ?_ | refine zgs ?_ ?_ | refine zds ?_ ?_) <;> (intro h; first | (exfalso; simp at h; omega) | ((try simp only [h]); (try simp at h))))
    | fail)
    refine awp_for [0, 1, 12] [] (fun i : Nat => [(13, nt .i64 i)]) (fun i : Nat => []) (fun i : Nat => ts.length - i) (fun i : Nat => i ≤ ts.length ∧ eqL (ts.drop i) (us.drop i) = R) (0) (Le.sub4 rfl (by simp [go_sem, hl])) ⟨?_⟩ ?_
    · exact ⟨Nat.zero_le _, by simpa using hR⟩
    intro i ⟨hi, hc⟩ AA hAA; simp only [Go.Ab.keepT_nil, Go.Ab.keepT_cons, Go.Ab.dropO_nil, Go.Ab.dropO_cons, List.contains_cons, List.contains_nil, List.elem_cons, List.elem_nil, Nat.reduceBEq, beq_self_eq_true, Nat.reduceEqDiff, Bool.or_false, Bool.false_or, Bool.or_true, Bool.true_or, Bool.false_eq_true, if_true, if_false, List.cons_append, List.nil_append, List.append_nil]
    by_cases h1 : i < us.length
    · have h2 : i < ts.length := by omega
      have hu := h ts[i] (List.getElem_mem h2) us[i]
      rw [List.drop_eq_getElem_cons h2, List.drop_eq_getElem_cons h1] at hc
      simp only [eqL] at hc
      cases hq : eqT ts[i] us[i] with
      | true =>
        rw [hq] at hu hc
        simp only [Bool.true_and] at hc
        repeat' (first
    | (refine awp_seqK (fun K hK => ?_))
    | (refine Hide.go (by assumption) ?_)
    | ((first | refine zqd ?_ ?_ | refine zqn ?_ ?_ | refine zgd ?_ ?_ | refine zgn ?_ ?_ | refine zdd ?_ ?_ | refine zdn ?_ ?_) <;> (intro h; first | (exfalso; omega) | (simp only [h, decide_true, decide_false, not_false_eq_true]) | skip))
    | (refine end_ret [] ?_; simp [go_sem, h1, h2])
    | (refine stepK_is rfl (hu) (by simp) ?_)
    | (refine dstepK_is rfl (hu) rfl (by simp) ?_)
    | (refine (hAA.next (i + 1) (Le.sub4 rfl (by simp [go_sem])) (by (try dsimp only); omega) ?_))
    | ((fail_if_success with_reducible (refine Owe.mk ?_)); (simp (disch := omega) [go_sem, h1, h2]))
    | (refine And.intro (by omega) ?_)
    | (refine awp_draw 10 mix (by decide +kernel) ?_)
    | (refine nbI fun bq => ?_)
    | ((first | refine zqm ?_ ?_ | refine zgm ?_ ?_ | refine zdm ?_ ?_) <;> (intro h; simp only [h, Bool.not_true, Bool.not_false]))
    | ((first | refine zqs ?_ ?_ | refine zgs ?_ ?_ | refine zds ?_ ?_) <;> (intro h; first | (exfalso; simp at h; omega) | ((try simp only [h]); (try simp at h))))
    | fail)
        exact ⟨⟨by omega, hc⟩⟩
      | false =>
        rw [hq] at hu hc
        simp only [Bool.false_and] at hc
        subst hc
        repeat' (first
    | (refine awp_seqK (fun K hK => ?_))
    | (refine Hide.go (by assumption) ?_)
    | ((first | refine zqd ?_ ?_ | refine zqn ?_ ?_ | refine zgd ?_ ?_ | refine zgn ?_ ?_ | refine zdd ?_ ?_ | refine zdn ?_ ?_) <;> (intro h; first | (exfalso; omega) | (simp only [h, decide_true, decide_false, not_false_eq_true]) | skip))
    | (refine end_ret [] ?_; simp [go_sem, h1, h2])
    | (refine stepK_is rfl (hu) (by simp) ?_)
    | (refine dstepK_is rfl (hu) rfl (by simp) ?_)
    | ((fail_if_success with_reducible (refine Owe.mk ?_)); (simp (disch := omega) [go_sem, h1, h2]))
    | (refine And.intro (by omega) ?_)
    | (refine awp_draw 10 mix (by decide +kernel) ?_)
    | (refine nbI fun bq => ?_)
    | ((first | refine zqm ?_ ?_ | refine zgm ?_ ?_ | refine zdm ?_ ?_) <;> (intro h; simp only [h, Bool.not_true, Bool.not_false]))
    | ((first | refine zqs ?_ ?_ | refine zgs ?_ ?_ | refine zds ?_ ?_) <;> (intro h; first | (exfalso; simp at h; omega) | ((try simp only [h]); (try simp at h))))
    | fail)
    · have e1 : us.drop i = [] := List.drop_of_length_le (by omega)
      have e2 : ts.drop i = [] := List.drop_of_length_le (by omega)
      rw [e1, e2] at hc
      simp only [eqL] at hc
      subst hc
      repeat' (first
    | (refine awp_seqK (fun K hK => ?_))
    | (refine Hide.go (by assumption) ?_)
    | ((first | refine zqd ?_ ?_ | refine zqn ?_ ?_ | refine zgd ?_ ?_ | refine zgn ?_ ?_ | refine zdd ?_ ?_ | refine zdn ?_ ?_) <;> (intro h; first | (exfalso; omega) | (simp only [h, decide_true, decide_false, not_false_eq_true]) | skip))
    | (refine end_ret [] ?_; simp [go_sem, h1])
    | ((fail_if_success with_reducible (refine Owe.mk ?_)); (simp (disch := omega) [go_sem, h1]))
    | (refine And.intro (by omega) ?_)
    | (refine awp_draw 10 mix (by decide +kernel) ?_)
    | (refine nbI fun bq => ?_)
    | ((first | refine zqm ?_ ?_ | refine zgm ?_ ?_ | refine zdm ?_ ?_) <;> (intro h; simp only [h, Bool.not_true, Bool.not_false]))
    | ((first | refine zqs ?_ ?_ | refine zgs ?_ ?_ | refine zds ?_ ?_) <;> (intro h; first | (exfalso; simp at h; omega) | ((try simp only [h]); (try simp at h))))
    | fail)
  · rw [eqL_len hl]
    have hl' : ¬ (ts.length : Int) = us.length := by omega
    refine acall_of_awp Try.func35 Try.call35 rfl (by simp [Try.ntmps35]) ?_; simp only [Try.ntmps35, Try.results35]
    repeat' (first
    | (refine awp_seqK (fun K hK => ?_))
    | (refine Hide.go (by assumption) ?_)
    | ((first | refine zqd ?_ ?_ | refine zqn ?_ ?_ | refine zgd ?_ ?_ | refine zgn ?_ ?_ | refine zdd ?_ ?_ | refine zdn ?_ ?_) <;> (intro h; first | (exfalso; omega) | (simp only [h, decide_true, decide_false, not_false_eq_true]) | skip))
    | (refine end_ret [] ?_; simp [go_sem, hl'])
    | ((fail_if_success with_reducible (refine Owe.mk ?_)); (simp (disch := omega) [go_sem, hl']))
    | (refine And.intro (by omega) ?_)
    | (refine awp_draw 10 mix (by decide +kernel) ?_)
    | (refine nbI fun bq => ?_)
    | ((first | refine zqm ?_ ?_ | refine zgm ?_ ?_ | refine zdm ?_ ?_) <;> (intro h; simp only [h, Bool.not_true, Bool.not_false]))
    | ((first | refine zqs ?_ ?_ | refine zgs ?_ ?_ | refine zds ?_ ?_) <;> (intro h; first | (exfalso; simp at h; omega) | ((try simp only [h]); (try simp at h))))
    | fail)
theorem plainTerm_ok : ∀ a b : Tm, ACall Try.prog 33 [eT a, eT b] (fun r => r = bl (eqT a b)) := by
  refine tm_ind fun a ih b => ?_
  have h1 := plainTerms_of a.args b.args false false false false ih
  rw [eqT_eq]
  generalize eqL a.args b.args = c at *
  clear ih
  refine acall_of_awp Try.func33 Try.call33 rfl (by simp [Try.ntmps33]) ?_; simp only [Try.ntmps33, Try.results33]
  by_cases h : a.name = b.name
  · repeat' (first
    | (refine awp_seqK (fun K hK => ?_))
    | (refine Hide.go (by assumption) ?_)
    | ((first | refine zqd ?_ ?_ | refine zqn ?_ ?_ | refine zgd ?_ ?_ | refine zgn ?_ ?_ | refine zdd ?_ ?_ | refine zdn ?_ ?_) <;> (intro h; first | (exfalso; omega) | (simp only [h, decide_true, decide_false, not_false_eq_true]) | skip))
    | (refine end_ret [] ?_; simp [go_sem, h])
    | (refine stepK_is rfl (h1) (by simp) ?_)
    | (refine dstepK_is rfl (h1) rfl (by simp) ?_)
    | ((fail_if_success with_reducible (refine Owe.mk ?_)); (simp (disch := omega) [go_sem, h]))
    | (refine And.intro (by omega) ?_)
    | (refine nbI fun bq => ?_)
    | ((first | refine zqm ?_ ?_ | refine zgm ?_ ?_ | refine zdm ?_ ?_) <;> (intro h; simp only [h, Bool.not_true, Bool.not_false]))
    | ((first | refine zqs ?_ ?_ | refine zgs ?_ ?_ | refine zds ?_ ?_) <;> (intro h; first | (exfalso; simp at h; omega) | ((try simp only [h]); (try simp at h))))
    | fail)
  · repeat' (first
    | (refine awp_seqK (fun K hK => ?_))
    | (refine Hide.go (by assumption) ?_)
    | ((first | refine zqd ?_ ?_ | refine zqn ?_ ?_ | refine zgd ?_ ?_ | refine zgn ?_ ?_ | refine zdd ?_ ?_ | refine zdn ?_ ?_) <;> (intro h; first | (exfalso; omega) | (simp only [h, decide_true, decide_false, not_false_eq_true]) | skip))
    | (refine end_ret [] ?_; simp [go_sem, h])
    | (refine stepK_is rfl (h1) (by simp) ?_)
    | (refine dstepK_is rfl (h1) rfl (by simp) ?_)
    | ((fail_if_success with_reducible (refine Owe.mk ?_)); (simp (disch := omega) [go_sem, h]))
    | (refine And.intro (by omega) ?_)
    | (refine nbI fun bq => ?_)
    | ((first | refine zqm ?_ ?_ | refine zgm ?_ ?_ | refine zdm ?_ ?_) <;> (intro h; simp only [h, Bool.not_true, Bool.not_false]))
    | ((first | refine zqs ?_ ?_ | refine zgs ?_ ?_ | refine zds ?_ ?_) <;> (intro h; first | (exfalso; simp at h; omega) | ((try simp only [h]); (try simp at h))))
    | fail)
theorem plainTerms_ok (ts us : List Tm) (l f l' f' : Bool) : ACall Try.prog 35 [.list l f (ts.map eTm), .list l' f' (us.map eTm)] (fun r => r = bl (eqL ts us)) :=
  plainTerms_of ts us l f l' f' fun t _ u => plainTerm_ok t u
/- The order, plainly: one thing behind the other. -/
def thn (x y : Int) : Int := if x ≠ 0 then x else y
/-- What three of them owe. -/
def TR (ab bc ac : Int) : Prop := ab ≤ 0 → bc ≤ 0 → ac ≤ 0 ∧ (ac = 0 → ab = 0 ∧ bc = 0)
theorem thn_TR {a b c x y z : Int} (h : TR a b c) (k : TR x y z) : TR (thn a x) (thn b y) (thn c z) := by
  unfold TR thn at *
  intro h1 h2
  have ha : a ≤ 0 := by split at h1 <;> omega
  have hb : b ≤ 0 := by split at h2 <;> omega
  have hh := h ha hb
  by_cases hc : c = 0
  · have := hh.2 hc
    simp only [this, hc] at *
    simpa using k (by simpa using h1) (by simpa using h2)
  · rw [if_pos hc]
    exact ⟨hh.1, fun e => absurd e hc⟩
theorem ord_range (a b : Int) : ord a b = -1 ∨ ord a b = 0 ∨ ord a b = 1 := by unfold ord; split <;> (try split) <;> simp
theorem ord_zero {a b : Int} : ord a b = 0 ↔ a = b := by unfold ord; split <;> (try split) <;> simp <;> omega
theorem ord_neg (a b : Int) : ord b a = -ord a b := by unfold ord; split <;> split <;> (try split) <;> omega
theorem ord_TR (a b c : Int) : TR (ord a b) (ord b c) (ord a c) := by
  unfold TR ord
  intro h1 h2
  split <;> (try split) <;> (split at h1 <;> (try split at h1)) <;> (split at h2 <;> (try split at h2)) <;> (try split) <;> (try split) <;> (try split) <;> (try split) <;> simp <;> omega
theorem strC_TR (a b c : ByteArray) : TR (strC a b) (strC b c) (strC a c) := by
  intro h1 h2
  refine ⟨strC_trans h1 h2, fun h => ?_⟩
  have e := strC_zero.1 h
  subst e
  have := strC_neg a b
  have hz : strC a b = 0 := by omega
  exact ⟨hz, by omega⟩
theorem cmpT_thn (a b : Tm) : cmpT a b = thn (ord (kd a).1 (kd b).1) (thn (ord (kd a).2.1 (kd b).2.1) (thn (ord (kd a).2.2.1 (kd b).2.2.1) (thn (strC (kd a).2.2.2 (kd b).2.2.2) (cmpL a.args b.args)))) := by
  rw [cmpT_eq]
  generalize kd a = x
  generalize kd b = y
  obtain ⟨x1, x2, x3, x4⟩ := x
  obtain ⟨y1, y2, y3, y4⟩ := y
  dsimp only
  by_cases q1 : x1 = y1
  · subst q1
    have e1 : ord x1 x1 = 0 := ord_zero.2 rfl
    by_cases q2 : x2 = y2
    · subst q2
      have e2 : ord x2 x2 = 0 := ord_zero.2 rfl
      by_cases q3 : x3 = y3
      · subst q3
        have e3 : ord x3 x3 = 0 := ord_zero.2 rfl
        by_cases q4 : x4 = y4
        · subst q4; simp [thn, e1, e2, e3, strC_self]
        · have : strC x4 y4 ≠ 0 := fun h => q4 (strC_zero.1 h)
          simp [thn, e1, e2, e3, q4, this]
      · have : ord x3 y3 ≠ 0 := fun h => q3 (ord_zero.1 h)
        simp [thn, e1, e2, q3, this]
    · have : ord x2 y2 ≠ 0 := fun h => q2 (ord_zero.1 h)
      simp [thn, e1, q2, this]
  · have : ord x1 y1 ≠ 0 := fun h => q1 (ord_zero.1 h)
    simp [thn, q1, this]
theorem cmpL_cons (t u : Tm) (r q : List Tm) : cmpL (t :: r) (u :: q) = thn (cmpT t u) (cmpL r q) := rfl
theorem thn_range {x y : Int} (h : x = -1 ∨ x = 0 ∨ x = 1) (k : y = -1 ∨ y = 0 ∨ y = 1) : thn x y = -1 ∨ thn x y = 0 ∨ thn x y = 1 := by
  unfold thn; split
  · exact h
  · exact k
theorem thn_neg {x y x' y' : Int} (h : x' = -x) (k : y' = -y) : thn x' y' = -thn x y := by
  unfold thn; subst h; subst k; split <;> split <;> omega
theorem thn_zero {x y : Int} : thn x y = 0 ↔ x = 0 ∧ y = 0 := by unfold thn; split <;> omega
theorem cmpL_range_of {ts : List Tm} : ∀ {us : List Tm}, (∀ t ∈ ts, ∀ u, cmpT t u = -1 ∨ cmpT t u = 0 ∨ cmpT t u = 1) → cmpL ts us = -1 ∨ cmpL ts us = 0 ∨ cmpL ts us = 1 := by
  induction ts with
  | nil => intro us _; cases us <;> simp [cmpL]
  | cons t r ih =>
    intro us h
    cases us with
    | nil => simp [cmpL]
    | cons u q => rw [cmpL_cons]; exact thn_range (h t (by simp) u) (ih fun v hv => h v (by simp [hv]))
theorem cmp_range : ∀ a b : Tm, cmpT a b = -1 ∨ cmpT a b = 0 ∨ cmpT a b = 1 := by
  refine tm_ind fun a ih b => ?_
  rw [cmpT_thn]
  exact thn_range (ord_range _ _) (thn_range (ord_range _ _) (thn_range (ord_range _ _) (thn_range (strC_range _ _) (cmpL_range_of ih))))
theorem cmpL_neg_of {ts : List Tm} : ∀ {us : List Tm}, (∀ t ∈ ts, ∀ u, cmpT u t = -cmpT t u) → cmpL us ts = -cmpL ts us := by
  induction ts with
  | nil => intro us _; cases us <;> simp [cmpL]
  | cons t r ih =>
    intro us h
    cases us with
    | nil => simp [cmpL]
    | cons u q => rw [cmpL_cons, cmpL_cons]; exact thn_neg (h t (by simp) u) (ih fun v hv => h v (by simp [hv]))
theorem cmp_neg : ∀ a b : Tm, cmpT b a = -cmpT a b := by
  refine tm_ind fun a ih b => ?_
  rw [cmpT_thn, cmpT_thn a b]
  exact thn_neg (ord_neg _ _) (thn_neg (ord_neg _ _) (thn_neg (ord_neg _ _) (thn_neg (strC_neg _ _) (cmpL_neg_of ih))))
theorem cmpL_TR_of {ts : List Tm} : ∀ {us vs : List Tm}, (∀ t ∈ ts, ∀ u v, TR (cmpT t u) (cmpT u v) (cmpT t v)) → TR (cmpL ts us) (cmpL us vs) (cmpL ts vs) := by
  induction ts with
  | nil =>
    intro us vs _
    cases us <;> cases vs <;> simp [cmpL, TR]
  | cons t r ih =>
    intro us vs h
    cases us with
    | nil => intro h1; simp [cmpL] at h1
    | cons u q =>
      cases vs with
      | nil => intro _ h1; simp [cmpL] at h1
      | cons v p =>
        simp only [cmpL_cons]
        exact thn_TR (h t (by simp) u v) (ih fun w hw => h w (by simp [hw]))
theorem cmp_TR : ∀ a b c : Tm, TR (cmpT a b) (cmpT b c) (cmpT a c) := by
  refine tm_ind fun a ih b c => ?_
  rw [cmpT_thn, cmpT_thn b c, cmpT_thn a c]
  exact thn_TR (ord_TR _ _ _) (thn_TR (ord_TR _ _ _) (thn_TR (ord_TR _ _ _) (thn_TR (strC_TR _ _ _) (cmpL_TR_of ih))))
theorem cmpL_range (ts us : List Tm) : cmpL ts us = -1 ∨ cmpL ts us = 0 ∨ cmpL ts us = 1 := cmpL_range_of fun t _ u => cmp_range t u
theorem cmpL_neg (ts us : List Tm) : cmpL us ts = -cmpL ts us := cmpL_neg_of fun t _ u => cmp_neg t u
theorem cmpL_TR (ts us vs : List Tm) : TR (cmpL ts us) (cmpL us vs) (cmpL ts vs) := cmpL_TR_of fun t _ u v => cmp_TR t u v
/- A number's spelling. -/
theorem bytes_ext {a b : ByteArray} (h : a.size = b.size) (k : ∀ i, i < a.size → bt a i = bt b i) : a = b := by
  obtain ⟨⟨a⟩⟩ := a
  obtain ⟨⟨b⟩⟩ := b
  have hl : a.length = b.length := h
  congr 2
  refine List.ext_getElem hl fun i h1 h2 => ?_
  have := k i h1
  simp only [bt, List.getD_eq_getElem?_getD, List.getElem?_eq_getElem h1, List.getElem?_eq_getElem h2, Option.getD_some] at this
  exact UInt8.toNat_inj.1 (by omega)
theorem numS_inj {s s' : ByteArray} (h1 : (numS s).2 = true) (h2 : (numS s').2 = true) (h : (numS s).1 = (numS s').1) : s = s' := by
  unfold numS at *
  split at h1
  · rename_i c1
    split at h2
    · rename_i c2
      rw [if_pos c1, if_pos c2] at h
      obtain ⟨⟨a1, a2, a3⟩, a4⟩ := c1
      obtain ⟨⟨b1, b2, b3⟩, b4⟩ := c2
      simp only at h
      have d1 : ∀ i, i < s.size → 48 ≤ bt s i ∧ bt s i ≤ 57 := fun i hi => by
        have := List.all_eq_true.1 a4 i (by simpa using hi); simpa using this
      have d2 : ∀ i, i < s'.size → 48 ≤ bt s' i ∧ bt s' i ≤ 57 := fun i hi => by
        have := List.all_eq_true.1 b4 i (by simpa using hi); simpa using this
      have p0 := d1 0 (by omega)
      have q0 := d2 0 (by omega)
      have n1 : s.size = 1 ∨ s.size = 2 ∨ s.size = 3 ∨ s.size = 4 := by omega
      have n2 : s'.size = 1 ∨ s'.size = 2 ∨ s'.size = 3 ∨ s'.size = 4 := by omega
      have key : s.size = s'.size ∧ ∀ i, i < s.size → bt s i = bt s' i := by
        rcases n1 with e1 | e1 | e1 | e1 <;> rcases n2 with e2 | e2 | e2 | e2 <;> rw [e1, e2] at h <;> simp only [valS] at h
        all_goals
          have p1 := fun hh => d1 1 hh
          have p2 := fun hh => d1 2 hh
          have p3 := fun hh => d1 3 hh
          have q1 := fun hh => d2 1 hh
          have q2 := fun hh => d2 2 hh
          have q3 := fun hh => d2 3 hh
          rw [e1] at p1 p2 p3
          rw [e2] at q1 q2 q3
          simp only [Nat.reduceLT, Nat.lt_irrefl, forall_const, false_implies, implies_true] at p1 p2 p3 q1 q2 q3
          refine ⟨by omega, fun i hi => ?_⟩
          have hi4 : i = 0 ∨ i = 1 ∨ i = 2 ∨ i = 3 := by omega
          rcases hi4 with rfl | rfl | rfl | rfl <;> omega
      exact bytes_ext key.1 key.2
    · simp at h2
  · simp at h1
theorem cmpL_zero_of {ts : List Tm} : ∀ {us : List Tm}, (∀ t ∈ ts, ∀ u, cmpT t u = 0 ↔ t = u) → (cmpL ts us = 0 ↔ ts = us) := by
  induction ts with
  | nil => intro us _; cases us <;> simp [cmpL]
  | cons t r ih =>
    intro us h
    cases us with
    | nil => simp [cmpL]
    | cons u q => rw [cmpL_cons, thn_zero, h t (by simp) u, ih fun v hv => h v (by simp [hv])]; simp
theorem cmp_zero : ∀ a b : Tm, cmpT a b = 0 ↔ a = b := by
  refine tm_ind fun a ih b => ?_
  rw [cmpT_thn]
  simp only [thn_zero, ord_zero, strC_zero, cmpL_zero_of ih]
  constructor
  · rintro ⟨h1, h2, h3, h4, h5⟩
    have hn : a.name = b.name := by
      rcases kd_cases a with ⟨a1, a2, a3⟩ | ⟨a1, a2⟩
      · rcases kd_cases b with ⟨b1, b2, b3⟩ | ⟨b1, b2⟩
        · rw [a3, b3] at h2
          exact numS_inj a2 b2 h2
        · exact absurd (by rw [← h1, a3]) b1
      · rcases kd_cases b with ⟨b1, b2, b3⟩ | ⟨b1, b2⟩
        · exact absurd (by rw [h1, b3]) a1
        · rw [a2, b2] at h4; exact h4
    rw [tm_eta a, tm_eta b, hn, h5]
  · rintro rfl; simp
theorem cmpL_zero (ts us : List Tm) : cmpL ts us = 0 ↔ ts = us := cmpL_zero_of fun t _ u => cmp_zero t u
theorem cmp_self (a : Tm) : cmpT a a = 0 := (cmp_zero a a).2 rfl
end Go.Proofs.Ytldecgghhaoliaa
