import Derived.Test.YtmadpbpmcbdboaaGreatS8
set_option linter.unusedSimpArgs false
set_option linter.unusedVariables false
namespace Go.Proofs.YtmadpbpmcbdboaaGreat
open Go.Ab
set_option maxRecDepth 100000
set_option maxHeartbeats 8000000
def okF (A : List ByteArray) (i : Nat) : Bool := constS (A.getD i ⟨#[]⟩) && (decide (i = 0) || decide (cmpS (A.getD (i - 1) ⟨#[]⟩) (A.getD i ⟨#[]⟩) < 0))
def progF (A B : List ByteArray) : Bool := (List.range A.length).all (okF A) && B.all constS && decide (A = srtS B)
theorem okF_get {A : List ByteArray} {i : Nat} (h : i < A.length) : A.getD i ⟨#[]⟩ = A[i] := by
  rw [List.getD_eq_getElem?_getD, List.getElem?_eq_getElem h, Option.getD_some]
theorem progF_bad {A B : List ByteArray} {i : Nat} (h : i < A.length) (hk : okF A i = false) : progF A B = false := by
  unfold progF
  have : (List.range A.length).all (okF A) = false := by
    rw [List.all_eq_false]
    exact ⟨i, by simpa using h, by simp [hk]⟩
  rw [this]; rfl
theorem progF_bad2 {A B : List ByteArray} {i : Nat} (h : i < B.length) (hk : constS B[i] = false) : progF A B = false := by
  unfold progF
  have : B.all constS = false := by
    rw [List.all_eq_false]
    exact ⟨B[i], List.getElem_mem h, by simp [hk]⟩
  rw [this, Bool.and_false]; rfl
theorem progF_all {A B : List ByteArray} (h : ∀ j, j < A.length → okF A j = true) (h' : ∀ (j : Nat) (hj : j < B.length), j < B.length → constS B[j] = true) : progF A B = decide (A = srtS B) := by
  unfold progF
  have h1 : (List.range A.length).all (okF A) = true := by
    rw [List.all_eq_true]; intro x hx; exact h x (by simpa using hx)
  have h2 : B.all constS = true := by
    rw [List.all_eq_true]
    intro x hx
    obtain ⟨j, hj, rfl⟩ := List.mem_iff_getElem.1 hx
    exact h' j hj hj
  rw [h1, h2]; rfl
theorem Valid_of (A B : List ByteArray) (p : List Pr) (le fu : Bool) (hbA : A.length ≤ 1000000) (hbB : B.length ≤ 1000000) (hsd : ACall Tryz.prog 87 [.list le fu (p.map ePr)] (fun r => r = .tup [.list false false (A.map eStr), .list false false (B.map eStr)])) :
    ACall Tryz.prog 47 [.list le fu (p.map ePr)] (fun r => r = bl (progF A B)) := by
  generalize hV : progF A B = V
  refine acall_of_awp Tryz.func47 Tryz.call47 rfl (by simp [Tryz.ntmps47]) ?_; simp only [Tryz.ntmps47, Tryz.results47]
  repeat' (first | (refine awK fun _ _ => ?_) | refine Hide.go (by assumption) ?_ | refine stepK_is rfl (hsd) (by simp) ?_ | (fail_if_success with_reducible (refine Owe.mk ?_)); (simp (disch := omega) [go_sem]))
  refine awp_for [3, 4, 15, 16] [] (fun i : Nat => [(17, nt .i64 i)]) (fun i : Nat => []) (fun i : Nat => A.length - i) (fun i : Nat => i ≤ A.length ∧ ∀ j, j < i → okF A j = true) (0) (Le.sub4 rfl (by simp [go_sem])) ⟨?_⟩ ?_
  · exact ⟨Nat.zero_le _, fun j hj => absurd hj (Nat.not_lt_zero _)⟩
  intro i ⟨hi, hok⟩ AA hAA; simp only [kL, Nat.reduceBEq, Nat.reduceEqDiff, if_true, if_false, List.cons_append, List.nil_append, List.append_nil]
  by_cases hlt : i < A.length
  · have h1 := is_ok A[i]
    have hfi := okF_get hlt
    have hstep : okF A i = true → ∀ j, j < i + 1 → okF A j = true := fun h j hj => by
      rcases Nat.lt_or_eq_of_le (Nat.le_of_lt_succ hj) with h' | rfl
      · exact hok j h'
      · exact h
    have hbad : okF A i = false → V = false := fun h => hV.symm.trans (progF_bad hlt h)
    cases hc : constS A[i]
    · rw [hc] at h1
      have hV0 := hbad (by unfold okF; rw [hfi, hc]; rfl)
      subst hV0
      repeat' (first | (refine awK fun _ _ => ?_) | refine Hide.go (by assumption) ?_ | refine end_ret [] ?_; simp [go_sem, hlt, eStr] | refine stepK_is rfl (h1) (by simp) ?_ | (fail_if_success with_reducible (refine Owe.mk ?_)); (simp (disch := omega) [go_sem, hlt, eStr]))
    · rw [hc] at h1
      cases i with
      | zero =>
        have hst := hstep (by unfold okF; rw [hfi, hc]; rfl)
        repeat' (first | (refine awK fun _ _ => ?_) | refine Hide.go (by assumption) ?_ | refine stepK_is rfl (h1) (by simp) ?_ | refine (hAA.next (0 + 1) (Le.sub4 rfl (by simp [go_sem])) (by (try dsimp only); omega) ?_) | (fail_if_success with_reducible (refine Owe.mk ?_)); (simp (disch := omega) [go_sem, hlt, eStr]))
        all_goals (first | omega | skip)
        all_goals exact ⟨hlt, hst⟩
      | succ j =>
        have hj : j < A.length := by omega
        have hfj := okF_get hj
        have hcm := compare_ok A[j] A[j + 1]
        have hq0 : okF A (j + 1) = decide (cmpS A[j] A[j + 1] < 0) := by
          unfold okF
          rw [hfi, hc, Nat.add_sub_cancel, hfj]; simp
        by_cases hq : cmpS A[j] A[j + 1] < 0
        · have hst := hstep (by rw [hq0]; simpa using hq)
          generalize cmpS A[j] A[j + 1] = q at *
          repeat' (first | (refine awK fun _ _ => ?_) | refine Hide.go (by assumption) ?_ | refine zqd ?_ ?_ <;> (intro h; first | (exfalso; omega) | (simp only [h, decide_true, decide_false, not_false_eq_true])) | refine stepK_is rfl (h1) (by simp) ?_ | refine stepK_is rfl (hcm) (by simp) ?_ | refine (hAA.next (j + 1 + 1) (Le.sub4 rfl (by simp [go_sem])) (by (try dsimp only); omega) ?_) | (fail_if_success with_reducible (refine Owe.mk ?_)); (simp (disch := omega) [go_sem, hlt, hj, hq, eStr]) | refine And.intro (by omega) ?_)
          all_goals (first | omega | skip)
          all_goals exact ⟨hlt, hst⟩
        · have hV0 := hbad (by rw [hq0]; simpa using hq)
          subst hV0
          generalize cmpS A[j] A[j + 1] = q at *
          repeat' (first | (refine awK fun _ _ => ?_) | refine Hide.go (by assumption) ?_ | refine zqd ?_ ?_ <;> (intro h; first | (exfalso; omega) | (simp only [h, decide_true, decide_false, not_false_eq_true])) | refine end_ret [] ?_; simp [go_sem, hlt, hj, hq, eStr] | refine stepK_is rfl (h1) (by simp) ?_ | refine stepK_is rfl (hcm) (by simp) ?_ | (fail_if_success with_reducible (refine Owe.mk ?_)); (simp (disch := omega) [go_sem, hlt, hj, hq, eStr]) | refine And.intro (by omega) ?_)
  · obtain rfl : i = A.length := by omega
    repeat' (first | (refine awK fun _ _ => ?_) | refine Hide.go (by assumption) ?_ | (fail_if_success with_reducible (refine Owe.mk ?_)); (simp (disch := omega) [go_sem]))
    refine awp_for [3, 4, 40, 41] [] (fun k : Nat => [(42, nt .i64 k)]) (fun k : Nat => []) (fun k : Nat => B.length - k) (fun k : Nat => k ≤ B.length ∧ ∀ (j : Nat) (hj : j < B.length), j < k → constS B[j] = true) (0) (Le.sub4 rfl (by simp [go_sem])) ⟨?_⟩ ?_
    · exact ⟨Nat.zero_le _, fun j _ hj => absurd hj (Nat.not_lt_zero _)⟩
    intro k ⟨hk, hco⟩ AA hAA; simp only [kL, Nat.reduceBEq, Nat.reduceEqDiff, if_true, if_false, List.cons_append, List.nil_append, List.append_nil]
    by_cases hkl : k < B.length
    · have h1 := is_ok B[k]
      cases hc : constS B[k]
      · rw [hc] at h1
        have hV0 : V = false := hV.symm.trans (progF_bad2 hkl hc)
        subst hV0
        repeat' (first | (refine awK fun _ _ => ?_) | refine Hide.go (by assumption) ?_ | refine end_ret [] ?_; simp [go_sem, hkl, eStr] | refine stepK_is rfl (h1) (by simp) ?_ | (fail_if_success with_reducible (refine Owe.mk ?_)); (simp (disch := omega) [go_sem, hkl, eStr]))
      · rw [hc] at h1
        have hst : ∀ (j : Nat) (hj : j < B.length), j < k + 1 → constS B[j] = true := fun j hj h => by
          rcases Nat.lt_or_eq_of_le (Nat.le_of_lt_succ h) with h' | rfl
          · exact hco j hj h'
          · exact hc
        repeat' (first | (refine awK fun _ _ => ?_) | refine Hide.go (by assumption) ?_ | refine stepK_is rfl (h1) (by simp) ?_ | refine (hAA.next (k + 1) (Le.sub4 rfl (by simp [go_sem])) (by (try dsimp only); omega) ?_) | (fail_if_success with_reducible (refine Owe.mk ?_)); (simp (disch := omega) [go_sem, hkl, eStr]))
        all_goals (first | omega | skip)
        all_goals exact ⟨hkl, hst⟩
    · obtain rfl : k = B.length := by omega
      have hV1 : V = decide (A = srtS B) := hV.symm.trans (progF_all hok hco)
      have hvs := Values_ok B false false
      have hsf := SortedFunc_ok B true false false hbB
      have hsm := same_ok A (srtS B) false false true false
      have hsl := srtS_len B
      rw [← hV1] at hsm
      generalize srtS B = M at *
      clear hV hV1
      repeat' (first | (refine awK fun _ _ => ?_) | refine Hide.go (by assumption) ?_ | (fail_if_success with_reducible (refine Owe.mk ?_)); (simp (disch := omega) [go_sem]))
      refine stepK_fis [] [] 10000 _ _ (Fits.mk' (by simp [go_sem]) (by simp [go_sem])) (by simp [go_sem]) (by simp [go_sem]) (hvs) (by simp [go_sem]) (by simp [go_sem]) ?_
      have hlenT : True := trivial
      repeat' (first | (refine awK fun _ _ => ?_) | refine Hide.go (by assumption) ?_ | refine end_ret [] ?_; simp [go_sem, hlenT] | refine stepK_is rfl (hsf) (by simp) ?_ | refine stepK_is ?hl (hsm) (by simp) ?_; (case hl => (simp [go_sem, hlenT]; done)) | (fail_if_success with_reducible (refine Owe.mk ?_)); (simp (disch := omega) [go_sem, hlenT]))
theorem perm_of_all {α : Type} [DecidableEq α] : ∀ {A B : List α}, A.Nodup → (∀ x ∈ A, x ∈ B) → B.length ≤ A.length → B.Perm A
  | [], B, _, _, hl => by
    obtain rfl := List.eq_nil_of_length_eq_zero (Nat.le_zero.1 hl)
    exact .refl _
  | x :: A, B, hn, hm, hl => by
    obtain ⟨h1, h2⟩ := List.nodup_cons.1 hn
    have hx := hm x (by simp)
    refine (List.perm_cons_erase hx).trans (.cons x (perm_of_all h2 (fun y hy => ?_) ?_))
    · exact (List.mem_erase_of_ne (by rintro rfl; exact h1 hy)).2 (hm y (by simp [hy]))
    · rw [List.length_erase_of_mem hx]
      simp at hl
      omega
theorem count_one {α : Type} [DecidableEq α] {s : α} : ∀ {A : List α}, A.Nodup → s ∈ A → A.countP (fun x => decide (x = s)) = 1
  | [], _, h => by simp at h
  | x :: A, hn, h => by
    obtain ⟨h1, h2⟩ := List.nodup_cons.1 hn
    rw [List.countP_cons]
    by_cases hx : x = s
    · subst hx
      have h0 : A.countP (fun y => decide (y = x)) = 0 := by
        rw [List.countP_eq_zero]
        intro y hy
        simp only [decide_eq_true_eq]
        rintro rfl
        exact h1 hy
      simp [h0]
    · rcases List.mem_cons.1 h with rfl | h
      · exact absurd rfl hx
      · simp [hx, count_one h2 h]
theorem asc_get {A : List ByteArray} (h : ∀ i, i < A.length → okF A i = true) : A.Pairwise (fun a b => cmpS a b < 0) := by
  have step : ∀ (i : Nat) (h1 : i + 1 < A.length), cmpS A[i] A[i + 1] < 0 := fun i h1 => by
    have hk := h (i + 1) h1
    unfold okF at hk
    rw [okF_get h1, Nat.add_sub_cancel, okF_get (by omega)] at hk
    simp at hk
    exact hk.2
  rw [List.pairwise_iff_getElem]
  intro i j hi hj hij
  obtain ⟨d, rfl⟩ : ∃ d, j = i + 1 + d := ⟨j - (i + 1), by omega⟩
  induction d with
  | zero => exact step i hj
  | succ d ih => exact cmpS_lt (ih (by omega) (by omega)) (step (i + 1 + d) hj)
theorem frA_map {p : List Pr} {i : Nat} (h : i < p.length) : (p.map Pr.fr).getD i ⟨#[]⟩ = frA p i := by
  rw [okF_get (by simpa using h), frA_get h]; simp
theorem cnt_map {p : List Pr} {s : ByteArray} : cntP p s p.length = (p.map Pr.to).countP (fun x => decide (x = s)) := by
  unfold cntP
  rw [List.take_length, List.countP_map]
  rfl
theorem okB_split {p : List Pr} {i : Nat} (h : i < p.length) : okB p i = (okF (p.map Pr.fr) i && decide ((p.map Pr.to).countP (fun x => decide (x = frA p i)) = 1)) := by
  unfold okB okF
  rw [frA_map h, cnt_map]
  by_cases h0 : i = 0
  · simp [h0]
  · rw [frA_map (by omega)]
theorem progF_valid (p : List Pr) : progF (p.map Pr.fr) (p.map Pr.to) = validP p := by
  have key : progF (p.map Pr.fr) (p.map Pr.to) = true ↔ validP p = true := by
    have hA : (p.map Pr.fr).length = p.length := by simp
    have hB : (p.map Pr.to).length = p.length := by simp
    rw [validP_iff]
    unfold progF
    simp only [Bool.and_eq_true, List.all_eq_true, List.mem_range, decide_eq_true_eq, hA]
    constructor
    · rintro ⟨⟨h1, h2⟩, h3⟩ i hi
      rw [okB_split hi, h1 i hi, Bool.true_and, decide_eq_true_eq, frA_get hi]
      have hp : (p.map Pr.to).Perm (p.map Pr.fr) := by rw [h3]; exact (srtS_perm _).symm
      rw [hp.countP_eq]
      have hnd : (p.map Pr.fr).Nodup := (asc_get (fun j hj => h1 j (by simpa using hj))).imp fun {a b} hab => by
        rintro rfl
        rw [cmpS_self] at hab; omega
      exact count_one hnd (List.mem_map.2 ⟨p[i], List.getElem_mem hi, rfl⟩)
    · intro h
      have h1 : ∀ i, i < p.length → okF (p.map Pr.fr) i = true := fun i hi => by
        have := h i hi
        rw [okB_split hi, Bool.and_eq_true] at this
        exact this.1
      have hc : ∀ i (hi : i < p.length), (p.map Pr.to).countP (fun x => decide (x = p[i].fr)) = 1 := fun i hi => by
        have := h i hi
        rw [okB_split hi, Bool.and_eq_true, decide_eq_true_eq, frA_get hi] at this
        exact this.2
      have hasc := asc_get (fun j hj => h1 j (by simpa using hj))
      have hnd : (p.map Pr.fr).Nodup := hasc.imp fun {a b} hab => by
        rintro rfl
        rw [cmpS_self] at hab; omega
      have hp := perm_of_all hnd (B := p.map Pr.to) (fun x hx => by
        obtain ⟨y, hy, rfl⟩ := List.mem_map.1 hx
        obtain ⟨i, hi, rfl⟩ := List.mem_iff_getElem.1 hy
        obtain ⟨z, hz, he⟩ := List.countP_pos_iff.1 (show 0 < (p.map Pr.to).countP (fun x => decide (x = p[i].fr)) by rw [hc i hi]; exact Nat.one_pos)
        rw [← of_decide_eq_true he]
        exact hz) (by rw [hA, hB]; exact Nat.le_refl _)
      refine ⟨⟨h1, fun x hx => ?_⟩, srtS_is hp.symm (hasc.imp fun {a b} hab => Int.le_of_lt hab)⟩
      obtain ⟨i, hi, rfl⟩ := List.mem_iff_getElem.1 (hp.mem_iff.1 hx)
      have := h1 i (by simpa using hi)
      unfold okF at this
      rw [okF_get hi, Bool.and_eq_true] at this
      exact this.1
  cases h1 : progF (p.map Pr.fr) (p.map Pr.to) <;> cases h2 : validP p
  · rfl
  · rw [key.2 h2] at h1; cases h1
  · rw [key.1 h1] at h2; cases h2
  · rfl
theorem Valid29_ok (p : List Pr) (le fu : Bool) (hb : p.length ≤ 1000000) : ACall Tryz.prog 47 [.list le fu (p.map ePr)] (fun r => r = bl (validP p)) := by
  rw [← progF_valid]
  exact Valid_of _ _ p le fu (by simpa using hb) (by simpa using hb) (sides_ok p le fu hb)
def cmpP (q : List Pr) (x : Pr) : Pr := ⟨x.fr, imgS q x.to⟩
def cmpF (p q : List Pr) : Option (List Pr) := if validP p = true ∧ validP q = true ∧ p.map Pr.fr = q.map Pr.fr then some (p.map (cmpP q)) else none
def prmV (x : Option (List Pr)) : AV := match x with
  | some l => .tup [.list false false (l.map ePr), bl true]
  | none => .tup [.list false true [], bl false]
theorem cmp_next {p q : List Pr} {i : Nat} (h : i < p.length) : (p.take (i + 1)).map (cmpP q) = (p.take i).map (cmpP q) ++ [⟨p[i].fr, imgS q p[i].to⟩] := by
  rw [take_next h, List.map_append]; rfl
theorem Compose_ok (p q : List Pr) (le fu le' fu' : Bool) (hb : p.length ≤ 1000000) (hbq : q.length ≤ 1000000) :
    ACall Tryz.prog 50 [.list le fu (p.map ePr), .list le' fu' (q.map ePr)] (fun r => r = prmV (cmpF p q)) := by
  have h1 := sides_ok p le fu hb
  have h2 := sides_ok q le' fu' hbq
  have h3 := Valid29_ok p le fu hb
  have h4 := Valid29_ok q le' fu' hbq
  have h5 := same_ok (p.map Pr.fr) (q.map Pr.fr) false false false false
  have hz : (p.take 0).map (cmpP q) = [] := by simp
  unfold cmpF
  cases hv : validP p
  · rw [if_neg (by simp)]
    rw [hv] at h3
    generalize p.map Pr.fr = A at *
    generalize p.map Pr.to = A' at *
    generalize q.map Pr.fr = B at *
    generalize q.map Pr.to = B' at *
    refine acall_of_awp Tryz.func50 Tryz.call50 rfl (by simp [Tryz.ntmps50]) ?_; simp only [Tryz.ntmps50, Tryz.results50]
    repeat' (first | (refine awK fun _ _ => ?_) | refine Hide.go (by assumption) ?_ | refine end_ret [] ?_; simp [go_sem] | refine stepK_is rfl (h1) (by simp) ?_ | refine stepK_is rfl (h2) (by simp) ?_ | refine stepK_is rfl (h3) (by simp) ?_ | (fail_if_success with_reducible (refine Owe.mk ?_)); (simp (disch := omega) [go_sem]))
    all_goals rfl
  · cases hw : validP q
    · rw [if_neg (by simp)]
      rw [hv] at h3
      rw [hw] at h4
      generalize p.map Pr.fr = A at *
      generalize p.map Pr.to = A' at *
      generalize q.map Pr.fr = B at *
      generalize q.map Pr.to = B' at *
      refine acall_of_awp Tryz.func50 Tryz.call50 rfl (by simp [Tryz.ntmps50]) ?_; simp only [Tryz.ntmps50, Tryz.results50]
      repeat' (first | (refine awK fun _ _ => ?_) | refine Hide.go (by assumption) ?_ | refine end_ret [] ?_; simp [go_sem] | refine stepK_is rfl (h1) (by simp) ?_ | refine stepK_is rfl (h2) (by simp) ?_ | refine stepK_is rfl (h3) (by simp) ?_ | refine stepK_is rfl (h4) (by simp) ?_ | (fail_if_success with_reducible (refine Owe.mk ?_)); (simp (disch := omega) [go_sem]))
      all_goals rfl
    · rw [hv] at h3
      rw [hw] at h4
      by_cases he : p.map Pr.fr = q.map Pr.fr
      · rw [if_pos ⟨rfl, rfl, he⟩]
        rw [decide_eq_true he] at h5
        generalize p.map Pr.fr = A at *
        generalize p.map Pr.to = A' at *
        generalize q.map Pr.fr = B at *
        generalize q.map Pr.to = B' at *
        refine acall_of_awp Tryz.func50 Tryz.call50 rfl (by simp [Tryz.ntmps50]) ?_; simp only [Tryz.ntmps50, Tryz.results50]
        repeat' (first | (refine awK fun _ _ => ?_) | refine Hide.go (by assumption) ?_ | refine stepK_is rfl (h1) (by simp) ?_ | refine stepK_is rfl (h2) (by simp) ?_ | refine stepK_is rfl (h3) (by simp) ?_ | refine stepK_is rfl (h4) (by simp) ?_ | refine stepK_is rfl (h5) (by simp) ?_ | (fail_if_success with_reducible (refine Owe.mk ?_)); (simp (disch := omega) [go_sem]))
        refine awp_for [1, 37, 38] [900] (fun i : Nat => [(39, nt .i64 i), (10, .ref 900 0 i)]) (fun i : Nat => [(900, ⟨true, false, false, 2, ((p.take i).map (cmpP q)).map ePr, 0⟩)]) (fun i : Nat => p.length - i) (fun i : Nat => i ≤ p.length) (0) (by refine Le.trans ?_ (Le.nil (i := 10) (T := 900) (es := 2) rfl); exact (Le.sub4 rfl (by simp [go_sem, hz, List.take_zero, List.map_nil]))) ⟨?_⟩ ?_
        · exact Nat.zero_le _
        intro i hi AA hAA; simp only [kL, Nat.reduceBEq, Nat.reduceEqDiff, if_true, if_false, List.cons_append, List.nil_append, List.append_nil]
        by_cases hlt : i < p.length
        · have hnx := cmp_next (q := q) hlt
          have him := image_ok q p[i].to le' fu'
          have hln : ((p.take i).map (cmpP q)).length = i := by simp; omega
          generalize (p.take i).map (cmpP q) = X at *
          generalize imgS q p[i].to = u at *
          repeat' (first | (refine awK fun _ _ => ?_) | refine Hide.go (by assumption) ?_ | refine dstepK_is rfl (him) rfl (by simp) ?_ | refine (hAA.next (i + 1) (Le.sub4 rfl (by simp [go_sem, hnx, hln])) (by (try dsimp only); omega) ?_) | (fail_if_success with_reducible (refine Owe.mk ?_)); (simp (disch := omega) [go_sem, hlt, hln]) | refine And.intro (by omega) ?_ | refine awp_draw 8 mix (by decide +kernel) ?_)
          all_goals (first | omega | skip)
          exact ⟨hlt⟩
        · obtain rfl : i = p.length := by omega
          rw [List.take_length]
          have hYl : (p.map (cmpP q)).length = p.length := by simp
          generalize p.map (cmpP q) = Y at *
          repeat' (first | (refine awK fun _ _ => ?_) | refine Hide.go (by assumption) ?_ | refine end_ret [900] ?_; simp [go_sem, hYl] | (fail_if_success with_reducible (refine Owe.mk ?_)); (simp (disch := omega) [go_sem, hYl]))
          all_goals rfl
      · rw [if_neg fun h => he h.2.2]
        rw [decide_eq_false he] at h5
        generalize p.map Pr.fr = A at *
        generalize p.map Pr.to = A' at *
        generalize q.map Pr.fr = B at *
        generalize q.map Pr.to = B' at *
        refine acall_of_awp Tryz.func50 Tryz.call50 rfl (by simp [Tryz.ntmps50]) ?_; simp only [Tryz.ntmps50, Tryz.results50]
        repeat' (first | (refine awK fun _ _ => ?_) | refine Hide.go (by assumption) ?_ | refine end_ret [] ?_; simp [go_sem] | refine stepK_is rfl (h1) (by simp) ?_ | refine stepK_is rfl (h2) (by simp) ?_ | refine stepK_is rfl (h3) (by simp) ?_ | refine stepK_is rfl (h4) (by simp) ?_ | refine stepK_is rfl (h5) (by simp) ?_ | (fail_if_success with_reducible (refine Owe.mk ?_)); (simp (disch := omega) [go_sem]))
        all_goals rfl
theorem refCompose_ok (p q : List Pr) (le fu le' fu' : Bool) (hb : p.length ≤ 1000000) (hbq : q.length ≤ 1000000) :
    ACall Tryz.prog 53 [.list le fu (p.map ePr), .list le' fu' (q.map ePr)] (fun r => r = prmV (cmpF p q)) := by
  have h3 := refValid_ok p le fu hb
  have h4 := refValid_ok q le' fu' hbq
  have hz : (p.take 0).map (cmpP q) = [] := by simp
  unfold cmpF
  cases hv : validP p
  · rw [if_neg (by simp)]
    rw [hv] at h3
    refine acall_of_awp Tryz.func53 Tryz.call53 rfl (by simp [Tryz.ntmps53]) ?_; simp only [Tryz.ntmps53, Tryz.results53]
    repeat' (first | (refine awK fun _ _ => ?_) | refine Hide.go (by assumption) ?_ | refine end_ret [] ?_; simp [go_sem] | refine stepK_is rfl (h3) (by simp) ?_ | (fail_if_success with_reducible (refine Owe.mk ?_)); (simp (disch := omega) [go_sem]))
    all_goals rfl
  · cases hw : validP q
    · rw [if_neg (by simp)]
      rw [hv] at h3
      rw [hw] at h4
      refine acall_of_awp Tryz.func53 Tryz.call53 rfl (by simp [Tryz.ntmps53]) ?_; simp only [Tryz.ntmps53, Tryz.results53]
      repeat' (first | (refine awK fun _ _ => ?_) | refine Hide.go (by assumption) ?_ | refine end_ret [] ?_; simp [go_sem] | refine stepK_is rfl (h3) (by simp) ?_ | refine stepK_is rfl (h4) (by simp) ?_ | (fail_if_success with_reducible (refine Owe.mk ?_)); (simp (disch := omega) [go_sem]))
      all_goals rfl
    · rw [hv] at h3
      rw [hw] at h4
      by_cases hl : p.length = q.length
      · have hbad : ∀ (i : Nat) (h : i < p.length) (h' : i < q.length), ¬ p[i].fr = q[i].fr → (if true = true ∧ true = true ∧ p.map Pr.fr = q.map Pr.fr then some (p.map (cmpP q)) else none) = none := fun i h h' hne => by
          rw [if_neg]
          rintro ⟨_, _, he⟩
          apply hne
          have e : (p.map Pr.fr)[i]? = (q.map Pr.fr)[i]? := by rw [he]
          simpa [h, h'] using e
        have hgood : (∀ (j : Nat) (h : j < p.length) (h' : j < q.length), j < p.length → p[j].fr = q[j].fr) → (if true = true ∧ true = true ∧ p.map Pr.fr = q.map Pr.fr then some (p.map (cmpP q)) else none) = some (p.map (cmpP q)) := fun h => by
          rw [if_pos]
          refine ⟨rfl, rfl, List.ext_getElem (by simpa using hl) fun j h1 h2 => ?_⟩
          simp only [List.length_map] at h1 h2
          simpa using h j h1 h2 h1
        generalize (if true = true ∧ true = true ∧ p.map Pr.fr = q.map Pr.fr then some (p.map (cmpP q)) else none) = V at *
        have hl' : (q.length : Int) = p.length := by omega
        refine acall_of_awp Tryz.func53 Tryz.call53 rfl (by simp [Tryz.ntmps53]) ?_; simp only [Tryz.ntmps53, Tryz.results53]
        repeat' (first | (refine awK fun _ _ => ?_) | refine Hide.go (by assumption) ?_ | refine stepK_is rfl (h3) (by simp) ?_ | refine stepK_is rfl (h4) (by simp) ?_ | (fail_if_success with_reducible (refine Owe.mk ?_)); (simp (disch := omega) [go_sem, hl]))
        all_goals (first | (exfalso; omega) | skip)
        refine awp_for [0, 1] [900] (fun i : Nat => [(7, nt .i64 i), (6, .ref 900 0 i)]) (fun i : Nat => [(900, ⟨true, false, false, 2, ((p.take i).map (cmpP q)).map ePr, 0⟩)]) (fun i : Nat => p.length - i) (fun i : Nat => i ≤ p.length ∧ ∀ (j : Nat) (h : j < p.length) (h' : j < q.length), j < i → p[j].fr = q[j].fr) (0) (by refine Le.trans ?_ (Le.nil (i := 6) (T := 900) (es := 2) rfl); exact (Le.sub4 rfl (by simp [go_sem, hz, List.take_zero, List.map_nil]))) ⟨?_⟩ ?_
        · exact ⟨Nat.zero_le _, fun j _ _ hj => absurd hj (Nat.not_lt_zero _)⟩
        intro i ⟨hi, hq⟩ AA hAA; simp only [kL, Nat.reduceBEq, Nat.reduceEqDiff, if_true, if_false, List.cons_append, List.nil_append, List.append_nil]
        by_cases hlt : i < p.length
        · have hlq : i < q.length := by omega
          have hnx := cmp_next (q := q) hlt
          have him := refimage_ok q p[i].to le' fu'
          have hln : ((p.take i).map (cmpP q)).length = i := by simp; omega
          generalize (p.take i).map (cmpP q) = X at *
          generalize imgS q p[i].to = u at *
          by_cases he : p[i].fr = q[i].fr
          · have hst : ∀ (j : Nat) (h : j < p.length) (h' : j < q.length), j < i + 1 → p[j].fr = q[j].fr := fun j h h' hj => by
              rcases Nat.lt_or_eq_of_le (Nat.le_of_lt_succ hj) with h2 | rfl
              · exact hq j h h' h2
              · exact he
            repeat' (first | (refine awK fun _ _ => ?_) | refine Hide.go (by assumption) ?_ | refine dstepK_is rfl (him) rfl (by simp) ?_ | refine (hAA.next (i + 1) (Le.sub4 rfl (by simp [go_sem, hnx, hln, he])) (by (try dsimp only); omega) ?_) | (fail_if_success with_reducible (refine Owe.mk ?_)); (simp (disch := omega) [go_sem, hlt, hlq, hln, he]) | refine And.intro (by omega) ?_ | refine awp_draw 11 mix (by decide +kernel) ?_ | refine awp_draw 14 mix (by decide +kernel) ?_)
            all_goals (first | omega | skip)
            all_goals exact ⟨hlt, hst⟩
          · rw [hbad i hlt hlq he]
            repeat' (first | (refine awK fun _ _ => ?_) | refine Hide.go (by assumption) ?_ | refine end_ret [] ?_; simp [go_sem, hlt, hlq, hln, he] | (fail_if_success with_reducible (refine Owe.mk ?_)); (simp (disch := omega) [go_sem, hlt, hlq, hln, he]) | refine awp_draw 11 mix (by decide +kernel) ?_)
            all_goals rfl
        · obtain rfl : i = p.length := by omega
          rw [List.take_length]
          have hYl : (p.map (cmpP q)).length = p.length := by simp
          have hVe := hgood hq
          clear hgood hbad
          generalize p.map (cmpP q) = Y at *
          subst hVe
          repeat' (first | (refine awK fun _ _ => ?_) | refine Hide.go (by assumption) ?_ | refine end_ret [900] ?_; simp [go_sem, hYl] | (fail_if_success with_reducible (refine Owe.mk ?_)); (simp (disch := omega) [go_sem, hYl]))
          all_goals rfl
      · rw [if_neg fun h => hl (by have := congrArg List.length h.2.2; simpa using this)]
        refine acall_of_awp Tryz.func53 Tryz.call53 rfl (by simp [Tryz.ntmps53]) ?_; simp only [Tryz.ntmps53, Tryz.results53]
        repeat' (first | (refine awK fun _ _ => ?_) | refine Hide.go (by assumption) ?_ | refine zqn ?_ ?_ <;> (intro h; first | (exfalso; omega) | (simp only [h, decide_true, decide_false, not_false_eq_true])) | refine end_ret [] ?_; simp [go_sem, hl] | refine stepK_is rfl (h3) (by simp) ?_ | refine stepK_is rfl (h4) (by simp) ?_ | (fail_if_success with_reducible (refine Owe.mk ?_)); (simp (disch := omega) [go_sem, hl]))
        all_goals (first | (exfalso; omega) | rfl)
deriving instance DecidableEq for Pr
theorem identity1_ok (x : Pr) : ACall Tryz.prog 86 [ePr x] (fun r => r = bl (!decide (x.fr = x.to))) := by
  by_cases h : x.fr = x.to
  · rw [decide_eq_true h]
    refine acall_of_awp Tryz.func86 Tryz.call86 rfl (by simp [Tryz.ntmps86]) ?_; simp only [Tryz.ntmps86, Tryz.results86]
    repeat' (first | (refine awK fun _ _ => ?_) | refine Hide.go (by assumption) ?_ | refine end_ret [] ?_; simp [go_sem, h] | (fail_if_success with_reducible (refine Owe.mk ?_)); (simp (disch := omega) [go_sem, h]))
  · rw [decide_eq_false h]
    refine acall_of_awp Tryz.func86 Tryz.call86 rfl (by simp [Tryz.ntmps86]) ?_; simp only [Tryz.ntmps86, Tryz.results86]
    repeat' (first | (refine awK fun _ _ => ?_) | refine Hide.go (by assumption) ?_ | refine end_ret [] ?_; simp [go_sem, h] | (fail_if_success with_reducible (refine Owe.mk ?_)); (simp (disch := omega) [go_sem, h]))
theorem IdxId_ok (l : List Pr) (le fu : Bool)  (cf : Pr → Bool) (hcl : ∀ x ∈ l, ACall Tryz.prog 86 [ePr x] (fun r => r = bl (cf x))) : ACall Tryz.prog 105 [.list le fu (l.map ePr), .clo 86 []] (fun r => r = nt .i64 (idxB cf l)) := by
  refine ACall.bound (i := 0) rfl Tryz.call105 fun hb => ?_
  rw [List.length_map] at hb
  have hb : l.length ≤ 140737488355328 := hb
  generalize hR : idxB cf l = R
  refine acall_of_awp Tryz.func105 Tryz.call105 rfl (by simp [Tryz.ntmps105]) ?_; simp only [Tryz.ntmps105, Tryz.results105]
  repeat' (first | (refine awK fun _ _ => ?_) | refine Hide.go (by assumption) ?_ | (fail_if_success with_reducible (refine Owe.mk ?_)); (simp (disch := omega) [go_sem]))
  refine awp_for [0, 1, 7] [] (fun i : Nat => [(8, nt .i64 i)]) (fun i : Nat => []) (fun i : Nat => l.length - i) (fun i : Nat => i ≤ l.length ∧ ∀ (k : Nat) (hk : k < l.length), k < i → cf l[k] = false) (0) (Le.sub4 rfl (by simp [go_sem])) ⟨?_⟩ ?_
  · exact ⟨Nat.zero_le _, fun k _ hk => absurd hk (Nat.not_lt_zero _)⟩
  intro i ⟨hi, hn⟩ AA hAA; simp only [kL, Nat.reduceBEq, Nat.reduceEqDiff, if_true, if_false, List.cons_append, List.nil_append, List.append_nil]
  by_cases hlt : i < l.length
  · have hu := hcl l[i] (List.getElem_mem hlt)
    try unfold ePr at hu
    cases hq : cf l[i]
    · rw [hq] at hu
      repeat' (first | (refine awK fun _ _ => ?_) | refine Hide.go (by assumption) ?_ | refine stepK_is rfl (hu) (by simp) ?_ | refine (hAA.next (i + 1) (Le.sub4 rfl (by simp [go_sem])) (by (try dsimp only); omega) ?_) | (fail_if_success with_reducible (refine Owe.mk ?_)); (simp (disch := omega) [go_sem, hlt, ePr]))
      all_goals (first | omega | skip)
      exact ⟨hlt, fun k hk hki => by rcases Nat.lt_or_eq_of_le (Nat.le_of_lt_succ hki) with h | rfl; exact hn k hk h; exact hq⟩
    · have he := idxB_at hlt hq hn
      rw [hR] at he
      subst he
      rw [hq] at hu
      repeat' (first | (refine awK fun _ _ => ?_) | refine Hide.go (by assumption) ?_ | refine end_ret [] ?_; simp [go_sem, hlt, ePr] | refine stepK_is rfl (hu) (by simp) ?_ | (fail_if_success with_reducible (refine Owe.mk ?_)); (simp (disch := omega) [go_sem, hlt, ePr]))
  · obtain rfl : i = l.length := by omega
    have he := idxB_none hn
    rw [hR] at he
    subst he
    repeat' (first | (refine awK fun _ _ => ?_) | refine Hide.go (by assumption) ?_ | refine end_ret [] ?_; simp [go_sem] | (fail_if_success with_reducible (refine Owe.mk ?_)); (simp (disch := omega) [go_sem]))
theorem ConId_ok (l : List Pr) (le fu : Bool)  (cf : Pr → Bool) (hcl : ∀ x ∈ l, ACall Tryz.prog 86 [ePr x] (fun r => r = bl (cf x))) : ACall Tryz.prog 85 [.list le fu (l.map ePr), .clo 86 []] (fun r => r = bl (l.any cf)) := by
  have h := IdxId_ok l le fu  cf hcl
  have e := idxB_any (cf := cf) (l := l)
  generalize idxB cf l = x at *
  generalize l.any cf = b at *
  refine acall_of_awp Tryz.func85 Tryz.call85 rfl (by simp [Tryz.ntmps85]) ?_; simp only [Tryz.ntmps85, Tryz.results85]
  cases b
  · have e : ¬ 0 ≤ x := fun h => by have := e.1 h; cases this
    repeat' (first | (refine awK fun _ _ => ?_) | refine Hide.go (by assumption) ?_ | refine end_ret [] ?_; simp [go_sem, e] | refine stepK_is rfl (h) (by simp) ?_ | (fail_if_success with_reducible (refine Owe.mk ?_)); (simp (disch := omega) [go_sem, e]))
  · have e : 0 ≤ x := e.2 rfl
    repeat' (first | (refine awK fun _ _ => ?_) | refine Hide.go (by assumption) ?_ | refine end_ret [] ?_; simp [go_sem, e] | refine stepK_is rfl (h) (by simp) ?_ | (fail_if_success with_reducible (refine Owe.mk ?_)); (simp (disch := omega) [go_sem, e]))
def idB (p : List Pr) : Bool := !p.any fun x => !decide (x.fr = x.to)
theorem identity_ok (p : List Pr) : ACall Tryz.prog 46 [eG p] (fun r => r = bl (idB p)) := by
  have h := ConId_ok p false false (fun x => !decide (x.fr = x.to)) (fun x _ => identity1_ok x)
  unfold idB
  generalize (p.any fun x => !decide (x.fr = x.to)) = b at *
  refine acall_of_awp Tryz.func46 Tryz.call46 rfl (by simp [Tryz.ntmps46]) ?_; simp only [Tryz.ntmps46, Tryz.results46]
  repeat' (first | (refine awK fun _ _ => ?_) | refine Hide.go (by assumption) ?_ | refine end_ret [] ?_; simp [go_sem, eG] | refine stepK_is rfl (h) (by simp) ?_ | (fail_if_success with_reducible (refine Owe.mk ?_)); (simp (disch := omega) [go_sem, eG]))
theorem IdxIdG_ok (l : List (List Pr)) (le fu : Bool)  (cf : (List Pr) → Bool) (hcl : ∀ x ∈ l, ACall Tryz.prog 46 [eG x] (fun r => r = bl (cf x))) : ACall Tryz.prog 84 [.list le fu (l.map eG), .clo 46 []] (fun r => r = nt .i64 (idxB cf l)) := by
  refine ACall.bound (i := 0) rfl Tryz.call84 fun hb => ?_
  rw [List.length_map] at hb
  have hb : l.length ≤ 140737488355328 := hb
  generalize hR : idxB cf l = R
  refine acall_of_awp Tryz.func84 Tryz.call84 rfl (by simp [Tryz.ntmps84]) ?_; simp only [Tryz.ntmps84, Tryz.results84]
  repeat' (first | (refine awK fun _ _ => ?_) | refine Hide.go (by assumption) ?_ | (fail_if_success with_reducible (refine Owe.mk ?_)); (simp (disch := omega) [go_sem]))
  refine awp_for [0, 1, 7] [] (fun i : Nat => [(8, nt .i64 i)]) (fun i : Nat => []) (fun i : Nat => l.length - i) (fun i : Nat => i ≤ l.length ∧ ∀ (k : Nat) (hk : k < l.length), k < i → cf l[k] = false) (0) (Le.sub4 rfl (by simp [go_sem])) ⟨?_⟩ ?_
  · exact ⟨Nat.zero_le _, fun k _ hk => absurd hk (Nat.not_lt_zero _)⟩
  intro i ⟨hi, hn⟩ AA hAA; simp only [kL, Nat.reduceBEq, Nat.reduceEqDiff, if_true, if_false, List.cons_append, List.nil_append, List.append_nil]
  by_cases hlt : i < l.length
  · have hu := hcl l[i] (List.getElem_mem hlt)
    try unfold eG at hu
    cases hq : cf l[i]
    · rw [hq] at hu
      repeat' (first | (refine awK fun _ _ => ?_) | refine Hide.go (by assumption) ?_ | refine stepK_is rfl (hu) (by simp) ?_ | refine (hAA.next (i + 1) (Le.sub4 rfl (by simp [go_sem])) (by (try dsimp only); omega) ?_) | (fail_if_success with_reducible (refine Owe.mk ?_)); (simp (disch := omega) [go_sem, hlt, eG]))
      all_goals (first | omega | skip)
      exact ⟨hlt, fun k hk hki => by rcases Nat.lt_or_eq_of_le (Nat.le_of_lt_succ hki) with h | rfl; exact hn k hk h; exact hq⟩
    · have he := idxB_at hlt hq hn
      rw [hR] at he
      subst he
      rw [hq] at hu
      repeat' (first | (refine awK fun _ _ => ?_) | refine Hide.go (by assumption) ?_ | refine end_ret [] ?_; simp [go_sem, hlt, eG] | refine stepK_is rfl (hu) (by simp) ?_ | (fail_if_success with_reducible (refine Owe.mk ?_)); (simp (disch := omega) [go_sem, hlt, eG]))
  · obtain rfl : i = l.length := by omega
    have he := idxB_none hn
    rw [hR] at he
    subst he
    repeat' (first | (refine awK fun _ _ => ?_) | refine Hide.go (by assumption) ?_ | refine end_ret [] ?_; simp [go_sem] | (fail_if_success with_reducible (refine Owe.mk ?_)); (simp (disch := omega) [go_sem]))
theorem ConIdG_ok (l : List (List Pr)) (le fu : Bool)  (cf : (List Pr) → Bool) (hcl : ∀ x ∈ l, ACall Tryz.prog 46 [eG x] (fun r => r = bl (cf x))) : ACall Tryz.prog 45 [.list le fu (l.map eG), .clo 46 []] (fun r => r = bl (l.any cf)) := by
  have h := IdxIdG_ok l le fu  cf hcl
  have e := idxB_any (cf := cf) (l := l)
  generalize idxB cf l = x at *
  generalize l.any cf = b at *
  refine acall_of_awp Tryz.func45 Tryz.call45 rfl (by simp [Tryz.ntmps45]) ?_; simp only [Tryz.ntmps45, Tryz.results45]
  cases b
  · have e : ¬ 0 ≤ x := fun h => by have := e.1 h; cases this
    repeat' (first | (refine awK fun _ _ => ?_) | refine Hide.go (by assumption) ?_ | refine end_ret [] ?_; simp [go_sem, e] | refine stepK_is rfl (h) (by simp) ?_ | (fail_if_success with_reducible (refine Owe.mk ?_)); (simp (disch := omega) [go_sem, e]))
  · have e : 0 ≤ x := e.2 rfl
    repeat' (first | (refine awK fun _ _ => ?_) | refine Hide.go (by assumption) ?_ | refine end_ret [] ?_; simp [go_sem, e] | refine stepK_is rfl (h) (by simp) ?_ | (fail_if_success with_reducible (refine Owe.mk ?_)); (simp (disch := omega) [go_sem, e]))
theorem constants_ok (p : List Pr) (le fu : Bool) (hb : p.length ≤ 1000000) : ACall Tryz.prog 49 [.list le fu (p.map ePr)] (fun r => r = .own 1 ((p.map Pr.fr).map eStr)) := by
  have h0 : (p.take 0).map Pr.fr = [] := by simp
  refine acall_of_awp Tryz.func49 Tryz.call49 rfl (by simp [Tryz.ntmps49]) ?_; simp only [Tryz.ntmps49, Tryz.results49]
  repeat' (first | (refine awK fun _ _ => ?_) | refine Hide.go (by assumption) ?_ | (fail_if_success with_reducible (refine Owe.mk ?_)); (simp (disch := omega) [go_sem]))
  refine awp_for [6, 7] [900] (fun i : Nat => [(8, nt .i64 i), (3, .ref 900 0 i)]) (fun i : Nat => [(900, ⟨true, false, false, 1, ((p.take i).map Pr.fr).map eStr, 0⟩)]) (fun i : Nat => p.length - i) (fun i : Nat => i ≤ p.length) (0) (by refine Le.trans ?_ (Le.nil (i := 3) (T := 900) (es := 1) rfl); exact (Le.sub4 rfl (by simp [go_sem, h0, List.take_zero, List.map_nil]))) ⟨?_⟩ ?_
  · exact Nat.zero_le _
  intro i hi AA hAA; simp only [kL, Nat.reduceBEq, Nat.reduceEqDiff, if_true, if_false, List.cons_append, List.nil_append, List.append_nil]
  by_cases hlt : i < p.length
  · have hnx := take_next hlt
    have hln : ((p.take i).map Pr.fr).length = i := by simp; omega
    have hn1 : (p.take (i + 1)).map Pr.fr = (p.take i).map Pr.fr ++ [p[i].fr] := by rw [hnx, List.map_append]; rfl
    generalize (p.take i).map Pr.fr = A at *
    repeat' (first | (refine awK fun _ _ => ?_) | refine Hide.go (by assumption) ?_ | refine (hAA.next (i + 1) (Le.sub4 rfl (by simp [go_sem, hn1, hln, eStr])) (by (try dsimp only); omega) ?_) | (fail_if_success with_reducible (refine Owe.mk ?_)); (simp (disch := omega) [go_sem, hlt, hln, eStr]) | refine And.intro (by omega) ?_)
    all_goals (first | omega | skip)
    exact ⟨hlt⟩
  · obtain rfl : i = p.length := by omega
    rw [List.take_length]
    have hln : (p.map Pr.fr).length = p.length := by simp
    generalize p.map Pr.fr = A at *
    repeat' (first | (refine awK fun _ _ => ?_) | refine Hide.go (by assumption) ?_ | refine end_ret [] ?_; simp [go_sem, hln] | (fail_if_success with_reducible (refine Owe.mk ?_)); (simp (disch := omega) [go_sem, hln]))
theorem EqualS_ok (a b : List ByteArray) (le fu le' fu' : Bool) : ACall Tryz.prog 48 [.list le fu (a.map eStr), .list le' fu' (b.map eStr)] (fun r => r = bl (decide (a = b))) := by
  refine ACall.bound (i := 0) rfl Tryz.call48 fun hb => ?_
  rw [List.length_map] at hb
  have hb : a.length ≤ 140737488355328 := hb
  by_cases h0 : a.length = b.length
  · generalize hR : decide (a = b) = R
    have h0' : ¬ (a.length : Int) ≠ b.length := by omega
    refine acall_of_awp Tryz.func48 Tryz.call48 rfl (by simp [Tryz.ntmps48]) ?_; simp only [Tryz.ntmps48, Tryz.results48]
    repeat' (first | (refine awK fun _ _ => ?_) | refine Hide.go (by assumption) ?_ | (fail_if_success with_reducible (refine Owe.mk ?_)); (simp (disch := omega) [go_sem, h0]))
    all_goals (first | (exfalso; omega) | skip)
    refine awp_for [0, 1, 12] [] (fun i : Nat => [(13, nt .i64 i)]) (fun i : Nat => []) (fun i : Nat => b.length - i) (fun i : Nat => i ≤ b.length ∧ ∀ (k : Nat) (hk : k < a.length) (hk' : k < b.length), k < i → a[k] = b[k]) (0) (Le.sub4 rfl (by simp [go_sem])) ⟨?_⟩ ?_
    · exact ⟨Nat.zero_le _, fun k _ _ hk => absurd hk (Nat.not_lt_zero _)⟩
    intro i ⟨hi, hn⟩ AA hAA; simp only [kL, Nat.reduceBEq, Nat.reduceEqDiff, if_true, if_false, List.cons_append, List.nil_append, List.append_nil]
    by_cases hlt : i < b.length
    · have hla : i < a.length := by omega
      by_cases hq : a[i] = b[i]
      · repeat' (first | (refine awK fun _ _ => ?_) | refine Hide.go (by assumption) ?_ | refine (hAA.next (i + 1) (Le.sub4 rfl (by simp [go_sem])) (by (try dsimp only); omega) ?_) | (fail_if_success with_reducible (refine Owe.mk ?_)); (simp (disch := omega) [go_sem, hlt, hla, eStr, hq]) | refine awp_draw 9 mix (by decide +kernel) ?_)
        all_goals (first | omega | skip)
        all_goals exact ⟨hlt, fun k hk hk' hki => by rcases Nat.lt_or_eq_of_le (Nat.le_of_lt_succ hki) with h | rfl; exact hn k hk hk' h; exact hq⟩
      · have hu : R = false := by
          rw [← hR, decide_eq_false_iff_not]
          intro h
          apply hq
          simp only [h]
        subst hu
        skip
        repeat' (first | (refine awK fun _ _ => ?_) | refine Hide.go (by assumption) ?_ | refine end_ret [] ?_; simp [go_sem, hlt, hla, eStr, hq] | (fail_if_success with_reducible (refine Owe.mk ?_)); (simp (disch := omega) [go_sem, hlt, hla, eStr, hq]) | refine awp_draw 9 mix (by decide +kernel) ?_)
    · obtain rfl : i = b.length := by omega
      have hu : R = true := by
        rw [← hR, decide_eq_true_eq]
        exact List.ext_getElem h0 fun k h1 h2 => hn k h1 h2 h2
      subst hu
      repeat' (first | (refine awK fun _ _ => ?_) | refine Hide.go (by assumption) ?_ | refine end_ret [] ?_; simp [go_sem] | (fail_if_success with_reducible (refine Owe.mk ?_)); (simp (disch := omega) [go_sem]))
  · rw [decide_eq_false (fun h => h0 (by rw [h]))]
    refine acall_of_awp Tryz.func48 Tryz.call48 rfl (by simp [Tryz.ntmps48]) ?_; simp only [Tryz.ntmps48, Tryz.results48]
    repeat' (first | (refine awK fun _ _ => ?_) | refine Hide.go (by assumption) ?_ | refine zqn ?_ ?_ <;> (intro h; first | (exfalso; omega) | (simp only [h, decide_true, decide_false, not_false_eq_true])) | refine end_ret [] ?_; simp [go_sem, h0] | (fail_if_success with_reducible (refine Owe.mk ?_)); (simp (disch := omega) [go_sem, h0]))
    all_goals (first | (exfalso; omega) | skip)
theorem pr_ne {x y : Pr} (h : ¬ x = y) : ¬ (x.fr = y.fr ∧ x.to = y.to) := fun ⟨h1, h2⟩ => h (by obtain ⟨a, b⟩ := x; obtain ⟨c, d⟩ := y; simp at h1 h2; rw [h1, h2])
theorem EqualP_ok (a b : List Pr) (le fu le' fu' : Bool) : ACall Tryz.prog 52 [.list le fu (a.map ePr), .list le' fu' (b.map ePr)] (fun r => r = bl (decide (a = b))) := by
  refine ACall.bound (i := 0) rfl Tryz.call52 fun hb => ?_
  rw [List.length_map] at hb
  have hb : a.length ≤ 140737488355328 := hb
  by_cases h0 : a.length = b.length
  · generalize hR : decide (a = b) = R
    have h0' : ¬ (a.length : Int) ≠ b.length := by omega
    refine acall_of_awp Tryz.func52 Tryz.call52 rfl (by simp [Tryz.ntmps52]) ?_; simp only [Tryz.ntmps52, Tryz.results52]
    repeat' (first | (refine awK fun _ _ => ?_) | refine Hide.go (by assumption) ?_ | (fail_if_success with_reducible (refine Owe.mk ?_)); (simp (disch := omega) [go_sem, h0]))
    all_goals (first | (exfalso; omega) | skip)
    refine awp_for [0, 1, 12] [] (fun i : Nat => [(13, nt .i64 i)]) (fun i : Nat => []) (fun i : Nat => b.length - i) (fun i : Nat => i ≤ b.length ∧ ∀ (k : Nat) (hk : k < a.length) (hk' : k < b.length), k < i → a[k] = b[k]) (0) (Le.sub4 rfl (by simp [go_sem])) ⟨?_⟩ ?_
    · exact ⟨Nat.zero_le _, fun k _ _ hk => absurd hk (Nat.not_lt_zero _)⟩
    intro i ⟨hi, hn⟩ AA hAA; simp only [kL, Nat.reduceBEq, Nat.reduceEqDiff, if_true, if_false, List.cons_append, List.nil_append, List.append_nil]
    by_cases hlt : i < b.length
    · have hla : i < a.length := by omega
      by_cases hq : a[i] = b[i]
      · repeat' (first | (refine awK fun _ _ => ?_) | refine Hide.go (by assumption) ?_ | refine (hAA.next (i + 1) (Le.sub4 rfl (by simp [go_sem])) (by (try dsimp only); omega) ?_) | (fail_if_success with_reducible (refine Owe.mk ?_)); (simp (disch := omega) [go_sem, hlt, hla, ePr, hq]) | refine awp_draw 9 mix (by decide +kernel) ?_)
        all_goals (first | omega | skip)
        all_goals exact ⟨hlt, fun k hk hk' hki => by rcases Nat.lt_or_eq_of_le (Nat.le_of_lt_succ hki) with h | rfl; exact hn k hk hk' h; exact hq⟩
      · have hu : R = false := by
          rw [← hR, decide_eq_false_iff_not]
          intro h
          apply hq
          simp only [h]
        subst hu
        have hqq := pr_ne hq
        repeat' (first | (refine awK fun _ _ => ?_) | refine Hide.go (by assumption) ?_ | refine end_ret [] ?_; simp [go_sem, hlt, hla, ePr, hq, hqq] | (fail_if_success with_reducible (refine Owe.mk ?_)); (simp (disch := omega) [go_sem, hlt, hla, ePr, hq, hqq]) | refine awp_draw 9 mix (by decide +kernel) ?_)
    · obtain rfl : i = b.length := by omega
      have hu : R = true := by
        rw [← hR, decide_eq_true_eq]
        exact List.ext_getElem h0 fun k h1 h2 => hn k h1 h2 h2
      subst hu
      repeat' (first | (refine awK fun _ _ => ?_) | refine Hide.go (by assumption) ?_ | refine end_ret [] ?_; simp [go_sem] | (fail_if_success with_reducible (refine Owe.mk ?_)); (simp (disch := omega) [go_sem]))
  · rw [decide_eq_false (fun h => h0 (by rw [h]))]
    refine acall_of_awp Tryz.func52 Tryz.call52 rfl (by simp [Tryz.ntmps52]) ?_; simp only [Tryz.ntmps52, Tryz.results52]
    repeat' (first | (refine awK fun _ _ => ?_) | refine Hide.go (by assumption) ?_ | refine zqn ?_ ?_ <;> (intro h; first | (exfalso; omega) | (simp only [h, decide_true, decide_false, not_false_eq_true])) | refine end_ret [] ?_; simp [go_sem, h0] | (fail_if_success with_reducible (refine Owe.mk ?_)); (simp (disch := omega) [go_sem, h0]))
    all_goals (first | (exfalso; omega) | skip)
end Go.Proofs.YtmadpbpmcbdboaaGreat
