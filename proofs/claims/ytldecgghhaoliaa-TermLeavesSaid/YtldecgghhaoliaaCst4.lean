/-
  Cst4: the reference's constants.
-/
import Derived.Test.YtldecgghhaoliaaCst3
namespace Go.Proofs.Ytldecgghhaoliaa
open Go.Ab
set_option linter.unusedSimpArgs false
set_option maxRecDepth 100000
set_option maxHeartbeats 8000000
theorem sortT_len (l : List Tm) : (sortT l).length ≤ l.length := by
  have h1 : (sortT l).Nodup := by
    refine List.Pairwise.imp (fun {a b} h => ?_) (sort_asc l)
    rintro rfl
    rw [cmp_self] at h; omega
  exact List.Nodup.length_le_of_subset h1 fun x hx => (sort_mem l x).1 hx
/-- A term without arguments, as it is built. -/
def eLf (s : ByteArray) : AV := .agg [.sc (.string s), .list false true []]
theorem RV_lfs {F : Bool → Facts} {loc : Nat → Option LI} {S : List ByteArray} {a b : Bool} {v : Value} (h : RV F loc (.list a b (S.map eLf)) v) : RV F loc (.list a b ((S.map leafC).map eTm)) v := by
  have hg : ∀ (i : Nat) (y : AV), ((S.map leafC).map eTm)[i]? = some y → ∃ s, (S.map eLf)[i]? = some (eLf s) ∧ y = .agg [.sc (.string s), .list false false []] := fun i y hy => by
    simp only [List.getElem?_map, Option.map_eq_some_iff] at hy
    obtain ⟨t, ⟨s, hs, rfl⟩, rfl⟩ := hy
    exact ⟨s, by simp [hs], rfl⟩
  have hl : ((S.map leafC).map eTm).length = (S.map eLf).length := by simp
  generalize hx : S.map eLf = xs at h hg hl
  cases h with
  | nil =>
    have : (S.map leafC).map eTm = [] := List.eq_nil_of_length_eq_zero hl
    rw [this]; exact .nil
  | @list _ _ _ _ _ _ o o' cap es f h1 h2 h3 h4 h5 h6 h7 h8 =>
    rw [← hl]
    have hcell : ∀ (i : Nat) (y : AV) (j : Nat) (z : AV), ((S.map leafC).map eTm)[i]? = some y → y.cells[j]? = some z → ∃ s y' z', xs[i]? = some y' ∧ y'.cells[j]? = some z' ∧ (∀ (F : Bool → Facts) (loc : Nat → Option LI) (v : Value), RV F loc z' v → RV F loc z v) := fun i y j z hy hz => by
      obtain ⟨s, h, rfl⟩ := hg i y hy
      rcases j with _ | _ | j
      · simp [AV.cells] at hz; subst hz
        exact ⟨s, _, .sc (.string s), h, rfl, fun _ _ _ h => h⟩
      · simp [AV.cells] at hz; subst hz
        exact ⟨s, _, .list false true [], h, rfl, fun _ _ _ h => h.void rfl⟩
      · simp [AV.cells] at hz
    refine .list (es := es) (f := f) (o := o) (fun y hy => ?_) (by rw [hl]; exact h2) (by rw [hl]; exact h3) (fun h => by rw [hl]; exact h4 h) (fun hne => h5 fun e => hne ?_) (fun i y j z hy hz => ?_) (fun i y j z hy hz => ?_) (fun i y j z hy hz => ?_)
    · obtain ⟨i, hi, rfl⟩ := List.mem_iff_getElem.1 hy
      obtain ⟨s, h, e⟩ := hg i _ (List.getElem?_eq_getElem hi)
      rw [e]
      have := h1 _ (List.mem_of_getElem? h)
      simpa [AV.cells, eLf] using this
    · apply List.eq_nil_of_length_eq_zero
      rw [hl, e]; rfl
    · obtain ⟨s, y', z', h, hz', _⟩ := hcell i y j z hy hz
      exact h6 i y' j z' h hz'
    · obtain ⟨s, y', z', h, hz', hr⟩ := hcell i y j z hy hz
      exact hr _ _ _ (h7 i y' j z' h hz')
    · obtain ⟨s, y', z', h, hz', _⟩ := hcell i y j z hy hz
      exact h8 i y' j z' h hz'
theorem refSort_lfs (S : List ByteArray) (a b : Bool) (hb : S.length ≤ 1000000) : ACall Try.prog 36 [.list a b (S.map eLf)] (fun r => r = .list false false ((sortT (S.map leafC)).map eTm)) := by
  refine (refSortF_ok (S.map leafC) a b (by rw [List.length_map]; exact hb)).args rfl fun F i p q v hp hq h => ?_
  rcases i with _ | i
  · simp at hp hq; subst hp; subst hq
    have := RV_lfs h
    simpa using this
  · simp at hp
def nmS (S : List Tm) (k : Nat) : List ByteArray := (S.take k).map Tm.name
theorem nmS_zero (S : List Tm) : nmS S 0 = [] := rfl
theorem nmS_all (S : List Tm) : nmS S S.length = S.map Tm.name := by unfold nmS; rw [List.take_length]
theorem nmS_next {S : List Tm} {k : Nat} (h : k < S.length) : nmS S (k + 1) = nmS S k ++ [S[k].name] := by
  unfold nmS; rw [take_next h, List.map_append]; rfl
theorem nmS_len {S : List Tm} {k : Nat} (h : k ≤ S.length) : (nmS S k).length = k := by unfold nmS; simp; omega
theorem refConstants_ok (l : List Tm) (le fu : Bool) (hb : (lvsS l).length ≤ 1000000) : ACall Try.prog 43 [.list le fu (l.map eTm)] (fun r => r = .own 1 ((cstT l).map eStr)) := by
  have hge := lvsS_ge l
  obtain ⟨S, hS⟩ : ∃ S, S = sortT ((csT l).map leafC) := ⟨_, rfl⟩
  have hcst : cstT l = nmS S S.length := by rw [nmS_all, hS]; rfl
  rw [hcst]
  clear hcst
  refine ACall.own_nil ?_
  refine acall_of_awp Try.func43 Try.call43 rfl (by simp [Try.ntmps43]) ?_; simp only [Try.ntmps43, Try.results43]
  repeat' (first
    | (refine awp_seqK (fun K hK => ?_))
    | (refine Hide.go (by assumption) ?_)
    | ((first | refine zqd ?_ ?_ | refine zqn ?_ ?_ | refine zgd ?_ ?_ | refine zgn ?_ ?_ | refine zdd ?_ ?_ | refine zdn ?_ ?_) <;> (intro h; first | (exfalso; omega) | (simp only [h, decide_true, decide_false, not_false_eq_true]) | skip))
    | (refine end_ret [] ?_; simp [go_sem])
    | ((fail_if_success with_reducible (refine Owe.mk ?_)); (simp (disch := omega) [go_sem]))
    | (refine And.intro (by omega) ?_)
    | (refine nbI fun bq => ?_)
    | ((first | refine zqm ?_ ?_ | refine zgm ?_ ?_ | refine zdm ?_ ?_) <;> (intro h; simp only [h, Bool.not_true, Bool.not_false]))
    | ((first | refine zqs ?_ ?_ | refine zgs ?_ ?_ | refine zds ?_ ?_) <;> (intro h; first | (exfalso; simp at h; omega) | ((try simp only [h]); (try simp at h))))
    | fail)
  refine awp_for [0, 10] [900] (fun i : Nat => [(11, nt .i64 i), (3, .ref 900 0 (csT (l.take i)).length)]) (fun i : Nat => [(900, ⟨true, false, false, 2, (csT (l.take i)).map eLf, 0⟩)]) (fun i : Nat => l.length - i) (fun i : Nat => i ≤ l.length) (0) (by refine Le.trans ?_ (Le.nil (i := 3) (T := 900) (es := 2) rfl); exact (Le.sub4 rfl (by simp [go_sem, csT_nil, List.take_zero, List.map_nil]))) ⟨?_⟩ ?_
  · exact Nat.zero_le _
  intro i hi AA hAA; simp only [Go.Ab.keepT_nil, Go.Ab.keepT_cons, Go.Ab.dropO_nil, Go.Ab.dropO_cons, List.contains_cons, List.contains_nil, List.elem_cons, List.elem_nil, Nat.reduceBEq, beq_self_eq_true, Nat.reduceEqDiff, Bool.or_false, Bool.false_or, Bool.or_true, Bool.true_or, Bool.false_eq_true, if_true, if_false, List.cons_append, List.nil_append, List.append_nil]
  by_cases hlt : i < l.length
  · have hB := hAA
    have hlv := lvsS_get hlt
    have hcl := refLeaves_ok l[i] (by omega)
    have hn := csT_next hlt
    have hl0 := csT_le (l.take i)
    have hl2 := lvsS_take_le l (i + 1)
    rw [lvsS_next hlt, List.length_append] at hl2
    generalize csT (l.take i) = A at *
    generalize lvs l[i] = L at *
    repeat' (first
    | (refine awp_seqK (fun K hK => ?_))
    | (refine Hide.go (by assumption) ?_)
    | ((first | refine zqd ?_ ?_ | refine zqn ?_ ?_ | refine zgd ?_ ?_ | refine zgn ?_ ?_ | refine zdd ?_ ?_ | refine zdn ?_ ?_) <;> (intro h; first | (exfalso; omega) | (simp only [h, decide_true, decide_false, not_false_eq_true]) | skip))
    | (refine end_ret [] ?_; simp [go_sem, hlt])
    | (refine stepK_is rfl (hcl) (by simp) ?_)
    | (refine dstepK_is rfl (hcl) rfl (by simp) ?_)
    | ((fail_if_success with_reducible (refine Owe.mk ?_)); (simp (disch := omega) [go_sem, hlt]))
    | (refine And.intro (by omega) ?_)
    | (refine nbI fun bq => ?_)
    | ((first | refine zqm ?_ ?_ | refine zgm ?_ ?_ | refine zdm ?_ ?_) <;> (intro h; simp only [h, Bool.not_true, Bool.not_false]))
    | ((first | refine zqs ?_ ?_ | refine zgs ?_ ?_ | refine zds ?_ ?_) <;> (intro h; first | (exfalso; simp at h; omega) | ((try simp only [h]); (try simp at h))))
    | fail)
    refine awp_for [0, 5, 10, 11, 20] [900] (fun j : Nat => [(21, nt .i64 j), (3, .ref 900 0 (fdC A L j).length)]) (fun j : Nat => [(900, ⟨true, false, false, 2, (fdC A L j).map eLf, 0⟩)]) (fun j : Nat => L.length - j) (fun j : Nat => j ≤ L.length) (0) (Le.sub4 rfl (by simp [go_sem, fdC_zero])) ⟨?_⟩ ?_
    · exact Nat.zero_le _
    intro j hj AA hAA; simp only [Go.Ab.keepT_nil, Go.Ab.keepT_cons, Go.Ab.dropO_nil, Go.Ab.dropO_cons, List.contains_cons, List.contains_nil, List.elem_cons, List.elem_nil, Nat.reduceBEq, beq_self_eq_true, Nat.reduceEqDiff, Bool.or_false, Bool.false_or, Bool.or_true, Bool.true_or, Bool.false_eq_true, if_true, if_false, List.cons_append, List.nil_append, List.append_nil]
    by_cases hjl : j < L.length
    · have h1 := fun a b => refConstant_leaf L[j] a b
      have hz := fdC_next (A := A) hjl
      have hfl := fdC_le A L j
      generalize fdC A L j = X at *
      cases hv : constS L[j] with
      | true =>
        rw [hv] at h1
        rw [if_pos hv] at hz
        repeat' (first
    | (refine awp_seqK (fun K hK => ?_))
    | (refine Hide.go (by assumption) ?_)
    | ((first | refine zqd ?_ ?_ | refine zqn ?_ ?_ | refine zgd ?_ ?_ | refine zgn ?_ ?_ | refine zdd ?_ ?_ | refine zdn ?_ ?_) <;> (intro h; first | (exfalso; omega) | (simp only [h, decide_true, decide_false, not_false_eq_true]) | skip))
    | (refine end_ret [] ?_; simp [go_sem, hjl, eStr])
    | (refine stepK_is rfl (h1 _ _) (by simp) ?_)
    | (refine dstepK_is rfl (h1 _ _) rfl (by simp) ?_)
    | (refine (hAA.next (j + 1) (Le.sub4 rfl (by simp [go_sem, hz, eLf])) (by (try dsimp only); omega) ?_))
    | ((fail_if_success with_reducible (refine Owe.mk ?_)); (simp (disch := omega) [go_sem, hjl, eStr]))
    | (refine And.intro (by omega) ?_)
    | (refine nbI fun bq => ?_)
    | ((first | refine zqm ?_ ?_ | refine zgm ?_ ?_ | refine zdm ?_ ?_) <;> (intro h; simp only [h, Bool.not_true, Bool.not_false]))
    | ((first | refine zqs ?_ ?_ | refine zgs ?_ ?_ | refine zds ?_ ?_) <;> (intro h; first | (exfalso; simp at h; omega) | ((try simp only [h]); (try simp at h))))
    | fail)
        all_goals (first | omega | skip)
        exact ⟨hjl⟩
      | false =>
        rw [hv] at h1
        rw [if_neg (by simp [hv]), List.append_nil] at hz
        repeat' (first
    | (refine awp_seqK (fun K hK => ?_))
    | (refine Hide.go (by assumption) ?_)
    | ((first | refine zqd ?_ ?_ | refine zqn ?_ ?_ | refine zgd ?_ ?_ | refine zgn ?_ ?_ | refine zdd ?_ ?_ | refine zdn ?_ ?_) <;> (intro h; first | (exfalso; omega) | (simp only [h, decide_true, decide_false, not_false_eq_true]) | skip))
    | (refine end_ret [] ?_; simp [go_sem, hjl, eStr])
    | (refine stepK_is rfl (h1 _ _) (by simp) ?_)
    | (refine dstepK_is rfl (h1 _ _) rfl (by simp) ?_)
    | (refine (hAA.next (j + 1) (Le.sub4 rfl (by simp [go_sem, hz])) (by (try dsimp only); omega) ?_))
    | ((fail_if_success with_reducible (refine Owe.mk ?_)); (simp (disch := omega) [go_sem, hjl, eStr]))
    | (refine And.intro (by omega) ?_)
    | (refine nbI fun bq => ?_)
    | ((first | refine zqm ?_ ?_ | refine zgm ?_ ?_ | refine zdm ?_ ?_) <;> (intro h; simp only [h, Bool.not_true, Bool.not_false]))
    | ((first | refine zqs ?_ ?_ | refine zgs ?_ ?_ | refine zds ?_ ?_) <;> (intro h; first | (exfalso; simp at h; omega) | ((try simp only [h]); (try simp at h))))
    | fail)
        all_goals (first | omega | skip)
        exact ⟨hjl⟩
    · obtain rfl : j = L.length := by omega
      rw [fdC_all, ← hn]
      repeat' (first
    | (refine awp_seqK (fun K hK => ?_))
    | (refine Hide.go (by assumption) ?_)
    | ((first | refine zqd ?_ ?_ | refine zqn ?_ ?_ | refine zgd ?_ ?_ | refine zgn ?_ ?_ | refine zdd ?_ ?_ | refine zdn ?_ ?_) <;> (intro h; first | (exfalso; omega) | (simp only [h, decide_true, decide_false, not_false_eq_true]) | skip))
    | (refine end_ret [] ?_; simp [go_sem])
    | (refine (hB.next (i + 1) (Le.sub4 rfl (by simp [go_sem])) (by (try dsimp only); omega) ?_))
    | ((fail_if_success with_reducible (refine Owe.mk ?_)); (simp (disch := omega) [go_sem]))
    | (refine And.intro (by omega) ?_)
    | (refine nbI fun bq => ?_)
    | ((first | refine zqm ?_ ?_ | refine zgm ?_ ?_ | refine zdm ?_ ?_) <;> (intro h; simp only [h, Bool.not_true, Bool.not_false]))
    | ((first | refine zqs ?_ ?_ | refine zgs ?_ ?_ | refine zds ?_ ?_) <;> (intro h; first | (exfalso; simp at h; omega) | ((try simp only [h]); (try simp at h))))
    | fail)
      all_goals (first | omega | skip)
      exact ⟨hlt⟩
  · obtain rfl : i = l.length := by omega
    rw [List.take_length]
    have hcl := csT_le l
    have hlenT : True := trivial
    have hso := refSort_lfs (csT l) true false (by omega)
    have hsl := sortT_len ((csT l).map leafC)
    rw [List.length_map] at hsl
    rw [← hS] at hso hsl
    clear hS
    generalize csT l = K at *
    repeat' (first
    | (refine awp_seqK (fun K hK => ?_))
    | (refine Hide.go (by assumption) ?_)
    | ((first | refine zqd ?_ ?_ | refine zqn ?_ ?_ | refine zgd ?_ ?_ | refine zgn ?_ ?_ | refine zdd ?_ ?_ | refine zdn ?_ ?_) <;> (intro h; first | (exfalso; omega) | (simp only [h, decide_true, decide_false, not_false_eq_true]) | skip))
    | (refine end_ret [] ?_; simp [go_sem, hlenT])
    | (refine stepK_is rfl (hso) (by simp) ?_)
    | (refine dstepK_is rfl (hso) rfl (by simp) ?_)
    | (refine stepK_is ?hl (hso) (by simp) ?_; (case hl => (simp [go_sem, hlenT]; done)))
    | (refine dstepK_is ?hl (hso) rfl (by simp) ?_; (case hl => (simp [go_sem, hlenT]; done)))
    | ((fail_if_success with_reducible (refine Owe.mk ?_)); (simp (disch := omega) [go_sem, hlenT]))
    | (refine And.intro (by omega) ?_)
    | (refine nbI fun bq => ?_)
    | ((first | refine zqm ?_ ?_ | refine zgm ?_ ?_ | refine zdm ?_ ?_) <;> (intro h; simp only [h, Bool.not_true, Bool.not_false]))
    | ((first | refine zqs ?_ ?_ | refine zgs ?_ ?_ | refine zds ?_ ?_) <;> (intro h; first | (exfalso; simp at h; omega) | ((try simp only [h]); (try simp at h))))
    | fail)
    refine awp_for [43] [901, 900] (fun k : Nat => [(44, nt .i64 k), (3, .list false false (S.map eTm)), (7, .ref 901 0 (nmS S k).length)]) (fun k : Nat => [(901, ⟨true, false, false, 1, (nmS S k).map eStr, 0⟩)]) (fun k : Nat => S.length - k) (fun k : Nat => k ≤ S.length) (0) (by refine Le.trans ?_ (Le.nil (i := 7) (T := 901) (es := 1) rfl); exact (Le.sub4 rfl (by simp [go_sem, nmS_zero, List.map_nil]))) ⟨?_⟩ ?_
    · exact Nat.zero_le _
    intro k hk AA hAA; simp only [Go.Ab.keepT_nil, Go.Ab.keepT_cons, Go.Ab.dropO_nil, Go.Ab.dropO_cons, List.contains_cons, List.contains_nil, List.elem_cons, List.elem_nil, Nat.reduceBEq, beq_self_eq_true, Nat.reduceEqDiff, Bool.or_false, Bool.false_or, Bool.or_true, Bool.true_or, Bool.false_eq_true, if_true, if_false, List.cons_append, List.nil_append, List.append_nil]
    by_cases hkl : k < S.length
    · have hn := nmS_next hkl
      have hnl := nmS_len hk
      generalize nmS S k = A at *
      repeat' (first
    | (refine awp_seqK (fun K hK => ?_))
    | (refine Hide.go (by assumption) ?_)
    | ((first | refine zqd ?_ ?_ | refine zqn ?_ ?_ | refine zgd ?_ ?_ | refine zgn ?_ ?_ | refine zdd ?_ ?_ | refine zdn ?_ ?_) <;> (intro h; first | (exfalso; omega) | (simp only [h, decide_true, decide_false, not_false_eq_true]) | skip))
    | (refine end_ret [] ?_; simp [go_sem, hkl])
    | (refine (hAA.next (k + 1) (Le.sub4 rfl (by simp [go_sem, hn, eStr])) (by (try dsimp only); omega) ?_))
    | ((fail_if_success with_reducible (refine Owe.mk ?_)); (simp (disch := omega) [go_sem, hkl]))
    | (refine And.intro (by omega) ?_)
    | (refine nbI fun bq => ?_)
    | ((first | refine zqm ?_ ?_ | refine zgm ?_ ?_ | refine zdm ?_ ?_) <;> (intro h; simp only [h, Bool.not_true, Bool.not_false]))
    | ((first | refine zqs ?_ ?_ | refine zgs ?_ ?_ | refine zds ?_ ?_) <;> (intro h; first | (exfalso; simp at h; omega) | ((try simp only [h]); (try simp at h))))
    | fail)
      all_goals (first | omega | skip)
      exact ⟨hkl⟩
    · obtain rfl : k = S.length := by omega
      repeat' (first
    | (refine awp_seqK (fun K hK => ?_))
    | (refine Hide.go (by assumption) ?_)
    | ((first | refine zqd ?_ ?_ | refine zqn ?_ ?_ | refine zgd ?_ ?_ | refine zgn ?_ ?_ | refine zdd ?_ ?_ | refine zdn ?_ ?_) <;> (intro h; first | (exfalso; omega) | (simp only [h, decide_true, decide_false, not_false_eq_true]) | skip))
    | (refine end_ret [] ?_; simp [go_sem])
    | ((fail_if_success with_reducible (refine Owe.mk ?_)); (simp (disch := omega) [go_sem]))
    | (refine And.intro (by omega) ?_)
    | (refine nbI fun bq => ?_)
    | ((first | refine zqm ?_ ?_ | refine zgm ?_ ?_ | refine zdm ?_ ?_) <;> (intro h; simp only [h, Bool.not_true, Bool.not_false]))
    | ((first | refine zqs ?_ ?_ | refine zgs ?_ ?_ | refine zds ?_ ?_) <;> (intro h; first | (exfalso; simp at h; omega) | ((try simp only [h]); (try simp at h))))
    | fail)
end Go.Proofs.Ytldecgghhaoliaa
