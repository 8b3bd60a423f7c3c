/-
  Rate27: players in order, by both; the law RatingOrders.
-/
import Derived.Test.YtfccgdgippmpgaaRate26
import Derived.Test.YtfccgdgippmpgaaRate14
import Derived.Test.YtfccgdgippmpgaaRate20
import Derived.Test.YtfccgdgippmpgaaAwake
namespace Go.Proofs.Ytfccgdgippmpgaa
open Go.Ab
set_option linter.unusedSimpArgs false
set_option maxRecDepth 100000
set_option maxHeartbeats 8000000
theorem Order_ok (l : List Rt) (le fu : Bool) (hc : chk l = 0) : ACall Try.prog 23 [.list le fu (l.map eRt)] (fun r => ∃ O : List Rt, (O.Perm l ∧ SrtOn cfR O 0 l.length) ∧ r = .own 1 ((O.map (·.p)).map (nt .i64))) := by
  obtain ⟨hl16, hrg, hasc⟩ := chk_facts hc
  have hcl := cloneRt_ok l le fu (by omega)
  have hso := srtrSortStable_ok 46 cfR cfR_pre 0 (fun x => rgt x = true) (fun x y hx hy => orderFn_ok x y hx hy) l (fun x hx => List.all_eq_true.1 hrg x hx) (by omega)
  refine acall_of_awp Try.func23 Try.call23 rfl (by simp [Try.ntmps23]) ?_; simp only [Try.ntmps23, Try.results23]
  repeat' (first
    | (refine awp_seqK (fun K hK => ?_))
    | (refine Hide.go (by assumption) ?_)
    | ((first | refine zqd ?_ ?_ | refine zqn ?_ ?_ | refine zgd ?_ ?_ | refine zgn ?_ ?_ | refine zdd ?_ ?_ | refine zdn ?_ ?_) <;> (intro h; first | (exfalso; omega) | (simp only [h, decide_true, decide_false, not_false_eq_true]) | skip))
    | (refine end_ret [] ?_; simp [go_sem])
    | (refine stepK_is rfl (hcl) (by simp) ?_)
    | (refine dstepK_is rfl (hcl) rfl (by simp) ?_)
    | ((fail_if_success with_reducible (refine Owe.mk ?_)); (simp (disch := omega) [go_sem]))
    | (refine And.intro (by omega) ?_)
    | (refine nbI fun bq => ?_)
    | ((first | refine zqm ?_ ?_ | refine zgm ?_ ?_ | refine zdm ?_ ?_) <;> (intro h; simp only [h, Bool.not_true, Bool.not_false]))
    | ((first | refine zqs ?_ ?_ | refine zgs ?_ ?_ | refine zds ?_ ?_) <;> (intro h; first | (exfalso; simp at h; omega) | ((try simp only [h]); (try simp at h))))
    | fail)
  refine stepK_fex [(1000, 8)] [(8, 1000), (1000, 8)] 10000 _ _ (Fits.mk' (by simp [go_sem]) (by simp [go_sem])) (by simp [go_sem]) (by simp [go_sem]) (hso) (by simp [go_sem]) (by intros; simp [go_sem]) ?_; intro O hO
  obtain ⟨hp, hs⟩ := hO
  have hln := hp.length_eq
  have t0 : (O.take 0).map (·.p) = [] := rfl
  repeat' (first
    | (refine awp_seqK (fun K hK => ?_))
    | (refine Hide.go (by assumption) ?_)
    | ((first | refine zqd ?_ ?_ | refine zqn ?_ ?_ | refine zgd ?_ ?_ | refine zgn ?_ ?_ | refine zdd ?_ ?_ | refine zdn ?_ ?_) <;> (intro h; first | (exfalso; omega) | (simp only [h, decide_true, decide_false, not_false_eq_true]) | skip))
    | (refine end_ret [] ?_; simp [go_sem])
    | ((fail_if_success with_reducible (refine Owe.mk ?_)); (simp (disch := omega) [go_sem]))
    | (refine And.intro (by omega) ?_)
    | (refine nbI fun bq => ?_)
    | ((first | refine zqm ?_ ?_ | refine zgm ?_ ?_ | refine zdm ?_ ?_) <;> (intro h; simp only [h, Bool.not_true, Bool.not_false]))
    | ((first | refine zqs ?_ ?_ | refine zgs ?_ ?_ | refine zds ?_ ?_) <;> (intro h; first | (exfalso; simp at h; omega) | ((try simp only [h]); (try simp at h))))
    | fail)
  refine awp_for [11, 12] [900] (fun i : Nat => [(13, nt .i64 i), (4, .ref 900 0 i)]) (fun i : Nat => [(900, ⟨true, false, false, 1, ((O.take i).map (·.p)).map (nt .i64), 0⟩)]) (fun i : Nat => l.length - i) (fun i : Nat => i ≤ l.length) (0) (by refine Le.trans ?_ (Le.nil (i := 4) (T := 900) (es := 1) rfl); exact (Le.sub4 rfl (by simp [go_sem, t0, List.map_nil]))) ⟨?_⟩ ?_
  · exact Nat.zero_le _
  intro i hi AA hAA; simp only [Go.Ab.keepT_nil, Go.Ab.keepT_cons, Go.Ab.dropO_nil, Go.Ab.dropO_cons, List.contains_cons, List.contains_nil, List.elem_cons, List.elem_nil, Nat.reduceBEq, beq_self_eq_true, Nat.reduceEqDiff, Bool.or_false, Bool.false_or, Bool.or_true, Bool.true_or, Bool.false_eq_true, if_true, if_false, List.cons_append, List.nil_append, List.append_nil]
  have hlo : ((O.take i).map (·.p)).length = i := by rw [List.length_map, List.length_take]; omega
  by_cases hlt : i < l.length
  · have hlO : i < O.length := by omega
    have hnx : (O.take (i + 1)).map (·.p) = (O.take i).map (·.p) ++ [O[i].p] := by rw [take_next hlO, List.map_append]; rfl
    generalize (O.take i).map (·.p) = A at *
    repeat' (first
    | (refine awp_seqK (fun K hK => ?_))
    | (refine Hide.go (by assumption) ?_)
    | ((first | refine zqd ?_ ?_ | refine zqn ?_ ?_ | refine zgd ?_ ?_ | refine zgn ?_ ?_ | refine zdd ?_ ?_ | refine zdn ?_ ?_) <;> (intro h; first | (exfalso; omega) | (simp only [h, decide_true, decide_false, not_false_eq_true]) | skip))
    | (refine end_ret [] ?_; simp [go_sem, hlO, eRt, hlo])
    | (refine (hAA.next (i + 1) (Le.sub4 rfl (by simp [go_sem, hnx, hlo])) (by (try dsimp only); omega) ?_))
    | ((fail_if_success with_reducible (refine Owe.mk ?_)); (simp (disch := omega) [go_sem, hlO, eRt, hlo]))
    | (refine And.intro (by omega) ?_)
    | (refine nbI fun bq => ?_)
    | ((first | refine zqm ?_ ?_ | refine zgm ?_ ?_ | refine zdm ?_ ?_) <;> (intro h; simp only [h, Bool.not_true, Bool.not_false]))
    | ((first | refine zqs ?_ ?_ | refine zgs ?_ ?_ | refine zds ?_ ?_) <;> (intro h; first | (exfalso; simp at h; omega) | ((try simp only [h]); (try simp at h))))
    | fail)
    all_goals (first | omega | skip)
    exact ⟨hlt⟩
  · obtain rfl : i = l.length := by omega
    have e : O.take l.length = O := by rw [← hln, List.take_length]
    rw [e] at hlo ⊢
    have hlq : l.length = O.length := hln.symm
    have hs' := hs
    rw [hlq] at hs'
    repeat' (first
    | (refine awp_seqK (fun K hK => ?_))
    | (refine Hide.go (by assumption) ?_)
    | ((first | refine zqd ?_ ?_ | refine zqn ?_ ?_ | refine zgd ?_ ?_ | refine zgn ?_ ?_ | refine zdd ?_ ?_ | refine zdn ?_ ?_) <;> (intro h; first | (exfalso; omega) | (simp only [h, decide_true, decide_false, not_false_eq_true]) | skip))
    | (refine end_ret [] ?_; simp [go_sem, hlq])
    | ((fail_if_success with_reducible (refine Owe.mk ?_)); (simp (disch := omega) [go_sem, hlq]))
    | (refine And.intro (by omega) ?_)
    | (refine nbI fun bq => ?_)
    | ((first | refine zqm ?_ ?_ | refine zgm ?_ ?_ | refine zdm ?_ ?_) <;> (intro h; simp only [h, Bool.not_true, Bool.not_false]))
    | ((first | refine zqs ?_ ?_ | refine zgs ?_ ?_ | refine zds ?_ ?_) <;> (intro h; first | (exfalso; simp at h; omega) | ((try simp only [h]); (try simp at h))))
    | fail)
    exact ⟨O, ⟨hp, hs'⟩, rfl⟩
/-- The row while it grows; behind that, the players that are in place. -/
def gr (l : List Rt) (i j : Nat) : List Int := if i = 0 then List.replicate j 0 else outs l i
theorem gr_full (l : List Rt) (i : Nat) : gr l i l.length = outs l i := by
  unfold gr; split
  · rename_i h; subst h; rfl
  · rfl
theorem gr_zero (l : List Rt) : gr l 0 0 = [] := rfl
theorem gr_next (l : List Rt) (j : Nat) : gr l 0 (j + 1) = gr l 0 j ++ [0] := by
  show List.replicate (j + 1) 0 = List.replicate j 0 ++ [0]
  rw [List.replicate_succ']
theorem gr_succ (l : List Rt) (i j : Nat) : gr l (i + 1) j = outs l (i + 1) := rfl
theorem refOrder_ok (l O : List Rt) (le fu : Bool) (hl : ∀ r ∈ l, r.ok) (hc : chk l = 0) (hp : O.Perm l) (hs : SrtOn cfR O 0 l.length) : ACall Try.prog 24 [.list le fu (l.map eRt)] (fun r => r = .own 1 ((O.map (·.p)).map (nt .i64))) := by
  obtain ⟨hl16, hrg, hasc⟩ := chk_facts hc
  have hall := outs_all hasc hp hs
  have hpl := fun (i : Nat) (h : i < l.length) => (place_lt hasc hp hs (List.getElem_mem h)).1
  generalize O.map (·.p) = A at *
  clear hp hs
  have hcr : ∀ (i : Nat) (h : i < l.length), ACall Try.prog 40 [.agg [nt .i64 l[i].n, nt .i64 l[i].d]] (fun r => r = .tup [nt .i64 l[i].c, bl (cts l[i].n l[i].d).2]) := fun i h => refcents_ok _ _ (hl _ (List.getElem_mem h)).n (hl _ (List.getElem_mem h)).d
  have gz := gr_zero l
  refine acall_of_awp Try.func24 Try.call24 rfl (by simp [Try.ntmps24]) ?_; simp only [Try.ntmps24, Try.results24]
  repeat' (first
    | (refine awp_seqK (fun K hK => ?_))
    | (refine Hide.go (by assumption) ?_)
    | ((first | refine zqd ?_ ?_ | refine zqn ?_ ?_ | refine zgd ?_ ?_ | refine zgn ?_ ?_ | refine zdd ?_ ?_ | refine zdn ?_ ?_) <;> (intro h; first | (exfalso; omega) | (simp only [h, decide_true, decide_false, not_false_eq_true]) | skip))
    | (refine end_ret [] ?_; simp [go_sem])
    | ((fail_if_success with_reducible (refine Owe.mk ?_)); (simp (disch := omega) [go_sem]))
    | (refine And.intro (by omega) ?_)
    | (refine awp_draw 21 mix (by decide +kernel) ?_)
    | (refine nbI fun bq => ?_)
    | ((first | refine zqm ?_ ?_ | refine zgm ?_ ?_ | refine zdm ?_ ?_) <;> (intro h; simp only [h, Bool.not_true, Bool.not_false]))
    | ((first | refine zqs ?_ ?_ | refine zgs ?_ ?_ | refine zds ?_ ?_) <;> (intro h; first | (exfalso; simp at h; omega) | ((try simp only [h]); (try simp at h))))
    | fail)
  refine awp_for [0, 12] [900] (fun i : Nat => [(13, nt .i64 i), (3, .ref 900 0 (gr l i (if i = 0 then 0 else l.length)).length)]) (fun i : Nat => [(900, ⟨true, false, false, 1, (gr l i (if i = 0 then 0 else l.length)).map (nt .i64), 0⟩)]) (fun i : Nat => l.length - i) (fun i : Nat => i ≤ l.length) (0) (by refine Le.trans ?_ (Le.nil (i := 3) (T := 900) (es := 1) rfl); exact (Le.sub4 rfl (by simp [go_sem, gz, List.map_nil]))) ⟨?_⟩ ?_
  · exact Nat.zero_le _
  intro i hi AA hAA; simp only [Go.Ab.keepT_nil, Go.Ab.keepT_cons, Go.Ab.dropO_nil, Go.Ab.dropO_cons, List.contains_cons, List.contains_nil, List.elem_cons, List.elem_nil, Nat.reduceBEq, beq_self_eq_true, Nat.reduceEqDiff, Bool.or_false, Bool.false_or, Bool.or_true, Bool.true_or, Bool.false_eq_true, if_true, if_false, List.cons_append, List.nil_append, List.append_nil]
  generalize hG : gr l i (if i = 0 then 0 else l.length) = G at *
  by_cases hlt : i < l.length
  · have hAB := hAA
    have hci := hcr i hlt
    have c0 := cnt_zero l l[i]
    repeat' (first
    | (refine awp_seqK (fun K hK => ?_))
    | (refine Hide.go (by assumption) ?_)
    | ((first | refine zqd ?_ ?_ | refine zqn ?_ ?_ | refine zgd ?_ ?_ | refine zgn ?_ ?_ | refine zdd ?_ ?_ | refine zdn ?_ ?_) <;> (intro h; first | (exfalso; omega) | (simp only [h, decide_true, decide_false, not_false_eq_true]) | skip))
    | (refine end_ret [] ?_; simp [go_sem, hlt, eRt])
    | (refine stepK_is rfl (hci) (by simp) ?_)
    | (refine dstepK_is rfl (hci) rfl (by simp) ?_)
    | ((fail_if_success with_reducible (refine Owe.mk ?_)); (simp (disch := omega) [go_sem, hlt, eRt]))
    | (refine And.intro (by omega) ?_)
    | (refine awp_draw 21 mix (by decide +kernel) ?_)
    | (refine nbI fun bq => ?_)
    | ((first | refine zqm ?_ ?_ | refine zgm ?_ ?_ | refine zdm ?_ ?_) <;> (intro h; simp only [h, Bool.not_true, Bool.not_false]))
    | ((first | refine zqs ?_ ?_ | refine zgs ?_ ?_ | refine zds ?_ ?_) <;> (intro h; first | (exfalso; simp at h; omega) | ((try simp only [h]); (try simp at h))))
    | fail)
    refine awp_for [0, 3, 4, 5, 12, 13, 26] [] (fun k : Nat => [(27, nt .i64 k), (7, nt .i64 (cnt l l[i] k))]) (fun k : Nat => []) (fun k : Nat => l.length - k) (fun k : Nat => k ≤ l.length) (0) (Le.sub4 rfl (by simp [go_sem, c0])) ⟨?_⟩ ?_
    · exact Nat.zero_le _
    intro k hk AA hAA; simp only [Go.Ab.keepT_nil, Go.Ab.keepT_cons, Go.Ab.dropO_nil, Go.Ab.dropO_cons, List.contains_cons, List.contains_nil, List.elem_cons, List.elem_nil, Nat.reduceBEq, beq_self_eq_true, Nat.reduceEqDiff, Bool.or_false, Bool.false_or, Bool.or_true, Bool.true_or, Bool.false_eq_true, if_true, if_false, List.cons_append, List.nil_append, List.append_nil]
    have hcl := cnt_le l l[i] k
    by_cases hlk : k < l.length
    · have hck := hcr k hlk
      have hcn := cnt_next (r := l[i]) hlk
      by_cases hq : cfR l[k] l[i] < 0
      · rw [if_pos hq] at hcn
        unfold cfR ord at hq
        generalize l[k].c = m at *
        generalize l[i].c = n at *
        repeat' (first
    | (refine awp_seqK (fun K hK => ?_))
    | (refine Hide.go (by assumption) ?_)
    | ((first | refine zqd ?_ ?_ | refine zqn ?_ ?_ | refine zgd ?_ ?_ | refine zgn ?_ ?_ | refine zdd ?_ ?_ | refine zdn ?_ ?_) <;> (intro h; first | (exfalso; omega) | (simp only [h, decide_true, decide_false, not_false_eq_true]) | skip))
    | (refine end_ret [] ?_; simp [go_sem, hlk, hlt, eRt])
    | (refine stepK_is rfl (hck) (by simp) ?_)
    | (refine dstepK_is rfl (hck) rfl (by simp) ?_)
    | (refine (hAA.next (k + 1) (Le.sub4 rfl (by simp [go_sem, hcn])) (by (try dsimp only); omega) ?_))
    | ((fail_if_success with_reducible (refine Owe.mk ?_)); (simp (disch := omega) [go_sem, hlk, hlt, eRt]))
    | (refine And.intro (by omega) ?_)
    | (refine awp_draw 21 mix (by decide +kernel) ?_)
    | (refine nbI fun bq => ?_)
    | ((first | refine zqm ?_ ?_ | refine zgm ?_ ?_ | refine zdm ?_ ?_) <;> (intro h; simp only [h, Bool.not_true, Bool.not_false]))
    | ((first | refine zqs ?_ ?_ | refine zgs ?_ ?_ | refine zds ?_ ?_) <;> (intro h; first | (exfalso; simp at h; omega) | ((try simp only [h]); (try simp at h))))
    | fail)
        all_goals (first | omega | skip)
        all_goals (first | exact ⟨hlk⟩ | (exfalso; (repeat' split at hq) <;> omega) | skip)
      · rw [if_neg hq] at hcn
        unfold cfR ord at hq
        generalize l[k].c = m at *
        generalize l[i].c = n at *
        repeat' (first
    | (refine awp_seqK (fun K hK => ?_))
    | (refine Hide.go (by assumption) ?_)
    | ((first | refine zqd ?_ ?_ | refine zqn ?_ ?_ | refine zgd ?_ ?_ | refine zgn ?_ ?_ | refine zdd ?_ ?_ | refine zdn ?_ ?_) <;> (intro h; first | (exfalso; omega) | (simp only [h, decide_true, decide_false, not_false_eq_true]) | skip))
    | (refine end_ret [] ?_; simp [go_sem, hlk, hlt, eRt])
    | (refine stepK_is rfl (hck) (by simp) ?_)
    | (refine dstepK_is rfl (hck) rfl (by simp) ?_)
    | (refine (hAA.next (k + 1) (Le.sub4 rfl (by simp [go_sem, hcn])) (by (try dsimp only); omega) ?_))
    | ((fail_if_success with_reducible (refine Owe.mk ?_)); (simp (disch := omega) [go_sem, hlk, hlt, eRt]))
    | (refine And.intro (by omega) ?_)
    | (refine awp_draw 21 mix (by decide +kernel) ?_)
    | (refine nbI fun bq => ?_)
    | ((first | refine zqm ?_ ?_ | refine zgm ?_ ?_ | refine zdm ?_ ?_) <;> (intro h; simp only [h, Bool.not_true, Bool.not_false]))
    | ((first | refine zqs ?_ ?_ | refine zgs ?_ ?_ | refine zds ?_ ?_) <;> (intro h; first | (exfalso; simp at h; omega) | ((try simp only [h]); (try simp at h))))
    | fail)
        all_goals (first | omega | skip)
        all_goals (first | exact ⟨hlk⟩ | (exfalso; (repeat' split at hq) <;> omega) | skip)
    · obtain rfl : k = l.length := by omega
      have hpi : cnt l l[i] l.length < l.length := hpl i hlt
      have hpe : cnt l l[i] l.length = place l l[i] := rfl
      rw [hpe] at *
      clear hAA
      repeat' (first
    | (refine awp_seqK (fun K hK => ?_))
    | (refine Hide.go (by assumption) ?_)
    | ((first | refine zqd ?_ ?_ | refine zqn ?_ ?_ | refine zgd ?_ ?_ | refine zgn ?_ ?_ | refine zdd ?_ ?_ | refine zdn ?_ ?_) <;> (intro h; first | (exfalso; omega) | (simp only [h, decide_true, decide_false, not_false_eq_true]) | skip))
    | (refine end_ret [] ?_; simp [go_sem])
    | ((fail_if_success with_reducible (refine Owe.mk ?_)); (simp (disch := omega) [go_sem]))
    | (refine And.intro (by omega) ?_)
    | (refine awp_draw 21 mix (by decide +kernel) ?_)
    | (refine nbI fun bq => ?_)
    | ((first | refine zqm ?_ ?_ | refine zgm ?_ ?_ | refine zdm ?_ ?_) <;> (intro h; simp only [h, Bool.not_true, Bool.not_false]))
    | ((first | refine zqs ?_ ?_ | refine zgs ?_ ?_ | refine zds ?_ ?_) <;> (intro h; first | (exfalso; simp at h; omega) | ((try simp only [h]); (try simp at h))))
    | fail)
      refine awp_for [0, 4, 7, 12, 13] [900] (fun j : Nat => [(3, .ref 900 0 (gr l i j).length)]) (fun j : Nat => [(900, ⟨true, false, false, 1, (gr l i j).map (nt .i64), 0⟩)]) (fun j : Nat => l.length - (gr l i j).length) (fun j : Nat => (gr l i j).length = j ∧ j ≤ l.length) (if i = 0 then 0 else l.length) (Le.sub4 rfl (by simp [go_sem, hG])) ⟨?_⟩ ?_
      · refine ⟨?_, by split <;> omega⟩
        by_cases h0 : i = 0
        · simp [gr, h0]
        · simp [gr, h0, outs_len]
      intro j ⟨hgl, hj⟩ AA hAA; simp only [Go.Ab.keepT_nil, Go.Ab.keepT_cons, Go.Ab.dropO_nil, Go.Ab.dropO_cons, List.contains_cons, List.contains_nil, List.elem_cons, List.elem_nil, Nat.reduceBEq, beq_self_eq_true, Nat.reduceEqDiff, Bool.or_false, Bool.false_or, Bool.or_true, Bool.true_or, Bool.false_eq_true, if_true, if_false, List.cons_append, List.nil_append, List.append_nil]
      by_cases hjl : j < l.length
      · have hi0 : i = 0 := Classical.byContradiction fun h => by
          unfold gr at hgl
          rw [if_neg h, outs_len] at hgl
          omega
        subst hi0
        have hgn := gr_next l j
        have hgl2 : (gr l 0 (j + 1)).length = j + 1 := by rw [hgn, List.length_append, hgl]; rfl
        repeat' (first
    | (refine awp_seqK (fun K hK => ?_))
    | (refine Hide.go (by assumption) ?_)
    | ((first | refine zqd ?_ ?_ | refine zqn ?_ ?_ | refine zgd ?_ ?_ | refine zgn ?_ ?_ | refine zdd ?_ ?_ | refine zdn ?_ ?_) <;> (intro h; first | (exfalso; omega) | (simp only [h, decide_true, decide_false, not_false_eq_true]) | skip))
    | (refine end_ret [] ?_; simp [go_sem, hgl])
    | (refine (hAA.next (j + 1) (Le.sub4 rfl (by simp [go_sem, hgn, hgl, hgl2])) (by (try dsimp only); omega) ?_))
    | ((fail_if_success with_reducible (refine Owe.mk ?_)); (simp (disch := omega) [go_sem, hgl]))
    | (refine And.intro (by omega) ?_)
    | (refine awp_draw 21 mix (by decide +kernel) ?_)
    | (refine nbI fun bq => ?_)
    | ((first | refine zqm ?_ ?_ | refine zgm ?_ ?_ | refine zdm ?_ ?_) <;> (intro h; simp only [h, Bool.not_true, Bool.not_false]))
    | ((first | refine zqs ?_ ?_ | refine zgs ?_ ?_ | refine zds ?_ ?_) <;> (intro h; first | (exfalso; simp at h; omega) | ((try simp only [h]); (try simp at h))))
    | fail)
        all_goals (first | omega | skip)
        exact ⟨⟨hgl2, hjl⟩⟩
      · obtain rfl : j = l.length := by omega
        have hgf := gr_full l i
        rw [hgf] at hgl ⊢
        have hon := outs_next hlt
        have hgs : gr l (i + 1) l.length = outs l (i + 1) := gr_succ l i _
        have hol := outs_len l (i + 1)
        have hpo : place l l[i] < (outs l i).length := by rw [hgl]; exact hpi
        repeat' (first
    | (refine awp_seqK (fun K hK => ?_))
    | (refine Hide.go (by assumption) ?_)
    | ((first | refine zqd ?_ ?_ | refine zqn ?_ ?_ | refine zgd ?_ ?_ | refine zgn ?_ ?_ | refine zdd ?_ ?_ | refine zdn ?_ ?_) <;> (intro h; first | (exfalso; omega) | (simp only [h, decide_true, decide_false, not_false_eq_true]) | skip))
    | (refine end_ret [] ?_; simp [go_sem, hgl, hlt, eRt, hpo])
    | (refine (hAB.next (i + 1) (Le.sub4 rfl (by simp [go_sem, hgs, hon, hol, hgl, set_nt, -List.map_set])) (by (try dsimp only); omega) ?_))
    | ((fail_if_success with_reducible (refine Owe.mk ?_)); (simp (disch := omega) [go_sem, hgl, hlt, eRt, hpo]))
    | (refine And.intro (by omega) ?_)
    | (refine awp_draw 21 mix (by decide +kernel) ?_)
    | (refine nbI fun bq => ?_)
    | ((first | refine zqm ?_ ?_ | refine zgm ?_ ?_ | refine zdm ?_ ?_) <;> (intro h; simp only [h, Bool.not_true, Bool.not_false]))
    | ((first | refine zqs ?_ ?_ | refine zgs ?_ ?_ | refine zds ?_ ?_) <;> (intro h; first | (exfalso; simp at h; omega) | ((try simp only [h]); (try simp at h))))
    | fail)
        all_goals (first | omega | skip)
        exact ⟨hlt⟩
  · obtain rfl : i = l.length := by omega
    have e : G = outs l l.length := by
      rw [← hG]
      by_cases h0 : l.length = 0
      · simp [gr, h0, outs]
      · simp [gr, h0]
    rw [e, hall]
    repeat' (first
    | (refine awp_seqK (fun K hK => ?_))
    | (refine Hide.go (by assumption) ?_)
    | ((first | refine zqd ?_ ?_ | refine zqn ?_ ?_ | refine zgd ?_ ?_ | refine zgn ?_ ?_ | refine zdd ?_ ?_ | refine zdn ?_ ?_) <;> (intro h; first | (exfalso; omega) | (simp only [h, decide_true, decide_false, not_false_eq_true]) | skip))
    | (refine end_ret [] ?_; simp [go_sem])
    | ((fail_if_success with_reducible (refine Owe.mk ?_)); (simp (disch := omega) [go_sem]))
    | (refine And.intro (by omega) ?_)
    | (refine awp_draw 21 mix (by decide +kernel) ?_)
    | (refine nbI fun bq => ?_)
    | ((first | refine zqm ?_ ?_ | refine zgm ?_ ?_ | refine zdm ?_ ?_) <;> (intro h; simp only [h, Bool.not_true, Bool.not_false]))
    | ((first | refine zqs ?_ ?_ | refine zgs ?_ ?_ | refine zds ?_ ?_) <;> (intro h; first | (exfalso; simp at h; omega) | ((try simp only [h]); (try simp at h))))
    | fail)
end Go.Proofs.Ytfccgdgippmpgaa
