/-
  Rate12: Update, the match itself.
-/
import Derived.Test.YtfccgdgippmpgaaRate11
namespace Go.Proofs.Ytfccgdgippmpgaa
open Go.Ab
set_option linter.unusedSimpArgs false
set_option maxRecDepth 100000
set_option maxHeartbeats 8000000
theorem eRt_len (r : Rt) : (eRt r).cells.length = 4 := rfl
theorem fnd_false {l : List Rt} {s : List Sc} {i : Nat} (h : i < s.length) (hp : ¬ pos l s[i].p < l.length) : fndB l s = false := by
  unfold fndB
  rw [List.all_eq_false]
  exact ⟨s[i], List.getElem_mem h, by simpa using hp⟩
theorem pos_ne {l : List Rt} {s : List Sc} (hd : (s.map (·.p)).Nodup) (hf : ∀ x ∈ s, pos l x.p < l.length) {i j : Nat} (hi : i < s.length) (hj : j < s.length) (hij : i ≠ j) : pos l s[i].p ≠ pos l s[j].p := by
  intro h
  have h1 := pos_spec (hf _ (List.getElem_mem hi))
  have h2 := pos_spec (hf _ (List.getElem_mem hj))
  have h3 : s[i].p = s[j].p := by
    rw [← h1, ← h2]
    congr 2
  have hp := List.pairwise_iff_getElem.1 hd
  rcases Nat.lt_or_gt_of_ne hij with hlt | hlt
  · exact hp i j (by simpa using hi) (by simpa using hj) hlt (by simpa using h3)
  · exact hp j i (by simpa using hj) (by simpa using hi) hlt (by simpa using h3.symm)
theorem stp_eq {s : List Sc} {l : List Rt} {i j : Nat} {B V : List Int} (hi : i < s.length) (hj : j < s.length) (hV : V = l.map Rt.c) (hBl : B.length = V.length) (h1 : pos l s[i].p < V.length) (h2 : pos l s[j].p < V.length) (h3 : pos l s[i].p < B.length) (h4 : pos l s[j].p < B.length) :
    stp s l i j B = (B.set (pos l s[i].p) (B[pos l s[i].p] + tr (cts s[i].n s[i].d).1 (cts s[j].n s[j].d).1 V[pos l s[i].p] V[pos l s[j].p] s.length)).set (pos l s[j].p) (B[pos l s[j].p] - tr (cts s[i].n s[i].d).1 (cts s[j].n s[j].d).1 V[pos l s[i].p] V[pos l s[j].p] s.length) := by
  unfold stp
  rw [List.getElem?_eq_getElem hi, List.getElem?_eq_getElem hj]
  dsimp only
  subst hV
  simp only [List.getD_eq_getElem?_getD, List.getElem?_eq_getElem h1, List.getElem?_eq_getElem h2, List.getElem?_eq_getElem h3, List.getElem?_eq_getElem h4, Option.getD_some, Sc.c]
theorem Update_ok (l : List Rt) (s : List Sc) (le fu le' fu' : Bool) (hl : ∀ r ∈ l, r.ok) (hs : ∀ x ∈ s, x.ok) : ACall Try.prog 12 [.list le fu (l.map eRt), .list le' fu' (s.map eSc)] (fun r => r = updV (upd l s)) := by
  by_cases hE : chk l ≠ 0 ∨ scB s = false
  · exact UpdateErr_ok l s le fu le' fu' hl hs hE
  have hc0 : chk l = 0 := Classical.byContradiction fun h => hE (.inl h)
  have hs0 : scB s = true := by
    cases h : scB s with
    | true => rfl
    | false => exact absurd (.inr h) hE
  obtain ⟨hl16, hrg, hasc⟩ := chk_facts hc0
  obtain ⟨hn2, hn4, hpt, hnd⟩ := scB_facts hs0
  have h1 := Check_ok l le fu hl
  have h2 := scored_ok s le' fu' hs
  have hbs := fun p => BSp_ok l hasc le fu p
  rw [hc0] at h1
  rw [hs0] at h2
  generalize hR : updV (upd l s) = R
  unfold upd at hR
  simp only [hc0, hs0, ne_eq, not_true_eq_false, if_false, Bool.true_eq_false] at hR
  obtain ⟨pl, hpl⟩ : ∃ pl : List Int, pl = s.map (fun x => (pos l x.p : Int)) := ⟨_, rfl⟩
  have hpll : pl.length = s.length := by rw [hpl, List.length_map]
  have hplg : ∀ (i : Nat) (h : i < s.length) (h' : i < pl.length), pl[i] = (pos l s[i].p : Int) := fun i h h' => by subst hpl; simp
  refine acall_of_awp Try.func12 Try.call12 rfl (by simp [Try.ntmps12]) ?_; simp only [Try.ntmps12, Try.results12]
  repeat' (first
    | (refine awp_seqK (fun K hK => ?_))
    | (refine Hide.go (by assumption) ?_)
    | ((first | refine zqd ?_ ?_ | refine zqn ?_ ?_ | refine zgd ?_ ?_ | refine zgn ?_ ?_ | refine zdd ?_ ?_ | refine zdn ?_ ?_) <;> (intro h; first | (exfalso; omega) | (simp only [h, decide_true, decide_false, not_false_eq_true]) | skip))
    | (refine end_ret [] ?_; simp [go_sem])
    | (refine stepK_is rfl (h1) (by simp) ?_)
    | (refine dstepK_is rfl (h1) rfl (by simp) ?_)
    | (refine stepK_is rfl (h2) (by simp) ?_)
    | (refine dstepK_is rfl (h2) rfl (by simp) ?_)
    | ((fail_if_success with_reducible (refine Owe.mk ?_)); (simp (disch := omega) [go_sem]))
    | (refine And.intro (by omega) ?_)
    | (refine awp_draw 20 mix (by decide +kernel) ?_)
    | (refine nbI fun bq => ?_)
    | ((first | refine zqm ?_ ?_ | refine zgm ?_ ?_ | refine zdm ?_ ?_) <;> (intro h; simp only [h, Bool.not_true, Bool.not_false]))
    | ((first | refine zqs ?_ ?_ | refine zgs ?_ ?_ | refine zds ?_ ?_) <;> (intro h; first | (exfalso; simp at h; omega) | ((try simp only [h]); (try simp at h))))
    | fail)
  all_goals (first | omega | skip)
  refine awp_for [0, 1, 7, 37, 38] [36] (fun i : Nat => [(39, nt .i64 i)]) (fun i : Nat => [(36, ⟨true, false, false, 1, (filled pl 0 i).map (nt .i64), 0⟩)]) (fun i : Nat => s.length - i) (fun i : Nat => i ≤ s.length ∧ ∀ (k : Nat) (h : k < s.length), k < i → pos l s[k].p < l.length) (0) (Le.sub4 rfl (by simp [go_sem, filled_zero, hpll, List.map_replicate])) ⟨?_⟩ ?_
  · exact ⟨Nat.zero_le _, fun k h hk => absurd hk (Nat.not_lt_zero _)⟩
  intro i ⟨hi, hfd⟩ AA hAA; simp only [Go.Ab.keepT_nil, Go.Ab.keepT_cons, Go.Ab.dropO_nil, Go.Ab.dropO_cons, List.contains_cons, List.contains_nil, List.elem_cons, List.elem_nil, Nat.reduceBEq, beq_self_eq_true, Nat.reduceEqDiff, Bool.or_false, Bool.false_or, Bool.or_true, Bool.true_or, Bool.false_eq_true, if_true, if_false, List.cons_append, List.nil_append, List.append_nil]
  have hfl := filled_len pl 0 (i := i) (by omega)
  by_cases hlt : i < s.length
  · have hu := hbs s[i].p
    by_cases hf : pos l s[i].p < l.length
    · have hcu := (cut_found hasc s[i].p).2 hf
      rw [hcu] at hu
      have hfn := filled_next (l := pl) (z := 0) (i := i) (by omega)
      rw [hplg i hlt (by omega)] at hfn
      have hfi : i < (filled pl 0 i).length := by omega
      repeat' (first
    | (refine awp_seqK (fun K hK => ?_))
    | (refine Hide.go (by assumption) ?_)
    | ((first | refine zqd ?_ ?_ | refine zqn ?_ ?_ | refine zgd ?_ ?_ | refine zgn ?_ ?_ | refine zdd ?_ ?_ | refine zdn ?_ ?_) <;> (intro h; first | (exfalso; omega) | (simp only [h, decide_true, decide_false, not_false_eq_true]) | skip))
    | (refine end_ret [] ?_; simp [go_sem, hlt, eSc, hf, hfi])
    | (refine stepK_is rfl (hu) (by simp) ?_)
    | (refine dstepK_is rfl (hu) rfl (by simp) ?_)
    | (refine (hAA.next (i + 1) (Le.sub4 rfl (by simp [go_sem, hfn, set_nt, -List.map_set])) (by (try dsimp only); omega) ?_))
    | ((fail_if_success with_reducible (refine Owe.mk ?_)); (simp (disch := omega) [go_sem, hlt, eSc, hf, hfi]))
    | (refine And.intro (by omega) ?_)
    | (refine awp_draw 20 mix (by decide +kernel) ?_)
    | (refine nbI fun bq => ?_)
    | ((first | refine zqm ?_ ?_ | refine zgm ?_ ?_ | refine zdm ?_ ?_) <;> (intro h; simp only [h, Bool.not_true, Bool.not_false]))
    | ((first | refine zqs ?_ ?_ | refine zgs ?_ ?_ | refine zds ?_ ?_) <;> (intro h; first | (exfalso; simp at h; omega) | ((try simp only [h]); (try simp at h))))
    | fail)
      all_goals (first | omega | skip)
      exact ⟨⟨hlt, fun k h hk => by
        by_cases e : k = i
        · subst e; exact hf
        · exact hfd k h (by omega)⟩⟩
    · have hff := fnd_false hlt hf
      rw [hff] at hR
      simp [updV] at hR
      subst hR
      repeat' (first
    | (refine awp_seqK (fun K hK => ?_))
    | (refine Hide.go (by assumption) ?_)
    | ((first | refine zqd ?_ ?_ | refine zqn ?_ ?_ | refine zgd ?_ ?_ | refine zgn ?_ ?_ | refine zdd ?_ ?_ | refine zdn ?_ ?_) <;> (intro h; first | (exfalso; omega) | (simp only [h, decide_true, decide_false, not_false_eq_true]) | skip))
    | (refine end_ret [] ?_; simp [go_sem, hlt, eSc, hf])
    | (refine stepK_is rfl (hu) (by simp) ?_)
    | (refine dstepK_is rfl (hu) rfl (by simp) ?_)
    | ((fail_if_success with_reducible (refine Owe.mk ?_)); (simp (disch := omega) [go_sem, hlt, eSc, hf]))
    | (refine And.intro (by omega) ?_)
    | (refine awp_draw 20 mix (by decide +kernel) ?_)
    | (refine nbI fun bq => ?_)
    | ((first | refine zqm ?_ ?_ | refine zgm ?_ ?_ | refine zdm ?_ ?_) <;> (intro h; simp only [h, Bool.not_true, Bool.not_false]))
    | ((first | refine zqs ?_ ?_ | refine zgs ?_ ?_ | refine zds ?_ ?_) <;> (intro h; first | (exfalso; simp at h; omega) | ((try simp only [h]); (try simp at h))))
    | fail)
  · obtain rfl : i = s.length := by omega
    have hfd : ∀ x ∈ s, pos l x.p < l.length := fun x hx => by
      obtain ⟨k, hk⟩ := List.getElem?_of_mem hx
      obtain ⟨hkl, rfl⟩ := List.getElem?_eq_some_iff.1 hk
      exact hfd k hkl hkl
    have hfb : fndB l s = true := by
      unfold fndB
      rw [List.all_eq_true]
      exact fun x hx => decide_eq_true (hfd x hx)
    simp only [hfb, Bool.true_eq_false, if_false] at hR
    have e0 : filled pl 0 s.length = pl := by rw [← hpll]; exact filled_all pl 0
    rw [e0]
    clear hfl e0
    have hcp : splice (List.replicate l.length (AV.agg [nt .i64 0, nt .i64 0, nt .i64 0, nt .i64 0])) (l.map eRt) 0 = l.map eRt := by
      unfold splice; simp
    obtain ⟨V, hV⟩ : ∃ V : List Int, V = l.map Rt.c := ⟨_, rfl⟩
    have hvl : V.length = l.length := by rw [hV, List.length_map]
    have hVg : ∀ (k : Nat) (h : k < l.length) (h' : k < V.length), V[k] = l[k].c := fun k h h' => by subst hV; simp
    have hAv : Bd V 0 := by rw [hV]; exact vals_bd hrg
    have hl0 : l ≠ [] := by
      intro h
      have h3 := hfd s[0] (List.getElem_mem (by omega))
      rw [h] at h3
      simp at h3
    repeat' (first
    | (refine awp_seqK (fun K hK => ?_))
    | (refine Hide.go (by assumption) ?_)
    | ((first | refine zqd ?_ ?_ | refine zqn ?_ ?_ | refine zgd ?_ ?_ | refine zgn ?_ ?_ | refine zdd ?_ ?_ | refine zdn ?_ ?_) <;> (intro h; first | (exfalso; omega) | (simp only [h, decide_true, decide_false, not_false_eq_true]) | skip))
    | (refine end_ret [] ?_; simp [go_sem, hcp, eRt_len])
    | ((fail_if_success with_reducible (refine Owe.mk ?_)); (simp (disch := omega) [go_sem, hcp, eRt_len]))
    | (refine And.intro (by omega) ?_)
    | (refine awp_draw 20 mix (by decide +kernel) ?_)
    | (refine nbI fun bq => ?_)
    | ((first | refine zqm ?_ ?_ | refine zgm ?_ ?_ | refine zdm ?_ ?_) <;> (intro h; simp only [h, Bool.not_true, Bool.not_false]))
    | ((first | refine zqs ?_ ?_ | refine zgs ?_ ?_ | refine zds ?_ ?_) <;> (intro h; first | (exfalso; simp at h; omega) | ((try simp only [h]); (try simp at h))))
    | fail)
    all_goals (first | omega | skip)
    refine awp_for [1, 7, 12, 13, 67, 68] [66, 60] (fun i : Nat => [(69, nt .i64 i)]) (fun i : Nat => [(66, ⟨true, false, false, 1, (filled V 0 i).map (nt .i64), 0⟩), (60, ⟨true, false, false, 4, l.map eRt, 0⟩)]) (fun i : Nat => l.length - i) (fun i : Nat => i ≤ l.length) (0) (Le.sub4 rfl (by simp [go_sem, filled_zero, hvl, List.map_replicate])) ⟨?_⟩ ?_
    · exact Nat.zero_le _
    intro i hi AA hAA; simp only [Go.Ab.keepT_nil, Go.Ab.keepT_cons, Go.Ab.dropO_nil, Go.Ab.dropO_cons, List.contains_cons, List.contains_nil, List.elem_cons, List.elem_nil, Nat.reduceBEq, beq_self_eq_true, Nat.reduceEqDiff, Bool.or_false, Bool.false_or, Bool.or_true, Bool.true_or, Bool.false_eq_true, if_true, if_false, List.cons_append, List.nil_append, List.append_nil]
    have hfl := filled_len V 0 (i := i) (by omega)
    by_cases hlt : i < l.length
    · have hok := hl l[i] (List.getElem_mem hlt)
      have hu : ACall Try.prog 32 [.agg [nt .i64 l[i].n, nt .i64 l[i].d]] (fun r => r = .tup [nt .i64 l[i].c, bl (cts l[i].n l[i].d).2]) := cents_ok l[i].n l[i].d hok.n hok.d
      have hfn := filled_next (l := V) (z := 0) (i := i) (by omega)
      rw [hVg i hlt (by omega)] at hfn
      have hfi : i < (filled V 0 i).length := by omega
      repeat' (first
    | (refine awp_seqK (fun K hK => ?_))
    | (refine Hide.go (by assumption) ?_)
    | ((first | refine zqd ?_ ?_ | refine zqn ?_ ?_ | refine zgd ?_ ?_ | refine zgn ?_ ?_ | refine zdd ?_ ?_ | refine zdn ?_ ?_) <;> (intro h; first | (exfalso; omega) | (simp only [h, decide_true, decide_false, not_false_eq_true]) | skip))
    | (refine end_ret [] ?_; simp [go_sem, hlt, eRt, hfi])
    | (refine stepK_is rfl (hu) (by simp) ?_)
    | (refine dstepK_is rfl (hu) rfl (by simp) ?_)
    | (refine (hAA.next (i + 1) (Le.sub4 rfl (by simp [go_sem, hfn, set_nt, -List.map_set])) (by (try dsimp only); omega) ?_))
    | ((fail_if_success with_reducible (refine Owe.mk ?_)); (simp (disch := omega) [go_sem, hlt, eRt, hfi]))
    | (refine And.intro (by omega) ?_)
    | (refine awp_draw 20 mix (by decide +kernel) ?_)
    | (refine nbI fun bq => ?_)
    | ((first | refine zqm ?_ ?_ | refine zgm ?_ ?_ | refine zdm ?_ ?_) <;> (intro h; simp only [h, Bool.not_true, Bool.not_false]))
    | ((first | refine zqs ?_ ?_ | refine zgs ?_ ?_ | refine zds ?_ ?_) <;> (intro h; first | (exfalso; simp at h; omega) | ((try simp only [h]); (try simp at h))))
    | fail)
      all_goals (first | omega | skip)
      exact ⟨hlt⟩
    · obtain rfl : i = l.length := by omega
      have e1 : filled V 0 l.length = V := by rw [← hvl]; exact filled_all _ 0
      rw [e1]
      clear hfl e1
      have hcl := cloneInt_ok V true false (fun h => hl0 (List.eq_nil_of_length_eq_zero (by rw [← hvl, h]; rfl))) (by omega)
      have h00 : outr s l 0 = V := hV.symm
      have hi0 : ∀ i A, inn s l i A 0 = A := fun _ _ => rfl
      repeat' (first
    | (refine awp_seqK (fun K hK => ?_))
    | (refine Hide.go (by assumption) ?_)
    | ((first | refine zqd ?_ ?_ | refine zqn ?_ ?_ | refine zgd ?_ ?_ | refine zgn ?_ ?_ | refine zdd ?_ ?_ | refine zdn ?_ ?_) <;> (intro h; first | (exfalso; omega) | (simp only [h, decide_true, decide_false, not_false_eq_true]) | skip))
    | (refine end_ret [] ?_; simp [go_sem, hvl])
    | (refine stepK_is rfl (hcl) (by simp) ?_)
    | (refine dstepK_is rfl (hcl) rfl (by simp) ?_)
    | (refine stepK_is ?hl (hcl) (by simp) ?_; (case hl => (simp [go_sem, hvl]; done)))
    | ((fail_if_success with_reducible (refine Owe.mk ?_)); (simp (disch := omega) [go_sem, hvl]))
    | (refine And.intro (by omega) ?_)
    | (refine awp_draw 20 mix (by decide +kernel) ?_)
    | (refine nbI fun bq => ?_)
    | ((first | refine zqm ?_ ?_ | refine zgm ?_ ?_ | refine zdm ?_ ?_) <;> (intro h; simp only [h, Bool.not_true, Bool.not_false]))
    | ((first | refine zqs ?_ ?_ | refine zgs ?_ ?_ | refine zds ?_ ?_) <;> (intro h; first | (exfalso; simp at h; omega) | ((try simp only [h]); (try simp at h))))
    | fail)
      all_goals (first | omega | skip)
      refine awp_for [1, 7, 12, 13, 16, 87] [85, 66, 60, 36] (fun i : Nat => [(88, nt .i64 i)]) (fun i : Nat => [(85, ⟨true, false, false, 1, (outr s l i).map (nt .i64), 0⟩), (66, ⟨true, false, false, 1, V.map (nt .i64), 0⟩), (60, ⟨true, false, false, 4, l.map eRt, 0⟩), (36, ⟨true, false, false, 1, pl.map (nt .i64), 0⟩)]) (fun i : Nat => s.length - i) (fun i : Nat => i ≤ s.length) (0) (Le.sub4 rfl (by simp [go_sem, h00])) ⟨?_⟩ ?_
      · exact Nat.zero_le _
      intro i hi AA hAA; simp only [Go.Ab.keepT_nil, Go.Ab.keepT_cons, Go.Ab.dropO_nil, Go.Ab.dropO_cons, List.contains_cons, List.contains_nil, List.elem_cons, List.elem_nil, Nat.reduceBEq, beq_self_eq_true, Nat.reduceEqDiff, Bool.or_false, Bool.false_or, Bool.or_true, Bool.true_or, Bool.false_eq_true, if_true, if_false, List.cons_append, List.nil_append, List.append_nil]
      have hol := outr_len s l i
      have hob := outr_bd (s := s) (l := l) hrg ⟨hn2, hn4⟩ hpt i
      have hos : outr s l (i + 1) = inn s l i (outr s l i) (s.length - (i + 1)) := rfl
      generalize hA : outr s l i = A at *
      by_cases hlt : i < s.length
      · have hAB := hAA
        repeat' (first
    | (refine awp_seqK (fun K hK => ?_))
    | (refine Hide.go (by assumption) ?_)
    | ((first | refine zqd ?_ ?_ | refine zqn ?_ ?_ | refine zgd ?_ ?_ | refine zgn ?_ ?_ | refine zdd ?_ ?_ | refine zdn ?_ ?_) <;> (intro h; first | (exfalso; omega) | (simp only [h, decide_true, decide_false, not_false_eq_true]) | skip))
    | (refine end_ret [] ?_; simp [go_sem, hlt])
    | ((fail_if_success with_reducible (refine Owe.mk ?_)); (simp (disch := omega) [go_sem, hlt]))
    | (refine And.intro (by omega) ?_)
    | (refine awp_draw 20 mix (by decide +kernel) ?_)
    | (refine nbI fun bq => ?_)
    | ((first | refine zqm ?_ ?_ | refine zgm ?_ ?_ | refine zdm ?_ ?_) <;> (intro h; simp only [h, Bool.not_true, Bool.not_false]))
    | ((first | refine zqs ?_ ?_ | refine zgs ?_ ?_ | refine zds ?_ ?_) <;> (intro h; first | (exfalso; simp at h; omega) | ((try simp only [h]); (try simp at h))))
    | fail)
        refine awp_for [1, 7, 12, 13, 16, 17, 87, 88] [85, 66, 60, 36] (fun j : Nat => [(18, nt .i64 j)]) (fun j : Nat => [(85, ⟨true, false, false, 1, (inn s l i A (j - (i + 1))).map (nt .i64), 0⟩), (66, ⟨true, false, false, 1, V.map (nt .i64), 0⟩), (60, ⟨true, false, false, 4, l.map eRt, 0⟩), (36, ⟨true, false, false, 1, pl.map (nt .i64), 0⟩)]) (fun j : Nat => s.length - j) (fun j : Nat => i + 1 ≤ j ∧ j ≤ s.length) (i + 1) (Le.sub4 rfl (by simp [go_sem, hi0])) ⟨?_⟩ ?_
        · exact ⟨Nat.le_refl _, hlt⟩
        intro j ⟨hk, hj⟩ AA hAA; simp only [Go.Ab.keepT_nil, Go.Ab.keepT_cons, Go.Ab.dropO_nil, Go.Ab.dropO_cons, List.contains_cons, List.contains_nil, List.elem_cons, List.elem_nil, Nat.reduceBEq, beq_self_eq_true, Nat.reduceEqDiff, Bool.or_false, Bool.false_or, Bool.or_true, Bool.true_or, Bool.false_eq_true, if_true, if_false, List.cons_append, List.nil_append, List.append_nil]
        have hbl := inn_len s l i A (j - (i + 1))
        have hbb := inn_bd (l := l) (i := i) hob ⟨hn2, hn4⟩ hpt (j - (i + 1))
        have hbs2 : inn s l i A (j - i) = stp s l i j (inn s l i A (j - (i + 1))) := by
          obtain ⟨k, rfl⟩ : ∃ k, j = i + 1 + k := ⟨j - (i + 1), by omega⟩
          rw [show i + 1 + k - i = k + 1 by omega, show i + 1 + k - (i + 1) = k by omega]
          rfl
        generalize hB : inn s l i A (j - (i + 1)) = B at *
        by_cases hlt2 : j < s.length
        · have hpi := hfd _ (List.getElem_mem hlt)
          have hpj := hfd _ (List.getElem_mem hlt2)
          have hne := pos_ne hnd hfd hlt hlt2 (by omega)
          have hgi := hplg i hlt (by omega)
          have hgj := hplg j hlt2 (by omega)
          have c1 := cents_ok s[i].n s[i].d (hs _ (List.getElem_mem hlt)).n (hs _ (List.getElem_mem hlt)).d
          have c2 := cents_ok s[j].n s[j].d (hs _ (List.getElem_mem hlt2)).n (hs _ (List.getElem_mem hlt2)).d
          have o1 := ((ptOk_iff _).1 (hpt _ (List.getElem_mem hlt))).2
          have o2 := ((ptOk_iff _).1 (hpt _ (List.getElem_mem hlt2))).2
          have v1 := hAv _ (List.getElem_mem (show pos l s[i].p < V.length by omega))
          have v2 := hAv _ (List.getElem_mem (show pos l s[j].p < V.length by omega))
          have b1 := hbb _ (List.getElem_mem (show pos l s[i].p < B.length by omega))
          have b2 := hbb _ (List.getElem_mem (show pos l s[j].p < B.length by omega))
          have ht := transfer_ok (cts s[i].n s[i].d).1 (cts s[j].n s[j].d).1 (V[pos l s[i].p]'(by omega)) (V[pos l s[j].p]'(by omega)) s.length o1 o2 (by omega) (by omega) (by omega)
          have htr := tr_range (p := (cts s[i].n s[i].d).1) (q := (cts s[j].n s[j].d).1) (a := V[pos l s[i].p]'(by omega)) (b := V[pos l s[j].p]'(by omega)) (n := s.length) o1 o2 (by omega)
          have hst := stp_eq (B := B) hlt hlt2 hV (by omega) (by omega) (by omega) (by omega) (by omega)
          rw [hst] at hbs2
          clear hst
          generalize tr (cts s[i].n s[i].d).1 (cts s[j].n s[j].d).1 (V[pos l s[i].p]'(by omega)) (V[pos l s[j].p]'(by omega)) s.length = T at *
          generalize hc1 : cts s[i].n s[i].d = C1 at *
          generalize hc2 : cts s[j].n s[j].d = C2 at *
          repeat' (first
    | (refine awp_seqK (fun K hK => ?_))
    | (refine Hide.go (by assumption) ?_)
    | ((first | refine zqd ?_ ?_ | refine zqn ?_ ?_ | refine zgd ?_ ?_ | refine zgn ?_ ?_ | refine zdd ?_ ?_ | refine zdn ?_ ?_) <;> (intro h; first | (exfalso; omega) | (simp only [h, decide_true, decide_false, not_false_eq_true]) | skip))
    | (refine end_ret [] ?_; simp [go_sem, hlt, hlt2, eSc, hgi, hgj, hpi, hpj, hne])
    | (refine stepK_is rfl (c1) (by simp) ?_)
    | (refine dstepK_is rfl (c1) rfl (by simp) ?_)
    | (refine stepK_is rfl (c2) (by simp) ?_)
    | (refine dstepK_is rfl (c2) rfl (by simp) ?_)
    | (refine stepK_is rfl (ht) (by simp) ?_)
    | (refine dstepK_is rfl (ht) rfl (by simp) ?_)
    | (refine (hAA.next (j + 1) (Le.sub4 rfl (by simp [go_sem, hbs2, set_nt, -List.map_set])) (by (try dsimp only); omega) ?_))
    | ((fail_if_success with_reducible (refine Owe.mk ?_)); (simp (disch := omega) [go_sem, hlt, hlt2, eSc, hgi, hgj, hpi, hpj, hne]))
    | (refine And.intro (by omega) ?_)
    | (refine awp_draw 20 mix (by decide +kernel) ?_)
    | (refine nbI fun bq => ?_)
    | ((first | refine zqm ?_ ?_ | refine zgm ?_ ?_ | refine zdm ?_ ?_) <;> (intro h; simp only [h, Bool.not_true, Bool.not_false]))
    | ((first | refine zqs ?_ ?_ | refine zgs ?_ ?_ | refine zds ?_ ?_) <;> (intro h; first | (exfalso; simp at h; omega) | ((try simp only [h]); (try simp at h))))
    | fail)
          all_goals (first | omega | skip)
          exact ⟨⟨by omega, by omega⟩⟩
        · obtain rfl : j = s.length := by omega
          subst hB
          repeat' (first
    | (refine awp_seqK (fun K hK => ?_))
    | (refine Hide.go (by assumption) ?_)
    | ((first | refine zqd ?_ ?_ | refine zqn ?_ ?_ | refine zgd ?_ ?_ | refine zgn ?_ ?_ | refine zdd ?_ ?_ | refine zdn ?_ ?_) <;> (intro h; first | (exfalso; omega) | (simp only [h, decide_true, decide_false, not_false_eq_true]) | skip))
    | (refine end_ret [] ?_; simp [go_sem, hlt2])
    | (refine (hAB.next (i + 1) (Le.sub4 rfl (by simp [go_sem, hos])) (by (try dsimp only); omega) ?_))
    | ((fail_if_success with_reducible (refine Owe.mk ?_)); (simp (disch := omega) [go_sem, hlt2]))
    | (refine And.intro (by omega) ?_)
    | (refine awp_draw 20 mix (by decide +kernel) ?_)
    | (refine nbI fun bq => ?_)
    | ((first | refine zqm ?_ ?_ | refine zgm ?_ ?_ | refine zdm ?_ ?_) <;> (intro h; simp only [h, Bool.not_true, Bool.not_false]))
    | ((first | refine zqs ?_ ?_ | refine zgs ?_ ?_ | refine zds ?_ ?_) <;> (intro h; first | (exfalso; simp at h; omega) | ((try simp only [h]); (try simp at h))))
    | fail)
          exact ⟨hlt⟩
      · obtain rfl : i = s.length := by omega
        have hAl : A.length = l.length := hol
        rw [hA] at hR
        repeat' (first
    | (refine awp_seqK (fun K hK => ?_))
    | (refine Hide.go (by assumption) ?_)
    | ((first | refine zqd ?_ ?_ | refine zqn ?_ ?_ | refine zgd ?_ ?_ | refine zgn ?_ ?_ | refine zdd ?_ ?_ | refine zdn ?_ ?_) <;> (intro h; first | (exfalso; omega) | (simp only [h, decide_true, decide_false, not_false_eq_true]) | skip))
    | (refine end_ret [] ?_; simp [go_sem, hpll])
    | ((fail_if_success with_reducible (refine Owe.mk ?_)); (simp (disch := omega) [go_sem, hpll]))
    | (refine And.intro (by omega) ?_)
    | (refine awp_draw 20 mix (by decide +kernel) ?_)
    | (refine nbI fun bq => ?_)
    | ((first | refine zqm ?_ ?_ | refine zgm ?_ ?_ | refine zdm ?_ ?_) <;> (intro h; simp only [h, Bool.not_true, Bool.not_false]))
    | ((first | refine zqs ?_ ?_ | refine zgs ?_ ?_ | refine zds ?_ ?_) <;> (intro h; first | (exfalso; simp at h; omega) | ((try simp only [h]); (try simp at h))))
    | fail)
        refine awp_for [12, 16, 157, 158] [85, 66, 60, 36] (fun x : Nat × List Rt => [(159, nt .i64 x.1)]) (fun x : Nat × List Rt => [(85, ⟨true, false, false, 1, A.map (nt .i64), 0⟩), (66, ⟨true, false, false, 1, V.map (nt .i64), 0⟩), (60, ⟨true, false, false, 4, x.2.map eRt, 0⟩), (36, ⟨true, false, false, 1, pl.map (nt .i64), 0⟩)]) (fun x : Nat × List Rt => s.length - x.1) (fun x : Nat × List Rt => x.1 ≤ s.length ∧ x.2.length = l.length ∧ (∀ r ∈ x.2, 0 ≤ r.g ∧ r.g ≤ 1000000) ∧ fin A l (s.drop x.1) x.2 = fin A l s l) ((0, l)) (Le.sub4 rfl (by simp [go_sem])) ⟨?_⟩ ?_
        · exact ⟨Nat.zero_le _, rfl, fun r hr => by have := rgt_cts (List.all_eq_true.1 hrg r hr); omega, rfl⟩
        intro ⟨i, O⟩ ⟨hi, hOl, hOg, hfn⟩ AA hAA; simp only [Go.Ab.keepT_nil, Go.Ab.keepT_cons, Go.Ab.dropO_nil, Go.Ab.dropO_cons, List.contains_cons, List.contains_nil, List.elem_cons, List.elem_nil, Nat.reduceBEq, beq_self_eq_true, Nat.reduceEqDiff, Bool.or_false, Bool.false_or, Bool.or_true, Bool.true_or, Bool.false_eq_true, if_true, if_false, List.cons_append, List.nil_append, List.append_nil]
        dsimp only at *
        by_cases hlt : i < s.length
        · have hpi := hfd _ (List.getElem_mem hlt)
          have hgi := hplg i hlt (by omega)
          have hkO : pos l s[i].p < O.length := by omega
          have hkA : pos l s[i].p < A.length := by omega
          have hg := hOg _ (List.getElem_mem hkO)
          have hb := hob _ (List.getElem_mem hkA)
          have hh := hundredths_ok A[pos l s[i].p] (by omega)
          rw [List.drop_eq_getElem_cons hlt] at hfn
          simp only [fin, List.getElem?_eq_getElem hkO, List.getD_eq_getElem?_getD, List.getElem?_eq_getElem hkA, Option.getD_some] at hfn
          generalize hk : pos l s[i].p = k at *
          generalize hy : O[k] = y at *
          by_cases hbad : 1000000 < y.g + 1 ∨ A[k] < -10000000 ∨ 10000000 < A[k]
          · rw [if_pos hbad] at hfn
            rw [← hfn] at hR
            simp [updV] at hR
            subst hR
            by_cases q1 : 1000000 < y.g + 1
            · repeat' (first
    | (refine awp_seqK (fun K hK => ?_))
    | (refine Hide.go (by assumption) ?_)
    | ((first | refine zqd ?_ ?_ | refine zqn ?_ ?_ | refine zgd ?_ ?_ | refine zgn ?_ ?_ | refine zdd ?_ ?_ | refine zdn ?_ ?_) <;> (intro h; first | (exfalso; omega) | (simp only [h, decide_true, decide_false, not_false_eq_true]) | skip))
    | (refine end_ret [] ?_; simp [go_sem, hlt, eRt, hgi, hy, q1])
    | (refine stepK_is rfl (hh) (by simp) ?_)
    | (refine dstepK_is rfl (hh) rfl (by simp) ?_)
    | ((fail_if_success with_reducible (refine Owe.mk ?_)); (simp (disch := omega) [go_sem, hlt, eRt, hgi, hy, q1]))
    | (refine And.intro (by omega) ?_)
    | (refine awp_draw 20 mix (by decide +kernel) ?_)
    | (refine nbI fun bq => ?_)
    | ((first | refine zqm ?_ ?_ | refine zgm ?_ ?_ | refine zdm ?_ ?_) <;> (intro h; simp only [h, Bool.not_true, Bool.not_false]))
    | ((first | refine zqs ?_ ?_ | refine zgs ?_ ?_ | refine zds ?_ ?_) <;> (intro h; first | (exfalso; simp at h; omega) | ((try simp only [h]); (try simp at h))))
    | fail)
            · by_cases q2 : A[k] < -10000000
              · repeat' (first
    | (refine awp_seqK (fun K hK => ?_))
    | (refine Hide.go (by assumption) ?_)
    | ((first | refine zqd ?_ ?_ | refine zqn ?_ ?_ | refine zgd ?_ ?_ | refine zgn ?_ ?_ | refine zdd ?_ ?_ | refine zdn ?_ ?_) <;> (intro h; first | (exfalso; omega) | (simp only [h, decide_true, decide_false, not_false_eq_true]) | skip))
    | (refine end_ret [] ?_; simp [go_sem, hlt, eRt, hgi, hy, q1, q2])
    | (refine stepK_is rfl (hh) (by simp) ?_)
    | (refine dstepK_is rfl (hh) rfl (by simp) ?_)
    | ((fail_if_success with_reducible (refine Owe.mk ?_)); (simp (disch := omega) [go_sem, hlt, eRt, hgi, hy, q1, q2]))
    | (refine And.intro (by omega) ?_)
    | (refine awp_draw 20 mix (by decide +kernel) ?_)
    | (refine nbI fun bq => ?_)
    | ((first | refine zqm ?_ ?_ | refine zgm ?_ ?_ | refine zdm ?_ ?_) <;> (intro h; simp only [h, Bool.not_true, Bool.not_false]))
    | ((first | refine zqs ?_ ?_ | refine zgs ?_ ?_ | refine zds ?_ ?_) <;> (intro h; first | (exfalso; simp at h; omega) | ((try simp only [h]); (try simp at h))))
    | fail)
              · have q3 : 10000000 < A[k] := by omega
                repeat' (first
    | (refine awp_seqK (fun K hK => ?_))
    | (refine Hide.go (by assumption) ?_)
    | ((first | refine zqd ?_ ?_ | refine zqn ?_ ?_ | refine zgd ?_ ?_ | refine zgn ?_ ?_ | refine zdd ?_ ?_ | refine zdn ?_ ?_) <;> (intro h; first | (exfalso; omega) | (simp only [h, decide_true, decide_false, not_false_eq_true]) | skip))
    | (refine end_ret [] ?_; simp [go_sem, hlt, eRt, hgi, hy, q1, q2, q3])
    | (refine stepK_is rfl (hh) (by simp) ?_)
    | (refine dstepK_is rfl (hh) rfl (by simp) ?_)
    | ((fail_if_success with_reducible (refine Owe.mk ?_)); (simp (disch := omega) [go_sem, hlt, eRt, hgi, hy, q1, q2, q3]))
    | (refine And.intro (by omega) ?_)
    | (refine awp_draw 20 mix (by decide +kernel) ?_)
    | (refine nbI fun bq => ?_)
    | ((first | refine zqm ?_ ?_ | refine zgm ?_ ?_ | refine zdm ?_ ?_) <;> (intro h; simp only [h, Bool.not_true, Bool.not_false]))
    | ((first | refine zqs ?_ ?_ | refine zgs ?_ ?_ | refine zds ?_ ?_) <;> (intro h; first | (exfalso; simp at h; omega) | ((try simp only [h]); (try simp at h))))
    | fail)
          · rw [if_neg hbad] at hfn
            have q1 : ¬ 1000000 < y.g + 1 := fun h => hbad (.inl h)
            have q2 : ¬ A[k] < -10000000 := fun h => hbad (.inr (.inl h))
            have q3 : ¬ 10000000 < A[k] := fun h => hbad (.inr (.inr h))
            repeat' (first
    | (refine awp_seqK (fun K hK => ?_))
    | (refine Hide.go (by assumption) ?_)
    | ((first | refine zqd ?_ ?_ | refine zqn ?_ ?_ | refine zgd ?_ ?_ | refine zgn ?_ ?_ | refine zdd ?_ ?_ | refine zdn ?_ ?_) <;> (intro h; first | (exfalso; omega) | (simp only [h, decide_true, decide_false, not_false_eq_true]) | skip))
    | (refine end_ret [] ?_; simp [go_sem, hlt, eRt, hgi, hy, q1, q2, q3])
    | (refine stepK_is rfl (hh) (by simp) ?_)
    | (refine dstepK_is rfl (hh) rfl (by simp) ?_)
    | (refine (hAA.next ((i + 1, O.set k ⟨y.p, (mkQ A[k] 100).1, (mkQ A[k] 100).2.1, y.g + 1⟩)) (Le.sub4 rfl (by simp [go_sem, set_eRt, -List.map_set])) (by (try dsimp only); omega) ?_))
    | ((fail_if_success with_reducible (refine Owe.mk ?_)); (simp (disch := omega) [go_sem, hlt, eRt, hgi, hy, q1, q2, q3]))
    | (refine And.intro (by omega) ?_)
    | (refine awp_draw 20 mix (by decide +kernel) ?_)
    | (refine nbI fun bq => ?_)
    | ((first | refine zqm ?_ ?_ | refine zgm ?_ ?_ | refine zdm ?_ ?_) <;> (intro h; simp only [h, Bool.not_true, Bool.not_false]))
    | ((first | refine zqs ?_ ?_ | refine zgs ?_ ?_ | refine zds ?_ ?_) <;> (intro h; first | (exfalso; simp at h; omega) | ((try simp only [h]); (try simp at h))))
    | fail)
            all_goals (first | omega | skip)
            refine ⟨⟨hlt, by rw [List.length_set]; exact hOl, fun r hr => ?_, hfn⟩⟩
            rcases List.mem_or_eq_of_mem_set hr with h | h
            · exact hOg r h
            · subst h; exact ⟨by dsimp only; omega, by dsimp only; omega⟩
        · obtain rfl : i = s.length := by omega
          rw [List.drop_length] at hfn
          simp only [fin] at hfn
          rw [← hfn] at hR
          simp only [updV, if_true] at hR
          subst hR
          repeat' (first
    | (refine awp_seqK (fun K hK => ?_))
    | (refine Hide.go (by assumption) ?_)
    | ((first | refine zqd ?_ ?_ | refine zqn ?_ ?_ | refine zgd ?_ ?_ | refine zgn ?_ ?_ | refine zdd ?_ ?_ | refine zdn ?_ ?_) <;> (intro h; first | (exfalso; omega) | (simp only [h, decide_true, decide_false, not_false_eq_true]) | skip))
    | (refine end_ret [] ?_; simp [go_sem, hOl])
    | ((fail_if_success with_reducible (refine Owe.mk ?_)); (simp (disch := omega) [go_sem, hOl]))
    | (refine And.intro (by omega) ?_)
    | (refine awp_draw 20 mix (by decide +kernel) ?_)
    | (refine nbI fun bq => ?_)
    | ((first | refine zqm ?_ ?_ | refine zgm ?_ ?_ | refine zdm ?_ ?_) <;> (intro h; simp only [h, Bool.not_true, Bool.not_false]))
    | ((first | refine zqs ?_ ?_ | refine zgs ?_ ?_ | refine zds ?_ ?_) <;> (intro h; first | (exfalso; simp at h; omega) | ((try simp only [h]); (try simp at h))))
    | fail)
end Go.Proofs.Ytfccgdgippmpgaa
