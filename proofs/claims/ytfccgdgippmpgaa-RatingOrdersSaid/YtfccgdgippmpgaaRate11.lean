/-
  Rate11: Update.
-/
import Derived.Test.YtfccgdgippmpgaaRate10
import Derived.Test.YtfccgdgippmpgaaTy2
import Derived.Test.YtfccgdgippmpgaaA5
namespace Go.Proofs.Ytfccgdgippmpgaa
open Go.Ab
set_option linter.unusedSimpArgs false
set_option maxRecDepth 100000
set_option maxHeartbeats 8000000
theorem hundredths_ok (n : Int) (hn : (-9223372036854775808 ≤ n ∧ n ≤ 9223372036854775807)) : ACall Try.prog 35 [nt .i64 n] (fun r => r = .agg [nt .i64 (mkQ n 100).1, nt .i64 (mkQ n 100).2.1]) := by
  have h := Make_ok n 100 hn.1 hn.2 (by decide) (by decide)
  unfold mkF eF at h
  generalize mkQ n 100 = q at *
  obtain ⟨a, b, e⟩ := q
  dsimp only at *
  refine acall_of_awp Try.func35 Try.call35 rfl (by simp [Try.ntmps35]) ?_; simp only [Try.ntmps35, Try.results35]
  repeat' (first
    | (refine awp_seqK (fun K hK => ?_))
    | (refine Hide.go (by assumption) ?_)
    | ((first | refine zqd ?_ ?_ | refine zqn ?_ ?_ | refine zgd ?_ ?_ | refine zgn ?_ ?_ | refine zdd ?_ ?_ | refine zdn ?_ ?_) <;> (intro h; first | (exfalso; omega) | (simp only [h, decide_true, decide_false, not_false_eq_true]) | skip))
    | (refine end_ret [] ?_; simp [go_sem])
    | (refine stepK_is rfl (h) (by simp) ?_)
    | (refine dstepK_is rfl (h) rfl (by simp) ?_)
    | ((fail_if_success with_reducible (refine Owe.mk ?_)); (simp (disch := omega) [go_sem]))
    | (refine And.intro (by omega) ?_)
    | (refine nbI fun bq => ?_)
    | ((first | refine zqm ?_ ?_ | refine zgm ?_ ?_ | refine zdm ?_ ?_) <;> (intro h; simp only [h, Bool.not_true, Bool.not_false]))
    | ((first | refine zqs ?_ ?_ | refine zgs ?_ ?_ | refine zds ?_ ?_) <;> (intro h; first | (exfalso; simp at h; omega) | ((try simp only [h]); (try simp at h))))
    | fail)
theorem cloneInt_ok (A : List Int) (le fu : Bool) (h : A ≠ []) (hb : A.length ≤ 1000000) : ACall Try.prog 33 [.list le fu (A.map (nt .i64))] (fun r => r = .own 1 (A.map (nt .i64))) := by
  obtain ⟨x, A, rfl⟩ : ∃ x r, A = x :: r := by cases A with
    | nil => exact absurd rfl h
    | cons x r => exact ⟨x, r, rfl⟩
  simp only [List.length_cons] at hb
  simp only [List.map_cons]
  refine acall_of_awp Try.func33 Try.call33 rfl (by simp [Try.ntmps33]) ?_; simp only [Try.ntmps33, Try.results33]
  repeat' (first
    | (refine awp_seqK (fun K hK => ?_))
    | (refine Hide.go (by assumption) ?_)
    | ((first | refine zqd ?_ ?_ | refine zqn ?_ ?_ | refine zgd ?_ ?_ | refine zgn ?_ ?_ | refine zdd ?_ ?_ | refine zdn ?_ ?_) <;> (intro h; first | (exfalso; omega) | (simp only [h, decide_true, decide_false, not_false_eq_true]) | skip))
    | (refine end_ret [] ?_; simp [go_sem])
    | ((fail_if_success with_reducible (refine Owe.mk ?_)); (simp (disch := omega) [go_sem]))
    | (refine And.intro (by omega) ?_)
    | (refine nbI fun bq => ?_)
    | ((first | refine zqm ?_ ?_ | refine zgm ?_ ?_ | refine zdm ?_ ?_) <;> (intro h; simp only [h, Bool.not_true, Bool.not_false]))
    | ((first | refine zqs ?_ ?_ | refine zgs ?_ ?_ | refine zds ?_ ?_) <;> (intro h; first | (exfalso; simp at h; omega) | ((try simp only [h]); (try simp at h))))
    | fail)
theorem set_nt {l : List Int} {i : Nat} {x : Int} : (l.map (nt .i64)).set i (.sc (.int .i64 x)) = (l.set i x).map (nt .i64) := by
  rw [List.map_set]; rfl
theorem set_eRt {l : List Rt} {i : Nat} {p n d g : Int} : (l.map eRt).set i (.agg [.sc (.int .i64 p), .sc (.int .i64 n), .sc (.int .i64 d), .sc (.int .i64 g)]) = (l.set i ⟨p, n, d, g⟩).map eRt := by
  rw [List.map_set]; rfl
/-- A row that is filled from the left. -/
def filled {α : Type} (l : List α) (z : α) (i : Nat) : List α := l.take i ++ List.replicate (l.length - i) z
theorem filled_zero {α : Type} (l : List α) (z : α) : filled l z 0 = List.replicate l.length z := by simp [filled]
theorem filled_all {α : Type} (l : List α) (z : α) : filled l z l.length = l := by simp [filled]
theorem filled_len {α : Type} (l : List α) (z : α) {i : Nat} (h : i ≤ l.length) : (filled l z i).length = l.length := by simp [filled]; omega
theorem filled_next {α : Type} {l : List α} {z : α} {i : Nat} (h : i < l.length) : filled l z (i + 1) = (filled l z i).set i l[i] := by
  unfold filled
  apply List.ext_getElem?
  intro k
  rw [List.getElem?_set]
  have hlen : (l.take i ++ List.replicate (l.length - i) z).length = l.length := by simp; omega
  rw [hlen]
  by_cases e : i = k
  · subst e
    rw [if_pos rfl, if_pos h, List.getElem?_append_left (by simp; omega), List.getElem?_take, if_pos (by omega), List.getElem?_eq_getElem h]
  · rw [if_neg e]
    by_cases e2 : k < i
    · rw [List.getElem?_append_left (by simp; omega), List.getElem?_append_left (by simp; omega), List.getElem?_take, List.getElem?_take, if_pos (by omega), if_pos (by omega)]
    · rw [List.getElem?_append_right (by simp; omega), List.getElem?_append_right (by simp; omega), List.getElem?_replicate, List.getElem?_replicate]
      simp only [List.length_take]
      by_cases e3 : k < l.length
      · rw [if_pos (by omega), if_pos (by omega)]
      · rw [if_neg (by omega), if_neg (by omega)]
theorem chk_facts {l : List Rt} (h : chk l = 0) : l.length ≤ 16 ∧ l.all rgt = true ∧ Asc l := by
  unfold chk at h
  split at h
  · omega
  · split at h
    · split at h
      · rename_i h1 h2 h3
        exact ⟨by omega, h2, asc_Asc h3⟩
      · omega
    · omega
theorem scB_facts {s : List Sc} (h : scB s = true) : 2 ≤ s.length ∧ s.length ≤ 4 ∧ (∀ x ∈ s, ptOk x = true) ∧ (s.map (·.p)).Nodup := of_decide_eq_true h
theorem BSp_ok (l : List Rt) (ha : Asc l) (le fu : Bool) (p : Int) : ACall Try.prog 29 [.list le fu (l.map eRt), nt .i64 p, .clo 30 []] (fun x => x = .tup [nt .i64 (cut l p), bl (decide (pos l p < l.length))]) := by
  have h := BSplayer_ok l le fu p (fun r => ord r.p p) (fun r _ => cmpPlayer_ok r p) (cut l p) (cut_le l p)
    (fun k hk hc => by have := cut_lt (List.getElem?_eq_getElem hk) hc; unfold ord; rw [if_pos this]; decide)
    (fun k hk hc => by have := cut_ge ha (List.getElem?_eq_getElem hk) hc; unfold ord; rw [if_neg (by omega)]; split <;> decide)
  have e := (cut_found ha p).1
  have e2 : (match l[cut l p]? with
      | some r => decide ((fun r : Rt => ord r.p p) r = 0)
      | none => false) = decide (pos l p < l.length) := by rw [← e]; cases l[cut l p]? <;> rfl
  exact h.mono fun x hx => by rw [hx]; exact congrArg (fun b => AV.tup [nt .i64 (cut l p), bl b]) e2
theorem UpdateErr_ok (l : List Rt) (s : List Sc) (le fu le' fu' : Bool) (hl : ∀ r ∈ l, r.ok) (hs : ∀ x ∈ s, x.ok) (h : chk l ≠ 0 ∨ scB s = false) : ACall Try.prog 12 [.list le fu (l.map eRt), .list le' fu' (s.map eSc)] (fun r => r = updV (upd l s)) := by
  have h1 := Check_ok l le fu hl
  have h2 := scored_ok s le' fu' hs
  unfold upd
  by_cases hc : chk l = 0
  · have hsc : scB s = false := by
      rcases h with h | h
      · exact absurd hc h
      · exact h
    rw [hc] at h1
    rw [hsc] at h2
    simp only [hc, hsc, ne_eq, not_true_eq_false, if_false, if_true, updV]
    refine acall_of_awp Try.func12 Try.call12 rfl (by simp [Try.ntmps12]) ?_; simp only [Try.ntmps12, Try.results12]
    repeat' (first
    | (refine awp_seqK (fun K hK => ?_))
    | (refine Hide.go (by assumption) ?_)
    | ((first | refine zqd ?_ ?_ | refine zqn ?_ ?_ | refine zgd ?_ ?_ | refine zgn ?_ ?_ | refine zdd ?_ ?_ | refine zdn ?_ ?_) <;> (intro h; first | (exfalso; omega) | (simp only [h, decide_true, decide_false, not_false_eq_true]) | skip))
    | (refine end_ret [] ?_; simp [go_sem])
    | (refine stepK_is rfl (h1) (by simp) ?_)
    | (refine dstepK_is rfl (h1) rfl (by simp) ?_)
    | (refine stepK_is rfl (h2) (by simp) ?_)
    | (refine dstepK_is rfl (h2) rfl (by simp) ?_)
    | ((fail_if_success with_reducible (refine Owe.mk ?_)); (simp (disch := omega) [go_sem]))
    | (refine And.intro (by omega) ?_)
    | (refine awp_draw 20 mix (by decide +kernel) ?_)
    | (refine nbI fun bq => ?_)
    | ((first | refine zqm ?_ ?_ | refine zgm ?_ ?_ | refine zdm ?_ ?_) <;> (intro h; simp only [h, Bool.not_true, Bool.not_false]))
    | ((first | refine zqs ?_ ?_ | refine zgs ?_ ?_ | refine zds ?_ ?_) <;> (intro h; first | (exfalso; simp at h; omega) | ((try simp only [h]); (try simp at h))))
    | fail)
  · simp only [ne_eq, hc, not_false_eq_true, if_true, updV]
    refine acall_of_awp Try.func12 Try.call12 rfl (by simp [Try.ntmps12]) ?_; simp only [Try.ntmps12, Try.results12]
    repeat' (first
    | (refine awp_seqK (fun K hK => ?_))
    | (refine Hide.go (by assumption) ?_)
    | ((first | refine zqd ?_ ?_ | refine zqn ?_ ?_ | refine zgd ?_ ?_ | refine zgn ?_ ?_ | refine zdd ?_ ?_ | refine zdn ?_ ?_) <;> (intro h; first | (exfalso; omega) | (simp only [h, decide_true, decide_false, not_false_eq_true]) | skip))
    | (refine end_ret [] ?_; simp [go_sem, hc])
    | (refine stepK_is rfl (h1) (by simp) ?_)
    | (refine dstepK_is rfl (h1) rfl (by simp) ?_)
    | (refine stepK_is rfl (h2) (by simp) ?_)
    | (refine dstepK_is rfl (h2) rfl (by simp) ?_)
    | ((fail_if_success with_reducible (refine Owe.mk ?_)); (simp (disch := omega) [go_sem, hc]))
    | (refine And.intro (by omega) ?_)
    | (refine awp_draw 20 mix (by decide +kernel) ?_)
    | (refine nbI fun bq => ?_)
    | ((first | refine zqm ?_ ?_ | refine zgm ?_ ?_ | refine zdm ?_ ?_) <;> (intro h; simp only [h, Bool.not_true, Bool.not_false]))
    | ((first | refine zqs ?_ ?_ | refine zgs ?_ ?_ | refine zds ?_ ?_) <;> (intro h; first | (exfalso; simp at h; omega) | ((try simp only [h]); (try simp at h))))
    | fail)
end Go.Proofs.Ytfccgdgippmpgaa
