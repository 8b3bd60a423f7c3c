/-
  Rate19: the reference's match.
-/
import Derived.Test.YtfccgdgippmpgaaRate12
import Derived.Test.YtfccgdgippmpgaaRate6
namespace Go.Proofs.Ytfccgdgippmpgaa
open Go.Ab
set_option linter.unusedSimpArgs false
set_option maxRecDepth 100000
set_option maxHeartbeats 8000000
theorem at_ok (l : List Rt) (le fu : Bool) (p : Int) : ACall Try.prog 48 [.list le fu (l.map eRt), nt .i64 p] (fun r => r = nt .i64 (if pos l p < l.length then (pos l p : Int) else -1)) := by
  refine ACall.bound (i := 0) rfl Try.call48 fun hb => ?_
  rw [List.length_map] at hb
  have hb : l.length ≤ 140737488355328 := hb
  have hspec := fun (k : Nat) (h : k < l.length) => List.findIdx_eq (xs := l) (p := fun r => decide (r.p = p)) h
  generalize hR : (if pos l p < l.length then (pos l p : Int) else -1) = R
  refine acall_of_awp Try.func48 Try.call48 rfl (by simp [Try.ntmps48]) ?_; simp only [Try.ntmps48, Try.results48]
  repeat' (first
    | (refine awp_seqK (fun K hK => ?_))
    | (refine Hide.go (by assumption) ?_)
    | ((first | refine zqd ?_ ?_ | refine zqn ?_ ?_ | refine zgd ?_ ?_ | refine zgn ?_ ?_ | refine zdd ?_ ?_ | refine zdn ?_ ?_) <;> (intro h; first | (exfalso; omega) | (simp only [h, decide_true, decide_false, not_false_eq_true]) | skip))
    | (refine end_ret [] ?_; simp [go_sem])
    | ((fail_if_success with_reducible (refine Owe.mk ?_)); (simp (disch := omega) [go_sem]))
    | (refine And.intro (by omega) ?_)
    | (refine nbI fun bq => ?_)
    | ((first | refine zqm ?_ ?_ | refine zgm ?_ ?_ | refine zdm ?_ ?_) <;> (intro h; simp only [h, Bool.not_true, Bool.not_false]))
    | ((first | refine zqs ?_ ?_ | refine zgs ?_ ?_ | refine zds ?_ ?_) <;> (intro h; first | (exfalso; simp at h; omega) | ((try simp only [h]); (try simp at h))))
    | fail)
  refine awp_for [0, 1, 7] [] (fun i : Nat => [(8, nt .i64 i)]) (fun i : Nat => []) (fun i : Nat => l.length - i) (fun i : Nat => i ≤ l.length ∧ ∀ (k : Nat) (h : k < l.length), k < i → l[k].p ≠ p) (0) (Le.sub4 rfl (by simp [go_sem])) ⟨?_⟩ ?_
  · exact ⟨Nat.zero_le _, fun k h hk => absurd hk (Nat.not_lt_zero _)⟩
  intro i ⟨hi, hn⟩ AA hAA; simp only [Go.Ab.keepT_nil, Go.Ab.keepT_cons, Go.Ab.dropO_nil, Go.Ab.dropO_cons, List.contains_cons, List.contains_nil, List.elem_cons, List.elem_nil, Nat.reduceBEq, beq_self_eq_true, Nat.reduceEqDiff, Bool.or_false, Bool.false_or, Bool.or_true, Bool.true_or, Bool.false_eq_true, if_true, if_false, List.cons_append, List.nil_append, List.append_nil]
  by_cases hlt : i < l.length
  · by_cases hp : l[i].p = p
    · have e : pos l p = i := by
        unfold pos
        rw [hspec i hlt]
        exact ⟨by simpa using hp, fun j hj => by simpa using hn j (by omega) hj⟩
      rw [e, if_pos hlt] at hR
      subst hR
      repeat' (first
    | (refine awp_seqK (fun K hK => ?_))
    | (refine Hide.go (by assumption) ?_)
    | ((first | refine zqd ?_ ?_ | refine zqn ?_ ?_ | refine zgd ?_ ?_ | refine zgn ?_ ?_ | refine zdd ?_ ?_ | refine zdn ?_ ?_) <;> (intro h; first | (exfalso; omega) | (simp only [h, decide_true, decide_false, not_false_eq_true]) | skip))
    | (refine end_ret [] ?_; simp [go_sem, hlt, eRt, hp])
    | ((fail_if_success with_reducible (refine Owe.mk ?_)); (simp (disch := omega) [go_sem, hlt, eRt, hp]))
    | (refine And.intro (by omega) ?_)
    | (refine nbI fun bq => ?_)
    | ((first | refine zqm ?_ ?_ | refine zgm ?_ ?_ | refine zdm ?_ ?_) <;> (intro h; simp only [h, Bool.not_true, Bool.not_false]))
    | ((first | refine zqs ?_ ?_ | refine zgs ?_ ?_ | refine zds ?_ ?_) <;> (intro h; first | (exfalso; simp at h; omega) | ((try simp only [h]); (try simp at h))))
    | fail)
    · repeat' (first
    | (refine awp_seqK (fun K hK => ?_))
    | (refine Hide.go (by assumption) ?_)
    | ((first | refine zqd ?_ ?_ | refine zqn ?_ ?_ | refine zgd ?_ ?_ | refine zgn ?_ ?_ | refine zdd ?_ ?_ | refine zdn ?_ ?_) <;> (intro h; first | (exfalso; omega) | (simp only [h, decide_true, decide_false, not_false_eq_true]) | skip))
    | (refine end_ret [] ?_; simp [go_sem, hlt, eRt, hp])
    | (refine (hAA.next (i + 1) (Le.sub4 rfl (by simp [go_sem])) (by (try dsimp only); omega) ?_))
    | ((fail_if_success with_reducible (refine Owe.mk ?_)); (simp (disch := omega) [go_sem, hlt, eRt, hp]))
    | (refine And.intro (by omega) ?_)
    | (refine nbI fun bq => ?_)
    | ((first | refine zqm ?_ ?_ | refine zgm ?_ ?_ | refine zdm ?_ ?_) <;> (intro h; simp only [h, Bool.not_true, Bool.not_false]))
    | ((first | refine zqs ?_ ?_ | refine zgs ?_ ?_ | refine zds ?_ ?_) <;> (intro h; first | (exfalso; simp at h; omega) | ((try simp only [h]); (try simp at h))))
    | fail)
      exact ⟨⟨by omega, fun k h hk => by
        by_cases e : k = i
        · subst e; exact hp
        · exact hn k h (by omega)⟩⟩
  · obtain rfl : i = l.length := by omega
    have e : ¬ pos l p < l.length := by
      unfold pos
      rw [List.findIdx_lt_length]
      rintro ⟨x, hx, hxp⟩
      obtain ⟨k, hk⟩ := List.getElem?_of_mem hx
      obtain ⟨hkl, rfl⟩ := List.getElem?_eq_some_iff.1 hk
      exact hn k hkl hkl (by simpa using hxp)
    rw [if_neg e] at hR
    subst hR
    repeat' (first
    | (refine awp_seqK (fun K hK => ?_))
    | (refine Hide.go (by assumption) ?_)
    | ((first | refine zqd ?_ ?_ | refine zqn ?_ ?_ | refine zgd ?_ ?_ | refine zgn ?_ ?_ | refine zdd ?_ ?_ | refine zdn ?_ ?_) <;> (intro h; first | (exfalso; omega) | (simp only [h, decide_true, decide_false, not_false_eq_true]) | skip))
    | (refine end_ret [] ?_; simp [go_sem])
    | ((fail_if_success with_reducible (refine Owe.mk ?_)); (simp (disch := omega) [go_sem]))
    | (refine And.intro (by omega) ?_)
    | (refine nbI fun bq => ?_)
    | ((first | refine zqm ?_ ?_ | refine zgm ?_ ?_ | refine zdm ?_ ?_) <;> (intro h; simp only [h, Bool.not_true, Bool.not_false]))
    | ((first | refine zqs ?_ ?_ | refine zgs ?_ ?_ | refine zds ?_ ?_) <;> (intro h; first | (exfalso; simp at h; omega) | ((try simp only [h]); (try simp at h))))
    | fail)
/-- The value of a player. -/
def val (l : List Rt) (p : Int) : Int := (l.map Rt.c).getD (pos l p) 0
/-- Of score k against the first j. -/
def tsum (s : List Sc) (l : List Rt) (c : Int) (k : Nat) : Nat → Int
  | 0 => 0
  | j + 1 => tsum s l c k j + (if j = k then 0 else match s[k]?, s[j]? with
    | some x, some y => tr x.c y.c c (val l y.p) s.length
    | _, _ => 0)
def rsum (s : List Sc) (l : List Rt) (r : Rt) : Nat → Int
  | 0 => 0
  | k + 1 => rsum s l r k + (match s[k]? with
    | some x => if x.p = r.p then tsum s l r.c k s.length else 0
    | none => 0)
def rcnt (s : List Sc) (r : Rt) : Nat → Int
  | 0 => 0
  | k + 1 => rcnt s r k + (match s[k]? with
    | some x => if x.p = r.p then 1 else 0
    | none => 0)
def rbad (s : List Sc) (l : List Rt) (r : Rt) : Prop := r.c + rsum s l r s.length < -10000000 ∨ 10000000 < r.c + rsum s l r s.length ∨ 1000000 < r.g + rcnt s r s.length
instance (s : List Sc) (l : List Rt) (r : Rt) : Decidable (rbad s l r) := by unfold rbad; exact inferInstance
def rnew (s : List Sc) (l : List Rt) (r : Rt) : Rt := ⟨r.p, (mkQ (r.c + rsum s l r s.length) 100).1, (mkQ (r.c + rsum s l r s.length) 100).2.1, r.g + rcnt s r s.length⟩
/-- The errno and the ratings behind a match, by the reference. -/
def rupd (l : List Rt) (s : List Sc) : Int × List Rt :=
  if chk l ≠ 0 then (chk l, []) else if scB s = false then (13, []) else if fndB l s = false then (21, []) else
    if ∃ r ∈ l, rbad s l r then (12, []) else (0, l.map (rnew s l))
theorem tsum_bd {s : List Sc} {l : List Rt} (hn : 2 ≤ s.length ∧ s.length ≤ 4) (hp : ∀ x ∈ s, ptOk x = true) (c : Int) (k : Nat) : ∀ j : Nat, -4000 * (j : Int) ≤ tsum s l c k j ∧ tsum s l c k j ≤ 4000 * (j : Int) := by
  intro j
  induction j with
  | zero => simp [tsum]
  | succ j ih =>
    unfold tsum
    split
    · omega
    · split
      · rename_i x y hx hy
        have h1 := (ptOk_iff x).1 (hp x (List.mem_of_getElem? hx))
        have h2 := (ptOk_iff y).1 (hp y (List.mem_of_getElem? hy))
        have ht := tr_range (a := c) (b := val l y.p) (n := s.length) h1.2 h2.2 (by omega)
        unfold Sc.c
        omega
      · omega
theorem rsum_bd {s : List Sc} {l : List Rt} (hn : 2 ≤ s.length ∧ s.length ≤ 4) (hp : ∀ x ∈ s, ptOk x = true) (r : Rt) : ∀ k : Nat, -16000 * (k : Int) ≤ rsum s l r k ∧ rsum s l r k ≤ 16000 * (k : Int) := by
  intro k
  induction k with
  | zero => simp [rsum]
  | succ k ih =>
    have ht := tsum_bd (l := l) hn hp r.c k s.length
    unfold rsum
    split
    · split <;> omega
    · omega
theorem rcnt_bd {s : List Sc} (r : Rt) : ∀ k : Nat, 0 ≤ rcnt s r k ∧ rcnt s r k ≤ (k : Int) := by
  intro k
  induction k with
  | zero => simp [rcnt]
  | succ k ih =>
    unfold rcnt
    split
    · split <;> omega
    · omega
theorem tsum_skip {s : List Sc} {l : List Rt} {c : Int} {k : Nat} : tsum s l c k (k + 1) = tsum s l c k k := by
  rw [tsum, if_pos rfl, Int.add_zero]
theorem tsum_next {s : List Sc} {l : List Rt} {c : Int} {k j : Nat} (hk : k < s.length) (hj : j < s.length) (h : ¬ j = k) : tsum s l c k (j + 1) = tsum s l c k j + tr (cts s[k].n s[k].d).1 (cts s[j].n s[j].d).1 c (val l s[j].p) s.length := by
  rw [tsum, if_neg h, List.getElem?_eq_getElem hk, List.getElem?_eq_getElem hj]; rfl
theorem rsum_skip {s : List Sc} {l : List Rt} {r : Rt} {k : Nat} (hk : k < s.length) (h : ¬ s[k].p = r.p) : rsum s l r (k + 1) = rsum s l r k := by
  rw [rsum, List.getElem?_eq_getElem hk]; simp [h]
theorem rsum_next {s : List Sc} {l : List Rt} {r : Rt} {k : Nat} (hk : k < s.length) (h : s[k].p = r.p) : rsum s l r (k + 1) = rsum s l r k + tsum s l r.c k s.length := by
  rw [rsum, List.getElem?_eq_getElem hk]; simp [h]
theorem rcnt_skip {s : List Sc} {r : Rt} {k : Nat} (hk : k < s.length) (h : ¬ s[k].p = r.p) : rcnt s r (k + 1) = rcnt s r k := by
  rw [rcnt, List.getElem?_eq_getElem hk]; simp [h]
theorem rcnt_next {s : List Sc} {r : Rt} {k : Nat} (hk : k < s.length) (h : s[k].p = r.p) : rcnt s r (k + 1) = rcnt s r k + 1 := by
  rw [rcnt, List.getElem?_eq_getElem hk]; simp [h]
end Go.Proofs.Ytfccgdgippmpgaa
