import Derived.Test.YtmadpbpmcbdboaaGreatS5
import Derived.Test.YtmadpbpmcbdboaaGreatEOrbitImages1
import Derived.Test.YtmadpbpmcbdboaaGreatS8
import Derived.Test.YtmadpbpmcbdboaaGreatS10
import Derived.Test.YtmadpbpmcbdboaaGreatS11
import Derived.Test.YtmadpbpmcbdboaaGreatS2
import Derived.Test.YtmadpbpmcbdboaaGreatS7
import Derived.Test.YtmadpbpmcbdboaaGreatA9
import Derived.Test.YtmadpbpmcbdboaaGreatA10
import Derived.Test.YtmadpbpmcbdboaaGreatS3
set_option linter.unusedSimpArgs false
set_option linter.unusedVariables false
namespace Go.Proofs.YtmadpbpmcbdboaaGreat
open Go.Ab
set_option maxRecDepth 100000
set_option maxHeartbeats 8000000
theorem refJoint_ok (p : List Pr) (l J : List Tm) (le fu lm fm lj fj : Bool) (hb : l.length ≤ 1000000) (hbj : J.length ≤ 1000000) (hz : ∀ t ∈ l, t.size ≤ 1000000) (hzj : ∀ t ∈ J, t.size ≤ 1000000) :
    ACall Tryz.prog 12 [.list le fu (p.map ePr), .list lm fm (l.map eTm), .list lj fj (J.map eTm)] (fun r => r = jntV (jntF p l J)) := by
  have hr := refRoles_ok p l le fu lm fm hb hz
  unfold jntF
  by_cases hall : ∀ t ∈ l, 0 ≤ plc p l t
  · rw [rol_nat hall] at hr
    have hQl : (l.map (plcN p l)).length = l.length := by simp
    have hQb : ∀ (i : Nat) (h : i < (l.map (plcN p l)).length), (l.map (plcN p l))[i] < l.length := fun i h => by
      simp only [List.length_map] at h
      simp only [List.getElem_map]
      exact plcN_lt (by omega)
    generalize l.map (plcN p l) = Q at *
    by_cases hJ : J.length = l.length
    · rw [if_pos ⟨hall, hJ⟩]
      have hIl : (J.map (tmP p)).length = J.length := by simp
      have hI : ∀ (i : Nat) (h : i < J.length), (J.map (tmP p)).getD i z0T = tmP p J[i] := fun i h => by simp [List.getD_eq_getElem?_getD, h]
      generalize J.map (tmP p) = I at *
      have h0 : jst Q I 0 = some (List.replicate l.length z0T, List.replicate l.length false) := by rw [← hQl]; rfl
      generalize hV : jntV (jst Q I l.length) = V
      refine acall_of_awp Tryz.func12 Tryz.call12 rfl (by simp [Tryz.ntmps12]) ?_; simp only [Tryz.ntmps12, Tryz.results12]
      repeat' (first | (refine awK fun _ _ => ?_) | refine Hide.go (by assumption) ?_ | refine stepK_is rfl (hr) (by simp) ?_ | (fail_if_success with_reducible (refine Owe.mk ?_)); (simp (disch := omega) [go_sem, hJ]) | refine And.intro (by omega) ?_)
      refine awp_for [0, 2, 8, 10, 11] [30, 33] (fun x : Nat × List Tm × List Bool => [(12, nt .i64 x.1)]) (fun x : Nat × List Tm × List Bool => [(30, ⟨true, false, false, 2, x.2.1.map eTm, 0⟩), (33, ⟨true, false, false, 1, x.2.2.map eB, 0⟩)]) (fun x : Nat × List Tm × List Bool => l.length - x.1) (fun x : Nat × List Tm × List Bool => x.1 ≤ l.length ∧ jst Q I x.1 = some x.2) ((0, List.replicate l.length z0T, List.replicate l.length false)) (by refine Le.trans ?_ (Le.looseRow 30 rfl (by show (0 : Nat) ≠ 1; decide)); exact (Le.sub4 rfl (by simp [go_sem, List.map_replicate]))) ⟨?_⟩ ?_
      · exact ⟨Nat.zero_le _, h0⟩
      intro ⟨i, O, T⟩ ⟨hi, hj⟩ AA hAA; simp only [kL, Nat.reduceBEq, Nat.reduceEqDiff, if_true, if_false, List.cons_append, List.nil_append, List.append_nil]
      dsimp only at *
      by_cases hlt : i < l.length
      · have hiQ : i < Q.length := by omega
        have hiJ : i < J.length := by omega
        have ht := refTerm_ok p le fu J[i] (hzj _ (List.getElem_mem hiJ))
        have hu := hI i hiJ
        have hk := hQb i hiQ
        obtain ⟨hO, hT⟩ := jst_len hj
        have hs : jst Q I (i + 1) = if T.getD Q[i] false = true then none else some (O.set Q[i] (tmP p J[i]), T.set Q[i] true) := by
          rw [jst, hj]
          simp only [List.getD_eq_getElem?_getD, List.getElem?_eq_getElem hiQ, Option.getD_some] at hu ⊢
          rw [hu]
        generalize hkq : Q[i] = k at *
        generalize tmP p J[i] = u at *
        have hkT : k < T.length := by omega
        have hkO : k < O.length := by omega
        rw [List.getD_eq_getElem?_getD, List.getElem?_eq_getElem hkT, Option.getD_some] at hs
        cases hTk : T[k]
        · rw [hTk] at hs
          simp only [Bool.false_eq_true, if_false] at hs
          repeat' (first | (refine awK fun _ _ => ?_) | refine Hide.go (by assumption) ?_ | refine dstepK_is rfl (ht) rfl (by simp) ?_ | refine (hAA.next ((i + 1, O.set k u, T.set k true)) (Le.sub4 rfl (by simp [go_sem, List.map_set, hQl])) (by (try dsimp only); omega) ?_) | (fail_if_success with_reducible (refine Owe.mk ?_)); (simp (disch := omega) [go_sem, hlt, hiQ, hiJ, hkq, hTk, hkT, hkO, hk, hO, hT, hQl]) | refine awp_draw 12 mix (by decide +kernel) ?_)
          all_goals (first | omega | skip)
          exact ⟨⟨hlt, hs⟩⟩
        · rw [hTk] at hs
          simp only [if_true] at hs
          have hn : jst Q I l.length = none := by
            obtain ⟨d, hd⟩ : ∃ d, l.length = i + 1 + d := ⟨l.length - (i + 1), by omega⟩
            rw [hd]; exact jst_none hs d
          rw [hn] at hV
          repeat' (first | (refine awK fun _ _ => ?_) | refine Hide.go (by assumption) ?_ | refine end_ret [] ?_; simp [go_sem, hlt, hiQ, hiJ, hkq, hTk, hkT, hkO, hk, hO, hT, hQl] | (fail_if_success with_reducible (refine Owe.mk ?_)); (simp (disch := omega) [go_sem, hlt, hiQ, hiJ, hkq, hTk, hkT, hkO, hk, hO, hT, hQl]))
          all_goals exact hV
      · obtain rfl : i = l.length := by omega
        rw [hj] at hV
        obtain ⟨hO, hT⟩ := jst_len hj
        repeat' (first | (refine awK fun _ _ => ?_) | refine Hide.go (by assumption) ?_ | refine end_ret [30] ?_; simp [go_sem, hO, hQl] | (fail_if_success with_reducible (refine Owe.mk ?_)); (simp (disch := omega) [go_sem, hO, hQl]))
        all_goals exact hV
    · rw [if_neg fun h => hJ h.2]
      refine acall_of_awp Tryz.func12 Tryz.call12 rfl (by simp [Tryz.ntmps12]) ?_; simp only [Tryz.ntmps12, Tryz.results12]
      repeat' (first | (refine awK fun _ _ => ?_) | refine Hide.go (by assumption) ?_ | refine zqn ?_ ?_ <;> (intro h; first | (exfalso; omega) | (simp only [h, decide_true, decide_false, not_false_eq_true])) | refine end_ret [] ?_; simp [go_sem, hJ] | refine stepK_is rfl (hr) (by simp) ?_ | (fail_if_success with_reducible (refine Owe.mk ?_)); (simp (disch := omega) [go_sem, hJ]))
      all_goals rfl
  · rw [if_neg fun h => hall h.1]
    unfold rolV at hr
    rw [if_neg hall] at hr
    refine acall_of_awp Tryz.func12 Tryz.call12 rfl (by simp [Tryz.ntmps12]) ?_; simp only [Tryz.ntmps12, Tryz.results12]
    repeat' (first | (refine awK fun _ _ => ?_) | refine Hide.go (by assumption) ?_ | refine end_ret [] ?_; simp [go_sem] | refine stepK_is rfl (hr) (by simp) ?_ | (fail_if_success with_reducible (refine Owe.mk ?_)); (simp (disch := omega) [go_sem]))
    all_goals rfl
theorem OrbitImages_of (hal : ACall Tryz.prog 10 [] (fun r => r = bl true)) (p : List Pr) (s l J : List Tm) (fs fl fj : Bool) (hbl : l.length ≤ 140737488355328) (hbj : J.length ≤ 140737488355328) :
    ACall Tryz.prog 3 [.list false false (p.map ePr), .list false fs (s.map eTm), .agg [.list false fl (l.map eTm), .list false fj (J.map eTm)]] (fun r => r = bl true) := by
  have h1 := fit_ok [p] s true false false fs
  have h2 := SmallTerms_ok l false fl 20 (by decide)
  have h3 := SmallTerms_ok J false fj 20 (by decide)
  simp only [List.map_cons, List.map_nil, eG] at h1
  have hlenT : True := trivial
  cases hf : fitB [p] s
  · rw [hf] at h1
    refine acall_of_awp Tryz.func3 Tryz.call3 rfl (by simp [Tryz.ntmps3]) ?_; simp only [Tryz.ntmps3, Tryz.results3]
    repeat' (first | (refine awK fun _ _ => ?_) | refine Hide.go (by assumption) ?_ | refine end_ret [] ?_; simp [go_sem, hlenT] | refine stepK_is rfl (hal) (by simp) ?_ | refine stepK_is rfl (h1) (by simp) ?_ | (fail_if_success with_reducible (refine Owe.mk ?_)); (simp (disch := omega) [go_sem, hlenT]))
  · rw [hf] at h1
    by_cases q1 : (6 : Int) < l.length
    · refine acall_of_awp Tryz.func3 Tryz.call3 rfl (by simp [Tryz.ntmps3]) ?_; simp only [Tryz.ntmps3, Tryz.results3]
      repeat' (first | (refine awK fun _ _ => ?_) | refine Hide.go (by assumption) ?_ | refine end_ret [] ?_; simp [go_sem, hlenT, q1] | refine stepK_is rfl (hal) (by simp) ?_ | refine stepK_is rfl (h1) (by simp) ?_ | (fail_if_success with_reducible (refine Owe.mk ?_)); (simp (disch := omega) [go_sem, hlenT, q1]))
    · by_cases q2 : (6 : Int) < J.length
      · refine acall_of_awp Tryz.func3 Tryz.call3 rfl (by simp [Tryz.ntmps3]) ?_; simp only [Tryz.ntmps3, Tryz.results3]
        repeat' (first | (refine awK fun _ _ => ?_) | refine Hide.go (by assumption) ?_ | refine end_ret [] ?_; simp [go_sem, hlenT, q1, q2] | refine stepK_is rfl (hal) (by simp) ?_ | refine stepK_is rfl (h1) (by simp) ?_ | (fail_if_success with_reducible (refine Owe.mk ?_)); (simp (disch := omega) [go_sem, hlenT, q1, q2]))
      · cases hs : smallL 20 l
        · rw [hs] at h2
          refine acall_of_awp Tryz.func3 Tryz.call3 rfl (by simp [Tryz.ntmps3]) ?_; simp only [Tryz.ntmps3, Tryz.results3]
          repeat' (first | (refine awK fun _ _ => ?_) | refine Hide.go (by assumption) ?_ | refine end_ret [] ?_; simp [go_sem, hlenT, q1, q2] | refine stepK_is rfl (hal) (by simp) ?_ | refine stepK_is rfl (h1) (by simp) ?_ | refine stepK_is rfl (h2) (by simp) ?_ | (fail_if_success with_reducible (refine Owe.mk ?_)); (simp (disch := omega) [go_sem, hlenT, q1, q2]))
        · rw [hs] at h2
          cases hj : smallL 20 J
          · rw [hj] at h3
            refine acall_of_awp Tryz.func3 Tryz.call3 rfl (by simp [Tryz.ntmps3]) ?_; simp only [Tryz.ntmps3, Tryz.results3]
            repeat' (first | (refine awK fun _ _ => ?_) | refine Hide.go (by assumption) ?_ | refine end_ret [] ?_; simp [go_sem, hlenT, q1, q2] | refine stepK_is rfl (hal) (by simp) ?_ | refine stepK_is rfl (h1) (by simp) ?_ | refine stepK_is rfl (h2) (by simp) ?_ | refine stepK_is rfl (h3) (by simp) ?_ | (fail_if_success with_reducible (refine Owe.mk ?_)); (simp (disch := omega) [go_sem, hlenT, q1, q2]))
          · rw [hj] at h3
            obtain ⟨g1, g2, g3, g4, g5⟩ := fitB_facts hf
            obtain ⟨l1, l2⟩ := small20 hs
            obtain ⟨j1, j2⟩ := small20 hj
            have hzs : ∀ t ∈ s, t.size ≤ 1000000 := fun t h => by have := g4 t h; omega
            have hzl : ∀ t ∈ l, t.size ≤ 1000000 := fun t h => by have := l2 t h; omega
            have hzj : ∀ t ∈ J, t.size ≤ 1000000 := fun t h => by have := j2 t h; omega
            have k1 := Joint_ok p l J false false false fl false fj (by omega) (by omega) hzl hzj
            have k2 := refJoint_ok p l J false false false fl false fj (by omega) (by omega) hzl hzj
            have k3 := (State_ok p s false false false fs (by omega) hzs).frz
            have k4 := (refState_ok p s false false false fs (by omega) hzs).frz
            have k5 := plainTermsD_ok (stF p s) (stF p s) false false false false
            rw [decide_eq_true rfl] at k5
            generalize stF p s = S at *
            cases hx : jntF p l J with
            | none =>
              rw [hx] at k1 k2
              have k6 := plainTermsD_ok [] [] false true false true
              rw [decide_eq_true rfl] at k6
              simp only [List.map_nil] at k6
              refine acall_of_awp Tryz.func3 Tryz.call3 rfl (by simp [Tryz.ntmps3]) ?_; simp only [Tryz.ntmps3, Tryz.results3]
              repeat' (first | (refine awK fun _ _ => ?_) | refine Hide.go (by assumption) ?_ | refine end_ret [] ?_; simp [go_sem, hlenT, q1, q2, jntV] | refine stepK_is rfl (hal) (by simp) ?_ | refine stepK_is rfl (h1) (by simp) ?_ | refine stepK_is rfl (h2) (by simp) ?_ | refine stepK_is rfl (h3) (by simp) ?_ | refine stepK_is rfl (k1) (by simp) ?_ | refine stepK_is rfl (k2) (by simp) ?_ | refine stepK_is rfl (k3) (by simp) ?_ | refine stepK_is rfl (k4) (by simp) ?_ | refine stepK_is rfl (k5) (by simp) ?_ | refine stepK_is rfl (k6) (by simp) ?_ | (fail_if_success with_reducible (refine Owe.mk ?_)); (simp (disch := omega) [go_sem, hlenT, q1, q2, jntV]))
            | some y =>
              obtain ⟨O, T⟩ := y
              rw [hx] at k1 k2
              have k6 := plainTermsD_ok O O false false false false
              rw [decide_eq_true rfl] at k6
              refine acall_of_awp Tryz.func3 Tryz.call3 rfl (by simp [Tryz.ntmps3]) ?_; simp only [Tryz.ntmps3, Tryz.results3]
              repeat' (first | (refine awK fun _ _ => ?_) | refine Hide.go (by assumption) ?_ | refine end_ret [] ?_; simp [go_sem, hlenT, q1, q2, jntV] | refine stepK_is rfl (hal) (by simp) ?_ | refine stepK_is rfl (h1) (by simp) ?_ | refine stepK_is rfl (h2) (by simp) ?_ | refine stepK_is rfl (h3) (by simp) ?_ | refine stepK_is rfl (k1) (by simp) ?_ | refine stepK_is rfl (k2) (by simp) ?_ | refine stepK_is rfl (k3) (by simp) ?_ | refine stepK_is rfl (k4) (by simp) ?_ | refine stepK_is rfl (k5) (by simp) ?_ | refine stepK_is rfl (k6) (by simp) ?_ | (fail_if_success with_reducible (refine Owe.mk ?_)); (simp (disch := omega) [go_sem, hlenT, q1, q2, jntV]))
theorem OrbitImages_ok (p : List Pr) (s : List Tm) (t : List Tm × List Tm) (_ _ : True) (h : t.1.length ≤ maxRow ∧ t.2.length ≤ maxRow) : ACall Tryz.prog 3 [.list false false (p.map ePr), .list false false (s.map eTm), .agg [.list false false (t.1.map eTm), .list false false (t.2.map eTm)]] (fun r => r = bl true) :=
  OrbitImages_of alive_ok p s t.1 t.2 false false false h.1 h.2
open Go.RowKit
section
variable {H : Type} {enc : TypeId × Value → H} {W : World}
theorem came_term_terms : ∀ n : Nat, Came enc Tryz.prog W n 48 eT (fun _ => True) ∧ Came enc Tryz.prog W n 24 (fun l : List Tm => .list false false (l.map eTm)) (fun _ => True)
  | 0 => ⟨Came.zero, Came.zero⟩
  | n + 1 => by
    obtain ⟨h1, h2⟩ := came_term_terms n
    refine ⟨(Came.struct Tryz.underlying48 rfl (by kernel_rfl) (CameF.cons 1 rfl (by kernel_rfl) (Came.string Tryz.underlying9) (CameF.cons 1 rfl (by kernel_rfl) h2 CameF.nil))).map (fun x => Tm.mk x.1 x.2.1) (fun x h => ⟨trivial, rfl⟩), ?_⟩
    refine (Came.slice Tryz.underlying24 (by decide +kernel) (by decide +kernel) h1).map (fun x => x) (fun x h => ⟨trivial, ?_⟩)
    congr 1
    exact List.map_congr_left fun t _ => eTm_eq t
theorem came_terms (n : Nat) : Came enc Tryz.prog W n 24 (fun l : List Tm => .list false false (l.map eTm)) (fun _ => True) := (came_term_terms n).2
end
end Go.Proofs.YtmadpbpmcbdboaaGreat
namespace Go.Ab
open Go
theorem two_of {α : Type} : ∀ {l : List α}, l.length = 2 → ∃ a b, l = [a, b]
  | [a, b], _ => ⟨a, b, rfl⟩
section
variable {H : Type} {enc : TypeId × Value → H} {P : Program} {w : World}
theorem Came.arr2 {n : Nat} {t e : TypeId} {α : Type} {en : α → AV} {ok : α → Prop} (hu : P.underlying t = some (.array 2 e)) (hN : P.cellsOf t = 2) (he : P.cellsOf e = 1) (h1 : Came enc P w n e en ok) :
    Came enc P w (n + 1) t (fun x : α × α => .agg ((en x.1).cells ++ (en x.2).cells)) (fun x => ok x.1 ∧ ok x.2) := by
  intro cs d ps h hw
  rw [DataW.trod_step] at h
  unfold DataW.trodStep at h
  rw [hu] at h
  split at h
  case h_10 cs0 k e' hk =>
    obtain ⟨rfl, rfl⟩ : 2 = k ∧ e = e' := by simpa using hk
    split at h
    · rename_i hc
      rw [hN] at hc
      simp only [Option.map_eq_some_iff] at h
      obtain ⟨xs, hx, hd⟩ := h
      obtain ⟨rfl, rfl⟩ := Prod.mk.inj hd
      rw [he] at hx
      obtain ⟨u, v, rfl⟩ := two_of hc
      ·
        rw [show List.range 2 = [0, 1] from rfl] at hx
        simp only [List.mapM_cons, List.mapM_nil] at hx
        simp only [Nat.zero_mul, Nat.one_mul, List.drop_zero, List.take_succ_cons, List.take_zero, List.drop_succ_cons] at hx
        cases hy : DataW.trod enc P w 0 (fun _ => true) true n e [u] with
        | none => simp [hy] at hx
        | some y =>
          cases hz : DataW.trod enc P w 0 (fun _ => true) true n e [v] with
          | none => simp [hy, hz] at hx
          | some z =>
            simp [hy, hz] at hx
            subst hx
            obtain ⟨a, a1, a2⟩ := h1 _ y.1 y.2 hy (fun m hm => hw m (by simp [DataW.weights, hu, DataW.weightsAll, hm]))
            obtain ⟨b, b1, b2⟩ := h1 _ z.1 z.2 hz (fun m hm => hw m (by simp [DataW.weights, hu, DataW.weightsAll, hm]))
            exact ⟨(a, b), ⟨a1, b1⟩, a2.append b2⟩
    · cases h
  all_goals simp_all
end
end Go.Ab
namespace Go.Proofs.YtmadpbpmcbdboaaGreat
open Go.Ab Go.RowKit
section
variable {H : Type} {enc : TypeId × Value → H} {W : World}
theorem came_two (n : Nat) : Came enc Tryz.prog W n 25 (fun x : List Tm × List Tm => .agg [.list false false (x.1.map eTm), .list false false (x.2.map eTm)]) (fun x => x.1.length ≤ maxRow ∧ x.2.length ≤ maxRow) := by
  cases n with
  | zero => exact Came.zero
  | succ n => exact (Came.arr2 Tryz.underlying25 (by kernel_rfl) (by kernel_rfl) (came_terms n).len).map (fun x => x) (fun x h => ⟨⟨h.1.2, h.2.2⟩, rfl⟩)
end
end Go.Proofs.YtmadpbpmcbdboaaGreat
