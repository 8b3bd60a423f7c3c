/-
  Cst3: the constants of terms.
-/
import Derived.Test.YtldecgghhaoliaaCst2
import Derived.Test.YtldecgghhaoliaaTerm10
import Derived.Shelf.SlicesE.Compact
import Derived.Ground.SlgnProg
namespace Go.Proofs.Ytldecgghhaoliaa
open Go.Ab
set_option linter.unusedSimpArgs false
set_option maxRecDepth 100000
set_option maxHeartbeats 8000000
section
open Go.Shelf Go.Proofs
shelf_lay_g SlLaysE.n43 Slgn 43 at Try 72 as Try.compS
end
def cpt (l : List ByteArray) : List ByteArray := Go.Lib.compactUpTo l.toArray l.length
theorem cpt_next (d : Array ByteArray) (i : Nat) : Go.Lib.compactUpTo d (i + 1) = Go.Lib.compactUpTo d i ++ (if Go.Lib.keeps d i = true then [d[i]!] else []) := by
  unfold Go.Lib.compactUpTo
  rw [List.range_succ, List.filter_append, List.map_append]
  congr 1
  by_cases h : Go.Lib.keeps d i = true <;> simp [h]
theorem cpt_len (d : Array ByteArray) : ∀ i, (Go.Lib.compactUpTo d i).length ≤ i
  | 0 => by simp [Go.Lib.compactUpTo]
  | i + 1 => by
    rw [cpt_next, List.length_append]
    have := cpt_len d i
    split <;> simp <;> omega
def zs : ByteArray := ByteArray.mk #[]
theorem Compact_ok (l : List ByteArray) (hb : l.length ≤ 140737488355328) : MCall Try.prog 72 [.ref 1000 0 l.length] [(1000, rowO eStr 1 0 l)]
    (fun r o' => r = .ref 1001 0 (cpt l).length ∧ o' = [(1001, ⟨true, false, false, 1, (cpt l).map eStr, 0⟩)]) := by
  by_cases hl : l = []
  · subst hl
    have e : cpt [] = [] := rfl
    rw [e]
    refine mcall_of_awpL Try.func72 Try.call72 rfl (by simp [Try.ntmps72]) ?_; simp only [Try.ntmps72, Try.results72]
    repeat' (first
    | (refine awp_seqK (fun K hK => ?_))
    | (refine Hide.go (by assumption) ?_)
    | ((first | refine zqd ?_ ?_ | refine zqn ?_ ?_ | refine zgd ?_ ?_ | refine zgn ?_ ?_ | refine zdd ?_ ?_ | refine zdn ?_ ?_) <;> (intro h; first | (exfalso; omega) | (simp only [h, decide_true, decide_false, not_false_eq_true]) | skip))
    | (refine end_ret [] ?_; simp [go_sem])
    | ((fail_if_success with_reducible (refine Owe.mk ?_)); (simp (disch := omega) [go_sem]))
    | (refine And.intro (by omega) ?_)
    | (refine awp_draw 10 mix (by decide +kernel) ?_)
    | (refine nbI fun bq => ?_)
    | ((first | refine zqm ?_ ?_ | refine zgm ?_ ?_ | refine zdm ?_ ?_) <;> (intro h; simp only [h, Bool.not_true, Bool.not_false]))
    | ((first | refine zqs ?_ ?_ | refine zgs ?_ ?_ | refine zds ?_ ?_) <;> (intro h; first | (exfalso; simp at h; omega) | ((try simp only [h]); (try simp at h))))
    | fail)
    refine endL_ret ⟨61, [(2, .ref 1001 0 0)], [(1001, ⟨true, false, false, 1, [], 0⟩)]⟩ [.ref 1001 0 0] (by refine Le.trans ?_ (Le.move (i := 2) (T := 1000) (T' := 1001) rfl (by show (0 : Nat) ≠ 1; decide) rfl rfl rfl); exact (Le.sub4 rfl (by simp [go_sem]))) (by simp [go_sem]) ⟨rfl, rfl⟩
  · exact compact_bridge (P := Try.prog) (f := 72) Value.string (fun _ => rfl) (fun _ => rfl) 0 (by decide) l (cpt l) zs hl (cpt_len _ _) Try.call72
      (fun blk cap w hH hcap => by
        have h := AnyE.slices_Compact Try.compS Value.string (fun _ => rfl)
          ⟨fun x y w => by rw [(EqlAt.string _ _).1 x y w]; show _ = Result.ok (Value.bool (decide (x = y))) w; rw [← str_eq], (EqlAt.string _ _).2⟩ ⟨fun x y w => by rw [(NeqAt.string _ _).1 x y w]; show _ = Result.ok (Value.bool (!decide (x = y))) w; rw [← str_eq], (NeqAt.string _ _).2⟩ zs (fun w => by rfl) blk 0 cap l.toArray w hH (by simp; omega) (by simpa using hcap)
        exact h)
def leafC (s : ByteArray) : Tm := .mk s []
theorem leafC_inj {x y : ByteArray} : leafC x = leafC y ↔ x = y := ⟨fun h => congrArg Tm.name h, fun h => by rw [h]⟩
theorem cpt_dd (m : List ByteArray) : ∀ i, i ≤ m.length → (Go.Lib.compactUpTo m.toArray i).map leafC = ddP (m.map leafC) i
  | 0, _ => rfl
  | i + 1, hi => by
    have hi' : i < m.length := by omega
    have hl : i < (m.map leafC).length := by rw [List.length_map]; exact hi'
    rw [cpt_next, List.map_append, cpt_dd m i (by omega), ddP_next hl]
    have e1 : m.toArray[i]! = m[i] := by simp [hi']
    have e2 : (m.map leafC)[i] = leafC m[i] := by simp
    rw [e2]
    by_cases h0 : i = 0
    · have hk : Go.Lib.keeps m.toArray i = true := by simp [Go.Lib.keeps, h0]
      rw [if_pos hk, if_pos (.inl h0), e1]; rfl
    · have h1 : i - 1 < m.length := by omega
      have e3 : (m.map leafC).getD (i - 1) (leafC m[i]) = leafC m[i - 1] := by
        rw [List.getD_eq_getElem?_getD, List.getElem?_eq_getElem (by simpa using h1)]; simp
      have e4 : m.toArray[i - 1]! = m[i - 1] := by simp [h1]
      rw [e3]
      have hz : cmpT (leafC m[i - 1]) (leafC m[i]) = 0 ↔ m[i - 1] = m[i] := by rw [cmp_zero, leafC_inj]
      by_cases hk : m[i - 1] = m[i]
      · have hk' : ¬ Go.Lib.keeps m.toArray i = true := by simp [Go.Lib.keeps, h0, e1, e4, hk]
        rw [if_neg hk', if_neg (by rw [hz.2 hk]; simp [h0])]; simp
      · have hk' : Go.Lib.keeps m.toArray i = true := by
          unfold Go.Lib.keeps
          rw [decide_eq_true_eq, e1, e4]
          exact .inr fun e => hk e.symm
        rw [if_pos hk', if_pos (.inr fun e => hk (hz.1 e)), e1]; rfl
def csT (l : List Tm) : List ByteArray := (lvsS l).filter constS
/-- The constants, ascending, each once. -/
def cstT (l : List Tm) : List ByteArray := (sortT ((csT l).map leafC)).map Tm.name
theorem cpt_cst {l : List Tm} {m : List ByteArray} (hp : m.Perm (csT l)) (hs : m.Pairwise (fun x y => cmpS x y ≤ 0)) : cpt m = cstT l := by
  have h1 : (m.map leafC).Perm ((csT l).map leafC) := hp.map _
  have h2 : SrtOn cmpT (m.map leafC) 0 ((csT l).map leafC).length := by
    rw [← h1.length_eq]
    intro i j x y _ hij hj hx hy
    rw [List.length_map] at hj
    have hi : i < m.length := by omega
    rw [List.getElem?_map, List.getElem?_eq_getElem hi] at hx
    rw [List.getElem?_map, List.getElem?_eq_getElem hj] at hy
    simp only [Option.map_some, Option.some.injEq] at hx hy
    subst hx hy
    exact List.pairwise_iff_getElem.1 hs i j hi hj hij
  have h3 := ddP_sort h1 h2
  unfold cstT cpt
  rw [← h3, List.length_map, ← cpt_dd m m.length (Nat.le_refl _), List.map_map]
  have : Tm.name ∘ leafC = id := rfl
  rw [this, List.map_id]
theorem filter_next {p : ByteArray → Bool} {L : List ByteArray} {j : Nat} (h : j < L.length) : (L.take (j + 1)).filter p = (L.take j).filter p ++ (if p L[j] = true then [L[j]] else []) := by
  rw [take_next h, List.filter_append]
  congr 1
  by_cases hp : p L[j] = true <;> simp [hp]
def fdC (A L : List ByteArray) (j : Nat) : List ByteArray := A ++ (L.take j).filter constS
theorem fdC_zero (A L : List ByteArray) : fdC A L 0 = A := by simp [fdC]
theorem fdC_all (A L : List ByteArray) : fdC A L L.length = A ++ L.filter constS := by simp [fdC]
theorem fdC_next {A L : List ByteArray} {j : Nat} (h : j < L.length) : fdC A L (j + 1) = fdC A L j ++ (if constS L[j] = true then [L[j]] else []) := by
  unfold fdC; rw [filter_next h, List.append_assoc]
theorem fdC_le (A L : List ByteArray) (j : Nat) : (fdC A L j).length ≤ A.length + j := by
  unfold fdC
  rw [List.length_append]
  have := List.length_filter_le constS (L.take j)
  rw [List.length_take] at this
  omega
theorem csT_next {l : List Tm} {i : Nat} (h : i < l.length) : csT (l.take (i + 1)) = csT (l.take i) ++ (lvs l[i]).filter constS := by
  unfold csT; rw [lvsS_next h, List.filter_append]
theorem csT_le (l : List Tm) : (csT l).length ≤ (lvsS l).length := List.length_filter_le _ _
theorem csT_nil : csT [] = [] := rfl
theorem number_ok' (s : ByteArray) : ACall Try.prog 69 [.sc (.string s)] (fun r => r = bl (numS s).2) := number_ok s
theorem Constants_ok (l : List Tm) (le fu : Bool) (hb : (lvsS l).length ≤ 1000000) : ACall Try.prog 42 [.list le fu (l.map eTm)] (fun r => r = .own 1 ((cstT l).map eStr)) := by
  have hge := lvsS_ge l
  refine acall_of_awp Try.func42 Try.call42 rfl (by simp [Try.ntmps42]) ?_; simp only [Try.ntmps42, Try.results42]
  repeat' (first
    | (refine awp_seqK (fun K hK => ?_))
    | (refine Hide.go (by assumption) ?_)
    | ((first | refine zqd ?_ ?_ | refine zqn ?_ ?_ | refine zgd ?_ ?_ | refine zgn ?_ ?_ | refine zdd ?_ ?_ | refine zdn ?_ ?_) <;> (intro h; first | (exfalso; omega) | (simp only [h, decide_true, decide_false, not_false_eq_true]) | skip))
    | (refine end_ret [] ?_; simp [go_sem])
    | ((fail_if_success with_reducible (refine Owe.mk ?_)); (simp (disch := omega) [go_sem]))
    | (refine And.intro (by omega) ?_)
    | (refine nbI fun bq => ?_)
    | ((first | refine zqm ?_ ?_ | refine zgm ?_ ?_ | refine zdm ?_ ?_) <;> (intro h; simp only [h, Bool.not_true, Bool.not_false]))
    | ((first | refine zqs ?_ ?_ | refine zgs ?_ ?_ | refine zds ?_ ?_) <;> (intro h; first | (exfalso; simp at h; omega) | ((try simp only [h]); (try simp at h))))
    | fail)
  refine awp_for [8, 9] [900] (fun i : Nat => [(10, nt .i64 i), (3, .ref 900 0 (csT (l.take i)).length)]) (fun i : Nat => [(900, ⟨true, false, false, 1, (csT (l.take i)).map eStr, 0⟩)]) (fun i : Nat => l.length - i) (fun i : Nat => i ≤ l.length) (0) (by refine Le.trans ?_ (Le.nil (i := 3) (T := 900) (es := 1) rfl); exact (Le.sub4 rfl (by simp [go_sem, csT_nil, List.take_zero, List.map_nil]))) ⟨?_⟩ ?_
  · exact Nat.zero_le _
  intro i hi AA hAA; simp only [Go.Ab.keepT_nil, Go.Ab.keepT_cons, Go.Ab.dropO_nil, Go.Ab.dropO_cons, List.contains_cons, List.contains_nil, List.elem_cons, List.elem_nil, Nat.reduceBEq, beq_self_eq_true, Nat.reduceEqDiff, Bool.or_false, Bool.false_or, Bool.or_true, Bool.true_or, Bool.false_eq_true, if_true, if_false, List.cons_append, List.nil_append, List.append_nil]
  by_cases hlt : i < l.length
  · have hB := hAA
    have hlv := lvsS_get hlt
    have hcl := leaves_ok l[i] (by omega)
    have hn := csT_next hlt
    have hl0 := csT_le (l.take i)
    have hl2 := lvsS_take_le l (i + 1)
    rw [lvsS_next hlt, List.length_append] at hl2
    generalize csT (l.take i) = A at *
    generalize lvs l[i] = L at *
    repeat' (first
    | (refine awp_seqK (fun K hK => ?_))
    | (refine Hide.go (by assumption) ?_)
    | ((first | refine zqd ?_ ?_ | refine zqn ?_ ?_ | refine zgd ?_ ?_ | refine zgn ?_ ?_ | refine zdd ?_ ?_ | refine zdn ?_ ?_) <;> (intro h; first | (exfalso; omega) | (simp only [h, decide_true, decide_false, not_false_eq_true]) | skip))
    | (refine end_ret [] ?_; simp [go_sem, hlt])
    | (refine stepK_is rfl (hcl) (by simp) ?_)
    | (refine dstepK_is rfl (hcl) rfl (by simp) ?_)
    | ((fail_if_success with_reducible (refine Owe.mk ?_)); (simp (disch := omega) [go_sem, hlt]))
    | (refine And.intro (by omega) ?_)
    | (refine nbI fun bq => ?_)
    | ((first | refine zqm ?_ ?_ | refine zgm ?_ ?_ | refine zdm ?_ ?_) <;> (intro h; simp only [h, Bool.not_true, Bool.not_false]))
    | ((first | refine zqs ?_ ?_ | refine zgs ?_ ?_ | refine zds ?_ ?_) <;> (intro h; first | (exfalso; simp at h; omega) | ((try simp only [h]); (try simp at h))))
    | fail)
    refine awp_for [8, 9, 10, 15, 16] [900, 5] (fun j : Nat => [(17, nt .i64 j), (3, .ref 900 0 (fdC A L j).length)]) (fun j : Nat => [(900, ⟨true, false, false, 1, (fdC A L j).map eStr, 0⟩)]) (fun j : Nat => L.length - j) (fun j : Nat => j ≤ L.length) (0) (Le.renSub [] [] (by simp [go_sem, fdC_zero]) (by simp [go_sem, fdC_zero]) (Le.sub4 rfl (by simp [go_sem, fdC_zero]))) ⟨?_⟩ ?_
    · exact Nat.zero_le _
    intro j hj AA hAA; simp only [Go.Ab.keepT_nil, Go.Ab.keepT_cons, Go.Ab.dropO_nil, Go.Ab.dropO_cons, List.contains_cons, List.contains_nil, List.elem_cons, List.elem_nil, Nat.reduceBEq, beq_self_eq_true, Nat.reduceEqDiff, Bool.or_false, Bool.false_or, Bool.or_true, Bool.true_or, Bool.false_eq_true, if_true, if_false, List.cons_append, List.nil_append, List.append_nil]
    by_cases hjl : j < L.length
    · have h1 := Name_ok L[j]
      have h2 := number_ok L[j]
      have hz := fdC_next (A := A) hjl
      have hfl := fdC_le A L j
      have hcs : constS L[j] = (nameS L[j] || (numS L[j]).2) := rfl
      generalize fdC A L j = X at *
      cases hv : nameS L[j] with
      | true =>
        rw [hv] at h1
        rw [hcs, hv, Bool.true_or, if_pos rfl] at hz
        repeat' (first
    | (refine awp_seqK (fun K hK => ?_))
    | (refine Hide.go (by assumption) ?_)
    | ((first | refine zqd ?_ ?_ | refine zqn ?_ ?_ | refine zgd ?_ ?_ | refine zgn ?_ ?_ | refine zdd ?_ ?_ | refine zdn ?_ ?_) <;> (intro h; first | (exfalso; omega) | (simp only [h, decide_true, decide_false, not_false_eq_true]) | skip))
    | (refine end_ret [] ?_; simp [go_sem, hjl, eStr])
    | (refine stepK_is rfl (h1) (by simp) ?_)
    | (refine dstepK_is rfl (h1) rfl (by simp) ?_)
    | (refine stepK_is rfl (h2) (by simp) ?_)
    | (refine dstepK_is rfl (h2) rfl (by simp) ?_)
    | (refine (hAA.next (j + 1) (Le.sub4 rfl (by simp [go_sem, hz, eStr])) (by (try dsimp only); omega) ?_))
    | ((fail_if_success with_reducible (refine Owe.mk ?_)); (simp (disch := omega) [go_sem, hjl, eStr]))
    | (refine And.intro (by omega) ?_)
    | (refine nbI fun bq => ?_)
    | ((first | refine zqm ?_ ?_ | refine zgm ?_ ?_ | refine zdm ?_ ?_) <;> (intro h; simp only [h, Bool.not_true, Bool.not_false]))
    | ((first | refine zqs ?_ ?_ | refine zgs ?_ ?_ | refine zds ?_ ?_) <;> (intro h; first | (exfalso; simp at h; omega) | ((try simp only [h]); (try simp at h))))
    | fail)
        all_goals (first | omega | skip)
        exact ⟨hjl⟩
      | false =>
        rw [hv] at h1
        cases hm : (numS L[j]).2 with
        | true =>
          rw [hm] at h2
          rw [hcs, hv, hm, Bool.false_or, if_pos rfl] at hz
          repeat' (first
    | (refine awp_seqK (fun K hK => ?_))
    | (refine Hide.go (by assumption) ?_)
    | ((first | refine zqd ?_ ?_ | refine zqn ?_ ?_ | refine zgd ?_ ?_ | refine zgn ?_ ?_ | refine zdd ?_ ?_ | refine zdn ?_ ?_) <;> (intro h; first | (exfalso; omega) | (simp only [h, decide_true, decide_false, not_false_eq_true]) | skip))
    | (refine end_ret [] ?_; simp [go_sem, hjl, eStr])
    | (refine stepK_is rfl (h1) (by simp) ?_)
    | (refine dstepK_is rfl (h1) rfl (by simp) ?_)
    | (refine stepK_is rfl (h2) (by simp) ?_)
    | (refine dstepK_is rfl (h2) rfl (by simp) ?_)
    | (refine (hAA.next (j + 1) (Le.sub4 rfl (by simp [go_sem, hz, eStr])) (by (try dsimp only); omega) ?_))
    | ((fail_if_success with_reducible (refine Owe.mk ?_)); (simp (disch := omega) [go_sem, hjl, eStr]))
    | (refine And.intro (by omega) ?_)
    | (refine nbI fun bq => ?_)
    | ((first | refine zqm ?_ ?_ | refine zgm ?_ ?_ | refine zdm ?_ ?_) <;> (intro h; simp only [h, Bool.not_true, Bool.not_false]))
    | ((first | refine zqs ?_ ?_ | refine zgs ?_ ?_ | refine zds ?_ ?_) <;> (intro h; first | (exfalso; simp at h; omega) | ((try simp only [h]); (try simp at h))))
    | fail)
          all_goals (first | omega | skip)
          exact ⟨hjl⟩
        | false =>
          rw [hm] at h2
          rw [hcs, hv, hm, Bool.false_or, if_neg (by decide), List.append_nil] at hz
          repeat' (first
    | (refine awp_seqK (fun K hK => ?_))
    | (refine Hide.go (by assumption) ?_)
    | ((first | refine zqd ?_ ?_ | refine zqn ?_ ?_ | refine zgd ?_ ?_ | refine zgn ?_ ?_ | refine zdd ?_ ?_ | refine zdn ?_ ?_) <;> (intro h; first | (exfalso; omega) | (simp only [h, decide_true, decide_false, not_false_eq_true]) | skip))
    | (refine end_ret [] ?_; simp [go_sem, hjl, eStr])
    | (refine stepK_is rfl (h1) (by simp) ?_)
    | (refine dstepK_is rfl (h1) rfl (by simp) ?_)
    | (refine stepK_is rfl (h2) (by simp) ?_)
    | (refine dstepK_is rfl (h2) rfl (by simp) ?_)
    | (refine (hAA.next (j + 1) (Le.sub4 rfl (by simp [go_sem, hz])) (by (try dsimp only); omega) ?_))
    | ((fail_if_success with_reducible (refine Owe.mk ?_)); (simp (disch := omega) [go_sem, hjl, eStr]))
    | (refine And.intro (by omega) ?_)
    | (refine nbI fun bq => ?_)
    | ((first | refine zqm ?_ ?_ | refine zgm ?_ ?_ | refine zdm ?_ ?_) <;> (intro h; simp only [h, Bool.not_true, Bool.not_false]))
    | ((first | refine zqs ?_ ?_ | refine zgs ?_ ?_ | refine zds ?_ ?_) <;> (intro h; first | (exfalso; simp at h; omega) | ((try simp only [h]); (try simp at h))))
    | fail)
          all_goals (first | omega | skip)
          exact ⟨hjl⟩
    · obtain rfl : j = L.length := by omega
      rw [fdC_all, ← hn]
      repeat' (first
    | (refine awp_seqK (fun K hK => ?_))
    | (refine Hide.go (by assumption) ?_)
    | ((first | refine zqd ?_ ?_ | refine zqn ?_ ?_ | refine zgd ?_ ?_ | refine zgn ?_ ?_ | refine zdd ?_ ?_ | refine zdn ?_ ?_) <;> (intro h; first | (exfalso; omega) | (simp only [h, decide_true, decide_false, not_false_eq_true]) | skip))
    | (refine end_ret [] ?_; simp [go_sem])
    | (refine (hB.next (i + 1) (Le.sub4 rfl (by simp [go_sem])) (by (try dsimp only); omega) ?_))
    | ((fail_if_success with_reducible (refine Owe.mk ?_)); (simp (disch := omega) [go_sem]))
    | (refine And.intro (by omega) ?_)
    | (refine nbI fun bq => ?_)
    | ((first | refine zqm ?_ ?_ | refine zgm ?_ ?_ | refine zdm ?_ ?_) <;> (intro h; simp only [h, Bool.not_true, Bool.not_false]))
    | ((first | refine zqs ?_ ?_ | refine zgs ?_ ?_ | refine zds ?_ ?_) <;> (intro h; first | (exfalso; simp at h; omega) | ((try simp only [h]); (try simp at h))))
    | fail)
      all_goals (first | omega | skip)
      exact ⟨hlt⟩
  · obtain rfl : i = l.length := by omega
    rw [List.take_length]
    have hcl := csT_le l
    have hso := SortFunc_ok (csT l) (by omega)
    have hfin : ∀ m : List ByteArray, m.Perm (csT l) → m.Pairwise (fun x y => cmpS x y ≤ 0) → cpt m = cstT l := fun m => cpt_cst
    generalize csT l = K at *
    repeat' (first
    | (refine awp_seqK (fun K hK => ?_))
    | (refine Hide.go (by assumption) ?_)
    | ((first | refine zqd ?_ ?_ | refine zqn ?_ ?_ | refine zgd ?_ ?_ | refine zgn ?_ ?_ | refine zdd ?_ ?_ | refine zdn ?_ ?_) <;> (intro h; first | (exfalso; omega) | (simp only [h, decide_true, decide_false, not_false_eq_true]) | skip))
    | (refine end_ret [] ?_; simp [go_sem])
    | ((fail_if_success with_reducible (refine Owe.mk ?_)); (simp (disch := omega) [go_sem]))
    | (refine And.intro (by omega) ?_)
    | (refine nbI fun bq => ?_)
    | ((first | refine zqm ?_ ?_ | refine zgm ?_ ?_ | refine zdm ?_ ?_) <;> (intro h; simp only [h, Bool.not_true, Bool.not_false]))
    | ((first | refine zqs ?_ ?_ | refine zgs ?_ ?_ | refine zds ?_ ?_) <;> (intro h; first | (exfalso; simp at h; omega) | ((try simp only [h]); (try simp at h))))
    | fail)
    refine stepK_fex [(1000, 900)] [(900, 1000)] 10000 _ _ (Fits.mk' (by simp [go_sem]) (by simp [go_sem])) (by simp [go_sem]) (by simp [go_sem]) (hso) (by simp [go_sem]) (by intros; simp [go_sem]) ?_; intro m hm
    have hml := hm.1.length_eq
    have hco := Compact_ok m (by omega)
    rw [hfin m hm.1 hm.2] at hco
    have hcl2 : (cstT l).length ≤ m.length := by rw [← hfin m hm.1 hm.2]; exact cpt_len _ _
    rw [← hml]
    generalize cstT l = Z at *
    repeat' (first
    | (refine awp_seqK (fun K hK => ?_))
    | (refine Hide.go (by assumption) ?_)
    | ((first | refine zqd ?_ ?_ | refine zqn ?_ ?_ | refine zgd ?_ ?_ | refine zgn ?_ ?_ | refine zdd ?_ ?_ | refine zdn ?_ ?_) <;> (intro h; first | (exfalso; omega) | (simp only [h, decide_true, decide_false, not_false_eq_true]) | skip))
    | (refine end_ret [] ?_; simp [go_sem])
    | ((fail_if_success with_reducible (refine Owe.mk ?_)); (simp (disch := omega) [go_sem]))
    | (refine And.intro (by omega) ?_)
    | (refine nbI fun bq => ?_)
    | ((first | refine zqm ?_ ?_ | refine zgm ?_ ?_ | refine zdm ?_ ?_) <;> (intro h; simp only [h, Bool.not_true, Bool.not_false]))
    | ((first | refine zqs ?_ ?_ | refine zgs ?_ ?_ | refine zds ?_ ?_) <;> (intro h; first | (exfalso; simp at h; omega) | ((try simp only [h]); (try simp at h))))
    | fail)
    refine stepK_fis [(1000, 900)] [(900, 1000)] 20000 _ _ (Fits.mk' (by simp [go_sem]) (by simp [go_sem])) (by simp [go_sem]) (by simp [go_sem]) (hco) (by simp [go_sem]) (by simp [go_sem]) ?_
    repeat' (first
    | (refine awp_seqK (fun K hK => ?_))
    | (refine Hide.go (by assumption) ?_)
    | ((first | refine zqd ?_ ?_ | refine zqn ?_ ?_ | refine zgd ?_ ?_ | refine zgn ?_ ?_ | refine zdd ?_ ?_ | refine zdn ?_ ?_) <;> (intro h; first | (exfalso; omega) | (simp only [h, decide_true, decide_false, not_false_eq_true]) | skip))
    | (refine end_ret [] ?_; simp [go_sem])
    | ((fail_if_success with_reducible (refine Owe.mk ?_)); (simp (disch := omega) [go_sem]))
    | (refine And.intro (by omega) ?_)
    | (refine nbI fun bq => ?_)
    | ((first | refine zqm ?_ ?_ | refine zgm ?_ ?_ | refine zdm ?_ ?_) <;> (intro h; simp only [h, Bool.not_true, Bool.not_false]))
    | ((first | refine zqs ?_ ?_ | refine zgs ?_ ?_ | refine zds ?_ ?_) <;> (intro h; first | (exfalso; simp at h; omega) | ((try simp only [h]); (try simp at h))))
    | fail)
end Go.Proofs.Ytldecgghhaoliaa
