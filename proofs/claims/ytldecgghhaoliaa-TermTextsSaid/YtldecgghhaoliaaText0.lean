/-
  Text0: the text of a term, plainly; the builder's text.
-/
import Derived.Test.YtldecgghhaoliaaTerm1
import Derived.Test.YtldecgghhaoliaaBld
namespace Go.Proofs.Ytldecgghhaoliaa
open Go.Ab
set_option linter.unusedSimpArgs false
set_option maxRecDepth 100000
set_option maxHeartbeats 4000000
mutual
def txt : Tm → List UInt8
  | .mk s ts => if ts.length = 0 then bytesS s else bytesS s ++ 40 :: ((txtS ts).tail ++ [41])
/-- Each with a comma ahead. -/
def txtS : List Tm → List UInt8
  | [] => []
  | t :: r => 44 :: (txt t ++ txtS r)
end
theorem txt_mk {s : ByteArray} {ts : List Tm} : txt (.mk s ts) = if ts.length = 0 then bytesS s else bytesS s ++ 40 :: ((txtS ts).tail ++ [41]) := rfl
theorem txtS_append : ∀ a b : List Tm, txtS (a ++ b) = txtS a ++ txtS b
  | [], b => by simp [txtS]
  | t :: r, b => by simp [txtS, txtS_append r b]
theorem txtS_ne {l : List Tm} (h : l ≠ []) : txtS l ≠ [] := by
  cases l with
  | nil => exact absurd rfl h
  | cons t r => simp [txtS]
theorem txtS_first {ts : List Tm} (h : 0 < ts.length) : (txtS (ts.take 1)).tail = txt ts[0] := by
  cases ts with
  | nil => simp at h
  | cons t r => simp [txtS]
theorem txtS_next {ts : List Tm} {i : Nat} (h : i < ts.length) (h0 : 0 < i) : (txtS (ts.take (i + 1))).tail = (txtS (ts.take i)).tail ++ 44 :: txt ts[i] := by
  rw [take_next h, txtS_append, List.tail_append_of_ne_nil]
  · simp [txtS]
  · refine txtS_ne fun e => ?_
    have := congrArg List.length e
    rw [List.length_take] at this
    simp only [List.length_nil] at this
    omega
theorem txtS_take_le (ts : List Tm) (i : Nat) : (txtS (ts.take i)).tail.length ≤ (txtS ts).tail.length := by
  have := txtS_append (ts.take i) (ts.drop i)
  rw [List.take_append_drop] at this
  simp only [List.length_tail, this, List.length_append]; omega
theorem strTb : strT Try.prog 80 (5 + 2) = true := by kernel_rfl
theorem String_buf (l : List UInt8) (hne : l ≠ []) (hs : l.length ≤ 4000000) : MCall Try.prog 52 [.ptr 1000 0 0] (bBuf l) (fun x o' => x = .sc (.string ⟨l.toArray⟩) ∧ o' = []) := by
  have h0 : ¬ l.length = 0 := fun h => hne (List.eq_nil_of_length_eq_zero h)
  have hst := strTb
  simp only [Nat.reduceAdd] at hst
  refine mcall_of_awpL Try.func52 Try.call52 rfl (by simp [Try.ntmps52]) ?_; simp only [Try.ntmps52, Try.results52]
  repeat' (first
    | (refine awp_seqK (fun K hK => ?_))
    | (refine Hide.go (by assumption) ?_)
    | ((first | refine zqd ?_ ?_ | refine zqn ?_ ?_ | refine zgd ?_ ?_ | refine zgn ?_ ?_ | refine zdd ?_ ?_ | refine zdn ?_ ?_) <;> (intro h; first | (exfalso; omega) | (simp only [h, decide_true, decide_false, not_false_eq_true]) | skip))
    | (refine end_ret [] ?_; simp [go_sem, hne, h0, hst])
    | ((fail_if_success with_reducible (refine Owe.mk ?_)); (simp (disch := omega) [go_sem, hne, h0, hst]))
    | (refine And.intro (by omega) ?_)
    | (refine awp_draw 10 mix (by decide +kernel) ?_)
    | (refine nbI fun bq => ?_)
    | ((first | refine zqm ?_ ?_ | refine zgm ?_ ?_ | refine zdm ?_ ?_) <;> (intro h; simp only [h, Bool.not_true, Bool.not_false]))
    | ((first | refine zqs ?_ ?_ | refine zgs ?_ ?_ | refine zds ?_ ?_) <;> (intro h; first | (exfalso; simp at h; omega) | ((try simp only [h]); (try simp at h))))
    | fail)
  refine endL_ret ⟨14, [(2, .sc (.string ⟨l.toArray⟩))], []⟩ [.sc (.string ⟨l.toArray⟩)] (Le.renSub [] [] (by simp [go_sem]) (by simp [go_sem]) (Le.sub4 rfl (by simp [go_sem]))) (by simp [go_sem]) ⟨rfl, rfl⟩
theorem openA_sd {d : Option Nat} {x : Operand} {ts : Array TypeId} {ty : TypeId} {pos : String} {af g} {ρ : Operand → Option AV} (hx : ρ x = some (.sc (.slice none 0 0))) :
    openA Try.prog ⟨d, .call ⟨.builtin .unsafeSliceData, #[x], ts⟩, ty, pos, af, g⟩ ρ = some ⟨true, .sc (.pointer none)⟩ := by
  unfold openA
  rw [if_pos ⟨rfl, by simp [Op.operands, Call.operands, hx, toV, toV1]⟩]
  have e : still Try.prog (execOp (fun z => orNil ((ρ z).bind toV)) ⟨d, .call ⟨.builtin .unsafeSliceData, #[x], ts⟩, ty, pos, af, g⟩) = some (.value (.pointer none)) := by
    simp only [execOp, resolve, Array.map, hx]
    simp [hx, toV, toV1, orNil]
    rfl
  rw [e]
  rfl
def sdS (z : Option Sv) : Option AV → Option Sv
  | some (.sc (.slice none 0 0)) => some ⟨true, .sc (.pointer none)⟩
  | _ => z
theorem sdS_nil {z : Option Sv} : sdS z (some (.sc (.slice none 0 0))) = some ⟨true, .sc (.pointer none)⟩ := rfl
theorem sdS_ref {z : Option Sv} {L lo n : Nat} : sdS z (some (.ref L lo n)) = z := rfl
theorem aop_sdata2 {d : Nat} {x : Operand} {ts : Array TypeId} {ty : TypeId} {pos : String} {af g} {s : ASt} : aop Try.prog ⟨some d, .call ⟨.builtin .unsafeSliceData, #[x], ts⟩, ty, pos, af, g⟩ s =
    ofSv (sdS (dtS (openA Try.prog ⟨some d, .call ⟨.builtin .unsafeSliceData, #[x], ts⟩, ty, pos, af, g⟩ (ev s.t)) s.o (ev s.t x)) (ev s.t x)) := by
  rw [aop_sdata]
  refine congrArg ofSv ?_
  unfold sdS
  split
  · rename_i hx
    rw [hx, dtS_sc, openA_sd hx]
  · rfl
attribute [go_sem high] aop_sdata2
attribute [go_sem] sdS_nil sdS_ref
theorem openA_us {d : Option Nat} {x y : Operand} {pt it : TypeId} {ty : TypeId} {pos : String} {af g} {ρ : Operand → Option AV} (hx : ρ x = some (.sc (.pointer none))) (hy : ρ y = some (.sc (.int .i64 0))) :
    openA Try.prog ⟨d, .call ⟨.builtin .unsafeString, #[x, y], #[pt, it]⟩, ty, pos, af, g⟩ ρ = some ⟨true, .sc (.string (ByteArray.mk #[]))⟩ := by
  unfold openA
  rw [if_pos ⟨rfl, by simp [Op.operands, Call.operands, hx, hy, toV, toV1]⟩]
  have e : still Try.prog (execOp (fun z => orNil ((ρ z).bind toV)) ⟨d, .call ⟨.builtin .unsafeString, #[x, y], #[pt, it]⟩, ty, pos, af, g⟩) = some (.value (.string .empty)) := by
    simp only [execOp, resolve, Array.map, hx, hy]
    simp [hx, hy, toV, toV1, orNil]
    rfl
  rw [e]
  rfl
def usS (z : Option Sv) : Option AV → Option AV → Option Sv
  | some (.sc (.pointer none)), some (.sc (.int .i64 0)) => some ⟨true, .sc (.string (ByteArray.mk #[]))⟩
  | _, _ => z
theorem usS_nil {z : Option Sv} : usS z (some (.sc (.pointer none))) (some (.sc (.int .i64 0))) = some ⟨true, .sc (.string (ByteArray.mk #[]))⟩ := rfl
theorem aop_ustr2 {d : Nat} {x y : Operand} {pt it : TypeId} {ty : TypeId} {pos : String} {af g} {s : ASt} : aop Try.prog ⟨some d, .call ⟨.builtin .unsafeString, #[x, y], #[pt, it]⟩, ty, pos, af, g⟩ s =
    ofSv (usS (openA Try.prog ⟨some d, .call ⟨.builtin .unsafeString, #[x, y], #[pt, it]⟩, ty, pos, af, g⟩ (ev s.t)) (ev s.t x) (ev s.t y)) := by
  have e : aop Try.prog ⟨some d, .call ⟨.builtin .unsafeString, #[x, y], #[pt, it]⟩, ty, pos, af, g⟩ s = ofSv (openA Try.prog ⟨some d, .call ⟨.builtin .unsafeString, #[x, y], #[pt, it]⟩, ty, pos, af, g⟩ (ev s.t)) := rfl
  rw [e]
  refine congrArg ofSv ?_
  unfold usS
  split
  · rename_i hx hy
    rw [openA_us hx hy]
  · rfl
attribute [go_sem] aop_ustr2 usS_nil
theorem String_nil : MCall Try.prog 52 [.ptr 1000 0 0] bNil (fun x o' => x = .sc (.string (ByteArray.mk #[])) ∧ o' = []) := by
  refine mcall_of_awpL Try.func52 Try.call52 rfl (by simp [Try.ntmps52]) ?_; simp only [Try.ntmps52, Try.results52]
  repeat' (first
    | (refine awp_seqK (fun K hK => ?_))
    | (refine Hide.go (by assumption) ?_)
    | ((first | refine zqd ?_ ?_ | refine zqn ?_ ?_ | refine zgd ?_ ?_ | refine zgn ?_ ?_ | refine zdd ?_ ?_ | refine zdn ?_ ?_) <;> (intro h; first | (exfalso; omega) | (simp only [h, decide_true, decide_false, not_false_eq_true]) | skip))
    | (refine end_ret [] ?_; simp [go_sem])
    | ((fail_if_success with_reducible (refine Owe.mk ?_)); (simp (disch := omega) [go_sem]))
    | (refine And.intro (by omega) ?_)
    | (refine awp_draw 10 mix (by decide +kernel) ?_)
    | (refine nbI fun bq => ?_)
    | ((first | refine zqm ?_ ?_ | refine zgm ?_ ?_ | refine zdm ?_ ?_) <;> (intro h; simp only [h, Bool.not_true, Bool.not_false]))
    | ((first | refine zqs ?_ ?_ | refine zgs ?_ ?_ | refine zds ?_ ?_) <;> (intro h; first | (exfalso; simp at h; omega) | ((try simp only [h]); (try simp at h))))
    | fail)
  refine endL_ret ⟨14, [(2, .sc (.string (ByteArray.mk #[])))], []⟩ [.sc (.string (ByteArray.mk #[]))] (Le.renSub [] [] (by simp [go_sem]) (by simp [go_sem]) (Le.sub4 rfl (by simp [go_sem]))) (by simp [go_sem]) ⟨rfl, rfl⟩
end Go.Proofs.Ytldecgghhaoliaa
