/-
  Bld: strings.Builder. Names in the contracts: 1000 the builder, 1001 its bytes.
-/
import Derived.Test.YtldecgghhaoliaaTy2
import Derived.Test.YtldecgghhaoliaaA5
namespace Go.Proofs.Ytldecgghhaoliaa
open Go.Ab
set_option linter.unusedSimpArgs false
set_option maxRecDepth 100000
set_option maxHeartbeats 4000000
theorem noEscB (x : Value) (w : World) : (callFunc 98 #[x]).run Try.prog w = .ok (.value x) w := by kernel_rfl
theorem uns1 : unsT Try.prog 52 99 55 2 = true := by kernel_rfl
theorem uns2 : unsT Try.prog 99 52 55 2 = true := by kernel_rfl
theorem ptB : ptT Try.prog 52 = true := by kernel_rfl
theorem binA_pn {P : Program} {op : BinOp} {t : TypeId} {b : AV} : binA P op t (.sc (.pointer none)) b = none := by unfold binA; rfl
theorem nilEqA_pn {P : Program} {op : BinOp} {t : TypeId} {y : Operand} : nilEqA P op t (.sc (.pointer none)) y = none := by
  unfold nilEqA
  rw [if_neg]
  rintro ⟨h1, h2, h3⟩
  exact h1 h3.symm
theorem aggEqA_pn {P : Program} {op : BinOp} {t : TypeId} {b : AV} : aggEqA P op t (.sc (.pointer none)) b = none := by
  unfold aggEqA; rfl
theorem openA_pn {d : Option Nat} {x : Operand} {ty : TypeId} {pos : String} {af g} {ρ : Operand → Option AV} (hx : ρ x = some (.sc (.pointer none))) (hy : ρ (.const (.pointer none)) = some (.sc (.pointer none))) :
    openA Try.prog ⟨d, .binOp .eql 52 x (.const (.pointer none)) 52, ty, pos, af, g⟩ ρ = some ⟨true, bl true⟩ := by
  unfold openA
  rw [if_pos ⟨rfl, by simp [Op.operands, hx, hy, toV, toV1]⟩]
  have e : still Try.prog (execOp (fun z => orNil ((ρ z).bind toV)) ⟨d, .binOp .eql 52 x (.const (.pointer none)) 52, ty, pos, af, g⟩) = some (.value (.bool true)) := by
    simp only [execOp, hx, hy]
    kernel_rfl
  rw [e]
  rfl
def pnS (z : Option Sv) : Option AV → Option Sv
  | some (.sc (.pointer none)) => some ⟨true, bl true⟩
  | some (.ptr _ _ _) => some ⟨true, bl false⟩
  | _ => z
theorem pnS_nil {z : Option Sv} : pnS z (some (.sc (.pointer none))) = some ⟨true, bl true⟩ := rfl
theorem pnS_ptr {z : Option Sv} {L i o : Nat} : pnS z (some (.ptr L i o)) = some ⟨true, bl false⟩ := rfl
theorem pnS_eq {z : Option Sv} {y : Option AV} (h1 : y = some (.sc (.pointer none)) → z = some ⟨true, bl true⟩) (h2 : ∀ L i o, y = some (.ptr L i o) → z = some ⟨true, bl false⟩) : z = pnS z y := by
  unfold pnS
  split
  · exact h1 rfl
  · exact h2 _ _ _ rfl
  · rfl
theorem kdB : tyKd Try.prog 52 = 2 := by kernel_rfl
theorem aop_eqpn {d : Nat} {x : Operand} {ty : TypeId} {pos : String} {af g} {s : ASt} : aop Try.prog ⟨some d, .binOp .eql 52 x (.const (.pointer none)) 52, ty, pos, af, g⟩ s =
    ofSv (pnS (match ev s.t x, ev s.t (.const (.pointer none)) with
    | some a, some b => match binA Try.prog .eql 52 a b with
      | some r => some r
      | none => match nilEqA Try.prog .eql 52 a (.const (.pointer none)) with
        | some r => some r
        | none => match aggEqA Try.prog .eql 52 a b with
          | some r => some r
          | none => openA Try.prog ⟨some d, .binOp .eql 52 x (.const (.pointer none)) 52, ty, pos, af, g⟩ (ev s.t)
    | _, _ => none) (ev s.t x)) := by
  rw [aop_bin]
  refine congrArg ofSv (pnS_eq (fun hx => ?_) (fun L i o hx => ?_))
  · have hy : ev s.t (.const (.pointer none)) = some (.sc (.pointer none)) := rfl
    simp only [hx, hy, binA_pn, nilEqA_pn, aggEqA_pn, openA_pn hx hy]
  · have hy : ev s.t (.const (.pointer none)) = some (.sc (.pointer none)) := rfl
    have e : nilEqA Try.prog .eql 52 (.ptr L i o) (.const (.pointer none)) = some ⟨true, bl false⟩ := by
      unfold nilEqA
      rw [if_pos ⟨by decide, kdB, rfl⟩]
    have e0 : binA Try.prog .eql 52 (.ptr L i o) (.sc (.pointer none)) = none := by unfold binA; rfl
    simp only [hx, hy, e, e0]
attribute [go_sem high] aop_eqpn
attribute [go_sem] pnS_nil pnS_ptr
/-- The builder's box: its own address, its bytes. -/
abbrev bBox (p v : AV) : AObj := ⟨false, false, true, 2, [.agg [p, v]], 55 + 2⟩
abbrev bNew : Objs := [(1000, bBox (.sc (.pointer none)) (.sc (.slice none 0 0)))]
abbrev bNil : Objs := [(1000, bBox (.ptr 1000 0 0) (.sc (.slice none 0 0)))]
abbrev bBuf (l : List UInt8) : Objs := [(1000, bBox (.ptr 1000 0 0) (.ref 1001 0 l.length)), (1001, ⟨true, false, true, 1, l.map bAV, 5 + 2⟩)]
/-- The same behind a write: the bytes may lie elsewhere. -/
abbrev bOut (l : List UInt8) : Objs := [(1000, bBox (.ptr 1000 0 0) (.ref 1001 0 l.length)), (1001, ⟨true, false, false, 1, l.map bAV, 5 + 2⟩)]
theorem copyCheck_new : MCall Try.prog 84 [.ptr 1000 0 0] bNew (fun r o' => r = .tup [] ∧ o' = bNil) := by
  refine mcall_of_awpL Try.func84 Try.call84 rfl (by simp [Try.ntmps84]) ?_; simp only [Try.ntmps84, Try.results84]
  repeat' (first
    | (refine awp_seqK (fun K hK => ?_))
    | (refine Hide.go (by assumption) ?_)
    | ((first | refine zqd ?_ ?_ | refine zqn ?_ ?_ | refine zgd ?_ ?_ | refine zgn ?_ ?_ | refine zdd ?_ ?_ | refine zdn ?_ ?_) <;> (intro h; first | (exfalso; omega) | (simp only [h, decide_true, decide_false, not_false_eq_true]) | skip))
    | (refine end_ret [] ?_; simp [go_sem, uns1, uns2, ptB])
    | ((fail_if_success with_reducible (refine Owe.mk ?_)); (simp (disch := omega) [go_sem, uns1, uns2, ptB]))
    | (refine And.intro (by omega) ?_)
    | (refine nbI fun bq => ?_)
    | ((first | refine zqm ?_ ?_ | refine zgm ?_ ?_ | refine zdm ?_ ?_) <;> (intro h; simp only [h, Bool.not_true, Bool.not_false]))
    | ((first | refine zqs ?_ ?_ | refine zgs ?_ ?_ | refine zds ?_ ?_) <;> (intro h; first | (exfalso; simp at h; omega) | ((try simp only [h]); (try simp at h))))
    | fail)
  refine stepK_same noEscB (by simp) ?_
  repeat' (first
    | (refine awp_seqK (fun K hK => ?_))
    | (refine Hide.go (by assumption) ?_)
    | ((first | refine zqd ?_ ?_ | refine zqn ?_ ?_ | refine zgd ?_ ?_ | refine zgn ?_ ?_ | refine zdd ?_ ?_ | refine zdn ?_ ?_) <;> (intro h; first | (exfalso; omega) | (simp only [h, decide_true, decide_false, not_false_eq_true]) | skip))
    | (refine end_ret [] ?_; simp [go_sem, uns1, uns2, ptB])
    | ((fail_if_success with_reducible (refine Owe.mk ?_)); (simp (disch := omega) [go_sem, uns1, uns2, ptB]))
    | (refine And.intro (by omega) ?_)
    | (refine nbI fun bq => ?_)
    | ((first | refine zqm ?_ ?_ | refine zgm ?_ ?_ | refine zdm ?_ ?_) <;> (intro h; simp only [h, Bool.not_true, Bool.not_false]))
    | ((first | refine zqs ?_ ?_ | refine zgs ?_ ?_ | refine zds ?_ ?_) <;> (intro h; first | (exfalso; simp at h; omega) | ((try simp only [h]); (try simp at h))))
    | fail)
  refine endL_normal ⟨20, [], bNil⟩ [] (Le.renSub [] [] (by simp [go_sem]) (by simp [go_sem]) (Le.sub4 rfl (by simp [go_sem]))) (by simp [go_sem]) ⟨rfl, rfl⟩
theorem copyCheck_nil : MCall Try.prog 84 [.ptr 1000 0 0] bNil (fun r o' => r = .tup [] ∧ o' = bNil) := by
  refine mcall_of_awpL Try.func84 Try.call84 rfl (by simp [Try.ntmps84]) ?_; simp only [Try.ntmps84, Try.results84]
  repeat' (first
    | (refine awp_seqK (fun K hK => ?_))
    | (refine Hide.go (by assumption) ?_)
    | ((first | refine zqd ?_ ?_ | refine zqn ?_ ?_ | refine zgd ?_ ?_ | refine zgn ?_ ?_ | refine zdd ?_ ?_ | refine zdn ?_ ?_) <;> (intro h; first | (exfalso; omega) | (simp only [h, decide_true, decide_false, not_false_eq_true]) | skip))
    | (refine end_ret [] ?_; simp [go_sem, uns1, uns2, ptB])
    | ((fail_if_success with_reducible (refine Owe.mk ?_)); (simp (disch := omega) [go_sem, uns1, uns2, ptB]))
    | (refine And.intro (by omega) ?_)
    | (refine nbI fun bq => ?_)
    | ((first | refine zqm ?_ ?_ | refine zgm ?_ ?_ | refine zdm ?_ ?_) <;> (intro h; simp only [h, Bool.not_true, Bool.not_false]))
    | ((first | refine zqs ?_ ?_ | refine zgs ?_ ?_ | refine zds ?_ ?_) <;> (intro h; first | (exfalso; simp at h; omega) | ((try simp only [h]); (try simp at h))))
    | fail)
  refine endL_normal ⟨20, [], bNil⟩ [] (Le.renSub [] [] (by simp [go_sem]) (by simp [go_sem]) (Le.sub4 rfl (by simp [go_sem]))) (by simp [go_sem]) ⟨rfl, rfl⟩
theorem copyCheck_buf (l : List UInt8) : MCall Try.prog 84 [.ptr 1000 0 0] (bBuf l) (fun r o' => r = .tup [] ∧ o' = bBuf l) := by
  refine mcall_of_awpL Try.func84 Try.call84 rfl (by simp [Try.ntmps84]) ?_; simp only [Try.ntmps84, Try.results84]
  repeat' (first
    | (refine awp_seqK (fun K hK => ?_))
    | (refine Hide.go (by assumption) ?_)
    | ((first | refine zqd ?_ ?_ | refine zqn ?_ ?_ | refine zgd ?_ ?_ | refine zgn ?_ ?_ | refine zdd ?_ ?_ | refine zdn ?_ ?_) <;> (intro h; first | (exfalso; omega) | (simp only [h, decide_true, decide_false, not_false_eq_true]) | skip))
    | (refine end_ret [] ?_; simp [go_sem, uns1, uns2, ptB])
    | ((fail_if_success with_reducible (refine Owe.mk ?_)); (simp (disch := omega) [go_sem, uns1, uns2, ptB]))
    | (refine And.intro (by omega) ?_)
    | (refine nbI fun bq => ?_)
    | ((first | refine zqm ?_ ?_ | refine zgm ?_ ?_ | refine zdm ?_ ?_) <;> (intro h; simp only [h, Bool.not_true, Bool.not_false]))
    | ((first | refine zqs ?_ ?_ | refine zgs ?_ ?_ | refine zds ?_ ?_) <;> (intro h; first | (exfalso; simp at h; omega) | ((try simp only [h]); (try simp at h))))
    | fail)
  refine endL_normal ⟨20, [], bBuf l⟩ [] (Le.renSub [] [] (by simp [go_sem]) (by simp [go_sem]) (Le.sub4 rfl (by simp [go_sem]))) (by simp [go_sem]) ⟨rfl, rfl⟩
def bytesS (s : ByteArray) : List UInt8 := s.data.toList
theorem bytesS_eq (s : ByteArray) : s.data.toList = bytesS s := rfl
theorem bytesS_len (s : ByteArray) : (bytesS s).length = s.size := by unfold bytesS; rw [Array.length_toList]; rfl
theorem WriteString_new (s : ByteArray) (hs : s.size ≤ 4000000) (c : UInt8) (r : List UInt8) (h0 : bytesS s = c :: r) : MCall Try.prog 76 [.ptr 1000 0 0, .sc (.string s)] bNew (fun x o' => x = .tup [nt .i64 s.size, .sc .nilIface] ∧ o' = bOut (c :: r)) := by
  have hl := bytesS_len s
  rw [h0, List.length_cons] at hl
  refine mcall_of_awpL Try.func76 Try.call76 rfl (by simp [Try.ntmps76]) ?_; simp only [Try.ntmps76, Try.results76]
  repeat' (first
    | (refine awp_seqK (fun K hK => ?_))
    | (refine Hide.go (by assumption) ?_)
    | ((first | refine zqd ?_ ?_ | refine zqn ?_ ?_ | refine zgd ?_ ?_ | refine zgn ?_ ?_ | refine zdd ?_ ?_ | refine zdn ?_ ?_) <;> (intro h; first | (exfalso; omega) | (simp only [h, decide_true, decide_false, not_false_eq_true]) | skip))
    | (refine end_ret [] ?_; simp [go_sem, bytesS_eq, h0])
    | ((fail_if_success with_reducible (refine Owe.mk ?_)); (simp (disch := omega) [go_sem, bytesS_eq, h0]))
    | (refine And.intro (by omega) ?_)
    | (refine nbI fun bq => ?_)
    | ((first | refine zqm ?_ ?_ | refine zgm ?_ ?_ | refine zdm ?_ ?_) <;> (intro h; simp only [h, Bool.not_true, Bool.not_false]))
    | ((first | refine zqs ?_ ?_ | refine zgs ?_ ?_ | refine zds ?_ ?_) <;> (intro h; first | (exfalso; simp at h; omega) | ((try simp only [h]); (try simp at h))))
    | fail)
  refine stepK_fis [] [] 10000 _ _ (Fits.mk' (by simp [go_sem]) (by simp [go_sem])) (by simp [go_sem]) (by simp [go_sem]) (copyCheck_new) (by simp [go_sem]) (by simp [go_sem]) ?_
  repeat' (first
    | (refine awp_seqK (fun K hK => ?_))
    | (refine Hide.go (by assumption) ?_)
    | ((first | refine zqd ?_ ?_ | refine zqn ?_ ?_ | refine zgd ?_ ?_ | refine zgn ?_ ?_ | refine zdd ?_ ?_ | refine zdn ?_ ?_) <;> (intro h; first | (exfalso; omega) | (simp only [h, decide_true, decide_false, not_false_eq_true]) | skip))
    | (refine end_ret [] ?_; simp [go_sem, bytesS_eq, h0])
    | ((fail_if_success with_reducible (refine Owe.mk ?_)); (simp (disch := omega) [go_sem, bytesS_eq, h0]))
    | (refine And.intro (by omega) ?_)
    | (refine nbI fun bq => ?_)
    | ((first | refine zqm ?_ ?_ | refine zgm ?_ ?_ | refine zdm ?_ ?_) <;> (intro h; simp only [h, Bool.not_true, Bool.not_false]))
    | ((first | refine zqs ?_ ?_ | refine zgs ?_ ?_ | refine zds ?_ ?_) <;> (intro h; first | (exfalso; simp at h; omega) | ((try simp only [h]); (try simp at h))))
    | fail)
  refine endL_ret ⟨19, [(4, nt .i64 s.size), (5, .sc .nilIface)], bOut (c :: r)⟩ [nt .i64 s.size, .sc .nilIface] (Le.renSub [(14, 1001), (1001, 14)] [(1001, 14), (14, 1001)] (by simp [go_sem, hl]) (by simp [go_sem, hl]) (Le.sub4 rfl (by simp [go_sem, hl]))) (by simp [go_sem, hl]) ⟨rfl, rfl⟩
theorem WriteString_none (s : ByteArray) (h0 : bytesS s = []) : MCall Try.prog 76 [.ptr 1000 0 0, .sc (.string s)] bNew (fun x o' => x = .tup [nt .i64 s.size, .sc .nilIface] ∧ o' = bNil) := by
  refine mcall_of_awpL Try.func76 Try.call76 rfl (by simp [Try.ntmps76]) ?_; simp only [Try.ntmps76, Try.results76]
  repeat' (first
    | (refine awp_seqK (fun K hK => ?_))
    | (refine Hide.go (by assumption) ?_)
    | ((first | refine zqd ?_ ?_ | refine zqn ?_ ?_ | refine zgd ?_ ?_ | refine zgn ?_ ?_ | refine zdd ?_ ?_ | refine zdn ?_ ?_) <;> (intro h; first | (exfalso; omega) | (simp only [h, decide_true, decide_false, not_false_eq_true]) | skip))
    | (refine end_ret [] ?_; simp [go_sem, bytesS_eq, h0])
    | ((fail_if_success with_reducible (refine Owe.mk ?_)); (simp (disch := omega) [go_sem, bytesS_eq, h0]))
    | (refine And.intro (by omega) ?_)
    | (refine nbI fun bq => ?_)
    | ((first | refine zqm ?_ ?_ | refine zgm ?_ ?_ | refine zdm ?_ ?_) <;> (intro h; simp only [h, Bool.not_true, Bool.not_false]))
    | ((first | refine zqs ?_ ?_ | refine zgs ?_ ?_ | refine zds ?_ ?_) <;> (intro h; first | (exfalso; simp at h; omega) | ((try simp only [h]); (try simp at h))))
    | fail)
  refine stepK_fis [] [] 10000 _ _ (Fits.mk' (by simp [go_sem]) (by simp [go_sem])) (by simp [go_sem]) (by simp [go_sem]) (copyCheck_new) (by simp [go_sem]) (by simp [go_sem]) ?_
  repeat' (first
    | (refine awp_seqK (fun K hK => ?_))
    | (refine Hide.go (by assumption) ?_)
    | ((first | refine zqd ?_ ?_ | refine zqn ?_ ?_ | refine zgd ?_ ?_ | refine zgn ?_ ?_ | refine zdd ?_ ?_ | refine zdn ?_ ?_) <;> (intro h; first | (exfalso; omega) | (simp only [h, decide_true, decide_false, not_false_eq_true]) | skip))
    | (refine end_ret [] ?_; simp [go_sem, bytesS_eq, h0])
    | ((fail_if_success with_reducible (refine Owe.mk ?_)); (simp (disch := omega) [go_sem, bytesS_eq, h0]))
    | (refine And.intro (by omega) ?_)
    | (refine nbI fun bq => ?_)
    | ((first | refine zqm ?_ ?_ | refine zgm ?_ ?_ | refine zdm ?_ ?_) <;> (intro h; simp only [h, Bool.not_true, Bool.not_false]))
    | ((first | refine zqs ?_ ?_ | refine zgs ?_ ?_ | refine zds ?_ ?_) <;> (intro h; first | (exfalso; simp at h; omega) | ((try simp only [h]); (try simp at h))))
    | fail)
  refine endL_ret ⟨19, [(4, nt .i64 s.size), (5, .sc .nilIface)], bNil⟩ [nt .i64 s.size, .sc .nilIface] (Le.renSub [] [] (by simp [go_sem]) (by simp [go_sem]) (Le.sub4 rfl (by simp [go_sem]))) (by simp [go_sem]) ⟨rfl, rfl⟩
theorem WriteString_buf (l : List UInt8) (s : ByteArray) (hs : l.length + s.size ≤ 4000000) : MCall Try.prog 76 [.ptr 1000 0 0, .sc (.string s)] (bBuf l) (fun r o' => r = .tup [nt .i64 s.size, .sc .nilIface] ∧ o' = bOut (l ++ bytesS s)) := by
  have hl := bytesS_len s
  refine mcall_of_awpL Try.func76 Try.call76 rfl (by simp [Try.ntmps76]) ?_; simp only [Try.ntmps76, Try.results76]
  repeat' (first
    | (refine awp_seqK (fun K hK => ?_))
    | (refine Hide.go (by assumption) ?_)
    | ((first | refine zqd ?_ ?_ | refine zqn ?_ ?_ | refine zgd ?_ ?_ | refine zgn ?_ ?_ | refine zdd ?_ ?_ | refine zdn ?_ ?_) <;> (intro h; first | (exfalso; omega) | (simp only [h, decide_true, decide_false, not_false_eq_true]) | skip))
    | (refine end_ret [] ?_; simp [go_sem, bytesS_eq])
    | ((fail_if_success with_reducible (refine Owe.mk ?_)); (simp (disch := omega) [go_sem, bytesS_eq]))
    | (refine And.intro (by omega) ?_)
    | (refine nbI fun bq => ?_)
    | ((first | refine zqm ?_ ?_ | refine zgm ?_ ?_ | refine zdm ?_ ?_) <;> (intro h; simp only [h, Bool.not_true, Bool.not_false]))
    | ((first | refine zqs ?_ ?_ | refine zgs ?_ ?_ | refine zds ?_ ?_) <;> (intro h; first | (exfalso; simp at h; omega) | ((try simp only [h]); (try simp at h))))
    | fail)
  refine stepK_fis [] [] 10000 _ _ (Fits.mk' (by simp [go_sem]) (by simp [go_sem])) (by simp [go_sem]) (by simp [go_sem]) (copyCheck_buf l) (by simp [go_sem]) (by simp [go_sem]) ?_
  repeat' (first
    | (refine awp_seqK (fun K hK => ?_))
    | (refine Hide.go (by assumption) ?_)
    | ((first | refine zqd ?_ ?_ | refine zqn ?_ ?_ | refine zgd ?_ ?_ | refine zgn ?_ ?_ | refine zdd ?_ ?_ | refine zdn ?_ ?_) <;> (intro h; first | (exfalso; omega) | (simp only [h, decide_true, decide_false, not_false_eq_true]) | skip))
    | (refine end_ret [] ?_; simp [go_sem, bytesS_eq, hl])
    | ((fail_if_success with_reducible (refine Owe.mk ?_)); (simp (disch := omega) [go_sem, bytesS_eq, hl]))
    | (refine And.intro (by omega) ?_)
    | (refine nbI fun bq => ?_)
    | ((first | refine zqm ?_ ?_ | refine zgm ?_ ?_ | refine zdm ?_ ?_) <;> (intro h; simp only [h, Bool.not_true, Bool.not_false]))
    | ((first | refine zqs ?_ ?_ | refine zgs ?_ ?_ | refine zds ?_ ?_) <;> (intro h; first | (exfalso; simp at h; omega) | ((try simp only [h]); (try simp at h))))
    | fail)
  refine endL_ret ⟨19, [(4, nt .i64 s.size), (5, .sc .nilIface)], bOut (l ++ bytesS s)⟩ [nt .i64 s.size, .sc .nilIface] (Le.renSub [(14, 1001)] [(1001, 14)] (by simp [go_sem, hl]) (by simp [go_sem, hl]) (Le.sub4 rfl (by simp [go_sem, hl]))) (by simp [go_sem, hl]) ⟨rfl, rfl⟩
theorem WriteByte_buf (l : List UInt8) (c : UInt8) (hs : l.length ≤ 4000000) : MCall Try.prog 77 [.ptr 1000 0 0, nt .u8 (c.toNat : Int)] (bBuf l) (fun r o' => r = .sc .nilIface ∧ o' = bOut (l ++ [c])) := by
  refine mcall_of_awpL Try.func77 Try.call77 rfl (by simp [Try.ntmps77]) ?_; simp only [Try.ntmps77, Try.results77]
  repeat' (first
    | (refine awp_seqK (fun K hK => ?_))
    | (refine Hide.go (by assumption) ?_)
    | ((first | refine zqd ?_ ?_ | refine zqn ?_ ?_ | refine zgd ?_ ?_ | refine zgn ?_ ?_ | refine zdd ?_ ?_ | refine zdn ?_ ?_) <;> (intro h; first | (exfalso; omega) | (simp only [h, decide_true, decide_false, not_false_eq_true]) | skip))
    | (refine end_ret [] ?_; simp [go_sem])
    | ((fail_if_success with_reducible (refine Owe.mk ?_)); (simp (disch := omega) [go_sem]))
    | (refine And.intro (by omega) ?_)
    | (refine nbI fun bq => ?_)
    | ((first | refine zqm ?_ ?_ | refine zgm ?_ ?_ | refine zdm ?_ ?_) <;> (intro h; simp only [h, Bool.not_true, Bool.not_false]))
    | ((first | refine zqs ?_ ?_ | refine zgs ?_ ?_ | refine zds ?_ ?_) <;> (intro h; first | (exfalso; simp at h; omega) | ((try simp only [h]); (try simp at h))))
    | fail)
  refine stepK_fis [] [] 10000 _ _ (Fits.mk' (by simp [go_sem]) (by simp [go_sem])) (by simp [go_sem]) (by simp [go_sem]) (copyCheck_buf l) (by simp [go_sem]) (by simp [go_sem]) ?_
  repeat' (first
    | (refine awp_seqK (fun K hK => ?_))
    | (refine Hide.go (by assumption) ?_)
    | ((first | refine zqd ?_ ?_ | refine zqn ?_ ?_ | refine zgd ?_ ?_ | refine zgn ?_ ?_ | refine zdd ?_ ?_ | refine zdn ?_ ?_) <;> (intro h; first | (exfalso; omega) | (simp only [h, decide_true, decide_false, not_false_eq_true]) | skip))
    | (refine end_ret [] ?_; simp [go_sem])
    | ((fail_if_success with_reducible (refine Owe.mk ?_)); (simp (disch := omega) [go_sem]))
    | (refine And.intro (by omega) ?_)
    | (refine nbI fun bq => ?_)
    | ((first | refine zqm ?_ ?_ | refine zgm ?_ ?_ | refine zdm ?_ ?_) <;> (intro h; simp only [h, Bool.not_true, Bool.not_false]))
    | ((first | refine zqs ?_ ?_ | refine zgs ?_ ?_ | refine zds ?_ ?_) <;> (intro h; first | (exfalso; simp at h; omega) | ((try simp only [h]); (try simp at h))))
    | fail)
  refine endL_ret ⟨17, [(4, .sc .nilIface)], bOut (l ++ [c])⟩ [.sc .nilIface] (Le.renSub [(14, 1001), (1001, 14)] [(1001, 14), (14, 1001)] (by simp [go_sem, bAV]) (by simp [go_sem, bAV]) (Le.sub4 rfl (by simp [go_sem, bAV]))) (by simp [go_sem, bAV]) ⟨rfl, rfl⟩
theorem WriteByte_nil (c : UInt8) : MCall Try.prog 77 [.ptr 1000 0 0, nt .u8 (c.toNat : Int)] bNil (fun r o' => r = .sc .nilIface ∧ o' = bOut [c]) := by
  refine mcall_of_awpL Try.func77 Try.call77 rfl (by simp [Try.ntmps77]) ?_; simp only [Try.ntmps77, Try.results77]
  repeat' (first
    | (refine awp_seqK (fun K hK => ?_))
    | (refine Hide.go (by assumption) ?_)
    | ((first | refine zqd ?_ ?_ | refine zqn ?_ ?_ | refine zgd ?_ ?_ | refine zgn ?_ ?_ | refine zdd ?_ ?_ | refine zdn ?_ ?_) <;> (intro h; first | (exfalso; omega) | (simp only [h, decide_true, decide_false, not_false_eq_true]) | skip))
    | (refine end_ret [] ?_; simp [go_sem])
    | ((fail_if_success with_reducible (refine Owe.mk ?_)); (simp (disch := omega) [go_sem]))
    | (refine And.intro (by omega) ?_)
    | (refine nbI fun bq => ?_)
    | ((first | refine zqm ?_ ?_ | refine zgm ?_ ?_ | refine zdm ?_ ?_) <;> (intro h; simp only [h, Bool.not_true, Bool.not_false]))
    | ((first | refine zqs ?_ ?_ | refine zgs ?_ ?_ | refine zds ?_ ?_) <;> (intro h; first | (exfalso; simp at h; omega) | ((try simp only [h]); (try simp at h))))
    | fail)
  refine stepK_fis [] [] 10000 _ _ (Fits.mk' (by simp [go_sem]) (by simp [go_sem])) (by simp [go_sem]) (by simp [go_sem]) (copyCheck_nil) (by simp [go_sem]) (by simp [go_sem]) ?_
  repeat' (first
    | (refine awp_seqK (fun K hK => ?_))
    | (refine Hide.go (by assumption) ?_)
    | ((first | refine zqd ?_ ?_ | refine zqn ?_ ?_ | refine zgd ?_ ?_ | refine zgn ?_ ?_ | refine zdd ?_ ?_ | refine zdn ?_ ?_) <;> (intro h; first | (exfalso; omega) | (simp only [h, decide_true, decide_false, not_false_eq_true]) | skip))
    | (refine end_ret [] ?_; simp [go_sem])
    | ((fail_if_success with_reducible (refine Owe.mk ?_)); (simp (disch := omega) [go_sem]))
    | (refine And.intro (by omega) ?_)
    | (refine nbI fun bq => ?_)
    | ((first | refine zqm ?_ ?_ | refine zgm ?_ ?_ | refine zdm ?_ ?_) <;> (intro h; simp only [h, Bool.not_true, Bool.not_false]))
    | ((first | refine zqs ?_ ?_ | refine zgs ?_ ?_ | refine zds ?_ ?_) <;> (intro h; first | (exfalso; simp at h; omega) | ((try simp only [h]); (try simp at h))))
    | fail)
  refine endL_ret ⟨17, [(4, .sc .nilIface)], bOut [c]⟩ [.sc .nilIface] (Le.renSub [(14, 1001), (1001, 14)] [(1001, 14), (14, 1001)] (by simp [go_sem, bAV]) (by simp [go_sem, bAV]) (Le.sub4 rfl (by simp [go_sem, bAV]))) (by simp [go_sem, bAV]) ⟨rfl, rfl⟩
end Go.Proofs.Ytldecgghhaoliaa
