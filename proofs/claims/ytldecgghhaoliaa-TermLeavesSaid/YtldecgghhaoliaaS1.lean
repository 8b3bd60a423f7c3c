import Derived.Test.YtldecgghhaoliaaA5
import Derived.Test.YtldecgghhaoliaaRows
set_option linter.unusedSimpArgs false
set_option linter.unusedVariables false
namespace Go.Proofs.Ytldecgghhaoliaa
open Go.Ab
theorem tyI0 : tyI Try.prog 0 = some (false, 1) := by kernel_rfl
theorem und0 : (Try.prog.underlying 0).isSome = true := by kernel_rfl
theorem tyBd0 : tyBd Try.prog 0 = 0 := by kernel_rfl
theorem tyI1 : tyI Try.prog 1 = some (false, 1) := by kernel_rfl
theorem tyKd1 : tyKd Try.prog 1 = 3 := by kernel_rfl
theorem und1 : (Try.prog.underlying 1).isSome = true := by kernel_rfl
theorem tyZ1 : tyZ Try.prog 1 = some (.sc .nilFunc) := by kernel_rfl
theorem tyBd1 : tyBd Try.prog 1 = 0 := by kernel_rfl
theorem tyI2 : tyI Try.prog 2 = some (false, 1) := by kernel_rfl
theorem tyK2 : tyK Try.prog 2 = some .i64 := by kernel_rfl
theorem und2 : (Try.prog.underlying 2).isSome = true := by kernel_rfl
theorem tyZ2 : tyZ Try.prog 2 = some (nt .i64 0) := by kernel_rfl
theorem tyBd2 : tyBd Try.prog 2 = 0 := by kernel_rfl
theorem tyI3 : tyI Try.prog 3 = some (false, 1) := by kernel_rfl
theorem tyK3 : tyK Try.prog 3 = some .i64 := by kernel_rfl
theorem und3 : (Try.prog.underlying 3).isSome = true := by kernel_rfl
theorem tyZ3 : tyZ Try.prog 3 = some (nt .i64 0) := by kernel_rfl
theorem tyBd3 : tyBd Try.prog 3 = 0 := by kernel_rfl
theorem tyI4 : tyI Try.prog 4 = some (false, 1) := by kernel_rfl
theorem tyIsBool4 : tyIsBool Try.prog 4 = true := by kernel_rfl
theorem und4 : (Try.prog.underlying 4).isSome = true := by kernel_rfl
theorem tyZ4 : tyZ Try.prog 4 = some (bl false) := by kernel_rfl
theorem tyBd4 : tyBd Try.prog 4 = 0 := by kernel_rfl
theorem tyI5 : tyI Try.prog 5 = some (false, 1) := by kernel_rfl
theorem tyK5 : tyK Try.prog 5 = some .u8 := by kernel_rfl
theorem und5 : (Try.prog.underlying 5).isSome = true := by kernel_rfl
theorem tyZ5 : tyZ Try.prog 5 = some (nt .u8 0) := by kernel_rfl
theorem tyBd5 : tyBd Try.prog 5 = 0 := by kernel_rfl
theorem tyZs5 : tyZs Try.prog 5 = some 1 := by kernel_rfl
theorem kdE5 : kdE Try.prog 5 = 7 := by kernel_rfl
theorem tyI6 : tyI Try.prog 6 = some (false, 1) := by kernel_rfl
theorem tyK6 : tyK Try.prog 6 = some .u8 := by kernel_rfl
theorem und6 : (Try.prog.underlying 6).isSome = true := by kernel_rfl
theorem tyZ6 : tyZ Try.prog 6 = some (nt .u8 0) := by kernel_rfl
theorem tyBd6 : tyBd Try.prog 6 = 0 := by kernel_rfl
theorem tyI7 : tyI Try.prog 7 = some (true, 4) := by kernel_rfl
theorem tyFd7x0 : tyFd Try.prog 7 0 = some (0, 2, 1) := by kernel_rfl
theorem tyFd7x1 : tyFd Try.prog 7 1 = some (1, 3, 1) := by kernel_rfl
theorem tyFd7x2 : tyFd Try.prog 7 2 = some (2, 4, 1) := by kernel_rfl
theorem tyFd7x3 : tyFd Try.prog 7 3 = some (3, 6, 1) := by kernel_rfl
theorem und7 : (Try.prog.underlying 7).isSome = true := by kernel_rfl
theorem tyZ7 : tyZ Try.prog 7 = some (.agg [nt .i64 0, nt .i64 0, bl false, nt .u8 0]) := by kernel_rfl
theorem tyBd7 : tyBd Try.prog 7 = 0 := by kernel_rfl
theorem tyB7 : tyB Try.prog 7 = some ([nt .i64 0, nt .i64 0, bl false, nt .u8 0], [(0, 1), (1, 1), (2, 1), (3, 1)]) := by kernel_rfl
theorem aggEq7 (a0 b0 : Int) (a1 b1 : Int) (a2 b2 : Bool) (a3 b3 : Int) : aggEqA Try.prog .eql 7 (.agg [.sc (.int .i64 a0), .sc (.int .i64 a1), .sc (.bool a2), .sc (.int .u8 a3)]) (.agg [.sc (.int .i64 b0), .sc (.int .i64 b1), .sc (.bool b2), .sc (.int .u8 b3)]) = some ⟨true, bl (decide (a0 = b0 ∧ a1 = b1 ∧ a2 = b2 ∧ a3 = b3))⟩ := (by kernel_rfl : aggEqA Try.prog .eql 7 (.agg [.sc (.int .i64 a0), .sc (.int .i64 a1), .sc (.bool a2), .sc (.int .u8 a3)]) (.agg [.sc (.int .i64 b0), .sc (.int .i64 b1), .sc (.bool b2), .sc (.int .u8 b3)]) = some ⟨true, bl (((a0 == b0) && ((a1 == b1) && ((a2 == b2) && ((a3 == b3) && (true))))))⟩).trans (by congr 3; rw [Bool.eq_iff_iff]; simp only [beq_bytes, beq_iff_eq, Bool.and_eq_true, decide_eq_true_eq, and_true, and_assoc])
theorem aggNe7 (a0 b0 : Int) (a1 b1 : Int) (a2 b2 : Bool) (a3 b3 : Int) : aggEqA Try.prog .neq 7 (.agg [.sc (.int .i64 a0), .sc (.int .i64 a1), .sc (.bool a2), .sc (.int .u8 a3)]) (.agg [.sc (.int .i64 b0), .sc (.int .i64 b1), .sc (.bool b2), .sc (.int .u8 b3)]) = some ⟨true, bl (!decide (a0 = b0 ∧ a1 = b1 ∧ a2 = b2 ∧ a3 = b3))⟩ := (by kernel_rfl : aggEqA Try.prog .neq 7 (.agg [.sc (.int .i64 a0), .sc (.int .i64 a1), .sc (.bool a2), .sc (.int .u8 a3)]) (.agg [.sc (.int .i64 b0), .sc (.int .i64 b1), .sc (.bool b2), .sc (.int .u8 b3)]) = some ⟨true, bl (!((a0 == b0) && ((a1 == b1) && ((a2 == b2) && ((a3 == b3) && (true))))))⟩).trans (by congr 4; rw [Bool.eq_iff_iff]; simp only [beq_bytes, beq_iff_eq, Bool.and_eq_true, decide_eq_true_eq, and_true, and_assoc])
theorem tyI8 : tyI Try.prog 8 = some (true, 4) := by kernel_rfl
theorem tyFd8x0 : tyFd Try.prog 8 0 = some (0, 2, 1) := by kernel_rfl
theorem tyFd8x1 : tyFd Try.prog 8 1 = some (1, 3, 1) := by kernel_rfl
theorem tyFd8x2 : tyFd Try.prog 8 2 = some (2, 4, 1) := by kernel_rfl
theorem tyFd8x3 : tyFd Try.prog 8 3 = some (3, 6, 1) := by kernel_rfl
theorem und8 : (Try.prog.underlying 8).isSome = true := by kernel_rfl
theorem tyZ8 : tyZ Try.prog 8 = some (.agg [nt .i64 0, nt .i64 0, bl false, nt .u8 0]) := by kernel_rfl
theorem tyBd8 : tyBd Try.prog 8 = 0 := by kernel_rfl
theorem tyB8 : tyB Try.prog 8 = some ([nt .i64 0, nt .i64 0, bl false, nt .u8 0], [(0, 1), (1, 1), (2, 1), (3, 1)]) := by kernel_rfl
theorem aggEq8 (a0 b0 : Int) (a1 b1 : Int) (a2 b2 : Bool) (a3 b3 : Int) : aggEqA Try.prog .eql 8 (.agg [.sc (.int .i64 a0), .sc (.int .i64 a1), .sc (.bool a2), .sc (.int .u8 a3)]) (.agg [.sc (.int .i64 b0), .sc (.int .i64 b1), .sc (.bool b2), .sc (.int .u8 b3)]) = some ⟨true, bl (decide (a0 = b0 ∧ a1 = b1 ∧ a2 = b2 ∧ a3 = b3))⟩ := (by kernel_rfl : aggEqA Try.prog .eql 8 (.agg [.sc (.int .i64 a0), .sc (.int .i64 a1), .sc (.bool a2), .sc (.int .u8 a3)]) (.agg [.sc (.int .i64 b0), .sc (.int .i64 b1), .sc (.bool b2), .sc (.int .u8 b3)]) = some ⟨true, bl (((a0 == b0) && ((a1 == b1) && ((a2 == b2) && ((a3 == b3) && (true))))))⟩).trans (by congr 3; rw [Bool.eq_iff_iff]; simp only [beq_bytes, beq_iff_eq, Bool.and_eq_true, decide_eq_true_eq, and_true, and_assoc])
theorem aggNe8 (a0 b0 : Int) (a1 b1 : Int) (a2 b2 : Bool) (a3 b3 : Int) : aggEqA Try.prog .neq 8 (.agg [.sc (.int .i64 a0), .sc (.int .i64 a1), .sc (.bool a2), .sc (.int .u8 a3)]) (.agg [.sc (.int .i64 b0), .sc (.int .i64 b1), .sc (.bool b2), .sc (.int .u8 b3)]) = some ⟨true, bl (!decide (a0 = b0 ∧ a1 = b1 ∧ a2 = b2 ∧ a3 = b3))⟩ := (by kernel_rfl : aggEqA Try.prog .neq 8 (.agg [.sc (.int .i64 a0), .sc (.int .i64 a1), .sc (.bool a2), .sc (.int .u8 a3)]) (.agg [.sc (.int .i64 b0), .sc (.int .i64 b1), .sc (.bool b2), .sc (.int .u8 b3)]) = some ⟨true, bl (!((a0 == b0) && ((a1 == b1) && ((a2 == b2) && ((a3 == b3) && (true))))))⟩).trans (by congr 4; rw [Bool.eq_iff_iff]; simp only [beq_bytes, beq_iff_eq, Bool.and_eq_true, decide_eq_true_eq, and_true, and_assoc])
theorem tyI9 : tyI Try.prog 9 = some (false, 1) := by kernel_rfl
theorem tyStr9 : tyStr Try.prog 9 = true := by kernel_rfl
theorem und9 : (Try.prog.underlying 9).isSome = true := by kernel_rfl
theorem tyZ9 : tyZ Try.prog 9 = some (.sc (.string (ByteArray.mk #[]))) := by kernel_rfl
theorem tyBd9 : tyBd Try.prog 9 = 0 := by kernel_rfl
theorem tySrc9 : tySrc Try.prog 9 = true := by kernel_rfl
theorem tyZs9 : tyZs Try.prog 9 = some 1 := by kernel_rfl
theorem kdE9 : kdE Try.prog 9 = 0 := by kernel_rfl
theorem tyI10 : tyI Try.prog 10 = some (false, 1) := by kernel_rfl
theorem tyStr10 : tyStr Try.prog 10 = true := by kernel_rfl
theorem und10 : (Try.prog.underlying 10).isSome = true := by kernel_rfl
theorem tyZ10 : tyZ Try.prog 10 = some (.sc (.string (ByteArray.mk #[]))) := by kernel_rfl
theorem tyBd10 : tyBd Try.prog 10 = 0 := by kernel_rfl
theorem tySrc10 : tySrc Try.prog 10 = true := by kernel_rfl
theorem tyI11 : tyI Try.prog 11 = some (false, 1) := by kernel_rfl
theorem tyStr11 : tyStr Try.prog 11 = true := by kernel_rfl
theorem und11 : (Try.prog.underlying 11).isSome = true := by kernel_rfl
theorem tyZ11 : tyZ Try.prog 11 = some (.sc (.string (ByteArray.mk #[]))) := by kernel_rfl
theorem tyBd11 : tyBd Try.prog 11 = 0 := by kernel_rfl
theorem tySrc11 : tySrc Try.prog 11 = true := by kernel_rfl
theorem tyI12 : tyI Try.prog 12 = some (false, 1) := by kernel_rfl
theorem tyK12 : tyK Try.prog 12 = some .u64 := by kernel_rfl
theorem und12 : (Try.prog.underlying 12).isSome = true := by kernel_rfl
theorem tyZ12 : tyZ Try.prog 12 = some (nt .u64 0) := by kernel_rfl
theorem tyBd12 : tyBd Try.prog 12 = 0 := by kernel_rfl
theorem tyI13 : tyI Try.prog 13 = some (true, 2) := by kernel_rfl
theorem tyFd13x0 : tyFd Try.prog 13 0 = some (0, 9, 1) := by kernel_rfl
theorem tyFd13x1 : tyFd Try.prog 13 1 = some (1, 12, 1) := by kernel_rfl
theorem und13 : (Try.prog.underlying 13).isSome = true := by kernel_rfl
theorem tyZ13 : tyZ Try.prog 13 = some (.agg [.sc (.string (ByteArray.mk #[])), nt .u64 0]) := by kernel_rfl
theorem tyBd13 : tyBd Try.prog 13 = 0 := by kernel_rfl
theorem tyB13 : tyB Try.prog 13 = some ([.sc (.string (ByteArray.mk #[])), nt .u64 0], [(0, 1), (1, 1)]) := by kernel_rfl
theorem tyI14 : tyI Try.prog 14 = some (true, 2) := by kernel_rfl
theorem tyFd14x0 : tyFd Try.prog 14 0 = some (0, 9, 1) := by kernel_rfl
theorem tyFd14x1 : tyFd Try.prog 14 1 = some (1, 12, 1) := by kernel_rfl
theorem und14 : (Try.prog.underlying 14).isSome = true := by kernel_rfl
theorem tyZ14 : tyZ Try.prog 14 = some (.agg [.sc (.string (ByteArray.mk #[])), nt .u64 0]) := by kernel_rfl
theorem tyBd14 : tyBd Try.prog 14 = 0 := by kernel_rfl
theorem tyB14 : tyB Try.prog 14 = some ([.sc (.string (ByteArray.mk #[])), nt .u64 0], [(0, 1), (1, 1)]) := by kernel_rfl
theorem tyI15 : tyI Try.prog 15 = some (false, 1) := by kernel_rfl
theorem tyKd15 : tyKd Try.prog 15 = 2 := by kernel_rfl
theorem und15 : (Try.prog.underlying 15).isSome = true := by kernel_rfl
theorem tyZ15 : tyZ Try.prog 15 = some (.sc (.pointer none)) := by kernel_rfl
theorem tyBd15 : tyBd Try.prog 15 = 0 := by kernel_rfl
theorem tyI16 : tyI Try.prog 16 = some (false, 1) := by kernel_rfl
theorem tyKd16 : tyKd Try.prog 16 = 2 := by kernel_rfl
theorem und16 : (Try.prog.underlying 16).isSome = true := by kernel_rfl
theorem tyZ16 : tyZ Try.prog 16 = some (.sc (.pointer none)) := by kernel_rfl
theorem tyBd16 : tyBd Try.prog 16 = 0 := by kernel_rfl
theorem tyI17 : tyI Try.prog 17 = some (false, 1) := by kernel_rfl
theorem tyKd17 : tyKd Try.prog 17 = 2 := by kernel_rfl
theorem und17 : (Try.prog.underlying 17).isSome = true := by kernel_rfl
theorem tyZ17 : tyZ Try.prog 17 = some (.sc (.pointer none)) := by kernel_rfl
theorem tyBd17 : tyBd Try.prog 17 = 0 := by kernel_rfl
theorem tyI18 : tyI Try.prog 18 = some (true, 1) := by kernel_rfl
theorem tyFd18x0 : tyFd Try.prog 18 0 = some (0, 17, 1) := by kernel_rfl
theorem und18 : (Try.prog.underlying 18).isSome = true := by kernel_rfl
theorem tyZ18 : tyZ Try.prog 18 = some (.agg [.sc (.pointer none)]) := by kernel_rfl
theorem tyBd18 : tyBd Try.prog 18 = 0 := by kernel_rfl
theorem tyB18 : tyB Try.prog 18 = some ([.sc (.pointer none)], [(0, 1)]) := by kernel_rfl
theorem tyI19 : tyI Try.prog 19 = some (true, 1) := by kernel_rfl
theorem tyFd19x0 : tyFd Try.prog 19 0 = some (0, 17, 1) := by kernel_rfl
theorem und19 : (Try.prog.underlying 19).isSome = true := by kernel_rfl
theorem tyZ19 : tyZ Try.prog 19 = some (.agg [.sc (.pointer none)]) := by kernel_rfl
theorem tyBd19 : tyBd Try.prog 19 = 0 := by kernel_rfl
theorem tyB19 : tyB Try.prog 19 = some ([.sc (.pointer none)], [(0, 1)]) := by kernel_rfl
theorem tyI20 : tyI Try.prog 20 = some (false, 1) := by kernel_rfl
theorem und20 : (Try.prog.underlying 20).isSome = true := by kernel_rfl
theorem tyZ20 : tyZ Try.prog 20 = some (.sc .nilIface) := by kernel_rfl
theorem tyBd20 : tyBd Try.prog 20 = 0 := by kernel_rfl
theorem tyI21 : tyI Try.prog 21 = some (false, 1) := by kernel_rfl
theorem tyK21 : tyK Try.prog 21 = some .i32 := by kernel_rfl
theorem und21 : (Try.prog.underlying 21).isSome = true := by kernel_rfl
theorem tyZ21 : tyZ Try.prog 21 = some (nt .i32 0) := by kernel_rfl
theorem tyBd21 : tyBd Try.prog 21 = 0 := by kernel_rfl
theorem tyI22 : tyI Try.prog 22 = some (false, 1) := by kernel_rfl
theorem tyKd22 : tyKd Try.prog 22 = 3 := by kernel_rfl
theorem und22 : (Try.prog.underlying 22).isSome = true := by kernel_rfl
theorem tyZ22 : tyZ Try.prog 22 = some (.sc .nilFunc) := by kernel_rfl
theorem tyBd22 : tyBd Try.prog 22 = 0 := by kernel_rfl
theorem tyI23 : tyI Try.prog 23 = some (false, 1) := by kernel_rfl
theorem und23 : (Try.prog.underlying 23).isSome = true := by kernel_rfl
theorem tyBd23 : tyBd Try.prog 23 = 0 := by kernel_rfl
theorem tyI24 : tyI Try.prog 24 = some (false, 1) := by kernel_rfl
theorem tyKd24 : tyKd Try.prog 24 = 3 := by kernel_rfl
theorem und24 : (Try.prog.underlying 24).isSome = true := by kernel_rfl
theorem tyZ24 : tyZ Try.prog 24 = some (.sc .nilFunc) := by kernel_rfl
theorem tyBd24 : tyBd Try.prog 24 = 0 := by kernel_rfl
theorem tyI25 : tyI Try.prog 25 = some (false, 1) := by kernel_rfl
theorem tyKd25 : tyKd Try.prog 25 = 3 := by kernel_rfl
theorem und25 : (Try.prog.underlying 25).isSome = true := by kernel_rfl
theorem tyZ25 : tyZ Try.prog 25 = some (.sc .nilFunc) := by kernel_rfl
theorem tyBd25 : tyBd Try.prog 25 = 0 := by kernel_rfl
theorem tyI26 : tyI Try.prog 26 = some (false, 1) := by kernel_rfl
theorem tyEl26 : tyEl Try.prog 26 = some (28, 2, 40) := by kernel_rfl
theorem tyKd26 : tyKd Try.prog 26 = 1 := by kernel_rfl
theorem und26 : (Try.prog.underlying 26).isSome = true := by kernel_rfl
theorem tyZ26 : tyZ Try.prog 26 = some (.list false true []) := by kernel_rfl
theorem tyBd26 : tyBd Try.prog 26 = 0 := by kernel_rfl
theorem tySrc26 : tySrc Try.prog 26 = true := by kernel_rfl
theorem tyI27 : tyI Try.prog 27 = some (true, 2) := by kernel_rfl
theorem tyFd27x0 : tyFd Try.prog 27 0 = some (0, 9, 1) := by kernel_rfl
theorem tyFd27x1 : tyFd Try.prog 27 1 = some (1, 26, 1) := by kernel_rfl
theorem und27 : (Try.prog.underlying 27).isSome = true := by kernel_rfl
theorem tyZ27 : tyZ Try.prog 27 = some (.agg [.sc (.string (ByteArray.mk #[])), .list false true []]) := by kernel_rfl
theorem tyBd27 : tyBd Try.prog 27 = 0 := by kernel_rfl
theorem tyB27 : tyB Try.prog 27 = some ([.sc (.string (ByteArray.mk #[])), .list false true []], [(0, 1), (1, 1)]) := by kernel_rfl
theorem tyI28 : tyI Try.prog 28 = some (true, 2) := by kernel_rfl
theorem tyFd28x0 : tyFd Try.prog 28 0 = some (0, 9, 1) := by kernel_rfl
theorem tyFd28x1 : tyFd Try.prog 28 1 = some (1, 26, 1) := by kernel_rfl
theorem und28 : (Try.prog.underlying 28).isSome = true := by kernel_rfl
theorem tyZ28 : tyZ Try.prog 28 = some (.agg [.sc (.string (ByteArray.mk #[])), .list false true []]) := by kernel_rfl
theorem tyBd28 : tyBd Try.prog 28 = 0 := by kernel_rfl
theorem tyZs28 : tyZs Try.prog 28 = some 2 := by kernel_rfl
theorem kdE28 : kdE Try.prog 28 = 0 := by kernel_rfl
theorem tyB28 : tyB Try.prog 28 = some ([.sc (.string (ByteArray.mk #[])), .list false true []], [(0, 1), (1, 1)]) := by kernel_rfl
theorem tyI29 : tyI Try.prog 29 = some (false, 1) := by kernel_rfl
theorem tyKd29 : tyKd Try.prog 29 = 3 := by kernel_rfl
theorem und29 : (Try.prog.underlying 29).isSome = true := by kernel_rfl
theorem tyZ29 : tyZ Try.prog 29 = some (.sc .nilFunc) := by kernel_rfl
theorem tyBd29 : tyBd Try.prog 29 = 0 := by kernel_rfl
theorem tyI30 : tyI Try.prog 30 = some (false, 1) := by kernel_rfl
theorem tyKd30 : tyKd Try.prog 30 = 3 := by kernel_rfl
theorem und30 : (Try.prog.underlying 30).isSome = true := by kernel_rfl
theorem tyZ30 : tyZ Try.prog 30 = some (.sc .nilFunc) := by kernel_rfl
theorem tyBd30 : tyBd Try.prog 30 = 0 := by kernel_rfl
theorem tyI31 : tyI Try.prog 31 = some (false, 1) := by kernel_rfl
theorem tyKd31 : tyKd Try.prog 31 = 3 := by kernel_rfl
theorem und31 : (Try.prog.underlying 31).isSome = true := by kernel_rfl
theorem tyZ31 : tyZ Try.prog 31 = some (.sc .nilFunc) := by kernel_rfl
theorem tyBd31 : tyBd Try.prog 31 = 0 := by kernel_rfl
theorem tyI32 : tyI Try.prog 32 = some (false, 1) := by kernel_rfl
theorem tyKd32 : tyKd Try.prog 32 = 3 := by kernel_rfl
theorem und32 : (Try.prog.underlying 32).isSome = true := by kernel_rfl
theorem tyZ32 : tyZ Try.prog 32 = some (.sc .nilFunc) := by kernel_rfl
theorem tyBd32 : tyBd Try.prog 32 = 0 := by kernel_rfl
theorem tyI33 : tyI Try.prog 33 = some (false, 1) := by kernel_rfl
theorem tyKd33 : tyKd Try.prog 33 = 3 := by kernel_rfl
theorem und33 : (Try.prog.underlying 33).isSome = true := by kernel_rfl
theorem tyZ33 : tyZ Try.prog 33 = some (.sc .nilFunc) := by kernel_rfl
theorem tyBd33 : tyBd Try.prog 33 = 0 := by kernel_rfl
theorem tyI34 : tyI Try.prog 34 = some (false, 1) := by kernel_rfl
theorem tyKd34 : tyKd Try.prog 34 = 3 := by kernel_rfl
theorem und34 : (Try.prog.underlying 34).isSome = true := by kernel_rfl
theorem tyZ34 : tyZ Try.prog 34 = some (.sc .nilFunc) := by kernel_rfl
theorem tyBd34 : tyBd Try.prog 34 = 0 := by kernel_rfl
theorem tyI35 : tyI Try.prog 35 = some (false, 1) := by kernel_rfl
theorem tyKd35 : tyKd Try.prog 35 = 3 := by kernel_rfl
theorem und35 : (Try.prog.underlying 35).isSome = true := by kernel_rfl
theorem tyZ35 : tyZ Try.prog 35 = some (.sc .nilFunc) := by kernel_rfl
theorem tyBd35 : tyBd Try.prog 35 = 0 := by kernel_rfl
theorem tyI36 : tyI Try.prog 36 = some (false, 1) := by kernel_rfl
theorem tyKd36 : tyKd Try.prog 36 = 3 := by kernel_rfl
theorem und36 : (Try.prog.underlying 36).isSome = true := by kernel_rfl
theorem tyZ36 : tyZ Try.prog 36 = some (.sc .nilFunc) := by kernel_rfl
theorem tyBd36 : tyBd Try.prog 36 = 0 := by kernel_rfl
theorem tyI37 : tyI Try.prog 37 = some (false, 1) := by kernel_rfl
theorem tyKd37 : tyKd Try.prog 37 = 3 := by kernel_rfl
theorem und37 : (Try.prog.underlying 37).isSome = true := by kernel_rfl
theorem tyZ37 : tyZ Try.prog 37 = some (.sc .nilFunc) := by kernel_rfl
theorem tyBd37 : tyBd Try.prog 37 = 0 := by kernel_rfl
theorem tyI38 : tyI Try.prog 38 = some (false, 1) := by kernel_rfl
theorem tyKd38 : tyKd Try.prog 38 = 3 := by kernel_rfl
theorem und38 : (Try.prog.underlying 38).isSome = true := by kernel_rfl
theorem tyZ38 : tyZ Try.prog 38 = some (.sc .nilFunc) := by kernel_rfl
theorem tyBd38 : tyBd Try.prog 38 = 0 := by kernel_rfl
theorem tyI39 : tyI Try.prog 39 = some (false, 1) := by kernel_rfl
theorem tyKd39 : tyKd Try.prog 39 = 3 := by kernel_rfl
theorem und39 : (Try.prog.underlying 39).isSome = true := by kernel_rfl
theorem tyZ39 : tyZ Try.prog 39 = some (.sc .nilFunc) := by kernel_rfl
theorem tyBd39 : tyBd Try.prog 39 = 0 := by kernel_rfl
theorem tyI40 : tyI Try.prog 40 = some (false, 1) := by kernel_rfl
theorem tyKd40 : tyKd Try.prog 40 = 3 := by kernel_rfl
theorem und40 : (Try.prog.underlying 40).isSome = true := by kernel_rfl
theorem tyZ40 : tyZ Try.prog 40 = some (.sc .nilFunc) := by kernel_rfl
theorem tyBd40 : tyBd Try.prog 40 = 0 := by kernel_rfl
theorem tyI41 : tyI Try.prog 41 = some (false, 1) := by kernel_rfl
theorem tyKd41 : tyKd Try.prog 41 = 3 := by kernel_rfl
theorem und41 : (Try.prog.underlying 41).isSome = true := by kernel_rfl
theorem tyZ41 : tyZ Try.prog 41 = some (.sc .nilFunc) := by kernel_rfl
theorem tyBd41 : tyBd Try.prog 41 = 0 := by kernel_rfl
theorem tyI42 : tyI Try.prog 42 = some (false, 1) := by kernel_rfl
theorem tyEl42 : tyEl Try.prog 42 = some (9, 1, 16) := by kernel_rfl
theorem tyKd42 : tyKd Try.prog 42 = 1 := by kernel_rfl
theorem und42 : (Try.prog.underlying 42).isSome = true := by kernel_rfl
theorem tyZ42 : tyZ Try.prog 42 = some (.list false true []) := by kernel_rfl
theorem tyBd42 : tyBd Try.prog 42 = 0 := by kernel_rfl
theorem tySrc42 : tySrc Try.prog 42 = true := by kernel_rfl
theorem tyI43 : tyI Try.prog 43 = some (false, 1) := by kernel_rfl
theorem tyKd43 : tyKd Try.prog 43 = 3 := by kernel_rfl
theorem und43 : (Try.prog.underlying 43).isSome = true := by kernel_rfl
theorem tyZ43 : tyZ Try.prog 43 = some (.sc .nilFunc) := by kernel_rfl
theorem tyBd43 : tyBd Try.prog 43 = 0 := by kernel_rfl
theorem tyI44 : tyI Try.prog 44 = some (false, 1) := by kernel_rfl
theorem tyKd44 : tyKd Try.prog 44 = 3 := by kernel_rfl
theorem und44 : (Try.prog.underlying 44).isSome = true := by kernel_rfl
theorem tyZ44 : tyZ Try.prog 44 = some (.sc .nilFunc) := by kernel_rfl
theorem tyBd44 : tyBd Try.prog 44 = 0 := by kernel_rfl
theorem tyI45 : tyI Try.prog 45 = some (false, 1) := by kernel_rfl
theorem tyKd45 : tyKd Try.prog 45 = 3 := by kernel_rfl
theorem und45 : (Try.prog.underlying 45).isSome = true := by kernel_rfl
theorem tyZ45 : tyZ Try.prog 45 = some (.sc .nilFunc) := by kernel_rfl
theorem tyBd45 : tyBd Try.prog 45 = 0 := by kernel_rfl
theorem tyI46 : tyI Try.prog 46 = some (false, 1) := by kernel_rfl
theorem tyKd46 : tyKd Try.prog 46 = 3 := by kernel_rfl
theorem und46 : (Try.prog.underlying 46).isSome = true := by kernel_rfl
theorem tyZ46 : tyZ Try.prog 46 = some (.sc .nilFunc) := by kernel_rfl
theorem tyBd46 : tyBd Try.prog 46 = 0 := by kernel_rfl
theorem tyI47 : tyI Try.prog 47 = some (true, 2) := by kernel_rfl
theorem tyFd47x0 : tyFd Try.prog 47 0 = some (0, 5, 1) := by kernel_rfl
theorem tyFd47x1 : tyFd Try.prog 47 1 = some (1, 5, 1) := by kernel_rfl
theorem und47 : (Try.prog.underlying 47).isSome = true := by kernel_rfl
theorem tyZ47 : tyZ Try.prog 47 = some (.agg [nt .u8 0, nt .u8 0]) := by kernel_rfl
theorem tyBd47 : tyBd Try.prog 47 = 0 := by kernel_rfl
theorem tyB47 : tyB Try.prog 47 = some ([nt .u8 0, nt .u8 0], [(0, 1), (1, 1)]) := by kernel_rfl
theorem aggEq47 (a0 b0 : Int) (a1 b1 : Int) : aggEqA Try.prog .eql 47 (.agg [.sc (.int .u8 a0), .sc (.int .u8 a1)]) (.agg [.sc (.int .u8 b0), .sc (.int .u8 b1)]) = some ⟨true, bl (decide (a0 = b0 ∧ a1 = b1))⟩ := (by kernel_rfl : aggEqA Try.prog .eql 47 (.agg [.sc (.int .u8 a0), .sc (.int .u8 a1)]) (.agg [.sc (.int .u8 b0), .sc (.int .u8 b1)]) = some ⟨true, bl (((a0 == b0) && ((a1 == b1) && (true))))⟩).trans (by congr 3; rw [Bool.eq_iff_iff]; simp only [beq_bytes, beq_iff_eq, Bool.and_eq_true, decide_eq_true_eq, and_true, and_assoc])
theorem aggNe47 (a0 b0 : Int) (a1 b1 : Int) : aggEqA Try.prog .neq 47 (.agg [.sc (.int .u8 a0), .sc (.int .u8 a1)]) (.agg [.sc (.int .u8 b0), .sc (.int .u8 b1)]) = some ⟨true, bl (!decide (a0 = b0 ∧ a1 = b1))⟩ := (by kernel_rfl : aggEqA Try.prog .neq 47 (.agg [.sc (.int .u8 a0), .sc (.int .u8 a1)]) (.agg [.sc (.int .u8 b0), .sc (.int .u8 b1)]) = some ⟨true, bl (!((a0 == b0) && ((a1 == b1) && (true))))⟩).trans (by congr 4; rw [Bool.eq_iff_iff]; simp only [beq_bytes, beq_iff_eq, Bool.and_eq_true, decide_eq_true_eq, and_true, and_assoc])
theorem tyI48 : tyI Try.prog 48 = some (true, 2) := by kernel_rfl
theorem tyFd48x0 : tyFd Try.prog 48 0 = some (0, 5, 1) := by kernel_rfl
theorem tyFd48x1 : tyFd Try.prog 48 1 = some (1, 5, 1) := by kernel_rfl
theorem und48 : (Try.prog.underlying 48).isSome = true := by kernel_rfl
theorem tyZ48 : tyZ Try.prog 48 = some (.agg [nt .u8 0, nt .u8 0]) := by kernel_rfl
theorem tyBd48 : tyBd Try.prog 48 = 0 := by kernel_rfl
theorem tyZs48 : tyZs Try.prog 48 = some 2 := by kernel_rfl
theorem kdE48 : kdE Try.prog 48 = 0 := by kernel_rfl
theorem tyB48 : tyB Try.prog 48 = some ([nt .u8 0, nt .u8 0], [(0, 1), (1, 1)]) := by kernel_rfl
theorem aggEq48 (a0 b0 : Int) (a1 b1 : Int) : aggEqA Try.prog .eql 48 (.agg [.sc (.int .u8 a0), .sc (.int .u8 a1)]) (.agg [.sc (.int .u8 b0), .sc (.int .u8 b1)]) = some ⟨true, bl (decide (a0 = b0 ∧ a1 = b1))⟩ := (by kernel_rfl : aggEqA Try.prog .eql 48 (.agg [.sc (.int .u8 a0), .sc (.int .u8 a1)]) (.agg [.sc (.int .u8 b0), .sc (.int .u8 b1)]) = some ⟨true, bl (((a0 == b0) && ((a1 == b1) && (true))))⟩).trans (by congr 3; rw [Bool.eq_iff_iff]; simp only [beq_bytes, beq_iff_eq, Bool.and_eq_true, decide_eq_true_eq, and_true, and_assoc])
theorem aggNe48 (a0 b0 : Int) (a1 b1 : Int) : aggEqA Try.prog .neq 48 (.agg [.sc (.int .u8 a0), .sc (.int .u8 a1)]) (.agg [.sc (.int .u8 b0), .sc (.int .u8 b1)]) = some ⟨true, bl (!decide (a0 = b0 ∧ a1 = b1))⟩ := (by kernel_rfl : aggEqA Try.prog .neq 48 (.agg [.sc (.int .u8 a0), .sc (.int .u8 a1)]) (.agg [.sc (.int .u8 b0), .sc (.int .u8 b1)]) = some ⟨true, bl (!((a0 == b0) && ((a1 == b1) && (true))))⟩).trans (by congr 4; rw [Bool.eq_iff_iff]; simp only [beq_bytes, beq_iff_eq, Bool.and_eq_true, decide_eq_true_eq, and_true, and_assoc])
theorem tyI49 : tyI Try.prog 49 = some (true, 6) := by kernel_rfl
theorem tyAr49 : tyAr Try.prog 49 = some (3, 48, 2) := by kernel_rfl
theorem und49 : (Try.prog.underlying 49).isSome = true := by kernel_rfl
theorem tyZ49 : tyZ Try.prog 49 = some (.agg [nt .u8 0, nt .u8 0, nt .u8 0, nt .u8 0, nt .u8 0, nt .u8 0]) := by kernel_rfl
theorem tyBd49 : tyBd Try.prog 49 = 0 := by kernel_rfl
theorem tyB49 : tyB Try.prog 49 = some ([nt .u8 0, nt .u8 0, nt .u8 0, nt .u8 0, nt .u8 0, nt .u8 0], [(0, 2), (2, 2), (4, 2)]) := by kernel_rfl
theorem tyI50 : tyI Try.prog 50 = some (false, 1) := by kernel_rfl
theorem tyKd50 : tyKd Try.prog 50 = 3 := by kernel_rfl
theorem und50 : (Try.prog.underlying 50).isSome = true := by kernel_rfl
theorem tyZ50 : tyZ Try.prog 50 = some (.sc .nilFunc) := by kernel_rfl
theorem tyBd50 : tyBd Try.prog 50 = 0 := by kernel_rfl
theorem tyI51 : tyI Try.prog 51 = some (false, 1) := by kernel_rfl
theorem tyKd51 : tyKd Try.prog 51 = 3 := by kernel_rfl
theorem und51 : (Try.prog.underlying 51).isSome = true := by kernel_rfl
theorem tyZ51 : tyZ Try.prog 51 = some (.sc .nilFunc) := by kernel_rfl
theorem tyBd51 : tyBd Try.prog 51 = 0 := by kernel_rfl
theorem tyI52 : tyI Try.prog 52 = some (false, 1) := by kernel_rfl
theorem tyKd52 : tyKd Try.prog 52 = 2 := by kernel_rfl
theorem und52 : (Try.prog.underlying 52).isSome = true := by kernel_rfl
theorem tyZ52 : tyZ Try.prog 52 = some (.sc (.pointer none)) := by kernel_rfl
theorem tyBd52 : tyBd Try.prog 52 = 0 := by kernel_rfl
theorem tyI53 : tyI Try.prog 53 = some (false, 1) := by kernel_rfl
theorem tyEl53 : tyEl Try.prog 53 = some (5, 1, 1) := by kernel_rfl
theorem tyKd53 : tyKd Try.prog 53 = 1 := by kernel_rfl
theorem und53 : (Try.prog.underlying 53).isSome = true := by kernel_rfl
theorem tyZ53 : tyZ Try.prog 53 = some (.list false true []) := by kernel_rfl
theorem tyBd53 : tyBd Try.prog 53 = 0 := by kernel_rfl
theorem tySrc53 : tySrc Try.prog 53 = true := by kernel_rfl
theorem tyI54 : tyI Try.prog 54 = some (true, 2) := by kernel_rfl
theorem tyFd54x0 : tyFd Try.prog 54 0 = some (0, 52, 1) := by kernel_rfl
theorem tyFd54x1 : tyFd Try.prog 54 1 = some (1, 53, 1) := by kernel_rfl
theorem und54 : (Try.prog.underlying 54).isSome = true := by kernel_rfl
theorem tyZ54 : tyZ Try.prog 54 = some (.agg [.sc (.pointer none), .list false true []]) := by kernel_rfl
theorem tyBd54 : tyBd Try.prog 54 = 0 := by kernel_rfl
theorem tyB54 : tyB Try.prog 54 = some ([.sc (.pointer none), .list false true []], [(0, 1), (1, 1)]) := by kernel_rfl
theorem tyI55 : tyI Try.prog 55 = some (true, 2) := by kernel_rfl
theorem tyFd55x0 : tyFd Try.prog 55 0 = some (0, 52, 1) := by kernel_rfl
theorem tyFd55x1 : tyFd Try.prog 55 1 = some (1, 53, 1) := by kernel_rfl
theorem und55 : (Try.prog.underlying 55).isSome = true := by kernel_rfl
theorem tyZ55 : tyZ Try.prog 55 = some (.agg [.sc (.pointer none), .list false true []]) := by kernel_rfl
theorem tyBd55 : tyBd Try.prog 55 = 57 := by kernel_rfl
theorem rawZ55 : rawZ Try.prog 55 = some (.agg [.sc (.pointer none), .sc (.slice none 0 0)]) := by kernel_rfl
theorem tyB55 : tyB Try.prog 55 = some ([.sc (.pointer none), .list false true []], [(0, 1), (1, 1)]) := by kernel_rfl
theorem tyI56 : tyI Try.prog 56 = some (false, 1) := by kernel_rfl
theorem tyKd56 : tyKd Try.prog 56 = 3 := by kernel_rfl
theorem und56 : (Try.prog.underlying 56).isSome = true := by kernel_rfl
theorem tyZ56 : tyZ Try.prog 56 = some (.sc .nilFunc) := by kernel_rfl
theorem tyBd56 : tyBd Try.prog 56 = 0 := by kernel_rfl
theorem tyI57 : tyI Try.prog 57 = some (false, 1) := by kernel_rfl
theorem tyKd57 : tyKd Try.prog 57 = 3 := by kernel_rfl
theorem und57 : (Try.prog.underlying 57).isSome = true := by kernel_rfl
theorem tyZ57 : tyZ Try.prog 57 = some (.sc .nilFunc) := by kernel_rfl
theorem tyBd57 : tyBd Try.prog 57 = 0 := by kernel_rfl
theorem tyI58 : tyI Try.prog 58 = some (false, 1) := by kernel_rfl
theorem tyKd58 : tyKd Try.prog 58 = 3 := by kernel_rfl
theorem und58 : (Try.prog.underlying 58).isSome = true := by kernel_rfl
theorem tyZ58 : tyZ Try.prog 58 = some (.sc .nilFunc) := by kernel_rfl
theorem tyBd58 : tyBd Try.prog 58 = 0 := by kernel_rfl
theorem tyI59 : tyI Try.prog 59 = some (false, 1) := by kernel_rfl
theorem tyKd59 : tyKd Try.prog 59 = 3 := by kernel_rfl
theorem und59 : (Try.prog.underlying 59).isSome = true := by kernel_rfl
theorem tyZ59 : tyZ Try.prog 59 = some (.sc .nilFunc) := by kernel_rfl
theorem tyBd59 : tyBd Try.prog 59 = 0 := by kernel_rfl
theorem tyI60 : tyI Try.prog 60 = some (true, 4) := by kernel_rfl
theorem tyFd60x0 : tyFd Try.prog 60 0 = some (0, 3, 1) := by kernel_rfl
theorem tyFd60x1 : tyFd Try.prog 60 1 = some (1, 3, 1) := by kernel_rfl
theorem tyFd60x2 : tyFd Try.prog 60 2 = some (2, 3, 1) := by kernel_rfl
theorem tyFd60x3 : tyFd Try.prog 60 3 = some (3, 9, 1) := by kernel_rfl
theorem und60 : (Try.prog.underlying 60).isSome = true := by kernel_rfl
theorem tyZ60 : tyZ Try.prog 60 = some (.agg [nt .i64 0, nt .i64 0, nt .i64 0, .sc (.string (ByteArray.mk #[]))]) := by kernel_rfl
theorem tyBd60 : tyBd Try.prog 60 = 0 := by kernel_rfl
theorem tyB60 : tyB Try.prog 60 = some ([nt .i64 0, nt .i64 0, nt .i64 0, .sc (.string (ByteArray.mk #[]))], [(0, 1), (1, 1), (2, 1), (3, 1)]) := by kernel_rfl
theorem aggEq60 (a0 b0 : Int) (a1 b1 : Int) (a2 b2 : Int) (a3 b3 : ByteArray) : aggEqA Try.prog .eql 60 (.agg [.sc (.int .i64 a0), .sc (.int .i64 a1), .sc (.int .i64 a2), .sc (.string a3)]) (.agg [.sc (.int .i64 b0), .sc (.int .i64 b1), .sc (.int .i64 b2), .sc (.string b3)]) = some ⟨true, bl (decide (a0 = b0 ∧ a1 = b1 ∧ a2 = b2 ∧ a3 = b3))⟩ := (by kernel_rfl : aggEqA Try.prog .eql 60 (.agg [.sc (.int .i64 a0), .sc (.int .i64 a1), .sc (.int .i64 a2), .sc (.string a3)]) (.agg [.sc (.int .i64 b0), .sc (.int .i64 b1), .sc (.int .i64 b2), .sc (.string b3)]) = some ⟨true, bl (((a0 == b0) && ((a1 == b1) && ((a2 == b2) && ((a3 == b3) && (true))))))⟩).trans (by congr 3; rw [Bool.eq_iff_iff]; simp only [beq_bytes, beq_iff_eq, Bool.and_eq_true, decide_eq_true_eq, and_true, and_assoc])
theorem aggNe60 (a0 b0 : Int) (a1 b1 : Int) (a2 b2 : Int) (a3 b3 : ByteArray) : aggEqA Try.prog .neq 60 (.agg [.sc (.int .i64 a0), .sc (.int .i64 a1), .sc (.int .i64 a2), .sc (.string a3)]) (.agg [.sc (.int .i64 b0), .sc (.int .i64 b1), .sc (.int .i64 b2), .sc (.string b3)]) = some ⟨true, bl (!decide (a0 = b0 ∧ a1 = b1 ∧ a2 = b2 ∧ a3 = b3))⟩ := (by kernel_rfl : aggEqA Try.prog .neq 60 (.agg [.sc (.int .i64 a0), .sc (.int .i64 a1), .sc (.int .i64 a2), .sc (.string a3)]) (.agg [.sc (.int .i64 b0), .sc (.int .i64 b1), .sc (.int .i64 b2), .sc (.string b3)]) = some ⟨true, bl (!((a0 == b0) && ((a1 == b1) && ((a2 == b2) && ((a3 == b3) && (true))))))⟩).trans (by congr 4; rw [Bool.eq_iff_iff]; simp only [beq_bytes, beq_iff_eq, Bool.and_eq_true, decide_eq_true_eq, and_true, and_assoc])
theorem tyI61 : tyI Try.prog 61 = some (true, 4) := by kernel_rfl
theorem tyFd61x0 : tyFd Try.prog 61 0 = some (0, 3, 1) := by kernel_rfl
theorem tyFd61x1 : tyFd Try.prog 61 1 = some (1, 3, 1) := by kernel_rfl
theorem tyFd61x2 : tyFd Try.prog 61 2 = some (2, 3, 1) := by kernel_rfl
theorem tyFd61x3 : tyFd Try.prog 61 3 = some (3, 9, 1) := by kernel_rfl
theorem und61 : (Try.prog.underlying 61).isSome = true := by kernel_rfl
theorem tyZ61 : tyZ Try.prog 61 = some (.agg [nt .i64 0, nt .i64 0, nt .i64 0, .sc (.string (ByteArray.mk #[]))]) := by kernel_rfl
theorem tyBd61 : tyBd Try.prog 61 = 0 := by kernel_rfl
theorem tyB61 : tyB Try.prog 61 = some ([nt .i64 0, nt .i64 0, nt .i64 0, .sc (.string (ByteArray.mk #[]))], [(0, 1), (1, 1), (2, 1), (3, 1)]) := by kernel_rfl
theorem aggEq61 (a0 b0 : Int) (a1 b1 : Int) (a2 b2 : Int) (a3 b3 : ByteArray) : aggEqA Try.prog .eql 61 (.agg [.sc (.int .i64 a0), .sc (.int .i64 a1), .sc (.int .i64 a2), .sc (.string a3)]) (.agg [.sc (.int .i64 b0), .sc (.int .i64 b1), .sc (.int .i64 b2), .sc (.string b3)]) = some ⟨true, bl (decide (a0 = b0 ∧ a1 = b1 ∧ a2 = b2 ∧ a3 = b3))⟩ := (by kernel_rfl : aggEqA Try.prog .eql 61 (.agg [.sc (.int .i64 a0), .sc (.int .i64 a1), .sc (.int .i64 a2), .sc (.string a3)]) (.agg [.sc (.int .i64 b0), .sc (.int .i64 b1), .sc (.int .i64 b2), .sc (.string b3)]) = some ⟨true, bl (((a0 == b0) && ((a1 == b1) && ((a2 == b2) && ((a3 == b3) && (true))))))⟩).trans (by congr 3; rw [Bool.eq_iff_iff]; simp only [beq_bytes, beq_iff_eq, Bool.and_eq_true, decide_eq_true_eq, and_true, and_assoc])
theorem aggNe61 (a0 b0 : Int) (a1 b1 : Int) (a2 b2 : Int) (a3 b3 : ByteArray) : aggEqA Try.prog .neq 61 (.agg [.sc (.int .i64 a0), .sc (.int .i64 a1), .sc (.int .i64 a2), .sc (.string a3)]) (.agg [.sc (.int .i64 b0), .sc (.int .i64 b1), .sc (.int .i64 b2), .sc (.string b3)]) = some ⟨true, bl (!decide (a0 = b0 ∧ a1 = b1 ∧ a2 = b2 ∧ a3 = b3))⟩ := (by kernel_rfl : aggEqA Try.prog .neq 61 (.agg [.sc (.int .i64 a0), .sc (.int .i64 a1), .sc (.int .i64 a2), .sc (.string a3)]) (.agg [.sc (.int .i64 b0), .sc (.int .i64 b1), .sc (.int .i64 b2), .sc (.string b3)]) = some ⟨true, bl (!((a0 == b0) && ((a1 == b1) && ((a2 == b2) && ((a3 == b3) && (true))))))⟩).trans (by congr 4; rw [Bool.eq_iff_iff]; simp only [beq_bytes, beq_iff_eq, Bool.and_eq_true, decide_eq_true_eq, and_true, and_assoc])
theorem tyI62 : tyI Try.prog 62 = some (false, 1) := by kernel_rfl
theorem tyKd62 : tyKd Try.prog 62 = 3 := by kernel_rfl
theorem und62 : (Try.prog.underlying 62).isSome = true := by kernel_rfl
theorem tyZ62 : tyZ Try.prog 62 = some (.sc .nilFunc) := by kernel_rfl
theorem tyBd62 : tyBd Try.prog 62 = 0 := by kernel_rfl
theorem tyI63 : tyI Try.prog 63 = some (false, 1) := by kernel_rfl
theorem tyKd63 : tyKd Try.prog 63 = 3 := by kernel_rfl
theorem und63 : (Try.prog.underlying 63).isSome = true := by kernel_rfl
theorem tyZ63 : tyZ Try.prog 63 = some (.sc .nilFunc) := by kernel_rfl
theorem tyBd63 : tyBd Try.prog 63 = 0 := by kernel_rfl
theorem tyI65 : tyI Try.prog 65 = some (false, 1) := by kernel_rfl
theorem tyKd65 : tyKd Try.prog 65 = 3 := by kernel_rfl
theorem und65 : (Try.prog.underlying 65).isSome = true := by kernel_rfl
theorem tyZ65 : tyZ Try.prog 65 = some (.sc .nilFunc) := by kernel_rfl
theorem tyBd65 : tyBd Try.prog 65 = 0 := by kernel_rfl
theorem tyI66 : tyI Try.prog 66 = some (false, 1) := by kernel_rfl
theorem tyKd66 : tyKd Try.prog 66 = 3 := by kernel_rfl
theorem und66 : (Try.prog.underlying 66).isSome = true := by kernel_rfl
theorem tyZ66 : tyZ Try.prog 66 = some (.sc .nilFunc) := by kernel_rfl
theorem tyBd66 : tyBd Try.prog 66 = 0 := by kernel_rfl
theorem tyI67 : tyI Try.prog 67 = some (false, 1) := by kernel_rfl
theorem tyKd67 : tyKd Try.prog 67 = 3 := by kernel_rfl
theorem und67 : (Try.prog.underlying 67).isSome = true := by kernel_rfl
theorem tyZ67 : tyZ Try.prog 67 = some (.sc .nilFunc) := by kernel_rfl
theorem tyBd67 : tyBd Try.prog 67 = 0 := by kernel_rfl
theorem tyI68 : tyI Try.prog 68 = some (false, 1) := by kernel_rfl
theorem tyKd68 : tyKd Try.prog 68 = 3 := by kernel_rfl
theorem und68 : (Try.prog.underlying 68).isSome = true := by kernel_rfl
theorem tyZ68 : tyZ Try.prog 68 = some (.sc .nilFunc) := by kernel_rfl
theorem tyBd68 : tyBd Try.prog 68 = 0 := by kernel_rfl
theorem tyI69 : tyI Try.prog 69 = some (false, 1) := by kernel_rfl
theorem tyKd69 : tyKd Try.prog 69 = 3 := by kernel_rfl
theorem und69 : (Try.prog.underlying 69).isSome = true := by kernel_rfl
theorem tyZ69 : tyZ Try.prog 69 = some (.sc .nilFunc) := by kernel_rfl
theorem tyBd69 : tyBd Try.prog 69 = 0 := by kernel_rfl
theorem tyI70 : tyI Try.prog 70 = some (false, 1) := by kernel_rfl
theorem tyKd70 : tyKd Try.prog 70 = 3 := by kernel_rfl
theorem und70 : (Try.prog.underlying 70).isSome = true := by kernel_rfl
theorem tyZ70 : tyZ Try.prog 70 = some (.sc .nilFunc) := by kernel_rfl
theorem tyBd70 : tyBd Try.prog 70 = 0 := by kernel_rfl
theorem tyI71 : tyI Try.prog 71 = some (false, 1) := by kernel_rfl
theorem tyKd71 : tyKd Try.prog 71 = 3 := by kernel_rfl
theorem und71 : (Try.prog.underlying 71).isSome = true := by kernel_rfl
theorem tyZ71 : tyZ Try.prog 71 = some (.sc .nilFunc) := by kernel_rfl
theorem tyBd71 : tyBd Try.prog 71 = 0 := by kernel_rfl
theorem tyI72 : tyI Try.prog 72 = some (false, 1) := by kernel_rfl
theorem tyKd72 : tyKd Try.prog 72 = 3 := by kernel_rfl
theorem und72 : (Try.prog.underlying 72).isSome = true := by kernel_rfl
theorem tyZ72 : tyZ Try.prog 72 = some (.sc .nilFunc) := by kernel_rfl
theorem tyBd72 : tyBd Try.prog 72 = 0 := by kernel_rfl
theorem tyI73 : tyI Try.prog 73 = some (false, 1) := by kernel_rfl
theorem tyKd73 : tyKd Try.prog 73 = 3 := by kernel_rfl
theorem und73 : (Try.prog.underlying 73).isSome = true := by kernel_rfl
theorem tyZ73 : tyZ Try.prog 73 = some (.sc .nilFunc) := by kernel_rfl
theorem tyBd73 : tyBd Try.prog 73 = 0 := by kernel_rfl
theorem tyI74 : tyI Try.prog 74 = some (false, 1) := by kernel_rfl
theorem tyEl74 : tyEl Try.prog 74 = some (48, 2, 2) := by kernel_rfl
theorem tyKd74 : tyKd Try.prog 74 = 1 := by kernel_rfl
theorem und74 : (Try.prog.underlying 74).isSome = true := by kernel_rfl
theorem tyZ74 : tyZ Try.prog 74 = some (.list false true []) := by kernel_rfl
theorem tyBd74 : tyBd Try.prog 74 = 0 := by kernel_rfl
theorem tySrc74 : tySrc Try.prog 74 = true := by kernel_rfl
theorem tyI75 : tyI Try.prog 75 = some (false, 1) := by kernel_rfl
theorem und75 : (Try.prog.underlying 75).isSome = true := by kernel_rfl
theorem tyZ75 : tyZ Try.prog 75 = some (.sc .nilIface) := by kernel_rfl
theorem tyBd75 : tyBd Try.prog 75 = 0 := by kernel_rfl
theorem tyI78 : tyI Try.prog 78 = some (false, 1) := by kernel_rfl
theorem tyKd78 : tyKd Try.prog 78 = 3 := by kernel_rfl
theorem und78 : (Try.prog.underlying 78).isSome = true := by kernel_rfl
theorem tyZ78 : tyZ Try.prog 78 = some (.sc .nilFunc) := by kernel_rfl
theorem tyBd78 : tyBd Try.prog 78 = 0 := by kernel_rfl
theorem tyI79 : tyI Try.prog 79 = some (false, 1) := by kernel_rfl
theorem tyKd79 : tyKd Try.prog 79 = 3 := by kernel_rfl
theorem und79 : (Try.prog.underlying 79).isSome = true := by kernel_rfl
theorem tyZ79 : tyZ Try.prog 79 = some (.sc .nilFunc) := by kernel_rfl
theorem tyBd79 : tyBd Try.prog 79 = 0 := by kernel_rfl
theorem tyI80 : tyI Try.prog 80 = some (false, 1) := by kernel_rfl
theorem tyKd80 : tyKd Try.prog 80 = 2 := by kernel_rfl
theorem und80 : (Try.prog.underlying 80).isSome = true := by kernel_rfl
theorem tyZ80 : tyZ Try.prog 80 = some (.sc (.pointer none)) := by kernel_rfl
theorem tyBd80 : tyBd Try.prog 80 = 0 := by kernel_rfl
theorem tyI81 : tyI Try.prog 81 = some (false, 1) := by kernel_rfl
theorem tyKd81 : tyKd Try.prog 81 = 3 := by kernel_rfl
theorem und81 : (Try.prog.underlying 81).isSome = true := by kernel_rfl
theorem tyZ81 : tyZ Try.prog 81 = some (.sc .nilFunc) := by kernel_rfl
theorem tyBd81 : tyBd Try.prog 81 = 0 := by kernel_rfl
theorem tyI82 : tyI Try.prog 82 = some (false, 1) := by kernel_rfl
theorem tyK82 : tyK Try.prog 82 = some .u64 := by kernel_rfl
theorem und82 : (Try.prog.underlying 82).isSome = true := by kernel_rfl
theorem tyZ82 : tyZ Try.prog 82 = some (nt .u64 0) := by kernel_rfl
theorem tyBd82 : tyBd Try.prog 82 = 0 := by kernel_rfl
theorem tyI83 : tyI Try.prog 83 = some (false, 1) := by kernel_rfl
theorem tyKd83 : tyKd Try.prog 83 = 3 := by kernel_rfl
theorem und83 : (Try.prog.underlying 83).isSome = true := by kernel_rfl
theorem tyZ83 : tyZ Try.prog 83 = some (.sc .nilFunc) := by kernel_rfl
theorem tyBd83 : tyBd Try.prog 83 = 0 := by kernel_rfl
theorem tyI84 : tyI Try.prog 84 = some (false, 1) := by kernel_rfl
theorem tyKd84 : tyKd Try.prog 84 = 3 := by kernel_rfl
theorem und84 : (Try.prog.underlying 84).isSome = true := by kernel_rfl
theorem tyZ84 : tyZ Try.prog 84 = some (.sc .nilFunc) := by kernel_rfl
theorem tyBd84 : tyBd Try.prog 84 = 0 := by kernel_rfl
theorem tyI85 : tyI Try.prog 85 = some (false, 1) := by kernel_rfl
theorem tyKd85 : tyKd Try.prog 85 = 3 := by kernel_rfl
theorem und85 : (Try.prog.underlying 85).isSome = true := by kernel_rfl
theorem tyZ85 : tyZ Try.prog 85 = some (.sc .nilFunc) := by kernel_rfl
theorem tyBd85 : tyBd Try.prog 85 = 0 := by kernel_rfl
theorem tyI86 : tyI Try.prog 86 = some (false, 1) := by kernel_rfl
theorem tyKd86 : tyKd Try.prog 86 = 3 := by kernel_rfl
theorem und86 : (Try.prog.underlying 86).isSome = true := by kernel_rfl
theorem tyZ86 : tyZ Try.prog 86 = some (.sc .nilFunc) := by kernel_rfl
theorem tyBd86 : tyBd Try.prog 86 = 0 := by kernel_rfl
theorem tyI87 : tyI Try.prog 87 = some (false, 1) := by kernel_rfl
theorem tyKd87 : tyKd Try.prog 87 = 3 := by kernel_rfl
theorem und87 : (Try.prog.underlying 87).isSome = true := by kernel_rfl
theorem tyZ87 : tyZ Try.prog 87 = some (.sc .nilFunc) := by kernel_rfl
theorem tyBd87 : tyBd Try.prog 87 = 0 := by kernel_rfl
theorem tyI88 : tyI Try.prog 88 = some (false, 1) := by kernel_rfl
theorem tyKd88 : tyKd Try.prog 88 = 3 := by kernel_rfl
theorem und88 : (Try.prog.underlying 88).isSome = true := by kernel_rfl
theorem tyZ88 : tyZ Try.prog 88 = some (.sc .nilFunc) := by kernel_rfl
theorem tyBd88 : tyBd Try.prog 88 = 0 := by kernel_rfl
theorem tyI89 : tyI Try.prog 89 = some (false, 1) := by kernel_rfl
theorem tyK89 : tyK Try.prog 89 = some .i64 := by kernel_rfl
theorem und89 : (Try.prog.underlying 89).isSome = true := by kernel_rfl
theorem tyZ89 : tyZ Try.prog 89 = some (nt .i64 0) := by kernel_rfl
theorem tyBd89 : tyBd Try.prog 89 = 0 := by kernel_rfl
theorem tyI90 : tyI Try.prog 90 = some (false, 1) := by kernel_rfl
theorem und90 : (Try.prog.underlying 90).isSome = true := by kernel_rfl
theorem tyBd90 : tyBd Try.prog 90 = 0 := by kernel_rfl
theorem tyI91 : tyI Try.prog 91 = some (false, 1) := by kernel_rfl
theorem tyKd91 : tyKd Try.prog 91 = 3 := by kernel_rfl
theorem und91 : (Try.prog.underlying 91).isSome = true := by kernel_rfl
theorem tyZ91 : tyZ Try.prog 91 = some (.sc .nilFunc) := by kernel_rfl
theorem tyBd91 : tyBd Try.prog 91 = 0 := by kernel_rfl
theorem tyI92 : tyI Try.prog 92 = some (false, 1) := by kernel_rfl
theorem tyKd92 : tyKd Try.prog 92 = 3 := by kernel_rfl
theorem und92 : (Try.prog.underlying 92).isSome = true := by kernel_rfl
theorem tyZ92 : tyZ Try.prog 92 = some (.sc .nilFunc) := by kernel_rfl
theorem tyBd92 : tyBd Try.prog 92 = 0 := by kernel_rfl
theorem tyI93 : tyI Try.prog 93 = some (false, 1) := by kernel_rfl
theorem tyKd93 : tyKd Try.prog 93 = 3 := by kernel_rfl
theorem und93 : (Try.prog.underlying 93).isSome = true := by kernel_rfl
theorem tyZ93 : tyZ Try.prog 93 = some (.sc .nilFunc) := by kernel_rfl
theorem tyBd93 : tyBd Try.prog 93 = 0 := by kernel_rfl
theorem tyI94 : tyI Try.prog 94 = some (false, 1) := by kernel_rfl
theorem tyKd94 : tyKd Try.prog 94 = 3 := by kernel_rfl
theorem und94 : (Try.prog.underlying 94).isSome = true := by kernel_rfl
theorem tyZ94 : tyZ Try.prog 94 = some (.sc .nilFunc) := by kernel_rfl
theorem tyBd94 : tyBd Try.prog 94 = 0 := by kernel_rfl
theorem tyI95 : tyI Try.prog 95 = some (false, 1) := by kernel_rfl
theorem tyKd95 : tyKd Try.prog 95 = 3 := by kernel_rfl
theorem und95 : (Try.prog.underlying 95).isSome = true := by kernel_rfl
theorem tyZ95 : tyZ Try.prog 95 = some (.sc .nilFunc) := by kernel_rfl
theorem tyBd95 : tyBd Try.prog 95 = 0 := by kernel_rfl
theorem tyI96 : tyI Try.prog 96 = some (false, 1) := by kernel_rfl
theorem tyK96 : tyK Try.prog 96 = some .u32 := by kernel_rfl
theorem und96 : (Try.prog.underlying 96).isSome = true := by kernel_rfl
theorem tyZ96 : tyZ Try.prog 96 = some (nt .u32 0) := by kernel_rfl
theorem tyBd96 : tyBd Try.prog 96 = 0 := by kernel_rfl
theorem tyI97 : tyI Try.prog 97 = some (false, 1) := by kernel_rfl
theorem tyKd97 : tyKd Try.prog 97 = 3 := by kernel_rfl
theorem und97 : (Try.prog.underlying 97).isSome = true := by kernel_rfl
theorem tyZ97 : tyZ Try.prog 97 = some (.sc .nilFunc) := by kernel_rfl
theorem tyBd97 : tyBd Try.prog 97 = 0 := by kernel_rfl
theorem tyI98 : tyI Try.prog 98 = some (false, 1) := by kernel_rfl
theorem tyK98 : tyK Try.prog 98 = some .u64 := by kernel_rfl
theorem und98 : (Try.prog.underlying 98).isSome = true := by kernel_rfl
theorem tyZ98 : tyZ Try.prog 98 = some (nt .u64 0) := by kernel_rfl
theorem tyBd98 : tyBd Try.prog 98 = 0 := by kernel_rfl
theorem tyI99 : tyI Try.prog 99 = some (false, 1) := by kernel_rfl
theorem und99 : (Try.prog.underlying 99).isSome = true := by kernel_rfl
theorem tyZ99 : tyZ Try.prog 99 = some (.sc (.pointer none)) := by kernel_rfl
theorem tyBd99 : tyBd Try.prog 99 = 0 := by kernel_rfl
theorem tyI100 : tyI Try.prog 100 = some (false, 1) := by kernel_rfl
theorem tyKd100 : tyKd Try.prog 100 = 3 := by kernel_rfl
theorem und100 : (Try.prog.underlying 100).isSome = true := by kernel_rfl
theorem tyZ100 : tyZ Try.prog 100 = some (.sc .nilFunc) := by kernel_rfl
theorem tyBd100 : tyBd Try.prog 100 = 0 := by kernel_rfl
theorem tyI101 : tyI Try.prog 101 = some (false, 1) := by kernel_rfl
theorem tyK101 : tyK Try.prog 101 = some .u64 := by kernel_rfl
theorem und101 : (Try.prog.underlying 101).isSome = true := by kernel_rfl
theorem tyZ101 : tyZ Try.prog 101 = some (nt .u64 0) := by kernel_rfl
theorem tyBd101 : tyBd Try.prog 101 = 0 := by kernel_rfl
theorem tyI102 : tyI Try.prog 102 = some (false, 1) := by kernel_rfl
theorem tyKd102 : tyKd Try.prog 102 = 3 := by kernel_rfl
theorem und102 : (Try.prog.underlying 102).isSome = true := by kernel_rfl
theorem tyZ102 : tyZ Try.prog 102 = some (.sc .nilFunc) := by kernel_rfl
theorem tyBd102 : tyBd Try.prog 102 = 0 := by kernel_rfl
theorem tyI103 : tyI Try.prog 103 = some (false, 1) := by kernel_rfl
theorem tyKd103 : tyKd Try.prog 103 = 3 := by kernel_rfl
theorem und103 : (Try.prog.underlying 103).isSome = true := by kernel_rfl
theorem tyZ103 : tyZ Try.prog 103 = some (.sc .nilFunc) := by kernel_rfl
theorem tyBd103 : tyBd Try.prog 103 = 0 := by kernel_rfl
theorem tyI104 : tyI Try.prog 104 = some (false, 1) := by kernel_rfl
theorem tyKd104 : tyKd Try.prog 104 = 3 := by kernel_rfl
theorem und104 : (Try.prog.underlying 104).isSome = true := by kernel_rfl
theorem tyZ104 : tyZ Try.prog 104 = some (.sc .nilFunc) := by kernel_rfl
theorem tyBd104 : tyBd Try.prog 104 = 0 := by kernel_rfl
theorem tyI105 : tyI Try.prog 105 = some (false, 1) := by kernel_rfl
theorem tyKd105 : tyKd Try.prog 105 = 2 := by kernel_rfl
theorem und105 : (Try.prog.underlying 105).isSome = true := by kernel_rfl
theorem tyZ105 : tyZ Try.prog 105 = some (.sc (.pointer none)) := by kernel_rfl
theorem tyBd105 : tyBd Try.prog 105 = 0 := by kernel_rfl
theorem tyI106 : tyI Try.prog 106 = some (false, 1) := by kernel_rfl
theorem tyKd106 : tyKd Try.prog 106 = 3 := by kernel_rfl
theorem und106 : (Try.prog.underlying 106).isSome = true := by kernel_rfl
theorem tyZ106 : tyZ Try.prog 106 = some (.sc .nilFunc) := by kernel_rfl
theorem tyBd106 : tyBd Try.prog 106 = 0 := by kernel_rfl
theorem tyI107 : tyI Try.prog 107 = some (false, 1) := by kernel_rfl
theorem tyKd107 : tyKd Try.prog 107 = 2 := by kernel_rfl
theorem und107 : (Try.prog.underlying 107).isSome = true := by kernel_rfl
theorem tyZ107 : tyZ Try.prog 107 = some (.sc (.pointer none)) := by kernel_rfl
theorem tyBd107 : tyBd Try.prog 107 = 0 := by kernel_rfl
attribute [go_sem] tyI0 und0 tyBd0 tyI1 tyKd1 und1 tyZ1 tyBd1 tyI2 tyK2 und2 tyZ2 tyBd2 tyI3 tyK3 und3 tyZ3 tyBd3 tyI4 tyIsBool4 und4 tyZ4 tyBd4 tyI5 tyK5 und5 tyZ5 tyBd5 tyZs5 kdE5 tyI6 tyK6 und6 tyZ6 tyBd6 tyI7 tyFd7x0 tyFd7x1 tyFd7x2 tyFd7x3 und7 tyZ7 tyBd7 tyB7 aggEq7 aggNe7 tyI8 tyFd8x0 tyFd8x1 tyFd8x2 tyFd8x3 und8 tyZ8 tyBd8 tyB8 aggEq8 aggNe8 tyI9 tyStr9 und9 tyZ9 tyBd9 tySrc9 tyZs9 kdE9 tyI10 tyStr10 und10 tyZ10 tyBd10 tySrc10 tyI11 tyStr11 und11 tyZ11 tyBd11 tySrc11 tyI12 tyK12 und12 tyZ12 tyBd12 tyI13 tyFd13x0 tyFd13x1 und13 tyZ13 tyBd13 tyB13 tyI14 tyFd14x0 tyFd14x1 und14 tyZ14 tyBd14 tyB14 tyI15 tyKd15 und15 tyZ15 tyBd15 tyI16 tyKd16 und16 tyZ16 tyBd16 tyI17 tyKd17 und17 tyZ17 tyBd17 tyI18 tyFd18x0 und18 tyZ18 tyBd18 tyB18 tyI19 tyFd19x0 und19 tyZ19 tyBd19 tyB19 tyI20 und20 tyZ20 tyBd20 tyI21 tyK21 und21 tyZ21 tyBd21 tyI22 tyKd22 und22 tyZ22 tyBd22 tyI23 und23 tyBd23 tyI24 tyKd24 und24 tyZ24 tyBd24 tyI25 tyKd25 und25 tyZ25 tyBd25 tyI26 tyEl26 tyKd26 und26 tyZ26 tyBd26 tySrc26 tyI27 tyFd27x0 tyFd27x1 und27 tyZ27 tyBd27 tyB27 tyI28 tyFd28x0 tyFd28x1 und28 tyZ28 tyBd28 tyZs28 kdE28 tyB28 tyI29 tyKd29 und29 tyZ29 tyBd29 tyI30 tyKd30 und30 tyZ30 tyBd30 tyI31 tyKd31 und31 tyZ31 tyBd31 tyI32 tyKd32 und32 tyZ32 tyBd32 tyI33 tyKd33 und33 tyZ33 tyBd33 tyI34 tyKd34 und34 tyZ34 tyBd34 tyI35 tyKd35 und35 tyZ35 tyBd35 tyI36 tyKd36 und36 tyZ36 tyBd36 tyI37 tyKd37 und37 tyZ37 tyBd37 tyI38 tyKd38 und38 tyZ38 tyBd38 tyI39 tyKd39 und39 tyZ39 tyBd39 tyI40 tyKd40 und40 tyZ40 tyBd40 tyI41 tyKd41 und41 tyZ41 tyBd41 tyI42 tyEl42 tyKd42 und42 tyZ42 tyBd42 tySrc42 tyI43 tyKd43 und43 tyZ43 tyBd43 tyI44 tyKd44 und44 tyZ44 tyBd44 tyI45 tyKd45 und45 tyZ45 tyBd45 tyI46 tyKd46 und46 tyZ46 tyBd46 tyI47 tyFd47x0 tyFd47x1 und47 tyZ47 tyBd47 tyB47 aggEq47 aggNe47 tyI48 tyFd48x0 tyFd48x1 und48 tyZ48 tyBd48 tyZs48 kdE48 tyB48 aggEq48 aggNe48 tyI49 tyAr49 und49 tyZ49 tyBd49 tyB49 tyI50 tyKd50 und50 tyZ50 tyBd50 tyI51 tyKd51 und51 tyZ51 tyBd51 tyI52 tyKd52 und52 tyZ52 tyBd52 tyI53 tyEl53 tyKd53 und53 tyZ53 tyBd53 tySrc53 tyI54 tyFd54x0 tyFd54x1 und54 tyZ54 tyBd54 tyB54 tyI55 tyFd55x0 tyFd55x1 und55 tyZ55 tyBd55 rawZ55 tyB55 tyI56 tyKd56 und56 tyZ56 tyBd56 tyI57 tyKd57 und57 tyZ57 tyBd57 tyI58 tyKd58 und58 tyZ58 tyBd58 tyI59 tyKd59 und59 tyZ59 tyBd59 tyI60 tyFd60x0 tyFd60x1 tyFd60x2 tyFd60x3 und60 tyZ60 tyBd60 tyB60 aggEq60 aggNe60 tyI61 tyFd61x0 tyFd61x1 tyFd61x2 tyFd61x3 und61 tyZ61 tyBd61 tyB61 aggEq61 aggNe61 tyI62 tyKd62 und62 tyZ62 tyBd62 tyI63 tyKd63 und63 tyZ63 tyBd63 tyI65 tyKd65 und65 tyZ65 tyBd65 tyI66 tyKd66 und66 tyZ66 tyBd66 tyI67 tyKd67 und67 tyZ67 tyBd67 tyI68 tyKd68 und68 tyZ68 tyBd68 tyI69 tyKd69 und69 tyZ69 tyBd69 tyI70 tyKd70 und70 tyZ70 tyBd70 tyI71 tyKd71 und71 tyZ71 tyBd71 tyI72 tyKd72 und72 tyZ72 tyBd72 tyI73 tyKd73 und73 tyZ73 tyBd73 tyI74 tyEl74 tyKd74 und74 tyZ74 tyBd74 tySrc74 tyI75 und75 tyZ75 tyBd75 tyI78 tyKd78 und78 tyZ78 tyBd78 tyI79 tyKd79 und79 tyZ79 tyBd79 tyI80 tyKd80 und80 tyZ80 tyBd80 tyI81 tyKd81 und81 tyZ81 tyBd81 tyI82 tyK82 und82 tyZ82 tyBd82 tyI83 tyKd83 und83 tyZ83 tyBd83 tyI84 tyKd84 und84 tyZ84 tyBd84 tyI85 tyKd85 und85 tyZ85 tyBd85 tyI86 tyKd86 und86 tyZ86 tyBd86 tyI87 tyKd87 und87 tyZ87 tyBd87 tyI88 tyKd88 und88 tyZ88 tyBd88 tyI89 tyK89 und89 tyZ89 tyBd89 tyI90 und90 tyBd90 tyI91 tyKd91 und91 tyZ91 tyBd91 tyI92 tyKd92 und92 tyZ92 tyBd92 tyI93 tyKd93 und93 tyZ93 tyBd93 tyI94 tyKd94 und94 tyZ94 tyBd94 tyI95 tyKd95 und95 tyZ95 tyBd95 tyI96 tyK96 und96 tyZ96 tyBd96 tyI97 tyKd97 und97 tyZ97 tyBd97 tyI98 tyK98 und98 tyZ98 tyBd98 tyI99 und99 tyZ99 tyBd99 tyI100 tyKd100 und100 tyZ100 tyBd100 tyI101 tyK101 und101 tyZ101 tyBd101 tyI102 tyKd102 und102 tyZ102 tyBd102 tyI103 tyKd103 und103 tyZ103 tyBd103 tyI104 tyKd104 und104 tyZ104 tyBd104 tyI105 tyKd105 und105 tyZ105 tyBd105 tyI106 tyKd106 und106 tyZ106 tyBd106 tyI107 tyKd107 und107 tyZ107 tyBd107
theorem mix : Try.prog.follows .mixedOrders = true := by kernel_rfl
inductive Tm where
  | mk (name : ByteArray) (args : List Tm)
namespace Tm
def name : Tm → ByteArray
  | .mk s _ => s
def args : Tm → List Tm
  | .mk _ ts => ts
end Tm
mutual
def eTm : Tm → AV
  | .mk s ts => .agg [.sc (.string s), .list false false (eTms ts)]
def eTms : List Tm → List AV
  | [] => []
  | t :: r => eTm t :: eTms r
end
theorem eTms_map : ∀ l : List Tm, eTms l = l.map eTm
  | [] => rfl
  | t :: r => by rw [eTms, eTms_map r]; rfl
abbrev eT (t : Tm) : AV := .agg [.sc (.string t.name), .list false false (t.args.map eTm)]
theorem eTm_eq : ∀ t : Tm, eTm t = eT t
  | .mk s ts => by rw [eTm, eTms_map]; rfl
theorem name_mk {s : ByteArray} {ts : List Tm} : (Tm.mk s ts).name = s := rfl
theorem args_mk {s : ByteArray} {ts : List Tm} : (Tm.mk s ts).args = ts := rfl
attribute [go_sem] eTm_eq name_mk args_mk
mutual
def Tm.size : Tm → Nat
  | .mk _ ts => 1 + sizeL ts
def sizeL : List Tm → Nat
  | [] => 0
  | t :: r => t.size + sizeL r
end
mutual
def Tm.depth : Tm → Nat
  | .mk _ ts => depthL ts + 1
def depthL : List Tm → Nat
  | [] => 0
  | t :: r => max t.depth (depthL r)
end
theorem size_eq (t : Tm) : t.size = 1 + sizeL t.args := by cases t; rfl
theorem depth_eq (t : Tm) : t.depth = depthL t.args + 1 := by cases t; rfl
theorem take_next {α : Type} {l : List α} {i : Nat} (h : i < l.length) : l.take (i + 1) = l.take i ++ [l[i]] := by
  rw [List.take_add_one, List.getElem?_eq_getElem h]; rfl
theorem size_mem : ∀ {l : List Tm} {t : Tm}, t ∈ l → t.size ≤ sizeL l
  | u :: r, t, h => by
    rcases List.mem_cons.1 h with rfl | h
    · simp [sizeL]
    · have := size_mem h; simp only [sizeL]; omega
theorem size_pos (t : Tm) : 1 ≤ t.size := by rw [size_eq]; omega
theorem tm_ind {p : Tm → Prop} (h : ∀ t : Tm, (∀ u ∈ t.args, p u) → p t) : ∀ t, p t := by
  have key : ∀ n (t : Tm), t.size ≤ n → p t := by
    intro n
    induction n with
    | zero => intro t h; have := size_pos t; omega
    | succ n ih =>
      intro t ht
      refine h t fun u hu => ih u ?_
      have := size_mem hu
      rw [size_eq] at ht; omega
  exact fun t => key t.size t (Nat.le_refl _)
open Go.Ab
set_option maxRecDepth 100000
set_option maxHeartbeats 4000000
theorem tyZero5 : tyZero Try.prog 5 = some (.int .u8 0) := by kernel_rfl
theorem tyZero9 : tyZero Try.prog 9 = some (.string (ByteArray.mk #[])) := by kernel_rfl
theorem tyZero28 : tyZero Try.prog 28 = some (.agg #[.string (ByteArray.mk #[]), .slice none 0 0]) := by kernel_rfl
theorem tyZero48 : tyZero Try.prog 48 = some (.agg #[.int .u8 0, .int .u8 0]) := by kernel_rfl
attribute [go_sem] tyZero5 tyZero9 tyZero28 tyZero48
end Go.Proofs.Ytldecgghhaoliaa
