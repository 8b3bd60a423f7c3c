import Derived.Test.YtbgckcdddlmiaaaGreatDoorA5
import Derived.Test.YtbgckcdddlmiaaaGreatDoorRows
set_option linter.unusedSectionVars false
set_option linter.unusedSimpArgs false
set_option linter.unusedVariables false
open Go.Proofs.Tryz
namespace Go.Proofs.YtbgckcdddlmiaaaGreatDoor
open Go.Ab
variable [Glob prog]
theorem bFg (a0 b0:Int) (a1 b1:Int) (a2 b2:Bool) (a3 b3:Int):cG prog .eql 7 (.agg [.sc (.int .i64 a0),.sc (.int .i64 a1),.sc (.bool a2),.sc (.int .u8 a3)]) (.agg [.sc (.int .i64 b0),.sc (.int .i64 b1),.sc (.bool b2),.sc (.int .u8 b3)])=some ⟨true,bl (decide (a0=b0/\a1=b1/\a2=b2/\a3=b3))⟩:=(by kernel_rfl:cG prog .eql 7 (.agg [.sc (.int .i64 a0),.sc (.int .i64 a1),.sc (.bool a2),.sc (.int .u8 a3)]) (.agg [.sc (.int .i64 b0),.sc (.int .i64 b1),.sc (.bool b2),.sc (.int .u8 b3)])=some ⟨true,bl (((a0==b0)&&((a1==b1)&&((a2==b2)&&((a3==b3)&&(true))))))⟩).trans (by congr 3;rw[Bool.eq_iff_iff];simp only[eS,beq_iff_eq,Bool.and_eq_true,decide_eq_true_eq,and_true,and_assoc])
theorem bFh (a0 b0:Int) (a1 b1:Int) (a2 b2:Bool) (a3 b3:Int):cG prog .neq 7 (.agg [.sc (.int .i64 a0),.sc (.int .i64 a1),.sc (.bool a2),.sc (.int .u8 a3)]) (.agg [.sc (.int .i64 b0),.sc (.int .i64 b1),.sc (.bool b2),.sc (.int .u8 b3)])=some ⟨true,bl (!decide (a0=b0/\a1=b1/\a2=b2/\a3=b3))⟩:=(by kernel_rfl:cG prog .neq 7 (.agg [.sc (.int .i64 a0),.sc (.int .i64 a1),.sc (.bool a2),.sc (.int .u8 a3)]) (.agg [.sc (.int .i64 b0),.sc (.int .i64 b1),.sc (.bool b2),.sc (.int .u8 b3)])=some ⟨true,bl (!((a0==b0)&&((a1==b1)&&((a2==b2)&&((a3==b3)&&(true))))))⟩).trans (by congr 4;rw[Bool.eq_iff_iff];simp only[eS,beq_iff_eq,Bool.and_eq_true,decide_eq_true_eq,and_true,and_assoc])
theorem bFi (a0 b0:Int) (a1 b1:Int) (a2 b2:Bool) (a3 b3:Int):cG prog .eql 8 (.agg [.sc (.int .i64 a0),.sc (.int .i64 a1),.sc (.bool a2),.sc (.int .u8 a3)]) (.agg [.sc (.int .i64 b0),.sc (.int .i64 b1),.sc (.bool b2),.sc (.int .u8 b3)])=some ⟨true,bl (decide (a0=b0/\a1=b1/\a2=b2/\a3=b3))⟩:=(by kernel_rfl:cG prog .eql 8 (.agg [.sc (.int .i64 a0),.sc (.int .i64 a1),.sc (.bool a2),.sc (.int .u8 a3)]) (.agg [.sc (.int .i64 b0),.sc (.int .i64 b1),.sc (.bool b2),.sc (.int .u8 b3)])=some ⟨true,bl (((a0==b0)&&((a1==b1)&&((a2==b2)&&((a3==b3)&&(true))))))⟩).trans (by congr 3;rw[Bool.eq_iff_iff];simp only[eS,beq_iff_eq,Bool.and_eq_true,decide_eq_true_eq,and_true,and_assoc])
theorem bFj (a0 b0:Int) (a1 b1:Int) (a2 b2:Bool) (a3 b3:Int):cG prog .neq 8 (.agg [.sc (.int .i64 a0),.sc (.int .i64 a1),.sc (.bool a2),.sc (.int .u8 a3)]) (.agg [.sc (.int .i64 b0),.sc (.int .i64 b1),.sc (.bool b2),.sc (.int .u8 b3)])=some ⟨true,bl (!decide (a0=b0/\a1=b1/\a2=b2/\a3=b3))⟩:=(by kernel_rfl:cG prog .neq 8 (.agg [.sc (.int .i64 a0),.sc (.int .i64 a1),.sc (.bool a2),.sc (.int .u8 a3)]) (.agg [.sc (.int .i64 b0),.sc (.int .i64 b1),.sc (.bool b2),.sc (.int .u8 b3)])=some ⟨true,bl (!((a0==b0)&&((a1==b1)&&((a2==b2)&&((a3==b3)&&(true))))))⟩).trans (by congr 4;rw[Bool.eq_iff_iff];simp only[eS,beq_iff_eq,Bool.and_eq_true,decide_eq_true_eq,and_true,and_assoc])
theorem bFk (a0 b0:Int) (a1 b1:Int) (a2 b2:Int):cG prog .eql 32 (.agg [.sc (.int .i64 a0),.sc (.int .i64 a1),.sc (.int .i64 a2)]) (.agg [.sc (.int .i64 b0),.sc (.int .i64 b1),.sc (.int .i64 b2)])=some ⟨true,bl (decide (a0=b0/\a1=b1/\a2=b2))⟩:=(by kernel_rfl:cG prog .eql 32 (.agg [.sc (.int .i64 a0),.sc (.int .i64 a1),.sc (.int .i64 a2)]) (.agg [.sc (.int .i64 b0),.sc (.int .i64 b1),.sc (.int .i64 b2)])=some ⟨true,bl (((a0==b0)&&((a1==b1)&&((a2==b2)&&(true)))))⟩).trans (by congr 3;rw[Bool.eq_iff_iff];simp only[eS,beq_iff_eq,Bool.and_eq_true,decide_eq_true_eq,and_true,and_assoc])
theorem bFl (a0 b0:Int) (a1 b1:Int) (a2 b2:Int):cG prog .neq 32 (.agg [.sc (.int .i64 a0),.sc (.int .i64 a1),.sc (.int .i64 a2)]) (.agg [.sc (.int .i64 b0),.sc (.int .i64 b1),.sc (.int .i64 b2)])=some ⟨true,bl (!decide (a0=b0/\a1=b1/\a2=b2))⟩:=(by kernel_rfl:cG prog .neq 32 (.agg [.sc (.int .i64 a0),.sc (.int .i64 a1),.sc (.int .i64 a2)]) (.agg [.sc (.int .i64 b0),.sc (.int .i64 b1),.sc (.int .i64 b2)])=some ⟨true,bl (!((a0==b0)&&((a1==b1)&&((a2==b2)&&(true)))))⟩).trans (by congr 4;rw[Bool.eq_iff_iff];simp only[eS,beq_iff_eq,Bool.and_eq_true,decide_eq_true_eq,and_true,and_assoc])
theorem bFm (a0 b0:Int) (a1 b1:Int) (a2 b2:Int):cG prog .eql 33 (.agg [.sc (.int .i64 a0),.sc (.int .i64 a1),.sc (.int .i64 a2)]) (.agg [.sc (.int .i64 b0),.sc (.int .i64 b1),.sc (.int .i64 b2)])=some ⟨true,bl (decide (a0=b0/\a1=b1/\a2=b2))⟩:=(by kernel_rfl:cG prog .eql 33 (.agg [.sc (.int .i64 a0),.sc (.int .i64 a1),.sc (.int .i64 a2)]) (.agg [.sc (.int .i64 b0),.sc (.int .i64 b1),.sc (.int .i64 b2)])=some ⟨true,bl (((a0==b0)&&((a1==b1)&&((a2==b2)&&(true)))))⟩).trans (by congr 3;rw[Bool.eq_iff_iff];simp only[eS,beq_iff_eq,Bool.and_eq_true,decide_eq_true_eq,and_true,and_assoc])
theorem bFn (a0 b0:Int) (a1 b1:Int) (a2 b2:Int):cG prog .neq 33 (.agg [.sc (.int .i64 a0),.sc (.int .i64 a1),.sc (.int .i64 a2)]) (.agg [.sc (.int .i64 b0),.sc (.int .i64 b1),.sc (.int .i64 b2)])=some ⟨true,bl (!decide (a0=b0/\a1=b1/\a2=b2))⟩:=(by kernel_rfl:cG prog .neq 33 (.agg [.sc (.int .i64 a0),.sc (.int .i64 a1),.sc (.int .i64 a2)]) (.agg [.sc (.int .i64 b0),.sc (.int .i64 b1),.sc (.int .i64 b2)])=some ⟨true,bl (!((a0==b0)&&((a1==b1)&&((a2==b2)&&(true)))))⟩).trans (by congr 4;rw[Bool.eq_iff_iff];simp only[eS,beq_iff_eq,Bool.and_eq_true,decide_eq_true_eq,and_true,and_assoc])
theorem bFo (a0 b0:Int):cG prog .eql 80 (.agg [.sc (.int .i64 a0)]) (.agg [.sc (.int .i64 b0)])=some ⟨true,bl (decide (a0=b0))⟩:=(by kernel_rfl:cG prog .eql 80 (.agg [.sc (.int .i64 a0)]) (.agg [.sc (.int .i64 b0)])=some ⟨true,bl (((a0==b0)&&(true)))⟩).trans (by congr 3;rw[Bool.eq_iff_iff];simp only[eS,beq_iff_eq,Bool.and_eq_true,decide_eq_true_eq,and_true,and_assoc])
theorem bFp (a0 b0:Int):cG prog .neq 80 (.agg [.sc (.int .i64 a0)]) (.agg [.sc (.int .i64 b0)])=some ⟨true,bl (!decide (a0=b0))⟩:=(by kernel_rfl:cG prog .neq 80 (.agg [.sc (.int .i64 a0)]) (.agg [.sc (.int .i64 b0)])=some ⟨true,bl (!((a0==b0)&&(true)))⟩).trans (by congr 4;rw[Bool.eq_iff_iff];simp only[eS,beq_iff_eq,Bool.and_eq_true,decide_eq_true_eq,and_true,and_assoc])
theorem bFq (a0 b0:Int):cG prog .eql 81 (.agg [.sc (.int .i64 a0)]) (.agg [.sc (.int .i64 b0)])=some ⟨true,bl (decide (a0=b0))⟩:=(by kernel_rfl:cG prog .eql 81 (.agg [.sc (.int .i64 a0)]) (.agg [.sc (.int .i64 b0)])=some ⟨true,bl (((a0==b0)&&(true)))⟩).trans (by congr 3;rw[Bool.eq_iff_iff];simp only[eS,beq_iff_eq,Bool.and_eq_true,decide_eq_true_eq,and_true,and_assoc])
theorem bFr (a0 b0:Int):cG prog .neq 81 (.agg [.sc (.int .i64 a0)]) (.agg [.sc (.int .i64 b0)])=some ⟨true,bl (!decide (a0=b0))⟩:=(by kernel_rfl:cG prog .neq 81 (.agg [.sc (.int .i64 a0)]) (.agg [.sc (.int .i64 b0)])=some ⟨true,bl (!((a0==b0)&&(true)))⟩).trans (by congr 4;rw[Bool.eq_iff_iff];simp only[eS,beq_iff_eq,Bool.and_eq_true,decide_eq_true_eq,and_true,and_assoc])
theorem bFs {s:ByteArray}:fK prog 82 (.string s)=true:=by kernel_rfl
theorem bFt (a0 b0:ByteArray) (a1 b1:Int):cG prog .eql 94 (.agg [.sc (.string a0),.sc (.int .i64 a1)]) (.agg [.sc (.string b0),.sc (.int .i64 b1)])=some ⟨true,bl (decide (a0=b0/\a1=b1))⟩:=(by kernel_rfl:cG prog .eql 94 (.agg [.sc (.string a0),.sc (.int .i64 a1)]) (.agg [.sc (.string b0),.sc (.int .i64 b1)])=some ⟨true,bl (((a0==b0)&&((a1==b1)&&(true))))⟩).trans (by congr 3;rw[Bool.eq_iff_iff];simp only[eS,beq_iff_eq,Bool.and_eq_true,decide_eq_true_eq,and_true,and_assoc])
theorem bFu (a0 b0:ByteArray) (a1 b1:Int):cG prog .neq 94 (.agg [.sc (.string a0),.sc (.int .i64 a1)]) (.agg [.sc (.string b0),.sc (.int .i64 b1)])=some ⟨true,bl (!decide (a0=b0/\a1=b1))⟩:=(by kernel_rfl:cG prog .neq 94 (.agg [.sc (.string a0),.sc (.int .i64 a1)]) (.agg [.sc (.string b0),.sc (.int .i64 b1)])=some ⟨true,bl (!((a0==b0)&&((a1==b1)&&(true))))⟩).trans (by congr 4;rw[Bool.eq_iff_iff];simp only[eS,beq_iff_eq,Bool.and_eq_true,decide_eq_true_eq,and_true,and_assoc])
theorem bFv {s:ByteArray}:fK prog 120 (.string s)=true:=by kernel_rfl
theorem bFw (a0 b0:ByteArray) (a1 b1:ByteArray) (a2 b2:Bool):cG prog .eql 129 (.agg [.sc (.string a0),.sc (.string a1),.sc (.bool a2)]) (.agg [.sc (.string b0),.sc (.string b1),.sc (.bool b2)])=some ⟨true,bl (decide (a0=b0/\a1=b1/\a2=b2))⟩:=(by kernel_rfl:cG prog .eql 129 (.agg [.sc (.string a0),.sc (.string a1),.sc (.bool a2)]) (.agg [.sc (.string b0),.sc (.string b1),.sc (.bool b2)])=some ⟨true,bl (((a0==b0)&&((a1==b1)&&((a2==b2)&&(true)))))⟩).trans (by congr 3;rw[Bool.eq_iff_iff];simp only[eS,beq_iff_eq,Bool.and_eq_true,decide_eq_true_eq,and_true,and_assoc])
theorem bFx (a0 b0:ByteArray) (a1 b1:ByteArray) (a2 b2:Bool):cG prog .neq 129 (.agg [.sc (.string a0),.sc (.string a1),.sc (.bool a2)]) (.agg [.sc (.string b0),.sc (.string b1),.sc (.bool b2)])=some ⟨true,bl (!decide (a0=b0/\a1=b1/\a2=b2))⟩:=(by kernel_rfl:cG prog .neq 129 (.agg [.sc (.string a0),.sc (.string a1),.sc (.bool a2)]) (.agg [.sc (.string b0),.sc (.string b1),.sc (.bool b2)])=some ⟨true,bl (!((a0==b0)&&((a1==b1)&&((a2==b2)&&(true)))))⟩).trans (by congr 4;rw[Bool.eq_iff_iff];simp only[eS,beq_iff_eq,Bool.and_eq_true,decide_eq_true_eq,and_true,and_assoc])
theorem bFy (a0 b0:ByteArray) (a1 b1:ByteArray) (a2 b2:Bool):cG prog .eql 130 (.agg [.sc (.string a0),.sc (.string a1),.sc (.bool a2)]) (.agg [.sc (.string b0),.sc (.string b1),.sc (.bool b2)])=some ⟨true,bl (decide (a0=b0/\a1=b1/\a2=b2))⟩:=(by kernel_rfl:cG prog .eql 130 (.agg [.sc (.string a0),.sc (.string a1),.sc (.bool a2)]) (.agg [.sc (.string b0),.sc (.string b1),.sc (.bool b2)])=some ⟨true,bl (((a0==b0)&&((a1==b1)&&((a2==b2)&&(true)))))⟩).trans (by congr 3;rw[Bool.eq_iff_iff];simp only[eS,beq_iff_eq,Bool.and_eq_true,decide_eq_true_eq,and_true,and_assoc])
theorem bFz (a0 b0:ByteArray) (a1 b1:ByteArray) (a2 b2:Bool):cG prog .neq 130 (.agg [.sc (.string a0),.sc (.string a1),.sc (.bool a2)]) (.agg [.sc (.string b0),.sc (.string b1),.sc (.bool b2)])=some ⟨true,bl (!decide (a0=b0/\a1=b1/\a2=b2))⟩:=(by kernel_rfl:cG prog .neq 130 (.agg [.sc (.string a0),.sc (.string a1),.sc (.bool a2)]) (.agg [.sc (.string b0),.sc (.string b1),.sc (.bool b2)])=some ⟨true,bl (!((a0==b0)&&((a1==b1)&&((a2==b2)&&(true)))))⟩).trans (by congr 4;rw[Bool.eq_iff_iff];simp only[eS,beq_iff_eq,Bool.and_eq_true,decide_eq_true_eq,and_true,and_assoc])
theorem bF0 (a0 b0:ByteArray) (a1 b1:Int):cG prog .eql 133 (.agg [.sc (.string a0),.sc (.int .i64 a1)]) (.agg [.sc (.string b0),.sc (.int .i64 b1)])=some ⟨true,bl (decide (a0=b0/\a1=b1))⟩:=(by kernel_rfl:cG prog .eql 133 (.agg [.sc (.string a0),.sc (.int .i64 a1)]) (.agg [.sc (.string b0),.sc (.int .i64 b1)])=some ⟨true,bl (((a0==b0)&&((a1==b1)&&(true))))⟩).trans (by congr 3;rw[Bool.eq_iff_iff];simp only[eS,beq_iff_eq,Bool.and_eq_true,decide_eq_true_eq,and_true,and_assoc])
theorem bF1 (a0 b0:ByteArray) (a1 b1:Int):cG prog .neq 133 (.agg [.sc (.string a0),.sc (.int .i64 a1)]) (.agg [.sc (.string b0),.sc (.int .i64 b1)])=some ⟨true,bl (!decide (a0=b0/\a1=b1))⟩:=(by kernel_rfl:cG prog .neq 133 (.agg [.sc (.string a0),.sc (.int .i64 a1)]) (.agg [.sc (.string b0),.sc (.int .i64 b1)])=some ⟨true,bl (!((a0==b0)&&((a1==b1)&&(true))))⟩).trans (by congr 4;rw[Bool.eq_iff_iff];simp only[eS,beq_iff_eq,Bool.and_eq_true,decide_eq_true_eq,and_true,and_assoc])
theorem bF2 (a0 b0:Int) (a1 b1:Int) (a2 b2:Int) (a3 b3:ByteArray):cG prog .eql 153 (.agg [.sc (.int .i64 a0),.sc (.int .i64 a1),.sc (.int .i64 a2),.sc (.string a3)]) (.agg [.sc (.int .i64 b0),.sc (.int .i64 b1),.sc (.int .i64 b2),.sc (.string b3)])=some ⟨true,bl (decide (a0=b0/\a1=b1/\a2=b2/\a3=b3))⟩:=(by kernel_rfl:cG prog .eql 153 (.agg [.sc (.int .i64 a0),.sc (.int .i64 a1),.sc (.int .i64 a2),.sc (.string a3)]) (.agg [.sc (.int .i64 b0),.sc (.int .i64 b1),.sc (.int .i64 b2),.sc (.string b3)])=some ⟨true,bl (((a0==b0)&&((a1==b1)&&((a2==b2)&&((a3==b3)&&(true))))))⟩).trans (by congr 3;rw[Bool.eq_iff_iff];simp only[eS,beq_iff_eq,Bool.and_eq_true,decide_eq_true_eq,and_true,and_assoc])
theorem bF3 (a0 b0:Int) (a1 b1:Int) (a2 b2:Int) (a3 b3:ByteArray):cG prog .neq 153 (.agg [.sc (.int .i64 a0),.sc (.int .i64 a1),.sc (.int .i64 a2),.sc (.string a3)]) (.agg [.sc (.int .i64 b0),.sc (.int .i64 b1),.sc (.int .i64 b2),.sc (.string b3)])=some ⟨true,bl (!decide (a0=b0/\a1=b1/\a2=b2/\a3=b3))⟩:=(by kernel_rfl:cG prog .neq 153 (.agg [.sc (.int .i64 a0),.sc (.int .i64 a1),.sc (.int .i64 a2),.sc (.string a3)]) (.agg [.sc (.int .i64 b0),.sc (.int .i64 b1),.sc (.int .i64 b2),.sc (.string b3)])=some ⟨true,bl (!((a0==b0)&&((a1==b1)&&((a2==b2)&&((a3==b3)&&(true))))))⟩).trans (by congr 4;rw[Bool.eq_iff_iff];simp only[eS,beq_iff_eq,Bool.and_eq_true,decide_eq_true_eq,and_true,and_assoc])
theorem bF4 (a0 b0:Int) (a1 b1:Int) (a2 b2:Int) (a3 b3:ByteArray):cG prog .eql 154 (.agg [.sc (.int .i64 a0),.sc (.int .i64 a1),.sc (.int .i64 a2),.sc (.string a3)]) (.agg [.sc (.int .i64 b0),.sc (.int .i64 b1),.sc (.int .i64 b2),.sc (.string b3)])=some ⟨true,bl (decide (a0=b0/\a1=b1/\a2=b2/\a3=b3))⟩:=(by kernel_rfl:cG prog .eql 154 (.agg [.sc (.int .i64 a0),.sc (.int .i64 a1),.sc (.int .i64 a2),.sc (.string a3)]) (.agg [.sc (.int .i64 b0),.sc (.int .i64 b1),.sc (.int .i64 b2),.sc (.string b3)])=some ⟨true,bl (((a0==b0)&&((a1==b1)&&((a2==b2)&&((a3==b3)&&(true))))))⟩).trans (by congr 3;rw[Bool.eq_iff_iff];simp only[eS,beq_iff_eq,Bool.and_eq_true,decide_eq_true_eq,and_true,and_assoc])
theorem bF5 (a0 b0:Int) (a1 b1:Int) (a2 b2:Int) (a3 b3:ByteArray):cG prog .neq 154 (.agg [.sc (.int .i64 a0),.sc (.int .i64 a1),.sc (.int .i64 a2),.sc (.string a3)]) (.agg [.sc (.int .i64 b0),.sc (.int .i64 b1),.sc (.int .i64 b2),.sc (.string b3)])=some ⟨true,bl (!decide (a0=b0/\a1=b1/\a2=b2/\a3=b3))⟩:=(by kernel_rfl:cG prog .neq 154 (.agg [.sc (.int .i64 a0),.sc (.int .i64 a1),.sc (.int .i64 a2),.sc (.string a3)]) (.agg [.sc (.int .i64 b0),.sc (.int .i64 b1),.sc (.int .i64 b2),.sc (.string b3)])=some ⟨true,bl (!((a0==b0)&&((a1==b1)&&((a2==b2)&&((a3==b3)&&(true))))))⟩).trans (by congr 4;rw[Bool.eq_iff_iff];simp only[eS,beq_iff_eq,Bool.and_eq_true,decide_eq_true_eq,and_true,and_assoc])
theorem bF6 (a0 b0:ByteArray) (a1 b1:Int) (a2 b2:Bool) (a3 b3:Bool):cG prog .eql 160 (.agg [.sc (.string a0),.sc (.int .i64 a1),.sc (.bool a2),.sc (.bool a3)]) (.agg [.sc (.string b0),.sc (.int .i64 b1),.sc (.bool b2),.sc (.bool b3)])=some ⟨true,bl (decide (a0=b0/\a1=b1/\a2=b2/\a3=b3))⟩:=(by kernel_rfl:cG prog .eql 160 (.agg [.sc (.string a0),.sc (.int .i64 a1),.sc (.bool a2),.sc (.bool a3)]) (.agg [.sc (.string b0),.sc (.int .i64 b1),.sc (.bool b2),.sc (.bool b3)])=some ⟨true,bl (((a0==b0)&&((a1==b1)&&((a2==b2)&&((a3==b3)&&(true))))))⟩).trans (by congr 3;rw[Bool.eq_iff_iff];simp only[eS,beq_iff_eq,Bool.and_eq_true,decide_eq_true_eq,and_true,and_assoc])
theorem bF7 (a0 b0:ByteArray) (a1 b1:Int) (a2 b2:Bool) (a3 b3:Bool):cG prog .neq 160 (.agg [.sc (.string a0),.sc (.int .i64 a1),.sc (.bool a2),.sc (.bool a3)]) (.agg [.sc (.string b0),.sc (.int .i64 b1),.sc (.bool b2),.sc (.bool b3)])=some ⟨true,bl (!decide (a0=b0/\a1=b1/\a2=b2/\a3=b3))⟩:=(by kernel_rfl:cG prog .neq 160 (.agg [.sc (.string a0),.sc (.int .i64 a1),.sc (.bool a2),.sc (.bool a3)]) (.agg [.sc (.string b0),.sc (.int .i64 b1),.sc (.bool b2),.sc (.bool b3)])=some ⟨true,bl (!((a0==b0)&&((a1==b1)&&((a2==b2)&&((a3==b3)&&(true))))))⟩).trans (by congr 4;rw[Bool.eq_iff_iff];simp only[eS,beq_iff_eq,Bool.and_eq_true,decide_eq_true_eq,and_true,and_assoc])
theorem bF8 (a0 b0:Int) (a1 b1:Int):cG prog .eql 167 (.agg [.sc (.int .u8 a0),.sc (.int .u8 a1)]) (.agg [.sc (.int .u8 b0),.sc (.int .u8 b1)])=some ⟨true,bl (decide (a0=b0/\a1=b1))⟩:=(by kernel_rfl:cG prog .eql 167 (.agg [.sc (.int .u8 a0),.sc (.int .u8 a1)]) (.agg [.sc (.int .u8 b0),.sc (.int .u8 b1)])=some ⟨true,bl (((a0==b0)&&((a1==b1)&&(true))))⟩).trans (by congr 3;rw[Bool.eq_iff_iff];simp only[eS,beq_iff_eq,Bool.and_eq_true,decide_eq_true_eq,and_true,and_assoc])
theorem bF9 (a0 b0:Int) (a1 b1:Int):cG prog .neq 167 (.agg [.sc (.int .u8 a0),.sc (.int .u8 a1)]) (.agg [.sc (.int .u8 b0),.sc (.int .u8 b1)])=some ⟨true,bl (!decide (a0=b0/\a1=b1))⟩:=(by kernel_rfl:cG prog .neq 167 (.agg [.sc (.int .u8 a0),.sc (.int .u8 a1)]) (.agg [.sc (.int .u8 b0),.sc (.int .u8 b1)])=some ⟨true,bl (!((a0==b0)&&((a1==b1)&&(true))))⟩).trans (by congr 4;rw[Bool.eq_iff_iff];simp only[eS,beq_iff_eq,Bool.and_eq_true,decide_eq_true_eq,and_true,and_assoc])
theorem bGa {a0:ByteArray} {a1:ByteArray} {a2:Bool}:fK prog 169 (.agg #[.string a0,.string a1,.bool a2])=true:=by kernel_rfl
theorem bGb {s:ByteArray}:fK prog 178 (.string s)=true:=by kernel_rfl
theorem bGc:aJ prog 0=some (false,1)/\(prog.underlying 0).isSome=true/\aM prog 0=0/\aJ prog 1=some (false,1)/\bA prog 1=3/\(prog.underlying 1).isSome=true/\aK prog 1=some (.sc .nilFunc)/\aM prog 1=0/\aJ prog 2=some (false,1)/\kY prog 2=some .i64/\(prog.underlying 2).isSome=true/\aK prog 2=some (nt .i64 0)/\aM prog 2=0/\aJ prog 3=some (false,1)/\kY prog 3=some .i64/\(prog.underlying 3).isSome=true/\aK prog 3=some (nt .i64 0)/\aM prog 3=0/\jU prog 3=some 1/\dK prog 3=0/\dB prog 3=some (.int .i64 0)/\aJ prog 4=some (false,1)/\tN prog 4=true/\(prog.underlying 4).isSome=true/\aK prog 4=some (bl false)/\aM prog 4=0/\aJ prog 5=some (false,1)/\kY prog 5=some .u8/\(prog.underlying 5).isSome=true/\aK prog 5=some (nt .u8 0)/\aM prog 5=0/\jU prog 5=some 1/\dK prog 5=7/\dB prog 5=some (.int .u8 0)/\aJ prog 6=some (false,1)/\kY prog 6=some .u8/\(prog.underlying 6).isSome=true/\aK prog 6=some (nt .u8 0)/\aM prog 6=0/\aJ prog 7=some (true,4)/\bW prog 7 0=some (0,2,1)/\bW prog 7 1=some (1,3,1)/\bW prog 7 2=some (2,4,1)/\bW prog 7 3=some (3,6,1)/\(prog.underlying 7).isSome=true/\aK prog 7=some (.agg [nt .i64 0,nt .i64 0,bl false,nt .u8 0])/\aM prog 7=0/\dW prog 7=some ([nt .i64 0,nt .i64 0,bl false,nt .u8 0],[(0,1),(1,1),(2,1),(3,1)])/\aJ prog 8=some (true,4)/\bW prog 8 0=some (0,2,1)/\bW prog 8 1=some (1,3,1)/\bW prog 8 2=some (2,4,1)/\bW prog 8 3=some (3,6,1)/\(prog.underlying 8).isSome=true/\aK prog 8=some (.agg [nt .i64 0,nt .i64 0,bl false,nt .u8 0])/\aM prog 8=0/\dW prog 8=some ([nt .i64 0,nt .i64 0,bl false,nt .u8 0],[(0,1),(1,1),(2,1),(3,1)])/\aJ prog 9=some (false,1)/\kZ prog 9=true/\(prog.underlying 9).isSome=true:=by and_intros<;>kernel_rfl
theorem bGd:aK prog 9=some (.sc (.string (ByteArray.mk #[])))/\aM prog 9=0/\fJ prog 9=true/\jU prog 9=some 1/\dK prog 9=0/\dB prog 9=some (.string (ByteArray.mk #[]))/\aJ prog 10=some (false,1)/\kZ prog 10=true/\(prog.underlying 10).isSome=true/\aK prog 10=some (.sc (.string (ByteArray.mk #[])))/\aM prog 10=0/\fJ prog 10=true/\aJ prog 11=some (false,1)/\kZ prog 11=true/\(prog.underlying 11).isSome=true/\aK prog 11=some (.sc (.string (ByteArray.mk #[])))/\aM prog 11=0/\fJ prog 11=true/\aJ prog 12=some (false,1)/\kY prog 12=some .u64/\(prog.underlying 12).isSome=true/\aK prog 12=some (nt .u64 0)/\aM prog 12=0/\aJ prog 13=some (true,2)/\bW prog 13 0=some (0,9,1)/\bW prog 13 1=some (1,12,1)/\(prog.underlying 13).isSome=true/\aK prog 13=some (.agg [.sc (.string (ByteArray.mk #[])),nt .u64 0])/\aM prog 13=0/\dW prog 13=some ([.sc (.string (ByteArray.mk #[])),nt .u64 0],[(0,1),(1,1)])/\aJ prog 14=some (true,2)/\bW prog 14 0=some (0,9,1)/\bW prog 14 1=some (1,12,1)/\(prog.underlying 14).isSome=true/\aK prog 14=some (.agg [.sc (.string (ByteArray.mk #[])),nt .u64 0])/\aM prog 14=0/\dW prog 14=some ([.sc (.string (ByteArray.mk #[])),nt .u64 0],[(0,1),(1,1)])/\aJ prog 15=some (false,1)/\bA prog 15=2/\(prog.underlying 15).isSome=true/\aK prog 15=some (.sc (.pointer none))/\aM prog 15=0/\aJ prog 16=some (false,1)/\bA prog 16=2/\(prog.underlying 16).isSome=true/\aK prog 16=some (.sc (.pointer none))/\aM prog 16=0/\aJ prog 17=some (false,1)/\bA prog 17=2/\(prog.underlying 17).isSome=true/\aK prog 17=some (.sc (.pointer none))/\aM prog 17=0/\aJ prog 18=some (true,1)/\bW prog 18 0=some (0,17,1)/\(prog.underlying 18).isSome=true/\aK prog 18=some (.agg [.sc (.pointer none)])/\aM prog 18=0/\dW prog 18=some ([.sc (.pointer none)],[(0,1)])/\aJ prog 19=some (true,1)/\bW prog 19 0=some (0,17,1):=by and_intros<;>kernel_rfl
theorem bGe:(prog.underlying 19).isSome=true/\aK prog 19=some (.agg [.sc (.pointer none)])/\aM prog 19=0/\dW prog 19=some ([.sc (.pointer none)],[(0,1)])/\aJ prog 20=some (false,1)/\(prog.underlying 20).isSome=true/\aK prog 20=some (.sc .nilIface)/\aM prog 20=0/\aJ prog 21=some (false,1)/\kY prog 21=some .i32/\(prog.underlying 21).isSome=true/\aK prog 21=some (nt .i32 0)/\aM prog 21=0/\aJ prog 22=some (false,1)/\bM prog 22=some (50,3,64)/\bA prog 22=1/\(prog.underlying 22).isSome=true/\aK prog 22=some (.list false true [])/\aM prog 22=0/\fJ prog 22=true/\aJ prog 23=some (false,1)/\bA prog 23=3/\(prog.underlying 23).isSome=true/\aK prog 23=some (.sc .nilFunc)/\aM prog 23=0/\aJ prog 24=some (false,1)/\bA prog 24=3/\(prog.underlying 24).isSome=true/\aK prog 24=some (.sc .nilFunc)/\aM prog 24=0/\aJ prog 25=some (false,1)/\bA prog 25=3/\(prog.underlying 25).isSome=true/\aK prog 25=some (.sc .nilFunc)/\aM prog 25=0/\aJ prog 26=some (false,1)/\bM prog 26=some (33,3,24)/\bA prog 26=1/\(prog.underlying 26).isSome=true/\aK prog 26=some (.list false true [])/\aM prog 26=0/\fJ prog 26=true/\aJ prog 27=some (false,1)/\bA prog 27=3/\(prog.underlying 27).isSome=true/\aK prog 27=some (.sc .nilFunc)/\aM prog 27=0/\aJ prog 28=some (false,1)/\bA prog 28=3/\(prog.underlying 28).isSome=true/\aK prog 28=some (.sc .nilFunc)/\aM prog 28=0/\aJ prog 29=some (false,1)/\bM prog 29=some (9,1,16)/\bA prog 29=1/\(prog.underlying 29).isSome=true/\aK prog 29=some (.list false true [])/\aM prog 29=0/\fJ prog 29=true/\aJ prog 30=some (false,1):=by and_intros<;>kernel_rfl
theorem bGf:bA prog 30=3/\(prog.underlying 30).isSome=true/\aK prog 30=some (.sc .nilFunc)/\aM prog 30=0/\aJ prog 31=some (false,1)/\bA prog 31=3/\(prog.underlying 31).isSome=true/\aK prog 31=some (.sc .nilFunc)/\aM prog 31=0/\aJ prog 32=some (true,3)/\bW prog 32 0=some (0,3,1)/\bW prog 32 1=some (1,3,1)/\bW prog 32 2=some (2,3,1)/\(prog.underlying 32).isSome=true/\aK prog 32=some (.agg [nt .i64 0,nt .i64 0,nt .i64 0])/\aM prog 32=0/\dW prog 32=some ([nt .i64 0,nt .i64 0,nt .i64 0],[(0,1),(1,1),(2,1)])/\aJ prog 33=some (true,3)/\bW prog 33 0=some (0,3,1)/\bW prog 33 1=some (1,3,1)/\bW prog 33 2=some (2,3,1)/\(prog.underlying 33).isSome=true/\aK prog 33=some (.agg [nt .i64 0,nt .i64 0,nt .i64 0])/\aM prog 33=0/\jU prog 33=some 3/\dK prog 33=0/\dB prog 33=some (.agg #[.int .i64 0,.int .i64 0,.int .i64 0])/\dW prog 33=some ([nt .i64 0,nt .i64 0,nt .i64 0],[(0,1),(1,1),(2,1)])/\aJ prog 34=some (false,1)/\kY prog 34=some .i64/\(prog.underlying 34).isSome=true/\aK prog 34=some (nt .i64 0)/\aM prog 34=0/\aJ prog 35=some (false,1)/\(prog.underlying 35).isSome=true/\aM prog 35=0/\aJ prog 36=some (false,1)/\bA prog 36=3/\(prog.underlying 36).isSome=true/\aK prog 36=some (.sc .nilFunc)/\aM prog 36=0/\aJ prog 37=some (false,1)/\bA prog 37=3/\(prog.underlying 37).isSome=true/\aK prog 37=some (.sc .nilFunc)/\aM prog 37=0/\aJ prog 38=some (false,1)/\bA prog 38=3/\(prog.underlying 38).isSome=true/\aK prog 38=some (.sc .nilFunc)/\aM prog 38=0/\aJ prog 39=some (false,1)/\bA prog 39=3/\(prog.underlying 39).isSome=true/\aK prog 39=some (.sc .nilFunc)/\aM prog 39=0/\aJ prog 40=some (false,1)/\(prog.underlying 40).isSome=true/\aM prog 40=0/\aJ prog 41=some (false,1):=by and_intros<;>kernel_rfl
theorem bGg:bA prog 41=3/\(prog.underlying 41).isSome=true/\aK prog 41=some (.sc .nilFunc)/\aM prog 41=0/\aJ prog 42=some (false,1)/\(prog.underlying 42).isSome=true/\aM prog 42=0/\aJ prog 43=some (false,1)/\bA prog 43=3/\(prog.underlying 43).isSome=true/\aK prog 43=some (.sc .nilFunc)/\aM prog 43=0/\aJ prog 44=some (false,1)/\bA prog 44=3/\(prog.underlying 44).isSome=true/\aK prog 44=some (.sc .nilFunc)/\aM prog 44=0/\aJ prog 45=some (false,1)/\bM prog 45=some (47,2,40)/\bA prog 45=1/\(prog.underlying 45).isSome=true/\aK prog 45=some (.list false true [])/\aM prog 45=0/\fJ prog 45=true/\aJ prog 46=some (true,2)/\bW prog 46 0=some (0,9,1)/\bW prog 46 1=some (1,45,1)/\(prog.underlying 46).isSome=true/\aK prog 46=some (.agg [.sc (.string (ByteArray.mk #[])),.list false true []])/\aM prog 46=0/\dW prog 46=some ([.sc (.string (ByteArray.mk #[])),.list false true []],[(0,1),(1,1)])/\aJ prog 47=some (true,2)/\bW prog 47 0=some (0,9,1)/\bW prog 47 1=some (1,45,1)/\(prog.underlying 47).isSome=true/\aK prog 47=some (.agg [.sc (.string (ByteArray.mk #[])),.list false true []])/\aM prog 47=0/\jU prog 47=some 2/\dK prog 47=0/\dB prog 47=some (.agg #[.string (ByteArray.mk #[]),.slice none 0 0])/\dW prog 47=some ([.sc (.string (ByteArray.mk #[])),.list false true []],[(0,1),(1,1)])/\aJ prog 48=some (false,1)/\bM prog 48=some (52,3,48)/\bA prog 48=1/\(prog.underlying 48).isSome=true/\aK prog 48=some (.list false true [])/\aM prog 48=0/\fJ prog 48=true/\aJ prog 49=some (true,3)/\bW prog 49 0=some (0,47,2)/\bW prog 49 1=some (2,48,1)/\(prog.underlying 49).isSome=true/\aK prog 49=some (.agg [.sc (.string (ByteArray.mk #[])),.list false true [],.list false true []])/\aM prog 49=0/\dW prog 49=some ([.sc (.string (ByteArray.mk #[])),.list false true [],.list false true []],[(0,2),(2,1)])/\aJ prog 50=some (true,3)/\bW prog 50 0=some (0,47,2)/\bW prog 50 1=some (2,48,1)/\(prog.underlying 50).isSome=true/\aK prog 50=some (.agg [.sc (.string (ByteArray.mk #[])),.list false true [],.list false true []]):=by and_intros<;>kernel_rfl
theorem bGh:aM prog 50=0/\jU prog 50=some 3/\dK prog 50=0/\dB prog 50=some (.agg #[.string (ByteArray.mk #[]),.slice none 0 0,.slice none 0 0])/\dW prog 50=some ([.sc (.string (ByteArray.mk #[])),.list false true [],.list false true []],[(0,2),(2,1)])/\aJ prog 51=some (true,3)/\bW prog 51 0=some (0,4,1)/\bW prog 51 1=some (1,47,2)/\(prog.underlying 51).isSome=true/\aK prog 51=some (.agg [bl false,.sc (.string (ByteArray.mk #[])),.list false true []])/\aM prog 51=0/\dW prog 51=some ([bl false,.sc (.string (ByteArray.mk #[])),.list false true []],[(0,1),(1,2)])/\aJ prog 52=some (true,3)/\bW prog 52 0=some (0,4,1)/\bW prog 52 1=some (1,47,2)/\(prog.underlying 52).isSome=true/\aK prog 52=some (.agg [bl false,.sc (.string (ByteArray.mk #[])),.list false true []])/\aM prog 52=0/\jU prog 52=some 3/\dK prog 52=0/\dB prog 52=some (.agg #[.bool false,.string (ByteArray.mk #[]),.slice none 0 0])/\dW prog 52=some ([bl false,.sc (.string (ByteArray.mk #[])),.list false true []],[(0,1),(1,2)])/\aJ prog 53=some (false,1)/\bA prog 53=3/\(prog.underlying 53).isSome=true/\aK prog 53=some (.sc .nilFunc)/\aM prog 53=0/\aJ prog 54=some (false,1)/\bA prog 54=3/\(prog.underlying 54).isSome=true/\aK prog 54=some (.sc .nilFunc)/\aM prog 54=0/\aJ prog 55=some (false,1)/\bA prog 55=3/\(prog.underlying 55).isSome=true/\aK prog 55=some (.sc .nilFunc)/\aM prog 55=0/\aJ prog 56=some (false,1)/\bA prog 56=3/\(prog.underlying 56).isSome=true/\aK prog 56=some (.sc .nilFunc)/\aM prog 56=0/\aJ prog 57=some (false,1)/\bA prog 57=3/\(prog.underlying 57).isSome=true/\aK prog 57=some (.sc .nilFunc)/\aM prog 57=0/\aJ prog 58=some (false,1)/\bA prog 58=3/\(prog.underlying 58).isSome=true/\aK prog 58=some (.sc .nilFunc)/\aM prog 58=0/\aJ prog 59=some (false,1)/\bA prog 59=3/\(prog.underlying 59).isSome=true/\aK prog 59=some (.sc .nilFunc)/\aM prog 59=0/\aJ prog 60=some (false,1)/\bA prog 60=3/\(prog.underlying 60).isSome=true:=by and_intros<;>kernel_rfl
theorem bGi:aK prog 60=some (.sc .nilFunc)/\aM prog 60=0/\aJ prog 61=some (false,1)/\bA prog 61=3/\(prog.underlying 61).isSome=true/\aK prog 61=some (.sc .nilFunc)/\aM prog 61=0/\aJ prog 62=some (false,1)/\bA prog 62=3/\(prog.underlying 62).isSome=true/\aK prog 62=some (.sc .nilFunc)/\aM prog 62=0/\aJ prog 63=some (false,1)/\bA prog 63=3/\(prog.underlying 63).isSome=true/\aK prog 63=some (.sc .nilFunc)/\aM prog 63=0/\aJ prog 64=some (false,1)/\bA prog 64=3/\(prog.underlying 64).isSome=true/\aK prog 64=some (.sc .nilFunc)/\aM prog 64=0/\aJ prog 65=some (false,1)/\bA prog 65=3/\(prog.underlying 65).isSome=true/\aK prog 65=some (.sc .nilFunc)/\aM prog 65=0/\aJ prog 66=some (false,1)/\bA prog 66=3/\(prog.underlying 66).isSome=true/\aK prog 66=some (.sc .nilFunc)/\aM prog 66=0/\aJ prog 67=some (false,1)/\bA prog 67=3/\(prog.underlying 67).isSome=true/\aK prog 67=some (.sc .nilFunc)/\aM prog 67=0/\aJ prog 68=some (true,6)/\jL prog 68=some (6,29,1)/\(prog.underlying 68).isSome=true/\aK prog 68=some (.agg [.list false true [],.list false true [],.list false true [],.list false true [],.list false true [],.list false true []])/\aM prog 68=0/\dW prog 68=some ([.list false true [],.list false true [],.list false true [],.list false true [],.list false true [],.list false true []],[(0,1),(1,1),(2,1),(3,1),(4,1),(5,1)])/\aJ prog 69=some (false,1)/\bA prog 69=3/\(prog.underlying 69).isSome=true/\aK prog 69=some (.sc .nilFunc)/\aM prog 69=0/\aJ prog 70=some (false,1)/\bA prog 70=3/\(prog.underlying 70).isSome=true/\aK prog 70=some (.sc .nilFunc)/\aM prog 70=0/\aJ prog 71=some (false,1)/\bA prog 71=3/\(prog.underlying 71).isSome=true/\aK prog 71=some (.sc .nilFunc)/\aM prog 71=0/\aJ prog 72=some (false,1)/\bA prog 72=3:=by and_intros<;>kernel_rfl
theorem bGj:(prog.underlying 72).isSome=true/\aK prog 72=some (.sc .nilFunc)/\aM prog 72=0/\aJ prog 73=some (false,1)/\bA prog 73=3/\(prog.underlying 73).isSome=true/\aK prog 73=some (.sc .nilFunc)/\aM prog 73=0/\aJ prog 74=some (false,1)/\bA prog 74=3/\(prog.underlying 74).isSome=true/\aK prog 74=some (.sc .nilFunc)/\aM prog 74=0/\aJ prog 75=some (false,1)/\bM prog 75=some (133,2,24)/\bA prog 75=1/\(prog.underlying 75).isSome=true/\aK prog 75=some (.list false true [])/\aM prog 75=0/\fJ prog 75=true/\aJ prog 76=some (false,1)/\(prog.underlying 76).isSome=true/\aM prog 76=0/\aJ prog 77=some (false,1)/\bA prog 77=3/\(prog.underlying 77).isSome=true/\aK prog 77=some (.sc .nilFunc)/\aM prog 77=0/\aJ prog 78=some (false,1)/\bA prog 78=3/\(prog.underlying 78).isSome=true/\aK prog 78=some (.sc .nilFunc)/\aM prog 78=0/\aJ prog 79=some (false,1)/\bA prog 79=2/\(prog.underlying 79).isSome=true/\aK prog 79=some (.sc (.pointer none))/\aM prog 79=0/\aJ prog 80=some (true,1)/\bW prog 80 0=some (0,3,1)/\(prog.underlying 80).isSome=true/\aK prog 80=some (.agg [nt .i64 0])/\aM prog 80=0/\dW prog 80=some ([nt .i64 0],[(0,1)])/\aJ prog 81=some (true,1)/\bW prog 81 0=some (0,3,1)/\(prog.underlying 81).isSome=true/\aK prog 81=some (.agg [nt .i64 0])/\aM prog 81=0/\dW prog 81=some ([nt .i64 0],[(0,1)])/\aJ prog 82=some (false,1)/\(prog.underlying 82).isSome=true/\aK prog 82=some (.sc (.map none))/\aM prog 82=0/\oK prog 82=some (bl false)/\aJ prog 83=some (false,1)/\bA prog 83=3/\(prog.underlying 83).isSome=true/\aK prog 83=some (.sc .nilFunc)/\aM prog 83=0:=by and_intros<;>kernel_rfl
theorem bGk:aJ prog 84=some (false,1)/\bA prog 84=3/\(prog.underlying 84).isSome=true/\aK prog 84=some (.sc .nilFunc)/\aM prog 84=0/\aJ prog 85=some (false,1)/\bA prog 85=3/\(prog.underlying 85).isSome=true/\aK prog 85=some (.sc .nilFunc)/\aM prog 85=0/\aJ prog 86=some (false,1)/\bM prog 86=some (91,1,24)/\bA prog 86=1/\(prog.underlying 86).isSome=true/\aK prog 86=some (.list false true [])/\aM prog 86=0/\fJ prog 86=true/\aJ prog 87=some (false,1)/\(prog.underlying 87).isSome=true/\aM prog 87=0/\aJ prog 88=some (false,1)/\bA prog 88=3/\(prog.underlying 88).isSome=true/\aK prog 88=some (.sc .nilFunc)/\aM prog 88=0/\aJ prog 89=some (false,1)/\(prog.underlying 89).isSome=true/\aM prog 89=0/\aJ prog 90=some (false,1)/\bA prog 90=3/\(prog.underlying 90).isSome=true/\aK prog 90=some (.sc .nilFunc)/\aM prog 90=0/\aJ prog 91=some (false,1)/\bM prog 91=some (137,3,56)/\bA prog 91=1/\(prog.underlying 91).isSome=true/\aK prog 91=some (.list false true [])/\aM prog 91=0/\fJ prog 91=true/\jU prog 91=some 1/\dK prog 91=0/\dB prog 91=some (.slice none 0 0)/\aJ prog 92=some (false,1)/\bA prog 92=2/\(prog.underlying 92).isSome=true/\aK prog 92=some (.sc (.pointer none))/\aM prog 92=0/\aJ prog 94=some (true,2)/\bW prog 94 0=some (0,9,1)/\bW prog 94 1=some (1,3,1)/\(prog.underlying 94).isSome=true/\aK prog 94=some (.agg [.sc (.string (ByteArray.mk #[])),nt .i64 0])/\aM prog 94=0/\dW prog 94=some ([.sc (.string (ByteArray.mk #[])),nt .i64 0],[(0,1),(1,1)])/\aJ prog 96=some (false,1)/\bA prog 96=3/\(prog.underlying 96).isSome=true/\aK prog 96=some (.sc .nilFunc)/\aM prog 96=0:=by and_intros<;>kernel_rfl
theorem bGl:aJ prog 97=some (false,1)/\bA prog 97=3/\(prog.underlying 97).isSome=true/\aK prog 97=some (.sc .nilFunc)/\aM prog 97=0/\aJ prog 98=some (false,1)/\(prog.underlying 98).isSome=true/\aM prog 98=0/\aJ prog 99=some (false,1)/\bA prog 99=3/\(prog.underlying 99).isSome=true/\aK prog 99=some (.sc .nilFunc)/\aM prog 99=0/\aJ prog 100=some (false,1)/\bA prog 100=3/\(prog.underlying 100).isSome=true/\aK prog 100=some (.sc .nilFunc)/\aM prog 100=0/\aJ prog 101=some (false,1)/\bA prog 101=3/\(prog.underlying 101).isSome=true/\aK prog 101=some (.sc .nilFunc)/\aM prog 101=0/\aJ prog 102=some (false,1)/\bA prog 102=3/\(prog.underlying 102).isSome=true/\aK prog 102=some (.sc .nilFunc)/\aM prog 102=0/\aJ prog 103=some (false,1)/\bA prog 103=3/\(prog.underlying 103).isSome=true/\aK prog 103=some (.sc .nilFunc)/\aM prog 103=0/\aJ prog 104=some (false,1)/\kY prog 104=some .u64/\(prog.underlying 104).isSome=true/\aK prog 104=some (nt .u64 0)/\aM prog 104=0/\aJ prog 105=some (false,1)/\bA prog 105=3/\(prog.underlying 105).isSome=true/\aK prog 105=some (.sc .nilFunc)/\aM prog 105=0/\aJ prog 106=some (false,1)/\bA prog 106=3/\(prog.underlying 106).isSome=true/\aK prog 106=some (.sc .nilFunc)/\aM prog 106=0/\aJ prog 107=some (false,1)/\bA prog 107=3/\(prog.underlying 107).isSome=true/\aK prog 107=some (.sc .nilFunc)/\aM prog 107=0/\aJ prog 108=some (false,1)/\bA prog 108=3/\(prog.underlying 108).isSome=true/\aK prog 108=some (.sc .nilFunc)/\aM prog 108=0/\aJ prog 109=some (false,1)/\bA prog 109=3:=by and_intros<;>kernel_rfl
theorem bGm:(prog.underlying 109).isSome=true/\aK prog 109=some (.sc .nilFunc)/\aM prog 109=0/\aJ prog 110=some (false,1)/\bA prog 110=3/\(prog.underlying 110).isSome=true/\aK prog 110=some (.sc .nilFunc)/\aM prog 110=0/\aJ prog 111=some (false,1)/\bA prog 111=3/\(prog.underlying 111).isSome=true/\aK prog 111=some (.sc .nilFunc)/\aM prog 111=0/\aJ prog 112=some (false,1)/\bA prog 112=3/\(prog.underlying 112).isSome=true/\aK prog 112=some (.sc .nilFunc)/\aM prog 112=0/\aJ prog 113=some (false,1)/\bA prog 113=3/\(prog.underlying 113).isSome=true/\aK prog 113=some (.sc .nilFunc)/\aM prog 113=0/\aJ prog 114=some (false,1)/\kY prog 114=some .u64/\(prog.underlying 114).isSome=true/\aK prog 114=some (nt .u64 0)/\aM prog 114=0/\aJ prog 115=some (false,1)/\bA prog 115=3/\(prog.underlying 115).isSome=true/\aK prog 115=some (.sc .nilFunc)/\aM prog 115=0/\aJ prog 116=some (false,1)/\bA prog 116=3/\(prog.underlying 116).isSome=true/\aK prog 116=some (.sc .nilFunc)/\aM prog 116=0/\aJ prog 117=some (false,1)/\bA prog 117=3/\(prog.underlying 117).isSome=true/\aK prog 117=some (.sc .nilFunc)/\aM prog 117=0/\aJ prog 118=some (false,1)/\bA prog 118=3/\(prog.underlying 118).isSome=true/\aK prog 118=some (.sc .nilFunc)/\aM prog 118=0/\aJ prog 119=some (false,1)/\bA prog 119=3/\(prog.underlying 119).isSome=true/\aK prog 119=some (.sc .nilFunc)/\aM prog 119=0/\aJ prog 120=some (false,1)/\(prog.underlying 120).isSome=true/\aK prog 120=some (.sc (.map none))/\aM prog 120=0/\oK prog 120=some (nt .i64 0)/\aJ prog 121=some (false,1)/\(prog.underlying 121).isSome=true:=by and_intros<;>kernel_rfl
theorem bGn:aM prog 121=0/\aJ prog 122=some (false,1)/\bA prog 122=3/\(prog.underlying 122).isSome=true/\aK prog 122=some (.sc .nilFunc)/\aM prog 122=0/\aJ prog 123=some (false,1)/\bA prog 123=3/\(prog.underlying 123).isSome=true/\aK prog 123=some (.sc .nilFunc)/\aM prog 123=0/\aJ prog 127=some (false,1)/\bA prog 127=3/\(prog.underlying 127).isSome=true/\aK prog 127=some (.sc .nilFunc)/\aM prog 127=0/\aJ prog 128=some (false,1)/\bA prog 128=3/\(prog.underlying 128).isSome=true/\aK prog 128=some (.sc .nilFunc)/\aM prog 128=0/\aJ prog 129=some (true,3)/\bW prog 129 0=some (0,9,1)/\bW prog 129 1=some (1,9,1)/\bW prog 129 2=some (2,4,1)/\(prog.underlying 129).isSome=true/\aK prog 129=some (.agg [.sc (.string (ByteArray.mk #[])),.sc (.string (ByteArray.mk #[])),bl false])/\aM prog 129=0/\dW prog 129=some ([.sc (.string (ByteArray.mk #[])),.sc (.string (ByteArray.mk #[])),bl false],[(0,1),(1,1),(2,1)])/\aJ prog 130=some (true,3)/\bW prog 130 0=some (0,9,1)/\bW prog 130 1=some (1,9,1)/\bW prog 130 2=some (2,4,1)/\(prog.underlying 130).isSome=true/\aK prog 130=some (.agg [.sc (.string (ByteArray.mk #[])),.sc (.string (ByteArray.mk #[])),bl false])/\aM prog 130=0/\jU prog 130=some 3/\dK prog 130=0/\dB prog 130=some (.agg #[.string (ByteArray.mk #[]),.string (ByteArray.mk #[]),.bool false])/\dW prog 130=some ([.sc (.string (ByteArray.mk #[])),.sc (.string (ByteArray.mk #[])),bl false],[(0,1),(1,1),(2,1)])/\aJ prog 133=some (true,2)/\bW prog 133 0=some (0,9,1)/\bW prog 133 1=some (1,3,1)/\(prog.underlying 133).isSome=true/\aK prog 133=some (.agg [.sc (.string (ByteArray.mk #[])),nt .i64 0])/\aM prog 133=0/\jU prog 133=some 2/\dK prog 133=0/\dB prog 133=some (.agg #[.string (ByteArray.mk #[]),.int .i64 0])/\dW prog 133=some ([.sc (.string (ByteArray.mk #[])),nt .i64 0],[(0,1),(1,1)])/\aJ prog 134=some (false,1)/\(prog.underlying 134).isSome=true/\aM prog 134=0/\aJ prog 137=some (true,3)/\bW prog 137 0=some (0,9,1)/\bW prog 137 1=some (1,47,2)/\(prog.underlying 137).isSome=true/\aK prog 137=some (.agg [.sc (.string (ByteArray.mk #[])),.sc (.string (ByteArray.mk #[])),.list false true []])/\aM prog 137=0/\jU prog 137=some 3:=by and_intros<;>kernel_rfl
theorem bGo:dK prog 137=0/\dB prog 137=some (.agg #[.string (ByteArray.mk #[]),.string (ByteArray.mk #[]),.slice none 0 0])/\dW prog 137=some ([.sc (.string (ByteArray.mk #[])),.sc (.string (ByteArray.mk #[])),.list false true []],[(0,1),(1,2)])/\aJ prog 138=some (false,1)/\bA prog 138=3/\(prog.underlying 138).isSome=true/\aK prog 138=some (.sc .nilFunc)/\aM prog 138=0/\aJ prog 139=some (false,1)/\bA prog 139=3/\(prog.underlying 139).isSome=true/\aK prog 139=some (.sc .nilFunc)/\aM prog 139=0/\aJ prog 140=some (false,1)/\(prog.underlying 140).isSome=true/\aM prog 140=0/\aJ prog 141=some (false,1)/\bA prog 141=3/\(prog.underlying 141).isSome=true/\aK prog 141=some (.sc .nilFunc)/\aM prog 141=0/\aJ prog 142=some (false,1)/\bA prog 142=3/\(prog.underlying 142).isSome=true/\aK prog 142=some (.sc .nilFunc)/\aM prog 142=0/\aJ prog 143=some (false,1)/\bA prog 143=3/\(prog.underlying 143).isSome=true/\aK prog 143=some (.sc .nilFunc)/\aM prog 143=0/\aJ prog 144=some (false,1)/\kY prog 144=some .i64/\(prog.underlying 144).isSome=true/\aK prog 144=some (nt .i64 0)/\aM prog 144=0/\aJ prog 145=some (false,1)/\(prog.underlying 145).isSome=true/\aM prog 145=0/\aJ prog 146=some (false,1)/\bA prog 146=3/\(prog.underlying 146).isSome=true/\aK prog 146=some (.sc .nilFunc)/\aM prog 146=0/\aJ prog 147=some (false,1)/\bA prog 147=3/\(prog.underlying 147).isSome=true/\aK prog 147=some (.sc .nilFunc)/\aM prog 147=0/\aJ prog 148=some (false,1)/\bA prog 148=3/\(prog.underlying 148).isSome=true/\aK prog 148=some (.sc .nilFunc)/\aM prog 148=0/\aJ prog 149=some (false,1)/\bA prog 149=3/\(prog.underlying 149).isSome=true/\aK prog 149=some (.sc .nilFunc)/\aM prog 149=0/\aJ prog 150=some (false,1):=by and_intros<;>kernel_rfl
theorem bGp:bA prog 150=3/\(prog.underlying 150).isSome=true/\aK prog 150=some (.sc .nilFunc)/\aM prog 150=0/\aJ prog 151=some (false,1)/\kY prog 151=some .u32/\(prog.underlying 151).isSome=true/\aK prog 151=some (nt .u32 0)/\aM prog 151=0/\aJ prog 152=some (false,1)/\bA prog 152=3/\(prog.underlying 152).isSome=true/\aK prog 152=some (.sc .nilFunc)/\aM prog 152=0/\aJ prog 153=some (true,4)/\bW prog 153 0=some (0,3,1)/\bW prog 153 1=some (1,3,1)/\bW prog 153 2=some (2,3,1)/\bW prog 153 3=some (3,9,1)/\(prog.underlying 153).isSome=true/\aK prog 153=some (.agg [nt .i64 0,nt .i64 0,nt .i64 0,.sc (.string (ByteArray.mk #[]))])/\aM prog 153=0/\dW prog 153=some ([nt .i64 0,nt .i64 0,nt .i64 0,.sc (.string (ByteArray.mk #[]))],[(0,1),(1,1),(2,1),(3,1)])/\aJ prog 154=some (true,4)/\bW prog 154 0=some (0,3,1)/\bW prog 154 1=some (1,3,1)/\bW prog 154 2=some (2,3,1)/\bW prog 154 3=some (3,9,1)/\(prog.underlying 154).isSome=true/\aK prog 154=some (.agg [nt .i64 0,nt .i64 0,nt .i64 0,.sc (.string (ByteArray.mk #[]))])/\aM prog 154=0/\dW prog 154=some ([nt .i64 0,nt .i64 0,nt .i64 0,.sc (.string (ByteArray.mk #[]))],[(0,1),(1,1),(2,1),(3,1)])/\aJ prog 160=some (true,4)/\bW prog 160 0=some (0,9,1)/\bW prog 160 1=some (1,3,1)/\bW prog 160 2=some (2,4,1)/\bW prog 160 3=some (3,4,1)/\(prog.underlying 160).isSome=true/\aK prog 160=some (.agg [.sc (.string (ByteArray.mk #[])),nt .i64 0,bl false,bl false])/\aM prog 160=0/\dW prog 160=some ([.sc (.string (ByteArray.mk #[])),nt .i64 0,bl false,bl false],[(0,1),(1,1),(2,1),(3,1)])/\aJ prog 167=some (true,2)/\bW prog 167 0=some (0,5,1)/\bW prog 167 1=some (1,5,1)/\(prog.underlying 167).isSome=true/\aK prog 167=some (.agg [nt .u8 0,nt .u8 0])/\aM prog 167=0/\jU prog 167=some 2/\dK prog 167=0/\dB prog 167=some (.agg #[.int .u8 0,.int .u8 0])/\dW prog 167=some ([nt .u8 0,nt .u8 0],[(0,1),(1,1)])/\aJ prog 168=some (true,6)/\jL prog 168=some (3,167,2)/\(prog.underlying 168).isSome=true/\aK prog 168=some (.agg [nt .u8 0,nt .u8 0,nt .u8 0,nt .u8 0,nt .u8 0,nt .u8 0])/\aM prog 168=0/\dW prog 168=some ([nt .u8 0,nt .u8 0,nt .u8 0,nt .u8 0,nt .u8 0,nt .u8 0],[(0,2),(2,2),(4,2)])/\aJ prog 169=some (false,1)/\(prog.underlying 169).isSome=true/\aK prog 169=some (.sc (.map none)):=by and_intros<;>kernel_rfl
theorem bGq:aM prog 169=0/\oK prog 169=some (bl false)/\aJ prog 170=some (false,1)/\bA prog 170=3/\(prog.underlying 170).isSome=true/\aK prog 170=some (.sc .nilFunc)/\aM prog 170=0/\aJ prog 171=some (false,1)/\bA prog 171=3/\(prog.underlying 171).isSome=true/\aK prog 171=some (.sc .nilFunc)/\aM prog 171=0/\aJ prog 173=some (false,1)/\bA prog 173=3/\(prog.underlying 173).isSome=true/\aK prog 173=some (.sc .nilFunc)/\aM prog 173=0/\aJ prog 178=some (false,1)/\(prog.underlying 178).isSome=true/\aK prog 178=some (.sc (.map none))/\aM prog 178=0/\oK prog 178=some (.list false true [])/\aJ prog 180=some (false,1)/\kY prog 180=some .u64/\(prog.underlying 180).isSome=true/\aK prog 180=some (nt .u64 0)/\aM prog 180=0/\aJ prog 182=some (false,1)/\bA prog 182=3/\(prog.underlying 182).isSome=true/\aK prog 182=some (.sc .nilFunc)/\aM prog 182=0/\aJ prog 184=some (false,1)/\bA prog 184=2/\(prog.underlying 184).isSome=true/\aK prog 184=some (.sc (.pointer none))/\aM prog 184=0/\aJ prog 188=some (true,24)/\jL prog 188=some (24,5,1)/\(prog.underlying 188).isSome=true/\aK prog 188=some (.agg [nt .u8 0,nt .u8 0,nt .u8 0,nt .u8 0,nt .u8 0,nt .u8 0,nt .u8 0,nt .u8 0,nt .u8 0,nt .u8 0,nt .u8 0,nt .u8 0,nt .u8 0,nt .u8 0,nt .u8 0,nt .u8 0,nt .u8 0,nt .u8 0,nt .u8 0,nt .u8 0,nt .u8 0,nt .u8 0,nt .u8 0,nt .u8 0])/\aM prog 188=0/\dW prog 188=some ([nt .u8 0,nt .u8 0,nt .u8 0,nt .u8 0,nt .u8 0,nt .u8 0,nt .u8 0,nt .u8 0,nt .u8 0,nt .u8 0,nt .u8 0,nt .u8 0,nt .u8 0,nt .u8 0,nt .u8 0,nt .u8 0,nt .u8 0,nt .u8 0,nt .u8 0,nt .u8 0,nt .u8 0,nt .u8 0,nt .u8 0,nt .u8 0],[(0,1),(1,1),(2,1),(3,1),(4,1),(5,1),(6,1),(7,1),(8,1),(9,1),(10,1),(11,1),(12,1),(13,1),(14,1),(15,1),(16,1),(17,1),(18,1),(19,1),(20,1),(21,1),(22,1),(23,1)])/\aJ prog 190=some (false,1)/\bM prog 190=some (5,1,1)/\bA prog 190=1/\(prog.underlying 190).isSome=true/\aK prog 190=some (.list false true [])/\aM prog 190=0/\fJ prog 190=true/\aJ prog 198=some (false,1)/\bM prog 198=some (167,2,2)/\bA prog 198=1/\(prog.underlying 198).isSome=true/\aK prog 198=some (.list false true [])/\aM prog 198=0/\fJ prog 198=true/\aJ prog 207=some (false,1)/\bA prog 207=2/\(prog.underlying 207).isSome=true:=by and_intros<;>kernel_rfl
theorem bGr:aK prog 207=some (.sc (.pointer none))/\aM prog 207=0:=by and_intros<;>kernel_rfl
attribute [go_sem] bGc bGd bGe bGf bGg bGh bGi bGj bGk bGl bGm bGn bGo bGp bGq bGr bFg bFh bFi bFj bFk bFl bFm bFn bFo bFp bFq bFr bFs bFt bFu bFv bFw bFx bFy bFz bF0 bF1 bF2 bF3 bF4 bF5 bF6 bF7 bF8 bF9 bGa bGb
theorem aQ:prog.follows .mixedOrders=true:=by kernel_rfl
inductive Tm where
 |mk (name:ByteArray) (args:List Tm)
namespace Tm
def name:Tm->ByteArray
 | .mk s _=>s
def args:Tm->List Tm
 | .mk _ ts=>ts
end Tm
mutual
def aI:Tm->AV
 | .mk s ts=> .agg [.sc (.string s),.list false false (C7 ts)]
def C7:List Tm->List AV
 | []=> []
 |t::r=>aI t::C7 r
end
theorem aE3: ∀l:List Tm,C7 l=l.map aI
 | []=>rfl
 |t::r=>by rw[C7,aE3 r];rfl
abbrev eT (t:Tm):AV:= .agg [.sc (.string t.name),.list false false (t.args.map aI)]
theorem rM: ∀t:Tm,aI t=eT t
 | .mk s ts=>by rw[aI,aE3];rfl
theorem nY {s:ByteArray} {ts:List Tm}:(Tm.mk s ts).name=s:=rfl
theorem cK {s:ByteArray} {ts:List Tm}:(Tm.mk s ts).args=ts:=rfl
attribute [go_sem] rM nY cK
mutual
def Tm.size:Tm->Nat
 | .mk _ ts=>1+bV ts
def bV:List Tm->Nat
 | []=>0
 |t::r=>t.size+bV r
end
mutual
def Tm.depth:Tm->Nat
 | .mk _ ts=>eH ts+1
def eH:List Tm->Nat
 | []=>0
 |t::r=>max t.depth (eH r)
end
theorem fB (t:Tm):t.size=1+bV t.args:=by cases t;rfl
theorem oX (t:Tm):t.depth=eH t.args+1:=by cases t;rfl
theorem R4: ∀a b:List Tm,bV (a++b)=bV a+bV b
 | [],b=>by simp[bV]
 |t::r,b=>by simp[bV,R4 r b,Nat.add_assoc]
theorem R5: ∀a b:List Tm,eH (a++b)=max (eH a) (eH b)
 | [],b=>by simp[eH]
 |t::r,b=>by simp only[List.cons_append,eH,R5 r b];omega
theorem fC {α:Type} {l:List α} {i:Nat} (h:i<l.length):l.take (i+1)=l.take i++ [l[i]]:=by
 rw[List.take_add_one,List.getElem?_eq_getElem h];rfl
theorem R6 {l:List Tm} {i:Nat} (h:i<l.length):bV (l.take (i+1))=bV (l.take i)+l[i].size:=by
 rw[fC h,R4];simp[bV]
theorem bGs {l:List Tm} {i:Nat} (h:i<l.length):eH (l.take (i+1))=max (eH (l.take i)) l[i].depth:=by
 rw[fC h,R5];simp[eH]
theorem C8: ∀{l:List Tm} {t:Tm},t∈l->t.size<=bV l
 |u::r,t,h=>by
  rcases List.mem_cons.1 h with rfl|h
  ·simp[bV]
  ·have:=C8 h;simp only[bV];omega
theorem sS {l:List Tm} {i:Nat} (h:i<l.length):l[i].size<=bV l:=C8 (List.getElem_mem h)
theorem R7 (l:List Tm) (i:Nat):bV (l.take i)<=bV l:=by
 have:=R4 (l.take i) (l.drop i)
 rw[List.take_append_drop]at this;omega
theorem sU (t:Tm):1<=t.size:=by rw[fB];omega
theorem nF: ∀l:List Tm,l.length<=bV l
 | []=>by simp[bV]
 |t::r=>by have:=nF r;have:=sU t;simp only[bV,List.length_cons];omega
theorem bGt: ∀t:Tm,t.depth<=t.size:=by
 have key: ∀n (t:Tm),t.size<=n->t.depth<=t.size:=by
  intro n
  induction n with
  |zero=>intro t h;have:=sU t;omega
  |succ n ih=>
   intro t h
   rw[fB]at*
   rw[oX]
   have: ∀l:List Tm,bV l<=n->eH l<=bV l:=by
    intro l
    induction l with
    |nil=>intro _;simp[eH,bV]
    |cons u r ihr=>
     intro hl
     simp only[bV,eH]at*
     have h1:=ih u (by omega)
     have h2:=ihr (by omega)
     omega
   have:=this t.args (by omega)
   omega
 exact fun t=>key t.size t (Nat.le_refl _)
theorem eX {p:Tm->Prop} (h: ∀t:Tm,(∀u∈t.args,p u)->p t): ∀t,p t:=by
 have key: ∀n (t:Tm),t.size<=n->p t:=by
  intro n
  induction n with
  |zero=>intro t h;have:=sU t;omega
  |succ n ih=>
   intro t ht
   refine h t fun u hu=>ih u ?_
   have:=C8 hu
   rw[fB]at ht;omega
 exact fun t=>key t.size t (Nat.le_refl _)
open Go.Ab
set_option maxRecDepth 100000
set_option maxHeartbeats 4000000
theorem bGu (a b:Nat):((max a b:Nat):Int)=max (a:Int) (b:Int):=by omega
mutual
def jV (m:Int):Int->Tm->Int
 |lv,.mk _ ts=>if lv<1 then m+1 else hZ m (lv - 1) 1 ts
def hZ (m:Int):Int->Int->List Tm->Int
 |_,n,[]=>n
 |lv,n,t::r=>if n>m then n else hZ m lv (n+jV m lv t) r
end
theorem xL {m lv:Int} {t:Tm}:jV m lv t=if lv<1 then m+1 else hZ m (lv - 1) 1 t.args:=by cases t;rfl
theorem R8 {m:Int} (hm:0<=m): ∀(t:Tm) (lv:Int),1<=jV m lv t:=by
 refine eX fun t ih lv=>?_
 rw[xL]
 split
 ·omega
 ·have key: ∀(r:List Tm),(∀u∈r,∀lv,1<=jV m lv u)-> ∀n,1<=n->1<=hZ m (lv - 1) n r:=by
   intro r
   induction r with
   |nil=>intro _ n hn;simpa[hZ]using hn
   |cons u r ihr=>
    intro h n hn
    simp only[hZ]
    split
    ·exact hn
    ·have:=h u (by simp) (lv - 1)
     exact ihr (fun v hv=>h v (by simp[hv])) _ (by omega)
  exact key t.args ih 1 (by omega)
theorem bGv {m:Int} (hm:0<=m): ∀(k:Nat) (t:Tm) (lv:Int),lv<=k->jV m lv t<=(k+1)*(m+1):=by
 intro k
 induction k with
 |zero=>
  intro t lv h
  rw[xL,if_pos (by omega)]
  simp
 |succ k ih=>
  intro t lv h
  rw[xL]
  have e:((k+1:Nat)+1:Int)*(m+1)=((k:Int)+1)*(m+1)+(m+1):=by
   rw[show((k+1:Nat)+1:Int)=((k:Int)+1)+1 by omega,Int.add_mul,Int.one_mul]
  have hp:0<=((k:Int)+1)*(m+1):=Int.mul_nonneg (by omega) (by omega)
  split
  ·omega
  ·have key: ∀(r:List Tm) (n:Int),n<=((k:Int)+1)*(m+1)+m+1->hZ m (lv - 1) n r<=((k:Int)+1)*(m+1)+m+1:=by
    intro r
    induction r with
    |nil=>intro n hn;simpa[hZ]using hn
    |cons u r ihr=>
     intro n hn
     simp only[hZ]
     split
     ·exact hn
     ·have:=ih u (lv - 1) (by omega)
      exact ihr _ (by omega)
   have h1:1<=((k:Int)+1)*(m+1)+m+1:=by omega
   have:=key t.args 1 h1
   omega
theorem bGw {m:Int} (hm:0<=m): ∀(t:Tm) (lv:Int),jV m lv t<=m->(jV m lv t=t.size/\(t.depth:Int)<=lv):=by
 refine eX fun t ih lv h=>?_
 rw[xL]at*
 split at h
 ·omega
 ·rename_i hl
  rw[if_neg hl]
  have key: ∀(r:List Tm),(∀u∈r,u∈t.args)-> ∀n,1<=n->hZ m (lv - 1) n r<=m->hZ m (lv - 1) n r=n+bV r/\(eH r:Int)<=lv - 1:=by
   intro r
   induction r with
   |nil=>intro _ n hn _;simp[hZ,bV,eH];omega
   |cons u r ihr=>
    intro hr n hn hp
    simp only[hZ]at*
    split at hp
    ·omega
    ·rename_i hc
     rw[if_neg hc]
     have g:=R8 hm u (lv - 1)
     have hmono: ∀(r:List Tm) (n:Int),n<=hZ m (lv - 1) n r:=by
      intro r
      induction r with
      |nil=>intro n;simp[hZ]
      |cons u r ihr=>
       intro n
       simp only[hZ]
       split
       ·omega
       ·have g:=R8 hm u (lv - 1)
        have:=ihr (n+jV m (lv - 1) u)
        omega
     have h2:=hmono r (n+jV m (lv - 1) u)
     obtain⟨a1,a2⟩:=ih u (hr u (by simp)) (lv - 1) (by omega)
     obtain⟨b1,b2⟩:=ihr (fun v hv=>hr v (by simp[hv])) (n+jV m (lv - 1) u) (by omega) hp
     simp only[bV,eH]
     omega
  obtain⟨a1,a2⟩:=key t.args (fun u hu=>hu) 1 (by omega) h
  rw[fB,oX]
  omega
def qD (m:Int) (t:Tm):Bool:=decide (jV m m t<=m)
theorem C9 {m:Int} (hm:0<=m) {t:Tm} (h:qD m t=true):(t.size:Int)<=m:=by
 have:=of_decide_eq_true h
 have:=(bGw hm t m this).1
 omega
theorem bGx {m:Int} (hm:0<=m/\m<=10000) (t:Tm) {lv:Int} (h:lv<=10000):1<=jV m lv t/\jV m lv t<=100020001:=by
 refine⟨R8 hm.1 t lv,?_⟩
 have h1:=bGv hm.1 10000 t lv h
 omega
theorem bGy (m:Int) (hm:0<=m/\m<=10000): ∀(t:Tm) (lv:Int),lv<=10000-> -10000<=lv->ACall prog 48 [eT t,nt .i64 m,nt .i64 lv] (fun r=>r=nt .i64 (jV m lv t)):=by
 refine eX fun t ih lv hlv hlv2=>?_
 obtain⟨s,ts⟩:=t
 rw[xL]
 simp only[cK]at*
 by_cases hl:lv<1
 ·rw[if_pos hl]
  refine aU func48 call48 rfl (by simp[ntmps48]) ?_;simp only[ntmps48,results48]
  repeat' (first|(refine aC fun _ _=>?_)|refine zHg ?_|(refine zqd ?_ ?_<;>(intro h;first|(exfalso;omega)|(simp only[h,zT])))|(refine aN [] ?_;simp[go_sem])|simp(disch:=omega) [go_sem])
 ·rw[if_neg hl]
  generalize hR:hZ m (lv - 1) 1 ts=R
  refine aU func48 call48 rfl (by simp[ntmps48]) ?_;simp only[ntmps48,results48]
  repeat' (first|(refine aC fun _ _=>?_)|refine zHg ?_|(refine zqd ?_ ?_<;>(intro h;first|(exfalso;omega)|(simp only[h,zT])))|simp(disch:=omega) [go_sem])
  refine bS [1,2,3,15] [] (fun x:Nat×Int=> [(16,nt .i64 x.1),(7,nt .i64 x.2)]) (fun x:Nat×Int=> []) (fun x:Nat×Int=>ts.length - x.1) (fun x:Nat×Int=>x.1<=ts.length/\1+(x.1:Int)<=x.2/\x.2<=100040001/\(x.1<ts.length->x.1<=10000\/x.2>m)/\hZ m (lv - 1) x.2 (ts.drop x.1)=R) ((0,1)) (Le.sub4 rfl (by simp[go_sem])) ⟨?_⟩ ?_
  ·exact⟨Nat.zero_le _,by simp,by simp,by simp,by simpa using hR⟩
  intro⟨i,n⟩ ⟨hi,hn,hn2,hbd,hr⟩ AA hAA;simp only[kL,Nat.reduceBEq,Nat.reduceEqDiff]
  dsimp only at*
  by_cases hlt:i<ts.length
  ·have hu:=ih ts[i] (List.getElem_mem hlt) (lv - 1) (by omega) (by omega)
   have hb:=bGx hm ts[i] (lv:=lv - 1) (by omega)
   have hd:ts.drop i=ts[i]::ts.drop (i+1):=List.drop_eq_getElem_cons hlt
   rw[hd]at hr
   simp only[hZ]at hr
   by_cases hc:n>m
   ·rw[if_pos hc]at hr
    repeat' (first|(refine aC fun _ _=>?_)|refine zHg ?_|(refine zqd ?_ ?_<;>(intro h;first|(exfalso;omega)|(simp only[h,zT])))|(refine aN [] ?_;simp[go_sem,hlt,hr])|simp(disch:=omega) [go_sem,hlt,hr])
   ·rw[if_neg hc]at hr
    repeat' (first|(refine aC fun _ _=>?_)|refine zHg ?_|(refine zqd ?_ ?_<;>(intro h;first|(exfalso;omega)|(simp only[h,zT])))|refine aO rfl (hu) (by simp) ?_|(refine(hAA.next ((i+1,n+jV m (lv - 1) ts[i])) (Le.sub4 rfl (by simp[go_sem])) (by(try dsimp only);omega) ?_))|simp(disch:=omega) [go_sem,hlt])
    exact⟨⟨by omega,by omega,by omega,by omega,hr⟩⟩
  ·obtain rfl:i=ts.length:=by omega
   simp[hZ]at hr
   repeat' (first|(refine aC fun _ _=>?_)|refine zHg ?_|(refine aN [] ?_;simp[go_sem])|simp(disch:=omega) [go_sem])
   exact hr
theorem aE4 (t:Tm) (m:Int) (hm:0<=m/\m<=10000):ACall prog 21 [eT t,nt .i64 m] (fun r=>r=bl (qD m t)):=by
 have h:=bGy m hm t m hm.2 (by omega)
 unfold qD
 generalize jV m m t=q at*
 refine aU func21 call21 rfl (by simp[ntmps21]) ?_;simp only[ntmps21,results21]
 repeat' (first|(refine aC fun _ _=>?_)|refine zHg ?_|(refine aN [] ?_;simp[go_sem])|refine aO rfl (h) (by simp) ?_|simp(disch:=omega) [go_sem])
open Go.Ab
set_option maxRecDepth 100000
def uT (p:Int×Int):AV:= .agg [nt .u8 p.1,nt .u8 p.2]
def jG (c:Int) (l:List (Int×Int)):Bool:=l.any fun p=>decide (p.1<=c)&&decide (c<=p.2)
theorem aE5 (c:Int) (l f:Bool) (ss:List (Int×Int)) (hl:ss.length<=1000):ACall prog 160 [nt .u8 c,.list l f (ss.map uT)] (fun r=>r=bl (jG c ss)):=by
 refine aU func160 call160 rfl (by simp[ntmps160]) ?_;simp only[ntmps160,results160]
 repeat' (first|(refine aC fun _ _=>?_)|refine zHg ?_|simp(disch:=omega) [go_sem])
 refine uO (fun n s=> ∃i:Nat,i<=ss.length/\n=ss.length - i/\jG c (ss.take i)=false/\s= {n:=24,t:= [(0,nt .u8 c),(7,.list l f (ss.map uT)),(8,nt .i64 ss.length),(9,nt .i64 i),(4,bl false)],o:= []})
  ss.length {n:=24,t:= [(0,nt .u8 c),(7,.list l f (ss.map uT)),(8,nt .i64 ss.length),(9,nt .i64 0),(4,bl false)],o:= []} (Le.sub4 rfl (by simp[go_sem])) ⟨0,Nat.zero_le _,rfl,rfl,rfl⟩ ?_
 rintro _ _ ⟨i,hi,rfl,hin,rfl⟩
 by_cases hlt:i<ss.length
 ·have hs:jG c (ss.take (i+1))=(decide (ss[i].1<=c)&&decide (c<=ss[i].2)):=by
   rw[List.take_add_one,List.getElem?_eq_getElem hlt];unfold jG at*;rw[List.any_append,hin];simp
  repeat' (first|(refine aC fun _ _=>?_)|refine zHg ?_|((first|refine zqd ?_ ?_|refine zgd ?_ ?_)<;>(intro h;(simp only[h,zT])))|(refine aN [] ?_;simp[go_sem,hlt,uT])|(refine Again.mk (ss.length - (i+1)) {n:=24,t:= [(0,nt .u8 c),(7,.list l f (ss.map uT)),(8,nt .i64 ss.length),(9,nt .i64 (i+1:Nat)),(4,bl false)],o:= []} (by omega) (Le.sub4 rfl (by simp[go_sem])) ⟨i+1,by omega,rfl,by rw[hs];simp[*],rfl⟩)|simp(disch:=omega) [go_sem,hlt,uT])
  unfold jG
  rw[List.any_eq_true]
  exact⟨ss[i],List.getElem_mem hlt,by simp[*]⟩
 ·obtain rfl:i=ss.length:=by omega
  rw[List.take_length]at hin
  repeat' (first|(refine aC fun _ _=>?_)|refine zHg ?_|(refine aN [] ?_;simp[go_sem,hin])|simp(disch:=omega) [go_sem,hin])
def mJ (s:ByteArray) (p q r:Int×Int) (n:Nat):Bool:=(List.range n).all fun i=>jG (bt s i) [p,q,r]
theorem R9 (s:ByteArray) (p q r:Int×Int) (n:Nat):mJ s p q r (n+1)=(mJ s p q r n&&jG (bt s n) [p,q,r]):=by
 simp[mJ,List.range_succ,List.all_append]
def kO (s:ByteArray) (p q r:Int×Int):Bool:=decide (1<=s.size)&&decide (s.size<=16)&&jG (bt s 0) [p]&&mJ s p q r s.size
theorem S0 {s:ByteArray} {p q r:Int×Int} {i:Nat} (h:jG (bt s i) [p,q,r]=false) {n:Nat} (hn:i<n):mJ s p q r n=false:=by
 unfold mJ;rw[List.all_eq_false];exact⟨i,by simpa using hn,by simp[h]⟩
theorem aE6 (s:ByteArray) (p q r:Int×Int):ACall prog 130 [.sc (.string s),.agg [nt .u8 p.1,nt .u8 p.2,nt .u8 q.1,nt .u8 q.2,nt .u8 r.1,nt .u8 r.2]] (fun x=>x=bl (kO s p q r)):=by
 have h1:ACall prog 160 [nt .u8 (bt s 0),.list true false [.agg [nt .u8 p.1,nt .u8 p.2]]] (fun x=>x=bl (jG (bt s 0) [p])):=aE5 (bt s 0) true false [p] (by simp)
 have h3: ∀i,ACall prog 160 [nt .u8 (bt s i),.list true false [.agg [nt .u8 p.1,nt .u8 p.2],.agg [nt .u8 q.1,nt .u8 q.2],.agg [nt .u8 r.1,nt .u8 r.2]]] (fun x=>x=bl (jG (bt s i) [p,q,r])):=fun i=>aE5 (bt s i) true false [p,q,r] (by simp)
 by_cases a1:1<=s.size/\s.size<=16
 ·by_cases a2:jG (bt s 0) [p]=true
  ·have e:kO s p q r=mJ s p q r s.size:=by simp[kO,a1,a2]
   rw[e]
   rw[a2]at h1
   refine aU func130 call130 rfl (by simp[ntmps130]) ?_;simp only[ntmps130,results130]
   repeat' (first|(refine aC fun _ _=>?_)|refine zHg ?_|(refine zdd ?_ ?_<;>(intro h;first|(exfalso;omega)|(simp only[h,zT])))|refine bR rfl (h1) rfl (by simp) ?_|simp(disch:=omega) [go_sem]|refine zAo ?_|refine zDr 15 aQ ?_|fail)
   refine uO (fun nn ss_=> ∃i:Nat,i<=s.size/\nn=s.size - i/\(mJ s p q r i=true)/\ss_= {n:=33,t:= [(0,.sc (.string s)),(3,.ptr 3 0 0),(5,nt .i64 (i))],o:= [(3,{arr:=false,fz:=false,pin:=false,es:=6,xs:= [.agg [nt .u8 p.1,nt .u8 p.2,nt .u8 q.1,nt .u8 q.2,nt .u8 r.1,nt .u8 r.2]]})]}) (s.size) {n:=33,t:= [(0,.sc (.string s)),(3,.ptr 3 0 0),(5,nt .i64 (0))],o:= [(3,{arr:=false,fz:=false,pin:=false,es:=6,xs:= [.agg [nt .u8 p.1,nt .u8 p.2,nt .u8 q.1,nt .u8 q.2,nt .u8 r.1,nt .u8 r.2]]})]} (Le.sub4 rfl (by simp[go_sem])) ⟨0,Nat.zero_le _,rfl,rfl,rfl⟩ ?_;rintro _ _ ⟨i,hi,rfl,hin,rfl⟩
   have hb:=h3 i
   by_cases hlt:i<s.size
   ·cases hz:jG (bt s i) [p,q,r]with
    |false=>
     rw[hz]at hb
     repeat' (first|(refine aC fun _ _=>?_)|refine zHg ?_|(refine aN [] ?_;simp[go_sem,hlt])|refine bR rfl (hb) rfl (by simp) ?_|simp(disch:=omega) [go_sem,hlt]|refine zDr 6 aQ ?_|fail)
     all_goals exact S0 hz hlt
    |true=>
     rw[hz]at hb
     have hs:mJ s p q r (i+1)=true:=by rw[R9,hin,hz];rfl
     repeat' (first|(refine aC fun _ _=>?_)|refine zHg ?_|refine bR rfl (hb) rfl (by simp) ?_|refine Again.mk (s.size - (i+1)) {n:=33,t:= [(0,.sc (.string s)),(3,.ptr 3 0 0),(5,nt .i64 ((i+1:Nat)))],o:= [(3,{arr:=false,fz:=false,pin:=false,es:=6,xs:= [.agg [nt .u8 p.1,nt .u8 p.2,nt .u8 q.1,nt .u8 q.2,nt .u8 r.1,nt .u8 r.2]]})]} (by omega) (Le.sub4 rfl (by simp[go_sem])) ⟨i+1,by omega,rfl,hs,rfl⟩|simp(disch:=omega) [go_sem,hlt]|refine zDr 6 aQ ?_|fail)
   ·obtain rfl:i=s.size:=by omega
    repeat' (first|(refine aC fun _ _=>?_)|refine zHg ?_|(refine aN [] ?_;simp[go_sem,hin])|simp(disch:=omega) [go_sem,hin])
  ·have e:kO s p q r=false:=by simp[kO,a2]
   rw[e]
   simp only[Bool.not_eq_true]at a2
   rw[a2]at h1
   refine aU func130 call130 rfl (by simp[ntmps130]) ?_;simp only[ntmps130,results130]
   repeat' (first|(refine aC fun _ _=>?_)|refine zHg ?_|(refine zdd ?_ ?_<;>(intro h;first|(exfalso;omega)|(simp only[h,zT])))|(refine aN [] ?_;simp[go_sem])|refine bR rfl (h1) rfl (by simp) ?_|simp(disch:=omega) [go_sem]|refine zAo ?_|refine zDr 15 aQ ?_|fail)
 ·have e:kO s p q r=false:=by simp[kO];omega
  rw[e]
  refine aU func130 call130 rfl (by simp[ntmps130]) ?_;simp only[ntmps130,results130]
  repeat' (first|(refine aC fun _ _=>?_)|refine zHg ?_|(refine zdd ?_ ?_<;>(intro h;first|(exfalso;omega)|(simp only[h,zT])))|(refine aN [] ?_;simp[go_sem])|simp(disch:=omega) [go_sem]|refine zDr 15 aQ ?_|fail)
abbrev xM:ByteArray:=ByteArray.mk #[105,102]
abbrev xN:ByteArray:=ByteArray.mk #[97,110,100]
abbrev xO:ByteArray:=ByteArray.mk #[110,111,116]
theorem D0 (c:Int) (p q r:Int×Int):jG c [p,q,r]=decide ((p.1<=c/\c<=p.2)\/(q.1<=c/\c<=q.2)\/(r.1<=c/\c<=r.2)):=by
 rw[Bool.eq_iff_iff];simp[jG]
theorem D1 (c:Int) (p:Int×Int):jG c [p]=decide (p.1<=c/\c<=p.2):=by
 rw[Bool.eq_iff_iff];simp[jG]
def nZ (s:ByteArray):Bool:=kO s (97,122) (48,57) (45,45)&& !decide (s=xM)&& !decide (s=xN)&& !decide (s=xO)
theorem bGz (s:ByteArray):ACall prog 84 [.sc (.string s)] (fun r=>r=bl (nZ s)):=by
 have h1:=aE6 s (97,122) (48,57) (45,45)
 simp only[nZ]
 generalize kO s (97,122) (48,57) (45,45)=b at*
 refine aU func84 call84 rfl (by simp[ntmps84]) ?_;simp only[ntmps84,results84]
 cases b
 ·repeat' (first|(refine aC fun _ _=>?_)|refine zHg ?_|(refine aN [] ?_;simp[go_sem])|refine aO rfl (h1) (by simp) ?_|simp(disch:=omega) [go_sem])
 ·repeat' (first|(refine aC fun _ _=>?_)|refine zHg ?_|(refine zgn ?_ ?_<;>(intro h;(simp only[h,zT])))|(refine aN [] ?_;simp[go_sem])|refine aO rfl (h1) (by simp) ?_|simp(disch:=omega) [go_sem])
  all_goals(simp_all [xM,xN,xO]<;>(rw[Bool.eq_iff_iff];simp))
def oY (s:ByteArray):Bool:=kO s (65,90) (97,122) (48,57)
theorem bG0 (s:ByteArray):ACall prog 129 [.sc (.string s)] (fun r=>r=bl (oY s)):=by
 have h1:=aE6 s (65,90) (97,122) (48,57)
 simp only[oY]
 generalize kO s (65,90) (97,122) (48,57)=b at*
 refine aU func129 call129 rfl (by simp[ntmps129]) ?_;simp only[ntmps129,results129]
 repeat' (first|(refine aC fun _ _=>?_)|refine zHg ?_|(refine aN [] ?_;simp[go_sem])|refine aO rfl (h1) (by simp) ?_|simp(disch:=omega) [go_sem])
theorem S1 (c:Int):ACall prog 146 [nt .u8 c] (fun r=>r=bl (decide (97<=c/\c<=122))):=by
 refine aU func146 call146 rfl (by simp[ntmps146]) ?_;simp only[ntmps146,results146]
 repeat' (first|(refine aC fun _ _=>?_)|refine zHg ?_|(refine zgd ?_ ?_<;>(intro h;(simp only[h,zT])))|(refine aN [] ?_;simp[go_sem])|simp(disch:=omega) [go_sem])
 all_goals(first|omega|(rw[Bool.eq_iff_iff];simp;omega))
theorem aE7 (c:Int):ACall prog 182 [nt .u8 c] (fun r=>r=bl (decide (65<=c/\c<=90))):=by
 refine aU func182 call182 rfl (by simp[ntmps182]) ?_;simp only[ntmps182,results182]
 repeat' (first|(refine aC fun _ _=>?_)|refine zHg ?_|(refine zgd ?_ ?_<;>(intro h;(simp only[h,zT])))|(refine aN [] ?_;simp[go_sem])|simp(disch:=omega) [go_sem])
 all_goals(first|omega|(rw[Bool.eq_iff_iff];simp;omega))
theorem S2 (c:Int):ACall prog 147 [nt .u8 c] (fun r=>r=bl (decide (48<=c/\c<=57))):=by
 refine aU func147 call147 rfl (by simp[ntmps147]) ?_;simp only[ntmps147,results147]
 repeat' (first|(refine aC fun _ _=>?_)|refine zHg ?_|(refine zgd ?_ ?_<;>(intro h;(simp only[h,zT])))|(refine aN [] ?_;simp[go_sem])|simp(disch:=omega) [go_sem])
 all_goals(first|omega|(rw[Bool.eq_iff_iff];simp;omega))
theorem bG1 (s:ByteArray):ACall prog 117 [.sc (.string s)] (fun r=>r=bl (nZ s)):=by
 have h1:=S1 (bt s 0)
 by_cases a1:1<=s.size/\s.size<=16/\(97<=bt s 0/\bt s 0<=122)/\s≠xM/\s≠xN/\s≠xO
 ·have e:nZ s=mJ s (97,122) (48,57) (45,45) s.size:=by simp[nZ,kO,a1,D1]
  rw[e]
  obtain⟨b1,b2,b3,b4,b5,b6⟩:=a1
  unfold xM at b4
  unfold xN at b5
  unfold xO at b6
  refine aU func117 call117 rfl (by simp[ntmps117]) ?_;simp only[ntmps117,results117]
  repeat' (first|(refine aC fun _ _=>?_)|refine zHg ?_|(refine zgd ?_ ?_<;>(intro h;first|(exfalso;omega)|(simp only[h,zT])))|refine aO rfl (h1) (by simp) ?_|simp(disch:=omega) [go_sem,b4,b5,b6]|refine zAo ?_|(refine zgs ?_ ?_<;>(intro h;first|(exfalso;simp at h;omega)|((try simp only[h]);(try simp at h)))))
  refine uO (fun nn ss_=> ∃i:Nat,i<=s.size/\nn=s.size - i/\(mJ s (97,122) (48,57) (45,45) i=true)/\ss_= {n:=54,t:= [(0,.sc (.string s)),(31,nt .i64 s.size),(32,nt .i64 (i))],o:= []}) (s.size) {n:=54,t:= [(0,.sc (.string s)),(31,nt .i64 s.size),(32,nt .i64 (0))],o:= []} (Le.sub4 rfl (by simp[go_sem])) ⟨0,Nat.zero_le _,rfl,rfl,rfl⟩ ?_;rintro _ _ ⟨i,hi,rfl,hin,rfl⟩
  have hl:=S1 (bt s i)
  have hd:=S2 (bt s i)
  by_cases hlt:i<s.size
  ·have hs:=R9 s (97,122) (48,57) (45,45) i
   rw[D0,hin,Bool.true_and]at hs
   dsimp only at hs
   repeat' (first|(refine aC fun _ _=>?_)|refine zHg ?_|(refine zqn ?_ ?_<;>(intro h;(simp only[h,zT])))|(refine aN [] ?_;simp[go_sem,hlt])|refine aO rfl (hl) (by simp) ?_|refine aO rfl (hd) (by simp) ?_|(refine Again.mk (s.size - (i+1)) {n:=54,t:= [(0,.sc (.string s)),(31,nt .i64 s.size),(32,nt .i64 ((i+1:Nat)))],o:= []} (by omega) (Le.sub4 rfl (by simp[go_sem])) ⟨i+1,by omega,rfl,by rw[hs];exact decide_eq_true (by omega),rfl⟩)|simp(disch:=omega) [go_sem,hlt]|(refine zgs ?_ ?_<;>(intro h;((try simp only[h]);(try simp at h)))))
   all_goals exact S0 (i:=i) (by rw[D0];exact decide_eq_false (by(try dsimp only);omega)) hlt
  ·obtain rfl:i=s.size:=by omega
   repeat' (first|(refine aC fun _ _=>?_)|refine zHg ?_|(refine aN [] ?_;simp[go_sem,hin])|simp(disch:=omega) [go_sem,hin])
 ·have e:nZ s=false:=by
   rw[Bool.eq_false_iff]
   intro h
   simp[nZ,kO,D1]at h
   exact a1 (by simp[h])
  rw[e]
  unfold xM xN xO at a1
  refine aU func117 call117 rfl (by simp[ntmps117]) ?_;simp only[ntmps117,results117]
  repeat' (first|(refine aC fun _ _=>?_)|refine zHg ?_|((first|refine zqd ?_ ?_|refine zgd ?_ ?_)<;>(intro h;(simp only[h,zT])))|(refine aN [] ?_;simp[go_sem])|refine aO rfl (h1) (by simp) ?_|simp(disch:=omega) [go_sem]|refine zAo ?_|(refine zgs ?_ ?_<;>(intro h;((try simp only[h]);(try simp at h)))))
  all_goals(exfalso;apply a1;refine⟨by omega,by omega,by omega,?_,?_,?_⟩<;>assumption)
theorem bG2 (s:ByteArray):ACall prog 171 [.sc (.string s)] (fun r=>r=bl (oY s)):=by
 have h1:=aE7 (bt s 0)
 by_cases a1:1<=s.size/\s.size<=16/\(65<=bt s 0/\bt s 0<=90)
 ·have e:oY s=mJ s (65,90) (97,122) (48,57) s.size:=by simp[oY,kO,a1,D1]
  rw[e]
  obtain⟨b1,b2,b3⟩:=a1
  refine aU func171 call171 rfl (by simp[ntmps171]) ?_;simp only[ntmps171,results171]
  repeat' (first|(refine aC fun _ _=>?_)|refine zHg ?_|(refine zgd ?_ ?_<;>(intro h;first|(exfalso;omega)|(simp only[h,zT])))|refine aO rfl (h1) (by simp) ?_|simp(disch:=omega) [go_sem]|refine zAo ?_|(refine zqs ?_ ?_<;>(intro h;first|(exfalso;simp at h;omega)|((try simp only[h]);(try simp at h)))))
  refine uO (fun nn ss_=> ∃i:Nat,i<=s.size/\nn=s.size - i/\(mJ s (65,90) (97,122) (48,57) i=true)/\ss_= {n:=43,t:= [(0,.sc (.string s)),(19,nt .i64 s.size),(20,nt .i64 (i))],o:= []}) (s.size) {n:=43,t:= [(0,.sc (.string s)),(19,nt .i64 s.size),(20,nt .i64 (0))],o:= []} (Le.sub4 rfl (by simp[go_sem])) ⟨0,Nat.zero_le _,rfl,rfl,rfl⟩ ?_;rintro _ _ ⟨i,hi,rfl,hin,rfl⟩
  have hl:=S1 (bt s i)
  have hu:=aE7 (bt s i)
  have hd:=S2 (bt s i)
  by_cases hlt:i<s.size
  ·have hs:=R9 s (65,90) (97,122) (48,57) i
   rw[D0,hin,Bool.true_and]at hs
   dsimp only at hs
   repeat' (first|(refine aC fun _ _=>?_)|refine zHg ?_|(refine aN [] ?_;simp[go_sem,hlt])|refine aO rfl (hl) (by simp) ?_|refine aO rfl (hd) (by simp) ?_|refine aO rfl (hu) (by simp) ?_|(refine Again.mk (s.size - (i+1)) {n:=43,t:= [(0,.sc (.string s)),(19,nt .i64 s.size),(20,nt .i64 ((i+1:Nat)))],o:= []} (by omega) (Le.sub4 rfl (by simp[go_sem])) ⟨i+1,by omega,rfl,by rw[hs];exact decide_eq_true (by omega),rfl⟩)|simp(disch:=omega) [go_sem,hlt]|((first|refine zqs ?_ ?_|refine zgs ?_ ?_)<;>(intro h;((try simp only[h]);(try simp at h)))))
   all_goals exact S0 (i:=i) (by rw[D0];exact decide_eq_false (by(try dsimp only);omega)) hlt
  ·obtain rfl:i=s.size:=by omega
   repeat' (first|(refine aC fun _ _=>?_)|refine zHg ?_|(refine aN [] ?_;simp[go_sem,hin])|simp(disch:=omega) [go_sem,hin])
 ·have e:oY s=false:=by
   rw[Bool.eq_false_iff]
   intro h
   simp[oY,kO,D1]at h
   exact a1 (by simp[h])
  rw[e]
  refine aU func171 call171 rfl (by simp[ntmps171]) ?_;simp only[ntmps171,results171]
  repeat' (first|(refine aC fun _ _=>?_)|refine zHg ?_|(refine zgd ?_ ?_<;>(intro h;(simp only[h,zT])))|(refine aN [] ?_;simp[go_sem])|refine aO rfl (h1) (by simp) ?_|simp(disch:=omega) [go_sem]|refine zAo ?_|(refine zqs ?_ ?_<;>(intro h;first|(exfalso;simp at h;omega)|((try simp only[h]);(try simp at h)))))
  all_goals(exfalso;apply a1;omega)
def lI (s:ByteArray) (n:Nat):Bool:=(List.range n).all fun i=>decide (48<=bt s i/\bt s i<=57)
theorem S3 (s:ByteArray) (n:Nat):lI s (n+1)=(lI s n&&decide (48<=bt s n/\bt s n<=57)):=by
 simp[lI,List.range_succ,List.all_append]
theorem aE8 {s:ByteArray} {i n:Nat} (h: ¬(48<=bt s i/\bt s i<=57)) (hn:i<n):lI s n=false:=by
 unfold lI;rw[List.all_eq_false];exact⟨i,by simpa using hn,by simpa using h⟩
def gC (s:ByteArray):Nat->Int
 |0=>0
 |n+1=>10*gC s n+(bt s n - 48)
theorem S4 {s:ByteArray}: ∀{n:Nat},lI s n=true->0<=gC s n/\gC s n<=10^n - 1
 |0,_=>by simp[gC]
 |n+1,h=>by
  rw[S3,Bool.and_eq_true,decide_eq_true_eq]at h
  have:=S4 h.1
  rw[Int.pow_succ]
  simp only[gC]
  omega
theorem aE9 {s:ByteArray} {n:Nat} (h:lI s n=true) (hn:n<=3):0<=gC s n/\gC s n<=999:=by
 have h1:=S4 h
 have:n=0\/n=1\/n=2\/n=3:=by omega
 rcases this with rfl|rfl|rfl|rfl<;>simp at h1<;>omega
theorem aFa {s:ByteArray} {n:Nat} (h:lI s n=true) (hn:n<=4):0<=gC s n/\gC s n<=9999:=by
 have h1:=S4 h
 have:n=0\/n=1\/n=2\/n=3\/n=4:=by omega
 rcases this with rfl|rfl|rfl|rfl|rfl<;>simp at h1<;>omega
def dZ (s:ByteArray):Int×Bool:=if(1<=s.size/\s.size<=4/\ ¬(bt s 0=48/\1<s.size))/\lI s s.size=true then(gC s s.size,true)else(0,false)
theorem aFb {s:ByteArray} (h: ¬(1<=s.size/\s.size<=4/\ ¬(bt s 0=48/\1<s.size))):dZ s=(0,false):=by
 unfold dZ;rw[if_neg (fun e=>h e.1)]
theorem aFc {s:ByteArray} (h:1<=s.size/\s.size<=4/\ ¬(bt s 0=48/\1<s.size)):dZ s=if lI s s.size=true then(gC s s.size,true)else(0,false):=by
 unfold dZ;simp only[h,true_and];simp
theorem aFd (s:ByteArray):ACall prog 144 [.sc (.string s)] (fun r=>r= .tup [nt .i64 (dZ s).1,bl (dZ s).2]):=by
 by_cases a1:1<=s.size/\s.size<=4/\ ¬(bt s 0=48/\1<s.size)
 ·rw[aFc a1]
  refine aU func144 call144 rfl (by simp[ntmps144]) ?_;simp only[ntmps144,results144]
  repeat' (first|(refine aC fun _ _=>?_)|refine zHg ?_|((first|refine zqd ?_ ?_|refine zgd ?_ ?_)<;>(intro h;first|(exfalso;omega)|(simp only[h,zT])))|simp(disch:=omega) [go_sem]|refine zAo ?_|fail)
  all_goals(try(exfalso;omega))
  all_goals
   refine uO (fun nn ss_=> ∃i:Nat,i<=s.size/\nn=s.size - i/\(lI s i=true)/\ss_= {n:=51,t:= [(0,.sc (.string s)),(4,nt .i64 (gC s i)),(5,nt .i64 (i))],o:= []}) (s.size) {n:=51,t:= [(0,.sc (.string s)),(4,nt .i64 (gC s 0)),(5,nt .i64 (0))],o:= []} (Le.sub4 rfl (by simp[go_sem,gC])) ⟨0,Nat.zero_le _,rfl,rfl,rfl⟩ ?_;rintro _ _ ⟨i,hi,rfl,hin,rfl⟩
   have hb:=aEf s i
   by_cases hlt:i<s.size
   ·have hv:=aE9 hin (by omega)
    have hs:=S3 s i
    rw[hin,Bool.true_and]at hs
    repeat' (first|(refine aC fun _ _=>?_)|refine zHg ?_|((first|refine zqd ?_ ?_|refine zgd ?_ ?_)<;>(intro h;(simp only[h,zT])))|(refine aN [] ?_;simp[go_sem,hlt])|(refine Again.mk (s.size - (i+1)) {n:=51,t:= [(0,.sc (.string s)),(4,nt .i64 (gC s (i+1:Nat))),(5,nt .i64 ((i+1:Nat)))],o:= []} (by omega) (Le.sub4 rfl (by simp[go_sem,gC])) ⟨i+1,by omega,rfl,by rw[hs];exact decide_eq_true (by omega),rfl⟩)|simp(disch:=omega) [go_sem,hlt])
    all_goals(try simp)
    all_goals(have hf:lI s s.size=false:=aE8 (i:=i) (by omega) hlt)
    all_goals(simp[hf])
   ·obtain rfl:i=s.size:=by omega
    have hv:=aFa hin (by omega)
    repeat' (first|(refine aC fun _ _=>?_)|refine zHg ?_|(refine aN [] ?_;simp[go_sem,hin])|simp(disch:=omega) [go_sem,hin])
    all_goals(try simp[hin])
    all_goals(try omega)
 ·rw[aFb a1]
  refine aU func144 call144 rfl (by simp[ntmps144]) ?_;simp only[ntmps144,results144]
  repeat' (first|(refine aC fun _ _=>?_)|refine zHg ?_|((first|refine zqd ?_ ?_|refine zgd ?_ ?_)<;>(intro h;first|(exfalso;omega)|(simp only[h,zT])))|(refine aN [] ?_;simp[go_sem])|simp(disch:=omega) [go_sem]|refine zAo ?_|fail)
  all_goals(exfalso;omega)
theorem aFe (s:ByteArray):ACall prog 148 [.sc (.string s)] (fun r=>r= .tup [nt .i64 (dZ s).1,bl (dZ s).2]):=by
 by_cases a1:1<=s.size/\s.size<=4/\ ¬(bt s 0=48/\1<s.size)
 ·rw[aFc a1]
  refine aU func148 call148 rfl (by simp[ntmps148]) ?_;simp only[ntmps148,results148]
  repeat' (first|(refine aC fun _ _=>?_)|refine zHg ?_|((first|refine zqd ?_ ?_|refine zgd ?_ ?_)<;>(intro h;first|(exfalso;omega)|(simp only[h,zT])))|simp(disch:=omega) [go_sem]|refine zAo ?_|fail)
  all_goals(try(exfalso;omega))
  all_goals
   refine uO (fun nn ss_=> ∃i:Nat,i<=s.size/\nn=s.size - i/\(lI s i=true)/\ss_= {n:=44,t:= [(0,.sc (.string s)),(25,nt .i64 s.size),(4,nt .i64 (gC s i)),(26,nt .i64 (i))],o:= []}) (s.size) {n:=44,t:= [(0,.sc (.string s)),(25,nt .i64 s.size),(4,nt .i64 (gC s 0)),(26,nt .i64 (0))],o:= []} (Le.sub4 rfl (by simp[go_sem,gC])) ⟨0,Nat.zero_le _,rfl,rfl,rfl⟩ ?_;rintro _ _ ⟨i,hi,rfl,hin,rfl⟩
   have hb:=aEf s i
   have hd:=S2 (bt s i)
   by_cases hlt:i<s.size
   ·have hv:=aE9 hin (by omega)
    have hs:=S3 s i
    rw[hin,Bool.true_and]at hs
    repeat' (first|(refine aC fun _ _=>?_)|refine zHg ?_|(refine aN [] ?_;simp[go_sem,hlt])|refine aO rfl (hd) (by simp) ?_|(refine Again.mk (s.size - (i+1)) {n:=44,t:= [(0,.sc (.string s)),(25,nt .i64 s.size),(4,nt .i64 (gC s (i+1:Nat))),(26,nt .i64 ((i+1:Nat)))],o:= []} (by omega) (Le.sub4 rfl (by simp[go_sem,gC])) ⟨i+1,by omega,rfl,by rw[hs];exact decide_eq_true (by omega),rfl⟩)|simp(disch:=omega) [go_sem,hlt]|(refine zqs ?_ ?_<;>(intro h;((try simp only[h]);(try simp at h)))))
    all_goals(try simp)
    all_goals(have hf:lI s s.size=false:=aE8 (i:=i) (by omega) hlt)
    all_goals(simp[hf])
   ·obtain rfl:i=s.size:=by omega
    have hv:=aFa hin (by omega)
    repeat' (first|(refine aC fun _ _=>?_)|refine zHg ?_|(refine aN [] ?_;simp[go_sem,hin])|simp(disch:=omega) [go_sem,hin])
    all_goals(try simp[hin])
    all_goals(try omega)
 ·rw[aFb a1]
  refine aU func148 call148 rfl (by simp[ntmps148]) ?_;simp only[ntmps148,results148]
  repeat' (first|(refine aC fun _ _=>?_)|refine zHg ?_|((first|refine zqd ?_ ?_|refine zgd ?_ ?_)<;>(intro h;first|(exfalso;omega)|(simp only[h,zT])))|(refine aN [] ?_;simp[go_sem])|simp(disch:=omega) [go_sem]|refine zAo ?_|fail)
  all_goals(exfalso;omega)
set_option maxHeartbeats 4000000
theorem aFf (s:ByteArray):ACall prog 118 [.sc (.string s)] (fun r=>r=bl (dZ s).2):=by
 have hc:=aFe s
 generalize dZ s=q at*
 obtain⟨v,b⟩:=q
 dsimp only at*
 refine aU func118 call118 rfl (by simp[ntmps118]) ?_;simp only[ntmps118,results118]
 repeat' (first|(refine aC fun _ _=>?_)|refine zHg ?_|(refine aN [] ?_;simp[go_sem])|refine aO rfl (hc) (by simp) ?_|simp(disch:=omega) [go_sem])
def fH (s:ByteArray):Bool:=nZ s||(dZ s).2
def rN (t:Tm):Bool:=t.args.isEmpty&&fH t.name
theorem bG3 {α:Type} (l:List α):l.isEmpty=decide (l.length=0):=by cases l<;>simp
theorem aFg (t:Tm):ACall prog 66 [eT t] (fun r=>r=bl (rN t)):=by
 have h1:=bG1 t.name
 have h2:=aFf t.name
 unfold rN fH
 rw[bG3]
 generalize nZ t.name=a at*
 generalize(dZ t.name).2=b at*
 refine aU func66 call66 rfl (by simp[ntmps66]) ?_;simp only[ntmps66,results66]
 by_cases h:t.args.length=0
 ·cases a
  ·repeat' (first|(refine aC fun _ _=>?_)|refine zHg ?_|(refine aN [] ?_;simp[go_sem,h])|refine aO rfl (h1) (by simp) ?_|refine aO rfl (h2) (by simp) ?_|simp(disch:=omega) [go_sem,h])
  ·repeat' (first|(refine aC fun _ _=>?_)|refine zHg ?_|(refine aN [] ?_;simp[go_sem,h])|refine aO rfl (h1) (by simp) ?_|simp(disch:=omega) [go_sem,h])
 ·repeat' (first|(refine aC fun _ _=>?_)|refine zHg ?_|(refine aN [] ?_;simp[go_sem,h])|simp(disch:=omega) [go_sem,h])
end Go.Proofs.YtbgckcdddlmiaaaGreatDoor
