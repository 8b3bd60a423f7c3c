import Derived.Test.YtbgckcdddlmiaaaGreatDoorA5
import Derived.Test.YtbgckcdddlmiaaaGreatDoorRows
set_option linter.all false
open Go.Proofs.Tryz
namespace Go.Proofs.YtbgckcdddlmiaaaGreatDoor
open Go.Ab
variable [Glob prog]
theorem bJt (a0 b0:Int) (a1 b1:Int) (a2 b2:Bool) (a3 b3:Int):bQ prog .eql 7 (.agg [.sc (.int .i64 a0),.sc (.int .i64 a1),.sc (.bool a2),.sc (.int .u8 a3)]) (.agg [.sc (.int .i64 b0),.sc (.int .i64 b1),.sc (.bool b2),.sc (.int .u8 b3)])=some ⟨true,bl (decide (a0=b0/\a1=b1/\a2=b2/\a3=b3))⟩:=(by kernel_rfl:bQ prog .eql 7 (.agg [.sc (.int .i64 a0),.sc (.int .i64 a1),.sc (.bool a2),.sc (.int .u8 a3)]) (.agg [.sc (.int .i64 b0),.sc (.int .i64 b1),.sc (.bool b2),.sc (.int .u8 b3)])=some ⟨true,bl (((a0==b0)&&((a1==b1)&&((a2==b2)&&((a3==b3)&&(true))))))⟩).trans (by congr 3;rw[Bool.eq_iff_iff];simp only[eE,beq_iff_eq,Bool.and_eq_true,decide_eq_true_eq,and_true,and_assoc])
theorem bJu (a0 b0:Int) (a1 b1:Int) (a2 b2:Bool) (a3 b3:Int):bQ prog .neq 7 (.agg [.sc (.int .i64 a0),.sc (.int .i64 a1),.sc (.bool a2),.sc (.int .u8 a3)]) (.agg [.sc (.int .i64 b0),.sc (.int .i64 b1),.sc (.bool b2),.sc (.int .u8 b3)])=some ⟨true,bl (!decide (a0=b0/\a1=b1/\a2=b2/\a3=b3))⟩:=(by kernel_rfl:bQ prog .neq 7 (.agg [.sc (.int .i64 a0),.sc (.int .i64 a1),.sc (.bool a2),.sc (.int .u8 a3)]) (.agg [.sc (.int .i64 b0),.sc (.int .i64 b1),.sc (.bool b2),.sc (.int .u8 b3)])=some ⟨true,bl (!((a0==b0)&&((a1==b1)&&((a2==b2)&&((a3==b3)&&(true))))))⟩).trans (by congr 4;rw[Bool.eq_iff_iff];simp only[eE,beq_iff_eq,Bool.and_eq_true,decide_eq_true_eq,and_true,and_assoc])
theorem bJv (a0 b0:Int) (a1 b1:Int) (a2 b2:Bool) (a3 b3:Int):bQ prog .eql 8 (.agg [.sc (.int .i64 a0),.sc (.int .i64 a1),.sc (.bool a2),.sc (.int .u8 a3)]) (.agg [.sc (.int .i64 b0),.sc (.int .i64 b1),.sc (.bool b2),.sc (.int .u8 b3)])=some ⟨true,bl (decide (a0=b0/\a1=b1/\a2=b2/\a3=b3))⟩:=(by kernel_rfl:bQ prog .eql 8 (.agg [.sc (.int .i64 a0),.sc (.int .i64 a1),.sc (.bool a2),.sc (.int .u8 a3)]) (.agg [.sc (.int .i64 b0),.sc (.int .i64 b1),.sc (.bool b2),.sc (.int .u8 b3)])=some ⟨true,bl (((a0==b0)&&((a1==b1)&&((a2==b2)&&((a3==b3)&&(true))))))⟩).trans (by congr 3;rw[Bool.eq_iff_iff];simp only[eE,beq_iff_eq,Bool.and_eq_true,decide_eq_true_eq,and_true,and_assoc])
theorem bJw (a0 b0:Int) (a1 b1:Int) (a2 b2:Bool) (a3 b3:Int):bQ prog .neq 8 (.agg [.sc (.int .i64 a0),.sc (.int .i64 a1),.sc (.bool a2),.sc (.int .u8 a3)]) (.agg [.sc (.int .i64 b0),.sc (.int .i64 b1),.sc (.bool b2),.sc (.int .u8 b3)])=some ⟨true,bl (!decide (a0=b0/\a1=b1/\a2=b2/\a3=b3))⟩:=(by kernel_rfl:bQ prog .neq 8 (.agg [.sc (.int .i64 a0),.sc (.int .i64 a1),.sc (.bool a2),.sc (.int .u8 a3)]) (.agg [.sc (.int .i64 b0),.sc (.int .i64 b1),.sc (.bool b2),.sc (.int .u8 b3)])=some ⟨true,bl (!((a0==b0)&&((a1==b1)&&((a2==b2)&&((a3==b3)&&(true))))))⟩).trans (by congr 4;rw[Bool.eq_iff_iff];simp only[eE,beq_iff_eq,Bool.and_eq_true,decide_eq_true_eq,and_true,and_assoc])
theorem bJx (a0 b0:Int) (a1 b1:Int) (a2 b2:Int):bQ prog .eql 32 (.agg [.sc (.int .i64 a0),.sc (.int .i64 a1),.sc (.int .i64 a2)]) (.agg [.sc (.int .i64 b0),.sc (.int .i64 b1),.sc (.int .i64 b2)])=some ⟨true,bl (decide (a0=b0/\a1=b1/\a2=b2))⟩:=(by kernel_rfl:bQ prog .eql 32 (.agg [.sc (.int .i64 a0),.sc (.int .i64 a1),.sc (.int .i64 a2)]) (.agg [.sc (.int .i64 b0),.sc (.int .i64 b1),.sc (.int .i64 b2)])=some ⟨true,bl (((a0==b0)&&((a1==b1)&&((a2==b2)&&(true)))))⟩).trans (by congr 3;rw[Bool.eq_iff_iff];simp only[eE,beq_iff_eq,Bool.and_eq_true,decide_eq_true_eq,and_true,and_assoc])
theorem bJy (a0 b0:Int) (a1 b1:Int) (a2 b2:Int):bQ prog .neq 32 (.agg [.sc (.int .i64 a0),.sc (.int .i64 a1),.sc (.int .i64 a2)]) (.agg [.sc (.int .i64 b0),.sc (.int .i64 b1),.sc (.int .i64 b2)])=some ⟨true,bl (!decide (a0=b0/\a1=b1/\a2=b2))⟩:=(by kernel_rfl:bQ prog .neq 32 (.agg [.sc (.int .i64 a0),.sc (.int .i64 a1),.sc (.int .i64 a2)]) (.agg [.sc (.int .i64 b0),.sc (.int .i64 b1),.sc (.int .i64 b2)])=some ⟨true,bl (!((a0==b0)&&((a1==b1)&&((a2==b2)&&(true)))))⟩).trans (by congr 4;rw[Bool.eq_iff_iff];simp only[eE,beq_iff_eq,Bool.and_eq_true,decide_eq_true_eq,and_true,and_assoc])
theorem bJz (a0 b0:Int) (a1 b1:Int) (a2 b2:Int):bQ prog .eql 33 (.agg [.sc (.int .i64 a0),.sc (.int .i64 a1),.sc (.int .i64 a2)]) (.agg [.sc (.int .i64 b0),.sc (.int .i64 b1),.sc (.int .i64 b2)])=some ⟨true,bl (decide (a0=b0/\a1=b1/\a2=b2))⟩:=(by kernel_rfl:bQ prog .eql 33 (.agg [.sc (.int .i64 a0),.sc (.int .i64 a1),.sc (.int .i64 a2)]) (.agg [.sc (.int .i64 b0),.sc (.int .i64 b1),.sc (.int .i64 b2)])=some ⟨true,bl (((a0==b0)&&((a1==b1)&&((a2==b2)&&(true)))))⟩).trans (by congr 3;rw[Bool.eq_iff_iff];simp only[eE,beq_iff_eq,Bool.and_eq_true,decide_eq_true_eq,and_true,and_assoc])
theorem bJ0 (a0 b0:Int) (a1 b1:Int) (a2 b2:Int):bQ prog .neq 33 (.agg [.sc (.int .i64 a0),.sc (.int .i64 a1),.sc (.int .i64 a2)]) (.agg [.sc (.int .i64 b0),.sc (.int .i64 b1),.sc (.int .i64 b2)])=some ⟨true,bl (!decide (a0=b0/\a1=b1/\a2=b2))⟩:=(by kernel_rfl:bQ prog .neq 33 (.agg [.sc (.int .i64 a0),.sc (.int .i64 a1),.sc (.int .i64 a2)]) (.agg [.sc (.int .i64 b0),.sc (.int .i64 b1),.sc (.int .i64 b2)])=some ⟨true,bl (!((a0==b0)&&((a1==b1)&&((a2==b2)&&(true)))))⟩).trans (by congr 4;rw[Bool.eq_iff_iff];simp only[eE,beq_iff_eq,Bool.and_eq_true,decide_eq_true_eq,and_true,and_assoc])
theorem bJ1 (a0 b0:Int):bQ prog .eql 80 (.agg [.sc (.int .i64 a0)]) (.agg [.sc (.int .i64 b0)])=some ⟨true,bl (decide (a0=b0))⟩:=(by kernel_rfl:bQ prog .eql 80 (.agg [.sc (.int .i64 a0)]) (.agg [.sc (.int .i64 b0)])=some ⟨true,bl (((a0==b0)&&(true)))⟩).trans (by congr 3;rw[Bool.eq_iff_iff];simp only[eE,beq_iff_eq,Bool.and_eq_true,decide_eq_true_eq,and_true,and_assoc])
theorem bJ2 (a0 b0:Int):bQ prog .neq 80 (.agg [.sc (.int .i64 a0)]) (.agg [.sc (.int .i64 b0)])=some ⟨true,bl (!decide (a0=b0))⟩:=(by kernel_rfl:bQ prog .neq 80 (.agg [.sc (.int .i64 a0)]) (.agg [.sc (.int .i64 b0)])=some ⟨true,bl (!((a0==b0)&&(true)))⟩).trans (by congr 4;rw[Bool.eq_iff_iff];simp only[eE,beq_iff_eq,Bool.and_eq_true,decide_eq_true_eq,and_true,and_assoc])
theorem bJ3 (a0 b0:Int):bQ prog .eql 81 (.agg [.sc (.int .i64 a0)]) (.agg [.sc (.int .i64 b0)])=some ⟨true,bl (decide (a0=b0))⟩:=(by kernel_rfl:bQ prog .eql 81 (.agg [.sc (.int .i64 a0)]) (.agg [.sc (.int .i64 b0)])=some ⟨true,bl (((a0==b0)&&(true)))⟩).trans (by congr 3;rw[Bool.eq_iff_iff];simp only[eE,beq_iff_eq,Bool.and_eq_true,decide_eq_true_eq,and_true,and_assoc])
theorem bJ4 (a0 b0:Int):bQ prog .neq 81 (.agg [.sc (.int .i64 a0)]) (.agg [.sc (.int .i64 b0)])=some ⟨true,bl (!decide (a0=b0))⟩:=(by kernel_rfl:bQ prog .neq 81 (.agg [.sc (.int .i64 a0)]) (.agg [.sc (.int .i64 b0)])=some ⟨true,bl (!((a0==b0)&&(true)))⟩).trans (by congr 4;rw[Bool.eq_iff_iff];simp only[eE,beq_iff_eq,Bool.and_eq_true,decide_eq_true_eq,and_true,and_assoc])
theorem bJ5 {s:ByteArray}:gF prog 82 (.string s)=true:=by kernel_rfl
theorem bJ6 (a0 b0:ByteArray) (a1 b1:Int):bQ prog .eql 93 (.agg [.sc (.string a0),.sc (.int .i64 a1)]) (.agg [.sc (.string b0),.sc (.int .i64 b1)])=some ⟨true,bl (decide (a0=b0/\a1=b1))⟩:=(by kernel_rfl:bQ prog .eql 93 (.agg [.sc (.string a0),.sc (.int .i64 a1)]) (.agg [.sc (.string b0),.sc (.int .i64 b1)])=some ⟨true,bl (((a0==b0)&&((a1==b1)&&(true))))⟩).trans (by congr 3;rw[Bool.eq_iff_iff];simp only[eE,beq_iff_eq,Bool.and_eq_true,decide_eq_true_eq,and_true,and_assoc])
theorem bJ7 (a0 b0:ByteArray) (a1 b1:Int):bQ prog .neq 93 (.agg [.sc (.string a0),.sc (.int .i64 a1)]) (.agg [.sc (.string b0),.sc (.int .i64 b1)])=some ⟨true,bl (!decide (a0=b0/\a1=b1))⟩:=(by kernel_rfl:bQ prog .neq 93 (.agg [.sc (.string a0),.sc (.int .i64 a1)]) (.agg [.sc (.string b0),.sc (.int .i64 b1)])=some ⟨true,bl (!((a0==b0)&&((a1==b1)&&(true))))⟩).trans (by congr 4;rw[Bool.eq_iff_iff];simp only[eE,beq_iff_eq,Bool.and_eq_true,decide_eq_true_eq,and_true,and_assoc])
theorem bJ8 (a0 b0:ByteArray) (a1 b1:Int):bQ prog .eql 94 (.agg [.sc (.string a0),.sc (.int .i64 a1)]) (.agg [.sc (.string b0),.sc (.int .i64 b1)])=some ⟨true,bl (decide (a0=b0/\a1=b1))⟩:=(by kernel_rfl:bQ prog .eql 94 (.agg [.sc (.string a0),.sc (.int .i64 a1)]) (.agg [.sc (.string b0),.sc (.int .i64 b1)])=some ⟨true,bl (((a0==b0)&&((a1==b1)&&(true))))⟩).trans (by congr 3;rw[Bool.eq_iff_iff];simp only[eE,beq_iff_eq,Bool.and_eq_true,decide_eq_true_eq,and_true,and_assoc])
theorem bJ9 (a0 b0:ByteArray) (a1 b1:Int):bQ prog .neq 94 (.agg [.sc (.string a0),.sc (.int .i64 a1)]) (.agg [.sc (.string b0),.sc (.int .i64 b1)])=some ⟨true,bl (!decide (a0=b0/\a1=b1))⟩:=(by kernel_rfl:bQ prog .neq 94 (.agg [.sc (.string a0),.sc (.int .i64 a1)]) (.agg [.sc (.string b0),.sc (.int .i64 b1)])=some ⟨true,bl (!((a0==b0)&&((a1==b1)&&(true))))⟩).trans (by congr 4;rw[Bool.eq_iff_iff];simp only[eE,beq_iff_eq,Bool.and_eq_true,decide_eq_true_eq,and_true,and_assoc])
theorem bKa {s:ByteArray}:gF prog 120 (.string s)=true:=by kernel_rfl
theorem bKb (a0 b0:ByteArray) (a1 b1:ByteArray) (a2 b2:Bool):bQ prog .eql 129 (.agg [.sc (.string a0),.sc (.string a1),.sc (.bool a2)]) (.agg [.sc (.string b0),.sc (.string b1),.sc (.bool b2)])=some ⟨true,bl (decide (a0=b0/\a1=b1/\a2=b2))⟩:=(by kernel_rfl:bQ prog .eql 129 (.agg [.sc (.string a0),.sc (.string a1),.sc (.bool a2)]) (.agg [.sc (.string b0),.sc (.string b1),.sc (.bool b2)])=some ⟨true,bl (((a0==b0)&&((a1==b1)&&((a2==b2)&&(true)))))⟩).trans (by congr 3;rw[Bool.eq_iff_iff];simp only[eE,beq_iff_eq,Bool.and_eq_true,decide_eq_true_eq,and_true,and_assoc])
theorem bKc (a0 b0:ByteArray) (a1 b1:ByteArray) (a2 b2:Bool):bQ prog .neq 129 (.agg [.sc (.string a0),.sc (.string a1),.sc (.bool a2)]) (.agg [.sc (.string b0),.sc (.string b1),.sc (.bool b2)])=some ⟨true,bl (!decide (a0=b0/\a1=b1/\a2=b2))⟩:=(by kernel_rfl:bQ prog .neq 129 (.agg [.sc (.string a0),.sc (.string a1),.sc (.bool a2)]) (.agg [.sc (.string b0),.sc (.string b1),.sc (.bool b2)])=some ⟨true,bl (!((a0==b0)&&((a1==b1)&&((a2==b2)&&(true)))))⟩).trans (by congr 4;rw[Bool.eq_iff_iff];simp only[eE,beq_iff_eq,Bool.and_eq_true,decide_eq_true_eq,and_true,and_assoc])
theorem aB2:aJ prog 130=some (true,3):=by kernel_rfl
theorem bKd (a0 b0:ByteArray) (a1 b1:ByteArray) (a2 b2:Bool):bQ prog .eql 130 (.agg [.sc (.string a0),.sc (.string a1),.sc (.bool a2)]) (.agg [.sc (.string b0),.sc (.string b1),.sc (.bool b2)])=some ⟨true,bl (decide (a0=b0/\a1=b1/\a2=b2))⟩:=(by kernel_rfl:bQ prog .eql 130 (.agg [.sc (.string a0),.sc (.string a1),.sc (.bool a2)]) (.agg [.sc (.string b0),.sc (.string b1),.sc (.bool b2)])=some ⟨true,bl (((a0==b0)&&((a1==b1)&&((a2==b2)&&(true)))))⟩).trans (by congr 3;rw[Bool.eq_iff_iff];simp only[eE,beq_iff_eq,Bool.and_eq_true,decide_eq_true_eq,and_true,and_assoc])
theorem bKe (a0 b0:ByteArray) (a1 b1:ByteArray) (a2 b2:Bool):bQ prog .neq 130 (.agg [.sc (.string a0),.sc (.string a1),.sc (.bool a2)]) (.agg [.sc (.string b0),.sc (.string b1),.sc (.bool b2)])=some ⟨true,bl (!decide (a0=b0/\a1=b1/\a2=b2))⟩:=(by kernel_rfl:bQ prog .neq 130 (.agg [.sc (.string a0),.sc (.string a1),.sc (.bool a2)]) (.agg [.sc (.string b0),.sc (.string b1),.sc (.bool b2)])=some ⟨true,bl (!((a0==b0)&&((a1==b1)&&((a2==b2)&&(true)))))⟩).trans (by congr 4;rw[Bool.eq_iff_iff];simp only[eE,beq_iff_eq,Bool.and_eq_true,decide_eq_true_eq,and_true,and_assoc])
theorem bKf (a0 b0:ByteArray) (a1 b1:Int):bQ prog .eql 132 (.agg [.sc (.string a0),.sc (.int .i64 a1)]) (.agg [.sc (.string b0),.sc (.int .i64 b1)])=some ⟨true,bl (decide (a0=b0/\a1=b1))⟩:=(by kernel_rfl:bQ prog .eql 132 (.agg [.sc (.string a0),.sc (.int .i64 a1)]) (.agg [.sc (.string b0),.sc (.int .i64 b1)])=some ⟨true,bl (((a0==b0)&&((a1==b1)&&(true))))⟩).trans (by congr 3;rw[Bool.eq_iff_iff];simp only[eE,beq_iff_eq,Bool.and_eq_true,decide_eq_true_eq,and_true,and_assoc])
theorem bKg (a0 b0:ByteArray) (a1 b1:Int):bQ prog .neq 132 (.agg [.sc (.string a0),.sc (.int .i64 a1)]) (.agg [.sc (.string b0),.sc (.int .i64 b1)])=some ⟨true,bl (!decide (a0=b0/\a1=b1))⟩:=(by kernel_rfl:bQ prog .neq 132 (.agg [.sc (.string a0),.sc (.int .i64 a1)]) (.agg [.sc (.string b0),.sc (.int .i64 b1)])=some ⟨true,bl (!((a0==b0)&&((a1==b1)&&(true))))⟩).trans (by congr 4;rw[Bool.eq_iff_iff];simp only[eE,beq_iff_eq,Bool.and_eq_true,decide_eq_true_eq,and_true,and_assoc])
theorem bKh (a0 b0:ByteArray) (a1 b1:Int):bQ prog .eql 133 (.agg [.sc (.string a0),.sc (.int .i64 a1)]) (.agg [.sc (.string b0),.sc (.int .i64 b1)])=some ⟨true,bl (decide (a0=b0/\a1=b1))⟩:=(by kernel_rfl:bQ prog .eql 133 (.agg [.sc (.string a0),.sc (.int .i64 a1)]) (.agg [.sc (.string b0),.sc (.int .i64 b1)])=some ⟨true,bl (((a0==b0)&&((a1==b1)&&(true))))⟩).trans (by congr 3;rw[Bool.eq_iff_iff];simp only[eE,beq_iff_eq,Bool.and_eq_true,decide_eq_true_eq,and_true,and_assoc])
theorem bKi (a0 b0:ByteArray) (a1 b1:Int):bQ prog .neq 133 (.agg [.sc (.string a0),.sc (.int .i64 a1)]) (.agg [.sc (.string b0),.sc (.int .i64 b1)])=some ⟨true,bl (!decide (a0=b0/\a1=b1))⟩:=(by kernel_rfl:bQ prog .neq 133 (.agg [.sc (.string a0),.sc (.int .i64 a1)]) (.agg [.sc (.string b0),.sc (.int .i64 b1)])=some ⟨true,bl (!((a0==b0)&&((a1==b1)&&(true))))⟩).trans (by congr 4;rw[Bool.eq_iff_iff];simp only[eE,beq_iff_eq,Bool.and_eq_true,decide_eq_true_eq,and_true,and_assoc])
theorem bKj (a0 b0:Int) (a1 b1:Int) (a2 b2:Int) (a3 b3:ByteArray):bQ prog .eql 153 (.agg [.sc (.int .i64 a0),.sc (.int .i64 a1),.sc (.int .i64 a2),.sc (.string a3)]) (.agg [.sc (.int .i64 b0),.sc (.int .i64 b1),.sc (.int .i64 b2),.sc (.string b3)])=some ⟨true,bl (decide (a0=b0/\a1=b1/\a2=b2/\a3=b3))⟩:=(by kernel_rfl:bQ prog .eql 153 (.agg [.sc (.int .i64 a0),.sc (.int .i64 a1),.sc (.int .i64 a2),.sc (.string a3)]) (.agg [.sc (.int .i64 b0),.sc (.int .i64 b1),.sc (.int .i64 b2),.sc (.string b3)])=some ⟨true,bl (((a0==b0)&&((a1==b1)&&((a2==b2)&&((a3==b3)&&(true))))))⟩).trans (by congr 3;rw[Bool.eq_iff_iff];simp only[eE,beq_iff_eq,Bool.and_eq_true,decide_eq_true_eq,and_true,and_assoc])
theorem bKk (a0 b0:Int) (a1 b1:Int) (a2 b2:Int) (a3 b3:ByteArray):bQ prog .neq 153 (.agg [.sc (.int .i64 a0),.sc (.int .i64 a1),.sc (.int .i64 a2),.sc (.string a3)]) (.agg [.sc (.int .i64 b0),.sc (.int .i64 b1),.sc (.int .i64 b2),.sc (.string b3)])=some ⟨true,bl (!decide (a0=b0/\a1=b1/\a2=b2/\a3=b3))⟩:=(by kernel_rfl:bQ prog .neq 153 (.agg [.sc (.int .i64 a0),.sc (.int .i64 a1),.sc (.int .i64 a2),.sc (.string a3)]) (.agg [.sc (.int .i64 b0),.sc (.int .i64 b1),.sc (.int .i64 b2),.sc (.string b3)])=some ⟨true,bl (!((a0==b0)&&((a1==b1)&&((a2==b2)&&((a3==b3)&&(true))))))⟩).trans (by congr 4;rw[Bool.eq_iff_iff];simp only[eE,beq_iff_eq,Bool.and_eq_true,decide_eq_true_eq,and_true,and_assoc])
theorem bKl (a0 b0:Int) (a1 b1:Int) (a2 b2:Int) (a3 b3:ByteArray):bQ prog .eql 154 (.agg [.sc (.int .i64 a0),.sc (.int .i64 a1),.sc (.int .i64 a2),.sc (.string a3)]) (.agg [.sc (.int .i64 b0),.sc (.int .i64 b1),.sc (.int .i64 b2),.sc (.string b3)])=some ⟨true,bl (decide (a0=b0/\a1=b1/\a2=b2/\a3=b3))⟩:=(by kernel_rfl:bQ prog .eql 154 (.agg [.sc (.int .i64 a0),.sc (.int .i64 a1),.sc (.int .i64 a2),.sc (.string a3)]) (.agg [.sc (.int .i64 b0),.sc (.int .i64 b1),.sc (.int .i64 b2),.sc (.string b3)])=some ⟨true,bl (((a0==b0)&&((a1==b1)&&((a2==b2)&&((a3==b3)&&(true))))))⟩).trans (by congr 3;rw[Bool.eq_iff_iff];simp only[eE,beq_iff_eq,Bool.and_eq_true,decide_eq_true_eq,and_true,and_assoc])
theorem bKm (a0 b0:Int) (a1 b1:Int) (a2 b2:Int) (a3 b3:ByteArray):bQ prog .neq 154 (.agg [.sc (.int .i64 a0),.sc (.int .i64 a1),.sc (.int .i64 a2),.sc (.string a3)]) (.agg [.sc (.int .i64 b0),.sc (.int .i64 b1),.sc (.int .i64 b2),.sc (.string b3)])=some ⟨true,bl (!decide (a0=b0/\a1=b1/\a2=b2/\a3=b3))⟩:=(by kernel_rfl:bQ prog .neq 154 (.agg [.sc (.int .i64 a0),.sc (.int .i64 a1),.sc (.int .i64 a2),.sc (.string a3)]) (.agg [.sc (.int .i64 b0),.sc (.int .i64 b1),.sc (.int .i64 b2),.sc (.string b3)])=some ⟨true,bl (!((a0==b0)&&((a1==b1)&&((a2==b2)&&((a3==b3)&&(true))))))⟩).trans (by congr 4;rw[Bool.eq_iff_iff];simp only[eE,beq_iff_eq,Bool.and_eq_true,decide_eq_true_eq,and_true,and_assoc])
theorem bKn (a0 b0:ByteArray) (a1 b1:Int) (a2 b2:Bool) (a3 b3:Bool):bQ prog .eql 160 (.agg [.sc (.string a0),.sc (.int .i64 a1),.sc (.bool a2),.sc (.bool a3)]) (.agg [.sc (.string b0),.sc (.int .i64 b1),.sc (.bool b2),.sc (.bool b3)])=some ⟨true,bl (decide (a0=b0/\a1=b1/\a2=b2/\a3=b3))⟩:=(by kernel_rfl:bQ prog .eql 160 (.agg [.sc (.string a0),.sc (.int .i64 a1),.sc (.bool a2),.sc (.bool a3)]) (.agg [.sc (.string b0),.sc (.int .i64 b1),.sc (.bool b2),.sc (.bool b3)])=some ⟨true,bl (((a0==b0)&&((a1==b1)&&((a2==b2)&&((a3==b3)&&(true))))))⟩).trans (by congr 3;rw[Bool.eq_iff_iff];simp only[eE,beq_iff_eq,Bool.and_eq_true,decide_eq_true_eq,and_true,and_assoc])
theorem bKo (a0 b0:ByteArray) (a1 b1:Int) (a2 b2:Bool) (a3 b3:Bool):bQ prog .neq 160 (.agg [.sc (.string a0),.sc (.int .i64 a1),.sc (.bool a2),.sc (.bool a3)]) (.agg [.sc (.string b0),.sc (.int .i64 b1),.sc (.bool b2),.sc (.bool b3)])=some ⟨true,bl (!decide (a0=b0/\a1=b1/\a2=b2/\a3=b3))⟩:=(by kernel_rfl:bQ prog .neq 160 (.agg [.sc (.string a0),.sc (.int .i64 a1),.sc (.bool a2),.sc (.bool a3)]) (.agg [.sc (.string b0),.sc (.int .i64 b1),.sc (.bool b2),.sc (.bool b3)])=some ⟨true,bl (!((a0==b0)&&((a1==b1)&&((a2==b2)&&((a3==b3)&&(true))))))⟩).trans (by congr 4;rw[Bool.eq_iff_iff];simp only[eE,beq_iff_eq,Bool.and_eq_true,decide_eq_true_eq,and_true,and_assoc])
theorem bKp (a0 b0:ByteArray) (a1 b1:Int) (a2 b2:Bool) (a3 b3:Bool):bQ prog .eql 161 (.agg [.sc (.string a0),.sc (.int .i64 a1),.sc (.bool a2),.sc (.bool a3)]) (.agg [.sc (.string b0),.sc (.int .i64 b1),.sc (.bool b2),.sc (.bool b3)])=some ⟨true,bl (decide (a0=b0/\a1=b1/\a2=b2/\a3=b3))⟩:=(by kernel_rfl:bQ prog .eql 161 (.agg [.sc (.string a0),.sc (.int .i64 a1),.sc (.bool a2),.sc (.bool a3)]) (.agg [.sc (.string b0),.sc (.int .i64 b1),.sc (.bool b2),.sc (.bool b3)])=some ⟨true,bl (((a0==b0)&&((a1==b1)&&((a2==b2)&&((a3==b3)&&(true))))))⟩).trans (by congr 3;rw[Bool.eq_iff_iff];simp only[eE,beq_iff_eq,Bool.and_eq_true,decide_eq_true_eq,and_true,and_assoc])
theorem bKq (a0 b0:ByteArray) (a1 b1:Int) (a2 b2:Bool) (a3 b3:Bool):bQ prog .neq 161 (.agg [.sc (.string a0),.sc (.int .i64 a1),.sc (.bool a2),.sc (.bool a3)]) (.agg [.sc (.string b0),.sc (.int .i64 b1),.sc (.bool b2),.sc (.bool b3)])=some ⟨true,bl (!decide (a0=b0/\a1=b1/\a2=b2/\a3=b3))⟩:=(by kernel_rfl:bQ prog .neq 161 (.agg [.sc (.string a0),.sc (.int .i64 a1),.sc (.bool a2),.sc (.bool a3)]) (.agg [.sc (.string b0),.sc (.int .i64 b1),.sc (.bool b2),.sc (.bool b3)])=some ⟨true,bl (!((a0==b0)&&((a1==b1)&&((a2==b2)&&((a3==b3)&&(true))))))⟩).trans (by congr 4;rw[Bool.eq_iff_iff];simp only[eE,beq_iff_eq,Bool.and_eq_true,decide_eq_true_eq,and_true,and_assoc])
theorem bKr (a0 b0:Int) (a1 b1:Int):bQ prog .eql 166 (.agg [.sc (.int .u8 a0),.sc (.int .u8 a1)]) (.agg [.sc (.int .u8 b0),.sc (.int .u8 b1)])=some ⟨true,bl (decide (a0=b0/\a1=b1))⟩:=(by kernel_rfl:bQ prog .eql 166 (.agg [.sc (.int .u8 a0),.sc (.int .u8 a1)]) (.agg [.sc (.int .u8 b0),.sc (.int .u8 b1)])=some ⟨true,bl (((a0==b0)&&((a1==b1)&&(true))))⟩).trans (by congr 3;rw[Bool.eq_iff_iff];simp only[eE,beq_iff_eq,Bool.and_eq_true,decide_eq_true_eq,and_true,and_assoc])
theorem bKs (a0 b0:Int) (a1 b1:Int):bQ prog .neq 166 (.agg [.sc (.int .u8 a0),.sc (.int .u8 a1)]) (.agg [.sc (.int .u8 b0),.sc (.int .u8 b1)])=some ⟨true,bl (!decide (a0=b0/\a1=b1))⟩:=(by kernel_rfl:bQ prog .neq 166 (.agg [.sc (.int .u8 a0),.sc (.int .u8 a1)]) (.agg [.sc (.int .u8 b0),.sc (.int .u8 b1)])=some ⟨true,bl (!((a0==b0)&&((a1==b1)&&(true))))⟩).trans (by congr 4;rw[Bool.eq_iff_iff];simp only[eE,beq_iff_eq,Bool.and_eq_true,decide_eq_true_eq,and_true,and_assoc])
theorem bKt (a0 b0:Int) (a1 b1:Int):bQ prog .eql 167 (.agg [.sc (.int .u8 a0),.sc (.int .u8 a1)]) (.agg [.sc (.int .u8 b0),.sc (.int .u8 b1)])=some ⟨true,bl (decide (a0=b0/\a1=b1))⟩:=(by kernel_rfl:bQ prog .eql 167 (.agg [.sc (.int .u8 a0),.sc (.int .u8 a1)]) (.agg [.sc (.int .u8 b0),.sc (.int .u8 b1)])=some ⟨true,bl (((a0==b0)&&((a1==b1)&&(true))))⟩).trans (by congr 3;rw[Bool.eq_iff_iff];simp only[eE,beq_iff_eq,Bool.and_eq_true,decide_eq_true_eq,and_true,and_assoc])
theorem bKu (a0 b0:Int) (a1 b1:Int):bQ prog .neq 167 (.agg [.sc (.int .u8 a0),.sc (.int .u8 a1)]) (.agg [.sc (.int .u8 b0),.sc (.int .u8 b1)])=some ⟨true,bl (!decide (a0=b0/\a1=b1))⟩:=(by kernel_rfl:bQ prog .neq 167 (.agg [.sc (.int .u8 a0),.sc (.int .u8 a1)]) (.agg [.sc (.int .u8 b0),.sc (.int .u8 b1)])=some ⟨true,bl (!((a0==b0)&&((a1==b1)&&(true))))⟩).trans (by congr 4;rw[Bool.eq_iff_iff];simp only[eE,beq_iff_eq,Bool.and_eq_true,decide_eq_true_eq,and_true,and_assoc])
theorem bKv {a0:ByteArray} {a1:ByteArray} {a2:Bool}:gF prog 169 (.agg #[.string a0,.string a1,.bool a2])=true:=by kernel_rfl
theorem bKw {s:ByteArray}:gF prog 178 (.string s)=true:=by kernel_rfl
theorem bKx:aJ prog 0=some (false,1)/\(prog.underlying 0).isSome=true/\aK prog 0=0/\aJ prog 1=some (false,1)/\aP prog 1=3/\(prog.underlying 1).isSome=true/\aL prog 1=some (.sc .nilFunc)/\aK prog 1=0/\aJ prog 2=some (false,1)/\mA prog 2=some .i64/\(prog.underlying 2).isSome=true/\aL prog 2=some (nt .i64 0)/\aK prog 2=0/\aJ prog 3=some (false,1)/\mA prog 3=some .i64/\(prog.underlying 3).isSome=true/\aL prog 3=some (nt .i64 0)/\aK prog 3=0/\kB prog 3=some 1/\dZ prog 3=0/\dQ prog 3=some (.int .i64 0)/\aJ prog 4=some (false,1)/\wY prog 4=true/\(prog.underlying 4).isSome=true/\aL prog 4=some (bl false)/\aK prog 4=0/\aJ prog 5=some (false,1)/\mA prog 5=some .u8/\(prog.underlying 5).isSome=true/\aL prog 5=some (nt .u8 0)/\aK prog 5=0/\kB prog 5=some 1/\dZ prog 5=7/\dQ prog 5=some (.int .u8 0)/\aJ prog 6=some (false,1)/\mA prog 6=some .u8/\(prog.underlying 6).isSome=true/\aL prog 6=some (nt .u8 0)/\aK prog 6=0/\aJ prog 7=some (true,4)/\bO prog 7 0=some (0,2,1)/\bO prog 7 1=some (1,3,1)/\bO prog 7 2=some (2,4,1)/\bO prog 7 3=some (3,6,1)/\(prog.underlying 7).isSome=true/\aL prog 7=some (.agg [nt .i64 0,nt .i64 0,bl false,nt .u8 0])/\aK prog 7=0/\dY prog 7=some ([nt .i64 0,nt .i64 0,bl false,nt .u8 0],[(0,1),(1,1),(2,1),(3,1)])/\aJ prog 8=some (true,4)/\bO prog 8 0=some (0,2,1)/\bO prog 8 1=some (1,3,1)/\bO prog 8 2=some (2,4,1)/\bO prog 8 3=some (3,6,1)/\(prog.underlying 8).isSome=true/\aL prog 8=some (.agg [nt .i64 0,nt .i64 0,bl false,nt .u8 0])/\aK prog 8=0/\dY prog 8=some ([nt .i64 0,nt .i64 0,bl false,nt .u8 0],[(0,1),(1,1),(2,1),(3,1)])/\aJ prog 9=some (false,1)/\mB prog 9=true/\(prog.underlying 9).isSome=true:=by and_intros<;>kernel_rfl
theorem bKy:aL prog 9=some (.sc (.string (ByteArray.mk #[])))/\aK prog 9=0/\fU prog 9=true/\kB prog 9=some 1/\dZ prog 9=0/\dQ prog 9=some (.string (ByteArray.mk #[]))/\aJ prog 10=some (false,1)/\mB prog 10=true/\(prog.underlying 10).isSome=true/\aL prog 10=some (.sc (.string (ByteArray.mk #[])))/\aK prog 10=0/\fU prog 10=true/\aJ prog 11=some (false,1)/\mB prog 11=true/\(prog.underlying 11).isSome=true/\aL prog 11=some (.sc (.string (ByteArray.mk #[])))/\aK prog 11=0/\fU prog 11=true/\aJ prog 12=some (false,1)/\mA prog 12=some .u64/\(prog.underlying 12).isSome=true/\aL prog 12=some (nt .u64 0)/\aK prog 12=0/\aJ prog 13=some (true,2)/\bO prog 13 0=some (0,9,1)/\bO prog 13 1=some (1,12,1)/\(prog.underlying 13).isSome=true/\aL prog 13=some (.agg [.sc (.string (ByteArray.mk #[])),nt .u64 0])/\aK prog 13=0/\dY prog 13=some ([.sc (.string (ByteArray.mk #[])),nt .u64 0],[(0,1),(1,1)])/\aJ prog 14=some (true,2)/\bO prog 14 0=some (0,9,1)/\bO prog 14 1=some (1,12,1)/\(prog.underlying 14).isSome=true/\aL prog 14=some (.agg [.sc (.string (ByteArray.mk #[])),nt .u64 0])/\aK prog 14=0/\dY prog 14=some ([.sc (.string (ByteArray.mk #[])),nt .u64 0],[(0,1),(1,1)])/\aJ prog 15=some (false,1)/\aP prog 15=2/\(prog.underlying 15).isSome=true/\aL prog 15=some (.sc (.pointer none))/\aK prog 15=0/\aJ prog 16=some (false,1)/\aP prog 16=2/\(prog.underlying 16).isSome=true/\aL prog 16=some (.sc (.pointer none))/\aK prog 16=0/\aJ prog 17=some (false,1)/\aP prog 17=2/\(prog.underlying 17).isSome=true/\aL prog 17=some (.sc (.pointer none))/\aK prog 17=0/\aJ prog 18=some (true,1)/\bO prog 18 0=some (0,17,1)/\(prog.underlying 18).isSome=true/\aL prog 18=some (.agg [.sc (.pointer none)])/\aK prog 18=0/\dY prog 18=some ([.sc (.pointer none)],[(0,1)])/\aJ prog 19=some (true,1)/\bO prog 19 0=some (0,17,1):=by and_intros<;>kernel_rfl
theorem bKz:(prog.underlying 19).isSome=true/\aL prog 19=some (.agg [.sc (.pointer none)])/\aK prog 19=0/\dY prog 19=some ([.sc (.pointer none)],[(0,1)])/\aJ prog 20=some (false,1)/\(prog.underlying 20).isSome=true/\aL prog 20=some (.sc .nilIface)/\aK prog 20=0/\aJ prog 21=some (false,1)/\mA prog 21=some .i32/\(prog.underlying 21).isSome=true/\aL prog 21=some (nt .i32 0)/\aK prog 21=0/\aJ prog 22=some (false,1)/\cE prog 22=some (50,3,64)/\aP prog 22=1/\(prog.underlying 22).isSome=true/\aL prog 22=some (.list false true [])/\aK prog 22=0/\fU prog 22=true/\aJ prog 23=some (false,1)/\aP prog 23=3/\(prog.underlying 23).isSome=true/\aL prog 23=some (.sc .nilFunc)/\aK prog 23=0/\aJ prog 24=some (false,1)/\aP prog 24=3/\(prog.underlying 24).isSome=true/\aL prog 24=some (.sc .nilFunc)/\aK prog 24=0/\aJ prog 25=some (false,1)/\aP prog 25=3/\(prog.underlying 25).isSome=true/\aL prog 25=some (.sc .nilFunc)/\aK prog 25=0/\aJ prog 26=some (false,1)/\cE prog 26=some (33,3,24)/\aP prog 26=1/\(prog.underlying 26).isSome=true/\aL prog 26=some (.list false true [])/\aK prog 26=0/\fU prog 26=true/\aJ prog 27=some (false,1)/\aP prog 27=3/\(prog.underlying 27).isSome=true/\aL prog 27=some (.sc .nilFunc)/\aK prog 27=0/\aJ prog 28=some (false,1)/\aP prog 28=3/\(prog.underlying 28).isSome=true/\aL prog 28=some (.sc .nilFunc)/\aK prog 28=0/\aJ prog 29=some (false,1)/\cE prog 29=some (9,1,16)/\aP prog 29=1/\(prog.underlying 29).isSome=true/\aL prog 29=some (.list false true [])/\aK prog 29=0/\fU prog 29=true/\aJ prog 30=some (false,1):=by and_intros<;>kernel_rfl
theorem bK0:aP prog 30=3/\(prog.underlying 30).isSome=true/\aL prog 30=some (.sc .nilFunc)/\aK prog 30=0/\aJ prog 31=some (false,1)/\aP prog 31=3/\(prog.underlying 31).isSome=true/\aL prog 31=some (.sc .nilFunc)/\aK prog 31=0/\aJ prog 32=some (true,3)/\bO prog 32 0=some (0,3,1)/\bO prog 32 1=some (1,3,1)/\bO prog 32 2=some (2,3,1)/\(prog.underlying 32).isSome=true/\aL prog 32=some (.agg [nt .i64 0,nt .i64 0,nt .i64 0])/\aK prog 32=0/\dY prog 32=some ([nt .i64 0,nt .i64 0,nt .i64 0],[(0,1),(1,1),(2,1)])/\aJ prog 33=some (true,3)/\bO prog 33 0=some (0,3,1)/\bO prog 33 1=some (1,3,1)/\bO prog 33 2=some (2,3,1)/\(prog.underlying 33).isSome=true/\aL prog 33=some (.agg [nt .i64 0,nt .i64 0,nt .i64 0])/\aK prog 33=0/\kB prog 33=some 3/\dZ prog 33=0/\dQ prog 33=some (.agg #[.int .i64 0,.int .i64 0,.int .i64 0])/\dY prog 33=some ([nt .i64 0,nt .i64 0,nt .i64 0],[(0,1),(1,1),(2,1)])/\aJ prog 34=some (false,1)/\mA prog 34=some .i64/\(prog.underlying 34).isSome=true/\aL prog 34=some (nt .i64 0)/\aK prog 34=0/\aJ prog 35=some (false,1)/\(prog.underlying 35).isSome=true/\aK prog 35=0/\aJ prog 36=some (false,1)/\aP prog 36=3/\(prog.underlying 36).isSome=true/\aL prog 36=some (.sc .nilFunc)/\aK prog 36=0/\aJ prog 37=some (false,1)/\aP prog 37=3/\(prog.underlying 37).isSome=true/\aL prog 37=some (.sc .nilFunc)/\aK prog 37=0/\aJ prog 38=some (false,1)/\aP prog 38=3/\(prog.underlying 38).isSome=true/\aL prog 38=some (.sc .nilFunc)/\aK prog 38=0/\aJ prog 39=some (false,1)/\aP prog 39=3/\(prog.underlying 39).isSome=true/\aL prog 39=some (.sc .nilFunc)/\aK prog 39=0/\aJ prog 40=some (false,1)/\(prog.underlying 40).isSome=true/\aK prog 40=0/\aJ prog 41=some (false,1):=by and_intros<;>kernel_rfl
theorem bK1:aP prog 41=3/\(prog.underlying 41).isSome=true/\aL prog 41=some (.sc .nilFunc)/\aK prog 41=0/\aJ prog 42=some (false,1)/\(prog.underlying 42).isSome=true/\aK prog 42=0/\aJ prog 43=some (false,1)/\aP prog 43=3/\(prog.underlying 43).isSome=true/\aL prog 43=some (.sc .nilFunc)/\aK prog 43=0/\aJ prog 44=some (false,1)/\aP prog 44=3/\(prog.underlying 44).isSome=true/\aL prog 44=some (.sc .nilFunc)/\aK prog 44=0/\aJ prog 45=some (false,1)/\cE prog 45=some (47,2,40)/\aP prog 45=1/\(prog.underlying 45).isSome=true/\aL prog 45=some (.list false true [])/\aK prog 45=0/\fU prog 45=true/\aJ prog 46=some (true,2)/\bO prog 46 0=some (0,9,1)/\bO prog 46 1=some (1,45,1)/\(prog.underlying 46).isSome=true/\aL prog 46=some (.agg [.sc (.string (ByteArray.mk #[])),.list false true []])/\aK prog 46=0/\dY prog 46=some ([.sc (.string (ByteArray.mk #[])),.list false true []],[(0,1),(1,1)])/\aJ prog 47=some (true,2)/\bO prog 47 0=some (0,9,1)/\bO prog 47 1=some (1,45,1)/\(prog.underlying 47).isSome=true/\aL prog 47=some (.agg [.sc (.string (ByteArray.mk #[])),.list false true []])/\aK prog 47=0/\kB prog 47=some 2/\dZ prog 47=0/\dQ prog 47=some (.agg #[.string (ByteArray.mk #[]),.slice none 0 0])/\dY prog 47=some ([.sc (.string (ByteArray.mk #[])),.list false true []],[(0,1),(1,1)])/\aJ prog 48=some (false,1)/\cE prog 48=some (52,3,48)/\aP prog 48=1/\(prog.underlying 48).isSome=true/\aL prog 48=some (.list false true [])/\aK prog 48=0/\fU prog 48=true/\aJ prog 49=some (true,3)/\bO prog 49 0=some (0,47,2)/\bO prog 49 1=some (2,48,1)/\(prog.underlying 49).isSome=true/\aL prog 49=some (.agg [.sc (.string (ByteArray.mk #[])),.list false true [],.list false true []])/\aK prog 49=0/\dY prog 49=some ([.sc (.string (ByteArray.mk #[])),.list false true [],.list false true []],[(0,2),(2,1)])/\aJ prog 50=some (true,3)/\bO prog 50 0=some (0,47,2)/\bO prog 50 1=some (2,48,1)/\(prog.underlying 50).isSome=true/\aL prog 50=some (.agg [.sc (.string (ByteArray.mk #[])),.list false true [],.list false true []]):=by and_intros<;>kernel_rfl
theorem bK2:aK prog 50=0/\kB prog 50=some 3/\dZ prog 50=0/\dQ prog 50=some (.agg #[.string (ByteArray.mk #[]),.slice none 0 0,.slice none 0 0])/\dY prog 50=some ([.sc (.string (ByteArray.mk #[])),.list false true [],.list false true []],[(0,2),(2,1)])/\aJ prog 51=some (true,3)/\bO prog 51 0=some (0,4,1)/\bO prog 51 1=some (1,47,2)/\(prog.underlying 51).isSome=true/\aL prog 51=some (.agg [bl false,.sc (.string (ByteArray.mk #[])),.list false true []])/\aK prog 51=0/\dY prog 51=some ([bl false,.sc (.string (ByteArray.mk #[])),.list false true []],[(0,1),(1,2)])/\aJ prog 52=some (true,3)/\bO prog 52 0=some (0,4,1)/\bO prog 52 1=some (1,47,2)/\(prog.underlying 52).isSome=true/\aL prog 52=some (.agg [bl false,.sc (.string (ByteArray.mk #[])),.list false true []])/\aK prog 52=0/\kB prog 52=some 3/\dZ prog 52=0/\dQ prog 52=some (.agg #[.bool false,.string (ByteArray.mk #[]),.slice none 0 0])/\dY prog 52=some ([bl false,.sc (.string (ByteArray.mk #[])),.list false true []],[(0,1),(1,2)])/\aJ prog 53=some (false,1)/\aP prog 53=3/\(prog.underlying 53).isSome=true/\aL prog 53=some (.sc .nilFunc)/\aK prog 53=0/\aJ prog 54=some (false,1)/\aP prog 54=3/\(prog.underlying 54).isSome=true/\aL prog 54=some (.sc .nilFunc)/\aK prog 54=0/\aJ prog 55=some (false,1)/\aP prog 55=3/\(prog.underlying 55).isSome=true/\aL prog 55=some (.sc .nilFunc)/\aK prog 55=0/\aJ prog 56=some (false,1)/\aP prog 56=3/\(prog.underlying 56).isSome=true/\aL prog 56=some (.sc .nilFunc)/\aK prog 56=0/\aJ prog 57=some (false,1)/\aP prog 57=3/\(prog.underlying 57).isSome=true/\aL prog 57=some (.sc .nilFunc)/\aK prog 57=0/\aJ prog 58=some (false,1)/\aP prog 58=3/\(prog.underlying 58).isSome=true/\aL prog 58=some (.sc .nilFunc)/\aK prog 58=0/\aJ prog 59=some (false,1)/\aP prog 59=3/\(prog.underlying 59).isSome=true/\aL prog 59=some (.sc .nilFunc)/\aK prog 59=0/\aJ prog 60=some (false,1)/\aP prog 60=3/\(prog.underlying 60).isSome=true:=by and_intros<;>kernel_rfl
theorem bK3:aL prog 60=some (.sc .nilFunc)/\aK prog 60=0/\aJ prog 61=some (false,1)/\aP prog 61=3/\(prog.underlying 61).isSome=true/\aL prog 61=some (.sc .nilFunc)/\aK prog 61=0/\aJ prog 62=some (false,1)/\aP prog 62=3/\(prog.underlying 62).isSome=true/\aL prog 62=some (.sc .nilFunc)/\aK prog 62=0/\aJ prog 63=some (false,1)/\aP prog 63=3/\(prog.underlying 63).isSome=true/\aL prog 63=some (.sc .nilFunc)/\aK prog 63=0/\aJ prog 64=some (false,1)/\aP prog 64=3/\(prog.underlying 64).isSome=true/\aL prog 64=some (.sc .nilFunc)/\aK prog 64=0/\aJ prog 65=some (false,1)/\aP prog 65=3/\(prog.underlying 65).isSome=true/\aL prog 65=some (.sc .nilFunc)/\aK prog 65=0/\aJ prog 66=some (false,1)/\aP prog 66=3/\(prog.underlying 66).isSome=true/\aL prog 66=some (.sc .nilFunc)/\aK prog 66=0/\aJ prog 67=some (false,1)/\aP prog 67=3/\(prog.underlying 67).isSome=true/\aL prog 67=some (.sc .nilFunc)/\aK prog 67=0/\aJ prog 68=some (true,6)/\jX prog 68=some (6,29,1)/\(prog.underlying 68).isSome=true/\aL prog 68=some (.agg [.list false true [],.list false true [],.list false true [],.list false true [],.list false true [],.list false true []])/\aK prog 68=0/\dY prog 68=some ([.list false true [],.list false true [],.list false true [],.list false true [],.list false true [],.list false true []],[(0,1),(1,1),(2,1),(3,1),(4,1),(5,1)])/\aJ prog 69=some (false,1)/\aP prog 69=3/\(prog.underlying 69).isSome=true/\aL prog 69=some (.sc .nilFunc)/\aK prog 69=0/\aJ prog 70=some (false,1)/\aP prog 70=3/\(prog.underlying 70).isSome=true/\aL prog 70=some (.sc .nilFunc)/\aK prog 70=0/\aJ prog 71=some (false,1)/\aP prog 71=3/\(prog.underlying 71).isSome=true/\aL prog 71=some (.sc .nilFunc)/\aK prog 71=0/\aJ prog 72=some (false,1)/\aP prog 72=3:=by and_intros<;>kernel_rfl
theorem bK4:(prog.underlying 72).isSome=true/\aL prog 72=some (.sc .nilFunc)/\aK prog 72=0/\aJ prog 73=some (false,1)/\aP prog 73=3/\(prog.underlying 73).isSome=true/\aL prog 73=some (.sc .nilFunc)/\aK prog 73=0/\aJ prog 74=some (false,1)/\aP prog 74=3/\(prog.underlying 74).isSome=true/\aL prog 74=some (.sc .nilFunc)/\aK prog 74=0/\aJ prog 75=some (false,1)/\cE prog 75=some (133,2,24)/\aP prog 75=1/\(prog.underlying 75).isSome=true/\aL prog 75=some (.list false true [])/\aK prog 75=0/\fU prog 75=true/\aJ prog 76=some (false,1)/\(prog.underlying 76).isSome=true/\aK prog 76=0/\aJ prog 77=some (false,1)/\aP prog 77=3/\(prog.underlying 77).isSome=true/\aL prog 77=some (.sc .nilFunc)/\aK prog 77=0/\aJ prog 78=some (false,1)/\aP prog 78=3/\(prog.underlying 78).isSome=true/\aL prog 78=some (.sc .nilFunc)/\aK prog 78=0/\aJ prog 79=some (false,1)/\aP prog 79=2/\(prog.underlying 79).isSome=true/\aL prog 79=some (.sc (.pointer none))/\aK prog 79=0/\aJ prog 80=some (true,1)/\bO prog 80 0=some (0,3,1)/\(prog.underlying 80).isSome=true/\aL prog 80=some (.agg [nt .i64 0])/\aK prog 80=0/\dY prog 80=some ([nt .i64 0],[(0,1)])/\aJ prog 81=some (true,1)/\bO prog 81 0=some (0,3,1)/\(prog.underlying 81).isSome=true/\aL prog 81=some (.agg [nt .i64 0])/\aK prog 81=0/\dY prog 81=some ([nt .i64 0],[(0,1)])/\aJ prog 82=some (false,1)/\(prog.underlying 82).isSome=true/\aL prog 82=some (.sc (.map none))/\aK prog 82=0/\qQ prog 82=some (bl false)/\aJ prog 83=some (false,1)/\aP prog 83=3/\(prog.underlying 83).isSome=true/\aL prog 83=some (.sc .nilFunc)/\aK prog 83=0:=by and_intros<;>kernel_rfl
theorem bK5:aJ prog 84=some (false,1)/\aP prog 84=3/\(prog.underlying 84).isSome=true/\aL prog 84=some (.sc .nilFunc)/\aK prog 84=0/\aJ prog 85=some (false,1)/\aP prog 85=3/\(prog.underlying 85).isSome=true/\aL prog 85=some (.sc .nilFunc)/\aK prog 85=0/\aJ prog 86=some (false,1)/\cE prog 86=some (91,1,24)/\aP prog 86=1/\(prog.underlying 86).isSome=true/\aL prog 86=some (.list false true [])/\aK prog 86=0/\fU prog 86=true/\aJ prog 87=some (false,1)/\(prog.underlying 87).isSome=true/\aK prog 87=0/\aJ prog 88=some (false,1)/\aP prog 88=3/\(prog.underlying 88).isSome=true/\aL prog 88=some (.sc .nilFunc)/\aK prog 88=0/\aJ prog 89=some (false,1)/\(prog.underlying 89).isSome=true/\aK prog 89=0/\aJ prog 90=some (false,1)/\aP prog 90=3/\(prog.underlying 90).isSome=true/\aL prog 90=some (.sc .nilFunc)/\aK prog 90=0/\aJ prog 91=some (false,1)/\cE prog 91=some (137,3,56)/\aP prog 91=1/\(prog.underlying 91).isSome=true/\aL prog 91=some (.list false true [])/\aK prog 91=0/\fU prog 91=true/\kB prog 91=some 1/\dZ prog 91=0/\dQ prog 91=some (.slice none 0 0)/\aJ prog 92=some (false,1)/\aP prog 92=2/\(prog.underlying 92).isSome=true/\aL prog 92=some (.sc (.pointer none))/\aK prog 92=0/\aJ prog 93=some (true,2)/\bO prog 93 0=some (0,9,1)/\bO prog 93 1=some (1,3,1)/\(prog.underlying 93).isSome=true/\aL prog 93=some (.agg [.sc (.string (ByteArray.mk #[])),nt .i64 0])/\aK prog 93=0/\dY prog 93=some ([.sc (.string (ByteArray.mk #[])),nt .i64 0],[(0,1),(1,1)])/\aJ prog 94=some (true,2)/\bO prog 94 0=some (0,9,1)/\bO prog 94 1=some (1,3,1)/\(prog.underlying 94).isSome=true/\aL prog 94=some (.agg [.sc (.string (ByteArray.mk #[])),nt .i64 0]):=by and_intros<;>kernel_rfl
theorem bK6:aK prog 94=0/\dY prog 94=some ([.sc (.string (ByteArray.mk #[])),nt .i64 0],[(0,1),(1,1)])/\aJ prog 95=some (false,1)/\aP prog 95=3/\(prog.underlying 95).isSome=true/\aL prog 95=some (.sc .nilFunc)/\aK prog 95=0/\aJ prog 96=some (false,1)/\aP prog 96=3/\(prog.underlying 96).isSome=true/\aL prog 96=some (.sc .nilFunc)/\aK prog 96=0/\aJ prog 97=some (false,1)/\aP prog 97=3/\(prog.underlying 97).isSome=true/\aL prog 97=some (.sc .nilFunc)/\aK prog 97=0/\aJ prog 98=some (false,1)/\(prog.underlying 98).isSome=true/\aK prog 98=0/\aJ prog 99=some (false,1)/\aP prog 99=3/\(prog.underlying 99).isSome=true/\aL prog 99=some (.sc .nilFunc)/\aK prog 99=0/\aJ prog 100=some (false,1)/\aP prog 100=3/\(prog.underlying 100).isSome=true/\aL prog 100=some (.sc .nilFunc)/\aK prog 100=0/\aJ prog 101=some (false,1)/\aP prog 101=3/\(prog.underlying 101).isSome=true/\aL prog 101=some (.sc .nilFunc)/\aK prog 101=0/\aJ prog 102=some (false,1)/\aP prog 102=3/\(prog.underlying 102).isSome=true/\aL prog 102=some (.sc .nilFunc)/\aK prog 102=0/\aJ prog 103=some (false,1)/\aP prog 103=3/\(prog.underlying 103).isSome=true/\aL prog 103=some (.sc .nilFunc)/\aK prog 103=0/\aJ prog 104=some (false,1)/\mA prog 104=some .u64/\(prog.underlying 104).isSome=true/\aL prog 104=some (nt .u64 0)/\aK prog 104=0/\aJ prog 105=some (false,1)/\aP prog 105=3/\(prog.underlying 105).isSome=true/\aL prog 105=some (.sc .nilFunc)/\aK prog 105=0/\aJ prog 106=some (false,1)/\aP prog 106=3/\(prog.underlying 106).isSome=true/\aL prog 106=some (.sc .nilFunc)/\aK prog 106=0:=by and_intros<;>kernel_rfl
theorem bK7:aJ prog 107=some (false,1)/\aP prog 107=3/\(prog.underlying 107).isSome=true/\aL prog 107=some (.sc .nilFunc)/\aK prog 107=0/\aJ prog 108=some (false,1)/\aP prog 108=3/\(prog.underlying 108).isSome=true/\aL prog 108=some (.sc .nilFunc)/\aK prog 108=0/\aJ prog 109=some (false,1)/\aP prog 109=3/\(prog.underlying 109).isSome=true/\aL prog 109=some (.sc .nilFunc)/\aK prog 109=0/\aJ prog 110=some (false,1)/\aP prog 110=3/\(prog.underlying 110).isSome=true/\aL prog 110=some (.sc .nilFunc)/\aK prog 110=0/\aJ prog 111=some (false,1)/\aP prog 111=3/\(prog.underlying 111).isSome=true/\aL prog 111=some (.sc .nilFunc)/\aK prog 111=0/\aJ prog 112=some (false,1)/\aP prog 112=3/\(prog.underlying 112).isSome=true/\aL prog 112=some (.sc .nilFunc)/\aK prog 112=0/\aJ prog 113=some (false,1)/\aP prog 113=3/\(prog.underlying 113).isSome=true/\aL prog 113=some (.sc .nilFunc)/\aK prog 113=0/\aJ prog 114=some (false,1)/\mA prog 114=some .u64/\(prog.underlying 114).isSome=true/\aL prog 114=some (nt .u64 0)/\aK prog 114=0/\aJ prog 115=some (false,1)/\aP prog 115=3/\(prog.underlying 115).isSome=true/\aL prog 115=some (.sc .nilFunc)/\aK prog 115=0/\aJ prog 116=some (false,1)/\aP prog 116=3/\(prog.underlying 116).isSome=true/\aL prog 116=some (.sc .nilFunc)/\aK prog 116=0/\aJ prog 117=some (false,1)/\aP prog 117=3/\(prog.underlying 117).isSome=true/\aL prog 117=some (.sc .nilFunc)/\aK prog 117=0/\aJ prog 118=some (false,1)/\aP prog 118=3/\(prog.underlying 118).isSome=true/\aL prog 118=some (.sc .nilFunc)/\aK prog 118=0:=by and_intros<;>kernel_rfl
theorem bK8:aJ prog 119=some (false,1)/\aP prog 119=3/\(prog.underlying 119).isSome=true/\aL prog 119=some (.sc .nilFunc)/\aK prog 119=0/\aJ prog 120=some (false,1)/\(prog.underlying 120).isSome=true/\aL prog 120=some (.sc (.map none))/\aK prog 120=0/\qQ prog 120=some (nt .i64 0)/\aJ prog 121=some (false,1)/\(prog.underlying 121).isSome=true/\aK prog 121=0/\aJ prog 122=some (false,1)/\aP prog 122=3/\(prog.underlying 122).isSome=true/\aL prog 122=some (.sc .nilFunc)/\aK prog 122=0/\aJ prog 123=some (false,1)/\aP prog 123=3/\(prog.underlying 123).isSome=true/\aL prog 123=some (.sc .nilFunc)/\aK prog 123=0/\aJ prog 124=some (false,1)/\cE prog 124=some (130,3,40)/\aP prog 124=1/\(prog.underlying 124).isSome=true/\aL prog 124=some (.list false true [])/\aK prog 124=0/\fU prog 124=true/\aJ prog 125=some (false,1)/\aP prog 125=3/\(prog.underlying 125).isSome=true/\aL prog 125=some (.sc .nilFunc)/\aK prog 125=0/\aJ prog 126=some (false,1)/\aP prog 126=3/\(prog.underlying 126).isSome=true/\aL prog 126=some (.sc .nilFunc)/\aK prog 126=0/\aJ prog 127=some (false,1)/\aP prog 127=3/\(prog.underlying 127).isSome=true/\aL prog 127=some (.sc .nilFunc)/\aK prog 127=0/\aJ prog 128=some (false,1)/\aP prog 128=3/\(prog.underlying 128).isSome=true/\aL prog 128=some (.sc .nilFunc)/\aK prog 128=0/\aJ prog 129=some (true,3)/\bO prog 129 0=some (0,9,1)/\bO prog 129 1=some (1,9,1)/\bO prog 129 2=some (2,4,1)/\(prog.underlying 129).isSome=true/\aL prog 129=some (.agg [.sc (.string (ByteArray.mk #[])),.sc (.string (ByteArray.mk #[])),bl false])/\aK prog 129=0/\dY prog 129=some ([.sc (.string (ByteArray.mk #[])),.sc (.string (ByteArray.mk #[])),bl false],[(0,1),(1,1),(2,1)])/\bO prog 130 0=some (0,9,1)/\bO prog 130 1=some (1,9,1):=by and_intros<;>kernel_rfl
theorem bK9:bO prog 130 2=some (2,4,1)/\(prog.underlying 130).isSome=true/\aL prog 130=some (.agg [.sc (.string (ByteArray.mk #[])),.sc (.string (ByteArray.mk #[])),bl false])/\aK prog 130=0/\kB prog 130=some 3/\dZ prog 130=0/\dQ prog 130=some (.agg #[.string (ByteArray.mk #[]),.string (ByteArray.mk #[]),.bool false])/\dY prog 130=some ([.sc (.string (ByteArray.mk #[])),.sc (.string (ByteArray.mk #[])),bl false],[(0,1),(1,1),(2,1)])/\aJ prog 131=some (false,1)/\aP prog 131=3/\(prog.underlying 131).isSome=true/\aL prog 131=some (.sc .nilFunc)/\aK prog 131=0/\aJ prog 132=some (true,2)/\bO prog 132 0=some (0,9,1)/\bO prog 132 1=some (1,3,1)/\(prog.underlying 132).isSome=true/\aL prog 132=some (.agg [.sc (.string (ByteArray.mk #[])),nt .i64 0])/\aK prog 132=0/\dY prog 132=some ([.sc (.string (ByteArray.mk #[])),nt .i64 0],[(0,1),(1,1)])/\aJ prog 133=some (true,2)/\bO prog 133 0=some (0,9,1)/\bO prog 133 1=some (1,3,1)/\(prog.underlying 133).isSome=true/\aL prog 133=some (.agg [.sc (.string (ByteArray.mk #[])),nt .i64 0])/\aK prog 133=0/\kB prog 133=some 2/\dZ prog 133=0/\dQ prog 133=some (.agg #[.string (ByteArray.mk #[]),.int .i64 0])/\dY prog 133=some ([.sc (.string (ByteArray.mk #[])),nt .i64 0],[(0,1),(1,1)])/\aJ prog 134=some (false,1)/\(prog.underlying 134).isSome=true/\aK prog 134=0/\aJ prog 135=some (false,1)/\aP prog 135=3/\(prog.underlying 135).isSome=true/\aL prog 135=some (.sc .nilFunc)/\aK prog 135=0/\aJ prog 136=some (true,3)/\bO prog 136 0=some (0,9,1)/\bO prog 136 1=some (1,47,2)/\(prog.underlying 136).isSome=true/\aL prog 136=some (.agg [.sc (.string (ByteArray.mk #[])),.sc (.string (ByteArray.mk #[])),.list false true []])/\aK prog 136=0/\dY prog 136=some ([.sc (.string (ByteArray.mk #[])),.sc (.string (ByteArray.mk #[])),.list false true []],[(0,1),(1,2)])/\aJ prog 137=some (true,3)/\bO prog 137 0=some (0,9,1)/\bO prog 137 1=some (1,47,2)/\(prog.underlying 137).isSome=true/\aL prog 137=some (.agg [.sc (.string (ByteArray.mk #[])),.sc (.string (ByteArray.mk #[])),.list false true []])/\aK prog 137=0/\kB prog 137=some 3/\dZ prog 137=0/\dQ prog 137=some (.agg #[.string (ByteArray.mk #[]),.string (ByteArray.mk #[]),.slice none 0 0])/\dY prog 137=some ([.sc (.string (ByteArray.mk #[])),.sc (.string (ByteArray.mk #[])),.list false true []],[(0,1),(1,2)])/\aJ prog 138=some (false,1)/\aP prog 138=3/\(prog.underlying 138).isSome=true/\aL prog 138=some (.sc .nilFunc)/\aK prog 138=0:=by and_intros<;>kernel_rfl
theorem bLa:aJ prog 139=some (false,1)/\aP prog 139=3/\(prog.underlying 139).isSome=true/\aL prog 139=some (.sc .nilFunc)/\aK prog 139=0/\aJ prog 140=some (false,1)/\(prog.underlying 140).isSome=true/\aK prog 140=0/\aJ prog 141=some (false,1)/\aP prog 141=3/\(prog.underlying 141).isSome=true/\aL prog 141=some (.sc .nilFunc)/\aK prog 141=0/\aJ prog 142=some (false,1)/\aP prog 142=3/\(prog.underlying 142).isSome=true/\aL prog 142=some (.sc .nilFunc)/\aK prog 142=0/\aJ prog 143=some (false,1)/\aP prog 143=3/\(prog.underlying 143).isSome=true/\aL prog 143=some (.sc .nilFunc)/\aK prog 143=0/\aJ prog 144=some (false,1)/\mA prog 144=some .i64/\(prog.underlying 144).isSome=true/\aL prog 144=some (nt .i64 0)/\aK prog 144=0/\aJ prog 145=some (false,1)/\(prog.underlying 145).isSome=true/\aK prog 145=0/\aJ prog 146=some (false,1)/\aP prog 146=3/\(prog.underlying 146).isSome=true/\aL prog 146=some (.sc .nilFunc)/\aK prog 146=0/\aJ prog 147=some (false,1)/\aP prog 147=3/\(prog.underlying 147).isSome=true/\aL prog 147=some (.sc .nilFunc)/\aK prog 147=0/\aJ prog 148=some (false,1)/\aP prog 148=3/\(prog.underlying 148).isSome=true/\aL prog 148=some (.sc .nilFunc)/\aK prog 148=0/\aJ prog 149=some (false,1)/\aP prog 149=3/\(prog.underlying 149).isSome=true/\aL prog 149=some (.sc .nilFunc)/\aK prog 149=0/\aJ prog 150=some (false,1)/\aP prog 150=3/\(prog.underlying 150).isSome=true/\aL prog 150=some (.sc .nilFunc)/\aK prog 150=0/\aJ prog 151=some (false,1)/\mA prog 151=some .u32/\(prog.underlying 151).isSome=true/\aL prog 151=some (nt .u32 0):=by and_intros<;>kernel_rfl
theorem bLb:aK prog 151=0/\aJ prog 152=some (false,1)/\aP prog 152=3/\(prog.underlying 152).isSome=true/\aL prog 152=some (.sc .nilFunc)/\aK prog 152=0/\aJ prog 153=some (true,4)/\bO prog 153 0=some (0,3,1)/\bO prog 153 1=some (1,3,1)/\bO prog 153 2=some (2,3,1)/\bO prog 153 3=some (3,9,1)/\(prog.underlying 153).isSome=true/\aL prog 153=some (.agg [nt .i64 0,nt .i64 0,nt .i64 0,.sc (.string (ByteArray.mk #[]))])/\aK prog 153=0/\dY prog 153=some ([nt .i64 0,nt .i64 0,nt .i64 0,.sc (.string (ByteArray.mk #[]))],[(0,1),(1,1),(2,1),(3,1)])/\aJ prog 154=some (true,4)/\bO prog 154 0=some (0,3,1)/\bO prog 154 1=some (1,3,1)/\bO prog 154 2=some (2,3,1)/\bO prog 154 3=some (3,9,1)/\(prog.underlying 154).isSome=true/\aL prog 154=some (.agg [nt .i64 0,nt .i64 0,nt .i64 0,.sc (.string (ByteArray.mk #[]))])/\aK prog 154=0/\dY prog 154=some ([nt .i64 0,nt .i64 0,nt .i64 0,.sc (.string (ByteArray.mk #[]))],[(0,1),(1,1),(2,1),(3,1)])/\aJ prog 158=some (false,1)/\aP prog 158=3/\(prog.underlying 158).isSome=true/\aL prog 158=some (.sc .nilFunc)/\aK prog 158=0/\aJ prog 159=some (false,1)/\aP prog 159=3/\(prog.underlying 159).isSome=true/\aL prog 159=some (.sc .nilFunc)/\aK prog 159=0/\aJ prog 160=some (true,4)/\bO prog 160 0=some (0,9,1)/\bO prog 160 1=some (1,3,1)/\bO prog 160 2=some (2,4,1)/\bO prog 160 3=some (3,4,1)/\(prog.underlying 160).isSome=true/\aL prog 160=some (.agg [.sc (.string (ByteArray.mk #[])),nt .i64 0,bl false,bl false])/\aK prog 160=0/\dY prog 160=some ([.sc (.string (ByteArray.mk #[])),nt .i64 0,bl false,bl false],[(0,1),(1,1),(2,1),(3,1)])/\aJ prog 161=some (true,4)/\bO prog 161 0=some (0,9,1)/\bO prog 161 1=some (1,3,1)/\bO prog 161 2=some (2,4,1)/\bO prog 161 3=some (3,4,1)/\(prog.underlying 161).isSome=true/\aL prog 161=some (.agg [.sc (.string (ByteArray.mk #[])),nt .i64 0,bl false,bl false])/\aK prog 161=0/\kB prog 161=some 4/\dZ prog 161=0/\dQ prog 161=some (.agg #[.string (ByteArray.mk #[]),.int .i64 0,.bool false,.bool false])/\dY prog 161=some ([.sc (.string (ByteArray.mk #[])),nt .i64 0,bl false,bl false],[(0,1),(1,1),(2,1),(3,1)])/\aJ prog 162=some (false,1)/\(prog.underlying 162).isSome=true/\aK prog 162=0/\aJ prog 163=some (false,1)/\aP prog 163=3:=by and_intros<;>kernel_rfl
theorem bLc:(prog.underlying 163).isSome=true/\aL prog 163=some (.sc .nilFunc)/\aK prog 163=0/\aJ prog 164=some (false,1)/\aP prog 164=3/\(prog.underlying 164).isSome=true/\aL prog 164=some (.sc .nilFunc)/\aK prog 164=0/\aJ prog 165=some (false,1)/\aP prog 165=3/\(prog.underlying 165).isSome=true/\aL prog 165=some (.sc .nilFunc)/\aK prog 165=0/\aJ prog 166=some (true,2)/\bO prog 166 0=some (0,5,1)/\bO prog 166 1=some (1,5,1)/\(prog.underlying 166).isSome=true/\aL prog 166=some (.agg [nt .u8 0,nt .u8 0])/\aK prog 166=0/\dY prog 166=some ([nt .u8 0,nt .u8 0],[(0,1),(1,1)])/\aJ prog 167=some (true,2)/\bO prog 167 0=some (0,5,1)/\bO prog 167 1=some (1,5,1)/\(prog.underlying 167).isSome=true/\aL prog 167=some (.agg [nt .u8 0,nt .u8 0])/\aK prog 167=0/\kB prog 167=some 2/\dZ prog 167=0/\dQ prog 167=some (.agg #[.int .u8 0,.int .u8 0])/\dY prog 167=some ([nt .u8 0,nt .u8 0],[(0,1),(1,1)])/\aJ prog 168=some (true,6)/\jX prog 168=some (3,167,2)/\(prog.underlying 168).isSome=true/\aL prog 168=some (.agg [nt .u8 0,nt .u8 0,nt .u8 0,nt .u8 0,nt .u8 0,nt .u8 0])/\aK prog 168=0/\dY prog 168=some ([nt .u8 0,nt .u8 0,nt .u8 0,nt .u8 0,nt .u8 0,nt .u8 0],[(0,2),(2,2),(4,2)])/\aJ prog 169=some (false,1)/\(prog.underlying 169).isSome=true/\aL prog 169=some (.sc (.map none))/\aK prog 169=0/\qQ prog 169=some (bl false)/\aJ prog 170=some (false,1)/\aP prog 170=3/\(prog.underlying 170).isSome=true/\aL prog 170=some (.sc .nilFunc)/\aK prog 170=0/\aJ prog 171=some (false,1)/\aP prog 171=3/\(prog.underlying 171).isSome=true/\aL prog 171=some (.sc .nilFunc)/\aK prog 171=0/\aJ prog 172=some (false,1)/\aP prog 172=3/\(prog.underlying 172).isSome=true/\aL prog 172=some (.sc .nilFunc)/\aK prog 172=0/\aJ prog 173=some (false,1)/\aP prog 173=3/\(prog.underlying 173).isSome=true/\aL prog 173=some (.sc .nilFunc):=by and_intros<;>kernel_rfl
theorem bLd:aK prog 173=0/\aJ prog 174=some (false,1)/\aP prog 174=3/\(prog.underlying 174).isSome=true/\aL prog 174=some (.sc .nilFunc)/\aK prog 174=0/\aJ prog 176=some (false,1)/\aP prog 176=3/\(prog.underlying 176).isSome=true/\aL prog 176=some (.sc .nilFunc)/\aK prog 176=0/\aJ prog 177=some (false,1)/\aP prog 177=3/\(prog.underlying 177).isSome=true/\aL prog 177=some (.sc .nilFunc)/\aK prog 177=0/\aJ prog 178=some (false,1)/\(prog.underlying 178).isSome=true/\aL prog 178=some (.sc (.map none))/\aK prog 178=0/\qQ prog 178=some (.list false true [])/\aJ prog 179=some (false,1)/\aP prog 179=3/\(prog.underlying 179).isSome=true/\aL prog 179=some (.sc .nilFunc)/\aK prog 179=0/\aJ prog 180=some (false,1)/\mA prog 180=some .u64/\(prog.underlying 180).isSome=true/\aL prog 180=some (nt .u64 0)/\aK prog 180=0/\aJ prog 181=some (false,1)/\aP prog 181=3/\(prog.underlying 181).isSome=true/\aL prog 181=some (.sc .nilFunc)/\aK prog 181=0/\aJ prog 182=some (false,1)/\aP prog 182=3/\(prog.underlying 182).isSome=true/\aL prog 182=some (.sc .nilFunc)/\aK prog 182=0/\aJ prog 184=some (false,1)/\aP prog 184=2/\(prog.underlying 184).isSome=true/\aL prog 184=some (.sc (.pointer none))/\aK prog 184=0/\aJ prog 185=some (false,1)/\aP prog 185=3/\(prog.underlying 185).isSome=true/\aL prog 185=some (.sc .nilFunc)/\aK prog 185=0/\aJ prog 186=some (false,1)/\aP prog 186=3/\(prog.underlying 186).isSome=true/\aL prog 186=some (.sc .nilFunc)/\aK prog 186=0/\aJ prog 187=some (false,1)/\aP prog 187=3/\(prog.underlying 187).isSome=true/\aL prog 187=some (.sc .nilFunc):=by and_intros<;>kernel_rfl
theorem bLe:aK prog 187=0/\aJ prog 188=some (true,24)/\jX prog 188=some (24,5,1)/\(prog.underlying 188).isSome=true/\aL prog 188=some (.agg [nt .u8 0,nt .u8 0,nt .u8 0,nt .u8 0,nt .u8 0,nt .u8 0,nt .u8 0,nt .u8 0,nt .u8 0,nt .u8 0,nt .u8 0,nt .u8 0,nt .u8 0,nt .u8 0,nt .u8 0,nt .u8 0,nt .u8 0,nt .u8 0,nt .u8 0,nt .u8 0,nt .u8 0,nt .u8 0,nt .u8 0,nt .u8 0])/\aK prog 188=0/\dY prog 188=some ([nt .u8 0,nt .u8 0,nt .u8 0,nt .u8 0,nt .u8 0,nt .u8 0,nt .u8 0,nt .u8 0,nt .u8 0,nt .u8 0,nt .u8 0,nt .u8 0,nt .u8 0,nt .u8 0,nt .u8 0,nt .u8 0,nt .u8 0,nt .u8 0,nt .u8 0,nt .u8 0,nt .u8 0,nt .u8 0,nt .u8 0,nt .u8 0],[(0,1),(1,1),(2,1),(3,1),(4,1),(5,1),(6,1),(7,1),(8,1),(9,1),(10,1),(11,1),(12,1),(13,1),(14,1),(15,1),(16,1),(17,1),(18,1),(19,1),(20,1),(21,1),(22,1),(23,1)])/\aJ prog 189=some (false,1)/\aP prog 189=3/\(prog.underlying 189).isSome=true/\aL prog 189=some (.sc .nilFunc)/\aK prog 189=0/\aJ prog 190=some (false,1)/\cE prog 190=some (5,1,1)/\aP prog 190=1/\(prog.underlying 190).isSome=true/\aL prog 190=some (.list false true [])/\aK prog 190=0/\fU prog 190=true/\aJ prog 191=some (false,1)/\(prog.underlying 191).isSome=true/\aK prog 191=0/\aJ prog 192=some (false,1)/\aP prog 192=3/\(prog.underlying 192).isSome=true/\aL prog 192=some (.sc .nilFunc)/\aK prog 192=0/\aJ prog 193=some (false,1)/\aP prog 193=3/\(prog.underlying 193).isSome=true/\aL prog 193=some (.sc .nilFunc)/\aK prog 193=0/\aJ prog 194=some (false,1)/\cE prog 194=some (161,4,32)/\aP prog 194=1/\(prog.underlying 194).isSome=true/\aL prog 194=some (.list false true [])/\aK prog 194=0/\fU prog 194=true/\aJ prog 195=some (true,40)/\jX prog 195=some (10,161,4)/\(prog.underlying 195).isSome=true/\aL prog 195=some (.agg [.sc (.string (ByteArray.mk #[])),nt .i64 0,bl false,bl false,.sc (.string (ByteArray.mk #[])),nt .i64 0,bl false,bl false,.sc (.string (ByteArray.mk #[])),nt .i64 0,bl false,bl false,.sc (.string (ByteArray.mk #[])),nt .i64 0,bl false,bl false,.sc (.string (ByteArray.mk #[])),nt .i64 0,bl false,bl false,.sc (.string (ByteArray.mk #[])),nt .i64 0,bl false,bl false,.sc (.string (ByteArray.mk #[])),nt .i64 0,bl false,bl false,.sc (.string (ByteArray.mk #[])),nt .i64 0,bl false,bl false,.sc (.string (ByteArray.mk #[])),nt .i64 0,bl false,bl false,.sc (.string (ByteArray.mk #[])),nt .i64 0,bl false,bl false])/\aK prog 195=0/\dY prog 195=some ([.sc (.string (ByteArray.mk #[])),nt .i64 0,bl false,bl false,.sc (.string (ByteArray.mk #[])),nt .i64 0,bl false,bl false,.sc (.string (ByteArray.mk #[])),nt .i64 0,bl false,bl false,.sc (.string (ByteArray.mk #[])),nt .i64 0,bl false,bl false,.sc (.string (ByteArray.mk #[])),nt .i64 0,bl false,bl false,.sc (.string (ByteArray.mk #[])),nt .i64 0,bl false,bl false,.sc (.string (ByteArray.mk #[])),nt .i64 0,bl false,bl false,.sc (.string (ByteArray.mk #[])),nt .i64 0,bl false,bl false,.sc (.string (ByteArray.mk #[])),nt .i64 0,bl false,bl false,.sc (.string (ByteArray.mk #[])),nt .i64 0,bl false,bl false],[(0,4),(4,4),(8,4),(12,4),(16,4),(20,4),(24,4),(28,4),(32,4),(36,4)])/\aJ prog 196=some (false,1)/\aP prog 196=3/\(prog.underlying 196).isSome=true/\aL prog 196=some (.sc .nilFunc)/\aK prog 196=0/\aJ prog 197=some (false,1)/\aP prog 197=3/\(prog.underlying 197).isSome=true/\aL prog 197=some (.sc .nilFunc)/\aK prog 197=0/\aJ prog 198=some (false,1)/\cE prog 198=some (167,2,2)/\aP prog 198=1/\(prog.underlying 198).isSome=true/\aL prog 198=some (.list false true []):=by and_intros<;>kernel_rfl
theorem bLf:aK prog 198=0/\fU prog 198=true/\aJ prog 199=some (false,1)/\aP prog 199=3/\(prog.underlying 199).isSome=true/\aL prog 199=some (.sc .nilFunc)/\aK prog 199=0/\aJ prog 200=some (false,1)/\aP prog 200=3/\(prog.underlying 200).isSome=true/\aL prog 200=some (.sc .nilFunc)/\aK prog 200=0/\aJ prog 201=some (false,1)/\aP prog 201=3/\(prog.underlying 201).isSome=true/\aL prog 201=some (.sc .nilFunc)/\aK prog 201=0/\aJ prog 202=some (false,1)/\aP prog 202=3/\(prog.underlying 202).isSome=true/\aL prog 202=some (.sc .nilFunc)/\aK prog 202=0/\aJ prog 203=some (false,1)/\aP prog 203=3/\(prog.underlying 203).isSome=true/\aL prog 203=some (.sc .nilFunc)/\aK prog 203=0/\aJ prog 204=some (false,1)/\aP prog 204=3/\(prog.underlying 204).isSome=true/\aL prog 204=some (.sc .nilFunc)/\aK prog 204=0/\aJ prog 205=some (false,1)/\aP prog 205=3/\(prog.underlying 205).isSome=true/\aL prog 205=some (.sc .nilFunc)/\aK prog 205=0/\aJ prog 206=some (false,1)/\aP prog 206=3/\(prog.underlying 206).isSome=true/\aL prog 206=some (.sc .nilFunc)/\aK prog 206=0/\aJ prog 207=some (false,1)/\aP prog 207=2/\(prog.underlying 207).isSome=true/\aL prog 207=some (.sc (.pointer none))/\aK prog 207=0/\aJ prog 208=some (false,1)/\(prog.underlying 208).isSome=true/\aK prog 208=0/\aJ prog 209=some (false,1)/\aP prog 209=3/\(prog.underlying 209).isSome=true/\aL prog 209=some (.sc .nilFunc)/\aK prog 209=0/\aJ prog 210=some (false,1)/\aP prog 210=3/\(prog.underlying 210).isSome=true/\aL prog 210=some (.sc .nilFunc)/\aK prog 210=0:=by and_intros<;>kernel_rfl
theorem bLg:aJ prog 211=some (false,1)/\aP prog 211=3/\(prog.underlying 211).isSome=true/\aL prog 211=some (.sc .nilFunc)/\aK prog 211=0/\aJ prog 217=some (false,1)/\cE prog 217=some (3,1,8)/\aP prog 217=1/\(prog.underlying 217).isSome=true/\aL prog 217=some (.list false true [])/\aK prog 217=0/\fU prog 217=true:=by and_intros<;>kernel_rfl
attribute [go_sem] bKx bKy bKz bK0 bK1 bK2 bK3 bK4 bK5 bK6 bK7 bK8 bK9 bLa bLb bLc bLd bLe bLf bLg bJt bJu bJv bJw bJx bJy bJz bJ0 bJ1 bJ2 bJ3 bJ4 bJ5 bJ6 bJ7 bJ8 bJ9 bKa bKb bKc aB2 bKd bKe bKf bKg bKh bKi bKj bKk bKl bKm bKn bKo bKp bKq bKr bKs bKt bKu bKv bKw
theorem aS:prog.follows .mixedOrders=true:=by kernel_rfl
inductive Tm where
 |mk (name:ByteArray) (args:List Tm)
namespace Tm
def name:Tm->ByteArray
 | .mk s _=>s
def args:Tm->List Tm
 | .mk _ ts=>ts
end Tm
mutual
def aO:Tm->AV
 | .mk s ts=> .agg [.sc (.string s),.list false false (N6 ts)]
def N6:List Tm->List AV
 | []=> []
 |t::r=>aO t::N6 r
end
theorem aKg: ∀l:List Tm,N6 l=l.map aO
 | []=>rfl
 |t::r=>by rw[N6,aKg r];rfl
abbrev eT (t:Tm):AV:= .agg [.sc (.string t.name),.list false false (t.args.map aO)]
theorem oS: ∀t:Tm,aO t=eT t
 | .mk s ts=>by rw[aO,aKg];rfl
theorem iT {s:ByteArray} {ts:List Tm}:(Tm.mk s ts).name=s:=rfl
theorem bX {s:ByteArray} {ts:List Tm}:(Tm.mk s ts).args=ts:=rfl
attribute [go_sem] oS iT bX
mutual
def Tm.size:Tm->Nat
 | .mk _ ts=>1+bZ ts
def bZ:List Tm->Nat
 | []=>0
 |t::r=>t.size+bZ r
end
mutual
def Tm.depth:Tm->Nat
 | .mk _ ts=>eL ts+1
def eL:List Tm->Nat
 | []=>0
 |t::r=>max t.depth (eL r)
end
theorem eU (t:Tm):t.size=1+bZ t.args:=by cases t;rfl
theorem oT (t:Tm):t.depth=eL t.args+1:=by cases t;rfl
theorem aB3: ∀a b:List Tm,bZ (a++b)=bZ a+bZ b
 | [],b=>by simp[bZ]
 |t::r,b=>by simp[bZ,aB3 r b,Nat.add_assoc]
theorem aB4: ∀a b:List Tm,eL (a++b)=max (eL a) (eL b)
 | [],b=>by simp[eL]
 |t::r,b=>by simp only[List.cons_append,eL,aB4 r b];omega
theorem eZ {α:Type} {l:List α} {i:Nat} (h:i<l.length):l.take (i+1)=l.take i++ [l[i]]:=by
 rw[List.take_add_one,List.getElem?_eq_getElem h];rfl
theorem aKh {l:List Tm} {i:Nat} (h:i<l.length):bZ (l.take (i+1))=bZ (l.take i)+l[i].size:=by
 rw[eZ h,aB3];simp[bZ]
theorem aKi {l:List Tm} {i:Nat} (h:i<l.length):eL (l.take (i+1))=max (eL (l.take i)) l[i].depth:=by
 rw[eZ h,aB4];simp[eL]
theorem B6: ∀{l:List Tm} {t:Tm},t∈l->t.size<=bZ l
 |u::r,t,h=>by
  rcases List.mem_cons.1 h with rfl|h
  ·simp[bZ]
  ·have:=B6 h;simp only[bZ];omega
theorem yA {l:List Tm} {i:Nat} (h:i<l.length):l[i].size<=bZ l:=B6 (List.getElem_mem h)
theorem aB5 (l:List Tm) (i:Nat):bZ (l.take i)<=bZ l:=by
 have:=aB3 (l.take i) (l.drop i)
 rw[List.take_append_drop]at this;omega
theorem uL (t:Tm):1<=t.size:=by rw[eU];omega
theorem qZ: ∀l:List Tm,l.length<=bZ l
 | []=>by simp[bZ]
 |t::r=>by have:=qZ r;have:=uL t;simp only[bZ,List.length_cons];omega
theorem aB6: ∀t:Tm,t.depth<=t.size:=by
 have key: ∀n (t:Tm),t.size<=n->t.depth<=t.size:=by
  intro n
  induction n with
  |zero=>intro t h;have:=uL t;omega
  |succ n ih=>
   intro t h
   rw[eU]at*
   rw[oT]
   have: ∀l:List Tm,bZ l<=n->eL l<=bZ l:=by
    intro l
    induction l with
    |nil=>intro _;simp[eL,bZ]
    |cons u r ihr=>
     intro hl
     simp only[bZ,eL]at*
     have h1:=ih u (by omega)
     have h2:=ihr (by omega)
     omega
   have:=this t.args (by omega)
   omega
 exact fun t=>key t.size t (Nat.le_refl _)
theorem fL {p:Tm->Prop} (h: ∀t:Tm,(∀u∈t.args,p u)->p t): ∀t,p t:=by
 have key: ∀n (t:Tm),t.size<=n->p t:=by
  intro n
  induction n with
  |zero=>intro t h;have:=uL t;omega
  |succ n ih=>
   intro t ht
   refine h t fun u hu=>ih u ?_
   have:=B6 hu
   rw[eU]at ht;omega
 exact fun t=>key t.size t (Nat.le_refl _)
open Go.Ab
set_option maxRecDepth 100000
set_option maxHeartbeats 4000000
theorem aKj (a b:Nat):((max a b:Nat):Int)=max (a:Int) (b:Int):=by omega
theorem bLh: ∀t:Tm,t.size<=1000000->ACall prog 127 [eT t] (fun r=>r=nt .i64 t.depth):=by
 refine fL fun t ih hs=>?_
 obtain⟨s,ts⟩:=t
 have hd:=aB6 (.mk s ts)
 have hl:=qZ ts
 rw[oT]at*
 rw[eU]at hs hd
 simp only[bX]at*
 refine aQ func127 call127 rfl (by simp[ntmps127]) ?_;simp only[ntmps127,results127]
 repeat' (first|(refine aA fun _ _=>?_)|refine zHg ?_|simp(disch:=omega) [go_sem])
 refine bL [7,8] [] (fun i:Nat=> [(9,nt .i64 i),(3,nt .i64 (eL (ts.take i)))]) (fun i:Nat=> []) (fun i:Nat=>ts.length - i) (fun i:Nat=>i<=ts.length) (0) (Le.sub4 rfl (by simp[go_sem,eL,List.take_zero])) ⟨?_⟩ ?_
 ·exact Nat.zero_le _
 intro i hi AA hAA;simp only[kL,Nat.reduceBEq,Nat.reduceEqDiff]
 have hz:=aB5 ts i
 have hdi:eL (ts.take i)<=1000000:=by
  have:=aB6 (.mk s (ts.take i));rw[oT,eU]at this;simp only[bX]at this;omega
 by_cases hlt:i<ts.length
 ·have hu:=ih ts[i] (List.getElem_mem hlt) (by have:=yA hlt;omega)
  have hn:=aKi hlt
  repeat' (first|(refine aA fun _ _=>?_)|refine zHg ?_|refine aH rfl (hu) (by simp) ?_|(refine(hAA.next (i+1) (Le.sub4 rfl (by simp[go_sem,hn,aKj])) (by(try dsimp only);omega) ?_))|simp(disch:=omega) [go_sem,hlt])
  exact⟨by omega⟩
 ·obtain rfl:i=ts.length:=by omega
  rw[List.take_length]at*
  repeat' (first|(refine aA fun _ _=>?_)|refine zHg ?_|(refine aM [] ?_;simp[go_sem])|simp(disch:=omega) [go_sem])
mutual
def kW (m:Int):Int->Tm->Int
 |lv,.mk _ ts=>if lv<1 then m+1 else iU m (lv - 1) 1 ts
def iU (m:Int):Int->Int->List Tm->Int
 |_,n,[]=>n
 |lv,n,t::r=>if n>m then n else iU m lv (n+kW m lv t) r
end
theorem B7 {m lv:Int} {t:Tm}:kW m lv t=if lv<1 then m+1 else iU m (lv - 1) 1 t.args:=by cases t;rfl
theorem aB7 {m:Int} (hm:0<=m): ∀(t:Tm) (lv:Int),1<=kW m lv t:=by
 refine fL fun t ih lv=>?_
 rw[B7]
 split
 ·omega
 ·have key: ∀(r:List Tm),(∀u∈r,∀lv,1<=kW m lv u)-> ∀n,1<=n->1<=iU m (lv - 1) n r:=by
   intro r
   induction r with
   |nil=>intro _ n hn;simpa[iU]using hn
   |cons u r ihr=>
    intro h n hn
    simp only[iU]
    split
    ·exact hn
    ·have:=h u (by simp) (lv - 1)
     exact ihr (fun v hv=>h v (by simp[hv])) _ (by omega)
  exact key t.args ih 1 (by omega)
theorem bLi {m:Int} (hm:0<=m): ∀(k:Nat) (t:Tm) (lv:Int),lv<=k->kW m lv t<=(k+1)*(m+1):=by
 intro k
 induction k with
 |zero=>
  intro t lv h
  rw[B7,if_pos (by omega)]
  simp
 |succ k ih=>
  intro t lv h
  rw[B7]
  have e:((k+1:Nat)+1:Int)*(m+1)=((k:Int)+1)*(m+1)+(m+1):=by
   rw[show((k+1:Nat)+1:Int)=((k:Int)+1)+1 by omega,Int.add_mul,Int.one_mul]
  have hp:0<=((k:Int)+1)*(m+1):=Int.mul_nonneg (by omega) (by omega)
  split
  ·omega
  ·have key: ∀(r:List Tm) (n:Int),n<=((k:Int)+1)*(m+1)+m+1->iU m (lv - 1) n r<=((k:Int)+1)*(m+1)+m+1:=by
    intro r
    induction r with
    |nil=>intro n hn;simpa[iU]using hn
    |cons u r ihr=>
     intro n hn
     simp only[iU]
     split
     ·exact hn
     ·have:=ih u (lv - 1) (by omega)
      exact ihr _ (by omega)
   have h1:1<=((k:Int)+1)*(m+1)+m+1:=by omega
   have:=key t.args 1 h1
   omega
theorem bLj {m:Int} (hm:0<=m): ∀(t:Tm) (lv:Int),kW m lv t<=m->(kW m lv t=t.size/\(t.depth:Int)<=lv):=by
 refine fL fun t ih lv h=>?_
 rw[B7]at*
 split at h
 ·omega
 ·rename_i hl
  rw[if_neg hl]
  have key: ∀(r:List Tm),(∀u∈r,u∈t.args)-> ∀n,1<=n->iU m (lv - 1) n r<=m->iU m (lv - 1) n r=n+bZ r/\(eL r:Int)<=lv - 1:=by
   intro r
   induction r with
   |nil=>intro _ n hn _;simp[iU,bZ,eL];omega
   |cons u r ihr=>
    intro hr n hn hp
    simp only[iU]at*
    split at hp
    ·omega
    ·rename_i hc
     rw[if_neg hc]
     have g:=aB7 hm u (lv - 1)
     have hmono: ∀(r:List Tm) (n:Int),n<=iU m (lv - 1) n r:=by
      intro r
      induction r with
      |nil=>intro n;simp[iU]
      |cons u r ihr=>
       intro n
       simp only[iU]
       split
       ·omega
       ·have g:=aB7 hm u (lv - 1)
        have:=ihr (n+kW m (lv - 1) u)
        omega
     have h2:=hmono r (n+kW m (lv - 1) u)
     obtain⟨a1,a2⟩:=ih u (hr u (by simp)) (lv - 1) (by omega)
     obtain⟨b1,b2⟩:=ihr (fun v hv=>hr v (by simp[hv])) (n+kW m (lv - 1) u) (by omega) hp
     simp only[bZ,eL]
     omega
  obtain⟨a1,a2⟩:=key t.args (fun u hu=>hu) 1 (by omega) h
  rw[eU,oT]
  omega
def sE (m:Int) (t:Tm):Bool:=decide (kW m m t<=m)
theorem N7 {m:Int} (hm:0<=m) {t:Tm} (h:sE m t=true):(t.size:Int)<=m:=by
 have:=of_decide_eq_true h
 have:=(bLj hm t m this).1
 omega
theorem bLk {m:Int} (hm:0<=m/\m<=10000) (t:Tm) {lv:Int} (h:lv<=10000):1<=kW m lv t/\kW m lv t<=100020001:=by
 refine⟨aB7 hm.1 t lv,?_⟩
 have h1:=bLi hm.1 10000 t lv h
 omega
theorem bLl (m:Int) (hm:0<=m/\m<=10000): ∀(t:Tm) (lv:Int),lv<=10000-> -10000<=lv->ACall prog 48 [eT t,nt .i64 m,nt .i64 lv] (fun r=>r=nt .i64 (kW m lv t)):=by
 refine fL fun t ih lv hlv hlv2=>?_
 obtain⟨s,ts⟩:=t
 rw[B7]
 simp only[bX]at*
 by_cases hl:lv<1
 ·rw[if_pos hl]
  refine aQ func48 call48 rfl (by simp[ntmps48]) ?_;simp only[ntmps48,results48]
  repeat' (first|(refine aA fun _ _=>?_)|refine zHg ?_|(refine zqd ?_ ?_<;>(intro h;first|(exfalso;omega)|(simp only[h,zT])))|(refine aM [] ?_;simp[go_sem])|simp(disch:=omega) [go_sem])
 ·rw[if_neg hl]
  generalize hR:iU m (lv - 1) 1 ts=R
  refine aQ func48 call48 rfl (by simp[ntmps48]) ?_;simp only[ntmps48,results48]
  repeat' (first|(refine aA fun _ _=>?_)|refine zHg ?_|(refine zqd ?_ ?_<;>(intro h;first|(exfalso;omega)|(simp only[h,zT])))|simp(disch:=omega) [go_sem])
  refine bL [1,2,3,15] [] (fun x:Nat×Int=> [(16,nt .i64 x.1),(7,nt .i64 x.2)]) (fun x:Nat×Int=> []) (fun x:Nat×Int=>ts.length - x.1) (fun x:Nat×Int=>x.1<=ts.length/\1+(x.1:Int)<=x.2/\x.2<=100040001/\(x.1<ts.length->x.1<=10000\/x.2>m)/\iU m (lv - 1) x.2 (ts.drop x.1)=R) ((0,1)) (Le.sub4 rfl (by simp[go_sem])) ⟨?_⟩ ?_
  ·exact⟨Nat.zero_le _,by simp,by simp,by simp,by simpa using hR⟩
  intro⟨i,n⟩ ⟨hi,hn,hn2,hbd,hr⟩ AA hAA;simp only[kL,Nat.reduceBEq,Nat.reduceEqDiff]
  dsimp only at*
  by_cases hlt:i<ts.length
  ·have hu:=ih ts[i] (List.getElem_mem hlt) (lv - 1) (by omega) (by omega)
   have hb:=bLk hm ts[i] (lv:=lv - 1) (by omega)
   have hd:ts.drop i=ts[i]::ts.drop (i+1):=List.drop_eq_getElem_cons hlt
   rw[hd]at hr
   simp only[iU]at hr
   by_cases hc:n>m
   ·rw[if_pos hc]at hr
    repeat' (first|(refine aA fun _ _=>?_)|refine zHg ?_|(refine zqd ?_ ?_<;>(intro h;first|(exfalso;omega)|(simp only[h,zT])))|(refine aM [] ?_;simp[go_sem,hlt,hr])|simp(disch:=omega) [go_sem,hlt,hr])
   ·rw[if_neg hc]at hr
    repeat' (first|(refine aA fun _ _=>?_)|refine zHg ?_|(refine zqd ?_ ?_<;>(intro h;first|(exfalso;omega)|(simp only[h,zT])))|refine aH rfl (hu) (by simp) ?_|(refine(hAA.next ((i+1,n+kW m (lv - 1) ts[i])) (Le.sub4 rfl (by simp[go_sem])) (by(try dsimp only);omega) ?_))|simp(disch:=omega) [go_sem,hlt])
    exact⟨⟨by omega,by omega,by omega,by omega,hr⟩⟩
  ·obtain rfl:i=ts.length:=by omega
   simp[iU]at hr
   repeat' (first|(refine aA fun _ _=>?_)|refine zHg ?_|(refine aM [] ?_;simp[go_sem])|simp(disch:=omega) [go_sem])
   exact hr
theorem aKk (t:Tm) (m:Int) (hm:0<=m/\m<=10000):ACall prog 21 [eT t,nt .i64 m] (fun r=>r=bl (sE m t)):=by
 have h:=bLl m hm t m hm.2 (by omega)
 unfold sE
 generalize kW m m t=q at*
 refine aQ func21 call21 rfl (by simp[ntmps21]) ?_;simp only[ntmps21,results21]
 repeat' (first|(refine aA fun _ _=>?_)|refine zHg ?_|(refine aM [] ?_;simp[go_sem])|refine aH rfl (h) (by simp) ?_|simp(disch:=omega) [go_sem])
open Go.Ab
set_option maxRecDepth 100000
def yB (p:Int×Int):AV:= .agg [nt .u8 p.1,nt .u8 p.2]
def nU (c:Int) (l:List (Int×Int)):Bool:=l.any fun p=>decide (p.1<=c)&&decide (c<=p.2)
theorem aKl (c:Int) (l f:Bool) (ss:List (Int×Int)) (hl:ss.length<=1000):ACall prog 160 [nt .u8 c,.list l f (ss.map yB)] (fun r=>r=bl (nU c ss)):=by
 refine aQ func160 call160 rfl (by simp[ntmps160]) ?_;simp only[ntmps160,results160]
 repeat' (first|(refine aA fun _ _=>?_)|refine zHg ?_|simp(disch:=omega) [go_sem])
 refine aBi (fun n s=> ∃i:Nat,i<=ss.length/\n=ss.length - i/\nU c (ss.take i)=false/\s= {n:=24,t:= [(0,nt .u8 c),(7,.list l f (ss.map yB)),(8,nt .i64 ss.length),(9,nt .i64 i),(4,bl false)],o:= []})
  ss.length {n:=24,t:= [(0,nt .u8 c),(7,.list l f (ss.map yB)),(8,nt .i64 ss.length),(9,nt .i64 0),(4,bl false)],o:= []} (Le.sub4 rfl (by simp[go_sem])) ⟨0,Nat.zero_le _,rfl,rfl,rfl⟩ ?_
 rintro _ _ ⟨i,hi,rfl,hin,rfl⟩
 by_cases hlt:i<ss.length
 ·have hs:nU c (ss.take (i+1))=(decide (ss[i].1<=c)&&decide (c<=ss[i].2)):=by
   rw[List.take_add_one,List.getElem?_eq_getElem hlt];unfold nU at*;rw[List.any_append,hin];simp
  repeat' (first|(refine aA fun _ _=>?_)|refine zHg ?_|((first|refine zqd ?_ ?_|refine zgd ?_ ?_)<;>(intro h;(simp only[h,zT])))|(refine aM [] ?_;simp[go_sem,hlt,yB])|(refine Again.mk (ss.length - (i+1)) {n:=24,t:= [(0,nt .u8 c),(7,.list l f (ss.map yB)),(8,nt .i64 ss.length),(9,nt .i64 (i+1:Nat)),(4,bl false)],o:= []} (by omega) (Le.sub4 rfl (by simp[go_sem])) ⟨i+1,by omega,rfl,by rw[hs];simp[*],rfl⟩)|simp(disch:=omega) [go_sem,hlt,yB])
  unfold nU
  rw[List.any_eq_true]
  exact⟨ss[i],List.getElem_mem hlt,by simp[*]⟩
 ·obtain rfl:i=ss.length:=by omega
  rw[List.take_length]at hin
  repeat' (first|(refine aA fun _ _=>?_)|refine zHg ?_|(refine aM [] ?_;simp[go_sem,hin])|simp(disch:=omega) [go_sem,hin])
def sF (s:ByteArray) (p q r:Int×Int) (n:Nat):Bool:=(List.range n).all fun i=>nU (bt s i) [p,q,r]
theorem bLm (s:ByteArray) (p q r:Int×Int) (n:Nat):sF s p q r (n+1)=(sF s p q r n&&nU (bt s n) [p,q,r]):=by
 simp[sF,List.range_succ,List.all_append]
def qA (s:ByteArray) (p q r:Int×Int):Bool:=decide (1<=s.size)&&decide (s.size<=16)&&nU (bt s 0) [p]&&sF s p q r s.size
theorem bLn {s:ByteArray} {p q r:Int×Int} {i:Nat} (h:nU (bt s i) [p,q,r]=false) {n:Nat} (hn:i<n):sF s p q r n=false:=by
 unfold sF;rw[List.all_eq_false];exact⟨i,by simpa using hn,by simp[h]⟩
theorem aKm (s:ByteArray) (p q r:Int×Int):ACall prog 130 [.sc (.string s),.agg [nt .u8 p.1,nt .u8 p.2,nt .u8 q.1,nt .u8 q.2,nt .u8 r.1,nt .u8 r.2]] (fun x=>x=bl (qA s p q r)):=by
 have h1:ACall prog 160 [nt .u8 (bt s 0),.list true false [.agg [nt .u8 p.1,nt .u8 p.2]]] (fun x=>x=bl (nU (bt s 0) [p])):=aKl (bt s 0) true false [p] (by simp)
 have h3: ∀i,ACall prog 160 [nt .u8 (bt s i),.list true false [.agg [nt .u8 p.1,nt .u8 p.2],.agg [nt .u8 q.1,nt .u8 q.2],.agg [nt .u8 r.1,nt .u8 r.2]]] (fun x=>x=bl (nU (bt s i) [p,q,r])):=fun i=>aKl (bt s i) true false [p,q,r] (by simp)
 by_cases a1:1<=s.size/\s.size<=16
 ·by_cases a2:nU (bt s 0) [p]=true
  ·have e:qA s p q r=sF s p q r s.size:=by simp[qA,a1,a2]
   rw[e]
   rw[a2]at h1
   refine aQ func130 call130 rfl (by simp[ntmps130]) ?_;simp only[ntmps130,results130]
   repeat' (first|(refine aA fun _ _=>?_)|refine zHg ?_|(refine zdd ?_ ?_<;>(intro h;first|(exfalso;omega)|(simp only[h,zT])))|refine dP rfl (h1) rfl (by simp) ?_|simp(disch:=omega) [go_sem]|refine zAo ?_|refine zDr 15 aS ?_|fail)
   refine aBi (fun nn ss_=> ∃i:Nat,i<=s.size/\nn=s.size - i/\(sF s p q r i=true)/\ss_= {n:=33,t:= [(0,.sc (.string s)),(3,.ptr 3 0 0),(5,nt .i64 (i))],o:= [(3,{arr:=false,fz:=false,pin:=false,es:=6,xs:= [.agg [nt .u8 p.1,nt .u8 p.2,nt .u8 q.1,nt .u8 q.2,nt .u8 r.1,nt .u8 r.2]]})]}) (s.size) {n:=33,t:= [(0,.sc (.string s)),(3,.ptr 3 0 0),(5,nt .i64 (0))],o:= [(3,{arr:=false,fz:=false,pin:=false,es:=6,xs:= [.agg [nt .u8 p.1,nt .u8 p.2,nt .u8 q.1,nt .u8 q.2,nt .u8 r.1,nt .u8 r.2]]})]} (Le.sub4 rfl (by simp[go_sem])) ⟨0,Nat.zero_le _,rfl,rfl,rfl⟩ ?_;rintro _ _ ⟨i,hi,rfl,hin,rfl⟩
   have hb:=h3 i
   by_cases hlt:i<s.size
   ·cases hz:nU (bt s i) [p,q,r]with
    |false=>
     rw[hz]at hb
     repeat' (first|(refine aA fun _ _=>?_)|refine zHg ?_|(refine aM [] ?_;simp[go_sem,hlt])|refine dP rfl (hb) rfl (by simp) ?_|simp(disch:=omega) [go_sem,hlt]|refine zDr 6 aS ?_|fail)
     all_goals exact bLn hz hlt
    |true=>
     rw[hz]at hb
     have hs:sF s p q r (i+1)=true:=by rw[bLm,hin,hz];rfl
     repeat' (first|(refine aA fun _ _=>?_)|refine zHg ?_|refine dP rfl (hb) rfl (by simp) ?_|refine Again.mk (s.size - (i+1)) {n:=33,t:= [(0,.sc (.string s)),(3,.ptr 3 0 0),(5,nt .i64 ((i+1:Nat)))],o:= [(3,{arr:=false,fz:=false,pin:=false,es:=6,xs:= [.agg [nt .u8 p.1,nt .u8 p.2,nt .u8 q.1,nt .u8 q.2,nt .u8 r.1,nt .u8 r.2]]})]} (by omega) (Le.sub4 rfl (by simp[go_sem])) ⟨i+1,by omega,rfl,hs,rfl⟩|simp(disch:=omega) [go_sem,hlt]|refine zDr 6 aS ?_|fail)
   ·obtain rfl:i=s.size:=by omega
    repeat' (first|(refine aA fun _ _=>?_)|refine zHg ?_|(refine aM [] ?_;simp[go_sem,hin])|simp(disch:=omega) [go_sem,hin])
  ·have e:qA s p q r=false:=by simp[qA,a2]
   rw[e]
   simp only[Bool.not_eq_true]at a2
   rw[a2]at h1
   refine aQ func130 call130 rfl (by simp[ntmps130]) ?_;simp only[ntmps130,results130]
   repeat' (first|(refine aA fun _ _=>?_)|refine zHg ?_|(refine zdd ?_ ?_<;>(intro h;first|(exfalso;omega)|(simp only[h,zT])))|(refine aM [] ?_;simp[go_sem])|refine dP rfl (h1) rfl (by simp) ?_|simp(disch:=omega) [go_sem]|refine zAo ?_|refine zDr 15 aS ?_|fail)
 ·have e:qA s p q r=false:=by simp[qA];omega
  rw[e]
  refine aQ func130 call130 rfl (by simp[ntmps130]) ?_;simp only[ntmps130,results130]
  repeat' (first|(refine aA fun _ _=>?_)|refine zHg ?_|(refine zdd ?_ ?_<;>(intro h;first|(exfalso;omega)|(simp only[h,zT])))|(refine aM [] ?_;simp[go_sem])|simp(disch:=omega) [go_sem]|refine zDr 15 aS ?_|fail)
abbrev sIf:ByteArray:=ByteArray.mk #[105,102]
abbrev aKo:ByteArray:=ByteArray.mk #[97,110,100]
abbrev aKp:ByteArray:=ByteArray.mk #[110,111,116]
def lS (s:ByteArray):Bool:=qA s (97,122) (48,57) (45,45)&& !decide (s=sIf)&& !decide (s=aKo)&& !decide (s=aKp)
theorem N8 (s:ByteArray):ACall prog 84 [.sc (.string s)] (fun r=>r=bl (lS s)):=by
 have h1:=aKm s (97,122) (48,57) (45,45)
 simp only[lS]
 generalize qA s (97,122) (48,57) (45,45)=b at*
 refine aQ func84 call84 rfl (by simp[ntmps84]) ?_;simp only[ntmps84,results84]
 cases b
 ·repeat' (first|(refine aA fun _ _=>?_)|refine zHg ?_|(refine aM [] ?_;simp[go_sem])|refine aH rfl (h1) (by simp) ?_|simp(disch:=omega) [go_sem])
 ·repeat' (first|(refine aA fun _ _=>?_)|refine zHg ?_|(refine zgn ?_ ?_<;>(intro h;(simp only[h,zT])))|(refine aM [] ?_;simp[go_sem])|refine aH rfl (h1) (by simp) ?_|simp(disch:=omega) [go_sem])
  all_goals(simp_all [sIf,aKo,aKp]<;>(rw[Bool.eq_iff_iff];simp))
def qB (s:ByteArray):Bool:=qA s (65,90) (97,122) (48,57)
theorem aB8 (s:ByteArray):ACall prog 129 [.sc (.string s)] (fun r=>r=bl (qB s)):=by
 have h1:=aKm s (65,90) (97,122) (48,57)
 simp only[qB]
 generalize qA s (65,90) (97,122) (48,57)=b at*
 refine aQ func129 call129 rfl (by simp[ntmps129]) ?_;simp only[ntmps129,results129]
 repeat' (first|(refine aA fun _ _=>?_)|refine zHg ?_|(refine aM [] ?_;simp[go_sem])|refine aH rfl (h1) (by simp) ?_|simp(disch:=omega) [go_sem])
end Go.Proofs.YtbgckcdddlmiaaaGreatDoor
