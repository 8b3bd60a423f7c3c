import Derived.Test.YtgmibdiofkmmbaaGreatDoorA5
import Derived.Test.YtgmibdiofkmmbaaGreatDoorRows
set_option linter.all false
open Go.Proofs.Tryz
namespace Go.Proofs.YtgmibdiofkmmbaaGreatDoor
open Go.Ab
variable [Glob prog]
theorem bSs (a0 b0:Int) (a1 b1:Int) (a2 b2:Bool) (a3 b3:Int):dE prog .eql 7 (.agg [.sc (.int .i64 a0),.sc (.int .i64 a1),.sc (.bool a2),.sc (.int .u8 a3)]) (.agg [.sc (.int .i64 b0),.sc (.int .i64 b1),.sc (.bool b2),.sc (.int .u8 b3)])=some ⟨true,bl (decide (a0=b0/\a1=b1/\a2=b2/\a3=b3))⟩:=(by kernel_rfl:dE prog .eql 7 (.agg [.sc (.int .i64 a0),.sc (.int .i64 a1),.sc (.bool a2),.sc (.int .u8 a3)]) (.agg [.sc (.int .i64 b0),.sc (.int .i64 b1),.sc (.bool b2),.sc (.int .u8 b3)])=some ⟨true,bl (((a0==b0)&&((a1==b1)&&((a2==b2)&&((a3==b3)&&(true))))))⟩).trans (by congr 3;rw[Bool.eq_iff_iff];simp only[gH,beq_iff_eq,Bool.and_eq_true,decide_eq_true_eq,and_true,and_assoc])
theorem bSt (a0 b0:Int) (a1 b1:Int) (a2 b2:Bool) (a3 b3:Int):dE prog .neq 7 (.agg [.sc (.int .i64 a0),.sc (.int .i64 a1),.sc (.bool a2),.sc (.int .u8 a3)]) (.agg [.sc (.int .i64 b0),.sc (.int .i64 b1),.sc (.bool b2),.sc (.int .u8 b3)])=some ⟨true,bl (!decide (a0=b0/\a1=b1/\a2=b2/\a3=b3))⟩:=(by kernel_rfl:dE prog .neq 7 (.agg [.sc (.int .i64 a0),.sc (.int .i64 a1),.sc (.bool a2),.sc (.int .u8 a3)]) (.agg [.sc (.int .i64 b0),.sc (.int .i64 b1),.sc (.bool b2),.sc (.int .u8 b3)])=some ⟨true,bl (!((a0==b0)&&((a1==b1)&&((a2==b2)&&((a3==b3)&&(true))))))⟩).trans (by congr 4;rw[Bool.eq_iff_iff];simp only[gH,beq_iff_eq,Bool.and_eq_true,decide_eq_true_eq,and_true,and_assoc])
theorem bS3 (a0 b0:Int) (a1 b1:Int) (a2 b2:Bool) (a3 b3:Int):dE prog .eql 8 (.agg [.sc (.int .i64 a0),.sc (.int .i64 a1),.sc (.bool a2),.sc (.int .u8 a3)]) (.agg [.sc (.int .i64 b0),.sc (.int .i64 b1),.sc (.bool b2),.sc (.int .u8 b3)])=some ⟨true,bl (decide (a0=b0/\a1=b1/\a2=b2/\a3=b3))⟩:=(by kernel_rfl:dE prog .eql 8 (.agg [.sc (.int .i64 a0),.sc (.int .i64 a1),.sc (.bool a2),.sc (.int .u8 a3)]) (.agg [.sc (.int .i64 b0),.sc (.int .i64 b1),.sc (.bool b2),.sc (.int .u8 b3)])=some ⟨true,bl (((a0==b0)&&((a1==b1)&&((a2==b2)&&((a3==b3)&&(true))))))⟩).trans (by congr 3;rw[Bool.eq_iff_iff];simp only[gH,beq_iff_eq,Bool.and_eq_true,decide_eq_true_eq,and_true,and_assoc])
theorem bS4 (a0 b0:Int) (a1 b1:Int) (a2 b2:Bool) (a3 b3:Int):dE prog .neq 8 (.agg [.sc (.int .i64 a0),.sc (.int .i64 a1),.sc (.bool a2),.sc (.int .u8 a3)]) (.agg [.sc (.int .i64 b0),.sc (.int .i64 b1),.sc (.bool b2),.sc (.int .u8 b3)])=some ⟨true,bl (!decide (a0=b0/\a1=b1/\a2=b2/\a3=b3))⟩:=(by kernel_rfl:dE prog .neq 8 (.agg [.sc (.int .i64 a0),.sc (.int .i64 a1),.sc (.bool a2),.sc (.int .u8 a3)]) (.agg [.sc (.int .i64 b0),.sc (.int .i64 b1),.sc (.bool b2),.sc (.int .u8 b3)])=some ⟨true,bl (!((a0==b0)&&((a1==b1)&&((a2==b2)&&((a3==b3)&&(true))))))⟩).trans (by congr 4;rw[Bool.eq_iff_iff];simp only[gH,beq_iff_eq,Bool.and_eq_true,decide_eq_true_eq,and_true,and_assoc])
theorem aM9:cI prog 23=some (33,2,40):=by kernel_rfl
theorem cB7 (a0 b0:Int):dE prog .eql 66 (.agg [.sc (.int .i64 a0)]) (.agg [.sc (.int .i64 b0)])=some ⟨true,bl (decide (a0=b0))⟩:=(by kernel_rfl:dE prog .eql 66 (.agg [.sc (.int .i64 a0)]) (.agg [.sc (.int .i64 b0)])=some ⟨true,bl (((a0==b0)&&(true)))⟩).trans (by congr 3;rw[Bool.eq_iff_iff];simp only[gH,beq_iff_eq,Bool.and_eq_true,decide_eq_true_eq,and_true,and_assoc])
theorem cB8 (a0 b0:Int):dE prog .neq 66 (.agg [.sc (.int .i64 a0)]) (.agg [.sc (.int .i64 b0)])=some ⟨true,bl (!decide (a0=b0))⟩:=(by kernel_rfl:dE prog .neq 66 (.agg [.sc (.int .i64 a0)]) (.agg [.sc (.int .i64 b0)])=some ⟨true,bl (!((a0==b0)&&(true)))⟩).trans (by congr 4;rw[Bool.eq_iff_iff];simp only[gH,beq_iff_eq,Bool.and_eq_true,decide_eq_true_eq,and_true,and_assoc])
theorem cCf (a0 b0:Int):dE prog .eql 67 (.agg [.sc (.int .i64 a0)]) (.agg [.sc (.int .i64 b0)])=some ⟨true,bl (decide (a0=b0))⟩:=(by kernel_rfl:dE prog .eql 67 (.agg [.sc (.int .i64 a0)]) (.agg [.sc (.int .i64 b0)])=some ⟨true,bl (((a0==b0)&&(true)))⟩).trans (by congr 3;rw[Bool.eq_iff_iff];simp only[gH,beq_iff_eq,Bool.and_eq_true,decide_eq_true_eq,and_true,and_assoc])
theorem cCg (a0 b0:Int):dE prog .neq 67 (.agg [.sc (.int .i64 a0)]) (.agg [.sc (.int .i64 b0)])=some ⟨true,bl (!decide (a0=b0))⟩:=(by kernel_rfl:dE prog .neq 67 (.agg [.sc (.int .i64 a0)]) (.agg [.sc (.int .i64 b0)])=some ⟨true,bl (!((a0==b0)&&(true)))⟩).trans (by congr 4;rw[Bool.eq_iff_iff];simp only[gH,beq_iff_eq,Bool.and_eq_true,decide_eq_true_eq,and_true,and_assoc])
theorem cCh {s:ByteArray}:iC prog 68 (.string s)=true:=by kernel_rfl
theorem cEl (a0 b0:ByteArray) (a1 b1:Int):dE prog .eql 81 (.agg [.sc (.string a0),.sc (.int .i64 a1)]) (.agg [.sc (.string b0),.sc (.int .i64 b1)])=some ⟨true,bl (decide (a0=b0/\a1=b1))⟩:=(by kernel_rfl:dE prog .eql 81 (.agg [.sc (.string a0),.sc (.int .i64 a1)]) (.agg [.sc (.string b0),.sc (.int .i64 b1)])=some ⟨true,bl (((a0==b0)&&((a1==b1)&&(true))))⟩).trans (by congr 3;rw[Bool.eq_iff_iff];simp only[gH,beq_iff_eq,Bool.and_eq_true,decide_eq_true_eq,and_true,and_assoc])
theorem cEm (a0 b0:ByteArray) (a1 b1:Int):dE prog .neq 81 (.agg [.sc (.string a0),.sc (.int .i64 a1)]) (.agg [.sc (.string b0),.sc (.int .i64 b1)])=some ⟨true,bl (!decide (a0=b0/\a1=b1))⟩:=(by kernel_rfl:dE prog .neq 81 (.agg [.sc (.string a0),.sc (.int .i64 a1)]) (.agg [.sc (.string b0),.sc (.int .i64 b1)])=some ⟨true,bl (!((a0==b0)&&((a1==b1)&&(true))))⟩).trans (by congr 4;rw[Bool.eq_iff_iff];simp only[gH,beq_iff_eq,Bool.and_eq_true,decide_eq_true_eq,and_true,and_assoc])
theorem cEu (a0 b0:ByteArray) (a1 b1:Int):dE prog .eql 82 (.agg [.sc (.string a0),.sc (.int .i64 a1)]) (.agg [.sc (.string b0),.sc (.int .i64 b1)])=some ⟨true,bl (decide (a0=b0/\a1=b1))⟩:=(by kernel_rfl:dE prog .eql 82 (.agg [.sc (.string a0),.sc (.int .i64 a1)]) (.agg [.sc (.string b0),.sc (.int .i64 b1)])=some ⟨true,bl (((a0==b0)&&((a1==b1)&&(true))))⟩).trans (by congr 3;rw[Bool.eq_iff_iff];simp only[gH,beq_iff_eq,Bool.and_eq_true,decide_eq_true_eq,and_true,and_assoc])
theorem cEv (a0 b0:ByteArray) (a1 b1:Int):dE prog .neq 82 (.agg [.sc (.string a0),.sc (.int .i64 a1)]) (.agg [.sc (.string b0),.sc (.int .i64 b1)])=some ⟨true,bl (!decide (a0=b0/\a1=b1))⟩:=(by kernel_rfl:dE prog .neq 82 (.agg [.sc (.string a0),.sc (.int .i64 a1)]) (.agg [.sc (.string b0),.sc (.int .i64 b1)])=some ⟨true,bl (!((a0==b0)&&((a1==b1)&&(true))))⟩).trans (by congr 4;rw[Bool.eq_iff_iff];simp only[gH,beq_iff_eq,Bool.and_eq_true,decide_eq_true_eq,and_true,and_assoc])
theorem cFg {s:ByteArray}:iC prog 87 (.string s)=true:=by kernel_rfl
theorem cFm {s:ByteArray}:iC prog 88 (.string s)=true:=by kernel_rfl
theorem cH7 (a0 b0:ByteArray) (a1 b1:ByteArray) (a2 b2:Bool):dE prog .eql 106 (.agg [.sc (.string a0),.sc (.string a1),.sc (.bool a2)]) (.agg [.sc (.string b0),.sc (.string b1),.sc (.bool b2)])=some ⟨true,bl (decide (a0=b0/\a1=b1/\a2=b2))⟩:=(by kernel_rfl:dE prog .eql 106 (.agg [.sc (.string a0),.sc (.string a1),.sc (.bool a2)]) (.agg [.sc (.string b0),.sc (.string b1),.sc (.bool b2)])=some ⟨true,bl (((a0==b0)&&((a1==b1)&&((a2==b2)&&(true)))))⟩).trans (by congr 3;rw[Bool.eq_iff_iff];simp only[gH,beq_iff_eq,Bool.and_eq_true,decide_eq_true_eq,and_true,and_assoc])
theorem cH8 (a0 b0:ByteArray) (a1 b1:ByteArray) (a2 b2:Bool):dE prog .neq 106 (.agg [.sc (.string a0),.sc (.string a1),.sc (.bool a2)]) (.agg [.sc (.string b0),.sc (.string b1),.sc (.bool b2)])=some ⟨true,bl (!decide (a0=b0/\a1=b1/\a2=b2))⟩:=(by kernel_rfl:dE prog .neq 106 (.agg [.sc (.string a0),.sc (.string a1),.sc (.bool a2)]) (.agg [.sc (.string b0),.sc (.string b1),.sc (.bool b2)])=some ⟨true,bl (!((a0==b0)&&((a1==b1)&&((a2==b2)&&(true)))))⟩).trans (by congr 4;rw[Bool.eq_iff_iff];simp only[gH,beq_iff_eq,Bool.and_eq_true,decide_eq_true_eq,and_true,and_assoc])
theorem aE2:aQ prog 107=some (true,3):=by kernel_rfl
theorem cIj (a0 b0:ByteArray) (a1 b1:ByteArray) (a2 b2:Bool):dE prog .eql 107 (.agg [.sc (.string a0),.sc (.string a1),.sc (.bool a2)]) (.agg [.sc (.string b0),.sc (.string b1),.sc (.bool b2)])=some ⟨true,bl (decide (a0=b0/\a1=b1/\a2=b2))⟩:=(by kernel_rfl:dE prog .eql 107 (.agg [.sc (.string a0),.sc (.string a1),.sc (.bool a2)]) (.agg [.sc (.string b0),.sc (.string b1),.sc (.bool b2)])=some ⟨true,bl (((a0==b0)&&((a1==b1)&&((a2==b2)&&(true)))))⟩).trans (by congr 3;rw[Bool.eq_iff_iff];simp only[gH,beq_iff_eq,Bool.and_eq_true,decide_eq_true_eq,and_true,and_assoc])
theorem cIk (a0 b0:ByteArray) (a1 b1:ByteArray) (a2 b2:Bool):dE prog .neq 107 (.agg [.sc (.string a0),.sc (.string a1),.sc (.bool a2)]) (.agg [.sc (.string b0),.sc (.string b1),.sc (.bool b2)])=some ⟨true,bl (!decide (a0=b0/\a1=b1/\a2=b2))⟩:=(by kernel_rfl:dE prog .neq 107 (.agg [.sc (.string a0),.sc (.string a1),.sc (.bool a2)]) (.agg [.sc (.string b0),.sc (.string b1),.sc (.bool b2)])=some ⟨true,bl (!((a0==b0)&&((a1==b1)&&((a2==b2)&&(true)))))⟩).trans (by congr 4;rw[Bool.eq_iff_iff];simp only[gH,beq_iff_eq,Bool.and_eq_true,decide_eq_true_eq,and_true,and_assoc])
theorem cKt {s:ByteArray}:iC prog 123 (.string s)=true:=by kernel_rfl
theorem cLw (a0 b0:ByteArray) (a1 b1:Int):dE prog .eql 130 (.agg [.sc (.string a0),.sc (.int .i64 a1)]) (.agg [.sc (.string b0),.sc (.int .i64 b1)])=some ⟨true,bl (decide (a0=b0/\a1=b1))⟩:=(by kernel_rfl:dE prog .eql 130 (.agg [.sc (.string a0),.sc (.int .i64 a1)]) (.agg [.sc (.string b0),.sc (.int .i64 b1)])=some ⟨true,bl (((a0==b0)&&((a1==b1)&&(true))))⟩).trans (by congr 3;rw[Bool.eq_iff_iff];simp only[gH,beq_iff_eq,Bool.and_eq_true,decide_eq_true_eq,and_true,and_assoc])
theorem cLx (a0 b0:ByteArray) (a1 b1:Int):dE prog .neq 130 (.agg [.sc (.string a0),.sc (.int .i64 a1)]) (.agg [.sc (.string b0),.sc (.int .i64 b1)])=some ⟨true,bl (!decide (a0=b0/\a1=b1))⟩:=(by kernel_rfl:dE prog .neq 130 (.agg [.sc (.string a0),.sc (.int .i64 a1)]) (.agg [.sc (.string b0),.sc (.int .i64 b1)])=some ⟨true,bl (!((a0==b0)&&((a1==b1)&&(true))))⟩).trans (by congr 4;rw[Bool.eq_iff_iff];simp only[gH,beq_iff_eq,Bool.and_eq_true,decide_eq_true_eq,and_true,and_assoc])
theorem cMc (a0 b0:Int) (a1 b1:Int) (a2 b2:Int) (a3 b3:ByteArray):dE prog .eql 133 (.agg [.sc (.int .i64 a0),.sc (.int .i64 a1),.sc (.int .i64 a2),.sc (.string a3)]) (.agg [.sc (.int .i64 b0),.sc (.int .i64 b1),.sc (.int .i64 b2),.sc (.string b3)])=some ⟨true,bl (decide (a0=b0/\a1=b1/\a2=b2/\a3=b3))⟩:=(by kernel_rfl:dE prog .eql 133 (.agg [.sc (.int .i64 a0),.sc (.int .i64 a1),.sc (.int .i64 a2),.sc (.string a3)]) (.agg [.sc (.int .i64 b0),.sc (.int .i64 b1),.sc (.int .i64 b2),.sc (.string b3)])=some ⟨true,bl (((a0==b0)&&((a1==b1)&&((a2==b2)&&((a3==b3)&&(true))))))⟩).trans (by congr 3;rw[Bool.eq_iff_iff];simp only[gH,beq_iff_eq,Bool.and_eq_true,decide_eq_true_eq,and_true,and_assoc])
theorem cMd (a0 b0:Int) (a1 b1:Int) (a2 b2:Int) (a3 b3:ByteArray):dE prog .neq 133 (.agg [.sc (.int .i64 a0),.sc (.int .i64 a1),.sc (.int .i64 a2),.sc (.string a3)]) (.agg [.sc (.int .i64 b0),.sc (.int .i64 b1),.sc (.int .i64 b2),.sc (.string b3)])=some ⟨true,bl (!decide (a0=b0/\a1=b1/\a2=b2/\a3=b3))⟩:=(by kernel_rfl:dE prog .neq 133 (.agg [.sc (.int .i64 a0),.sc (.int .i64 a1),.sc (.int .i64 a2),.sc (.string a3)]) (.agg [.sc (.int .i64 b0),.sc (.int .i64 b1),.sc (.int .i64 b2),.sc (.string b3)])=some ⟨true,bl (!((a0==b0)&&((a1==b1)&&((a2==b2)&&((a3==b3)&&(true))))))⟩).trans (by congr 4;rw[Bool.eq_iff_iff];simp only[gH,beq_iff_eq,Bool.and_eq_true,decide_eq_true_eq,and_true,and_assoc])
theorem cMn (a0 b0:Int) (a1 b1:Int) (a2 b2:Int) (a3 b3:ByteArray):dE prog .eql 134 (.agg [.sc (.int .i64 a0),.sc (.int .i64 a1),.sc (.int .i64 a2),.sc (.string a3)]) (.agg [.sc (.int .i64 b0),.sc (.int .i64 b1),.sc (.int .i64 b2),.sc (.string b3)])=some ⟨true,bl (decide (a0=b0/\a1=b1/\a2=b2/\a3=b3))⟩:=(by kernel_rfl:dE prog .eql 134 (.agg [.sc (.int .i64 a0),.sc (.int .i64 a1),.sc (.int .i64 a2),.sc (.string a3)]) (.agg [.sc (.int .i64 b0),.sc (.int .i64 b1),.sc (.int .i64 b2),.sc (.string b3)])=some ⟨true,bl (((a0==b0)&&((a1==b1)&&((a2==b2)&&((a3==b3)&&(true))))))⟩).trans (by congr 3;rw[Bool.eq_iff_iff];simp only[gH,beq_iff_eq,Bool.and_eq_true,decide_eq_true_eq,and_true,and_assoc])
theorem cMo (a0 b0:Int) (a1 b1:Int) (a2 b2:Int) (a3 b3:ByteArray):dE prog .neq 134 (.agg [.sc (.int .i64 a0),.sc (.int .i64 a1),.sc (.int .i64 a2),.sc (.string a3)]) (.agg [.sc (.int .i64 b0),.sc (.int .i64 b1),.sc (.int .i64 b2),.sc (.string b3)])=some ⟨true,bl (!decide (a0=b0/\a1=b1/\a2=b2/\a3=b3))⟩:=(by kernel_rfl:dE prog .neq 134 (.agg [.sc (.int .i64 a0),.sc (.int .i64 a1),.sc (.int .i64 a2),.sc (.string a3)]) (.agg [.sc (.int .i64 b0),.sc (.int .i64 b1),.sc (.int .i64 b2),.sc (.string b3)])=some ⟨true,bl (!((a0==b0)&&((a1==b1)&&((a2==b2)&&((a3==b3)&&(true))))))⟩).trans (by congr 4;rw[Bool.eq_iff_iff];simp only[gH,beq_iff_eq,Bool.and_eq_true,decide_eq_true_eq,and_true,and_assoc])
theorem cOa (a0 b0:ByteArray) (a1 b1:Int) (a2 b2:Bool) (a3 b3:Bool):dE prog .eql 149 (.agg [.sc (.string a0),.sc (.int .i64 a1),.sc (.bool a2),.sc (.bool a3)]) (.agg [.sc (.string b0),.sc (.int .i64 b1),.sc (.bool b2),.sc (.bool b3)])=some ⟨true,bl (decide (a0=b0/\a1=b1/\a2=b2/\a3=b3))⟩:=(by kernel_rfl:dE prog .eql 149 (.agg [.sc (.string a0),.sc (.int .i64 a1),.sc (.bool a2),.sc (.bool a3)]) (.agg [.sc (.string b0),.sc (.int .i64 b1),.sc (.bool b2),.sc (.bool b3)])=some ⟨true,bl (((a0==b0)&&((a1==b1)&&((a2==b2)&&((a3==b3)&&(true))))))⟩).trans (by congr 3;rw[Bool.eq_iff_iff];simp only[gH,beq_iff_eq,Bool.and_eq_true,decide_eq_true_eq,and_true,and_assoc])
theorem cOb (a0 b0:ByteArray) (a1 b1:Int) (a2 b2:Bool) (a3 b3:Bool):dE prog .neq 149 (.agg [.sc (.string a0),.sc (.int .i64 a1),.sc (.bool a2),.sc (.bool a3)]) (.agg [.sc (.string b0),.sc (.int .i64 b1),.sc (.bool b2),.sc (.bool b3)])=some ⟨true,bl (!decide (a0=b0/\a1=b1/\a2=b2/\a3=b3))⟩:=(by kernel_rfl:dE prog .neq 149 (.agg [.sc (.string a0),.sc (.int .i64 a1),.sc (.bool a2),.sc (.bool a3)]) (.agg [.sc (.string b0),.sc (.int .i64 b1),.sc (.bool b2),.sc (.bool b3)])=some ⟨true,bl (!((a0==b0)&&((a1==b1)&&((a2==b2)&&((a3==b3)&&(true))))))⟩).trans (by congr 4;rw[Bool.eq_iff_iff];simp only[gH,beq_iff_eq,Bool.and_eq_true,decide_eq_true_eq,and_true,and_assoc])
theorem cOo (a0 b0:ByteArray) (a1 b1:Int) (a2 b2:Bool) (a3 b3:Bool):dE prog .eql 150 (.agg [.sc (.string a0),.sc (.int .i64 a1),.sc (.bool a2),.sc (.bool a3)]) (.agg [.sc (.string b0),.sc (.int .i64 b1),.sc (.bool b2),.sc (.bool b3)])=some ⟨true,bl (decide (a0=b0/\a1=b1/\a2=b2/\a3=b3))⟩:=(by kernel_rfl:dE prog .eql 150 (.agg [.sc (.string a0),.sc (.int .i64 a1),.sc (.bool a2),.sc (.bool a3)]) (.agg [.sc (.string b0),.sc (.int .i64 b1),.sc (.bool b2),.sc (.bool b3)])=some ⟨true,bl (((a0==b0)&&((a1==b1)&&((a2==b2)&&((a3==b3)&&(true))))))⟩).trans (by congr 3;rw[Bool.eq_iff_iff];simp only[gH,beq_iff_eq,Bool.and_eq_true,decide_eq_true_eq,and_true,and_assoc])
theorem cOp (a0 b0:ByteArray) (a1 b1:Int) (a2 b2:Bool) (a3 b3:Bool):dE prog .neq 150 (.agg [.sc (.string a0),.sc (.int .i64 a1),.sc (.bool a2),.sc (.bool a3)]) (.agg [.sc (.string b0),.sc (.int .i64 b1),.sc (.bool b2),.sc (.bool b3)])=some ⟨true,bl (!decide (a0=b0/\a1=b1/\a2=b2/\a3=b3))⟩:=(by kernel_rfl:dE prog .neq 150 (.agg [.sc (.string a0),.sc (.int .i64 a1),.sc (.bool a2),.sc (.bool a3)]) (.agg [.sc (.string b0),.sc (.int .i64 b1),.sc (.bool b2),.sc (.bool b3)])=some ⟨true,bl (!((a0==b0)&&((a1==b1)&&((a2==b2)&&((a3==b3)&&(true))))))⟩).trans (by congr 4;rw[Bool.eq_iff_iff];simp only[gH,beq_iff_eq,Bool.and_eq_true,decide_eq_true_eq,and_true,and_assoc])
theorem cPf (a0 b0:Int) (a1 b1:Int):dE prog .eql 155 (.agg [.sc (.int .u8 a0),.sc (.int .u8 a1)]) (.agg [.sc (.int .u8 b0),.sc (.int .u8 b1)])=some ⟨true,bl (decide (a0=b0/\a1=b1))⟩:=(by kernel_rfl:dE prog .eql 155 (.agg [.sc (.int .u8 a0),.sc (.int .u8 a1)]) (.agg [.sc (.int .u8 b0),.sc (.int .u8 b1)])=some ⟨true,bl (((a0==b0)&&((a1==b1)&&(true))))⟩).trans (by congr 3;rw[Bool.eq_iff_iff];simp only[gH,beq_iff_eq,Bool.and_eq_true,decide_eq_true_eq,and_true,and_assoc])
theorem cPg (a0 b0:Int) (a1 b1:Int):dE prog .neq 155 (.agg [.sc (.int .u8 a0),.sc (.int .u8 a1)]) (.agg [.sc (.int .u8 b0),.sc (.int .u8 b1)])=some ⟨true,bl (!decide (a0=b0/\a1=b1))⟩:=(by kernel_rfl:dE prog .neq 155 (.agg [.sc (.int .u8 a0),.sc (.int .u8 a1)]) (.agg [.sc (.int .u8 b0),.sc (.int .u8 b1)])=some ⟨true,bl (!((a0==b0)&&((a1==b1)&&(true))))⟩).trans (by congr 4;rw[Bool.eq_iff_iff];simp only[gH,beq_iff_eq,Bool.and_eq_true,decide_eq_true_eq,and_true,and_assoc])
theorem cPr (a0 b0:Int) (a1 b1:Int):dE prog .eql 156 (.agg [.sc (.int .u8 a0),.sc (.int .u8 a1)]) (.agg [.sc (.int .u8 b0),.sc (.int .u8 b1)])=some ⟨true,bl (decide (a0=b0/\a1=b1))⟩:=(by kernel_rfl:dE prog .eql 156 (.agg [.sc (.int .u8 a0),.sc (.int .u8 a1)]) (.agg [.sc (.int .u8 b0),.sc (.int .u8 b1)])=some ⟨true,bl (((a0==b0)&&((a1==b1)&&(true))))⟩).trans (by congr 3;rw[Bool.eq_iff_iff];simp only[gH,beq_iff_eq,Bool.and_eq_true,decide_eq_true_eq,and_true,and_assoc])
theorem cPs (a0 b0:Int) (a1 b1:Int):dE prog .neq 156 (.agg [.sc (.int .u8 a0),.sc (.int .u8 a1)]) (.agg [.sc (.int .u8 b0),.sc (.int .u8 b1)])=some ⟨true,bl (!decide (a0=b0/\a1=b1))⟩:=(by kernel_rfl:dE prog .neq 156 (.agg [.sc (.int .u8 a0),.sc (.int .u8 a1)]) (.agg [.sc (.int .u8 b0),.sc (.int .u8 b1)])=some ⟨true,bl (!((a0==b0)&&((a1==b1)&&(true))))⟩).trans (by congr 4;rw[Bool.eq_iff_iff];simp only[gH,beq_iff_eq,Bool.and_eq_true,decide_eq_true_eq,and_true,and_assoc])
theorem cPz {a0:ByteArray} {a1:ByteArray} {a2:Bool}:iC prog 158 (.agg #[.string a0,.string a1,.bool a2])=true:=by kernel_rfl
theorem cQu {s:ByteArray}:iC prog 167 (.string s)=true:=by kernel_rfl
theorem aG6:aQ prog 0=some (false,1)/\(prog.underlying 0).isSome=true/\aU prog 0=0/\aQ prog 1=some (false,1)/\bG prog 1=3/\(prog.underlying 1).isSome=true/\aR prog 1=some (.sc .nilFunc)/\aU prog 1=0/\aQ prog 2=some (false,1)/\nR prog 2=some .i64/\(prog.underlying 2).isSome=true/\aR prog 2=some (nt .i64 0)/\aU prog 2=0/\aQ prog 3=some (false,1)/\nR prog 3=some .i64/\(prog.underlying 3).isSome=true/\aR prog 3=some (nt .i64 0)/\aU prog 3=0/\lQ prog 3=some 1/\eY prog 3=0/\eI prog 3=some (.int .i64 0)/\aQ prog 4=some (false,1)/\yZ prog 4=true/\(prog.underlying 4).isSome=true/\aR prog 4=some (bl false)/\aU prog 4=0/\aQ prog 5=some (false,1)/\nR prog 5=some .u8/\(prog.underlying 5).isSome=true/\aR prog 5=some (nt .u8 0)/\aU prog 5=0/\aQ prog 6=some (false,1)/\nR prog 6=some .u8/\(prog.underlying 6).isSome=true/\aR prog 6=some (nt .u8 0)/\aU prog 6=0/\aQ prog 7=some (true,4)/\cP prog 7 0=some (0,2,1)/\cP prog 7 1=some (1,3,1)/\cP prog 7 2=some (2,4,1)/\cP prog 7 3=some (3,6,1)/\(prog.underlying 7).isSome=true/\aR prog 7=some (.agg [nt .i64 0,nt .i64 0,bl false,nt .u8 0])/\aU prog 7=0/\fH prog 7=some ([nt .i64 0,nt .i64 0,bl false,nt .u8 0],[(0,1),(1,1),(2,1),(3,1)])/\aQ prog 8=some (true,4)/\cP prog 8 0=some (0,2,1)/\cP prog 8 1=some (1,3,1)/\cP prog 8 2=some (2,4,1)/\cP prog 8 3=some (3,6,1)/\(prog.underlying 8).isSome=true/\aR prog 8=some (.agg [nt .i64 0,nt .i64 0,bl false,nt .u8 0])/\aU prog 8=0/\fH prog 8=some ([nt .i64 0,nt .i64 0,bl false,nt .u8 0],[(0,1),(1,1),(2,1),(3,1)])/\aQ prog 9=some (false,1)/\nS prog 9=true/\(prog.underlying 9).isSome=true/\aR prog 9=some (.sc (.string (ByteArray.mk #[])))/\aU prog 9=0/\gU prog 9=true:=by and_intros<;>kernel_rfl
theorem aHd:lQ prog 9=some 1/\eY prog 9=0/\eI prog 9=some (.string (ByteArray.mk #[]))/\aQ prog 10=some (false,1)/\nS prog 10=true/\(prog.underlying 10).isSome=true/\aR prog 10=some (.sc (.string (ByteArray.mk #[])))/\aU prog 10=0/\gU prog 10=true/\aQ prog 11=some (false,1)/\nS prog 11=true/\(prog.underlying 11).isSome=true/\aR prog 11=some (.sc (.string (ByteArray.mk #[])))/\aU prog 11=0/\gU prog 11=true/\aQ prog 12=some (false,1)/\nR prog 12=some .u64/\(prog.underlying 12).isSome=true/\aR prog 12=some (nt .u64 0)/\aU prog 12=0/\aQ prog 13=some (true,2)/\cP prog 13 0=some (0,9,1)/\cP prog 13 1=some (1,12,1)/\(prog.underlying 13).isSome=true/\aR prog 13=some (.agg [.sc (.string (ByteArray.mk #[])),nt .u64 0])/\aU prog 13=0/\fH prog 13=some ([.sc (.string (ByteArray.mk #[])),nt .u64 0],[(0,1),(1,1)])/\aQ prog 14=some (true,2)/\cP prog 14 0=some (0,9,1)/\cP prog 14 1=some (1,12,1)/\(prog.underlying 14).isSome=true/\aR prog 14=some (.agg [.sc (.string (ByteArray.mk #[])),nt .u64 0])/\aU prog 14=0/\fH prog 14=some ([.sc (.string (ByteArray.mk #[])),nt .u64 0],[(0,1),(1,1)])/\aQ prog 15=some (false,1)/\bG prog 15=2/\(prog.underlying 15).isSome=true/\aR prog 15=some (.sc (.pointer none))/\aU prog 15=0/\aQ prog 16=some (false,1)/\bG prog 16=2/\(prog.underlying 16).isSome=true/\aR prog 16=some (.sc (.pointer none))/\aU prog 16=0/\aQ prog 17=some (false,1)/\bG prog 17=2/\(prog.underlying 17).isSome=true/\aR prog 17=some (.sc (.pointer none))/\aU prog 17=0/\aQ prog 18=some (true,1)/\cP prog 18 0=some (0,17,1)/\(prog.underlying 18).isSome=true/\aR prog 18=some (.agg [.sc (.pointer none)])/\aU prog 18=0/\fH prog 18=some ([.sc (.pointer none)],[(0,1)])/\aQ prog 19=some (true,1)/\cP prog 19 0=some (0,17,1)/\(prog.underlying 19).isSome=true/\aR prog 19=some (.agg [.sc (.pointer none)])/\aU prog 19=0:=by and_intros<;>kernel_rfl
theorem aLc:fH prog 19=some ([.sc (.pointer none)],[(0,1)])/\aQ prog 20=some (false,1)/\(prog.underlying 20).isSome=true/\aR prog 20=some (.sc .nilIface)/\aU prog 20=0/\aQ prog 21=some (false,1)/\nR prog 21=some .i32/\(prog.underlying 21).isSome=true/\aR prog 21=some (nt .i32 0)/\aU prog 21=0/\aQ prog 22=some (false,1)/\cI prog 22=some (41,3,64)/\bG prog 22=1/\(prog.underlying 22).isSome=true/\aR prog 22=some (.list false true [])/\aU prog 22=0/\gU prog 22=true/\aQ prog 23=some (false,1)/\bG prog 23=1/\(prog.underlying 23).isSome=true/\aR prog 23=some (.list false true [])/\aU prog 23=0/\gU prog 23=true/\aQ prog 24=some (false,1)/\bG prog 24=3/\(prog.underlying 24).isSome=true/\aR prog 24=some (.sc .nilFunc)/\aU prog 24=0/\aQ prog 25=some (false,1)/\bG prog 25=3/\(prog.underlying 25).isSome=true/\aR prog 25=some (.sc .nilFunc)/\aU prog 25=0/\aQ prog 26=some (false,1)/\nR prog 26=some .i64/\(prog.underlying 26).isSome=true/\aR prog 26=some (nt .i64 0)/\aU prog 26=0/\aQ prog 27=some (false,1)/\(prog.underlying 27).isSome=true/\aU prog 27=0/\aQ prog 28=some (false,1)/\bG prog 28=3/\(prog.underlying 28).isSome=true/\aR prog 28=some (.sc .nilFunc)/\aU prog 28=0/\aQ prog 29=some (false,1)/\bG prog 29=3/\(prog.underlying 29).isSome=true/\aR prog 29=some (.sc .nilFunc)/\aU prog 29=0/\aQ prog 30=some (false,1)/\bG prog 30=3/\(prog.underlying 30).isSome=true/\aR prog 30=some (.sc .nilFunc)/\aU prog 30=0/\aQ prog 31=some (false,1)/\bG prog 31=3/\(prog.underlying 31).isSome=true/\aR prog 31=some (.sc .nilFunc):=by and_intros<;>kernel_rfl
theorem aLd:aU prog 31=0/\aQ prog 32=some (true,2)/\cP prog 32 0=some (0,9,1)/\cP prog 32 1=some (1,23,1)/\(prog.underlying 32).isSome=true/\aR prog 32=some (.agg [.sc (.string (ByteArray.mk #[])),.list false true []])/\aU prog 32=0/\fH prog 32=some ([.sc (.string (ByteArray.mk #[])),.list false true []],[(0,1),(1,1)])/\aQ prog 33=some (true,2)/\cP prog 33 0=some (0,9,1)/\cP prog 33 1=some (1,23,1)/\(prog.underlying 33).isSome=true/\aR prog 33=some (.agg [.sc (.string (ByteArray.mk #[])),.list false true []])/\aU prog 33=0/\lQ prog 33=some 2/\eY prog 33=0/\eI prog 33=some (.agg #[.string (ByteArray.mk #[]),.slice none 0 0])/\fH prog 33=some ([.sc (.string (ByteArray.mk #[])),.list false true []],[(0,1),(1,1)])/\aQ prog 34=some (false,1)/\bG prog 34=3/\(prog.underlying 34).isSome=true/\aR prog 34=some (.sc .nilFunc)/\aU prog 34=0/\aQ prog 35=some (false,1)/\bG prog 35=3/\(prog.underlying 35).isSome=true/\aR prog 35=some (.sc .nilFunc)/\aU prog 35=0/\aQ prog 36=some (false,1)/\bG prog 36=3/\(prog.underlying 36).isSome=true/\aR prog 36=some (.sc .nilFunc)/\aU prog 36=0/\aQ prog 37=some (false,1)/\bG prog 37=3/\(prog.underlying 37).isSome=true/\aR prog 37=some (.sc .nilFunc)/\aU prog 37=0/\aQ prog 38=some (false,1)/\bG prog 38=3/\(prog.underlying 38).isSome=true/\aR prog 38=some (.sc .nilFunc)/\aU prog 38=0/\aQ prog 39=some (false,1)/\cI prog 39=some (43,3,48)/\bG prog 39=1/\(prog.underlying 39).isSome=true/\aR prog 39=some (.list false true [])/\aU prog 39=0/\gU prog 39=true/\aQ prog 40=some (true,3)/\cP prog 40 0=some (0,33,2)/\cP prog 40 1=some (2,39,1)/\(prog.underlying 40).isSome=true/\aR prog 40=some (.agg [.sc (.string (ByteArray.mk #[])),.list false true [],.list false true []])/\aU prog 40=0/\fH prog 40=some ([.sc (.string (ByteArray.mk #[])),.list false true [],.list false true []],[(0,2),(2,1)])/\aQ prog 41=some (true,3)/\cP prog 41 0=some (0,33,2)/\cP prog 41 1=some (2,39,1):=by and_intros<;>kernel_rfl
theorem aLr:(prog.underlying 41).isSome=true/\aR prog 41=some (.agg [.sc (.string (ByteArray.mk #[])),.list false true [],.list false true []])/\aU prog 41=0/\lQ prog 41=some 3/\eY prog 41=0/\eI prog 41=some (.agg #[.string (ByteArray.mk #[]),.slice none 0 0,.slice none 0 0])/\fH prog 41=some ([.sc (.string (ByteArray.mk #[])),.list false true [],.list false true []],[(0,2),(2,1)])/\aQ prog 42=some (true,3)/\cP prog 42 0=some (0,4,1)/\cP prog 42 1=some (1,33,2)/\(prog.underlying 42).isSome=true/\aR prog 42=some (.agg [bl false,.sc (.string (ByteArray.mk #[])),.list false true []])/\aU prog 42=0/\fH prog 42=some ([bl false,.sc (.string (ByteArray.mk #[])),.list false true []],[(0,1),(1,2)])/\aQ prog 43=some (true,3)/\cP prog 43 0=some (0,4,1)/\cP prog 43 1=some (1,33,2)/\(prog.underlying 43).isSome=true/\aR prog 43=some (.agg [bl false,.sc (.string (ByteArray.mk #[])),.list false true []])/\aU prog 43=0/\lQ prog 43=some 3/\eY prog 43=0/\eI prog 43=some (.agg #[.bool false,.string (ByteArray.mk #[]),.slice none 0 0])/\fH prog 43=some ([bl false,.sc (.string (ByteArray.mk #[])),.list false true []],[(0,1),(1,2)])/\aQ prog 44=some (false,1)/\(prog.underlying 44).isSome=true/\aU prog 44=0/\aQ prog 45=some (false,1)/\bG prog 45=3/\(prog.underlying 45).isSome=true/\aR prog 45=some (.sc .nilFunc)/\aU prog 45=0/\aQ prog 46=some (false,1)/\bG prog 46=3/\(prog.underlying 46).isSome=true/\aR prog 46=some (.sc .nilFunc)/\aU prog 46=0/\aQ prog 47=some (false,1)/\bG prog 47=3/\(prog.underlying 47).isSome=true/\aR prog 47=some (.sc .nilFunc)/\aU prog 47=0/\aQ prog 48=some (false,1)/\bG prog 48=3/\(prog.underlying 48).isSome=true/\aR prog 48=some (.sc .nilFunc)/\aU prog 48=0/\aQ prog 49=some (false,1)/\bG prog 49=3/\(prog.underlying 49).isSome=true/\aR prog 49=some (.sc .nilFunc)/\aU prog 49=0/\aQ prog 50=some (false,1)/\bG prog 50=3/\(prog.underlying 50).isSome=true/\aR prog 50=some (.sc .nilFunc)/\aU prog 50=0/\aQ prog 51=some (false,1)/\bG prog 51=3/\(prog.underlying 51).isSome=true:=by and_intros<;>kernel_rfl
theorem aSn:aR prog 51=some (.sc .nilFunc)/\aU prog 51=0/\aQ prog 52=some (false,1)/\bG prog 52=3/\(prog.underlying 52).isSome=true/\aR prog 52=some (.sc .nilFunc)/\aU prog 52=0/\aQ prog 53=some (false,1)/\bG prog 53=3/\(prog.underlying 53).isSome=true/\aR prog 53=some (.sc .nilFunc)/\aU prog 53=0/\aQ prog 54=some (false,1)/\bG prog 54=3/\(prog.underlying 54).isSome=true/\aR prog 54=some (.sc .nilFunc)/\aU prog 54=0/\aQ prog 55=some (false,1)/\bG prog 55=3/\(prog.underlying 55).isSome=true/\aR prog 55=some (.sc .nilFunc)/\aU prog 55=0/\aQ prog 56=some (false,1)/\bG prog 56=3/\(prog.underlying 56).isSome=true/\aR prog 56=some (.sc .nilFunc)/\aU prog 56=0/\aQ prog 57=some (false,1)/\bG prog 57=3/\(prog.underlying 57).isSome=true/\aR prog 57=some (.sc .nilFunc)/\aU prog 57=0/\aQ prog 58=some (false,1)/\bG prog 58=3/\(prog.underlying 58).isSome=true/\aR prog 58=some (.sc .nilFunc)/\aU prog 58=0/\aQ prog 59=some (false,1)/\cI prog 59=some (107,3,40)/\bG prog 59=1/\(prog.underlying 59).isSome=true/\aR prog 59=some (.list false true [])/\aU prog 59=0/\gU prog 59=true/\aQ prog 60=some (false,1)/\bG prog 60=3/\(prog.underlying 60).isSome=true/\aR prog 60=some (.sc .nilFunc)/\aU prog 60=0/\aQ prog 61=some (false,1)/\bG prog 61=3/\(prog.underlying 61).isSome=true/\aR prog 61=some (.sc .nilFunc)/\aU prog 61=0/\aQ prog 62=some (false,1)/\cI prog 62=some (130,2,24)/\bG prog 62=1/\(prog.underlying 62).isSome=true/\aR prog 62=some (.list false true [])/\aU prog 62=0:=by and_intros<;>kernel_rfl
theorem aTt:gU prog 62=true/\aQ prog 63=some (false,1)/\(prog.underlying 63).isSome=true/\aU prog 63=0/\aQ prog 64=some (false,1)/\bG prog 64=3/\(prog.underlying 64).isSome=true/\aR prog 64=some (.sc .nilFunc)/\aU prog 64=0/\aQ prog 65=some (false,1)/\bG prog 65=2/\(prog.underlying 65).isSome=true/\aR prog 65=some (.sc (.pointer none))/\aU prog 65=0/\aQ prog 66=some (true,1)/\cP prog 66 0=some (0,3,1)/\(prog.underlying 66).isSome=true/\aR prog 66=some (.agg [nt .i64 0])/\aU prog 66=0/\fH prog 66=some ([nt .i64 0],[(0,1)])/\aQ prog 67=some (true,1)/\cP prog 67 0=some (0,3,1)/\(prog.underlying 67).isSome=true/\aR prog 67=some (.agg [nt .i64 0])/\aU prog 67=0/\fH prog 67=some ([nt .i64 0],[(0,1)])/\aQ prog 68=some (false,1)/\(prog.underlying 68).isSome=true/\aR prog 68=some (.sc (.map none))/\aU prog 68=0/\qK prog 68=some (bl false)/\aQ prog 69=some (false,1)/\bG prog 69=3/\(prog.underlying 69).isSome=true/\aR prog 69=some (.sc .nilFunc)/\aU prog 69=0/\aQ prog 70=some (false,1)/\bG prog 70=3/\(prog.underlying 70).isSome=true/\aR prog 70=some (.sc .nilFunc)/\aU prog 70=0/\aQ prog 71=some (false,1)/\bG prog 71=3/\(prog.underlying 71).isSome=true/\aR prog 71=some (.sc .nilFunc)/\aU prog 71=0/\aQ prog 72=some (false,1)/\cI prog 72=some (77,1,24)/\bG prog 72=1/\(prog.underlying 72).isSome=true/\aR prog 72=some (.list false true [])/\aU prog 72=0/\gU prog 72=true/\aQ prog 73=some (false,1)/\(prog.underlying 73).isSome=true/\aU prog 73=0/\aQ prog 74=some (false,1)/\bG prog 74=3/\(prog.underlying 74).isSome=true/\aR prog 74=some (.sc .nilFunc):=by and_intros<;>kernel_rfl
theorem aT1:aU prog 74=0/\aQ prog 75=some (false,1)/\(prog.underlying 75).isSome=true/\aU prog 75=0/\aQ prog 76=some (false,1)/\bG prog 76=3/\(prog.underlying 76).isSome=true/\aR prog 76=some (.sc .nilFunc)/\aU prog 76=0/\aQ prog 77=some (false,1)/\cI prog 77=some (118,3,56)/\bG prog 77=1/\(prog.underlying 77).isSome=true/\aR prog 77=some (.list false true [])/\aU prog 77=0/\gU prog 77=true/\lQ prog 77=some 1/\eY prog 77=0/\eI prog 77=some (.slice none 0 0)/\aQ prog 78=some (false,1)/\bG prog 78=3/\(prog.underlying 78).isSome=true/\aR prog 78=some (.sc .nilFunc)/\aU prog 78=0/\aQ prog 79=some (false,1)/\bG prog 79=3/\(prog.underlying 79).isSome=true/\aR prog 79=some (.sc .nilFunc)/\aU prog 79=0/\aQ prog 80=some (false,1)/\bG prog 80=2/\(prog.underlying 80).isSome=true/\aR prog 80=some (.sc (.pointer none))/\aU prog 80=0/\aQ prog 81=some (true,2)/\cP prog 81 0=some (0,9,1)/\cP prog 81 1=some (1,3,1)/\(prog.underlying 81).isSome=true/\aR prog 81=some (.agg [.sc (.string (ByteArray.mk #[])),nt .i64 0])/\aU prog 81=0/\fH prog 81=some ([.sc (.string (ByteArray.mk #[])),nt .i64 0],[(0,1),(1,1)])/\aQ prog 82=some (true,2)/\cP prog 82 0=some (0,9,1)/\cP prog 82 1=some (1,3,1)/\(prog.underlying 82).isSome=true/\aR prog 82=some (.agg [.sc (.string (ByteArray.mk #[])),nt .i64 0])/\aU prog 82=0/\fH prog 82=some ([.sc (.string (ByteArray.mk #[])),nt .i64 0],[(0,1),(1,1)])/\aQ prog 83=some (false,1)/\bG prog 83=3/\(prog.underlying 83).isSome=true/\aR prog 83=some (.sc .nilFunc)/\aU prog 83=0/\aQ prog 84=some (false,1)/\bG prog 84=3/\(prog.underlying 84).isSome=true/\aR prog 84=some (.sc .nilFunc)/\aU prog 84=0/\aQ prog 85=some (false,1)/\bG prog 85=3:=by and_intros<;>kernel_rfl
theorem aVk:(prog.underlying 85).isSome=true/\aR prog 85=some (.sc .nilFunc)/\aU prog 85=0/\aQ prog 86=some (false,1)/\bG prog 86=3/\(prog.underlying 86).isSome=true/\aR prog 86=some (.sc .nilFunc)/\aU prog 86=0/\aQ prog 87=some (false,1)/\(prog.underlying 87).isSome=true/\aR prog 87=some (.sc (.map none))/\aU prog 87=0/\qK prog 87=some (.list false true [])/\aQ prog 88=some (false,1)/\(prog.underlying 88).isSome=true/\aR prog 88=some (.sc (.map none))/\aU prog 88=0/\qK prog 88=some (.list false true [])/\aQ prog 89=some (false,1)/\bG prog 89=3/\(prog.underlying 89).isSome=true/\aR prog 89=some (.sc .nilFunc)/\aU prog 89=0/\aQ prog 90=some (false,1)/\bG prog 90=3/\(prog.underlying 90).isSome=true/\aR prog 90=some (.sc .nilFunc)/\aU prog 90=0/\aQ prog 91=some (false,1)/\bG prog 91=3/\(prog.underlying 91).isSome=true/\aR prog 91=some (.sc .nilFunc)/\aU prog 91=0/\aQ prog 92=some (false,1)/\cI prog 92=some (172,3,56)/\bG prog 92=1/\(prog.underlying 92).isSome=true/\aR prog 92=some (.list false true [])/\aU prog 92=0/\gU prog 92=true/\lQ prog 92=some 1/\eY prog 92=0/\eI prog 92=some (.slice none 0 0)/\aQ prog 93=some (false,1)/\cI prog 93=some (172,3,56)/\bG prog 93=1/\(prog.underlying 93).isSome=true/\aR prog 93=some (.list false true [])/\aU prog 93=0/\gU prog 93=true/\aQ prog 95=some (false,1)/\bG prog 95=3/\(prog.underlying 95).isSome=true/\aR prog 95=some (.sc .nilFunc)/\aU prog 95=0/\aQ prog 98=some (false,1)/\cI prog 98=some (92,1,24)/\bG prog 98=1/\(prog.underlying 98).isSome=true/\aR prog 98=some (.list false true []):=by and_intros<;>kernel_rfl
theorem dJy:aU prog 98=0/\gU prog 98=true/\aQ prog 99=some (false,1)/\bG prog 99=3/\(prog.underlying 99).isSome=true/\aR prog 99=some (.sc .nilFunc)/\aU prog 99=0/\aQ prog 100=some (false,1)/\bG prog 100=3/\(prog.underlying 100).isSome=true/\aR prog 100=some (.sc .nilFunc)/\aU prog 100=0/\aQ prog 101=some (false,1)/\bG prog 101=3/\(prog.underlying 101).isSome=true/\aR prog 101=some (.sc .nilFunc)/\aU prog 101=0/\aQ prog 102=some (false,1)/\bG prog 102=3/\(prog.underlying 102).isSome=true/\aR prog 102=some (.sc .nilFunc)/\aU prog 102=0/\aQ prog 103=some (false,1)/\bG prog 103=3/\(prog.underlying 103).isSome=true/\aR prog 103=some (.sc .nilFunc)/\aU prog 103=0/\aQ prog 104=some (false,1)/\bG prog 104=3/\(prog.underlying 104).isSome=true/\aR prog 104=some (.sc .nilFunc)/\aU prog 104=0/\aQ prog 105=some (false,1)/\bG prog 105=3/\(prog.underlying 105).isSome=true/\aR prog 105=some (.sc .nilFunc)/\aU prog 105=0/\aQ prog 106=some (true,3)/\cP prog 106 0=some (0,9,1)/\cP prog 106 1=some (1,9,1)/\cP prog 106 2=some (2,4,1)/\(prog.underlying 106).isSome=true/\aR prog 106=some (.agg [.sc (.string (ByteArray.mk #[])),.sc (.string (ByteArray.mk #[])),bl false])/\aU prog 106=0/\fH prog 106=some ([.sc (.string (ByteArray.mk #[])),.sc (.string (ByteArray.mk #[])),bl false],[(0,1),(1,1),(2,1)])/\cP prog 107 0=some (0,9,1)/\cP prog 107 1=some (1,9,1)/\cP prog 107 2=some (2,4,1)/\(prog.underlying 107).isSome=true/\aR prog 107=some (.agg [.sc (.string (ByteArray.mk #[])),.sc (.string (ByteArray.mk #[])),bl false])/\aU prog 107=0/\lQ prog 107=some 3/\eY prog 107=0/\eI prog 107=some (.agg #[.string (ByteArray.mk #[]),.string (ByteArray.mk #[]),.bool false])/\fH prog 107=some ([.sc (.string (ByteArray.mk #[])),.sc (.string (ByteArray.mk #[])),bl false],[(0,1),(1,1),(2,1)])/\aQ prog 108=some (false,1)/\bG prog 108=3/\(prog.underlying 108).isSome=true/\aR prog 108=some (.sc .nilFunc)/\aU prog 108=0:=by and_intros<;>kernel_rfl
theorem dMm:aQ prog 109=some (false,1)/\bG prog 109=3/\(prog.underlying 109).isSome=true/\aR prog 109=some (.sc .nilFunc)/\aU prog 109=0/\aQ prog 110=some (false,1)/\cI prog 110=some (9,1,16)/\bG prog 110=1/\(prog.underlying 110).isSome=true/\aR prog 110=some (.list false true [])/\aU prog 110=0/\gU prog 110=true/\aQ prog 111=some (false,1)/\bG prog 111=3/\(prog.underlying 111).isSome=true/\aR prog 111=some (.sc .nilFunc)/\aU prog 111=0/\aQ prog 112=some (false,1)/\(prog.underlying 112).isSome=true/\aU prog 112=0/\aQ prog 113=some (false,1)/\bG prog 113=3/\(prog.underlying 113).isSome=true/\aR prog 113=some (.sc .nilFunc)/\aU prog 113=0/\aQ prog 114=some (false,1)/\bG prog 114=3/\(prog.underlying 114).isSome=true/\aR prog 114=some (.sc .nilFunc)/\aU prog 114=0/\aQ prog 115=some (false,1)/\(prog.underlying 115).isSome=true/\aU prog 115=0/\aQ prog 116=some (false,1)/\bG prog 116=3/\(prog.underlying 116).isSome=true/\aR prog 116=some (.sc .nilFunc)/\aU prog 116=0/\aQ prog 117=some (true,3)/\cP prog 117 0=some (0,9,1)/\cP prog 117 1=some (1,33,2)/\(prog.underlying 117).isSome=true/\aR prog 117=some (.agg [.sc (.string (ByteArray.mk #[])),.sc (.string (ByteArray.mk #[])),.list false true []])/\aU prog 117=0/\fH prog 117=some ([.sc (.string (ByteArray.mk #[])),.sc (.string (ByteArray.mk #[])),.list false true []],[(0,1),(1,2)])/\aQ prog 118=some (true,3)/\cP prog 118 0=some (0,9,1)/\cP prog 118 1=some (1,33,2)/\(prog.underlying 118).isSome=true/\aR prog 118=some (.agg [.sc (.string (ByteArray.mk #[])),.sc (.string (ByteArray.mk #[])),.list false true []])/\aU prog 118=0/\lQ prog 118=some 3/\eY prog 118=0/\eI prog 118=some (.agg #[.string (ByteArray.mk #[]),.string (ByteArray.mk #[]),.slice none 0 0])/\fH prog 118=some ([.sc (.string (ByteArray.mk #[])),.sc (.string (ByteArray.mk #[])),.list false true []],[(0,1),(1,2)])/\aQ prog 119=some (false,1)/\bG prog 119=3/\(prog.underlying 119).isSome=true/\aR prog 119=some (.sc .nilFunc)/\aU prog 119=0:=by and_intros<;>kernel_rfl
theorem dMn:aQ prog 120=some (false,1)/\bG prog 120=3/\(prog.underlying 120).isSome=true/\aR prog 120=some (.sc .nilFunc)/\aU prog 120=0/\aQ prog 121=some (false,1)/\bG prog 121=3/\(prog.underlying 121).isSome=true/\aR prog 121=some (.sc .nilFunc)/\aU prog 121=0/\aQ prog 122=some (false,1)/\bG prog 122=3/\(prog.underlying 122).isSome=true/\aR prog 122=some (.sc .nilFunc)/\aU prog 122=0/\aQ prog 123=some (false,1)/\(prog.underlying 123).isSome=true/\aR prog 123=some (.sc (.map none))/\aU prog 123=0/\qK prog 123=some (nt .i64 0)/\aQ prog 124=some (false,1)/\(prog.underlying 124).isSome=true/\aU prog 124=0/\aQ prog 125=some (false,1)/\bG prog 125=3/\(prog.underlying 125).isSome=true/\aR prog 125=some (.sc .nilFunc)/\aU prog 125=0/\aQ prog 126=some (false,1)/\bG prog 126=3/\(prog.underlying 126).isSome=true/\aR prog 126=some (.sc .nilFunc)/\aU prog 126=0/\aQ prog 127=some (false,1)/\bG prog 127=3/\(prog.underlying 127).isSome=true/\aR prog 127=some (.sc .nilFunc)/\aU prog 127=0/\aQ prog 128=some (false,1)/\bG prog 128=3/\(prog.underlying 128).isSome=true/\aR prog 128=some (.sc .nilFunc)/\aU prog 128=0/\aQ prog 130=some (true,2)/\cP prog 130 0=some (0,9,1)/\cP prog 130 1=some (1,3,1)/\(prog.underlying 130).isSome=true/\aR prog 130=some (.agg [.sc (.string (ByteArray.mk #[])),nt .i64 0])/\aU prog 130=0/\lQ prog 130=some 2/\eY prog 130=0/\eI prog 130=some (.agg #[.string (ByteArray.mk #[]),.int .i64 0])/\fH prog 130=some ([.sc (.string (ByteArray.mk #[])),nt .i64 0],[(0,1),(1,1)])/\aQ prog 131=some (false,1)/\bG prog 131=3/\(prog.underlying 131).isSome=true/\aR prog 131=some (.sc .nilFunc)/\aU prog 131=0/\aQ prog 133=some (true,4)/\cP prog 133 0=some (0,3,1):=by and_intros<;>kernel_rfl
theorem dMo:cP prog 133 1=some (1,3,1)/\cP prog 133 2=some (2,3,1)/\cP prog 133 3=some (3,9,1)/\(prog.underlying 133).isSome=true/\aR prog 133=some (.agg [nt .i64 0,nt .i64 0,nt .i64 0,.sc (.string (ByteArray.mk #[]))])/\aU prog 133=0/\fH prog 133=some ([nt .i64 0,nt .i64 0,nt .i64 0,.sc (.string (ByteArray.mk #[]))],[(0,1),(1,1),(2,1),(3,1)])/\aQ prog 134=some (true,4)/\cP prog 134 0=some (0,3,1)/\cP prog 134 1=some (1,3,1)/\cP prog 134 2=some (2,3,1)/\cP prog 134 3=some (3,9,1)/\(prog.underlying 134).isSome=true/\aR prog 134=some (.agg [nt .i64 0,nt .i64 0,nt .i64 0,.sc (.string (ByteArray.mk #[]))])/\aU prog 134=0/\fH prog 134=some ([nt .i64 0,nt .i64 0,nt .i64 0,.sc (.string (ByteArray.mk #[]))],[(0,1),(1,1),(2,1),(3,1)])/\aQ prog 135=some (false,1)/\bG prog 135=3/\(prog.underlying 135).isSome=true/\aR prog 135=some (.sc .nilFunc)/\aU prog 135=0/\aQ prog 136=some (false,1)/\bG prog 136=3/\(prog.underlying 136).isSome=true/\aR prog 136=some (.sc .nilFunc)/\aU prog 136=0/\aQ prog 141=some (false,1)/\bG prog 141=3/\(prog.underlying 141).isSome=true/\aR prog 141=some (.sc .nilFunc)/\aU prog 141=0/\aQ prog 142=some (false,1)/\(prog.underlying 142).isSome=true/\aU prog 142=0/\aQ prog 143=some (false,1)/\bG prog 143=3/\(prog.underlying 143).isSome=true/\aR prog 143=some (.sc .nilFunc)/\aU prog 143=0/\aQ prog 144=some (false,1)/\bG prog 144=3/\(prog.underlying 144).isSome=true/\aR prog 144=some (.sc .nilFunc)/\aU prog 144=0/\aQ prog 145=some (false,1)/\bG prog 145=3/\(prog.underlying 145).isSome=true/\aR prog 145=some (.sc .nilFunc)/\aU prog 145=0/\aQ prog 146=some (false,1)/\bG prog 146=3/\(prog.underlying 146).isSome=true/\aR prog 146=some (.sc .nilFunc)/\aU prog 146=0/\aQ prog 147=some (false,1)/\bG prog 147=3/\(prog.underlying 147).isSome=true/\aR prog 147=some (.sc .nilFunc)/\aU prog 147=0/\aQ prog 148=some (false,1):=by and_intros<;>kernel_rfl
theorem dMp:bG prog 148=3/\(prog.underlying 148).isSome=true/\aR prog 148=some (.sc .nilFunc)/\aU prog 148=0/\aQ prog 149=some (true,4)/\cP prog 149 0=some (0,9,1)/\cP prog 149 1=some (1,3,1)/\cP prog 149 2=some (2,4,1)/\cP prog 149 3=some (3,4,1)/\(prog.underlying 149).isSome=true/\aR prog 149=some (.agg [.sc (.string (ByteArray.mk #[])),nt .i64 0,bl false,bl false])/\aU prog 149=0/\fH prog 149=some ([.sc (.string (ByteArray.mk #[])),nt .i64 0,bl false,bl false],[(0,1),(1,1),(2,1),(3,1)])/\aQ prog 150=some (true,4)/\cP prog 150 0=some (0,9,1)/\cP prog 150 1=some (1,3,1)/\cP prog 150 2=some (2,4,1)/\cP prog 150 3=some (3,4,1)/\(prog.underlying 150).isSome=true/\aR prog 150=some (.agg [.sc (.string (ByteArray.mk #[])),nt .i64 0,bl false,bl false])/\aU prog 150=0/\lQ prog 150=some 4/\eY prog 150=0/\eI prog 150=some (.agg #[.string (ByteArray.mk #[]),.int .i64 0,.bool false,.bool false])/\fH prog 150=some ([.sc (.string (ByteArray.mk #[])),nt .i64 0,bl false,bl false],[(0,1),(1,1),(2,1),(3,1)])/\aQ prog 151=some (false,1)/\(prog.underlying 151).isSome=true/\aU prog 151=0/\aQ prog 152=some (false,1)/\bG prog 152=3/\(prog.underlying 152).isSome=true/\aR prog 152=some (.sc .nilFunc)/\aU prog 152=0/\aQ prog 153=some (false,1)/\bG prog 153=3/\(prog.underlying 153).isSome=true/\aR prog 153=some (.sc .nilFunc)/\aU prog 153=0/\aQ prog 154=some (false,1)/\bG prog 154=3/\(prog.underlying 154).isSome=true/\aR prog 154=some (.sc .nilFunc)/\aU prog 154=0/\aQ prog 155=some (true,2)/\cP prog 155 0=some (0,5,1)/\cP prog 155 1=some (1,5,1)/\(prog.underlying 155).isSome=true/\aR prog 155=some (.agg [nt .u8 0,nt .u8 0])/\aU prog 155=0/\fH prog 155=some ([nt .u8 0,nt .u8 0],[(0,1),(1,1)])/\aQ prog 156=some (true,2)/\cP prog 156 0=some (0,5,1)/\cP prog 156 1=some (1,5,1)/\(prog.underlying 156).isSome=true/\aR prog 156=some (.agg [nt .u8 0,nt .u8 0])/\aU prog 156=0/\lQ prog 156=some 2/\eY prog 156=0/\eI prog 156=some (.agg #[.int .u8 0,.int .u8 0])/\fH prog 156=some ([nt .u8 0,nt .u8 0],[(0,1),(1,1)]):=by and_intros<;>kernel_rfl
theorem dMq:aQ prog 157=some (true,6)/\mY prog 157=some (3,156,2)/\(prog.underlying 157).isSome=true/\aR prog 157=some (.agg [nt .u8 0,nt .u8 0,nt .u8 0,nt .u8 0,nt .u8 0,nt .u8 0])/\aU prog 157=0/\fH prog 157=some ([nt .u8 0,nt .u8 0,nt .u8 0,nt .u8 0,nt .u8 0,nt .u8 0],[(0,2),(2,2),(4,2)])/\aQ prog 158=some (false,1)/\(prog.underlying 158).isSome=true/\aR prog 158=some (.sc (.map none))/\aU prog 158=0/\qK prog 158=some (bl false)/\aQ prog 159=some (false,1)/\bG prog 159=3/\(prog.underlying 159).isSome=true/\aR prog 159=some (.sc .nilFunc)/\aU prog 159=0/\aQ prog 160=some (false,1)/\bG prog 160=3/\(prog.underlying 160).isSome=true/\aR prog 160=some (.sc .nilFunc)/\aU prog 160=0/\aQ prog 161=some (false,1)/\bG prog 161=3/\(prog.underlying 161).isSome=true/\aR prog 161=some (.sc .nilFunc)/\aU prog 161=0/\aQ prog 163=some (false,1)/\bG prog 163=3/\(prog.underlying 163).isSome=true/\aR prog 163=some (.sc .nilFunc)/\aU prog 163=0/\aQ prog 166=some (false,1)/\bG prog 166=3/\(prog.underlying 166).isSome=true/\aR prog 166=some (.sc .nilFunc)/\aU prog 166=0/\aQ prog 167=some (false,1)/\(prog.underlying 167).isSome=true/\aR prog 167=some (.sc (.map none))/\aU prog 167=0/\qK prog 167=some (.list false true [])/\aQ prog 168=some (false,1)/\bG prog 168=3/\(prog.underlying 168).isSome=true/\aR prog 168=some (.sc .nilFunc)/\aU prog 168=0/\aQ prog 169=some (false,1)/\nR prog 169=some .u64/\(prog.underlying 169).isSome=true/\aR prog 169=some (nt .u64 0)/\aU prog 169=0/\aQ prog 170=some (false,1)/\bG prog 170=3/\(prog.underlying 170).isSome=true/\aR prog 170=some (.sc .nilFunc)/\aU prog 170=0/\aQ prog 171=some (true,3)/\cP prog 171 0=some (0,9,1)/\cP prog 171 1=some (1,33,2)/\(prog.underlying 171).isSome=true:=by and_intros<;>kernel_rfl
theorem dMr:aR prog 171=some (.agg [.sc (.string (ByteArray.mk #[])),.sc (.string (ByteArray.mk #[])),.list false true []])/\aU prog 171=0/\fH prog 171=some ([.sc (.string (ByteArray.mk #[])),.sc (.string (ByteArray.mk #[])),.list false true []],[(0,1),(1,2)])/\aQ prog 172=some (true,3)/\cP prog 172 0=some (0,9,1)/\cP prog 172 1=some (1,33,2)/\(prog.underlying 172).isSome=true/\aR prog 172=some (.agg [.sc (.string (ByteArray.mk #[])),.sc (.string (ByteArray.mk #[])),.list false true []])/\aU prog 172=0/\lQ prog 172=some 3/\eY prog 172=0/\eI prog 172=some (.agg #[.string (ByteArray.mk #[]),.string (ByteArray.mk #[]),.slice none 0 0])/\fH prog 172=some ([.sc (.string (ByteArray.mk #[])),.sc (.string (ByteArray.mk #[])),.list false true []],[(0,1),(1,2)])/\aQ prog 173=some (false,1)/\bG prog 173=3/\(prog.underlying 173).isSome=true/\aR prog 173=some (.sc .nilFunc)/\aU prog 173=0/\aQ prog 174=some (false,1)/\bG prog 174=3/\(prog.underlying 174).isSome=true/\aR prog 174=some (.sc .nilFunc)/\aU prog 174=0/\aQ prog 175=some (false,1)/\bG prog 175=3/\(prog.underlying 175).isSome=true/\aR prog 175=some (.sc .nilFunc)/\aU prog 175=0/\aQ prog 176=some (false,1)/\bG prog 176=3/\(prog.underlying 176).isSome=true/\aR prog 176=some (.sc .nilFunc)/\aU prog 176=0/\aQ prog 177=some (false,1)/\cI prog 177=some (150,4,32)/\bG prog 177=1/\(prog.underlying 177).isSome=true/\aR prog 177=some (.list false true [])/\aU prog 177=0/\gU prog 177=true/\aQ prog 178=some (true,40)/\mY prog 178=some (10,150,4)/\(prog.underlying 178).isSome=true/\aR prog 178=some (.agg [.sc (.string (ByteArray.mk #[])),nt .i64 0,bl false,bl false,.sc (.string (ByteArray.mk #[])),nt .i64 0,bl false,bl false,.sc (.string (ByteArray.mk #[])),nt .i64 0,bl false,bl false,.sc (.string (ByteArray.mk #[])),nt .i64 0,bl false,bl false,.sc (.string (ByteArray.mk #[])),nt .i64 0,bl false,bl false,.sc (.string (ByteArray.mk #[])),nt .i64 0,bl false,bl false,.sc (.string (ByteArray.mk #[])),nt .i64 0,bl false,bl false,.sc (.string (ByteArray.mk #[])),nt .i64 0,bl false,bl false,.sc (.string (ByteArray.mk #[])),nt .i64 0,bl false,bl false,.sc (.string (ByteArray.mk #[])),nt .i64 0,bl false,bl false])/\aU prog 178=0/\fH prog 178=some ([.sc (.string (ByteArray.mk #[])),nt .i64 0,bl false,bl false,.sc (.string (ByteArray.mk #[])),nt .i64 0,bl false,bl false,.sc (.string (ByteArray.mk #[])),nt .i64 0,bl false,bl false,.sc (.string (ByteArray.mk #[])),nt .i64 0,bl false,bl false,.sc (.string (ByteArray.mk #[])),nt .i64 0,bl false,bl false,.sc (.string (ByteArray.mk #[])),nt .i64 0,bl false,bl false,.sc (.string (ByteArray.mk #[])),nt .i64 0,bl false,bl false,.sc (.string (ByteArray.mk #[])),nt .i64 0,bl false,bl false,.sc (.string (ByteArray.mk #[])),nt .i64 0,bl false,bl false,.sc (.string (ByteArray.mk #[])),nt .i64 0,bl false,bl false],[(0,4),(4,4),(8,4),(12,4),(16,4),(20,4),(24,4),(28,4),(32,4),(36,4)])/\aQ prog 179=some (false,1)/\bG prog 179=3/\(prog.underlying 179).isSome=true/\aR prog 179=some (.sc .nilFunc)/\aU prog 179=0/\aQ prog 180=some (false,1)/\bG prog 180=3/\(prog.underlying 180).isSome=true/\aR prog 180=some (.sc .nilFunc)/\aU prog 180=0/\aQ prog 181=some (false,1)/\cI prog 181=some (156,2,2)/\bG prog 181=1/\(prog.underlying 181).isSome=true:=by and_intros<;>kernel_rfl
theorem dMs:aR prog 181=some (.list false true [])/\aU prog 181=0/\gU prog 181=true/\aQ prog 184=some (false,1)/\bG prog 184=3/\(prog.underlying 184).isSome=true/\aR prog 184=some (.sc .nilFunc)/\aU prog 184=0/\aQ prog 185=some (false,1)/\bG prog 185=3/\(prog.underlying 185).isSome=true/\aR prog 185=some (.sc .nilFunc)/\aU prog 185=0/\aQ prog 186=some (false,1)/\bG prog 186=3/\(prog.underlying 186).isSome=true/\aR prog 186=some (.sc .nilFunc)/\aU prog 186=0/\aQ prog 187=some (false,1)/\bG prog 187=3/\(prog.underlying 187).isSome=true/\aR prog 187=some (.sc .nilFunc)/\aU prog 187=0/\aQ prog 188=some (false,1)/\bG prog 188=3/\(prog.underlying 188).isSome=true/\aR prog 188=some (.sc .nilFunc)/\aU prog 188=0/\aQ prog 189=some (false,1)/\bG prog 189=3/\(prog.underlying 189).isSome=true/\aR prog 189=some (.sc .nilFunc)/\aU prog 189=0/\aQ prog 190=some (false,1)/\bG prog 190=3/\(prog.underlying 190).isSome=true/\aR prog 190=some (.sc .nilFunc)/\aU prog 190=0/\aQ prog 191=some (false,1)/\bG prog 191=3/\(prog.underlying 191).isSome=true/\aR prog 191=some (.sc .nilFunc)/\aU prog 191=0/\aQ prog 192=some (false,1)/\bG prog 192=3/\(prog.underlying 192).isSome=true/\aR prog 192=some (.sc .nilFunc)/\aU prog 192=0/\aQ prog 194=some (false,1)/\bG prog 194=3/\(prog.underlying 194).isSome=true/\aR prog 194=some (.sc .nilFunc)/\aU prog 194=0/\aQ prog 195=some (false,1)/\cI prog 195=some (3,1,8)/\bG prog 195=1/\(prog.underlying 195).isSome=true/\aR prog 195=some (.list false true [])/\aU prog 195=0/\gU prog 195=true:=by and_intros<;>kernel_rfl
theorem dMt:aQ prog 196=some (false,1)/\bG prog 196=3/\(prog.underlying 196).isSome=true/\aR prog 196=some (.sc .nilFunc)/\aU prog 196=0/\aQ prog 197=some (false,1)/\bG prog 197=3/\(prog.underlying 197).isSome=true/\aR prog 197=some (.sc .nilFunc)/\aU prog 197=0/\aQ prog 198=some (false,1)/\bG prog 198=3/\(prog.underlying 198).isSome=true/\aR prog 198=some (.sc .nilFunc)/\aU prog 198=0/\aQ prog 199=some (false,1)/\nR prog 199=some .i64/\(prog.underlying 199).isSome=true/\aR prog 199=some (nt .i64 0)/\aU prog 199=0/\aQ prog 200=some (false,1)/\(prog.underlying 200).isSome=true/\aU prog 200=0/\aQ prog 201=some (false,1)/\bG prog 201=3/\(prog.underlying 201).isSome=true/\aR prog 201=some (.sc .nilFunc)/\aU prog 201=0/\aQ prog 202=some (false,1)/\bG prog 202=3/\(prog.underlying 202).isSome=true/\aR prog 202=some (.sc .nilFunc)/\aU prog 202=0/\aQ prog 203=some (false,1)/\bG prog 203=3/\(prog.underlying 203).isSome=true/\aR prog 203=some (.sc .nilFunc)/\aU prog 203=0/\aQ prog 204=some (false,1)/\bG prog 204=3/\(prog.underlying 204).isSome=true/\aR prog 204=some (.sc .nilFunc)/\aU prog 204=0/\aQ prog 205=some (false,1)/\bG prog 205=3/\(prog.underlying 205).isSome=true/\aR prog 205=some (.sc .nilFunc)/\aU prog 205=0/\aQ prog 206=some (false,1)/\nR prog 206=some .u32/\(prog.underlying 206).isSome=true/\aR prog 206=some (nt .u32 0)/\aU prog 206=0/\aQ prog 207=some (false,1)/\bG prog 207=3/\(prog.underlying 207).isSome=true/\aR prog 207=some (.sc .nilFunc)/\aU prog 207=0/\aQ prog 208=some (false,1)/\nR prog 208=some .u64:=by and_intros<;>kernel_rfl
theorem dMu:(prog.underlying 208).isSome=true/\aR prog 208=some (nt .u64 0)/\aU prog 208=0/\aQ prog 209=some (false,1)/\bG prog 209=3/\(prog.underlying 209).isSome=true/\aR prog 209=some (.sc .nilFunc)/\aU prog 209=0/\aQ prog 210=some (false,1)/\bG prog 210=3/\(prog.underlying 210).isSome=true/\aR prog 210=some (.sc .nilFunc)/\aU prog 210=0/\aQ prog 211=some (false,1)/\nR prog 211=some .u64/\(prog.underlying 211).isSome=true/\aR prog 211=some (nt .u64 0)/\aU prog 211=0/\aQ prog 212=some (false,1)/\bG prog 212=3/\(prog.underlying 212).isSome=true/\aR prog 212=some (.sc .nilFunc)/\aU prog 212=0/\aQ prog 213=some (false,1)/\bG prog 213=3/\(prog.underlying 213).isSome=true/\aR prog 213=some (.sc .nilFunc)/\aU prog 213=0/\aQ prog 214=some (false,1)/\bG prog 214=3/\(prog.underlying 214).isSome=true/\aR prog 214=some (.sc .nilFunc)/\aU prog 214=0/\aQ prog 215=some (false,1)/\bG prog 215=2/\(prog.underlying 215).isSome=true/\aR prog 215=some (.sc (.pointer none))/\aU prog 215=0/\aQ prog 216=some (false,1)/\bG prog 216=3/\(prog.underlying 216).isSome=true/\aR prog 216=some (.sc .nilFunc)/\aU prog 216=0/\aQ prog 217=some (false,1)/\bG prog 217=3/\(prog.underlying 217).isSome=true/\aR prog 217=some (.sc .nilFunc)/\aU prog 217=0/\aQ prog 218=some (false,1)/\bG prog 218=3/\(prog.underlying 218).isSome=true/\aR prog 218=some (.sc .nilFunc)/\aU prog 218=0/\aQ prog 219=some (false,1)/\bG prog 219=3/\(prog.underlying 219).isSome=true/\aR prog 219=some (.sc .nilFunc)/\aU prog 219=0/\aQ prog 220=some (false,1)/\bG prog 220=3:=by and_intros<;>kernel_rfl
theorem dMv:(prog.underlying 220).isSome=true/\aR prog 220=some (.sc .nilFunc)/\aU prog 220=0/\aQ prog 221=some (false,1)/\bG prog 221=3/\(prog.underlying 221).isSome=true/\aR prog 221=some (.sc .nilFunc)/\aU prog 221=0/\aQ prog 222=some (false,1)/\bG prog 222=2/\(prog.underlying 222).isSome=true/\aR prog 222=some (.sc (.pointer none))/\aU prog 222=0/\aQ prog 223=some (false,1)/\(prog.underlying 223).isSome=true/\aU prog 223=0/\aQ prog 224=some (false,1)/\bG prog 224=3/\(prog.underlying 224).isSome=true/\aR prog 224=some (.sc .nilFunc)/\aU prog 224=0/\aQ prog 225=some (false,1)/\bG prog 225=3/\(prog.underlying 225).isSome=true/\aR prog 225=some (.sc .nilFunc)/\aU prog 225=0:=by and_intros<;>kernel_rfl
attribute [go_sem] aG6 aHd aLc aLd aLr aSn aTt aT1 aVk dJy dMm dMn dMo dMp dMq dMr dMs dMt dMu dMv bSs bSt bS3 bS4 aM9 cB7 cB8 cCf cCg cCh cEl cEm cEu cEv cFg cFm cH7 cH8 aE2 cIj cIk cKt cLw cLx cMc cMd cMn cMo cOa cOb cOo cOp cPf cPg cPr cPs cPz cQu
theorem bA:prog.follows .mixedOrders=true:=by kernel_rfl
inductive Tm where
 |mk (name:ByteArray) (args:List Tm)
namespace Tm
def name:Tm->ByteArray
 | .mk s _=>s
def args:Tm->List Tm
 | .mk _ ts=>ts
end Tm
mutual
def aP:Tm->AV
 | .mk s ts=> .agg [.sc (.string s),.list false false (W2 ts)]
def W2:List Tm->List AV
 | []=> []
 |t::r=>aP t::W2 r
end
theorem aNa: ∀l:List Tm,W2 l=l.map aP
 | []=>rfl
 |t::r=>by rw[W2,aNa r];rfl
abbrev eT (t:Tm):AV:= .agg [.sc (.string t.name),.list false false (t.args.map aP)]
theorem jH: ∀t:Tm,aP t=eT t
 | .mk s ts=>by rw[aP,aNa];rfl
theorem jI {s:ByteArray} {ts:List Tm}:(Tm.mk s ts).name=s:=rfl
theorem cM {s:ByteArray} {ts:List Tm}:(Tm.mk s ts).args=ts:=rfl
attribute [go_sem] jH jI cM
mutual
def Tm.size:Tm->Nat
 | .mk _ ts=>1+dV ts
def dV:List Tm->Nat
 | []=>0
 |t::r=>t.size+dV r
end
mutual
def Tm.depth:Tm->Nat
 | .mk _ ts=>fL ts+1
def fL:List Tm->Nat
 | []=>0
 |t::r=>max t.depth (fL r)
end
theorem gV (t:Tm):t.size=1+dV t.args:=by cases t;rfl
theorem qS (t:Tm):t.depth=fL t.args+1:=by cases t;rfl
theorem aE3: ∀a b:List Tm,dV (a++b)=dV a+dV b
 | [],b=>by simp[dV]
 |t::r,b=>by simp[dV,aE3 r b,Nat.add_assoc]
theorem aE4: ∀a b:List Tm,fL (a++b)=max (fL a) (fL b)
 | [],b=>by simp[fL]
 |t::r,b=>by simp only[List.cons_append,fL,aE4 r b];omega
theorem hZ {α:Type} {l:List α} {i:Nat} (h:i<l.length):l.take (i+1)=l.take i++ [l[i]]:=by
 rw[List.take_add_one,List.getElem?_eq_getElem h];rfl
theorem cYx {l:List Tm} {i:Nat} (h:i<l.length):dV (l.take (i+1))=dV (l.take i)+l[i].size:=by
 rw[hZ h,aE3];simp[dV]
theorem aNb {l:List Tm} {i:Nat} (h:i<l.length):fL (l.take (i+1))=max (fL (l.take i)) l[i].depth:=by
 rw[hZ h,aE4];simp[fL]
theorem A7: ∀{l:List Tm} {t:Tm},t∈l->t.size<=dV l
 |u::r,t,h=>by
  rcases List.mem_cons.1 h with rfl|h
  ·simp[dV]
  ·have:=A7 h;simp only[dV];omega
theorem wK {l:List Tm} {i:Nat} (h:i<l.length):l[i].size<=dV l:=A7 (List.getElem_mem h)
theorem aNc (l:List Tm) (i:Nat):dV (l.take i)<=dV l:=by
 have:=aE3 (l.take i) (l.drop i)
 rw[List.take_append_drop]at this;omega
theorem yA (t:Tm):1<=t.size:=by rw[gV];omega
theorem sS: ∀l:List Tm,l.length<=dV l
 | []=>by simp[dV]
 |t::r=>by have:=sS r;have:=yA t;simp only[dV,List.length_cons];omega
theorem K0: ∀t:Tm,t.depth<=t.size:=by
 have key: ∀n (t:Tm),t.size<=n->t.depth<=t.size:=by
  intro n
  induction n with
  |zero=>intro t h;have:=yA t;omega
  |succ n ih=>
   intro t h
   rw[gV]at*
   rw[qS]
   have: ∀l:List Tm,dV l<=n->fL l<=dV l:=by
    intro l
    induction l with
    |nil=>intro _;simp[fL,dV]
    |cons u r ihr=>
     intro hl
     simp only[dV,fL]at*
     have h1:=ih u (by omega)
     have h2:=ihr (by omega)
     omega
   have:=this t.args (by omega)
   omega
 exact fun t=>key t.size t (Nat.le_refl _)
theorem fM {p:Tm->Prop} (h: ∀t:Tm,(∀u∈t.args,p u)->p t): ∀t,p t:=by
 have key: ∀n (t:Tm),t.size<=n->p t:=by
  intro n
  induction n with
  |zero=>intro t h;have:=yA t;omega
  |succ n ih=>
   intro t ht
   refine h t fun u hu=>ih u ?_
   have:=A7 hu
   rw[gV]at ht;omega
 exact fun t=>key t.size t (Nat.le_refl _)
open Go.Ab
set_option maxRecDepth 100000
set_option maxHeartbeats 4000000
theorem aNd (a b:Nat):((max a b:Nat):Int)=max (a:Int) (b:Int):=by omega
theorem aNe: ∀t:Tm,t.size<=1000000->ACall prog 71 [eT t] (fun r=>r=nt .i64 t.depth):=by
 refine fM fun t ih hs=>?_
 obtain⟨s,ts⟩:=t
 have hd:=K0 (.mk s ts)
 have hl:=sS ts
 rw[qS]at*
 rw[gV]at hs hd
 simp only[cM]at*
 refine aX func71 call71 rfl (by simp[ntmps71]) ?_;simp only[ntmps71,results71]
 repeat' (first|(refine aE fun _ _=>?_)|refine zHg ?_|simp(disch:=omega) [go_sem])
 refine bZ [7,8] [] (fun i:Nat=> [(9,nt .i64 i),(3,nt .i64 (fL (ts.take i)))]) (fun i:Nat=> []) (fun i:Nat=>ts.length - i) (fun i:Nat=>i<=ts.length) (0) (Le.sub4 rfl (by simp[go_sem,fL,List.take_zero])) ⟨?_⟩ ?_
 ·exact Nat.zero_le _
 intro i hi AA hAA;simp only[kL,Nat.reduceBEq,Nat.reduceEqDiff]
 have hz:=aNc ts i
 have hdi:fL (ts.take i)<=1000000:=by
  have:=K0 (.mk s (ts.take i));rw[qS,gV]at this;simp only[cM]at this;omega
 by_cases hlt:i<ts.length
 ·have hu:=ih ts[i] (List.getElem_mem hlt) (by have:=wK hlt;omega)
  have hn:=aNb hlt
  repeat' (first|(refine aE fun _ _=>?_)|refine zHg ?_|refine aI rfl (hu) (by simp) ?_|(refine(hAA.next (i+1) (Le.sub4 rfl (by simp[go_sem,hn,aNd])) (by(try dsimp only);omega) ?_))|simp(disch:=omega) [go_sem,hlt])
  exact⟨by omega⟩
 ·obtain rfl:i=ts.length:=by omega
  rw[List.take_length]at*
  repeat' (first|(refine aE fun _ _=>?_)|refine zHg ?_|(refine aL [] ?_;simp[go_sem])|simp(disch:=omega) [go_sem])
mutual
def mO (m:Int):Int->Tm->Int
 |lv,.mk _ ts=>if lv<1 then m+1 else kI m (lv - 1) 1 ts
def kI (m:Int):Int->Int->List Tm->Int
 |_,n,[]=>n
 |lv,n,t::r=>if n>m then n else kI m lv (n+mO m lv t) r
end
theorem K1 {m lv:Int} {t:Tm}:mO m lv t=if lv<1 then m+1 else kI m (lv - 1) 1 t.args:=by cases t;rfl
theorem aE5 {m:Int} (hm:0<=m): ∀(t:Tm) (lv:Int),1<=mO m lv t:=by
 refine fM fun t ih lv=>?_
 rw[K1]
 split
 ·omega
 ·have key: ∀(r:List Tm),(∀u∈r,∀lv,1<=mO m lv u)-> ∀n,1<=n->1<=kI m (lv - 1) n r:=by
   intro r
   induction r with
   |nil=>intro _ n hn;simpa[kI]using hn
   |cons u r ihr=>
    intro h n hn
    simp only[kI]
    split
    ·exact hn
    ·have:=h u (by simp) (lv - 1)
     exact ihr (fun v hv=>h v (by simp[hv])) _ (by omega)
  exact key t.args ih 1 (by omega)
theorem cYy {m:Int} (hm:0<=m): ∀(k:Nat) (t:Tm) (lv:Int),lv<=k->mO m lv t<=(k+1)*(m+1):=by
 intro k
 induction k with
 |zero=>
  intro t lv h
  rw[K1,if_pos (by omega)]
  simp
 |succ k ih=>
  intro t lv h
  rw[K1]
  have e:((k+1:Nat)+1:Int)*(m+1)=((k:Int)+1)*(m+1)+(m+1):=by
   rw[show((k+1:Nat)+1:Int)=((k:Int)+1)+1 by omega,Int.add_mul,Int.one_mul]
  have hp:0<=((k:Int)+1)*(m+1):=Int.mul_nonneg (by omega) (by omega)
  split
  ·omega
  ·have key: ∀(r:List Tm) (n:Int),n<=((k:Int)+1)*(m+1)+m+1->kI m (lv - 1) n r<=((k:Int)+1)*(m+1)+m+1:=by
    intro r
    induction r with
    |nil=>intro n hn;simpa[kI]using hn
    |cons u r ihr=>
     intro n hn
     simp only[kI]
     split
     ·exact hn
     ·have:=ih u (lv - 1) (by omega)
      exact ihr _ (by omega)
   have h1:1<=((k:Int)+1)*(m+1)+m+1:=by omega
   have:=key t.args 1 h1
   omega
theorem cYz {m:Int} (hm:0<=m): ∀(t:Tm) (lv:Int),mO m lv t<=m->(mO m lv t=t.size/\(t.depth:Int)<=lv):=by
 refine fM fun t ih lv h=>?_
 rw[K1]at*
 split at h
 ·omega
 ·rename_i hl
  rw[if_neg hl]
  have key: ∀(r:List Tm),(∀u∈r,u∈t.args)-> ∀n,1<=n->kI m (lv - 1) n r<=m->kI m (lv - 1) n r=n+dV r/\(fL r:Int)<=lv - 1:=by
   intro r
   induction r with
   |nil=>intro _ n hn _;simp[kI,dV,fL];omega
   |cons u r ihr=>
    intro hr n hn hp
    simp only[kI]at*
    split at hp
    ·omega
    ·rename_i hc
     rw[if_neg hc]
     have g:=aE5 hm u (lv - 1)
     have hmono: ∀(r:List Tm) (n:Int),n<=kI m (lv - 1) n r:=by
      intro r
      induction r with
      |nil=>intro n;simp[kI]
      |cons u r ihr=>
       intro n
       simp only[kI]
       split
       ·omega
       ·have g:=aE5 hm u (lv - 1)
        have:=ihr (n+mO m (lv - 1) u)
        omega
     have h2:=hmono r (n+mO m (lv - 1) u)
     obtain⟨a1,a2⟩:=ih u (hr u (by simp)) (lv - 1) (by omega)
     obtain⟨b1,b2⟩:=ihr (fun v hv=>hr v (by simp[hv])) (n+mO m (lv - 1) u) (by omega) hp
     simp only[dV,fL]
     omega
  obtain⟨a1,a2⟩:=key t.args (fun u hu=>hu) 1 (by omega) h
  rw[gV,qS]
  omega
def lT (m:Int) (t:Tm):Bool:=decide (mO m m t<=m)
theorem W3 {m:Int} (hm:0<=m) {t:Tm} (h:lT m t=true):(t.size:Int)<=m:=by
 have:=of_decide_eq_true h
 have:=(cYz hm t m this).1
 omega
theorem cY0 {m:Int} (hm:0<=m/\m<=10000) (t:Tm) {lv:Int} (h:lv<=10000):1<=mO m lv t/\mO m lv t<=100020001:=by
 refine⟨aE5 hm.1 t lv,?_⟩
 have h1:=cYy hm.1 10000 t lv h
 omega
theorem cY1 (m:Int) (hm:0<=m/\m<=10000): ∀(t:Tm) (lv:Int),lv<=10000-> -10000<=lv->ACall prog 38 [eT t,nt .i64 m,nt .i64 lv] (fun r=>r=nt .i64 (mO m lv t)):=by
 refine fM fun t ih lv hlv hlv2=>?_
 obtain⟨s,ts⟩:=t
 rw[K1]
 simp only[cM]at*
 by_cases hl:lv<1
 ·rw[if_pos hl]
  refine aX func38 call38 rfl (by simp[ntmps38]) ?_;simp only[ntmps38,results38]
  repeat' (first|(refine aE fun _ _=>?_)|refine zHg ?_|(refine zqd ?_ ?_<;>(intro h;first|(exfalso;omega)|(simp only[h,zT])))|(refine aL [] ?_;simp[go_sem])|simp(disch:=omega) [go_sem])
 ·rw[if_neg hl]
  generalize hR:kI m (lv - 1) 1 ts=R
  refine aX func38 call38 rfl (by simp[ntmps38]) ?_;simp only[ntmps38,results38]
  repeat' (first|(refine aE fun _ _=>?_)|refine zHg ?_|(refine zqd ?_ ?_<;>(intro h;first|(exfalso;omega)|(simp only[h,zT])))|simp(disch:=omega) [go_sem])
  refine bZ [1,2,3,15] [] (fun x:Nat×Int=> [(16,nt .i64 x.1),(7,nt .i64 x.2)]) (fun x:Nat×Int=> []) (fun x:Nat×Int=>ts.length - x.1) (fun x:Nat×Int=>x.1<=ts.length/\1+(x.1:Int)<=x.2/\x.2<=100040001/\(x.1<ts.length->x.1<=10000\/x.2>m)/\kI m (lv - 1) x.2 (ts.drop x.1)=R) ((0,1)) (Le.sub4 rfl (by simp[go_sem])) ⟨?_⟩ ?_
  ·exact⟨Nat.zero_le _,by simp,by simp,by simp,by simpa using hR⟩
  intro⟨i,n⟩ ⟨hi,hn,hn2,hbd,hr⟩ AA hAA;simp only[kL,Nat.reduceBEq,Nat.reduceEqDiff]
  dsimp only at*
  by_cases hlt:i<ts.length
  ·have hu:=ih ts[i] (List.getElem_mem hlt) (lv - 1) (by omega) (by omega)
   have hb:=cY0 hm ts[i] (lv:=lv - 1) (by omega)
   have hd:ts.drop i=ts[i]::ts.drop (i+1):=List.drop_eq_getElem_cons hlt
   rw[hd]at hr
   simp only[kI]at hr
   by_cases hc:n>m
   ·rw[if_pos hc]at hr
    repeat' (first|(refine aE fun _ _=>?_)|refine zHg ?_|(refine zqd ?_ ?_<;>(intro h;first|(exfalso;omega)|(simp only[h,zT])))|(refine aL [] ?_;simp[go_sem,hlt,hr])|simp(disch:=omega) [go_sem,hlt,hr])
   ·rw[if_neg hc]at hr
    repeat' (first|(refine aE fun _ _=>?_)|refine zHg ?_|(refine zqd ?_ ?_<;>(intro h;first|(exfalso;omega)|(simp only[h,zT])))|refine aI rfl (hu) (by simp) ?_|(refine(hAA.next ((i+1,n+mO m (lv - 1) ts[i])) (Le.sub4 rfl (by simp[go_sem])) (by(try dsimp only);omega) ?_))|simp(disch:=omega) [go_sem,hlt])
    exact⟨⟨by omega,by omega,by omega,by omega,hr⟩⟩
  ·obtain rfl:i=ts.length:=by omega
   simp[kI]at hr
   repeat' (first|(refine aE fun _ _=>?_)|refine zHg ?_|(refine aL [] ?_;simp[go_sem])|simp(disch:=omega) [go_sem])
   exact hr
theorem W4 (t:Tm) (m:Int) (hm:0<=m/\m<=10000):ACall prog 16 [eT t,nt .i64 m] (fun r=>r=bl (lT m t)):=by
 have h:=cY1 m hm t m hm.2 (by omega)
 unfold lT
 generalize mO m m t=q at*
 refine aX func16 call16 rfl (by simp[ntmps16]) ?_;simp only[ntmps16,results16]
 repeat' (first|(refine aE fun _ _=>?_)|refine zHg ?_|(refine aL [] ?_;simp[go_sem])|refine aI rfl (h) (by simp) ?_|simp(disch:=omega) [go_sem])
def uH (m:Int) (l:List Tm):Bool:=decide ((l.length:Int)<=m)&&l.all (lT m)
theorem cY2 (l:List Tm) (lent iT:Bool) (m:Int) (hm:0<=m/\m<=10000):ACall prog 26 [.list lent iT (l.map aP),nt .i64 m] (fun r=>r=bl (uH m l)):=by
 by_cases hl:(l.length:Int)<=m
 ·have e:uH m l=l.all (lT m):=by simp[uH,hl]
  rw[e]
  refine aX func26 call26 rfl (by simp[ntmps26]) ?_;simp only[ntmps26,results26]
  repeat' (first|(refine aE fun _ _=>?_)|refine zHg ?_|(refine zqd ?_ ?_<;>(intro h;first|(exfalso;omega)|(simp only[h,zT])))|simp(disch:=omega) [go_sem])
  refine bZ [0,1,11] [] (fun i:Nat=> [(12,nt .i64 i)]) (fun i:Nat=> []) (fun i:Nat=>l.length - i) (fun i:Nat=>i<=l.length/\(l.take i).all (lT m)=true) (0) (Le.sub4 rfl (by simp[go_sem])) ⟨?_⟩ ?_
  ·exact⟨Nat.zero_le _,rfl⟩
  intro i ⟨hi,hall⟩ AA hAA;simp only[kL,Nat.reduceBEq,Nat.reduceEqDiff]
  by_cases hlt:i<l.length
  ·have hu:=W4 l[i] m hm
   have hn:(l.take (i+1)).all (lT m)=lT m l[i]:=by rw[hZ hlt,List.all_append,hall];simp
   cases hq:lT m l[i]with
   |true=>
    rw[hq]at hu hn
    repeat' (first|(refine aE fun _ _=>?_)|refine zHg ?_|refine aI rfl (hu) (by simp) ?_|(refine(hAA.next (i+1) (Le.sub4 rfl (by simp[go_sem])) (by(try dsimp only);omega) ?_))|simp(disch:=omega) [go_sem,hlt])
    exact⟨⟨hlt,hn⟩⟩
   |false=>
    rw[hq]at hu
    repeat' (first|(refine aE fun _ _=>?_)|refine zHg ?_|(refine aL [] ?_;simp[go_sem,hlt])|refine aI rfl (hu) (by simp) ?_|simp(disch:=omega) [go_sem,hlt])
    all_goals exact⟨l[i],List.getElem_mem hlt,hq⟩
  ·obtain rfl:i=l.length:=by omega
   rw[List.take_length]at hall
   repeat' (first|(refine aE fun _ _=>?_)|refine zHg ?_|(refine aL [] ?_;simp[go_sem,hall])|simp(disch:=omega) [go_sem,hall])
 ·have e:uH m l=false:=by simp[uH];intro h;omega
  rw[e]
  refine aX func26 call26 rfl (by simp[ntmps26]) ?_;simp only[ntmps26,results26]
  repeat' (first|(refine aE fun _ _=>?_)|refine zHg ?_|(refine zqd ?_ ?_<;>(intro h;first|(exfalso;omega)|(simp only[h,zT])))|(refine aL [] ?_;simp[go_sem])|simp(disch:=omega) [go_sem])
open Go.Ab
set_option maxRecDepth 100000
def A8 (p:Int×Int):AV:= .agg [nt .u8 p.1,nt .u8 p.2]
def lU (c:Int) (l:List (Int×Int)):Bool:=l.any fun p=>decide (p.1<=c)&&decide (c<=p.2)
theorem aNf (c:Int) (l f:Bool) (ss:List (Int×Int)) (hl:ss.length<=1000):ACall prog 169 [nt .u8 c,.list l f (ss.map A8)] (fun r=>r=bl (lU c ss)):=by
 refine aX func169 call169 rfl (by simp[ntmps169]) ?_;simp only[ntmps169,results169]
 repeat' (first|(refine aE fun _ _=>?_)|refine zHg ?_|simp(disch:=omega) [go_sem])
 refine A1 (fun n s=> ∃i:Nat,i<=ss.length/\n=ss.length - i/\lU c (ss.take i)=false/\s= {n:=24,t:= [(0,nt .u8 c),(7,.list l f (ss.map A8)),(8,nt .i64 ss.length),(9,nt .i64 i),(4,bl false)],o:= []})
  ss.length {n:=24,t:= [(0,nt .u8 c),(7,.list l f (ss.map A8)),(8,nt .i64 ss.length),(9,nt .i64 0),(4,bl false)],o:= []} (Le.sub4 rfl (by simp[go_sem])) ⟨0,Nat.zero_le _,rfl,rfl,rfl⟩ ?_
 rintro _ _ ⟨i,hi,rfl,hin,rfl⟩
 by_cases hlt:i<ss.length
 ·have hs:lU c (ss.take (i+1))=(decide (ss[i].1<=c)&&decide (c<=ss[i].2)):=by
   rw[List.take_add_one,List.getElem?_eq_getElem hlt];unfold lU at*;rw[List.any_append,hin];simp
  repeat' (first|(refine aE fun _ _=>?_)|refine zHg ?_|((first|refine zqd ?_ ?_|refine zgd ?_ ?_)<;>(intro h;(simp only[h,zT])))|(refine aL [] ?_;simp[go_sem,hlt,A8])|(refine Again.mk (ss.length - (i+1)) {n:=24,t:= [(0,nt .u8 c),(7,.list l f (ss.map A8)),(8,nt .i64 ss.length),(9,nt .i64 (i+1:Nat)),(4,bl false)],o:= []} (by omega) (Le.sub4 rfl (by simp[go_sem])) ⟨i+1,by omega,rfl,by rw[hs];simp[*],rfl⟩)|simp(disch:=omega) [go_sem,hlt,A8])
  unfold lU
  rw[List.any_eq_true]
  exact⟨ss[i],List.getElem_mem hlt,by simp[*]⟩
 ·obtain rfl:i=ss.length:=by omega
  rw[List.take_length]at hin
  repeat' (first|(refine aE fun _ _=>?_)|refine zHg ?_|(refine aL [] ?_;simp[go_sem,hin])|simp(disch:=omega) [go_sem,hin])
def pR (s:ByteArray) (p q r:Int×Int) (n:Nat):Bool:=(List.range n).all fun i=>lU (bt s i) [p,q,r]
theorem aE6 (s:ByteArray) (p q r:Int×Int) (n:Nat):pR s p q r (n+1)=(pR s p q r n&&lU (bt s n) [p,q,r]):=by
 simp[pR,List.range_succ,List.all_append]
def nJ (s:ByteArray) (p q r:Int×Int):Bool:=decide (1<=s.size)&&decide (s.size<=16)&&lU (bt s 0) [p]&&pR s p q r s.size
theorem aE7 {s:ByteArray} {p q r:Int×Int} {i:Nat} (h:lU (bt s i) [p,q,r]=false) {n:Nat} (hn:i<n):pR s p q r n=false:=by
 unfold pR;rw[List.all_eq_false];exact⟨i,by simpa using hn,by simp[h]⟩
theorem aNg (s:ByteArray) (p q r:Int×Int):ACall prog 147 [.sc (.string s),.agg [nt .u8 p.1,nt .u8 p.2,nt .u8 q.1,nt .u8 q.2,nt .u8 r.1,nt .u8 r.2]] (fun x=>x=bl (nJ s p q r)):=by
 have h1:ACall prog 169 [nt .u8 (bt s 0),.list true false [.agg [nt .u8 p.1,nt .u8 p.2]]] (fun x=>x=bl (lU (bt s 0) [p])):=aNf (bt s 0) true false [p] (by simp)
 have h3: ∀i,ACall prog 169 [nt .u8 (bt s i),.list true false [.agg [nt .u8 p.1,nt .u8 p.2],.agg [nt .u8 q.1,nt .u8 q.2],.agg [nt .u8 r.1,nt .u8 r.2]]] (fun x=>x=bl (lU (bt s i) [p,q,r])):=fun i=>aNf (bt s i) true false [p,q,r] (by simp)
 by_cases a1:1<=s.size/\s.size<=16
 ·by_cases a2:lU (bt s 0) [p]=true
  ·have e:nJ s p q r=pR s p q r s.size:=by simp[nJ,a1,a2]
   rw[e]
   rw[a2]at h1
   refine aX func147 call147 rfl (by simp[ntmps147]) ?_;simp only[ntmps147,results147]
   repeat' (first|(refine aE fun _ _=>?_)|refine zHg ?_|(refine zdd ?_ ?_<;>(intro h;first|(exfalso;omega)|(simp only[h,zT])))|refine bI rfl (h1) rfl (by simp) ?_|simp(disch:=omega) [go_sem]|refine zAo ?_|refine zDr 15 bA ?_|fail)
   refine A1 (fun nn ss_=> ∃i:Nat,i<=s.size/\nn=s.size - i/\(pR s p q r i=true)/\ss_= {n:=33,t:= [(0,.sc (.string s)),(3,.ptr 3 0 0),(5,nt .i64 (i))],o:= [(3,{arr:=false,fz:=false,pin:=false,es:=6,xs:= [.agg [nt .u8 p.1,nt .u8 p.2,nt .u8 q.1,nt .u8 q.2,nt .u8 r.1,nt .u8 r.2]]})]}) (s.size) {n:=33,t:= [(0,.sc (.string s)),(3,.ptr 3 0 0),(5,nt .i64 (0))],o:= [(3,{arr:=false,fz:=false,pin:=false,es:=6,xs:= [.agg [nt .u8 p.1,nt .u8 p.2,nt .u8 q.1,nt .u8 q.2,nt .u8 r.1,nt .u8 r.2]]})]} (Le.sub4 rfl (by simp[go_sem])) ⟨0,Nat.zero_le _,rfl,rfl,rfl⟩ ?_;rintro _ _ ⟨i,hi,rfl,hin,rfl⟩
   have hb:=h3 i
   by_cases hlt:i<s.size
   ·cases hz:lU (bt s i) [p,q,r]with
    |false=>
     rw[hz]at hb
     repeat' (first|(refine aE fun _ _=>?_)|refine zHg ?_|(refine aL [] ?_;simp[go_sem,hlt])|refine bI rfl (hb) rfl (by simp) ?_|simp(disch:=omega) [go_sem,hlt]|refine zDr 6 bA ?_|fail)
     all_goals exact aE7 hz hlt
    |true=>
     rw[hz]at hb
     have hs:pR s p q r (i+1)=true:=by rw[aE6,hin,hz];rfl
     repeat' (first|(refine aE fun _ _=>?_)|refine zHg ?_|refine bI rfl (hb) rfl (by simp) ?_|refine Again.mk (s.size - (i+1)) {n:=33,t:= [(0,.sc (.string s)),(3,.ptr 3 0 0),(5,nt .i64 ((i+1:Nat)))],o:= [(3,{arr:=false,fz:=false,pin:=false,es:=6,xs:= [.agg [nt .u8 p.1,nt .u8 p.2,nt .u8 q.1,nt .u8 q.2,nt .u8 r.1,nt .u8 r.2]]})]} (by omega) (Le.sub4 rfl (by simp[go_sem])) ⟨i+1,by omega,rfl,hs,rfl⟩|simp(disch:=omega) [go_sem,hlt]|refine zDr 6 bA ?_|fail)
   ·obtain rfl:i=s.size:=by omega
    repeat' (first|(refine aE fun _ _=>?_)|refine zHg ?_|(refine aL [] ?_;simp[go_sem,hin])|simp(disch:=omega) [go_sem,hin])
  ·have e:nJ s p q r=false:=by simp[nJ,a2]
   rw[e]
   simp only[Bool.not_eq_true]at a2
   rw[a2]at h1
   refine aX func147 call147 rfl (by simp[ntmps147]) ?_;simp only[ntmps147,results147]
   repeat' (first|(refine aE fun _ _=>?_)|refine zHg ?_|(refine zdd ?_ ?_<;>(intro h;first|(exfalso;omega)|(simp only[h,zT])))|(refine aL [] ?_;simp[go_sem])|refine bI rfl (h1) rfl (by simp) ?_|simp(disch:=omega) [go_sem]|refine zAo ?_|refine zDr 15 bA ?_|fail)
 ·have e:nJ s p q r=false:=by simp[nJ];omega
  rw[e]
  refine aX func147 call147 rfl (by simp[ntmps147]) ?_;simp only[ntmps147,results147]
  repeat' (first|(refine aE fun _ _=>?_)|refine zHg ?_|(refine zdd ?_ ?_<;>(intro h;first|(exfalso;omega)|(simp only[h,zT])))|(refine aL [] ?_;simp[go_sem])|simp(disch:=omega) [go_sem]|refine zDr 15 bA ?_|fail)
end Go.Proofs.YtgmibdiofkmmbaaGreatDoor
