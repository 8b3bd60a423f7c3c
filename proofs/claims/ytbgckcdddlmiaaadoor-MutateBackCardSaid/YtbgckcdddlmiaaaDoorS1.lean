import Derived.Test.YtbgckcdddlmiaaaDoorA5
import Derived.Test.YtbgckcdddlmiaaaDoorRows
set_option linter.unusedSimpArgs false
set_option linter.unusedVariables false
open Go.Proofs.Tryd
namespace Go.Proofs.YtbgckcdddlmiaaaDoor
open Go.Ab
instance:Glob prog:=Glob.none _
theorem bBi:aR prog 0=some (false,1):=by kernel_rfl
theorem bBj:(prog.underlying 0).isSome=true:=by kernel_rfl
theorem bBk:aS prog 0=0:=by kernel_rfl
theorem bBl:aR prog 1=some (false,1):=by kernel_rfl
theorem bBm:bP prog 1=3:=by kernel_rfl
theorem bBn:(prog.underlying 1).isSome=true:=by kernel_rfl
theorem bBo:aQ prog 1=some (.sc .nilFunc):=by kernel_rfl
theorem bBp:aS prog 1=0:=by kernel_rfl
theorem bBq:aR prog 2=some (false,1):=by kernel_rfl
theorem bBr:kA prog 2=some .i64:=by kernel_rfl
theorem bBs:(prog.underlying 2).isSome=true:=by kernel_rfl
theorem bBt:aQ prog 2=some (nt .i64 0):=by kernel_rfl
theorem bBu:aS prog 2=0:=by kernel_rfl
theorem bBv:aR prog 3=some (false,1):=by kernel_rfl
theorem bBw:kA prog 3=some .i64:=by kernel_rfl
theorem bBx:(prog.underlying 3).isSome=true:=by kernel_rfl
theorem bBy:aQ prog 3=some (nt .i64 0):=by kernel_rfl
theorem bBz:aS prog 3=0:=by kernel_rfl
theorem bB0:aR prog 4=some (false,1):=by kernel_rfl
theorem bB1:sD prog 4=true:=by kernel_rfl
theorem bB2:(prog.underlying 4).isSome=true:=by kernel_rfl
theorem bB3:aQ prog 4=some (bl false):=by kernel_rfl
theorem bB4:aS prog 4=0:=by kernel_rfl
theorem bB5:aR prog 5=some (false,1):=by kernel_rfl
theorem bB6:kA prog 5=some .u8:=by kernel_rfl
theorem bB7:(prog.underlying 5).isSome=true:=by kernel_rfl
theorem bB8:aQ prog 5=some (nt .u8 0):=by kernel_rfl
theorem bB9:aS prog 5=0:=by kernel_rfl
theorem bCa:lI prog 5=some 1:=by kernel_rfl
theorem bCb:dL prog 5=7:=by kernel_rfl
theorem bCc:dB prog 5=some (.int .u8 0):=by kernel_rfl
theorem bCd:aR prog 6=some (false,1):=by kernel_rfl
theorem bCe:kA prog 6=some .u8:=by kernel_rfl
theorem bCf:(prog.underlying 6).isSome=true:=by kernel_rfl
theorem bCg:aQ prog 6=some (nt .u8 0):=by kernel_rfl
theorem bCh:aS prog 6=0:=by kernel_rfl
theorem bCi:aR prog 7=some (true,4):=by kernel_rfl
theorem bCj:bX prog 7 0=some (0,2,1):=by kernel_rfl
theorem bCk:bX prog 7 1=some (1,3,1):=by kernel_rfl
theorem bCl:bX prog 7 2=some (2,4,1):=by kernel_rfl
theorem bCm:bX prog 7 3=some (3,6,1):=by kernel_rfl
theorem bCn:(prog.underlying 7).isSome=true:=by kernel_rfl
theorem bCo:aQ prog 7=some (.agg [nt .i64 0,nt .i64 0,bl false,nt .u8 0]):=by kernel_rfl
theorem bCp:aS prog 7=0:=by kernel_rfl
theorem bCq:dU prog 7=some ([nt .i64 0,nt .i64 0,bl false,nt .u8 0],[(0,1),(1,1),(2,1),(3,1)]):=by kernel_rfl
theorem bCr (a0 b0:Int) (a1 b1:Int) (a2 b2:Bool) (a3 b3:Int):cO prog .eql 7 (.agg [.sc (.int .i64 a0),.sc (.int .i64 a1),.sc (.bool a2),.sc (.int .u8 a3)]) (.agg [.sc (.int .i64 b0),.sc (.int .i64 b1),.sc (.bool b2),.sc (.int .u8 b3)])=some ⟨true,bl (decide (a0=b0∧a1=b1∧a2=b2∧a3=b3))⟩:=(by kernel_rfl:cO prog .eql 7 (.agg [.sc (.int .i64 a0),.sc (.int .i64 a1),.sc (.bool a2),.sc (.int .u8 a3)]) (.agg [.sc (.int .i64 b0),.sc (.int .i64 b1),.sc (.bool b2),.sc (.int .u8 b3)])=some ⟨true,bl (((a0==b0)&&((a1==b1)&&((a2==b2)&&((a3==b3)&&(true))))))⟩).trans (by congr 3;rw[Bool.eq_iff_iff];simp only[gD,beq_iff_eq,Bool.and_eq_true,decide_eq_true_eq,and_true,and_assoc])
theorem bCs (a0 b0:Int) (a1 b1:Int) (a2 b2:Bool) (a3 b3:Int):cO prog .neq 7 (.agg [.sc (.int .i64 a0),.sc (.int .i64 a1),.sc (.bool a2),.sc (.int .u8 a3)]) (.agg [.sc (.int .i64 b0),.sc (.int .i64 b1),.sc (.bool b2),.sc (.int .u8 b3)])=some ⟨true,bl (!decide (a0=b0∧a1=b1∧a2=b2∧a3=b3))⟩:=(by kernel_rfl:cO prog .neq 7 (.agg [.sc (.int .i64 a0),.sc (.int .i64 a1),.sc (.bool a2),.sc (.int .u8 a3)]) (.agg [.sc (.int .i64 b0),.sc (.int .i64 b1),.sc (.bool b2),.sc (.int .u8 b3)])=some ⟨true,bl (!((a0==b0)&&((a1==b1)&&((a2==b2)&&((a3==b3)&&(true))))))⟩).trans (by congr 4;rw[Bool.eq_iff_iff];simp only[gD,beq_iff_eq,Bool.and_eq_true,decide_eq_true_eq,and_true,and_assoc])
theorem bCt:aR prog 8=some (true,4):=by kernel_rfl
theorem bCu:bX prog 8 0=some (0,2,1):=by kernel_rfl
theorem bCv:bX prog 8 1=some (1,3,1):=by kernel_rfl
theorem bCw:bX prog 8 2=some (2,4,1):=by kernel_rfl
theorem bCx:bX prog 8 3=some (3,6,1):=by kernel_rfl
theorem bCy:(prog.underlying 8).isSome=true:=by kernel_rfl
theorem bCz:aQ prog 8=some (.agg [nt .i64 0,nt .i64 0,bl false,nt .u8 0]):=by kernel_rfl
theorem bC0:aS prog 8=0:=by kernel_rfl
theorem bC1:dU prog 8=some ([nt .i64 0,nt .i64 0,bl false,nt .u8 0],[(0,1),(1,1),(2,1),(3,1)]):=by kernel_rfl
theorem bC2 (a0 b0:Int) (a1 b1:Int) (a2 b2:Bool) (a3 b3:Int):cO prog .eql 8 (.agg [.sc (.int .i64 a0),.sc (.int .i64 a1),.sc (.bool a2),.sc (.int .u8 a3)]) (.agg [.sc (.int .i64 b0),.sc (.int .i64 b1),.sc (.bool b2),.sc (.int .u8 b3)])=some ⟨true,bl (decide (a0=b0∧a1=b1∧a2=b2∧a3=b3))⟩:=(by kernel_rfl:cO prog .eql 8 (.agg [.sc (.int .i64 a0),.sc (.int .i64 a1),.sc (.bool a2),.sc (.int .u8 a3)]) (.agg [.sc (.int .i64 b0),.sc (.int .i64 b1),.sc (.bool b2),.sc (.int .u8 b3)])=some ⟨true,bl (((a0==b0)&&((a1==b1)&&((a2==b2)&&((a3==b3)&&(true))))))⟩).trans (by congr 3;rw[Bool.eq_iff_iff];simp only[gD,beq_iff_eq,Bool.and_eq_true,decide_eq_true_eq,and_true,and_assoc])
theorem bC3 (a0 b0:Int) (a1 b1:Int) (a2 b2:Bool) (a3 b3:Int):cO prog .neq 8 (.agg [.sc (.int .i64 a0),.sc (.int .i64 a1),.sc (.bool a2),.sc (.int .u8 a3)]) (.agg [.sc (.int .i64 b0),.sc (.int .i64 b1),.sc (.bool b2),.sc (.int .u8 b3)])=some ⟨true,bl (!decide (a0=b0∧a1=b1∧a2=b2∧a3=b3))⟩:=(by kernel_rfl:cO prog .neq 8 (.agg [.sc (.int .i64 a0),.sc (.int .i64 a1),.sc (.bool a2),.sc (.int .u8 a3)]) (.agg [.sc (.int .i64 b0),.sc (.int .i64 b1),.sc (.bool b2),.sc (.int .u8 b3)])=some ⟨true,bl (!((a0==b0)&&((a1==b1)&&((a2==b2)&&((a3==b3)&&(true))))))⟩).trans (by congr 4;rw[Bool.eq_iff_iff];simp only[gD,beq_iff_eq,Bool.and_eq_true,decide_eq_true_eq,and_true,and_assoc])
theorem bC4:aR prog 9=some (false,1):=by kernel_rfl
theorem bC5:kB prog 9=true:=by kernel_rfl
theorem bC6:(prog.underlying 9).isSome=true:=by kernel_rfl
theorem bC7:aQ prog 9=some (.sc (.string (ByteArray.mk #[]))):=by kernel_rfl
theorem bC8:aS prog 9=0:=by kernel_rfl
theorem bC9:fB prog 9=true:=by kernel_rfl
theorem bDa:lI prog 9=some 1:=by kernel_rfl
theorem bDb:dL prog 9=0:=by kernel_rfl
theorem bDc:dB prog 9=some (.string (ByteArray.mk #[])):=by kernel_rfl
theorem bDd:aR prog 10=some (false,1):=by kernel_rfl
theorem bDe:kB prog 10=true:=by kernel_rfl
theorem bDf:(prog.underlying 10).isSome=true:=by kernel_rfl
theorem bDg:aQ prog 10=some (.sc (.string (ByteArray.mk #[]))):=by kernel_rfl
theorem bDh:aS prog 10=0:=by kernel_rfl
theorem bDi:fB prog 10=true:=by kernel_rfl
theorem bDj:aR prog 11=some (false,1):=by kernel_rfl
theorem bDk:kB prog 11=true:=by kernel_rfl
theorem bDl:(prog.underlying 11).isSome=true:=by kernel_rfl
theorem bDm:aQ prog 11=some (.sc (.string (ByteArray.mk #[]))):=by kernel_rfl
theorem bDn:aS prog 11=0:=by kernel_rfl
theorem bDo:fB prog 11=true:=by kernel_rfl
theorem bDp:aR prog 12=some (false,1):=by kernel_rfl
theorem bDq:kA prog 12=some .u64:=by kernel_rfl
theorem bDr:(prog.underlying 12).isSome=true:=by kernel_rfl
theorem bDs:aQ prog 12=some (nt .u64 0):=by kernel_rfl
theorem bDt:aS prog 12=0:=by kernel_rfl
theorem bDu:aR prog 13=some (true,2):=by kernel_rfl
theorem bDv:bX prog 13 0=some (0,9,1):=by kernel_rfl
theorem bDw:bX prog 13 1=some (1,12,1):=by kernel_rfl
theorem bDx:(prog.underlying 13).isSome=true:=by kernel_rfl
theorem bDy:aQ prog 13=some (.agg [.sc (.string (ByteArray.mk #[])),nt .u64 0]):=by kernel_rfl
theorem bDz:aS prog 13=0:=by kernel_rfl
theorem bD0:dU prog 13=some ([.sc (.string (ByteArray.mk #[])),nt .u64 0],[(0,1),(1,1)]):=by kernel_rfl
theorem bD1:aR prog 14=some (true,2):=by kernel_rfl
theorem bD2:bX prog 14 0=some (0,9,1):=by kernel_rfl
theorem bD3:bX prog 14 1=some (1,12,1):=by kernel_rfl
theorem bD4:(prog.underlying 14).isSome=true:=by kernel_rfl
theorem bD5:aQ prog 14=some (.agg [.sc (.string (ByteArray.mk #[])),nt .u64 0]):=by kernel_rfl
theorem bD6:aS prog 14=0:=by kernel_rfl
theorem bD7:dU prog 14=some ([.sc (.string (ByteArray.mk #[])),nt .u64 0],[(0,1),(1,1)]):=by kernel_rfl
theorem bD8:aR prog 15=some (false,1):=by kernel_rfl
theorem bD9:bP prog 15=2:=by kernel_rfl
theorem bEa:(prog.underlying 15).isSome=true:=by kernel_rfl
theorem bEb:aQ prog 15=some (.sc (.pointer none)):=by kernel_rfl
theorem bEc:aS prog 15=0:=by kernel_rfl
theorem bEd:aR prog 16=some (false,1):=by kernel_rfl
theorem bEe:bP prog 16=2:=by kernel_rfl
theorem bEf:(prog.underlying 16).isSome=true:=by kernel_rfl
theorem bEg:aQ prog 16=some (.sc (.pointer none)):=by kernel_rfl
theorem bEh:aS prog 16=0:=by kernel_rfl
theorem bEi:aR prog 17=some (false,1):=by kernel_rfl
theorem bEj:bP prog 17=2:=by kernel_rfl
theorem bEk:(prog.underlying 17).isSome=true:=by kernel_rfl
theorem bEl:aQ prog 17=some (.sc (.pointer none)):=by kernel_rfl
theorem bEm:aS prog 17=0:=by kernel_rfl
theorem bEn:aR prog 18=some (true,1):=by kernel_rfl
theorem bEo:bX prog 18 0=some (0,17,1):=by kernel_rfl
theorem bEp:(prog.underlying 18).isSome=true:=by kernel_rfl
theorem bEq:aQ prog 18=some (.agg [.sc (.pointer none)]):=by kernel_rfl
theorem bEr:aS prog 18=0:=by kernel_rfl
theorem bEs:dU prog 18=some ([.sc (.pointer none)],[(0,1)]):=by kernel_rfl
theorem bEt:aR prog 19=some (true,1):=by kernel_rfl
theorem bEu:bX prog 19 0=some (0,17,1):=by kernel_rfl
theorem bEv:(prog.underlying 19).isSome=true:=by kernel_rfl
theorem bEw:aQ prog 19=some (.agg [.sc (.pointer none)]):=by kernel_rfl
theorem bEx:aS prog 19=0:=by kernel_rfl
theorem bEy:dU prog 19=some ([.sc (.pointer none)],[(0,1)]):=by kernel_rfl
theorem bEz:aR prog 20=some (false,1):=by kernel_rfl
theorem bE0:(prog.underlying 20).isSome=true:=by kernel_rfl
theorem bE1:aQ prog 20=some (.sc .nilIface):=by kernel_rfl
theorem bE2:aS prog 20=0:=by kernel_rfl
theorem bE3:aR prog 21=some (false,1):=by kernel_rfl
theorem bE4:kA prog 21=some .i32:=by kernel_rfl
theorem bE5:(prog.underlying 21).isSome=true:=by kernel_rfl
theorem bE6:aQ prog 21=some (nt .i32 0):=by kernel_rfl
theorem bE7:aS prog 21=0:=by kernel_rfl
theorem bE8:aR prog 22=some (false,1):=by kernel_rfl
theorem bE9:bK prog 22=some (38,3,64):=by kernel_rfl
theorem bFa:bP prog 22=1:=by kernel_rfl
theorem bFb:(prog.underlying 22).isSome=true:=by kernel_rfl
theorem bFc:aQ prog 22=some (.list false true []):=by kernel_rfl
theorem bFd:aS prog 22=0:=by kernel_rfl
theorem bFe:fB prog 22=true:=by kernel_rfl
theorem bFf:aR prog 23=some (false,1):=by kernel_rfl
theorem bFg:bP prog 23=3:=by kernel_rfl
theorem bFh:(prog.underlying 23).isSome=true:=by kernel_rfl
theorem bFi:aQ prog 23=some (.sc .nilFunc):=by kernel_rfl
theorem bFj:aS prog 23=0:=by kernel_rfl
theorem bFk:aR prog 24=some (false,1):=by kernel_rfl
theorem bFl:bP prog 24=3:=by kernel_rfl
theorem bFm:(prog.underlying 24).isSome=true:=by kernel_rfl
theorem bFn:aQ prog 24=some (.sc .nilFunc):=by kernel_rfl
theorem bFo:aS prog 24=0:=by kernel_rfl
theorem bFp:aR prog 25=some (false,1):=by kernel_rfl
theorem bFq:bK prog 25=some (28,3,24):=by kernel_rfl
theorem bFr:bP prog 25=1:=by kernel_rfl
theorem bFs:(prog.underlying 25).isSome=true:=by kernel_rfl
theorem bFt:aQ prog 25=some (.list false true []):=by kernel_rfl
theorem bFu:aS prog 25=0:=by kernel_rfl
theorem bFv:fB prog 25=true:=by kernel_rfl
theorem bFw:aR prog 26=some (false,1):=by kernel_rfl
theorem bFx:bP prog 26=3:=by kernel_rfl
theorem bFy:(prog.underlying 26).isSome=true:=by kernel_rfl
theorem bFz:aQ prog 26=some (.sc .nilFunc):=by kernel_rfl
theorem bF0:aS prog 26=0:=by kernel_rfl
theorem bF1:aR prog 27=some (true,3):=by kernel_rfl
theorem bF2:bX prog 27 0=some (0,3,1):=by kernel_rfl
theorem bF3:bX prog 27 1=some (1,3,1):=by kernel_rfl
theorem bF4:bX prog 27 2=some (2,3,1):=by kernel_rfl
theorem bF5:(prog.underlying 27).isSome=true:=by kernel_rfl
theorem bF6:aQ prog 27=some (.agg [nt .i64 0,nt .i64 0,nt .i64 0]):=by kernel_rfl
theorem bF7:aS prog 27=0:=by kernel_rfl
theorem bF8:dU prog 27=some ([nt .i64 0,nt .i64 0,nt .i64 0],[(0,1),(1,1),(2,1)]):=by kernel_rfl
theorem bF9 (a0 b0:Int) (a1 b1:Int) (a2 b2:Int):cO prog .eql 27 (.agg [.sc (.int .i64 a0),.sc (.int .i64 a1),.sc (.int .i64 a2)]) (.agg [.sc (.int .i64 b0),.sc (.int .i64 b1),.sc (.int .i64 b2)])=some ⟨true,bl (decide (a0=b0∧a1=b1∧a2=b2))⟩:=(by kernel_rfl:cO prog .eql 27 (.agg [.sc (.int .i64 a0),.sc (.int .i64 a1),.sc (.int .i64 a2)]) (.agg [.sc (.int .i64 b0),.sc (.int .i64 b1),.sc (.int .i64 b2)])=some ⟨true,bl (((a0==b0)&&((a1==b1)&&((a2==b2)&&(true)))))⟩).trans (by congr 3;rw[Bool.eq_iff_iff];simp only[gD,beq_iff_eq,Bool.and_eq_true,decide_eq_true_eq,and_true,and_assoc])
theorem bGa (a0 b0:Int) (a1 b1:Int) (a2 b2:Int):cO prog .neq 27 (.agg [.sc (.int .i64 a0),.sc (.int .i64 a1),.sc (.int .i64 a2)]) (.agg [.sc (.int .i64 b0),.sc (.int .i64 b1),.sc (.int .i64 b2)])=some ⟨true,bl (!decide (a0=b0∧a1=b1∧a2=b2))⟩:=(by kernel_rfl:cO prog .neq 27 (.agg [.sc (.int .i64 a0),.sc (.int .i64 a1),.sc (.int .i64 a2)]) (.agg [.sc (.int .i64 b0),.sc (.int .i64 b1),.sc (.int .i64 b2)])=some ⟨true,bl (!((a0==b0)&&((a1==b1)&&((a2==b2)&&(true)))))⟩).trans (by congr 4;rw[Bool.eq_iff_iff];simp only[gD,beq_iff_eq,Bool.and_eq_true,decide_eq_true_eq,and_true,and_assoc])
theorem bGb:aR prog 28=some (true,3):=by kernel_rfl
theorem bGc:bX prog 28 0=some (0,3,1):=by kernel_rfl
theorem bGd:bX prog 28 1=some (1,3,1):=by kernel_rfl
theorem bGe:bX prog 28 2=some (2,3,1):=by kernel_rfl
theorem bGf:(prog.underlying 28).isSome=true:=by kernel_rfl
theorem bGg:aQ prog 28=some (.agg [nt .i64 0,nt .i64 0,nt .i64 0]):=by kernel_rfl
theorem bGh:aS prog 28=0:=by kernel_rfl
theorem bGi:lI prog 28=some 3:=by kernel_rfl
theorem bGj:dL prog 28=0:=by kernel_rfl
theorem bGk:dB prog 28=some (.agg #[.int .i64 0,.int .i64 0,.int .i64 0]):=by kernel_rfl
theorem bGl:dU prog 28=some ([nt .i64 0,nt .i64 0,nt .i64 0],[(0,1),(1,1),(2,1)]):=by kernel_rfl
theorem bGm (a0 b0:Int) (a1 b1:Int) (a2 b2:Int):cO prog .eql 28 (.agg [.sc (.int .i64 a0),.sc (.int .i64 a1),.sc (.int .i64 a2)]) (.agg [.sc (.int .i64 b0),.sc (.int .i64 b1),.sc (.int .i64 b2)])=some ⟨true,bl (decide (a0=b0∧a1=b1∧a2=b2))⟩:=(by kernel_rfl:cO prog .eql 28 (.agg [.sc (.int .i64 a0),.sc (.int .i64 a1),.sc (.int .i64 a2)]) (.agg [.sc (.int .i64 b0),.sc (.int .i64 b1),.sc (.int .i64 b2)])=some ⟨true,bl (((a0==b0)&&((a1==b1)&&((a2==b2)&&(true)))))⟩).trans (by congr 3;rw[Bool.eq_iff_iff];simp only[gD,beq_iff_eq,Bool.and_eq_true,decide_eq_true_eq,and_true,and_assoc])
theorem bGn (a0 b0:Int) (a1 b1:Int) (a2 b2:Int):cO prog .neq 28 (.agg [.sc (.int .i64 a0),.sc (.int .i64 a1),.sc (.int .i64 a2)]) (.agg [.sc (.int .i64 b0),.sc (.int .i64 b1),.sc (.int .i64 b2)])=some ⟨true,bl (!decide (a0=b0∧a1=b1∧a2=b2))⟩:=(by kernel_rfl:cO prog .neq 28 (.agg [.sc (.int .i64 a0),.sc (.int .i64 a1),.sc (.int .i64 a2)]) (.agg [.sc (.int .i64 b0),.sc (.int .i64 b1),.sc (.int .i64 b2)])=some ⟨true,bl (!((a0==b0)&&((a1==b1)&&((a2==b2)&&(true)))))⟩).trans (by congr 4;rw[Bool.eq_iff_iff];simp only[gD,beq_iff_eq,Bool.and_eq_true,decide_eq_true_eq,and_true,and_assoc])
theorem bGo:aR prog 29=some (false,1):=by kernel_rfl
theorem bGp:kA prog 29=some .i64:=by kernel_rfl
theorem bGq:(prog.underlying 29).isSome=true:=by kernel_rfl
theorem bGr:aQ prog 29=some (nt .i64 0):=by kernel_rfl
theorem bGs:aS prog 29=0:=by kernel_rfl
theorem bGt:aR prog 30=some (false,1):=by kernel_rfl
theorem bGu:(prog.underlying 30).isSome=true:=by kernel_rfl
theorem bGv:aS prog 30=0:=by kernel_rfl
theorem bGw:aR prog 31=some (false,1):=by kernel_rfl
theorem bGx:bP prog 31=3:=by kernel_rfl
theorem bGy:(prog.underlying 31).isSome=true:=by kernel_rfl
theorem bGz:aQ prog 31=some (.sc .nilFunc):=by kernel_rfl
theorem bG0:aS prog 31=0:=by kernel_rfl
theorem bG1:aR prog 32=some (false,1):=by kernel_rfl
theorem bG2:bP prog 32=3:=by kernel_rfl
theorem bG3:(prog.underlying 32).isSome=true:=by kernel_rfl
theorem bG4:aQ prog 32=some (.sc .nilFunc):=by kernel_rfl
theorem bG5:aS prog 32=0:=by kernel_rfl
theorem bG6:aR prog 33=some (false,1):=by kernel_rfl
theorem bG7:bK prog 33=some (35,2,40):=by kernel_rfl
theorem bG8:bP prog 33=1:=by kernel_rfl
theorem bG9:(prog.underlying 33).isSome=true:=by kernel_rfl
theorem bHa:aQ prog 33=some (.list false true []):=by kernel_rfl
theorem bHb:aS prog 33=0:=by kernel_rfl
theorem bHc:fB prog 33=true:=by kernel_rfl
theorem bHd:aR prog 34=some (true,2):=by kernel_rfl
theorem bHe:bX prog 34 0=some (0,9,1):=by kernel_rfl
theorem bHf:bX prog 34 1=some (1,33,1):=by kernel_rfl
theorem bHg:(prog.underlying 34).isSome=true:=by kernel_rfl
theorem bHh:aQ prog 34=some (.agg [.sc (.string (ByteArray.mk #[])),.list false true []]):=by kernel_rfl
theorem bHi:aS prog 34=0:=by kernel_rfl
theorem bHj:dU prog 34=some ([.sc (.string (ByteArray.mk #[])),.list false true []],[(0,1),(1,1)]):=by kernel_rfl
theorem bHk:aR prog 35=some (true,2):=by kernel_rfl
theorem bHl:bX prog 35 0=some (0,9,1):=by kernel_rfl
theorem bHm:bX prog 35 1=some (1,33,1):=by kernel_rfl
theorem bHn:(prog.underlying 35).isSome=true:=by kernel_rfl
theorem bHo:aQ prog 35=some (.agg [.sc (.string (ByteArray.mk #[])),.list false true []]):=by kernel_rfl
theorem bHp:aS prog 35=0:=by kernel_rfl
theorem bHq:lI prog 35=some 2:=by kernel_rfl
theorem bHr:dL prog 35=0:=by kernel_rfl
theorem bHs:dB prog 35=some (.agg #[.string (ByteArray.mk #[]),.slice none 0 0]):=by kernel_rfl
theorem bHt:dU prog 35=some ([.sc (.string (ByteArray.mk #[])),.list false true []],[(0,1),(1,1)]):=by kernel_rfl
theorem bHu:aR prog 36=some (false,1):=by kernel_rfl
theorem bHv:bK prog 36=some (43,3,48):=by kernel_rfl
theorem bHw:bP prog 36=1:=by kernel_rfl
theorem bHx:(prog.underlying 36).isSome=true:=by kernel_rfl
theorem bHy:aQ prog 36=some (.list false true []):=by kernel_rfl
theorem bHz:aS prog 36=0:=by kernel_rfl
theorem bH0:fB prog 36=true:=by kernel_rfl
theorem bH1:aR prog 37=some (true,3):=by kernel_rfl
theorem bH2:bX prog 37 0=some (0,35,2):=by kernel_rfl
theorem bH3:bX prog 37 1=some (2,36,1):=by kernel_rfl
theorem bH4:(prog.underlying 37).isSome=true:=by kernel_rfl
theorem bH5:aQ prog 37=some (.agg [.sc (.string (ByteArray.mk #[])),.list false true [],.list false true []]):=by kernel_rfl
theorem bH6:aS prog 37=0:=by kernel_rfl
theorem bH7:dU prog 37=some ([.sc (.string (ByteArray.mk #[])),.list false true [],.list false true []],[(0,2),(2,1)]):=by kernel_rfl
theorem bH8:aR prog 38=some (true,3):=by kernel_rfl
theorem bH9:bX prog 38 0=some (0,35,2):=by kernel_rfl
theorem bIa:bX prog 38 1=some (2,36,1):=by kernel_rfl
theorem bIb:(prog.underlying 38).isSome=true:=by kernel_rfl
theorem bIc:aQ prog 38=some (.agg [.sc (.string (ByteArray.mk #[])),.list false true [],.list false true []]):=by kernel_rfl
theorem bId:aS prog 38=0:=by kernel_rfl
theorem bIe:lI prog 38=some 3:=by kernel_rfl
theorem bIf:dL prog 38=0:=by kernel_rfl
theorem bIg:dB prog 38=some (.agg #[.string (ByteArray.mk #[]),.slice none 0 0,.slice none 0 0]):=by kernel_rfl
theorem bIh:dU prog 38=some ([.sc (.string (ByteArray.mk #[])),.list false true [],.list false true []],[(0,2),(2,1)]):=by kernel_rfl
theorem bIi:aR prog 39=some (false,1):=by kernel_rfl
theorem bIj:bP prog 39=3:=by kernel_rfl
theorem bIk:(prog.underlying 39).isSome=true:=by kernel_rfl
theorem bIl:aQ prog 39=some (.sc .nilFunc):=by kernel_rfl
theorem bIm:aS prog 39=0:=by kernel_rfl
theorem bIn:aR prog 40=some (false,1):=by kernel_rfl
theorem bIo:bP prog 40=3:=by kernel_rfl
theorem bIp:(prog.underlying 40).isSome=true:=by kernel_rfl
theorem bIq:aQ prog 40=some (.sc .nilFunc):=by kernel_rfl
theorem bIr:aS prog 40=0:=by kernel_rfl
theorem bIs:aR prog 41=some (false,1):=by kernel_rfl
theorem bIt:bP prog 41=3:=by kernel_rfl
theorem bIu:(prog.underlying 41).isSome=true:=by kernel_rfl
theorem bIv:aQ prog 41=some (.sc .nilFunc):=by kernel_rfl
theorem bIw:aS prog 41=0:=by kernel_rfl
theorem bIx:aR prog 42=some (true,3):=by kernel_rfl
theorem bIy:bX prog 42 0=some (0,4,1):=by kernel_rfl
theorem bIz:bX prog 42 1=some (1,35,2):=by kernel_rfl
theorem bI0:(prog.underlying 42).isSome=true:=by kernel_rfl
theorem bI1:aQ prog 42=some (.agg [bl false,.sc (.string (ByteArray.mk #[])),.list false true []]):=by kernel_rfl
theorem bI2:aS prog 42=0:=by kernel_rfl
theorem bI3:dU prog 42=some ([bl false,.sc (.string (ByteArray.mk #[])),.list false true []],[(0,1),(1,2)]):=by kernel_rfl
theorem bI4:aR prog 43=some (true,3):=by kernel_rfl
theorem bI5:bX prog 43 0=some (0,4,1):=by kernel_rfl
theorem bI6:bX prog 43 1=some (1,35,2):=by kernel_rfl
theorem bI7:(prog.underlying 43).isSome=true:=by kernel_rfl
theorem bI8:aQ prog 43=some (.agg [bl false,.sc (.string (ByteArray.mk #[])),.list false true []]):=by kernel_rfl
theorem bI9:aS prog 43=0:=by kernel_rfl
theorem bJa:lI prog 43=some 3:=by kernel_rfl
theorem bJb:dL prog 43=0:=by kernel_rfl
theorem bJc:dB prog 43=some (.agg #[.bool false,.string (ByteArray.mk #[]),.slice none 0 0]):=by kernel_rfl
theorem bJd:dU prog 43=some ([bl false,.sc (.string (ByteArray.mk #[])),.list false true []],[(0,1),(1,2)]):=by kernel_rfl
theorem bJe:aR prog 44=some (false,1):=by kernel_rfl
theorem bJf:bP prog 44=3:=by kernel_rfl
theorem bJg:(prog.underlying 44).isSome=true:=by kernel_rfl
theorem bJh:aQ prog 44=some (.sc .nilFunc):=by kernel_rfl
theorem bJi:aS prog 44=0:=by kernel_rfl
theorem bJj:aR prog 45=some (false,1):=by kernel_rfl
theorem bJk:bP prog 45=3:=by kernel_rfl
theorem bJl:(prog.underlying 45).isSome=true:=by kernel_rfl
theorem bJm:aQ prog 45=some (.sc .nilFunc):=by kernel_rfl
theorem bJn:aS prog 45=0:=by kernel_rfl
theorem bJo:aR prog 46=some (false,1):=by kernel_rfl
theorem bJp:bP prog 46=3:=by kernel_rfl
theorem bJq:(prog.underlying 46).isSome=true:=by kernel_rfl
theorem bJr:aQ prog 46=some (.sc .nilFunc):=by kernel_rfl
theorem bJs:aS prog 46=0:=by kernel_rfl
theorem bJt:aR prog 47=some (false,1):=by kernel_rfl
theorem bJu:bK prog 47=some (9,1,16):=by kernel_rfl
theorem bJv:bP prog 47=1:=by kernel_rfl
theorem bJw:(prog.underlying 47).isSome=true:=by kernel_rfl
theorem bJx:aQ prog 47=some (.list false true []):=by kernel_rfl
theorem bJy:aS prog 47=0:=by kernel_rfl
theorem bJz:fB prog 47=true:=by kernel_rfl
theorem bJ0:aR prog 48=some (false,1):=by kernel_rfl
theorem bJ1:bP prog 48=3:=by kernel_rfl
theorem bJ2:(prog.underlying 48).isSome=true:=by kernel_rfl
theorem bJ3:aQ prog 48=some (.sc .nilFunc):=by kernel_rfl
theorem bJ4:aS prog 48=0:=by kernel_rfl
theorem bJ5:aR prog 49=some (false,1):=by kernel_rfl
theorem bJ6:bP prog 49=3:=by kernel_rfl
theorem bJ7:(prog.underlying 49).isSome=true:=by kernel_rfl
theorem bJ8:aQ prog 49=some (.sc .nilFunc):=by kernel_rfl
theorem bJ9:aS prog 49=0:=by kernel_rfl
theorem bKa:aR prog 50=some (false,1):=by kernel_rfl
theorem bKb:bP prog 50=3:=by kernel_rfl
theorem bKc:(prog.underlying 50).isSome=true:=by kernel_rfl
theorem bKd:aQ prog 50=some (.sc .nilFunc):=by kernel_rfl
theorem bKe:aS prog 50=0:=by kernel_rfl
theorem bKf:aR prog 51=some (false,1):=by kernel_rfl
theorem bKg:bP prog 51=3:=by kernel_rfl
theorem bKh:(prog.underlying 51).isSome=true:=by kernel_rfl
theorem bKi:aQ prog 51=some (.sc .nilFunc):=by kernel_rfl
theorem bKj:aS prog 51=0:=by kernel_rfl
theorem bKk:aR prog 52=some (false,1):=by kernel_rfl
theorem bKl:bP prog 52=3:=by kernel_rfl
theorem bKm:(prog.underlying 52).isSome=true:=by kernel_rfl
theorem bKn:aQ prog 52=some (.sc .nilFunc):=by kernel_rfl
theorem bKo:aS prog 52=0:=by kernel_rfl
theorem bKp:aR prog 53=some (false,1):=by kernel_rfl
theorem bKq:bP prog 53=3:=by kernel_rfl
theorem bKr:(prog.underlying 53).isSome=true:=by kernel_rfl
theorem bKs:aQ prog 53=some (.sc .nilFunc):=by kernel_rfl
theorem bKt:aS prog 53=0:=by kernel_rfl
theorem bKu:aR prog 54=some (false,1):=by kernel_rfl
theorem bKv:bP prog 54=3:=by kernel_rfl
theorem bKw:(prog.underlying 54).isSome=true:=by kernel_rfl
theorem bKx:aQ prog 54=some (.sc .nilFunc):=by kernel_rfl
theorem bKy:aS prog 54=0:=by kernel_rfl
theorem bKz:aR prog 55=some (false,1):=by kernel_rfl
theorem bK0:bP prog 55=2:=by kernel_rfl
theorem bK1:(prog.underlying 55).isSome=true:=by kernel_rfl
theorem bK2:aQ prog 55=some (.sc (.pointer none)):=by kernel_rfl
theorem bK3:aS prog 55=0:=by kernel_rfl
theorem bK4:aR prog 56=some (true,1):=by kernel_rfl
theorem bK5:bX prog 56 0=some (0,3,1):=by kernel_rfl
theorem bK6:(prog.underlying 56).isSome=true:=by kernel_rfl
theorem bK7:aQ prog 56=some (.agg [nt .i64 0]):=by kernel_rfl
theorem bK8:aS prog 56=0:=by kernel_rfl
theorem bK9:dU prog 56=some ([nt .i64 0],[(0,1)]):=by kernel_rfl
theorem bLa (a0 b0:Int):cO prog .eql 56 (.agg [.sc (.int .i64 a0)]) (.agg [.sc (.int .i64 b0)])=some ⟨true,bl (decide (a0=b0))⟩:=(by kernel_rfl:cO prog .eql 56 (.agg [.sc (.int .i64 a0)]) (.agg [.sc (.int .i64 b0)])=some ⟨true,bl (((a0==b0)&&(true)))⟩).trans (by congr 3;rw[Bool.eq_iff_iff];simp only[gD,beq_iff_eq,Bool.and_eq_true,decide_eq_true_eq,and_true,and_assoc])
theorem bLb (a0 b0:Int):cO prog .neq 56 (.agg [.sc (.int .i64 a0)]) (.agg [.sc (.int .i64 b0)])=some ⟨true,bl (!decide (a0=b0))⟩:=(by kernel_rfl:cO prog .neq 56 (.agg [.sc (.int .i64 a0)]) (.agg [.sc (.int .i64 b0)])=some ⟨true,bl (!((a0==b0)&&(true)))⟩).trans (by congr 4;rw[Bool.eq_iff_iff];simp only[gD,beq_iff_eq,Bool.and_eq_true,decide_eq_true_eq,and_true,and_assoc])
theorem bLc:aR prog 57=some (true,1):=by kernel_rfl
theorem bLd:bX prog 57 0=some (0,3,1):=by kernel_rfl
theorem bLe:(prog.underlying 57).isSome=true:=by kernel_rfl
theorem bLf:aQ prog 57=some (.agg [nt .i64 0]):=by kernel_rfl
theorem bLg:aS prog 57=0:=by kernel_rfl
theorem bLh:dU prog 57=some ([nt .i64 0],[(0,1)]):=by kernel_rfl
theorem bLi (a0 b0:Int):cO prog .eql 57 (.agg [.sc (.int .i64 a0)]) (.agg [.sc (.int .i64 b0)])=some ⟨true,bl (decide (a0=b0))⟩:=(by kernel_rfl:cO prog .eql 57 (.agg [.sc (.int .i64 a0)]) (.agg [.sc (.int .i64 b0)])=some ⟨true,bl (((a0==b0)&&(true)))⟩).trans (by congr 3;rw[Bool.eq_iff_iff];simp only[gD,beq_iff_eq,Bool.and_eq_true,decide_eq_true_eq,and_true,and_assoc])
theorem bLj (a0 b0:Int):cO prog .neq 57 (.agg [.sc (.int .i64 a0)]) (.agg [.sc (.int .i64 b0)])=some ⟨true,bl (!decide (a0=b0))⟩:=(by kernel_rfl:cO prog .neq 57 (.agg [.sc (.int .i64 a0)]) (.agg [.sc (.int .i64 b0)])=some ⟨true,bl (!((a0==b0)&&(true)))⟩).trans (by congr 4;rw[Bool.eq_iff_iff];simp only[gD,beq_iff_eq,Bool.and_eq_true,decide_eq_true_eq,and_true,and_assoc])
theorem bLk {s:ByteArray}:gN prog 58 (.string s)=true:=by kernel_rfl
theorem bLl:aR prog 58=some (false,1):=by kernel_rfl
theorem bLm:(prog.underlying 58).isSome=true:=by kernel_rfl
theorem bLn:aQ prog 58=some (.sc (.map none)):=by kernel_rfl
theorem bLo:aS prog 58=0:=by kernel_rfl
theorem bLp:qX prog 58=some (bl false):=by kernel_rfl
theorem bLq:aR prog 59=some (false,1):=by kernel_rfl
theorem bLr:bP prog 59=3:=by kernel_rfl
theorem bLs:(prog.underlying 59).isSome=true:=by kernel_rfl
theorem bLt:aQ prog 59=some (.sc .nilFunc):=by kernel_rfl
theorem bLu:aS prog 59=0:=by kernel_rfl
theorem bLv:aR prog 60=some (false,1):=by kernel_rfl
theorem bLw:bP prog 60=3:=by kernel_rfl
theorem bLx:(prog.underlying 60).isSome=true:=by kernel_rfl
theorem bLy:aQ prog 60=some (.sc .nilFunc):=by kernel_rfl
theorem bLz:aS prog 60=0:=by kernel_rfl
theorem bL0:aR prog 61=some (false,1):=by kernel_rfl
theorem bL1:bP prog 61=3:=by kernel_rfl
theorem bL2:(prog.underlying 61).isSome=true:=by kernel_rfl
theorem bL3:aQ prog 61=some (.sc .nilFunc):=by kernel_rfl
theorem bL4:aS prog 61=0:=by kernel_rfl
theorem bL5:aR prog 62=some (false,1):=by kernel_rfl
theorem bL6:bK prog 62=some (67,1,24):=by kernel_rfl
theorem bL7:bP prog 62=1:=by kernel_rfl
theorem bL8:(prog.underlying 62).isSome=true:=by kernel_rfl
theorem bL9:aQ prog 62=some (.list false true []):=by kernel_rfl
theorem bMa:aS prog 62=0:=by kernel_rfl
theorem bMb:fB prog 62=true:=by kernel_rfl
theorem bMc:aR prog 63=some (false,1):=by kernel_rfl
theorem bMd:(prog.underlying 63).isSome=true:=by kernel_rfl
theorem bMe:aS prog 63=0:=by kernel_rfl
theorem bMf:aR prog 64=some (false,1):=by kernel_rfl
theorem bMg:bP prog 64=3:=by kernel_rfl
theorem bMh:(prog.underlying 64).isSome=true:=by kernel_rfl
theorem bMi:aQ prog 64=some (.sc .nilFunc):=by kernel_rfl
theorem bMj:aS prog 64=0:=by kernel_rfl
theorem bMk:aR prog 65=some (false,1):=by kernel_rfl
theorem bMl:(prog.underlying 65).isSome=true:=by kernel_rfl
theorem bMm:aS prog 65=0:=by kernel_rfl
theorem bMn:aR prog 66=some (false,1):=by kernel_rfl
theorem bMo:bP prog 66=3:=by kernel_rfl
theorem bMp:(prog.underlying 66).isSome=true:=by kernel_rfl
theorem bMq:aQ prog 66=some (.sc .nilFunc):=by kernel_rfl
theorem bMr:aS prog 66=0:=by kernel_rfl
theorem bMs:aR prog 67=some (false,1):=by kernel_rfl
theorem bMt:bK prog 67=some (90,3,56):=by kernel_rfl
theorem bMu:bP prog 67=1:=by kernel_rfl
theorem bMv:(prog.underlying 67).isSome=true:=by kernel_rfl
theorem bMw:aQ prog 67=some (.list false true []):=by kernel_rfl
theorem bMx:aS prog 67=0:=by kernel_rfl
theorem bMy:fB prog 67=true:=by kernel_rfl
theorem bMz:lI prog 67=some 1:=by kernel_rfl
theorem bM0:dL prog 67=0:=by kernel_rfl
theorem bM1:dB prog 67=some (.slice none 0 0):=by kernel_rfl
theorem bM2:aR prog 68=some (false,1):=by kernel_rfl
theorem bM3:bP prog 68=2:=by kernel_rfl
theorem bM4:(prog.underlying 68).isSome=true:=by kernel_rfl
theorem bM5:aQ prog 68=some (.sc (.pointer none)):=by kernel_rfl
theorem bM6:aS prog 68=0:=by kernel_rfl
theorem bM7:aR prog 69=some (true,2):=by kernel_rfl
theorem bM8:bX prog 69 0=some (0,9,1):=by kernel_rfl
theorem bM9:bX prog 69 1=some (1,3,1):=by kernel_rfl
theorem bNa:(prog.underlying 69).isSome=true:=by kernel_rfl
theorem bNb:aQ prog 69=some (.agg [.sc (.string (ByteArray.mk #[])),nt .i64 0]):=by kernel_rfl
theorem bNc:aS prog 69=0:=by kernel_rfl
theorem bNd:dU prog 69=some ([.sc (.string (ByteArray.mk #[])),nt .i64 0],[(0,1),(1,1)]):=by kernel_rfl
theorem bNe (a0 b0:ByteArray) (a1 b1:Int):cO prog .eql 69 (.agg [.sc (.string a0),.sc (.int .i64 a1)]) (.agg [.sc (.string b0),.sc (.int .i64 b1)])=some ⟨true,bl (decide (a0=b0∧a1=b1))⟩:=(by kernel_rfl:cO prog .eql 69 (.agg [.sc (.string a0),.sc (.int .i64 a1)]) (.agg [.sc (.string b0),.sc (.int .i64 b1)])=some ⟨true,bl (((a0==b0)&&((a1==b1)&&(true))))⟩).trans (by congr 3;rw[Bool.eq_iff_iff];simp only[gD,beq_iff_eq,Bool.and_eq_true,decide_eq_true_eq,and_true,and_assoc])
theorem bNf (a0 b0:ByteArray) (a1 b1:Int):cO prog .neq 69 (.agg [.sc (.string a0),.sc (.int .i64 a1)]) (.agg [.sc (.string b0),.sc (.int .i64 b1)])=some ⟨true,bl (!decide (a0=b0∧a1=b1))⟩:=(by kernel_rfl:cO prog .neq 69 (.agg [.sc (.string a0),.sc (.int .i64 a1)]) (.agg [.sc (.string b0),.sc (.int .i64 b1)])=some ⟨true,bl (!((a0==b0)&&((a1==b1)&&(true))))⟩).trans (by congr 4;rw[Bool.eq_iff_iff];simp only[gD,beq_iff_eq,Bool.and_eq_true,decide_eq_true_eq,and_true,and_assoc])
theorem bNg:aR prog 70=some (true,2):=by kernel_rfl
theorem bNh:bX prog 70 0=some (0,9,1):=by kernel_rfl
theorem bNi:bX prog 70 1=some (1,3,1):=by kernel_rfl
theorem bNj:(prog.underlying 70).isSome=true:=by kernel_rfl
theorem bNk:aQ prog 70=some (.agg [.sc (.string (ByteArray.mk #[])),nt .i64 0]):=by kernel_rfl
theorem bNl:aS prog 70=0:=by kernel_rfl
theorem bNm:dU prog 70=some ([.sc (.string (ByteArray.mk #[])),nt .i64 0],[(0,1),(1,1)]):=by kernel_rfl
theorem bNn (a0 b0:ByteArray) (a1 b1:Int):cO prog .eql 70 (.agg [.sc (.string a0),.sc (.int .i64 a1)]) (.agg [.sc (.string b0),.sc (.int .i64 b1)])=some ⟨true,bl (decide (a0=b0∧a1=b1))⟩:=(by kernel_rfl:cO prog .eql 70 (.agg [.sc (.string a0),.sc (.int .i64 a1)]) (.agg [.sc (.string b0),.sc (.int .i64 b1)])=some ⟨true,bl (((a0==b0)&&((a1==b1)&&(true))))⟩).trans (by congr 3;rw[Bool.eq_iff_iff];simp only[gD,beq_iff_eq,Bool.and_eq_true,decide_eq_true_eq,and_true,and_assoc])
theorem bNo (a0 b0:ByteArray) (a1 b1:Int):cO prog .neq 70 (.agg [.sc (.string a0),.sc (.int .i64 a1)]) (.agg [.sc (.string b0),.sc (.int .i64 b1)])=some ⟨true,bl (!decide (a0=b0∧a1=b1))⟩:=(by kernel_rfl:cO prog .neq 70 (.agg [.sc (.string a0),.sc (.int .i64 a1)]) (.agg [.sc (.string b0),.sc (.int .i64 b1)])=some ⟨true,bl (!((a0==b0)&&((a1==b1)&&(true))))⟩).trans (by congr 4;rw[Bool.eq_iff_iff];simp only[gD,beq_iff_eq,Bool.and_eq_true,decide_eq_true_eq,and_true,and_assoc])
theorem bNp:aR prog 71=some (false,1):=by kernel_rfl
theorem bNq:bP prog 71=3:=by kernel_rfl
theorem bNr:(prog.underlying 71).isSome=true:=by kernel_rfl
theorem bNs:aQ prog 71=some (.sc .nilFunc):=by kernel_rfl
theorem bNt:aS prog 71=0:=by kernel_rfl
theorem bNu:aR prog 72=some (false,1):=by kernel_rfl
theorem bNv:bP prog 72=3:=by kernel_rfl
theorem bNw:(prog.underlying 72).isSome=true:=by kernel_rfl
theorem bNx:aQ prog 72=some (.sc .nilFunc):=by kernel_rfl
theorem bNy:aS prog 72=0:=by kernel_rfl
theorem bNz:aR prog 73=some (true,6):=by kernel_rfl
theorem bN0:jZ prog 73=some (6,47,1):=by kernel_rfl
theorem bN1:(prog.underlying 73).isSome=true:=by kernel_rfl
theorem bN2:aQ prog 73=some (.agg [.list false true [],.list false true [],.list false true [],.list false true [],.list false true [],.list false true []]):=by kernel_rfl
theorem bN3:aS prog 73=0:=by kernel_rfl
theorem bN4:dU prog 73=some ([.list false true [],.list false true [],.list false true [],.list false true [],.list false true [],.list false true []],[(0,1),(1,1),(2,1),(3,1),(4,1),(5,1)]):=by kernel_rfl
theorem bN5:aR prog 74=some (false,1):=by kernel_rfl
theorem bN6:bP prog 74=3:=by kernel_rfl
theorem bN7:(prog.underlying 74).isSome=true:=by kernel_rfl
theorem bN8:aQ prog 74=some (.sc .nilFunc):=by kernel_rfl
theorem bN9:aS prog 74=0:=by kernel_rfl
theorem bOa:aR prog 75=some (false,1):=by kernel_rfl
theorem bOb:bP prog 75=3:=by kernel_rfl
theorem bOc:(prog.underlying 75).isSome=true:=by kernel_rfl
theorem bOd:aQ prog 75=some (.sc .nilFunc):=by kernel_rfl
theorem bOe:aS prog 75=0:=by kernel_rfl
theorem bOf:aR prog 76=some (false,1):=by kernel_rfl
theorem bOg:bP prog 76=3:=by kernel_rfl
theorem bOh:(prog.underlying 76).isSome=true:=by kernel_rfl
theorem bOi:aQ prog 76=some (.sc .nilFunc):=by kernel_rfl
theorem bOj:aS prog 76=0:=by kernel_rfl
theorem bOk:aR prog 77=some (false,1):=by kernel_rfl
theorem bOl:bP prog 77=3:=by kernel_rfl
theorem bOm:(prog.underlying 77).isSome=true:=by kernel_rfl
theorem bOn:aQ prog 77=some (.sc .nilFunc):=by kernel_rfl
theorem bOo:aS prog 77=0:=by kernel_rfl
theorem bOp:aR prog 78=some (false,1):=by kernel_rfl
theorem bOq:bP prog 78=3:=by kernel_rfl
theorem bOr:(prog.underlying 78).isSome=true:=by kernel_rfl
theorem bOs:aQ prog 78=some (.sc .nilFunc):=by kernel_rfl
theorem bOt:aS prog 78=0:=by kernel_rfl
theorem bOu:aR prog 79=some (false,1):=by kernel_rfl
theorem bOv:bP prog 79=3:=by kernel_rfl
theorem bOw:(prog.underlying 79).isSome=true:=by kernel_rfl
theorem bOx:aQ prog 79=some (.sc .nilFunc):=by kernel_rfl
theorem bOy:aS prog 79=0:=by kernel_rfl
theorem bOz:aR prog 80=some (false,1):=by kernel_rfl
theorem bO0:bP prog 80=3:=by kernel_rfl
theorem bO1:(prog.underlying 80).isSome=true:=by kernel_rfl
theorem bO2:aQ prog 80=some (.sc .nilFunc):=by kernel_rfl
theorem bO3:aS prog 80=0:=by kernel_rfl
theorem bO4:aR prog 81=some (false,1):=by kernel_rfl
theorem bO5:bP prog 81=3:=by kernel_rfl
theorem bO6:(prog.underlying 81).isSome=true:=by kernel_rfl
theorem bO7:aQ prog 81=some (.sc .nilFunc):=by kernel_rfl
theorem bO8:aS prog 81=0:=by kernel_rfl
theorem bO9:aR prog 82=some (false,1):=by kernel_rfl
theorem bPa:bP prog 82=3:=by kernel_rfl
theorem bPb:(prog.underlying 82).isSome=true:=by kernel_rfl
theorem bPc:aQ prog 82=some (.sc .nilFunc):=by kernel_rfl
theorem bPd:aS prog 82=0:=by kernel_rfl
theorem bPe:aR prog 83=some (false,1):=by kernel_rfl
theorem bPf:bP prog 83=3:=by kernel_rfl
theorem bPg:(prog.underlying 83).isSome=true:=by kernel_rfl
theorem bPh:aQ prog 83=some (.sc .nilFunc):=by kernel_rfl
theorem bPi:aS prog 83=0:=by kernel_rfl
theorem bPj:aR prog 84=some (false,1):=by kernel_rfl
theorem bPk:bP prog 84=3:=by kernel_rfl
theorem bPl:(prog.underlying 84).isSome=true:=by kernel_rfl
theorem bPm:aQ prog 84=some (.sc .nilFunc):=by kernel_rfl
theorem bPn:aS prog 84=0:=by kernel_rfl
theorem bPo:aR prog 85=some (false,1):=by kernel_rfl
theorem bPp:bP prog 85=3:=by kernel_rfl
theorem bPq:(prog.underlying 85).isSome=true:=by kernel_rfl
theorem bPr:aQ prog 85=some (.sc .nilFunc):=by kernel_rfl
theorem bPs:aS prog 85=0:=by kernel_rfl
theorem bPt:aR prog 86=some (false,1):=by kernel_rfl
theorem bPu:bP prog 86=3:=by kernel_rfl
theorem bPv:(prog.underlying 86).isSome=true:=by kernel_rfl
theorem bPw:aQ prog 86=some (.sc .nilFunc):=by kernel_rfl
theorem bPx:aS prog 86=0:=by kernel_rfl
theorem bPy:aR prog 87=some (false,1):=by kernel_rfl
theorem bPz:(prog.underlying 87).isSome=true:=by kernel_rfl
theorem bP0:aS prog 87=0:=by kernel_rfl
theorem bP1:aR prog 88=some (false,1):=by kernel_rfl
theorem bP2:bP prog 88=3:=by kernel_rfl
theorem bP3:(prog.underlying 88).isSome=true:=by kernel_rfl
theorem bP4:aQ prog 88=some (.sc .nilFunc):=by kernel_rfl
theorem bP5:aS prog 88=0:=by kernel_rfl
theorem bP6:aR prog 89=some (true,3):=by kernel_rfl
theorem bP7:bX prog 89 0=some (0,9,1):=by kernel_rfl
theorem bP8:bX prog 89 1=some (1,35,2):=by kernel_rfl
theorem bP9:(prog.underlying 89).isSome=true:=by kernel_rfl
theorem bQa:aQ prog 89=some (.agg [.sc (.string (ByteArray.mk #[])),.sc (.string (ByteArray.mk #[])),.list false true []]):=by kernel_rfl
theorem bQb:aS prog 89=0:=by kernel_rfl
theorem bQc:dU prog 89=some ([.sc (.string (ByteArray.mk #[])),.sc (.string (ByteArray.mk #[])),.list false true []],[(0,1),(1,2)]):=by kernel_rfl
theorem bQd:aR prog 90=some (true,3):=by kernel_rfl
theorem bQe:bX prog 90 0=some (0,9,1):=by kernel_rfl
theorem bQf:bX prog 90 1=some (1,35,2):=by kernel_rfl
theorem bQg:(prog.underlying 90).isSome=true:=by kernel_rfl
theorem bQh:aQ prog 90=some (.agg [.sc (.string (ByteArray.mk #[])),.sc (.string (ByteArray.mk #[])),.list false true []]):=by kernel_rfl
theorem bQi:aS prog 90=0:=by kernel_rfl
theorem bQj:lI prog 90=some 3:=by kernel_rfl
theorem bQk:dL prog 90=0:=by kernel_rfl
theorem bQl:dB prog 90=some (.agg #[.string (ByteArray.mk #[]),.string (ByteArray.mk #[]),.slice none 0 0]):=by kernel_rfl
theorem bQm:dU prog 90=some ([.sc (.string (ByteArray.mk #[])),.sc (.string (ByteArray.mk #[])),.list false true []],[(0,1),(1,2)]):=by kernel_rfl
theorem bQn:aR prog 91=some (false,1):=by kernel_rfl
theorem bQo:bP prog 91=3:=by kernel_rfl
theorem bQp:(prog.underlying 91).isSome=true:=by kernel_rfl
theorem bQq:aQ prog 91=some (.sc .nilFunc):=by kernel_rfl
theorem bQr:aS prog 91=0:=by kernel_rfl
theorem bQs:aR prog 92=some (false,1):=by kernel_rfl
theorem bQt:bP prog 92=3:=by kernel_rfl
theorem bQu:(prog.underlying 92).isSome=true:=by kernel_rfl
theorem bQv:aQ prog 92=some (.sc .nilFunc):=by kernel_rfl
theorem bQw:aS prog 92=0:=by kernel_rfl
theorem bQx:aR prog 94=some (false,1):=by kernel_rfl
theorem bQy:bP prog 94=3:=by kernel_rfl
theorem bQz:(prog.underlying 94).isSome=true:=by kernel_rfl
theorem bQ0:aQ prog 94=some (.sc .nilFunc):=by kernel_rfl
theorem bQ1:aS prog 94=0:=by kernel_rfl
theorem bQ2:aR prog 95=some (false,1):=by kernel_rfl
theorem bQ3:kA prog 95=some .u64:=by kernel_rfl
theorem bQ4:(prog.underlying 95).isSome=true:=by kernel_rfl
theorem bQ5:aQ prog 95=some (nt .u64 0):=by kernel_rfl
theorem bQ6:aS prog 95=0:=by kernel_rfl
theorem bQ7:aR prog 102=some (false,1):=by kernel_rfl
theorem bQ8:kA prog 102=some .i64:=by kernel_rfl
theorem bQ9:(prog.underlying 102).isSome=true:=by kernel_rfl
theorem bRa:aQ prog 102=some (nt .i64 0):=by kernel_rfl
theorem bRb:aS prog 102=0:=by kernel_rfl
theorem bRc:aR prog 107=some (false,1):=by kernel_rfl
theorem bRd:(prog.underlying 107).isSome=true:=by kernel_rfl
theorem bRe:aS prog 107=0:=by kernel_rfl
theorem bRf:aR prog 110=some (false,1):=by kernel_rfl
theorem bRg:kA prog 110=some .u32:=by kernel_rfl
theorem bRh:(prog.underlying 110).isSome=true:=by kernel_rfl
theorem bRi:aQ prog 110=some (nt .u32 0):=by kernel_rfl
theorem bRj:aS prog 110=0:=by kernel_rfl
theorem bRk:aR prog 112=some (false,1):=by kernel_rfl
theorem bRl:kA prog 112=some .u64:=by kernel_rfl
theorem bRm:(prog.underlying 112).isSome=true:=by kernel_rfl
theorem bRn:aQ prog 112=some (nt .u64 0):=by kernel_rfl
theorem bRo:aS prog 112=0:=by kernel_rfl
theorem bRp:aR prog 114=some (true,4):=by kernel_rfl
theorem bRq:bX prog 114 0=some (0,3,1):=by kernel_rfl
theorem bRr:bX prog 114 1=some (1,3,1):=by kernel_rfl
theorem bRs:bX prog 114 2=some (2,3,1):=by kernel_rfl
theorem bRt:bX prog 114 3=some (3,9,1):=by kernel_rfl
theorem bRu:(prog.underlying 114).isSome=true:=by kernel_rfl
theorem bRv:aQ prog 114=some (.agg [nt .i64 0,nt .i64 0,nt .i64 0,.sc (.string (ByteArray.mk #[]))]):=by kernel_rfl
theorem bRw:aS prog 114=0:=by kernel_rfl
theorem bRx:dU prog 114=some ([nt .i64 0,nt .i64 0,nt .i64 0,.sc (.string (ByteArray.mk #[]))],[(0,1),(1,1),(2,1),(3,1)]):=by kernel_rfl
theorem bRy (a0 b0:Int) (a1 b1:Int) (a2 b2:Int) (a3 b3:ByteArray):cO prog .eql 114 (.agg [.sc (.int .i64 a0),.sc (.int .i64 a1),.sc (.int .i64 a2),.sc (.string a3)]) (.agg [.sc (.int .i64 b0),.sc (.int .i64 b1),.sc (.int .i64 b2),.sc (.string b3)])=some ⟨true,bl (decide (a0=b0∧a1=b1∧a2=b2∧a3=b3))⟩:=(by kernel_rfl:cO prog .eql 114 (.agg [.sc (.int .i64 a0),.sc (.int .i64 a1),.sc (.int .i64 a2),.sc (.string a3)]) (.agg [.sc (.int .i64 b0),.sc (.int .i64 b1),.sc (.int .i64 b2),.sc (.string b3)])=some ⟨true,bl (((a0==b0)&&((a1==b1)&&((a2==b2)&&((a3==b3)&&(true))))))⟩).trans (by congr 3;rw[Bool.eq_iff_iff];simp only[gD,beq_iff_eq,Bool.and_eq_true,decide_eq_true_eq,and_true,and_assoc])
theorem bRz (a0 b0:Int) (a1 b1:Int) (a2 b2:Int) (a3 b3:ByteArray):cO prog .neq 114 (.agg [.sc (.int .i64 a0),.sc (.int .i64 a1),.sc (.int .i64 a2),.sc (.string a3)]) (.agg [.sc (.int .i64 b0),.sc (.int .i64 b1),.sc (.int .i64 b2),.sc (.string b3)])=some ⟨true,bl (!decide (a0=b0∧a1=b1∧a2=b2∧a3=b3))⟩:=(by kernel_rfl:cO prog .neq 114 (.agg [.sc (.int .i64 a0),.sc (.int .i64 a1),.sc (.int .i64 a2),.sc (.string a3)]) (.agg [.sc (.int .i64 b0),.sc (.int .i64 b1),.sc (.int .i64 b2),.sc (.string b3)])=some ⟨true,bl (!((a0==b0)&&((a1==b1)&&((a2==b2)&&((a3==b3)&&(true))))))⟩).trans (by congr 4;rw[Bool.eq_iff_iff];simp only[gD,beq_iff_eq,Bool.and_eq_true,decide_eq_true_eq,and_true,and_assoc])
theorem bR0:aR prog 118=some (true,24):=by kernel_rfl
theorem bR1:jZ prog 118=some (24,5,1):=by kernel_rfl
theorem bR2:(prog.underlying 118).isSome=true:=by kernel_rfl
theorem bR3:aQ prog 118=some (.agg [nt .u8 0,nt .u8 0,nt .u8 0,nt .u8 0,nt .u8 0,nt .u8 0,nt .u8 0,nt .u8 0,nt .u8 0,nt .u8 0,nt .u8 0,nt .u8 0,nt .u8 0,nt .u8 0,nt .u8 0,nt .u8 0,nt .u8 0,nt .u8 0,nt .u8 0,nt .u8 0,nt .u8 0,nt .u8 0,nt .u8 0,nt .u8 0]):=by kernel_rfl
theorem bR4:aS prog 118=0:=by kernel_rfl
theorem bR5:dU prog 118=some ([nt .u8 0,nt .u8 0,nt .u8 0,nt .u8 0,nt .u8 0,nt .u8 0,nt .u8 0,nt .u8 0,nt .u8 0,nt .u8 0,nt .u8 0,nt .u8 0,nt .u8 0,nt .u8 0,nt .u8 0,nt .u8 0,nt .u8 0,nt .u8 0,nt .u8 0,nt .u8 0,nt .u8 0,nt .u8 0,nt .u8 0,nt .u8 0],[(0,1),(1,1),(2,1),(3,1),(4,1),(5,1),(6,1),(7,1),(8,1),(9,1),(10,1),(11,1),(12,1),(13,1),(14,1),(15,1),(16,1),(17,1),(18,1),(19,1),(20,1),(21,1),(22,1),(23,1)]):=by kernel_rfl
theorem bR6:aR prog 120=some (false,1):=by kernel_rfl
theorem bR7:bK prog 120=some (5,1,1):=by kernel_rfl
theorem bR8:bP prog 120=1:=by kernel_rfl
theorem bR9:(prog.underlying 120).isSome=true:=by kernel_rfl
theorem bSa:aQ prog 120=some (.list false true []):=by kernel_rfl
theorem bSb:aS prog 120=0:=by kernel_rfl
theorem bSc:fB prog 120=true:=by kernel_rfl
theorem bSd:aR prog 121=some (false,1):=by kernel_rfl
theorem bSe:(prog.underlying 121).isSome=true:=by kernel_rfl
theorem bSf:aS prog 121=0:=by kernel_rfl
theorem bSg:aR prog 123=some (false,1):=by kernel_rfl
theorem bSh:kA prog 123=some .u64:=by kernel_rfl
theorem bSi:(prog.underlying 123).isSome=true:=by kernel_rfl
theorem bSj:aQ prog 123=some (nt .u64 0):=by kernel_rfl
theorem bSk:aS prog 123=0:=by kernel_rfl
theorem bSl:aR prog 127=some (false,1):=by kernel_rfl
theorem bSm:bP prog 127=2:=by kernel_rfl
theorem bSn:(prog.underlying 127).isSome=true:=by kernel_rfl
theorem bSo:aQ prog 127=some (.sc (.pointer none)):=by kernel_rfl
theorem bSp:aS prog 127=0:=by kernel_rfl
theorem bSq:aR prog 136=some (false,1):=by kernel_rfl
theorem bSr:bP prog 136=2:=by kernel_rfl
theorem bSs:(prog.underlying 136).isSome=true:=by kernel_rfl
theorem bSt:aQ prog 136=some (.sc (.pointer none)):=by kernel_rfl
theorem bSu:aS prog 136=0:=by kernel_rfl
theorem bSv:aR prog 141=some (true,2):=by kernel_rfl
theorem bSw:bX prog 141 0=some (0,5,1):=by kernel_rfl
theorem bSx:bX prog 141 1=some (1,5,1):=by kernel_rfl
theorem bSy:(prog.underlying 141).isSome=true:=by kernel_rfl
theorem bSz:aQ prog 141=some (.agg [nt .u8 0,nt .u8 0]):=by kernel_rfl
theorem bS0:aS prog 141=0:=by kernel_rfl
theorem bS1:lI prog 141=some 2:=by kernel_rfl
theorem bS2:dL prog 141=0:=by kernel_rfl
theorem bS3:dB prog 141=some (.agg #[.int .u8 0,.int .u8 0]):=by kernel_rfl
theorem bS4:dU prog 141=some ([nt .u8 0,nt .u8 0],[(0,1),(1,1)]):=by kernel_rfl
theorem bS5 (a0 b0:Int) (a1 b1:Int):cO prog .eql 141 (.agg [.sc (.int .u8 a0),.sc (.int .u8 a1)]) (.agg [.sc (.int .u8 b0),.sc (.int .u8 b1)])=some ⟨true,bl (decide (a0=b0∧a1=b1))⟩:=(by kernel_rfl:cO prog .eql 141 (.agg [.sc (.int .u8 a0),.sc (.int .u8 a1)]) (.agg [.sc (.int .u8 b0),.sc (.int .u8 b1)])=some ⟨true,bl (((a0==b0)&&((a1==b1)&&(true))))⟩).trans (by congr 3;rw[Bool.eq_iff_iff];simp only[gD,beq_iff_eq,Bool.and_eq_true,decide_eq_true_eq,and_true,and_assoc])
theorem bS6 (a0 b0:Int) (a1 b1:Int):cO prog .neq 141 (.agg [.sc (.int .u8 a0),.sc (.int .u8 a1)]) (.agg [.sc (.int .u8 b0),.sc (.int .u8 b1)])=some ⟨true,bl (!decide (a0=b0∧a1=b1))⟩:=(by kernel_rfl:cO prog .neq 141 (.agg [.sc (.int .u8 a0),.sc (.int .u8 a1)]) (.agg [.sc (.int .u8 b0),.sc (.int .u8 b1)])=some ⟨true,bl (!((a0==b0)&&((a1==b1)&&(true))))⟩).trans (by congr 4;rw[Bool.eq_iff_iff];simp only[gD,beq_iff_eq,Bool.and_eq_true,decide_eq_true_eq,and_true,and_assoc])
theorem bS7:aR prog 142=some (true,6):=by kernel_rfl
theorem bS8:jZ prog 142=some (3,141,2):=by kernel_rfl
theorem bS9:(prog.underlying 142).isSome=true:=by kernel_rfl
theorem bTa:aQ prog 142=some (.agg [nt .u8 0,nt .u8 0,nt .u8 0,nt .u8 0,nt .u8 0,nt .u8 0]):=by kernel_rfl
theorem bTb:aS prog 142=0:=by kernel_rfl
theorem bTc:dU prog 142=some ([nt .u8 0,nt .u8 0,nt .u8 0,nt .u8 0,nt .u8 0,nt .u8 0],[(0,2),(2,2),(4,2)]):=by kernel_rfl
theorem bTd:aR prog 144=some (false,1):=by kernel_rfl
theorem bTe:bK prog 144=some (141,2,2):=by kernel_rfl
theorem bTf:bP prog 144=1:=by kernel_rfl
theorem bTg:(prog.underlying 144).isSome=true:=by kernel_rfl
theorem bTh:aQ prog 144=some (.list false true []):=by kernel_rfl
theorem bTi:aS prog 144=0:=by kernel_rfl
theorem bTj:fB prog 144=true:=by kernel_rfl
theorem bTk:aR prog 148=some (true,4):=by kernel_rfl
theorem bTl:bX prog 148 0=some (0,17,1):=by kernel_rfl
theorem bTm:bX prog 148 1=some (1,17,1):=by kernel_rfl
theorem bTn:bX prog 148 2=some (2,17,1):=by kernel_rfl
theorem bTo:bX prog 148 3=some (3,9,1):=by kernel_rfl
theorem bTp:(prog.underlying 148).isSome=true:=by kernel_rfl
theorem bTq:aQ prog 148=some (.agg [.sc (.pointer none),.sc (.pointer none),.sc (.pointer none),.sc (.string (ByteArray.mk #[]))]):=by kernel_rfl
theorem bTr:aS prog 148=0:=by kernel_rfl
theorem bTs:dU prog 148=some ([.sc (.pointer none),.sc (.pointer none),.sc (.pointer none),.sc (.string (ByteArray.mk #[]))],[(0,1),(1,1),(2,1),(3,1)]):=by kernel_rfl
attribute [go_sem] bBi bBj bBk bBl bBm bBn bBo bBp bBq bBr bBs bBt bBu bBv bBw bBx bBy bBz bB0 bB1 bB2 bB3 bB4 bB5 bB6 bB7 bB8 bB9 bCa bCb bCc bCd bCe bCf bCg bCh bCi bCj bCk bCl bCm bCn bCo bCp bCq bCr bCs bCt bCu bCv bCw bCx bCy bCz bC0 bC1 bC2 bC3 bC4 bC5 bC6 bC7 bC8 bC9 bDa bDb bDc bDd bDe bDf bDg bDh bDi bDj bDk bDl bDm bDn bDo bDp bDq bDr bDs bDt bDu bDv bDw bDx bDy bDz bD0 bD1 bD2 bD3 bD4 bD5 bD6 bD7 bD8 bD9 bEa bEb bEc bEd bEe bEf bEg bEh bEi bEj bEk bEl bEm bEn bEo bEp bEq bEr bEs bEt bEu bEv bEw bEx bEy bEz bE0 bE1 bE2 bE3 bE4 bE5 bE6 bE7 bE8 bE9 bFa bFb bFc bFd bFe bFf bFg bFh bFi bFj bFk bFl bFm bFn bFo bFp bFq bFr bFs bFt bFu bFv bFw bFx bFy bFz bF0 bF1 bF2 bF3 bF4 bF5 bF6 bF7 bF8 bF9 bGa bGb bGc bGd bGe bGf bGg bGh bGi bGj bGk bGl bGm bGn bGo bGp bGq bGr bGs bGt bGu bGv bGw bGx bGy bGz bG0 bG1 bG2 bG3 bG4 bG5 bG6 bG7 bG8 bG9 bHa bHb bHc bHd bHe bHf bHg bHh bHi bHj bHk bHl bHm bHn bHo bHp bHq bHr bHs bHt bHu bHv bHw bHx bHy bHz bH0 bH1 bH2 bH3 bH4 bH5 bH6 bH7 bH8 bH9 bIa bIb bIc bId bIe bIf bIg bIh bIi bIj bIk bIl bIm bIn bIo bIp bIq bIr bIs bIt bIu bIv bIw bIx bIy bIz bI0 bI1 bI2 bI3 bI4 bI5 bI6 bI7 bI8 bI9 bJa bJb bJc bJd bJe bJf bJg bJh bJi bJj bJk bJl bJm bJn bJo bJp bJq bJr bJs bJt bJu bJv bJw bJx bJy bJz bJ0 bJ1 bJ2 bJ3 bJ4 bJ5 bJ6 bJ7 bJ8 bJ9 bKa bKb bKc bKd bKe bKf bKg bKh bKi bKj bKk bKl bKm bKn bKo bKp bKq bKr bKs bKt bKu bKv bKw bKx bKy bKz bK0 bK1 bK2 bK3 bK4 bK5 bK6 bK7 bK8 bK9 bLa bLb bLc bLd bLe bLf bLg bLh bLi bLj bLk bLl bLm bLn bLo bLp bLq bLr bLs bLt bLu bLv bLw bLx bLy bLz bL0 bL1 bL2 bL3 bL4 bL5 bL6 bL7 bL8 bL9 bMa bMb bMc bMd bMe bMf bMg bMh bMi bMj bMk bMl bMm bMn bMo bMp bMq bMr bMs bMt bMu bMv bMw bMx bMy bMz bM0 bM1 bM2 bM3 bM4 bM5 bM6 bM7 bM8 bM9 bNa bNb bNc bNd bNe bNf bNg bNh bNi bNj bNk bNl bNm bNn bNo bNp bNq bNr bNs bNt bNu bNv bNw bNx bNy bNz bN0 bN1 bN2 bN3 bN4 bN5 bN6 bN7 bN8 bN9 bOa bOb bOc bOd bOe bOf bOg bOh bOi bOj bOk bOl bOm bOn bOo bOp bOq bOr bOs bOt bOu bOv bOw bOx bOy bOz bO0 bO1 bO2 bO3 bO4 bO5 bO6 bO7 bO8 bO9 bPa bPb bPc bPd bPe bPf bPg bPh bPi bPj bPk bPl bPm bPn bPo bPp bPq bPr bPs bPt bPu bPv bPw bPx bPy bPz bP0 bP1 bP2 bP3 bP4 bP5 bP6 bP7 bP8 bP9 bQa bQb bQc bQd bQe bQf bQg bQh bQi bQj bQk bQl bQm bQn bQo bQp bQq bQr bQs bQt bQu bQv bQw bQx bQy bQz bQ0 bQ1 bQ2 bQ3 bQ4 bQ5 bQ6 bQ7 bQ8 bQ9 bRa bRb bRc bRd bRe bRf bRg bRh bRi bRj bRk bRl bRm bRn bRo bRp bRq bRr bRs bRt bRu bRv bRw bRx bRy bRz bR0 bR1 bR2 bR3 bR4 bR5 bR6 bR7 bR8 bR9 bSa bSb bSc bSd bSe bSf bSg bSh bSi bSj bSk bSl bSm bSn bSo bSp bSq bSr bSs bSt bSu bSv bSw bSx bSy bSz bS0 bS1 bS2 bS3 bS4 bS5 bS6 bS7 bS8 bS9 bTa bTb bTc bTd bTe bTf bTg bTh bTi bTj bTk bTl bTm bTn bTo bTp bTq bTr bTs
theorem aT:prog.follows .mixedOrders=true:=by kernel_rfl
end Go.Proofs.YtbgckcdddlmiaaaDoor
