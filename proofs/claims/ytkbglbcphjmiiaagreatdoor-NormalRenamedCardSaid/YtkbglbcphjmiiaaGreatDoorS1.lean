import Derived.Test.YtkbglbcphjmiiaaGreatDoorA5
import Derived.Test.YtkbglbcphjmiiaaGreatDoorRows
set_option linter.unusedSimpArgs false
set_option linter.unusedVariables false
open Go.Proofs.Tryz
namespace Go.Proofs.YtkbglbcphjmiiaaGreatDoor
open Go.Ab
instance:Glob prog:=Glob.none _
theorem bFh:aU prog 0=some (false,1):=by kernel_rfl
theorem bFi:(prog.underlying 0).isSome=true:=by kernel_rfl
theorem bFj:aV prog 0=0:=by kernel_rfl
theorem bFk:aU prog 1=some (false,1):=by kernel_rfl
theorem bFl:bH prog 1=3:=by kernel_rfl
theorem bFm:(prog.underlying 1).isSome=true:=by kernel_rfl
theorem bFn:aS prog 1=some (.sc .nilFunc):=by kernel_rfl
theorem bFo:aV prog 1=0:=by kernel_rfl
theorem bFp:aU prog 2=some (false,1):=by kernel_rfl
theorem bFq:lQ prog 2=some .i64:=by kernel_rfl
theorem bFr:(prog.underlying 2).isSome=true:=by kernel_rfl
theorem bFs:aS prog 2=some (nt .i64 0):=by kernel_rfl
theorem bFt:aV prog 2=0:=by kernel_rfl
theorem bFu:aU prog 3=some (false,1):=by kernel_rfl
theorem bFv:lQ prog 3=some .i64:=by kernel_rfl
theorem bFw:(prog.underlying 3).isSome=true:=by kernel_rfl
theorem bFx:aS prog 3=some (nt .i64 0):=by kernel_rfl
theorem bFy:aV prog 3=0:=by kernel_rfl
theorem bFz:lH prog 3=some 1:=by kernel_rfl
theorem bF0:dX prog 3=0:=by kernel_rfl
theorem bF1:dN prog 3=some (.int .i64 0):=by kernel_rfl
theorem bF2:aU prog 4=some (false,1):=by kernel_rfl
theorem bF3:uR prog 4=true:=by kernel_rfl
theorem bF4:(prog.underlying 4).isSome=true:=by kernel_rfl
theorem bF5:aS prog 4=some (bl false):=by kernel_rfl
theorem bF6:aV prog 4=0:=by kernel_rfl
theorem bF7:aU prog 5=some (false,1):=by kernel_rfl
theorem bF8:lQ prog 5=some .u8:=by kernel_rfl
theorem bF9:(prog.underlying 5).isSome=true:=by kernel_rfl
theorem bGa:aS prog 5=some (nt .u8 0):=by kernel_rfl
theorem bGb:aV prog 5=0:=by kernel_rfl
theorem bGc:lH prog 5=some 1:=by kernel_rfl
theorem bGd:dX prog 5=7:=by kernel_rfl
theorem bGe:dN prog 5=some (.int .u8 0):=by kernel_rfl
theorem bGf:aU prog 6=some (false,1):=by kernel_rfl
theorem bGg:lQ prog 6=some .u8:=by kernel_rfl
theorem bGh:(prog.underlying 6).isSome=true:=by kernel_rfl
theorem bGi:aS prog 6=some (nt .u8 0):=by kernel_rfl
theorem bGj:aV prog 6=0:=by kernel_rfl
theorem bGk:aU prog 7=some (true,4):=by kernel_rfl
theorem bGl:cM prog 7 0=some (0,2,1):=by kernel_rfl
theorem bGm:cM prog 7 1=some (1,3,1):=by kernel_rfl
theorem bGn:cM prog 7 2=some (2,4,1):=by kernel_rfl
theorem bGo:cM prog 7 3=some (3,6,1):=by kernel_rfl
theorem bGp:(prog.underlying 7).isSome=true:=by kernel_rfl
theorem bGq:aS prog 7=some (.agg [nt .i64 0,nt .i64 0,bl false,nt .u8 0]):=by kernel_rfl
theorem bGr:aV prog 7=0:=by kernel_rfl
theorem bGs:eY prog 7=some ([nt .i64 0,nt .i64 0,bl false,nt .u8 0],[(0,1),(1,1),(2,1),(3,1)]):=by kernel_rfl
theorem bGt (a0 b0:Int) (a1 b1:Int) (a2 b2:Bool) (a3 b3:Int):dO prog .eql 7 (.agg [.sc (.int .i64 a0),.sc (.int .i64 a1),.sc (.bool a2),.sc (.int .u8 a3)]) (.agg [.sc (.int .i64 b0),.sc (.int .i64 b1),.sc (.bool b2),.sc (.int .u8 b3)])=some ⟨true,bl (decide (a0=b0∧a1=b1∧a2=b2∧a3=b3))⟩:=(by kernel_rfl:dO prog .eql 7 (.agg [.sc (.int .i64 a0),.sc (.int .i64 a1),.sc (.bool a2),.sc (.int .u8 a3)]) (.agg [.sc (.int .i64 b0),.sc (.int .i64 b1),.sc (.bool b2),.sc (.int .u8 b3)])=some ⟨true,bl (((a0==b0)&&((a1==b1)&&((a2==b2)&&((a3==b3)&&(true))))))⟩).trans (by congr 3;rw[Bool.eq_iff_iff];simp only[kM,beq_iff_eq,Bool.and_eq_true,decide_eq_true_eq,and_true,and_assoc])
theorem bGu (a0 b0:Int) (a1 b1:Int) (a2 b2:Bool) (a3 b3:Int):dO prog .neq 7 (.agg [.sc (.int .i64 a0),.sc (.int .i64 a1),.sc (.bool a2),.sc (.int .u8 a3)]) (.agg [.sc (.int .i64 b0),.sc (.int .i64 b1),.sc (.bool b2),.sc (.int .u8 b3)])=some ⟨true,bl (!decide (a0=b0∧a1=b1∧a2=b2∧a3=b3))⟩:=(by kernel_rfl:dO prog .neq 7 (.agg [.sc (.int .i64 a0),.sc (.int .i64 a1),.sc (.bool a2),.sc (.int .u8 a3)]) (.agg [.sc (.int .i64 b0),.sc (.int .i64 b1),.sc (.bool b2),.sc (.int .u8 b3)])=some ⟨true,bl (!((a0==b0)&&((a1==b1)&&((a2==b2)&&((a3==b3)&&(true))))))⟩).trans (by congr 4;rw[Bool.eq_iff_iff];simp only[kM,beq_iff_eq,Bool.and_eq_true,decide_eq_true_eq,and_true,and_assoc])
theorem bGv:aU prog 8=some (true,4):=by kernel_rfl
theorem bGw:cM prog 8 0=some (0,2,1):=by kernel_rfl
theorem bGx:cM prog 8 1=some (1,3,1):=by kernel_rfl
theorem bGy:cM prog 8 2=some (2,4,1):=by kernel_rfl
theorem bGz:cM prog 8 3=some (3,6,1):=by kernel_rfl
theorem bG0:(prog.underlying 8).isSome=true:=by kernel_rfl
theorem bG1:aS prog 8=some (.agg [nt .i64 0,nt .i64 0,bl false,nt .u8 0]):=by kernel_rfl
theorem bG2:aV prog 8=0:=by kernel_rfl
theorem bG3:eY prog 8=some ([nt .i64 0,nt .i64 0,bl false,nt .u8 0],[(0,1),(1,1),(2,1),(3,1)]):=by kernel_rfl
theorem bG4 (a0 b0:Int) (a1 b1:Int) (a2 b2:Bool) (a3 b3:Int):dO prog .eql 8 (.agg [.sc (.int .i64 a0),.sc (.int .i64 a1),.sc (.bool a2),.sc (.int .u8 a3)]) (.agg [.sc (.int .i64 b0),.sc (.int .i64 b1),.sc (.bool b2),.sc (.int .u8 b3)])=some ⟨true,bl (decide (a0=b0∧a1=b1∧a2=b2∧a3=b3))⟩:=(by kernel_rfl:dO prog .eql 8 (.agg [.sc (.int .i64 a0),.sc (.int .i64 a1),.sc (.bool a2),.sc (.int .u8 a3)]) (.agg [.sc (.int .i64 b0),.sc (.int .i64 b1),.sc (.bool b2),.sc (.int .u8 b3)])=some ⟨true,bl (((a0==b0)&&((a1==b1)&&((a2==b2)&&((a3==b3)&&(true))))))⟩).trans (by congr 3;rw[Bool.eq_iff_iff];simp only[kM,beq_iff_eq,Bool.and_eq_true,decide_eq_true_eq,and_true,and_assoc])
theorem bG5 (a0 b0:Int) (a1 b1:Int) (a2 b2:Bool) (a3 b3:Int):dO prog .neq 8 (.agg [.sc (.int .i64 a0),.sc (.int .i64 a1),.sc (.bool a2),.sc (.int .u8 a3)]) (.agg [.sc (.int .i64 b0),.sc (.int .i64 b1),.sc (.bool b2),.sc (.int .u8 b3)])=some ⟨true,bl (!decide (a0=b0∧a1=b1∧a2=b2∧a3=b3))⟩:=(by kernel_rfl:dO prog .neq 8 (.agg [.sc (.int .i64 a0),.sc (.int .i64 a1),.sc (.bool a2),.sc (.int .u8 a3)]) (.agg [.sc (.int .i64 b0),.sc (.int .i64 b1),.sc (.bool b2),.sc (.int .u8 b3)])=some ⟨true,bl (!((a0==b0)&&((a1==b1)&&((a2==b2)&&((a3==b3)&&(true))))))⟩).trans (by congr 4;rw[Bool.eq_iff_iff];simp only[kM,beq_iff_eq,Bool.and_eq_true,decide_eq_true_eq,and_true,and_assoc])
theorem bG6:aU prog 9=some (false,1):=by kernel_rfl
theorem bG7:lR prog 9=true:=by kernel_rfl
theorem bG8:(prog.underlying 9).isSome=true:=by kernel_rfl
theorem bG9:aS prog 9=some (.sc (.string (ByteArray.mk #[]))):=by kernel_rfl
theorem bHa:aV prog 9=0:=by kernel_rfl
theorem bHb:fQ prog 9=true:=by kernel_rfl
theorem bHc:lH prog 9=some 1:=by kernel_rfl
theorem bHd:dX prog 9=0:=by kernel_rfl
theorem bHe:dN prog 9=some (.string (ByteArray.mk #[])):=by kernel_rfl
theorem bHf:aU prog 10=some (false,1):=by kernel_rfl
theorem bHg:lR prog 10=true:=by kernel_rfl
theorem bHh:(prog.underlying 10).isSome=true:=by kernel_rfl
theorem bHi:aS prog 10=some (.sc (.string (ByteArray.mk #[]))):=by kernel_rfl
theorem bHj:aV prog 10=0:=by kernel_rfl
theorem bHk:fQ prog 10=true:=by kernel_rfl
theorem bHl:aU prog 11=some (false,1):=by kernel_rfl
theorem bHm:lR prog 11=true:=by kernel_rfl
theorem bHn:(prog.underlying 11).isSome=true:=by kernel_rfl
theorem bHo:aS prog 11=some (.sc (.string (ByteArray.mk #[]))):=by kernel_rfl
theorem bHp:aV prog 11=0:=by kernel_rfl
theorem bHq:fQ prog 11=true:=by kernel_rfl
theorem bHr:aU prog 12=some (false,1):=by kernel_rfl
theorem bHs:lQ prog 12=some .u64:=by kernel_rfl
theorem bHt:(prog.underlying 12).isSome=true:=by kernel_rfl
theorem bHu:aS prog 12=some (nt .u64 0):=by kernel_rfl
theorem bHv:aV prog 12=0:=by kernel_rfl
theorem bHw:aU prog 13=some (true,2):=by kernel_rfl
theorem bHx:cM prog 13 0=some (0,9,1):=by kernel_rfl
theorem bHy:cM prog 13 1=some (1,12,1):=by kernel_rfl
theorem bHz:(prog.underlying 13).isSome=true:=by kernel_rfl
theorem bH0:aS prog 13=some (.agg [.sc (.string (ByteArray.mk #[])),nt .u64 0]):=by kernel_rfl
theorem bH1:aV prog 13=0:=by kernel_rfl
theorem bH2:eY prog 13=some ([.sc (.string (ByteArray.mk #[])),nt .u64 0],[(0,1),(1,1)]):=by kernel_rfl
theorem bH3:aU prog 14=some (true,2):=by kernel_rfl
theorem bH4:cM prog 14 0=some (0,9,1):=by kernel_rfl
theorem bH5:cM prog 14 1=some (1,12,1):=by kernel_rfl
theorem bH6:(prog.underlying 14).isSome=true:=by kernel_rfl
theorem bH7:aS prog 14=some (.agg [.sc (.string (ByteArray.mk #[])),nt .u64 0]):=by kernel_rfl
theorem bH8:aV prog 14=0:=by kernel_rfl
theorem bH9:eY prog 14=some ([.sc (.string (ByteArray.mk #[])),nt .u64 0],[(0,1),(1,1)]):=by kernel_rfl
theorem bIa:aU prog 15=some (false,1):=by kernel_rfl
theorem bIb:bH prog 15=2:=by kernel_rfl
theorem bIc:(prog.underlying 15).isSome=true:=by kernel_rfl
theorem bId:aS prog 15=some (.sc (.pointer none)):=by kernel_rfl
theorem bIe:aV prog 15=0:=by kernel_rfl
theorem bIf:aU prog 16=some (false,1):=by kernel_rfl
theorem bIg:bH prog 16=2:=by kernel_rfl
theorem bIh:(prog.underlying 16).isSome=true:=by kernel_rfl
theorem bIi:aS prog 16=some (.sc (.pointer none)):=by kernel_rfl
theorem bIj:aV prog 16=0:=by kernel_rfl
theorem bIk:aU prog 17=some (false,1):=by kernel_rfl
theorem bIl:bH prog 17=2:=by kernel_rfl
theorem bIm:(prog.underlying 17).isSome=true:=by kernel_rfl
theorem bIn:aS prog 17=some (.sc (.pointer none)):=by kernel_rfl
theorem bIo:aV prog 17=0:=by kernel_rfl
theorem bIp:aU prog 18=some (true,1):=by kernel_rfl
theorem bIq:cM prog 18 0=some (0,17,1):=by kernel_rfl
theorem bIr:(prog.underlying 18).isSome=true:=by kernel_rfl
theorem bIs:aS prog 18=some (.agg [.sc (.pointer none)]):=by kernel_rfl
theorem bIt:aV prog 18=0:=by kernel_rfl
theorem bIu:eY prog 18=some ([.sc (.pointer none)],[(0,1)]):=by kernel_rfl
theorem bIv:aU prog 19=some (true,1):=by kernel_rfl
theorem bIw:cM prog 19 0=some (0,17,1):=by kernel_rfl
theorem bIx:(prog.underlying 19).isSome=true:=by kernel_rfl
theorem bIy:aS prog 19=some (.agg [.sc (.pointer none)]):=by kernel_rfl
theorem bIz:aV prog 19=0:=by kernel_rfl
theorem bI0:eY prog 19=some ([.sc (.pointer none)],[(0,1)]):=by kernel_rfl
theorem bI1:aU prog 20=some (false,1):=by kernel_rfl
theorem bI2:(prog.underlying 20).isSome=true:=by kernel_rfl
theorem bI3:aS prog 20=some (.sc .nilIface):=by kernel_rfl
theorem bI4:aV prog 20=0:=by kernel_rfl
theorem bI5:aU prog 21=some (false,1):=by kernel_rfl
theorem bI6:lQ prog 21=some .i32:=by kernel_rfl
theorem bI7:(prog.underlying 21).isSome=true:=by kernel_rfl
theorem bI8:aS prog 21=some (nt .i32 0):=by kernel_rfl
theorem bI9:aV prog 21=0:=by kernel_rfl
theorem bJa:aU prog 22=some (false,1):=by kernel_rfl
theorem bJb:bV prog 22=some (24,2,40):=by kernel_rfl
theorem bJc:bH prog 22=1:=by kernel_rfl
theorem bJd:(prog.underlying 22).isSome=true:=by kernel_rfl
theorem bJe:aS prog 22=some (.list false true []):=by kernel_rfl
theorem bJf:aV prog 22=0:=by kernel_rfl
theorem bJg:fQ prog 22=true:=by kernel_rfl
theorem bJh:aU prog 23=some (true,2):=by kernel_rfl
theorem bJi:cM prog 23 0=some (0,9,1):=by kernel_rfl
theorem bJj:cM prog 23 1=some (1,22,1):=by kernel_rfl
theorem bJk:(prog.underlying 23).isSome=true:=by kernel_rfl
theorem bJl:aS prog 23=some (.agg [.sc (.string (ByteArray.mk #[])),.list false true []]):=by kernel_rfl
theorem bJm:aV prog 23=0:=by kernel_rfl
theorem bJn:eY prog 23=some ([.sc (.string (ByteArray.mk #[])),.list false true []],[(0,1),(1,1)]):=by kernel_rfl
theorem bJo:aU prog 24=some (true,2):=by kernel_rfl
theorem bJp:cM prog 24 0=some (0,9,1):=by kernel_rfl
theorem bJq:cM prog 24 1=some (1,22,1):=by kernel_rfl
theorem bJr:(prog.underlying 24).isSome=true:=by kernel_rfl
theorem bJs:aS prog 24=some (.agg [.sc (.string (ByteArray.mk #[])),.list false true []]):=by kernel_rfl
theorem bJt:aV prog 24=0:=by kernel_rfl
theorem bJu:lH prog 24=some 2:=by kernel_rfl
theorem bJv:dX prog 24=0:=by kernel_rfl
theorem bJw:dN prog 24=some (.agg #[.string (ByteArray.mk #[]),.slice none 0 0]):=by kernel_rfl
theorem bJx:eY prog 24=some ([.sc (.string (ByteArray.mk #[])),.list false true []],[(0,1),(1,1)]):=by kernel_rfl
theorem bJy:aU prog 25=some (false,1):=by kernel_rfl
theorem bJz:bV prog 25=some (46,3,48):=by kernel_rfl
theorem bJ0:bH prog 25=1:=by kernel_rfl
theorem bJ1:(prog.underlying 25).isSome=true:=by kernel_rfl
theorem bJ2:aS prog 25=some (.list false true []):=by kernel_rfl
theorem bJ3:aV prog 25=0:=by kernel_rfl
theorem bJ4:fQ prog 25=true:=by kernel_rfl
theorem bJ5:aU prog 26=some (true,3):=by kernel_rfl
theorem bJ6:cM prog 26 0=some (0,24,2):=by kernel_rfl
theorem bJ7:cM prog 26 1=some (2,25,1):=by kernel_rfl
theorem bJ8:(prog.underlying 26).isSome=true:=by kernel_rfl
theorem bJ9:aS prog 26=some (.agg [.sc (.string (ByteArray.mk #[])),.list false true [],.list false true []]):=by kernel_rfl
theorem bKa:aV prog 26=0:=by kernel_rfl
theorem bKb:eY prog 26=some ([.sc (.string (ByteArray.mk #[])),.list false true [],.list false true []],[(0,2),(2,1)]):=by kernel_rfl
theorem bKc:aU prog 27=some (true,3):=by kernel_rfl
theorem bKd:cM prog 27 0=some (0,24,2):=by kernel_rfl
theorem bKe:cM prog 27 1=some (2,25,1):=by kernel_rfl
theorem bKf:(prog.underlying 27).isSome=true:=by kernel_rfl
theorem bKg:aS prog 27=some (.agg [.sc (.string (ByteArray.mk #[])),.list false true [],.list false true []]):=by kernel_rfl
theorem bKh:aV prog 27=0:=by kernel_rfl
theorem bKi:lH prog 27=some 3:=by kernel_rfl
theorem bKj:dX prog 27=0:=by kernel_rfl
theorem bKk:dN prog 27=some (.agg #[.string (ByteArray.mk #[]),.slice none 0 0,.slice none 0 0]):=by kernel_rfl
theorem bKl:eY prog 27=some ([.sc (.string (ByteArray.mk #[])),.list false true [],.list false true []],[(0,2),(2,1)]):=by kernel_rfl
theorem bKm:aU prog 28=some (false,1):=by kernel_rfl
theorem bKn:bH prog 28=3:=by kernel_rfl
theorem bKo:(prog.underlying 28).isSome=true:=by kernel_rfl
theorem bKp:aS prog 28=some (.sc .nilFunc):=by kernel_rfl
theorem bKq:aV prog 28=0:=by kernel_rfl
theorem bKr:aU prog 29=some (false,1):=by kernel_rfl
theorem bKs:bH prog 29=3:=by kernel_rfl
theorem bKt:(prog.underlying 29).isSome=true:=by kernel_rfl
theorem bKu:aS prog 29=some (.sc .nilFunc):=by kernel_rfl
theorem bKv:aV prog 29=0:=by kernel_rfl
theorem bKw:aU prog 30=some (false,1):=by kernel_rfl
theorem bKx:bH prog 30=3:=by kernel_rfl
theorem bKy:(prog.underlying 30).isSome=true:=by kernel_rfl
theorem bKz:aS prog 30=some (.sc .nilFunc):=by kernel_rfl
theorem bK0:aV prog 30=0:=by kernel_rfl
theorem bK1:aU prog 31=some (false,1):=by kernel_rfl
theorem bK2:bH prog 31=3:=by kernel_rfl
theorem bK3:(prog.underlying 31).isSome=true:=by kernel_rfl
theorem bK4:aS prog 31=some (.sc .nilFunc):=by kernel_rfl
theorem bK5:aV prog 31=0:=by kernel_rfl
theorem bK6:aU prog 32=some (false,1):=by kernel_rfl
theorem bK7:lQ prog 32=some .i64:=by kernel_rfl
theorem bK8:(prog.underlying 32).isSome=true:=by kernel_rfl
theorem bK9:aS prog 32=some (nt .i64 0):=by kernel_rfl
theorem bLa:aV prog 32=0:=by kernel_rfl
theorem bLb:aU prog 33=some (false,1):=by kernel_rfl
theorem bLc:(prog.underlying 33).isSome=true:=by kernel_rfl
theorem bLd:aV prog 33=0:=by kernel_rfl
theorem bLe:aU prog 34=some (false,1):=by kernel_rfl
theorem bLf:bH prog 34=3:=by kernel_rfl
theorem bLg:(prog.underlying 34).isSome=true:=by kernel_rfl
theorem bLh:aS prog 34=some (.sc .nilFunc):=by kernel_rfl
theorem bLi:aV prog 34=0:=by kernel_rfl
theorem bLj:aU prog 35=some (false,1):=by kernel_rfl
theorem bLk:(prog.underlying 35).isSome=true:=by kernel_rfl
theorem bLl:aV prog 35=0:=by kernel_rfl
theorem bLm:aU prog 36=some (false,1):=by kernel_rfl
theorem bLn:bH prog 36=3:=by kernel_rfl
theorem bLo:(prog.underlying 36).isSome=true:=by kernel_rfl
theorem bLp:aS prog 36=some (.sc .nilFunc):=by kernel_rfl
theorem bLq:aV prog 36=0:=by kernel_rfl
theorem bLr:aU prog 37=some (false,1):=by kernel_rfl
theorem bLs:bV prog 37=some (27,3,64):=by kernel_rfl
theorem bLt:bH prog 37=1:=by kernel_rfl
theorem bLu:(prog.underlying 37).isSome=true:=by kernel_rfl
theorem bLv:aS prog 37=some (.list false true []):=by kernel_rfl
theorem bLw:aV prog 37=0:=by kernel_rfl
theorem bLx:fQ prog 37=true:=by kernel_rfl
theorem bLy:aU prog 38=some (false,1):=by kernel_rfl
theorem bLz:bH prog 38=3:=by kernel_rfl
theorem bL0:(prog.underlying 38).isSome=true:=by kernel_rfl
theorem bL1:aS prog 38=some (.sc .nilFunc):=by kernel_rfl
theorem bL2:aV prog 38=0:=by kernel_rfl
theorem bL3:aU prog 39=some (false,1):=by kernel_rfl
theorem bL4:(prog.underlying 39).isSome=true:=by kernel_rfl
theorem bL5:aV prog 39=0:=by kernel_rfl
theorem bL6:aU prog 40=some (false,1):=by kernel_rfl
theorem bL7:bH prog 40=3:=by kernel_rfl
theorem bL8:(prog.underlying 40).isSome=true:=by kernel_rfl
theorem bL9:aS prog 40=some (.sc .nilFunc):=by kernel_rfl
theorem bMa:aV prog 40=0:=by kernel_rfl
theorem bMb:aU prog 41=some (false,1):=by kernel_rfl
theorem bMc:bH prog 41=3:=by kernel_rfl
theorem bMd:(prog.underlying 41).isSome=true:=by kernel_rfl
theorem bMe:aS prog 41=some (.sc .nilFunc):=by kernel_rfl
theorem bMf:aV prog 41=0:=by kernel_rfl
theorem bMg:aU prog 42=some (false,1):=by kernel_rfl
theorem bMh:bH prog 42=3:=by kernel_rfl
theorem bMi:(prog.underlying 42).isSome=true:=by kernel_rfl
theorem bMj:aS prog 42=some (.sc .nilFunc):=by kernel_rfl
theorem bMk:aV prog 42=0:=by kernel_rfl
theorem bMl:aU prog 43=some (false,1):=by kernel_rfl
theorem bMm:(prog.underlying 43).isSome=true:=by kernel_rfl
theorem bMn:aV prog 43=0:=by kernel_rfl
theorem bMo:aU prog 44=some (false,1):=by kernel_rfl
theorem bMp:bH prog 44=3:=by kernel_rfl
theorem bMq:(prog.underlying 44).isSome=true:=by kernel_rfl
theorem bMr:aS prog 44=some (.sc .nilFunc):=by kernel_rfl
theorem bMs:aV prog 44=0:=by kernel_rfl
theorem bMt:aU prog 45=some (true,3):=by kernel_rfl
theorem bMu:cM prog 45 0=some (0,4,1):=by kernel_rfl
theorem bMv:cM prog 45 1=some (1,24,2):=by kernel_rfl
theorem bMw:(prog.underlying 45).isSome=true:=by kernel_rfl
theorem bMx:aS prog 45=some (.agg [bl false,.sc (.string (ByteArray.mk #[])),.list false true []]):=by kernel_rfl
theorem bMy:aV prog 45=0:=by kernel_rfl
theorem bMz:eY prog 45=some ([bl false,.sc (.string (ByteArray.mk #[])),.list false true []],[(0,1),(1,2)]):=by kernel_rfl
theorem bM0:aU prog 46=some (true,3):=by kernel_rfl
theorem bM1:cM prog 46 0=some (0,4,1):=by kernel_rfl
theorem bM2:cM prog 46 1=some (1,24,2):=by kernel_rfl
theorem bM3:(prog.underlying 46).isSome=true:=by kernel_rfl
theorem bM4:aS prog 46=some (.agg [bl false,.sc (.string (ByteArray.mk #[])),.list false true []]):=by kernel_rfl
theorem bM5:aV prog 46=0:=by kernel_rfl
theorem bM6:lH prog 46=some 3:=by kernel_rfl
theorem bM7:dX prog 46=0:=by kernel_rfl
theorem bM8:dN prog 46=some (.agg #[.bool false,.string (ByteArray.mk #[]),.slice none 0 0]):=by kernel_rfl
theorem bM9:eY prog 46=some ([bl false,.sc (.string (ByteArray.mk #[])),.list false true []],[(0,1),(1,2)]):=by kernel_rfl
theorem bNa:aU prog 47=some (false,1):=by kernel_rfl
theorem bNb:bH prog 47=3:=by kernel_rfl
theorem bNc:(prog.underlying 47).isSome=true:=by kernel_rfl
theorem bNd:aS prog 47=some (.sc .nilFunc):=by kernel_rfl
theorem bNe:aV prog 47=0:=by kernel_rfl
theorem bNf:aU prog 48=some (false,1):=by kernel_rfl
theorem bNg:bH prog 48=3:=by kernel_rfl
theorem bNh:(prog.underlying 48).isSome=true:=by kernel_rfl
theorem bNi:aS prog 48=some (.sc .nilFunc):=by kernel_rfl
theorem bNj:aV prog 48=0:=by kernel_rfl
theorem bNk:aU prog 49=some (false,1):=by kernel_rfl
theorem bNl:bH prog 49=3:=by kernel_rfl
theorem bNm:(prog.underlying 49).isSome=true:=by kernel_rfl
theorem bNn:aS prog 49=some (.sc .nilFunc):=by kernel_rfl
theorem bNo:aV prog 49=0:=by kernel_rfl
theorem bNp:aU prog 50=some (false,1):=by kernel_rfl
theorem bNq:bH prog 50=3:=by kernel_rfl
theorem bNr:(prog.underlying 50).isSome=true:=by kernel_rfl
theorem bNs:aS prog 50=some (.sc .nilFunc):=by kernel_rfl
theorem bNt:aV prog 50=0:=by kernel_rfl
theorem bNu:aU prog 51=some (false,1):=by kernel_rfl
theorem bNv:bH prog 51=3:=by kernel_rfl
theorem bNw:(prog.underlying 51).isSome=true:=by kernel_rfl
theorem bNx:aS prog 51=some (.sc .nilFunc):=by kernel_rfl
theorem bNy:aV prog 51=0:=by kernel_rfl
theorem bNz:aU prog 52=some (false,1):=by kernel_rfl
theorem bN0:bH prog 52=3:=by kernel_rfl
theorem bN1:(prog.underlying 52).isSome=true:=by kernel_rfl
theorem bN2:aS prog 52=some (.sc .nilFunc):=by kernel_rfl
theorem bN3:aV prog 52=0:=by kernel_rfl
theorem bN4:aU prog 53=some (false,1):=by kernel_rfl
theorem bN5:bH prog 53=3:=by kernel_rfl
theorem bN6:(prog.underlying 53).isSome=true:=by kernel_rfl
theorem bN7:aS prog 53=some (.sc .nilFunc):=by kernel_rfl
theorem bN8:aV prog 53=0:=by kernel_rfl
theorem bN9:aU prog 54=some (false,1):=by kernel_rfl
theorem bOa:bH prog 54=3:=by kernel_rfl
theorem bOb:(prog.underlying 54).isSome=true:=by kernel_rfl
theorem bOc:aS prog 54=some (.sc .nilFunc):=by kernel_rfl
theorem bOd:aV prog 54=0:=by kernel_rfl
theorem bOe:aU prog 55=some (false,1):=by kernel_rfl
theorem bOf:bH prog 55=3:=by kernel_rfl
theorem bOg:(prog.underlying 55).isSome=true:=by kernel_rfl
theorem bOh:aS prog 55=some (.sc .nilFunc):=by kernel_rfl
theorem bOi:aV prog 55=0:=by kernel_rfl
theorem bOj:aU prog 56=some (false,1):=by kernel_rfl
theorem bOk:bH prog 56=3:=by kernel_rfl
theorem bOl:(prog.underlying 56).isSome=true:=by kernel_rfl
theorem bOm:aS prog 56=some (.sc .nilFunc):=by kernel_rfl
theorem bOn:aV prog 56=0:=by kernel_rfl
theorem bOo:aU prog 57=some (false,1):=by kernel_rfl
theorem bOp:bV prog 57=some (9,1,16):=by kernel_rfl
theorem bOq:bH prog 57=1:=by kernel_rfl
theorem bOr:(prog.underlying 57).isSome=true:=by kernel_rfl
theorem bOs:aS prog 57=some (.list false true []):=by kernel_rfl
theorem bOt:aV prog 57=0:=by kernel_rfl
theorem bOu:fQ prog 57=true:=by kernel_rfl
theorem bOv:aU prog 58=some (false,1):=by kernel_rfl
theorem bOw:bH prog 58=3:=by kernel_rfl
theorem bOx:(prog.underlying 58).isSome=true:=by kernel_rfl
theorem bOy:aS prog 58=some (.sc .nilFunc):=by kernel_rfl
theorem bOz:aV prog 58=0:=by kernel_rfl
theorem bO0:aU prog 59=some (false,1):=by kernel_rfl
theorem bO1:bH prog 59=3:=by kernel_rfl
theorem bO2:(prog.underlying 59).isSome=true:=by kernel_rfl
theorem bO3:aS prog 59=some (.sc .nilFunc):=by kernel_rfl
theorem bO4:aV prog 59=0:=by kernel_rfl
theorem bO5:aU prog 60=some (false,1):=by kernel_rfl
theorem bO6:bH prog 60=3:=by kernel_rfl
theorem bO7:(prog.underlying 60).isSome=true:=by kernel_rfl
theorem bO8:aS prog 60=some (.sc .nilFunc):=by kernel_rfl
theorem bO9:aV prog 60=0:=by kernel_rfl
theorem bPa:aU prog 61=some (false,1):=by kernel_rfl
theorem bPb:bH prog 61=3:=by kernel_rfl
theorem bPc:(prog.underlying 61).isSome=true:=by kernel_rfl
theorem bPd:aS prog 61=some (.sc .nilFunc):=by kernel_rfl
theorem bPe:aV prog 61=0:=by kernel_rfl
theorem bPf:aU prog 62=some (false,1):=by kernel_rfl
theorem bPg:bV prog 62=some (64,3,56):=by kernel_rfl
theorem bPh:bH prog 62=1:=by kernel_rfl
theorem bPi:(prog.underlying 62).isSome=true:=by kernel_rfl
theorem bPj:aS prog 62=some (.list false true []):=by kernel_rfl
theorem bPk:aV prog 62=0:=by kernel_rfl
theorem bPl:fQ prog 62=true:=by kernel_rfl
theorem bPm:aU prog 63=some (true,3):=by kernel_rfl
theorem bPn:cM prog 63 0=some (0,9,1):=by kernel_rfl
theorem bPo:cM prog 63 1=some (1,24,2):=by kernel_rfl
theorem bPp:(prog.underlying 63).isSome=true:=by kernel_rfl
theorem bPq:aS prog 63=some (.agg [.sc (.string (ByteArray.mk #[])),.sc (.string (ByteArray.mk #[])),.list false true []]):=by kernel_rfl
theorem bPr:aV prog 63=0:=by kernel_rfl
theorem bPs:eY prog 63=some ([.sc (.string (ByteArray.mk #[])),.sc (.string (ByteArray.mk #[])),.list false true []],[(0,1),(1,2)]):=by kernel_rfl
theorem bPt:aU prog 64=some (true,3):=by kernel_rfl
theorem bPu:cM prog 64 0=some (0,9,1):=by kernel_rfl
theorem bPv:cM prog 64 1=some (1,24,2):=by kernel_rfl
theorem bPw:(prog.underlying 64).isSome=true:=by kernel_rfl
theorem bPx:aS prog 64=some (.agg [.sc (.string (ByteArray.mk #[])),.sc (.string (ByteArray.mk #[])),.list false true []]):=by kernel_rfl
theorem bPy:aV prog 64=0:=by kernel_rfl
theorem bPz:lH prog 64=some 3:=by kernel_rfl
theorem bP0:dX prog 64=0:=by kernel_rfl
theorem bP1:dN prog 64=some (.agg #[.string (ByteArray.mk #[]),.string (ByteArray.mk #[]),.slice none 0 0]):=by kernel_rfl
theorem bP2:eY prog 64=some ([.sc (.string (ByteArray.mk #[])),.sc (.string (ByteArray.mk #[])),.list false true []],[(0,1),(1,2)]):=by kernel_rfl
theorem bP3:aU prog 65=some (false,1):=by kernel_rfl
theorem bP4:bH prog 65=3:=by kernel_rfl
theorem bP5:(prog.underlying 65).isSome=true:=by kernel_rfl
theorem bP6:aS prog 65=some (.sc .nilFunc):=by kernel_rfl
theorem bP7:aV prog 65=0:=by kernel_rfl
theorem bP8:aU prog 66=some (false,1):=by kernel_rfl
theorem bP9:bH prog 66=3:=by kernel_rfl
theorem bQa:(prog.underlying 66).isSome=true:=by kernel_rfl
theorem bQb:aS prog 66=some (.sc .nilFunc):=by kernel_rfl
theorem bQc:aV prog 66=0:=by kernel_rfl
theorem bQd:aU prog 67=some (false,1):=by kernel_rfl
theorem bQe:bH prog 67=3:=by kernel_rfl
theorem bQf:(prog.underlying 67).isSome=true:=by kernel_rfl
theorem bQg:aS prog 67=some (.sc .nilFunc):=by kernel_rfl
theorem bQh:aV prog 67=0:=by kernel_rfl
theorem bQi:aU prog 68=some (false,1):=by kernel_rfl
theorem bQj:bV prog 68=some (71,1,24):=by kernel_rfl
theorem bQk:bH prog 68=1:=by kernel_rfl
theorem bQl:(prog.underlying 68).isSome=true:=by kernel_rfl
theorem bQm:aS prog 68=some (.list false true []):=by kernel_rfl
theorem bQn:aV prog 68=0:=by kernel_rfl
theorem bQo:fQ prog 68=true:=by kernel_rfl
theorem bQp:aU prog 69=some (false,1):=by kernel_rfl
theorem bQq:bH prog 69=3:=by kernel_rfl
theorem bQr:(prog.underlying 69).isSome=true:=by kernel_rfl
theorem bQs:aS prog 69=some (.sc .nilFunc):=by kernel_rfl
theorem bQt:aV prog 69=0:=by kernel_rfl
theorem bQu:aU prog 70=some (false,1):=by kernel_rfl
theorem bQv:bH prog 70=3:=by kernel_rfl
theorem bQw:(prog.underlying 70).isSome=true:=by kernel_rfl
theorem bQx:aS prog 70=some (.sc .nilFunc):=by kernel_rfl
theorem bQy:aV prog 70=0:=by kernel_rfl
theorem bQz:aU prog 71=some (false,1):=by kernel_rfl
theorem bQ0:bV prog 71=some (3,1,8):=by kernel_rfl
theorem bQ1:bH prog 71=1:=by kernel_rfl
theorem bQ2:(prog.underlying 71).isSome=true:=by kernel_rfl
theorem bQ3:aS prog 71=some (.list false true []):=by kernel_rfl
theorem bQ4:aV prog 71=0:=by kernel_rfl
theorem bQ5:fQ prog 71=true:=by kernel_rfl
theorem bQ6:lH prog 71=some 1:=by kernel_rfl
theorem bQ7:dX prog 71=0:=by kernel_rfl
theorem bQ8:dN prog 71=some (.slice none 0 0):=by kernel_rfl
theorem bQ9:aU prog 72=some (false,1):=by kernel_rfl
theorem bRa:bH prog 72=3:=by kernel_rfl
theorem bRb:(prog.underlying 72).isSome=true:=by kernel_rfl
theorem bRc:aS prog 72=some (.sc .nilFunc):=by kernel_rfl
theorem bRd:aV prog 72=0:=by kernel_rfl
theorem bRe:aU prog 73=some (false,1):=by kernel_rfl
theorem bRf:bH prog 73=3:=by kernel_rfl
theorem bRg:(prog.underlying 73).isSome=true:=by kernel_rfl
theorem bRh:aS prog 73=some (.sc .nilFunc):=by kernel_rfl
theorem bRi:aV prog 73=0:=by kernel_rfl
theorem bRj:aU prog 74=some (false,1):=by kernel_rfl
theorem bRk:bH prog 74=3:=by kernel_rfl
theorem bRm:(prog.underlying 74).isSome=true:=by kernel_rfl
theorem bRn:aS prog 74=some (.sc .nilFunc):=by kernel_rfl
theorem bRo:aV prog 74=0:=by kernel_rfl
theorem bRp {s:ByteArray}:iS prog 75 (.string s)=true:=by kernel_rfl
theorem bRq:aU prog 75=some (false,1):=by kernel_rfl
theorem bRr:(prog.underlying 75).isSome=true:=by kernel_rfl
theorem bRs:aS prog 75=some (.sc (.map none)):=by kernel_rfl
theorem bRt:aV prog 75=0:=by kernel_rfl
theorem bRu:tC prog 75=some (bl false):=by kernel_rfl
theorem bRv:aU prog 76=some (false,1):=by kernel_rfl
theorem bRw:bH prog 76=3:=by kernel_rfl
theorem bRx:(prog.underlying 76).isSome=true:=by kernel_rfl
theorem bRy:aS prog 76=some (.sc .nilFunc):=by kernel_rfl
theorem bRz:aV prog 76=0:=by kernel_rfl
theorem bR0:aU prog 77=some (false,1):=by kernel_rfl
theorem bR1:bH prog 77=3:=by kernel_rfl
theorem bR2:(prog.underlying 77).isSome=true:=by kernel_rfl
theorem bR3:aS prog 77=some (.sc .nilFunc):=by kernel_rfl
theorem bR4:aV prog 77=0:=by kernel_rfl
theorem bR5:aU prog 78=some (false,1):=by kernel_rfl
theorem bR6:bH prog 78=3:=by kernel_rfl
theorem bR7:(prog.underlying 78).isSome=true:=by kernel_rfl
theorem bR8:aS prog 78=some (.sc .nilFunc):=by kernel_rfl
theorem bR9:aV prog 78=0:=by kernel_rfl
theorem bSa:aU prog 79=some (false,1):=by kernel_rfl
theorem bSb:bH prog 79=3:=by kernel_rfl
theorem bSc:(prog.underlying 79).isSome=true:=by kernel_rfl
theorem bSd:aS prog 79=some (.sc .nilFunc):=by kernel_rfl
theorem bSe:aV prog 79=0:=by kernel_rfl
theorem bSf:aU prog 80=some (false,1):=by kernel_rfl
theorem bSg:bH prog 80=3:=by kernel_rfl
theorem bSh:(prog.underlying 80).isSome=true:=by kernel_rfl
theorem bSi:aS prog 80=some (.sc .nilFunc):=by kernel_rfl
theorem bSj:aV prog 80=0:=by kernel_rfl
theorem bSk:aU prog 81=some (false,1):=by kernel_rfl
theorem bSl:bH prog 81=2:=by kernel_rfl
theorem bSm:(prog.underlying 81).isSome=true:=by kernel_rfl
theorem bSn:aS prog 81=some (.sc (.pointer none)):=by kernel_rfl
theorem bSo:aV prog 81=0:=by kernel_rfl
theorem bSp:aU prog 82=some (true,2):=by kernel_rfl
theorem bSq:cM prog 82 0=some (0,9,1):=by kernel_rfl
theorem bSr:cM prog 82 1=some (1,3,1):=by kernel_rfl
theorem bSs:(prog.underlying 82).isSome=true:=by kernel_rfl
theorem bSt:aS prog 82=some (.agg [.sc (.string (ByteArray.mk #[])),nt .i64 0]):=by kernel_rfl
theorem bSu:aV prog 82=0:=by kernel_rfl
theorem bSv:eY prog 82=some ([.sc (.string (ByteArray.mk #[])),nt .i64 0],[(0,1),(1,1)]):=by kernel_rfl
theorem bSw (a0 b0:ByteArray) (a1 b1:Int):dO prog .eql 82 (.agg [.sc (.string a0),.sc (.int .i64 a1)]) (.agg [.sc (.string b0),.sc (.int .i64 b1)])=some ⟨true,bl (decide (a0=b0∧a1=b1))⟩:=(by kernel_rfl:dO prog .eql 82 (.agg [.sc (.string a0),.sc (.int .i64 a1)]) (.agg [.sc (.string b0),.sc (.int .i64 b1)])=some ⟨true,bl (((a0==b0)&&((a1==b1)&&(true))))⟩).trans (by congr 3;rw[Bool.eq_iff_iff];simp only[kM,beq_iff_eq,Bool.and_eq_true,decide_eq_true_eq,and_true,and_assoc])
theorem bSx (a0 b0:ByteArray) (a1 b1:Int):dO prog .neq 82 (.agg [.sc (.string a0),.sc (.int .i64 a1)]) (.agg [.sc (.string b0),.sc (.int .i64 b1)])=some ⟨true,bl (!decide (a0=b0∧a1=b1))⟩:=(by kernel_rfl:dO prog .neq 82 (.agg [.sc (.string a0),.sc (.int .i64 a1)]) (.agg [.sc (.string b0),.sc (.int .i64 b1)])=some ⟨true,bl (!((a0==b0)&&((a1==b1)&&(true))))⟩).trans (by congr 4;rw[Bool.eq_iff_iff];simp only[kM,beq_iff_eq,Bool.and_eq_true,decide_eq_true_eq,and_true,and_assoc])
theorem bSy:aU prog 83=some (true,2):=by kernel_rfl
theorem bSz:cM prog 83 0=some (0,9,1):=by kernel_rfl
theorem bS0:cM prog 83 1=some (1,3,1):=by kernel_rfl
theorem bS1:(prog.underlying 83).isSome=true:=by kernel_rfl
theorem bS2:aS prog 83=some (.agg [.sc (.string (ByteArray.mk #[])),nt .i64 0]):=by kernel_rfl
theorem bS3:aV prog 83=0:=by kernel_rfl
theorem bS4:eY prog 83=some ([.sc (.string (ByteArray.mk #[])),nt .i64 0],[(0,1),(1,1)]):=by kernel_rfl
theorem bS5 (a0 b0:ByteArray) (a1 b1:Int):dO prog .eql 83 (.agg [.sc (.string a0),.sc (.int .i64 a1)]) (.agg [.sc (.string b0),.sc (.int .i64 b1)])=some ⟨true,bl (decide (a0=b0∧a1=b1))⟩:=(by kernel_rfl:dO prog .eql 83 (.agg [.sc (.string a0),.sc (.int .i64 a1)]) (.agg [.sc (.string b0),.sc (.int .i64 b1)])=some ⟨true,bl (((a0==b0)&&((a1==b1)&&(true))))⟩).trans (by congr 3;rw[Bool.eq_iff_iff];simp only[kM,beq_iff_eq,Bool.and_eq_true,decide_eq_true_eq,and_true,and_assoc])
theorem bS6 (a0 b0:ByteArray) (a1 b1:Int):dO prog .neq 83 (.agg [.sc (.string a0),.sc (.int .i64 a1)]) (.agg [.sc (.string b0),.sc (.int .i64 b1)])=some ⟨true,bl (!decide (a0=b0∧a1=b1))⟩:=(by kernel_rfl:dO prog .neq 83 (.agg [.sc (.string a0),.sc (.int .i64 a1)]) (.agg [.sc (.string b0),.sc (.int .i64 b1)])=some ⟨true,bl (!((a0==b0)&&((a1==b1)&&(true))))⟩).trans (by congr 4;rw[Bool.eq_iff_iff];simp only[kM,beq_iff_eq,Bool.and_eq_true,decide_eq_true_eq,and_true,and_assoc])
theorem bS7:aU prog 84=some (false,1):=by kernel_rfl
theorem bS8:bH prog 84=3:=by kernel_rfl
theorem bS9:(prog.underlying 84).isSome=true:=by kernel_rfl
theorem bTa:aS prog 84=some (.sc .nilFunc):=by kernel_rfl
theorem bTb:aV prog 84=0:=by kernel_rfl
theorem bTc:aU prog 85=some (false,1):=by kernel_rfl
theorem bTd:bH prog 85=3:=by kernel_rfl
theorem bTe:(prog.underlying 85).isSome=true:=by kernel_rfl
theorem bTf:aS prog 85=some (.sc .nilFunc):=by kernel_rfl
theorem bTg:aV prog 85=0:=by kernel_rfl
theorem bTh:aU prog 86=some (true,4):=by kernel_rfl
theorem bTi:cM prog 86 0=some (0,3,1):=by kernel_rfl
theorem bTj:cM prog 86 1=some (1,3,1):=by kernel_rfl
theorem bTk:cM prog 86 2=some (2,3,1):=by kernel_rfl
theorem bTl:cM prog 86 3=some (3,9,1):=by kernel_rfl
theorem bTm:(prog.underlying 86).isSome=true:=by kernel_rfl
theorem bTn:aS prog 86=some (.agg [nt .i64 0,nt .i64 0,nt .i64 0,.sc (.string (ByteArray.mk #[]))]):=by kernel_rfl
theorem bTo:aV prog 86=0:=by kernel_rfl
theorem bTp:eY prog 86=some ([nt .i64 0,nt .i64 0,nt .i64 0,.sc (.string (ByteArray.mk #[]))],[(0,1),(1,1),(2,1),(3,1)]):=by kernel_rfl
theorem bTq (a0 b0:Int) (a1 b1:Int) (a2 b2:Int) (a3 b3:ByteArray):dO prog .eql 86 (.agg [.sc (.int .i64 a0),.sc (.int .i64 a1),.sc (.int .i64 a2),.sc (.string a3)]) (.agg [.sc (.int .i64 b0),.sc (.int .i64 b1),.sc (.int .i64 b2),.sc (.string b3)])=some ⟨true,bl (decide (a0=b0∧a1=b1∧a2=b2∧a3=b3))⟩:=(by kernel_rfl:dO prog .eql 86 (.agg [.sc (.int .i64 a0),.sc (.int .i64 a1),.sc (.int .i64 a2),.sc (.string a3)]) (.agg [.sc (.int .i64 b0),.sc (.int .i64 b1),.sc (.int .i64 b2),.sc (.string b3)])=some ⟨true,bl (((a0==b0)&&((a1==b1)&&((a2==b2)&&((a3==b3)&&(true))))))⟩).trans (by congr 3;rw[Bool.eq_iff_iff];simp only[kM,beq_iff_eq,Bool.and_eq_true,decide_eq_true_eq,and_true,and_assoc])
theorem bTr (a0 b0:Int) (a1 b1:Int) (a2 b2:Int) (a3 b3:ByteArray):dO prog .neq 86 (.agg [.sc (.int .i64 a0),.sc (.int .i64 a1),.sc (.int .i64 a2),.sc (.string a3)]) (.agg [.sc (.int .i64 b0),.sc (.int .i64 b1),.sc (.int .i64 b2),.sc (.string b3)])=some ⟨true,bl (!decide (a0=b0∧a1=b1∧a2=b2∧a3=b3))⟩:=(by kernel_rfl:dO prog .neq 86 (.agg [.sc (.int .i64 a0),.sc (.int .i64 a1),.sc (.int .i64 a2),.sc (.string a3)]) (.agg [.sc (.int .i64 b0),.sc (.int .i64 b1),.sc (.int .i64 b2),.sc (.string b3)])=some ⟨true,bl (!((a0==b0)&&((a1==b1)&&((a2==b2)&&((a3==b3)&&(true))))))⟩).trans (by congr 4;rw[Bool.eq_iff_iff];simp only[kM,beq_iff_eq,Bool.and_eq_true,decide_eq_true_eq,and_true,and_assoc])
theorem bTs:aU prog 87=some (true,4):=by kernel_rfl
theorem bTt:cM prog 87 0=some (0,3,1):=by kernel_rfl
theorem bTu:cM prog 87 1=some (1,3,1):=by kernel_rfl
theorem bTv:cM prog 87 2=some (2,3,1):=by kernel_rfl
theorem bTw:cM prog 87 3=some (3,9,1):=by kernel_rfl
theorem bTx:(prog.underlying 87).isSome=true:=by kernel_rfl
theorem bTy:aS prog 87=some (.agg [nt .i64 0,nt .i64 0,nt .i64 0,.sc (.string (ByteArray.mk #[]))]):=by kernel_rfl
theorem bTz:aV prog 87=0:=by kernel_rfl
theorem bT0:eY prog 87=some ([nt .i64 0,nt .i64 0,nt .i64 0,.sc (.string (ByteArray.mk #[]))],[(0,1),(1,1),(2,1),(3,1)]):=by kernel_rfl
theorem bT1 (a0 b0:Int) (a1 b1:Int) (a2 b2:Int) (a3 b3:ByteArray):dO prog .eql 87 (.agg [.sc (.int .i64 a0),.sc (.int .i64 a1),.sc (.int .i64 a2),.sc (.string a3)]) (.agg [.sc (.int .i64 b0),.sc (.int .i64 b1),.sc (.int .i64 b2),.sc (.string b3)])=some ⟨true,bl (decide (a0=b0∧a1=b1∧a2=b2∧a3=b3))⟩:=(by kernel_rfl:dO prog .eql 87 (.agg [.sc (.int .i64 a0),.sc (.int .i64 a1),.sc (.int .i64 a2),.sc (.string a3)]) (.agg [.sc (.int .i64 b0),.sc (.int .i64 b1),.sc (.int .i64 b2),.sc (.string b3)])=some ⟨true,bl (((a0==b0)&&((a1==b1)&&((a2==b2)&&((a3==b3)&&(true))))))⟩).trans (by congr 3;rw[Bool.eq_iff_iff];simp only[kM,beq_iff_eq,Bool.and_eq_true,decide_eq_true_eq,and_true,and_assoc])
theorem bT2 (a0 b0:Int) (a1 b1:Int) (a2 b2:Int) (a3 b3:ByteArray):dO prog .neq 87 (.agg [.sc (.int .i64 a0),.sc (.int .i64 a1),.sc (.int .i64 a2),.sc (.string a3)]) (.agg [.sc (.int .i64 b0),.sc (.int .i64 b1),.sc (.int .i64 b2),.sc (.string b3)])=some ⟨true,bl (!decide (a0=b0∧a1=b1∧a2=b2∧a3=b3))⟩:=(by kernel_rfl:dO prog .neq 87 (.agg [.sc (.int .i64 a0),.sc (.int .i64 a1),.sc (.int .i64 a2),.sc (.string a3)]) (.agg [.sc (.int .i64 b0),.sc (.int .i64 b1),.sc (.int .i64 b2),.sc (.string b3)])=some ⟨true,bl (!((a0==b0)&&((a1==b1)&&((a2==b2)&&((a3==b3)&&(true))))))⟩).trans (by congr 4;rw[Bool.eq_iff_iff];simp only[kM,beq_iff_eq,Bool.and_eq_true,decide_eq_true_eq,and_true,and_assoc])
theorem bT3:aU prog 88=some (false,1):=by kernel_rfl
theorem bT4:bH prog 88=3:=by kernel_rfl
theorem bT5:(prog.underlying 88).isSome=true:=by kernel_rfl
theorem bT6:aS prog 88=some (.sc .nilFunc):=by kernel_rfl
theorem bT7:aV prog 88=0:=by kernel_rfl
theorem bT8:aU prog 89=some (false,1):=by kernel_rfl
theorem bT9:bH prog 89=3:=by kernel_rfl
theorem bUa:(prog.underlying 89).isSome=true:=by kernel_rfl
theorem bUb:aS prog 89=some (.sc .nilFunc):=by kernel_rfl
theorem bUc:aV prog 89=0:=by kernel_rfl
theorem bUd:aU prog 90=some (false,1):=by kernel_rfl
theorem bUe:bH prog 90=3:=by kernel_rfl
theorem bUf:(prog.underlying 90).isSome=true:=by kernel_rfl
theorem bUg:aS prog 90=some (.sc .nilFunc):=by kernel_rfl
theorem bUh:aV prog 90=0:=by kernel_rfl
theorem bUi:aU prog 91=some (false,1):=by kernel_rfl
theorem bUj:bH prog 91=3:=by kernel_rfl
theorem bUk:(prog.underlying 91).isSome=true:=by kernel_rfl
theorem bUl:aS prog 91=some (.sc .nilFunc):=by kernel_rfl
theorem bUm:aV prog 91=0:=by kernel_rfl
theorem bUn:aU prog 92=some (false,1):=by kernel_rfl
theorem bUo:bH prog 92=3:=by kernel_rfl
theorem bUp:(prog.underlying 92).isSome=true:=by kernel_rfl
theorem bUq:aS prog 92=some (.sc .nilFunc):=by kernel_rfl
theorem bUr:aV prog 92=0:=by kernel_rfl
theorem bUs:aU prog 93=some (false,1):=by kernel_rfl
theorem bUt:bH prog 93=3:=by kernel_rfl
theorem bUu:(prog.underlying 93).isSome=true:=by kernel_rfl
theorem bUv:aS prog 93=some (.sc .nilFunc):=by kernel_rfl
theorem bUw:aV prog 93=0:=by kernel_rfl
theorem bUx:aU prog 94=some (false,1):=by kernel_rfl
theorem bUy:bH prog 94=3:=by kernel_rfl
theorem bUz:(prog.underlying 94).isSome=true:=by kernel_rfl
theorem bU0:aS prog 94=some (.sc .nilFunc):=by kernel_rfl
theorem bU1:aV prog 94=0:=by kernel_rfl
theorem bU2:aU prog 95=some (false,1):=by kernel_rfl
theorem bU3:bH prog 95=3:=by kernel_rfl
theorem bU4:(prog.underlying 95).isSome=true:=by kernel_rfl
theorem bU5:aS prog 95=some (.sc .nilFunc):=by kernel_rfl
theorem bU6:aV prog 95=0:=by kernel_rfl
theorem bU7:aU prog 96=some (false,1):=by kernel_rfl
theorem bU8:bH prog 96=3:=by kernel_rfl
theorem bU9:(prog.underlying 96).isSome=true:=by kernel_rfl
theorem bVa:aS prog 96=some (.sc .nilFunc):=by kernel_rfl
theorem bVb:aV prog 96=0:=by kernel_rfl
theorem bVc:aU prog 97=some (false,1):=by kernel_rfl
theorem bVd:bH prog 97=3:=by kernel_rfl
theorem bVe:(prog.underlying 97).isSome=true:=by kernel_rfl
theorem bVf:aS prog 97=some (.sc .nilFunc):=by kernel_rfl
theorem bVg:aV prog 97=0:=by kernel_rfl
theorem bVh:aU prog 98=some (false,1):=by kernel_rfl
theorem bVi:bH prog 98=3:=by kernel_rfl
theorem bVj:(prog.underlying 98).isSome=true:=by kernel_rfl
theorem bVk:aS prog 98=some (.sc .nilFunc):=by kernel_rfl
theorem bVl:aV prog 98=0:=by kernel_rfl
theorem bVm:aU prog 99=some (false,1):=by kernel_rfl
theorem bVn:lQ prog 99=some .u64:=by kernel_rfl
theorem bVo:(prog.underlying 99).isSome=true:=by kernel_rfl
theorem bVp:aS prog 99=some (nt .u64 0):=by kernel_rfl
theorem bVq:aV prog 99=0:=by kernel_rfl
theorem bVr:aU prog 100=some (false,1):=by kernel_rfl
theorem bVs:bH prog 100=3:=by kernel_rfl
theorem bVt:(prog.underlying 100).isSome=true:=by kernel_rfl
theorem bVu:aS prog 100=some (.sc .nilFunc):=by kernel_rfl
theorem bVv:aV prog 100=0:=by kernel_rfl
theorem bVw:aU prog 101=some (false,1):=by kernel_rfl
theorem bVx:bH prog 101=3:=by kernel_rfl
theorem bVy:(prog.underlying 101).isSome=true:=by kernel_rfl
theorem bVz:aS prog 101=some (.sc .nilFunc):=by kernel_rfl
theorem bV0:aV prog 101=0:=by kernel_rfl
theorem bV1:aU prog 102=some (false,1):=by kernel_rfl
theorem bV2:bH prog 102=3:=by kernel_rfl
theorem bV3:(prog.underlying 102).isSome=true:=by kernel_rfl
theorem bV4:aS prog 102=some (.sc .nilFunc):=by kernel_rfl
theorem bV5:aV prog 102=0:=by kernel_rfl
theorem bV6:aU prog 103=some (false,1):=by kernel_rfl
theorem bV7:bH prog 103=3:=by kernel_rfl
theorem bV8:(prog.underlying 103).isSome=true:=by kernel_rfl
theorem bV9:aS prog 103=some (.sc .nilFunc):=by kernel_rfl
theorem bWa:aV prog 103=0:=by kernel_rfl
theorem bWb:aU prog 104=some (false,1):=by kernel_rfl
theorem bWc:bH prog 104=3:=by kernel_rfl
theorem bWd:(prog.underlying 104).isSome=true:=by kernel_rfl
theorem bWe:aS prog 104=some (.sc .nilFunc):=by kernel_rfl
theorem bWf:aV prog 104=0:=by kernel_rfl
theorem bWg:aU prog 105=some (false,1):=by kernel_rfl
theorem bWh:(prog.underlying 105).isSome=true:=by kernel_rfl
theorem bWi:aV prog 105=0:=by kernel_rfl
theorem bWj:aU prog 106=some (false,1):=by kernel_rfl
theorem bWk:bH prog 106=3:=by kernel_rfl
theorem bWl:(prog.underlying 106).isSome=true:=by kernel_rfl
theorem bWm:aS prog 106=some (.sc .nilFunc):=by kernel_rfl
theorem bWn:aV prog 106=0:=by kernel_rfl
theorem bWo:aU prog 107=some (false,1):=by kernel_rfl
theorem bWp:bH prog 107=3:=by kernel_rfl
theorem bWq:(prog.underlying 107).isSome=true:=by kernel_rfl
theorem bWr:aS prog 107=some (.sc .nilFunc):=by kernel_rfl
theorem bWs:aV prog 107=0:=by kernel_rfl
theorem bWt:aU prog 108=some (false,1):=by kernel_rfl
theorem bWu:bV prog 108=some (5,1,1):=by kernel_rfl
theorem bWv:bH prog 108=1:=by kernel_rfl
theorem bWw:(prog.underlying 108).isSome=true:=by kernel_rfl
theorem bWx:aS prog 108=some (.list false true []):=by kernel_rfl
theorem bWy:aV prog 108=0:=by kernel_rfl
theorem bWz:fQ prog 108=true:=by kernel_rfl
theorem bW0:aU prog 109=some (false,1):=by kernel_rfl
theorem bW1:bH prog 109=3:=by kernel_rfl
theorem bW2:(prog.underlying 109).isSome=true:=by kernel_rfl
theorem bW3:aS prog 109=some (.sc .nilFunc):=by kernel_rfl
theorem bW4:aV prog 109=0:=by kernel_rfl
theorem bW5:aU prog 112=some (false,1):=by kernel_rfl
theorem bW6:bH prog 112=2:=by kernel_rfl
theorem bW7:(prog.underlying 112).isSome=true:=by kernel_rfl
theorem bW8:aS prog 112=some (.sc (.pointer none)):=by kernel_rfl
theorem bW9:aV prog 112=0:=by kernel_rfl
theorem bXa:aU prog 114=some (true,1):=by kernel_rfl
theorem bXb:cM prog 114 0=some (0,3,1):=by kernel_rfl
theorem bXc:(prog.underlying 114).isSome=true:=by kernel_rfl
theorem bXd:aS prog 114=some (.agg [nt .i64 0]):=by kernel_rfl
theorem bXe:aV prog 114=0:=by kernel_rfl
theorem bXf:eY prog 114=some ([nt .i64 0],[(0,1)]):=by kernel_rfl
theorem bXg (a0 b0:Int):dO prog .eql 114 (.agg [.sc (.int .i64 a0)]) (.agg [.sc (.int .i64 b0)])=some ⟨true,bl (decide (a0=b0))⟩:=(by kernel_rfl:dO prog .eql 114 (.agg [.sc (.int .i64 a0)]) (.agg [.sc (.int .i64 b0)])=some ⟨true,bl (((a0==b0)&&(true)))⟩).trans (by congr 3;rw[Bool.eq_iff_iff];simp only[kM,beq_iff_eq,Bool.and_eq_true,decide_eq_true_eq,and_true,and_assoc])
theorem bXh (a0 b0:Int):dO prog .neq 114 (.agg [.sc (.int .i64 a0)]) (.agg [.sc (.int .i64 b0)])=some ⟨true,bl (!decide (a0=b0))⟩:=(by kernel_rfl:dO prog .neq 114 (.agg [.sc (.int .i64 a0)]) (.agg [.sc (.int .i64 b0)])=some ⟨true,bl (!((a0==b0)&&(true)))⟩).trans (by congr 4;rw[Bool.eq_iff_iff];simp only[kM,beq_iff_eq,Bool.and_eq_true,decide_eq_true_eq,and_true,and_assoc])
theorem bXi:aU prog 115=some (false,1):=by kernel_rfl
theorem bXj:bH prog 115=3:=by kernel_rfl
theorem bXk:(prog.underlying 115).isSome=true:=by kernel_rfl
theorem bXl:aS prog 115=some (.sc .nilFunc):=by kernel_rfl
theorem bXm:aV prog 115=0:=by kernel_rfl
theorem bXn:aU prog 116=some (false,1):=by kernel_rfl
theorem bXo:bH prog 116=3:=by kernel_rfl
theorem bXp:(prog.underlying 116).isSome=true:=by kernel_rfl
theorem bXq:aS prog 116=some (.sc .nilFunc):=by kernel_rfl
theorem bXr:aV prog 116=0:=by kernel_rfl
theorem bXs:aU prog 117=some (false,1):=by kernel_rfl
theorem bXt:bV prog 117=some (121,1,24):=by kernel_rfl
theorem bXu:bH prog 117=1:=by kernel_rfl
theorem bXv:(prog.underlying 117).isSome=true:=by kernel_rfl
theorem bXw:aS prog 117=some (.list false true []):=by kernel_rfl
theorem bXx:aV prog 117=0:=by kernel_rfl
theorem bXy:fQ prog 117=true:=by kernel_rfl
theorem bXz:aU prog 119=some (false,1):=by kernel_rfl
theorem bX0:bH prog 119=3:=by kernel_rfl
theorem bX1:(prog.underlying 119).isSome=true:=by kernel_rfl
theorem bX2:aS prog 119=some (.sc .nilFunc):=by kernel_rfl
theorem bX3:aV prog 119=0:=by kernel_rfl
theorem bX4:aU prog 120=some (false,1):=by kernel_rfl
theorem bX5:bH prog 120=3:=by kernel_rfl
theorem bX6:(prog.underlying 120).isSome=true:=by kernel_rfl
theorem bX7:aS prog 120=some (.sc .nilFunc):=by kernel_rfl
theorem bX8:aV prog 120=0:=by kernel_rfl
theorem bX9:aU prog 121=some (false,1):=by kernel_rfl
theorem bYa:bV prog 121=some (159,3,56):=by kernel_rfl
theorem bYb:bH prog 121=1:=by kernel_rfl
theorem bYc:(prog.underlying 121).isSome=true:=by kernel_rfl
theorem bYd:aS prog 121=some (.list false true []):=by kernel_rfl
theorem bYe:aV prog 121=0:=by kernel_rfl
theorem bYf:fQ prog 121=true:=by kernel_rfl
theorem bYg:lH prog 121=some 1:=by kernel_rfl
theorem bYh:dX prog 121=0:=by kernel_rfl
theorem bYi:dN prog 121=some (.slice none 0 0):=by kernel_rfl
theorem bYj:aU prog 122=some (false,1):=by kernel_rfl
theorem bYk:bH prog 122=2:=by kernel_rfl
theorem bYl:(prog.underlying 122).isSome=true:=by kernel_rfl
theorem bYm:aS prog 122=some (.sc (.pointer none)):=by kernel_rfl
theorem bYn:aV prog 122=0:=by kernel_rfl
theorem bYo:aU prog 123=some (true,2):=by kernel_rfl
theorem bYp:cM prog 123 0=some (0,122,1):=by kernel_rfl
theorem bYq:cM prog 123 1=some (1,108,1):=by kernel_rfl
theorem bYr:(prog.underlying 123).isSome=true:=by kernel_rfl
theorem bYs:aS prog 123=some (.agg [.sc (.pointer none),.list false true []]):=by kernel_rfl
theorem bYt:aV prog 123=0:=by kernel_rfl
theorem bYu:eY prog 123=some ([.sc (.pointer none),.list false true []],[(0,1),(1,1)]):=by kernel_rfl
theorem bYv:aU prog 124=some (true,2):=by kernel_rfl
theorem bYw:cM prog 124 0=some (0,122,1):=by kernel_rfl
theorem bYx:cM prog 124 1=some (1,108,1):=by kernel_rfl
theorem bYy:(prog.underlying 124).isSome=true:=by kernel_rfl
theorem bYz:aS prog 124=some (.agg [.sc (.pointer none),.list false true []]):=by kernel_rfl
theorem bY0:aV prog 124=126:=by kernel_rfl
theorem bY1:A6 prog 124=some (.agg [.sc (.pointer none),.sc (.slice none 0 0)]):=by kernel_rfl
theorem bY2:eY prog 124=some ([.sc (.pointer none),.list false true []],[(0,1),(1,1)]):=by kernel_rfl
theorem bY3:aU prog 125=some (false,1):=by kernel_rfl
theorem bY4:(prog.underlying 125).isSome=true:=by kernel_rfl
theorem bY5:aS prog 125=some (.sc .nilIface):=by kernel_rfl
theorem bY6:aV prog 125=0:=by kernel_rfl
theorem bY7:aU prog 126=some (false,1):=by kernel_rfl
theorem bY8:(prog.underlying 126).isSome=true:=by kernel_rfl
theorem bY9:aS prog 126=some (.sc .nilIface):=by kernel_rfl
theorem bZa:aV prog 126=0:=by kernel_rfl
theorem bZb:aU prog 127=some (false,1):=by kernel_rfl
theorem bZc:(prog.underlying 127).isSome=true:=by kernel_rfl
theorem bZd:aV prog 127=0:=by kernel_rfl
theorem bZe:aU prog 128=some (false,1):=by kernel_rfl
theorem bZf:bH prog 128=3:=by kernel_rfl
theorem bZg:(prog.underlying 128).isSome=true:=by kernel_rfl
theorem bZh:aS prog 128=some (.sc .nilFunc):=by kernel_rfl
theorem bZi:aV prog 128=0:=by kernel_rfl
theorem bZj:aU prog 129=some (false,1):=by kernel_rfl
theorem bZk:bH prog 129=3:=by kernel_rfl
theorem bZl:(prog.underlying 129).isSome=true:=by kernel_rfl
theorem bZm:aS prog 129=some (.sc .nilFunc):=by kernel_rfl
theorem bZn:aV prog 129=0:=by kernel_rfl
theorem bZo:aU prog 130=some (false,1):=by kernel_rfl
theorem bZp:bH prog 130=3:=by kernel_rfl
theorem bZq:(prog.underlying 130).isSome=true:=by kernel_rfl
theorem bZr:aS prog 130=some (.sc .nilFunc):=by kernel_rfl
theorem bZs:aV prog 130=0:=by kernel_rfl
theorem bZt:aU prog 131=some (false,1):=by kernel_rfl
theorem bZu:bH prog 131=3:=by kernel_rfl
theorem bZv:(prog.underlying 131).isSome=true:=by kernel_rfl
theorem bZw:aS prog 131=some (.sc .nilFunc):=by kernel_rfl
theorem bZx:aV prog 131=0:=by kernel_rfl
theorem bZy:aU prog 132=some (false,1):=by kernel_rfl
theorem bZz:(prog.underlying 132).isSome=true:=by kernel_rfl
theorem bZ0:aV prog 132=0:=by kernel_rfl
theorem bZ1:aU prog 133=some (false,1):=by kernel_rfl
theorem bZ2:bH prog 133=3:=by kernel_rfl
theorem bZ3:(prog.underlying 133).isSome=true:=by kernel_rfl
theorem bZ4:aS prog 133=some (.sc .nilFunc):=by kernel_rfl
theorem bZ5:aV prog 133=0:=by kernel_rfl
theorem bZ6:aU prog 134=some (false,1):=by kernel_rfl
theorem bZ7:bH prog 134=3:=by kernel_rfl
theorem bZ8:(prog.underlying 134).isSome=true:=by kernel_rfl
theorem bZ9:aS prog 134=some (.sc .nilFunc):=by kernel_rfl
theorem cAa:aV prog 134=0:=by kernel_rfl
theorem cAb:aU prog 136=some (true,2):=by kernel_rfl
theorem cAc:cM prog 136 0=some (0,5,1):=by kernel_rfl
theorem cAd:cM prog 136 1=some (1,5,1):=by kernel_rfl
theorem cAe:(prog.underlying 136).isSome=true:=by kernel_rfl
theorem cAf:aS prog 136=some (.agg [nt .u8 0,nt .u8 0]):=by kernel_rfl
theorem cAg:aV prog 136=0:=by kernel_rfl
theorem cAh:lH prog 136=some 2:=by kernel_rfl
theorem cAi:dX prog 136=0:=by kernel_rfl
theorem cAj:dN prog 136=some (.agg #[.int .u8 0,.int .u8 0]):=by kernel_rfl
theorem cAk:eY prog 136=some ([nt .u8 0,nt .u8 0],[(0,1),(1,1)]):=by kernel_rfl
theorem cAl (a0 b0:Int) (a1 b1:Int):dO prog .eql 136 (.agg [.sc (.int .u8 a0),.sc (.int .u8 a1)]) (.agg [.sc (.int .u8 b0),.sc (.int .u8 b1)])=some ⟨true,bl (decide (a0=b0∧a1=b1))⟩:=(by kernel_rfl:dO prog .eql 136 (.agg [.sc (.int .u8 a0),.sc (.int .u8 a1)]) (.agg [.sc (.int .u8 b0),.sc (.int .u8 b1)])=some ⟨true,bl (((a0==b0)&&((a1==b1)&&(true))))⟩).trans (by congr 3;rw[Bool.eq_iff_iff];simp only[kM,beq_iff_eq,Bool.and_eq_true,decide_eq_true_eq,and_true,and_assoc])
theorem cAm (a0 b0:Int) (a1 b1:Int):dO prog .neq 136 (.agg [.sc (.int .u8 a0),.sc (.int .u8 a1)]) (.agg [.sc (.int .u8 b0),.sc (.int .u8 b1)])=some ⟨true,bl (!decide (a0=b0∧a1=b1))⟩:=(by kernel_rfl:dO prog .neq 136 (.agg [.sc (.int .u8 a0),.sc (.int .u8 a1)]) (.agg [.sc (.int .u8 b0),.sc (.int .u8 b1)])=some ⟨true,bl (!((a0==b0)&&((a1==b1)&&(true))))⟩).trans (by congr 4;rw[Bool.eq_iff_iff];simp only[kM,beq_iff_eq,Bool.and_eq_true,decide_eq_true_eq,and_true,and_assoc])
theorem cAn:aU prog 137=some (true,6):=by kernel_rfl
theorem cAo:mM prog 137=some (3,136,2):=by kernel_rfl
theorem cAp:(prog.underlying 137).isSome=true:=by kernel_rfl
theorem cAq:aS prog 137=some (.agg [nt .u8 0,nt .u8 0,nt .u8 0,nt .u8 0,nt .u8 0,nt .u8 0]):=by kernel_rfl
theorem cAr:aV prog 137=0:=by kernel_rfl
theorem cAs:eY prog 137=some ([nt .u8 0,nt .u8 0,nt .u8 0,nt .u8 0,nt .u8 0,nt .u8 0],[(0,2),(2,2),(4,2)]):=by kernel_rfl
theorem cAt:aU prog 141=some (false,1):=by kernel_rfl
theorem cAu:lQ prog 141=some .i64:=by kernel_rfl
theorem cAv:(prog.underlying 141).isSome=true:=by kernel_rfl
theorem cAw:aS prog 141=some (nt .i64 0):=by kernel_rfl
theorem cAx:aV prog 141=0:=by kernel_rfl
theorem cAy:aU prog 142=some (false,1):=by kernel_rfl
theorem cAz:(prog.underlying 142).isSome=true:=by kernel_rfl
theorem cA0:aV prog 142=0:=by kernel_rfl
theorem cA1:aU prog 143=some (false,1):=by kernel_rfl
theorem cA2:bH prog 143=3:=by kernel_rfl
theorem cA3:(prog.underlying 143).isSome=true:=by kernel_rfl
theorem cA4:aS prog 143=some (.sc .nilFunc):=by kernel_rfl
theorem cA5:aV prog 143=0:=by kernel_rfl
theorem cA6:aU prog 148=some (false,1):=by kernel_rfl
theorem cA7:bH prog 148=3:=by kernel_rfl
theorem cA8:(prog.underlying 148).isSome=true:=by kernel_rfl
theorem cA9:aS prog 148=some (.sc .nilFunc):=by kernel_rfl
theorem cBa:aV prog 148=0:=by kernel_rfl
theorem cBb:aU prog 149=some (false,1):=by kernel_rfl
theorem cBc:lQ prog 149=some .u32:=by kernel_rfl
theorem cBd:(prog.underlying 149).isSome=true:=by kernel_rfl
theorem cBe:aS prog 149=some (nt .u32 0):=by kernel_rfl
theorem cBf:aV prog 149=0:=by kernel_rfl
theorem cBg:aU prog 150=some (false,1):=by kernel_rfl
theorem cBh:bH prog 150=3:=by kernel_rfl
theorem cBi:(prog.underlying 150).isSome=true:=by kernel_rfl
theorem cBj:aS prog 150=some (.sc .nilFunc):=by kernel_rfl
theorem cBk:aV prog 150=0:=by kernel_rfl
theorem cBl:aU prog 151=some (false,1):=by kernel_rfl
theorem cBm:lQ prog 151=some .u64:=by kernel_rfl
theorem cBn:(prog.underlying 151).isSome=true:=by kernel_rfl
theorem cBo:aS prog 151=some (nt .u64 0):=by kernel_rfl
theorem cBp:aV prog 151=0:=by kernel_rfl
theorem cBq:aU prog 159=some (true,3):=by kernel_rfl
theorem cBr:cM prog 159 0=some (0,9,1):=by kernel_rfl
theorem cBs:cM prog 159 1=some (1,24,2):=by kernel_rfl
theorem cBt:(prog.underlying 159).isSome=true:=by kernel_rfl
theorem cBu:aS prog 159=some (.agg [.sc (.string (ByteArray.mk #[])),.sc (.string (ByteArray.mk #[])),.list false true []]):=by kernel_rfl
theorem cBv:aV prog 159=0:=by kernel_rfl
theorem cBw:lH prog 159=some 3:=by kernel_rfl
theorem cBx:dX prog 159=0:=by kernel_rfl
theorem cBy:dN prog 159=some (.agg #[.string (ByteArray.mk #[]),.string (ByteArray.mk #[]),.slice none 0 0]):=by kernel_rfl
theorem cBz:eY prog 159=some ([.sc (.string (ByteArray.mk #[])),.sc (.string (ByteArray.mk #[])),.list false true []],[(0,1),(1,2)]):=by kernel_rfl
theorem cB0:aU prog 160=some (false,1):=by kernel_rfl
theorem cB1:bH prog 160=3:=by kernel_rfl
theorem cB2:(prog.underlying 160).isSome=true:=by kernel_rfl
theorem cB3:aS prog 160=some (.sc .nilFunc):=by kernel_rfl
theorem cB4:aV prog 160=0:=by kernel_rfl
theorem cB5:aU prog 161=some (false,1):=by kernel_rfl
theorem cB6:bH prog 161=2:=by kernel_rfl
theorem cB7:(prog.underlying 161).isSome=true:=by kernel_rfl
theorem cB8:aS prog 161=some (.sc (.pointer none)):=by kernel_rfl
theorem cB9:aV prog 161=0:=by kernel_rfl
theorem cCa:aU prog 162=some (false,1):=by kernel_rfl
theorem cCb:bH prog 162=3:=by kernel_rfl
theorem cCc:(prog.underlying 162).isSome=true:=by kernel_rfl
theorem cCd:aS prog 162=some (.sc .nilFunc):=by kernel_rfl
theorem cCe:aV prog 162=0:=by kernel_rfl
theorem cCf:aU prog 164=some (false,1):=by kernel_rfl
theorem cCg:bH prog 164=3:=by kernel_rfl
theorem cCh:(prog.underlying 164).isSome=true:=by kernel_rfl
theorem cCi:aS prog 164=some (.sc .nilFunc):=by kernel_rfl
theorem cCj:aV prog 164=0:=by kernel_rfl
theorem cCk:aU prog 168=some (false,1):=by kernel_rfl
theorem cCl:bV prog 168=some (136,2,2):=by kernel_rfl
theorem cCm:bH prog 168=1:=by kernel_rfl
theorem cCn:(prog.underlying 168).isSome=true:=by kernel_rfl
theorem cCo:aS prog 168=some (.list false true []):=by kernel_rfl
theorem cCp:aV prog 168=0:=by kernel_rfl
theorem cCq:fQ prog 168=true:=by kernel_rfl
theorem cCr:aU prog 169=some (false,1):=by kernel_rfl
theorem cCs:lQ prog 169=some .u64:=by kernel_rfl
theorem cCt:(prog.underlying 169).isSome=true:=by kernel_rfl
theorem cCu:aS prog 169=some (nt .u64 0):=by kernel_rfl
theorem cCv:aV prog 169=0:=by kernel_rfl
theorem cCw:aU prog 173=some (false,1):=by kernel_rfl
theorem cCx:bH prog 173=2:=by kernel_rfl
theorem cCy:(prog.underlying 173).isSome=true:=by kernel_rfl
theorem cCz:aS prog 173=some (.sc (.pointer none)):=by kernel_rfl
theorem cC0:aV prog 173=0:=by kernel_rfl
theorem cC1:aU prog 176=some (false,1):=by kernel_rfl
theorem cC2:bH prog 176=3:=by kernel_rfl
theorem cC3:(prog.underlying 176).isSome=true:=by kernel_rfl
theorem cC4:aS prog 176=some (.sc .nilFunc):=by kernel_rfl
theorem cC5:aV prog 176=0:=by kernel_rfl
theorem cC6:aU prog 177=some (false,1):=by kernel_rfl
theorem cC7:bH prog 177=3:=by kernel_rfl
theorem cC8:(prog.underlying 177).isSome=true:=by kernel_rfl
theorem cC9:aS prog 177=some (.sc .nilFunc):=by kernel_rfl
theorem cDa:aV prog 177=0:=by kernel_rfl
theorem cDb:aU prog 182=some (false,1):=by kernel_rfl
theorem cDc:bH prog 182=3:=by kernel_rfl
theorem cDd:(prog.underlying 182).isSome=true:=by kernel_rfl
theorem cDe:aS prog 182=some (.sc .nilFunc):=by kernel_rfl
theorem cDf:aV prog 182=0:=by kernel_rfl
theorem cDg:aU prog 183=some (false,1):=by kernel_rfl
theorem cDh:(prog.underlying 183).isSome=true:=by kernel_rfl
theorem cDi:aS prog 183=some (.sc (.pointer none)):=by kernel_rfl
theorem cDj:aV prog 183=0:=by kernel_rfl
theorem cDk:aU prog 191=some (true,24):=by kernel_rfl
theorem cDl:mM prog 191=some (24,5,1):=by kernel_rfl
theorem cDm:(prog.underlying 191).isSome=true:=by kernel_rfl
theorem cDn:aS prog 191=some (.agg [nt .u8 0,nt .u8 0,nt .u8 0,nt .u8 0,nt .u8 0,nt .u8 0,nt .u8 0,nt .u8 0,nt .u8 0,nt .u8 0,nt .u8 0,nt .u8 0,nt .u8 0,nt .u8 0,nt .u8 0,nt .u8 0,nt .u8 0,nt .u8 0,nt .u8 0,nt .u8 0,nt .u8 0,nt .u8 0,nt .u8 0,nt .u8 0]):=by kernel_rfl
theorem cDo:aV prog 191=0:=by kernel_rfl
theorem cDp:eY prog 191=some ([nt .u8 0,nt .u8 0,nt .u8 0,nt .u8 0,nt .u8 0,nt .u8 0,nt .u8 0,nt .u8 0,nt .u8 0,nt .u8 0,nt .u8 0,nt .u8 0,nt .u8 0,nt .u8 0,nt .u8 0,nt .u8 0,nt .u8 0,nt .u8 0,nt .u8 0,nt .u8 0,nt .u8 0,nt .u8 0,nt .u8 0,nt .u8 0],[(0,1),(1,1),(2,1),(3,1),(4,1),(5,1),(6,1),(7,1),(8,1),(9,1),(10,1),(11,1),(12,1),(13,1),(14,1),(15,1),(16,1),(17,1),(18,1),(19,1),(20,1),(21,1),(22,1),(23,1)]):=by kernel_rfl
attribute [go_sem] bFh bFi bFj bFk bFl bFm bFn bFo bFp bFq bFr bFs bFt bFu bFv bFw bFx bFy bFz bF0 bF1 bF2 bF3 bF4 bF5 bF6 bF7 bF8 bF9 bGa bGb bGc bGd bGe bGf bGg bGh bGi bGj bGk bGl bGm bGn bGo bGp bGq bGr bGs bGt bGu bGv bGw bGx bGy bGz bG0 bG1 bG2 bG3 bG4 bG5 bG6 bG7 bG8 bG9 bHa bHb bHc bHd bHe bHf bHg bHh bHi bHj bHk bHl bHm bHn bHo bHp bHq bHr bHs bHt bHu bHv bHw bHx bHy bHz bH0 bH1 bH2 bH3 bH4 bH5 bH6 bH7 bH8 bH9 bIa bIb bIc bId bIe bIf bIg bIh bIi bIj bIk bIl bIm bIn bIo bIp bIq bIr bIs bIt bIu bIv bIw bIx bIy bIz bI0 bI1 bI2 bI3 bI4 bI5 bI6 bI7 bI8 bI9 bJa bJb bJc bJd bJe bJf bJg bJh bJi bJj bJk bJl bJm bJn bJo bJp bJq bJr bJs bJt bJu bJv bJw bJx bJy bJz bJ0 bJ1 bJ2 bJ3 bJ4 bJ5 bJ6 bJ7 bJ8 bJ9 bKa bKb bKc bKd bKe bKf bKg bKh bKi bKj bKk bKl bKm bKn bKo bKp bKq bKr bKs bKt bKu bKv bKw bKx bKy bKz bK0 bK1 bK2 bK3 bK4 bK5 bK6 bK7 bK8 bK9 bLa bLb bLc bLd bLe bLf bLg bLh bLi bLj bLk bLl bLm bLn bLo bLp bLq bLr bLs bLt bLu bLv bLw bLx bLy bLz bL0 bL1 bL2 bL3 bL4 bL5 bL6 bL7 bL8 bL9 bMa bMb bMc bMd bMe bMf bMg bMh bMi bMj bMk bMl bMm bMn bMo bMp bMq bMr bMs bMt bMu bMv bMw bMx bMy bMz bM0 bM1 bM2 bM3 bM4 bM5 bM6 bM7 bM8 bM9 bNa bNb bNc bNd bNe bNf bNg bNh bNi bNj bNk bNl bNm bNn bNo bNp bNq bNr bNs bNt bNu bNv bNw bNx bNy bNz bN0 bN1 bN2 bN3 bN4 bN5 bN6 bN7 bN8 bN9 bOa bOb bOc bOd bOe bOf bOg bOh bOi bOj bOk bOl bOm bOn bOo bOp bOq bOr bOs bOt bOu bOv bOw bOx bOy bOz bO0 bO1 bO2 bO3 bO4 bO5 bO6 bO7 bO8 bO9 bPa bPb bPc bPd bPe bPf bPg bPh bPi bPj bPk bPl bPm bPn bPo bPp bPq bPr bPs bPt bPu bPv bPw bPx bPy bPz bP0 bP1 bP2 bP3 bP4 bP5 bP6 bP7 bP8 bP9 bQa bQb bQc bQd bQe bQf bQg bQh bQi bQj bQk bQl bQm bQn bQo bQp bQq bQr bQs bQt bQu bQv bQw bQx bQy bQz bQ0 bQ1 bQ2 bQ3 bQ4 bQ5 bQ6 bQ7 bQ8 bQ9 bRa bRb bRc bRd bRe bRf bRg bRh bRi bRj bRk bRm bRn bRo bRp bRq bRr bRs bRt bRu bRv bRw bRx bRy bRz bR0 bR1 bR2 bR3 bR4 bR5 bR6 bR7 bR8 bR9 bSa bSb bSc bSd bSe bSf bSg bSh bSi bSj bSk bSl bSm bSn bSo bSp bSq bSr bSs bSt bSu bSv bSw bSx bSy bSz bS0 bS1 bS2 bS3 bS4 bS5 bS6 bS7 bS8 bS9 bTa bTb bTc bTd bTe bTf bTg bTh bTi bTj bTk bTl bTm bTn bTo bTp bTq bTr bTs bTt bTu bTv bTw bTx bTy bTz bT0 bT1 bT2 bT3 bT4 bT5 bT6 bT7 bT8 bT9 bUa bUb bUc bUd bUe bUf bUg bUh bUi bUj bUk bUl bUm bUn bUo bUp bUq bUr bUs bUt bUu bUv bUw bUx bUy bUz bU0 bU1 bU2 bU3 bU4 bU5 bU6 bU7 bU8 bU9 bVa bVb bVc bVd bVe bVf bVg bVh bVi bVj bVk bVl bVm bVn bVo bVp bVq bVr bVs bVt bVu bVv bVw bVx bVy bVz bV0 bV1 bV2 bV3 bV4 bV5 bV6 bV7 bV8 bV9 bWa bWb bWc bWd bWe bWf bWg bWh bWi bWj bWk bWl bWm bWn bWo bWp bWq bWr bWs bWt bWu bWv bWw bWx bWy bWz bW0 bW1 bW2 bW3 bW4 bW5 bW6 bW7 bW8 bW9 bXa bXb bXc bXd bXe bXf bXg bXh bXi bXj bXk bXl bXm bXn bXo bXp bXq bXr bXs bXt bXu bXv bXw bXx bXy bXz bX0 bX1 bX2 bX3 bX4 bX5 bX6 bX7 bX8 bX9 bYa bYb bYc bYd bYe bYf bYg bYh bYi bYj bYk bYl bYm bYn bYo bYp bYq bYr bYs bYt bYu bYv bYw bYx bYy bYz bY0 bY1 bY2 bY3 bY4 bY5 bY6 bY7 bY8 bY9 bZa bZb bZc bZd bZe bZf bZg bZh bZi bZj bZk bZl bZm bZn bZo bZp bZq bZr bZs bZt bZu bZv bZw bZx bZy bZz bZ0 bZ1 bZ2 bZ3 bZ4 bZ5 bZ6 bZ7 bZ8 bZ9 cAa cAb cAc cAd cAe cAf cAg cAh cAi cAj cAk cAl cAm cAn cAo cAp cAq cAr cAs cAt cAu cAv cAw cAx cAy cAz cA0 cA1 cA2 cA3 cA4 cA5 cA6 cA7 cA8 cA9 cBa cBb cBc cBd cBe cBf cBg cBh cBi cBj cBk cBl cBm cBn cBo cBp cBq cBr cBs cBt cBu cBv cBw cBx cBy cBz cB0 cB1 cB2 cB3 cB4 cB5 cB6 cB7 cB8 cB9 cCa cCb cCc cCd cCe cCf cCg cCh cCi cCj cCk cCl cCm cCn cCo cCp cCq cCr cCs cCt cCu cCv cCw cCx cCy cCz cC0 cC1 cC2 cC3 cC4 cC5 cC6 cC7 cC8 cC9 cDa cDb cDc cDd cDe cDf cDg cDh cDi cDj cDk cDl cDm cDn cDo cDp
theorem bE:prog.follows .mixedOrders=true:=by kernel_rfl
end Go.Proofs.YtkbglbcphjmiiaaGreatDoor
