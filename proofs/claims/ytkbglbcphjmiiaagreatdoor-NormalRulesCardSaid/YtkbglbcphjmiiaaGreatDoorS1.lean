import Derived.Test.YtkbglbcphjmiiaaGreatDoorA5
import Derived.Test.YtkbglbcphjmiiaaGreatDoorRows
set_option linter.unusedSimpArgs false
set_option linter.unusedVariables false
namespace Go.Proofs.YtkbglbcphjmiiaaGreatDoor
open Go.Ab
theorem tyI0:tyI Tryz.prog 0=some (false,1):=by kernel_rfl
theorem und0:(Tryz.prog.underlying 0).isSome=true:=by kernel_rfl
theorem tyBd0:tyBd Tryz.prog 0=0:=by kernel_rfl
theorem tyI1:tyI Tryz.prog 1=some (false,1):=by kernel_rfl
theorem tyKd1:tyKd Tryz.prog 1=3:=by kernel_rfl
theorem und1:(Tryz.prog.underlying 1).isSome=true:=by kernel_rfl
theorem tyZ1:tyZ Tryz.prog 1=some (.sc .nilFunc):=by kernel_rfl
theorem tyBd1:tyBd Tryz.prog 1=0:=by kernel_rfl
theorem tyI2:tyI Tryz.prog 2=some (false,1):=by kernel_rfl
theorem tyK2:tyK Tryz.prog 2=some .i64:=by kernel_rfl
theorem und2:(Tryz.prog.underlying 2).isSome=true:=by kernel_rfl
theorem tyZ2:tyZ Tryz.prog 2=some (nt .i64 0):=by kernel_rfl
theorem tyBd2:tyBd Tryz.prog 2=0:=by kernel_rfl
theorem tyI3:tyI Tryz.prog 3=some (false,1):=by kernel_rfl
theorem tyK3:tyK Tryz.prog 3=some .i64:=by kernel_rfl
theorem und3:(Tryz.prog.underlying 3).isSome=true:=by kernel_rfl
theorem tyZ3:tyZ Tryz.prog 3=some (nt .i64 0):=by kernel_rfl
theorem tyBd3:tyBd Tryz.prog 3=0:=by kernel_rfl
theorem tyZs3:tyZs Tryz.prog 3=some 1:=by kernel_rfl
theorem kdE3:kdE Tryz.prog 3=0:=by kernel_rfl
theorem tyZero3:tyZero Tryz.prog 3=some (.int .i64 0):=by kernel_rfl
theorem tyI4:tyI Tryz.prog 4=some (false,1):=by kernel_rfl
theorem tyIsBool4:tyIsBool Tryz.prog 4=true:=by kernel_rfl
theorem und4:(Tryz.prog.underlying 4).isSome=true:=by kernel_rfl
theorem tyZ4:tyZ Tryz.prog 4=some (bl false):=by kernel_rfl
theorem tyBd4:tyBd Tryz.prog 4=0:=by kernel_rfl
theorem tyI5:tyI Tryz.prog 5=some (false,1):=by kernel_rfl
theorem tyK5:tyK Tryz.prog 5=some .u8:=by kernel_rfl
theorem und5:(Tryz.prog.underlying 5).isSome=true:=by kernel_rfl
theorem tyZ5:tyZ Tryz.prog 5=some (nt .u8 0):=by kernel_rfl
theorem tyBd5:tyBd Tryz.prog 5=0:=by kernel_rfl
theorem tyZs5:tyZs Tryz.prog 5=some 1:=by kernel_rfl
theorem kdE5:kdE Tryz.prog 5=7:=by kernel_rfl
theorem tyZero5:tyZero Tryz.prog 5=some (.int .u8 0):=by kernel_rfl
theorem tyI6:tyI Tryz.prog 6=some (false,1):=by kernel_rfl
theorem tyK6:tyK Tryz.prog 6=some .u8:=by kernel_rfl
theorem und6:(Tryz.prog.underlying 6).isSome=true:=by kernel_rfl
theorem tyZ6:tyZ Tryz.prog 6=some (nt .u8 0):=by kernel_rfl
theorem tyBd6:tyBd Tryz.prog 6=0:=by kernel_rfl
theorem tyI7:tyI Tryz.prog 7=some (true,4):=by kernel_rfl
theorem tyFd7x0:tyFd Tryz.prog 7 0=some (0,2,1):=by kernel_rfl
theorem tyFd7x1:tyFd Tryz.prog 7 1=some (1,3,1):=by kernel_rfl
theorem tyFd7x2:tyFd Tryz.prog 7 2=some (2,4,1):=by kernel_rfl
theorem tyFd7x3:tyFd Tryz.prog 7 3=some (3,6,1):=by kernel_rfl
theorem und7:(Tryz.prog.underlying 7).isSome=true:=by kernel_rfl
theorem tyZ7:tyZ Tryz.prog 7=some (.agg [nt .i64 0,nt .i64 0,bl false,nt .u8 0]):=by kernel_rfl
theorem tyBd7:tyBd Tryz.prog 7=0:=by kernel_rfl
theorem tyB7:tyB Tryz.prog 7=some ([nt .i64 0,nt .i64 0,bl false,nt .u8 0],[(0,1),(1,1),(2,1),(3,1)]):=by kernel_rfl
theorem aggEq7 (a0 b0:Int) (a1 b1:Int) (a2 b2:Bool) (a3 b3:Int):aggEqA Tryz.prog .eql 7 (.agg [.sc (.int .i64 a0),.sc (.int .i64 a1),.sc (.bool a2),.sc (.int .u8 a3)]) (.agg [.sc (.int .i64 b0),.sc (.int .i64 b1),.sc (.bool b2),.sc (.int .u8 b3)])=some ⟨true,bl (decide (a0=b0∧a1=b1∧a2=b2∧a3=b3))⟩:=(by kernel_rfl:aggEqA Tryz.prog .eql 7 (.agg [.sc (.int .i64 a0),.sc (.int .i64 a1),.sc (.bool a2),.sc (.int .u8 a3)]) (.agg [.sc (.int .i64 b0),.sc (.int .i64 b1),.sc (.bool b2),.sc (.int .u8 b3)])=some ⟨true,bl (((a0==b0)&&((a1==b1)&&((a2==b2)&&((a3==b3)&&(true))))))⟩).trans (by congr 3;rw[Bool.eq_iff_iff];simp only[beq_bytes,beq_iff_eq,Bool.and_eq_true,decide_eq_true_eq,and_true,and_assoc])
theorem aggNe7 (a0 b0:Int) (a1 b1:Int) (a2 b2:Bool) (a3 b3:Int):aggEqA Tryz.prog .neq 7 (.agg [.sc (.int .i64 a0),.sc (.int .i64 a1),.sc (.bool a2),.sc (.int .u8 a3)]) (.agg [.sc (.int .i64 b0),.sc (.int .i64 b1),.sc (.bool b2),.sc (.int .u8 b3)])=some ⟨true,bl (!decide (a0=b0∧a1=b1∧a2=b2∧a3=b3))⟩:=(by kernel_rfl:aggEqA Tryz.prog .neq 7 (.agg [.sc (.int .i64 a0),.sc (.int .i64 a1),.sc (.bool a2),.sc (.int .u8 a3)]) (.agg [.sc (.int .i64 b0),.sc (.int .i64 b1),.sc (.bool b2),.sc (.int .u8 b3)])=some ⟨true,bl (!((a0==b0)&&((a1==b1)&&((a2==b2)&&((a3==b3)&&(true))))))⟩).trans (by congr 4;rw[Bool.eq_iff_iff];simp only[beq_bytes,beq_iff_eq,Bool.and_eq_true,decide_eq_true_eq,and_true,and_assoc])
theorem tyI8:tyI Tryz.prog 8=some (true,4):=by kernel_rfl
theorem tyFd8x0:tyFd Tryz.prog 8 0=some (0,2,1):=by kernel_rfl
theorem tyFd8x1:tyFd Tryz.prog 8 1=some (1,3,1):=by kernel_rfl
theorem tyFd8x2:tyFd Tryz.prog 8 2=some (2,4,1):=by kernel_rfl
theorem tyFd8x3:tyFd Tryz.prog 8 3=some (3,6,1):=by kernel_rfl
theorem und8:(Tryz.prog.underlying 8).isSome=true:=by kernel_rfl
theorem tyZ8:tyZ Tryz.prog 8=some (.agg [nt .i64 0,nt .i64 0,bl false,nt .u8 0]):=by kernel_rfl
theorem tyBd8:tyBd Tryz.prog 8=0:=by kernel_rfl
theorem tyB8:tyB Tryz.prog 8=some ([nt .i64 0,nt .i64 0,bl false,nt .u8 0],[(0,1),(1,1),(2,1),(3,1)]):=by kernel_rfl
theorem aggEq8 (a0 b0:Int) (a1 b1:Int) (a2 b2:Bool) (a3 b3:Int):aggEqA Tryz.prog .eql 8 (.agg [.sc (.int .i64 a0),.sc (.int .i64 a1),.sc (.bool a2),.sc (.int .u8 a3)]) (.agg [.sc (.int .i64 b0),.sc (.int .i64 b1),.sc (.bool b2),.sc (.int .u8 b3)])=some ⟨true,bl (decide (a0=b0∧a1=b1∧a2=b2∧a3=b3))⟩:=(by kernel_rfl:aggEqA Tryz.prog .eql 8 (.agg [.sc (.int .i64 a0),.sc (.int .i64 a1),.sc (.bool a2),.sc (.int .u8 a3)]) (.agg [.sc (.int .i64 b0),.sc (.int .i64 b1),.sc (.bool b2),.sc (.int .u8 b3)])=some ⟨true,bl (((a0==b0)&&((a1==b1)&&((a2==b2)&&((a3==b3)&&(true))))))⟩).trans (by congr 3;rw[Bool.eq_iff_iff];simp only[beq_bytes,beq_iff_eq,Bool.and_eq_true,decide_eq_true_eq,and_true,and_assoc])
theorem aggNe8 (a0 b0:Int) (a1 b1:Int) (a2 b2:Bool) (a3 b3:Int):aggEqA Tryz.prog .neq 8 (.agg [.sc (.int .i64 a0),.sc (.int .i64 a1),.sc (.bool a2),.sc (.int .u8 a3)]) (.agg [.sc (.int .i64 b0),.sc (.int .i64 b1),.sc (.bool b2),.sc (.int .u8 b3)])=some ⟨true,bl (!decide (a0=b0∧a1=b1∧a2=b2∧a3=b3))⟩:=(by kernel_rfl:aggEqA Tryz.prog .neq 8 (.agg [.sc (.int .i64 a0),.sc (.int .i64 a1),.sc (.bool a2),.sc (.int .u8 a3)]) (.agg [.sc (.int .i64 b0),.sc (.int .i64 b1),.sc (.bool b2),.sc (.int .u8 b3)])=some ⟨true,bl (!((a0==b0)&&((a1==b1)&&((a2==b2)&&((a3==b3)&&(true))))))⟩).trans (by congr 4;rw[Bool.eq_iff_iff];simp only[beq_bytes,beq_iff_eq,Bool.and_eq_true,decide_eq_true_eq,and_true,and_assoc])
theorem tyI9:tyI Tryz.prog 9=some (false,1):=by kernel_rfl
theorem tyStr9:tyStr Tryz.prog 9=true:=by kernel_rfl
theorem und9:(Tryz.prog.underlying 9).isSome=true:=by kernel_rfl
theorem tyZ9:tyZ Tryz.prog 9=some (.sc (.string (ByteArray.mk #[]))):=by kernel_rfl
theorem tyBd9:tyBd Tryz.prog 9=0:=by kernel_rfl
theorem tySrc9:tySrc Tryz.prog 9=true:=by kernel_rfl
theorem tyZs9:tyZs Tryz.prog 9=some 1:=by kernel_rfl
theorem kdE9:kdE Tryz.prog 9=0:=by kernel_rfl
theorem tyZero9:tyZero Tryz.prog 9=some (.string (ByteArray.mk #[])):=by kernel_rfl
theorem tyI10:tyI Tryz.prog 10=some (false,1):=by kernel_rfl
theorem tyStr10:tyStr Tryz.prog 10=true:=by kernel_rfl
theorem und10:(Tryz.prog.underlying 10).isSome=true:=by kernel_rfl
theorem tyZ10:tyZ Tryz.prog 10=some (.sc (.string (ByteArray.mk #[]))):=by kernel_rfl
theorem tyBd10:tyBd Tryz.prog 10=0:=by kernel_rfl
theorem tySrc10:tySrc Tryz.prog 10=true:=by kernel_rfl
theorem tyI11:tyI Tryz.prog 11=some (false,1):=by kernel_rfl
theorem tyStr11:tyStr Tryz.prog 11=true:=by kernel_rfl
theorem und11:(Tryz.prog.underlying 11).isSome=true:=by kernel_rfl
theorem tyZ11:tyZ Tryz.prog 11=some (.sc (.string (ByteArray.mk #[]))):=by kernel_rfl
theorem tyBd11:tyBd Tryz.prog 11=0:=by kernel_rfl
theorem tySrc11:tySrc Tryz.prog 11=true:=by kernel_rfl
theorem tyI12:tyI Tryz.prog 12=some (false,1):=by kernel_rfl
theorem tyK12:tyK Tryz.prog 12=some .u64:=by kernel_rfl
theorem und12:(Tryz.prog.underlying 12).isSome=true:=by kernel_rfl
theorem tyZ12:tyZ Tryz.prog 12=some (nt .u64 0):=by kernel_rfl
theorem tyBd12:tyBd Tryz.prog 12=0:=by kernel_rfl
theorem tyI13:tyI Tryz.prog 13=some (true,2):=by kernel_rfl
theorem tyFd13x0:tyFd Tryz.prog 13 0=some (0,9,1):=by kernel_rfl
theorem tyFd13x1:tyFd Tryz.prog 13 1=some (1,12,1):=by kernel_rfl
theorem und13:(Tryz.prog.underlying 13).isSome=true:=by kernel_rfl
theorem tyZ13:tyZ Tryz.prog 13=some (.agg [.sc (.string (ByteArray.mk #[])),nt .u64 0]):=by kernel_rfl
theorem tyBd13:tyBd Tryz.prog 13=0:=by kernel_rfl
theorem tyB13:tyB Tryz.prog 13=some ([.sc (.string (ByteArray.mk #[])),nt .u64 0],[(0,1),(1,1)]):=by kernel_rfl
theorem tyI14:tyI Tryz.prog 14=some (true,2):=by kernel_rfl
theorem tyFd14x0:tyFd Tryz.prog 14 0=some (0,9,1):=by kernel_rfl
theorem tyFd14x1:tyFd Tryz.prog 14 1=some (1,12,1):=by kernel_rfl
theorem und14:(Tryz.prog.underlying 14).isSome=true:=by kernel_rfl
theorem tyZ14:tyZ Tryz.prog 14=some (.agg [.sc (.string (ByteArray.mk #[])),nt .u64 0]):=by kernel_rfl
theorem tyBd14:tyBd Tryz.prog 14=0:=by kernel_rfl
theorem tyB14:tyB Tryz.prog 14=some ([.sc (.string (ByteArray.mk #[])),nt .u64 0],[(0,1),(1,1)]):=by kernel_rfl
theorem tyI15:tyI Tryz.prog 15=some (false,1):=by kernel_rfl
theorem tyKd15:tyKd Tryz.prog 15=2:=by kernel_rfl
theorem und15:(Tryz.prog.underlying 15).isSome=true:=by kernel_rfl
theorem tyZ15:tyZ Tryz.prog 15=some (.sc (.pointer none)):=by kernel_rfl
theorem tyBd15:tyBd Tryz.prog 15=0:=by kernel_rfl
theorem tyI16:tyI Tryz.prog 16=some (false,1):=by kernel_rfl
theorem tyKd16:tyKd Tryz.prog 16=2:=by kernel_rfl
theorem und16:(Tryz.prog.underlying 16).isSome=true:=by kernel_rfl
theorem tyZ16:tyZ Tryz.prog 16=some (.sc (.pointer none)):=by kernel_rfl
theorem tyBd16:tyBd Tryz.prog 16=0:=by kernel_rfl
theorem tyI17:tyI Tryz.prog 17=some (false,1):=by kernel_rfl
theorem tyKd17:tyKd Tryz.prog 17=2:=by kernel_rfl
theorem und17:(Tryz.prog.underlying 17).isSome=true:=by kernel_rfl
theorem tyZ17:tyZ Tryz.prog 17=some (.sc (.pointer none)):=by kernel_rfl
theorem tyBd17:tyBd Tryz.prog 17=0:=by kernel_rfl
theorem tyI18:tyI Tryz.prog 18=some (true,1):=by kernel_rfl
theorem tyFd18x0:tyFd Tryz.prog 18 0=some (0,17,1):=by kernel_rfl
theorem und18:(Tryz.prog.underlying 18).isSome=true:=by kernel_rfl
theorem tyZ18:tyZ Tryz.prog 18=some (.agg [.sc (.pointer none)]):=by kernel_rfl
theorem tyBd18:tyBd Tryz.prog 18=0:=by kernel_rfl
theorem tyB18:tyB Tryz.prog 18=some ([.sc (.pointer none)],[(0,1)]):=by kernel_rfl
theorem tyI19:tyI Tryz.prog 19=some (true,1):=by kernel_rfl
theorem tyFd19x0:tyFd Tryz.prog 19 0=some (0,17,1):=by kernel_rfl
theorem und19:(Tryz.prog.underlying 19).isSome=true:=by kernel_rfl
theorem tyZ19:tyZ Tryz.prog 19=some (.agg [.sc (.pointer none)]):=by kernel_rfl
theorem tyBd19:tyBd Tryz.prog 19=0:=by kernel_rfl
theorem tyB19:tyB Tryz.prog 19=some ([.sc (.pointer none)],[(0,1)]):=by kernel_rfl
theorem tyI20:tyI Tryz.prog 20=some (false,1):=by kernel_rfl
theorem und20:(Tryz.prog.underlying 20).isSome=true:=by kernel_rfl
theorem tyZ20:tyZ Tryz.prog 20=some (.sc .nilIface):=by kernel_rfl
theorem tyBd20:tyBd Tryz.prog 20=0:=by kernel_rfl
theorem tyI21:tyI Tryz.prog 21=some (false,1):=by kernel_rfl
theorem tyK21:tyK Tryz.prog 21=some .i32:=by kernel_rfl
theorem und21:(Tryz.prog.underlying 21).isSome=true:=by kernel_rfl
theorem tyZ21:tyZ Tryz.prog 21=some (nt .i32 0):=by kernel_rfl
theorem tyBd21:tyBd Tryz.prog 21=0:=by kernel_rfl
theorem tyI22:tyI Tryz.prog 22=some (false,1):=by kernel_rfl
theorem tyEl22:tyEl Tryz.prog 22=some (24,2,40):=by kernel_rfl
theorem tyKd22:tyKd Tryz.prog 22=1:=by kernel_rfl
theorem und22:(Tryz.prog.underlying 22).isSome=true:=by kernel_rfl
theorem tyZ22:tyZ Tryz.prog 22=some (.list false true []):=by kernel_rfl
theorem tyBd22:tyBd Tryz.prog 22=0:=by kernel_rfl
theorem tySrc22:tySrc Tryz.prog 22=true:=by kernel_rfl
theorem tyI23:tyI Tryz.prog 23=some (true,2):=by kernel_rfl
theorem tyFd23x0:tyFd Tryz.prog 23 0=some (0,9,1):=by kernel_rfl
theorem tyFd23x1:tyFd Tryz.prog 23 1=some (1,22,1):=by kernel_rfl
theorem und23:(Tryz.prog.underlying 23).isSome=true:=by kernel_rfl
theorem tyZ23:tyZ Tryz.prog 23=some (.agg [.sc (.string (ByteArray.mk #[])),.list false true []]):=by kernel_rfl
theorem tyBd23:tyBd Tryz.prog 23=0:=by kernel_rfl
theorem tyB23:tyB Tryz.prog 23=some ([.sc (.string (ByteArray.mk #[])),.list false true []],[(0,1),(1,1)]):=by kernel_rfl
theorem tyI24:tyI Tryz.prog 24=some (true,2):=by kernel_rfl
theorem tyFd24x0:tyFd Tryz.prog 24 0=some (0,9,1):=by kernel_rfl
theorem tyFd24x1:tyFd Tryz.prog 24 1=some (1,22,1):=by kernel_rfl
theorem und24:(Tryz.prog.underlying 24).isSome=true:=by kernel_rfl
theorem tyZ24:tyZ Tryz.prog 24=some (.agg [.sc (.string (ByteArray.mk #[])),.list false true []]):=by kernel_rfl
theorem tyBd24:tyBd Tryz.prog 24=0:=by kernel_rfl
theorem tyZs24:tyZs Tryz.prog 24=some 2:=by kernel_rfl
theorem kdE24:kdE Tryz.prog 24=0:=by kernel_rfl
theorem tyZero24:tyZero Tryz.prog 24=some (.agg #[.string (ByteArray.mk #[]),.slice none 0 0]):=by kernel_rfl
theorem tyB24:tyB Tryz.prog 24=some ([.sc (.string (ByteArray.mk #[])),.list false true []],[(0,1),(1,1)]):=by kernel_rfl
theorem tyI25:tyI Tryz.prog 25=some (false,1):=by kernel_rfl
theorem tyEl25:tyEl Tryz.prog 25=some (46,3,48):=by kernel_rfl
theorem tyKd25:tyKd Tryz.prog 25=1:=by kernel_rfl
theorem und25:(Tryz.prog.underlying 25).isSome=true:=by kernel_rfl
theorem tyZ25:tyZ Tryz.prog 25=some (.list false true []):=by kernel_rfl
theorem tyBd25:tyBd Tryz.prog 25=0:=by kernel_rfl
theorem tySrc25:tySrc Tryz.prog 25=true:=by kernel_rfl
theorem tyI26:tyI Tryz.prog 26=some (true,3):=by kernel_rfl
theorem tyFd26x0:tyFd Tryz.prog 26 0=some (0,24,2):=by kernel_rfl
theorem tyFd26x1:tyFd Tryz.prog 26 1=some (2,25,1):=by kernel_rfl
theorem und26:(Tryz.prog.underlying 26).isSome=true:=by kernel_rfl
theorem tyZ26:tyZ Tryz.prog 26=some (.agg [.sc (.string (ByteArray.mk #[])),.list false true [],.list false true []]):=by kernel_rfl
theorem tyBd26:tyBd Tryz.prog 26=0:=by kernel_rfl
theorem tyB26:tyB Tryz.prog 26=some ([.sc (.string (ByteArray.mk #[])),.list false true [],.list false true []],[(0,2),(2,1)]):=by kernel_rfl
theorem tyI27:tyI Tryz.prog 27=some (true,3):=by kernel_rfl
theorem tyFd27x0:tyFd Tryz.prog 27 0=some (0,24,2):=by kernel_rfl
theorem tyFd27x1:tyFd Tryz.prog 27 1=some (2,25,1):=by kernel_rfl
theorem und27:(Tryz.prog.underlying 27).isSome=true:=by kernel_rfl
theorem tyZ27:tyZ Tryz.prog 27=some (.agg [.sc (.string (ByteArray.mk #[])),.list false true [],.list false true []]):=by kernel_rfl
theorem tyBd27:tyBd Tryz.prog 27=0:=by kernel_rfl
theorem tyZs27:tyZs Tryz.prog 27=some 3:=by kernel_rfl
theorem kdE27:kdE Tryz.prog 27=0:=by kernel_rfl
theorem tyZero27:tyZero Tryz.prog 27=some (.agg #[.string (ByteArray.mk #[]),.slice none 0 0,.slice none 0 0]):=by kernel_rfl
theorem tyB27:tyB Tryz.prog 27=some ([.sc (.string (ByteArray.mk #[])),.list false true [],.list false true []],[(0,2),(2,1)]):=by kernel_rfl
theorem tyI28:tyI Tryz.prog 28=some (false,1):=by kernel_rfl
theorem tyKd28:tyKd Tryz.prog 28=3:=by kernel_rfl
theorem und28:(Tryz.prog.underlying 28).isSome=true:=by kernel_rfl
theorem tyZ28:tyZ Tryz.prog 28=some (.sc .nilFunc):=by kernel_rfl
theorem tyBd28:tyBd Tryz.prog 28=0:=by kernel_rfl
theorem tyI29:tyI Tryz.prog 29=some (false,1):=by kernel_rfl
theorem tyKd29:tyKd Tryz.prog 29=3:=by kernel_rfl
theorem und29:(Tryz.prog.underlying 29).isSome=true:=by kernel_rfl
theorem tyZ29:tyZ Tryz.prog 29=some (.sc .nilFunc):=by kernel_rfl
theorem tyBd29:tyBd Tryz.prog 29=0:=by kernel_rfl
theorem tyI30:tyI Tryz.prog 30=some (false,1):=by kernel_rfl
theorem tyKd30:tyKd Tryz.prog 30=3:=by kernel_rfl
theorem und30:(Tryz.prog.underlying 30).isSome=true:=by kernel_rfl
theorem tyZ30:tyZ Tryz.prog 30=some (.sc .nilFunc):=by kernel_rfl
theorem tyBd30:tyBd Tryz.prog 30=0:=by kernel_rfl
theorem tyI31:tyI Tryz.prog 31=some (false,1):=by kernel_rfl
theorem tyKd31:tyKd Tryz.prog 31=3:=by kernel_rfl
theorem und31:(Tryz.prog.underlying 31).isSome=true:=by kernel_rfl
theorem tyZ31:tyZ Tryz.prog 31=some (.sc .nilFunc):=by kernel_rfl
theorem tyBd31:tyBd Tryz.prog 31=0:=by kernel_rfl
theorem tyI32:tyI Tryz.prog 32=some (false,1):=by kernel_rfl
theorem tyK32:tyK Tryz.prog 32=some .i64:=by kernel_rfl
theorem und32:(Tryz.prog.underlying 32).isSome=true:=by kernel_rfl
theorem tyZ32:tyZ Tryz.prog 32=some (nt .i64 0):=by kernel_rfl
theorem tyBd32:tyBd Tryz.prog 32=0:=by kernel_rfl
theorem tyI33:tyI Tryz.prog 33=some (false,1):=by kernel_rfl
theorem und33:(Tryz.prog.underlying 33).isSome=true:=by kernel_rfl
theorem tyBd33:tyBd Tryz.prog 33=0:=by kernel_rfl
theorem tyI34:tyI Tryz.prog 34=some (false,1):=by kernel_rfl
theorem tyKd34:tyKd Tryz.prog 34=3:=by kernel_rfl
theorem und34:(Tryz.prog.underlying 34).isSome=true:=by kernel_rfl
theorem tyZ34:tyZ Tryz.prog 34=some (.sc .nilFunc):=by kernel_rfl
theorem tyBd34:tyBd Tryz.prog 34=0:=by kernel_rfl
theorem tyI35:tyI Tryz.prog 35=some (false,1):=by kernel_rfl
theorem und35:(Tryz.prog.underlying 35).isSome=true:=by kernel_rfl
theorem tyBd35:tyBd Tryz.prog 35=0:=by kernel_rfl
theorem tyI36:tyI Tryz.prog 36=some (false,1):=by kernel_rfl
theorem tyKd36:tyKd Tryz.prog 36=3:=by kernel_rfl
theorem und36:(Tryz.prog.underlying 36).isSome=true:=by kernel_rfl
theorem tyZ36:tyZ Tryz.prog 36=some (.sc .nilFunc):=by kernel_rfl
theorem tyBd36:tyBd Tryz.prog 36=0:=by kernel_rfl
theorem tyI37:tyI Tryz.prog 37=some (false,1):=by kernel_rfl
theorem tyEl37:tyEl Tryz.prog 37=some (27,3,64):=by kernel_rfl
theorem tyKd37:tyKd Tryz.prog 37=1:=by kernel_rfl
theorem und37:(Tryz.prog.underlying 37).isSome=true:=by kernel_rfl
theorem tyZ37:tyZ Tryz.prog 37=some (.list false true []):=by kernel_rfl
theorem tyBd37:tyBd Tryz.prog 37=0:=by kernel_rfl
theorem tySrc37:tySrc Tryz.prog 37=true:=by kernel_rfl
theorem tyI38:tyI Tryz.prog 38=some (false,1):=by kernel_rfl
theorem tyKd38:tyKd Tryz.prog 38=3:=by kernel_rfl
theorem und38:(Tryz.prog.underlying 38).isSome=true:=by kernel_rfl
theorem tyZ38:tyZ Tryz.prog 38=some (.sc .nilFunc):=by kernel_rfl
theorem tyBd38:tyBd Tryz.prog 38=0:=by kernel_rfl
theorem tyI39:tyI Tryz.prog 39=some (false,1):=by kernel_rfl
theorem und39:(Tryz.prog.underlying 39).isSome=true:=by kernel_rfl
theorem tyBd39:tyBd Tryz.prog 39=0:=by kernel_rfl
theorem tyI40:tyI Tryz.prog 40=some (false,1):=by kernel_rfl
theorem tyKd40:tyKd Tryz.prog 40=3:=by kernel_rfl
theorem und40:(Tryz.prog.underlying 40).isSome=true:=by kernel_rfl
theorem tyZ40:tyZ Tryz.prog 40=some (.sc .nilFunc):=by kernel_rfl
theorem tyBd40:tyBd Tryz.prog 40=0:=by kernel_rfl
theorem tyI41:tyI Tryz.prog 41=some (false,1):=by kernel_rfl
theorem tyKd41:tyKd Tryz.prog 41=3:=by kernel_rfl
theorem und41:(Tryz.prog.underlying 41).isSome=true:=by kernel_rfl
theorem tyZ41:tyZ Tryz.prog 41=some (.sc .nilFunc):=by kernel_rfl
theorem tyBd41:tyBd Tryz.prog 41=0:=by kernel_rfl
theorem tyI42:tyI Tryz.prog 42=some (false,1):=by kernel_rfl
theorem tyKd42:tyKd Tryz.prog 42=3:=by kernel_rfl
theorem und42:(Tryz.prog.underlying 42).isSome=true:=by kernel_rfl
theorem tyZ42:tyZ Tryz.prog 42=some (.sc .nilFunc):=by kernel_rfl
theorem tyBd42:tyBd Tryz.prog 42=0:=by kernel_rfl
theorem tyI43:tyI Tryz.prog 43=some (false,1):=by kernel_rfl
theorem und43:(Tryz.prog.underlying 43).isSome=true:=by kernel_rfl
theorem tyBd43:tyBd Tryz.prog 43=0:=by kernel_rfl
theorem tyI44:tyI Tryz.prog 44=some (false,1):=by kernel_rfl
theorem tyKd44:tyKd Tryz.prog 44=3:=by kernel_rfl
theorem und44:(Tryz.prog.underlying 44).isSome=true:=by kernel_rfl
theorem tyZ44:tyZ Tryz.prog 44=some (.sc .nilFunc):=by kernel_rfl
theorem tyBd44:tyBd Tryz.prog 44=0:=by kernel_rfl
theorem tyI45:tyI Tryz.prog 45=some (true,3):=by kernel_rfl
theorem tyFd45x0:tyFd Tryz.prog 45 0=some (0,4,1):=by kernel_rfl
theorem tyFd45x1:tyFd Tryz.prog 45 1=some (1,24,2):=by kernel_rfl
theorem und45:(Tryz.prog.underlying 45).isSome=true:=by kernel_rfl
theorem tyZ45:tyZ Tryz.prog 45=some (.agg [bl false,.sc (.string (ByteArray.mk #[])),.list false true []]):=by kernel_rfl
theorem tyBd45:tyBd Tryz.prog 45=0:=by kernel_rfl
theorem tyB45:tyB Tryz.prog 45=some ([bl false,.sc (.string (ByteArray.mk #[])),.list false true []],[(0,1),(1,2)]):=by kernel_rfl
theorem tyI46:tyI Tryz.prog 46=some (true,3):=by kernel_rfl
theorem tyFd46x0:tyFd Tryz.prog 46 0=some (0,4,1):=by kernel_rfl
theorem tyFd46x1:tyFd Tryz.prog 46 1=some (1,24,2):=by kernel_rfl
theorem und46:(Tryz.prog.underlying 46).isSome=true:=by kernel_rfl
theorem tyZ46:tyZ Tryz.prog 46=some (.agg [bl false,.sc (.string (ByteArray.mk #[])),.list false true []]):=by kernel_rfl
theorem tyBd46:tyBd Tryz.prog 46=0:=by kernel_rfl
theorem tyZs46:tyZs Tryz.prog 46=some 3:=by kernel_rfl
theorem kdE46:kdE Tryz.prog 46=0:=by kernel_rfl
theorem tyZero46:tyZero Tryz.prog 46=some (.agg #[.bool false,.string (ByteArray.mk #[]),.slice none 0 0]):=by kernel_rfl
theorem tyB46:tyB Tryz.prog 46=some ([bl false,.sc (.string (ByteArray.mk #[])),.list false true []],[(0,1),(1,2)]):=by kernel_rfl
theorem tyI47:tyI Tryz.prog 47=some (false,1):=by kernel_rfl
theorem tyKd47:tyKd Tryz.prog 47=3:=by kernel_rfl
theorem und47:(Tryz.prog.underlying 47).isSome=true:=by kernel_rfl
theorem tyZ47:tyZ Tryz.prog 47=some (.sc .nilFunc):=by kernel_rfl
theorem tyBd47:tyBd Tryz.prog 47=0:=by kernel_rfl
theorem tyI48:tyI Tryz.prog 48=some (false,1):=by kernel_rfl
theorem tyKd48:tyKd Tryz.prog 48=3:=by kernel_rfl
theorem und48:(Tryz.prog.underlying 48).isSome=true:=by kernel_rfl
theorem tyZ48:tyZ Tryz.prog 48=some (.sc .nilFunc):=by kernel_rfl
theorem tyBd48:tyBd Tryz.prog 48=0:=by kernel_rfl
theorem tyI49:tyI Tryz.prog 49=some (false,1):=by kernel_rfl
theorem tyKd49:tyKd Tryz.prog 49=3:=by kernel_rfl
theorem und49:(Tryz.prog.underlying 49).isSome=true:=by kernel_rfl
theorem tyZ49:tyZ Tryz.prog 49=some (.sc .nilFunc):=by kernel_rfl
theorem tyBd49:tyBd Tryz.prog 49=0:=by kernel_rfl
theorem tyI50:tyI Tryz.prog 50=some (false,1):=by kernel_rfl
theorem tyKd50:tyKd Tryz.prog 50=3:=by kernel_rfl
theorem und50:(Tryz.prog.underlying 50).isSome=true:=by kernel_rfl
theorem tyZ50:tyZ Tryz.prog 50=some (.sc .nilFunc):=by kernel_rfl
theorem tyBd50:tyBd Tryz.prog 50=0:=by kernel_rfl
theorem tyI51:tyI Tryz.prog 51=some (false,1):=by kernel_rfl
theorem tyKd51:tyKd Tryz.prog 51=3:=by kernel_rfl
theorem und51:(Tryz.prog.underlying 51).isSome=true:=by kernel_rfl
theorem tyZ51:tyZ Tryz.prog 51=some (.sc .nilFunc):=by kernel_rfl
theorem tyBd51:tyBd Tryz.prog 51=0:=by kernel_rfl
theorem tyI52:tyI Tryz.prog 52=some (false,1):=by kernel_rfl
theorem tyKd52:tyKd Tryz.prog 52=3:=by kernel_rfl
theorem und52:(Tryz.prog.underlying 52).isSome=true:=by kernel_rfl
theorem tyZ52:tyZ Tryz.prog 52=some (.sc .nilFunc):=by kernel_rfl
theorem tyBd52:tyBd Tryz.prog 52=0:=by kernel_rfl
theorem tyI53:tyI Tryz.prog 53=some (false,1):=by kernel_rfl
theorem tyKd53:tyKd Tryz.prog 53=3:=by kernel_rfl
theorem und53:(Tryz.prog.underlying 53).isSome=true:=by kernel_rfl
theorem tyZ53:tyZ Tryz.prog 53=some (.sc .nilFunc):=by kernel_rfl
theorem tyBd53:tyBd Tryz.prog 53=0:=by kernel_rfl
theorem tyI54:tyI Tryz.prog 54=some (false,1):=by kernel_rfl
theorem tyKd54:tyKd Tryz.prog 54=3:=by kernel_rfl
theorem und54:(Tryz.prog.underlying 54).isSome=true:=by kernel_rfl
theorem tyZ54:tyZ Tryz.prog 54=some (.sc .nilFunc):=by kernel_rfl
theorem tyBd54:tyBd Tryz.prog 54=0:=by kernel_rfl
theorem tyI55:tyI Tryz.prog 55=some (false,1):=by kernel_rfl
theorem tyKd55:tyKd Tryz.prog 55=3:=by kernel_rfl
theorem und55:(Tryz.prog.underlying 55).isSome=true:=by kernel_rfl
theorem tyZ55:tyZ Tryz.prog 55=some (.sc .nilFunc):=by kernel_rfl
theorem tyBd55:tyBd Tryz.prog 55=0:=by kernel_rfl
theorem tyI56:tyI Tryz.prog 56=some (false,1):=by kernel_rfl
theorem tyKd56:tyKd Tryz.prog 56=3:=by kernel_rfl
theorem und56:(Tryz.prog.underlying 56).isSome=true:=by kernel_rfl
theorem tyZ56:tyZ Tryz.prog 56=some (.sc .nilFunc):=by kernel_rfl
theorem tyBd56:tyBd Tryz.prog 56=0:=by kernel_rfl
theorem tyI57:tyI Tryz.prog 57=some (false,1):=by kernel_rfl
theorem tyEl57:tyEl Tryz.prog 57=some (9,1,16):=by kernel_rfl
theorem tyKd57:tyKd Tryz.prog 57=1:=by kernel_rfl
theorem und57:(Tryz.prog.underlying 57).isSome=true:=by kernel_rfl
theorem tyZ57:tyZ Tryz.prog 57=some (.list false true []):=by kernel_rfl
theorem tyBd57:tyBd Tryz.prog 57=0:=by kernel_rfl
theorem tySrc57:tySrc Tryz.prog 57=true:=by kernel_rfl
theorem tyI58:tyI Tryz.prog 58=some (false,1):=by kernel_rfl
theorem tyKd58:tyKd Tryz.prog 58=3:=by kernel_rfl
theorem und58:(Tryz.prog.underlying 58).isSome=true:=by kernel_rfl
theorem tyZ58:tyZ Tryz.prog 58=some (.sc .nilFunc):=by kernel_rfl
theorem tyBd58:tyBd Tryz.prog 58=0:=by kernel_rfl
theorem tyI59:tyI Tryz.prog 59=some (false,1):=by kernel_rfl
theorem tyKd59:tyKd Tryz.prog 59=3:=by kernel_rfl
theorem und59:(Tryz.prog.underlying 59).isSome=true:=by kernel_rfl
theorem tyZ59:tyZ Tryz.prog 59=some (.sc .nilFunc):=by kernel_rfl
theorem tyBd59:tyBd Tryz.prog 59=0:=by kernel_rfl
theorem tyI60:tyI Tryz.prog 60=some (false,1):=by kernel_rfl
theorem tyKd60:tyKd Tryz.prog 60=3:=by kernel_rfl
theorem und60:(Tryz.prog.underlying 60).isSome=true:=by kernel_rfl
theorem tyZ60:tyZ Tryz.prog 60=some (.sc .nilFunc):=by kernel_rfl
theorem tyBd60:tyBd Tryz.prog 60=0:=by kernel_rfl
theorem tyI61:tyI Tryz.prog 61=some (false,1):=by kernel_rfl
theorem tyKd61:tyKd Tryz.prog 61=3:=by kernel_rfl
theorem und61:(Tryz.prog.underlying 61).isSome=true:=by kernel_rfl
theorem tyZ61:tyZ Tryz.prog 61=some (.sc .nilFunc):=by kernel_rfl
theorem tyBd61:tyBd Tryz.prog 61=0:=by kernel_rfl
theorem tyI62:tyI Tryz.prog 62=some (false,1):=by kernel_rfl
theorem tyEl62:tyEl Tryz.prog 62=some (64,3,56):=by kernel_rfl
theorem tyKd62:tyKd Tryz.prog 62=1:=by kernel_rfl
theorem und62:(Tryz.prog.underlying 62).isSome=true:=by kernel_rfl
theorem tyZ62:tyZ Tryz.prog 62=some (.list false true []):=by kernel_rfl
theorem tyBd62:tyBd Tryz.prog 62=0:=by kernel_rfl
theorem tySrc62:tySrc Tryz.prog 62=true:=by kernel_rfl
theorem tyI63:tyI Tryz.prog 63=some (true,3):=by kernel_rfl
theorem tyFd63x0:tyFd Tryz.prog 63 0=some (0,9,1):=by kernel_rfl
theorem tyFd63x1:tyFd Tryz.prog 63 1=some (1,24,2):=by kernel_rfl
theorem und63:(Tryz.prog.underlying 63).isSome=true:=by kernel_rfl
theorem tyZ63:tyZ Tryz.prog 63=some (.agg [.sc (.string (ByteArray.mk #[])),.sc (.string (ByteArray.mk #[])),.list false true []]):=by kernel_rfl
theorem tyBd63:tyBd Tryz.prog 63=0:=by kernel_rfl
theorem tyB63:tyB Tryz.prog 63=some ([.sc (.string (ByteArray.mk #[])),.sc (.string (ByteArray.mk #[])),.list false true []],[(0,1),(1,2)]):=by kernel_rfl
theorem tyI64:tyI Tryz.prog 64=some (true,3):=by kernel_rfl
theorem tyFd64x0:tyFd Tryz.prog 64 0=some (0,9,1):=by kernel_rfl
theorem tyFd64x1:tyFd Tryz.prog 64 1=some (1,24,2):=by kernel_rfl
theorem und64:(Tryz.prog.underlying 64).isSome=true:=by kernel_rfl
theorem tyZ64:tyZ Tryz.prog 64=some (.agg [.sc (.string (ByteArray.mk #[])),.sc (.string (ByteArray.mk #[])),.list false true []]):=by kernel_rfl
theorem tyBd64:tyBd Tryz.prog 64=0:=by kernel_rfl
theorem tyZs64:tyZs Tryz.prog 64=some 3:=by kernel_rfl
theorem kdE64:kdE Tryz.prog 64=0:=by kernel_rfl
theorem tyZero64:tyZero Tryz.prog 64=some (.agg #[.string (ByteArray.mk #[]),.string (ByteArray.mk #[]),.slice none 0 0]):=by kernel_rfl
theorem tyB64:tyB Tryz.prog 64=some ([.sc (.string (ByteArray.mk #[])),.sc (.string (ByteArray.mk #[])),.list false true []],[(0,1),(1,2)]):=by kernel_rfl
theorem tyI65:tyI Tryz.prog 65=some (false,1):=by kernel_rfl
theorem tyKd65:tyKd Tryz.prog 65=3:=by kernel_rfl
theorem und65:(Tryz.prog.underlying 65).isSome=true:=by kernel_rfl
theorem tyZ65:tyZ Tryz.prog 65=some (.sc .nilFunc):=by kernel_rfl
theorem tyBd65:tyBd Tryz.prog 65=0:=by kernel_rfl
theorem tyI66:tyI Tryz.prog 66=some (false,1):=by kernel_rfl
theorem tyKd66:tyKd Tryz.prog 66=3:=by kernel_rfl
theorem und66:(Tryz.prog.underlying 66).isSome=true:=by kernel_rfl
theorem tyZ66:tyZ Tryz.prog 66=some (.sc .nilFunc):=by kernel_rfl
theorem tyBd66:tyBd Tryz.prog 66=0:=by kernel_rfl
theorem tyI67:tyI Tryz.prog 67=some (false,1):=by kernel_rfl
theorem tyKd67:tyKd Tryz.prog 67=3:=by kernel_rfl
theorem und67:(Tryz.prog.underlying 67).isSome=true:=by kernel_rfl
theorem tyZ67:tyZ Tryz.prog 67=some (.sc .nilFunc):=by kernel_rfl
theorem tyBd67:tyBd Tryz.prog 67=0:=by kernel_rfl
theorem tyI68:tyI Tryz.prog 68=some (false,1):=by kernel_rfl
theorem tyEl68:tyEl Tryz.prog 68=some (71,1,24):=by kernel_rfl
theorem tyKd68:tyKd Tryz.prog 68=1:=by kernel_rfl
theorem und68:(Tryz.prog.underlying 68).isSome=true:=by kernel_rfl
theorem tyZ68:tyZ Tryz.prog 68=some (.list false true []):=by kernel_rfl
theorem tyBd68:tyBd Tryz.prog 68=0:=by kernel_rfl
theorem tySrc68:tySrc Tryz.prog 68=true:=by kernel_rfl
theorem tyI69:tyI Tryz.prog 69=some (false,1):=by kernel_rfl
theorem tyKd69:tyKd Tryz.prog 69=3:=by kernel_rfl
theorem und69:(Tryz.prog.underlying 69).isSome=true:=by kernel_rfl
theorem tyZ69:tyZ Tryz.prog 69=some (.sc .nilFunc):=by kernel_rfl
theorem tyBd69:tyBd Tryz.prog 69=0:=by kernel_rfl
theorem tyI70:tyI Tryz.prog 70=some (false,1):=by kernel_rfl
theorem tyKd70:tyKd Tryz.prog 70=3:=by kernel_rfl
theorem und70:(Tryz.prog.underlying 70).isSome=true:=by kernel_rfl
theorem tyZ70:tyZ Tryz.prog 70=some (.sc .nilFunc):=by kernel_rfl
theorem tyBd70:tyBd Tryz.prog 70=0:=by kernel_rfl
theorem tyI71:tyI Tryz.prog 71=some (false,1):=by kernel_rfl
theorem tyEl71:tyEl Tryz.prog 71=some (3,1,8):=by kernel_rfl
theorem tyKd71:tyKd Tryz.prog 71=1:=by kernel_rfl
theorem und71:(Tryz.prog.underlying 71).isSome=true:=by kernel_rfl
theorem tyZ71:tyZ Tryz.prog 71=some (.list false true []):=by kernel_rfl
theorem tyBd71:tyBd Tryz.prog 71=0:=by kernel_rfl
theorem tySrc71:tySrc Tryz.prog 71=true:=by kernel_rfl
theorem tyZs71:tyZs Tryz.prog 71=some 1:=by kernel_rfl
theorem kdE71:kdE Tryz.prog 71=0:=by kernel_rfl
theorem tyZero71:tyZero Tryz.prog 71=some (.slice none 0 0):=by kernel_rfl
theorem tyI72:tyI Tryz.prog 72=some (false,1):=by kernel_rfl
theorem tyKd72:tyKd Tryz.prog 72=3:=by kernel_rfl
theorem und72:(Tryz.prog.underlying 72).isSome=true:=by kernel_rfl
theorem tyZ72:tyZ Tryz.prog 72=some (.sc .nilFunc):=by kernel_rfl
theorem tyBd72:tyBd Tryz.prog 72=0:=by kernel_rfl
theorem tyI73:tyI Tryz.prog 73=some (false,1):=by kernel_rfl
theorem tyKd73:tyKd Tryz.prog 73=3:=by kernel_rfl
theorem und73:(Tryz.prog.underlying 73).isSome=true:=by kernel_rfl
theorem tyZ73:tyZ Tryz.prog 73=some (.sc .nilFunc):=by kernel_rfl
theorem tyBd73:tyBd Tryz.prog 73=0:=by kernel_rfl
theorem tyI74:tyI Tryz.prog 74=some (false,1):=by kernel_rfl
theorem tyKd74:tyKd Tryz.prog 74=3:=by kernel_rfl
theorem und74:(Tryz.prog.underlying 74).isSome=true:=by kernel_rfl
theorem tyZ74:tyZ Tryz.prog 74=some (.sc .nilFunc):=by kernel_rfl
theorem tyBd74:tyBd Tryz.prog 74=0:=by kernel_rfl
theorem tyMk75 {s:ByteArray}:tyMk Tryz.prog 75 (.string s)=true:=by kernel_rfl
theorem tyI75:tyI Tryz.prog 75=some (false,1):=by kernel_rfl
theorem und75:(Tryz.prog.underlying 75).isSome=true:=by kernel_rfl
theorem tyZ75:tyZ Tryz.prog 75=some (.sc (.map none)):=by kernel_rfl
theorem tyBd75:tyBd Tryz.prog 75=0:=by kernel_rfl
theorem tyMz75:tyMz Tryz.prog 75=some (bl false):=by kernel_rfl
theorem tyI76:tyI Tryz.prog 76=some (false,1):=by kernel_rfl
theorem tyKd76:tyKd Tryz.prog 76=3:=by kernel_rfl
theorem und76:(Tryz.prog.underlying 76).isSome=true:=by kernel_rfl
theorem tyZ76:tyZ Tryz.prog 76=some (.sc .nilFunc):=by kernel_rfl
theorem tyBd76:tyBd Tryz.prog 76=0:=by kernel_rfl
theorem tyI77:tyI Tryz.prog 77=some (false,1):=by kernel_rfl
theorem tyKd77:tyKd Tryz.prog 77=3:=by kernel_rfl
theorem und77:(Tryz.prog.underlying 77).isSome=true:=by kernel_rfl
theorem tyZ77:tyZ Tryz.prog 77=some (.sc .nilFunc):=by kernel_rfl
theorem tyBd77:tyBd Tryz.prog 77=0:=by kernel_rfl
theorem tyI78:tyI Tryz.prog 78=some (false,1):=by kernel_rfl
theorem tyKd78:tyKd Tryz.prog 78=3:=by kernel_rfl
theorem und78:(Tryz.prog.underlying 78).isSome=true:=by kernel_rfl
theorem tyZ78:tyZ Tryz.prog 78=some (.sc .nilFunc):=by kernel_rfl
theorem tyBd78:tyBd Tryz.prog 78=0:=by kernel_rfl
theorem tyI79:tyI Tryz.prog 79=some (false,1):=by kernel_rfl
theorem tyKd79:tyKd Tryz.prog 79=3:=by kernel_rfl
theorem und79:(Tryz.prog.underlying 79).isSome=true:=by kernel_rfl
theorem tyZ79:tyZ Tryz.prog 79=some (.sc .nilFunc):=by kernel_rfl
theorem tyBd79:tyBd Tryz.prog 79=0:=by kernel_rfl
theorem tyI80:tyI Tryz.prog 80=some (false,1):=by kernel_rfl
theorem tyKd80:tyKd Tryz.prog 80=3:=by kernel_rfl
theorem und80:(Tryz.prog.underlying 80).isSome=true:=by kernel_rfl
theorem tyZ80:tyZ Tryz.prog 80=some (.sc .nilFunc):=by kernel_rfl
theorem tyBd80:tyBd Tryz.prog 80=0:=by kernel_rfl
theorem tyI81:tyI Tryz.prog 81=some (false,1):=by kernel_rfl
theorem tyKd81:tyKd Tryz.prog 81=2:=by kernel_rfl
theorem und81:(Tryz.prog.underlying 81).isSome=true:=by kernel_rfl
theorem tyZ81:tyZ Tryz.prog 81=some (.sc (.pointer none)):=by kernel_rfl
theorem tyBd81:tyBd Tryz.prog 81=0:=by kernel_rfl
theorem tyI82:tyI Tryz.prog 82=some (true,2):=by kernel_rfl
theorem tyFd82x0:tyFd Tryz.prog 82 0=some (0,9,1):=by kernel_rfl
theorem tyFd82x1:tyFd Tryz.prog 82 1=some (1,3,1):=by kernel_rfl
theorem und82:(Tryz.prog.underlying 82).isSome=true:=by kernel_rfl
theorem tyZ82:tyZ Tryz.prog 82=some (.agg [.sc (.string (ByteArray.mk #[])),nt .i64 0]):=by kernel_rfl
theorem tyBd82:tyBd Tryz.prog 82=0:=by kernel_rfl
theorem tyB82:tyB Tryz.prog 82=some ([.sc (.string (ByteArray.mk #[])),nt .i64 0],[(0,1),(1,1)]):=by kernel_rfl
theorem aggEq82 (a0 b0:ByteArray) (a1 b1:Int):aggEqA Tryz.prog .eql 82 (.agg [.sc (.string a0),.sc (.int .i64 a1)]) (.agg [.sc (.string b0),.sc (.int .i64 b1)])=some ⟨true,bl (decide (a0=b0∧a1=b1))⟩:=(by kernel_rfl:aggEqA Tryz.prog .eql 82 (.agg [.sc (.string a0),.sc (.int .i64 a1)]) (.agg [.sc (.string b0),.sc (.int .i64 b1)])=some ⟨true,bl (((a0==b0)&&((a1==b1)&&(true))))⟩).trans (by congr 3;rw[Bool.eq_iff_iff];simp only[beq_bytes,beq_iff_eq,Bool.and_eq_true,decide_eq_true_eq,and_true,and_assoc])
theorem aggNe82 (a0 b0:ByteArray) (a1 b1:Int):aggEqA Tryz.prog .neq 82 (.agg [.sc (.string a0),.sc (.int .i64 a1)]) (.agg [.sc (.string b0),.sc (.int .i64 b1)])=some ⟨true,bl (!decide (a0=b0∧a1=b1))⟩:=(by kernel_rfl:aggEqA Tryz.prog .neq 82 (.agg [.sc (.string a0),.sc (.int .i64 a1)]) (.agg [.sc (.string b0),.sc (.int .i64 b1)])=some ⟨true,bl (!((a0==b0)&&((a1==b1)&&(true))))⟩).trans (by congr 4;rw[Bool.eq_iff_iff];simp only[beq_bytes,beq_iff_eq,Bool.and_eq_true,decide_eq_true_eq,and_true,and_assoc])
theorem tyI83:tyI Tryz.prog 83=some (true,2):=by kernel_rfl
theorem tyFd83x0:tyFd Tryz.prog 83 0=some (0,9,1):=by kernel_rfl
theorem tyFd83x1:tyFd Tryz.prog 83 1=some (1,3,1):=by kernel_rfl
theorem und83:(Tryz.prog.underlying 83).isSome=true:=by kernel_rfl
theorem tyZ83:tyZ Tryz.prog 83=some (.agg [.sc (.string (ByteArray.mk #[])),nt .i64 0]):=by kernel_rfl
theorem tyBd83:tyBd Tryz.prog 83=0:=by kernel_rfl
theorem tyB83:tyB Tryz.prog 83=some ([.sc (.string (ByteArray.mk #[])),nt .i64 0],[(0,1),(1,1)]):=by kernel_rfl
theorem aggEq83 (a0 b0:ByteArray) (a1 b1:Int):aggEqA Tryz.prog .eql 83 (.agg [.sc (.string a0),.sc (.int .i64 a1)]) (.agg [.sc (.string b0),.sc (.int .i64 b1)])=some ⟨true,bl (decide (a0=b0∧a1=b1))⟩:=(by kernel_rfl:aggEqA Tryz.prog .eql 83 (.agg [.sc (.string a0),.sc (.int .i64 a1)]) (.agg [.sc (.string b0),.sc (.int .i64 b1)])=some ⟨true,bl (((a0==b0)&&((a1==b1)&&(true))))⟩).trans (by congr 3;rw[Bool.eq_iff_iff];simp only[beq_bytes,beq_iff_eq,Bool.and_eq_true,decide_eq_true_eq,and_true,and_assoc])
theorem aggNe83 (a0 b0:ByteArray) (a1 b1:Int):aggEqA Tryz.prog .neq 83 (.agg [.sc (.string a0),.sc (.int .i64 a1)]) (.agg [.sc (.string b0),.sc (.int .i64 b1)])=some ⟨true,bl (!decide (a0=b0∧a1=b1))⟩:=(by kernel_rfl:aggEqA Tryz.prog .neq 83 (.agg [.sc (.string a0),.sc (.int .i64 a1)]) (.agg [.sc (.string b0),.sc (.int .i64 b1)])=some ⟨true,bl (!((a0==b0)&&((a1==b1)&&(true))))⟩).trans (by congr 4;rw[Bool.eq_iff_iff];simp only[beq_bytes,beq_iff_eq,Bool.and_eq_true,decide_eq_true_eq,and_true,and_assoc])
theorem tyI84:tyI Tryz.prog 84=some (false,1):=by kernel_rfl
theorem tyKd84:tyKd Tryz.prog 84=3:=by kernel_rfl
theorem und84:(Tryz.prog.underlying 84).isSome=true:=by kernel_rfl
theorem tyZ84:tyZ Tryz.prog 84=some (.sc .nilFunc):=by kernel_rfl
theorem tyBd84:tyBd Tryz.prog 84=0:=by kernel_rfl
theorem tyI85:tyI Tryz.prog 85=some (false,1):=by kernel_rfl
theorem tyKd85:tyKd Tryz.prog 85=3:=by kernel_rfl
theorem und85:(Tryz.prog.underlying 85).isSome=true:=by kernel_rfl
theorem tyZ85:tyZ Tryz.prog 85=some (.sc .nilFunc):=by kernel_rfl
theorem tyBd85:tyBd Tryz.prog 85=0:=by kernel_rfl
theorem tyI86:tyI Tryz.prog 86=some (true,4):=by kernel_rfl
theorem tyFd86x0:tyFd Tryz.prog 86 0=some (0,3,1):=by kernel_rfl
theorem tyFd86x1:tyFd Tryz.prog 86 1=some (1,3,1):=by kernel_rfl
theorem tyFd86x2:tyFd Tryz.prog 86 2=some (2,3,1):=by kernel_rfl
theorem tyFd86x3:tyFd Tryz.prog 86 3=some (3,9,1):=by kernel_rfl
theorem und86:(Tryz.prog.underlying 86).isSome=true:=by kernel_rfl
theorem tyZ86:tyZ Tryz.prog 86=some (.agg [nt .i64 0,nt .i64 0,nt .i64 0,.sc (.string (ByteArray.mk #[]))]):=by kernel_rfl
theorem tyBd86:tyBd Tryz.prog 86=0:=by kernel_rfl
theorem tyB86:tyB Tryz.prog 86=some ([nt .i64 0,nt .i64 0,nt .i64 0,.sc (.string (ByteArray.mk #[]))],[(0,1),(1,1),(2,1),(3,1)]):=by kernel_rfl
theorem aggEq86 (a0 b0:Int) (a1 b1:Int) (a2 b2:Int) (a3 b3:ByteArray):aggEqA Tryz.prog .eql 86 (.agg [.sc (.int .i64 a0),.sc (.int .i64 a1),.sc (.int .i64 a2),.sc (.string a3)]) (.agg [.sc (.int .i64 b0),.sc (.int .i64 b1),.sc (.int .i64 b2),.sc (.string b3)])=some ⟨true,bl (decide (a0=b0∧a1=b1∧a2=b2∧a3=b3))⟩:=(by kernel_rfl:aggEqA Tryz.prog .eql 86 (.agg [.sc (.int .i64 a0),.sc (.int .i64 a1),.sc (.int .i64 a2),.sc (.string a3)]) (.agg [.sc (.int .i64 b0),.sc (.int .i64 b1),.sc (.int .i64 b2),.sc (.string b3)])=some ⟨true,bl (((a0==b0)&&((a1==b1)&&((a2==b2)&&((a3==b3)&&(true))))))⟩).trans (by congr 3;rw[Bool.eq_iff_iff];simp only[beq_bytes,beq_iff_eq,Bool.and_eq_true,decide_eq_true_eq,and_true,and_assoc])
theorem aggNe86 (a0 b0:Int) (a1 b1:Int) (a2 b2:Int) (a3 b3:ByteArray):aggEqA Tryz.prog .neq 86 (.agg [.sc (.int .i64 a0),.sc (.int .i64 a1),.sc (.int .i64 a2),.sc (.string a3)]) (.agg [.sc (.int .i64 b0),.sc (.int .i64 b1),.sc (.int .i64 b2),.sc (.string b3)])=some ⟨true,bl (!decide (a0=b0∧a1=b1∧a2=b2∧a3=b3))⟩:=(by kernel_rfl:aggEqA Tryz.prog .neq 86 (.agg [.sc (.int .i64 a0),.sc (.int .i64 a1),.sc (.int .i64 a2),.sc (.string a3)]) (.agg [.sc (.int .i64 b0),.sc (.int .i64 b1),.sc (.int .i64 b2),.sc (.string b3)])=some ⟨true,bl (!((a0==b0)&&((a1==b1)&&((a2==b2)&&((a3==b3)&&(true))))))⟩).trans (by congr 4;rw[Bool.eq_iff_iff];simp only[beq_bytes,beq_iff_eq,Bool.and_eq_true,decide_eq_true_eq,and_true,and_assoc])
theorem tyI87:tyI Tryz.prog 87=some (true,4):=by kernel_rfl
theorem tyFd87x0:tyFd Tryz.prog 87 0=some (0,3,1):=by kernel_rfl
theorem tyFd87x1:tyFd Tryz.prog 87 1=some (1,3,1):=by kernel_rfl
theorem tyFd87x2:tyFd Tryz.prog 87 2=some (2,3,1):=by kernel_rfl
theorem tyFd87x3:tyFd Tryz.prog 87 3=some (3,9,1):=by kernel_rfl
theorem und87:(Tryz.prog.underlying 87).isSome=true:=by kernel_rfl
theorem tyZ87:tyZ Tryz.prog 87=some (.agg [nt .i64 0,nt .i64 0,nt .i64 0,.sc (.string (ByteArray.mk #[]))]):=by kernel_rfl
theorem tyBd87:tyBd Tryz.prog 87=0:=by kernel_rfl
theorem tyB87:tyB Tryz.prog 87=some ([nt .i64 0,nt .i64 0,nt .i64 0,.sc (.string (ByteArray.mk #[]))],[(0,1),(1,1),(2,1),(3,1)]):=by kernel_rfl
theorem aggEq87 (a0 b0:Int) (a1 b1:Int) (a2 b2:Int) (a3 b3:ByteArray):aggEqA Tryz.prog .eql 87 (.agg [.sc (.int .i64 a0),.sc (.int .i64 a1),.sc (.int .i64 a2),.sc (.string a3)]) (.agg [.sc (.int .i64 b0),.sc (.int .i64 b1),.sc (.int .i64 b2),.sc (.string b3)])=some ⟨true,bl (decide (a0=b0∧a1=b1∧a2=b2∧a3=b3))⟩:=(by kernel_rfl:aggEqA Tryz.prog .eql 87 (.agg [.sc (.int .i64 a0),.sc (.int .i64 a1),.sc (.int .i64 a2),.sc (.string a3)]) (.agg [.sc (.int .i64 b0),.sc (.int .i64 b1),.sc (.int .i64 b2),.sc (.string b3)])=some ⟨true,bl (((a0==b0)&&((a1==b1)&&((a2==b2)&&((a3==b3)&&(true))))))⟩).trans (by congr 3;rw[Bool.eq_iff_iff];simp only[beq_bytes,beq_iff_eq,Bool.and_eq_true,decide_eq_true_eq,and_true,and_assoc])
theorem aggNe87 (a0 b0:Int) (a1 b1:Int) (a2 b2:Int) (a3 b3:ByteArray):aggEqA Tryz.prog .neq 87 (.agg [.sc (.int .i64 a0),.sc (.int .i64 a1),.sc (.int .i64 a2),.sc (.string a3)]) (.agg [.sc (.int .i64 b0),.sc (.int .i64 b1),.sc (.int .i64 b2),.sc (.string b3)])=some ⟨true,bl (!decide (a0=b0∧a1=b1∧a2=b2∧a3=b3))⟩:=(by kernel_rfl:aggEqA Tryz.prog .neq 87 (.agg [.sc (.int .i64 a0),.sc (.int .i64 a1),.sc (.int .i64 a2),.sc (.string a3)]) (.agg [.sc (.int .i64 b0),.sc (.int .i64 b1),.sc (.int .i64 b2),.sc (.string b3)])=some ⟨true,bl (!((a0==b0)&&((a1==b1)&&((a2==b2)&&((a3==b3)&&(true))))))⟩).trans (by congr 4;rw[Bool.eq_iff_iff];simp only[beq_bytes,beq_iff_eq,Bool.and_eq_true,decide_eq_true_eq,and_true,and_assoc])
theorem tyI88:tyI Tryz.prog 88=some (false,1):=by kernel_rfl
theorem tyKd88:tyKd Tryz.prog 88=3:=by kernel_rfl
theorem und88:(Tryz.prog.underlying 88).isSome=true:=by kernel_rfl
theorem tyZ88:tyZ Tryz.prog 88=some (.sc .nilFunc):=by kernel_rfl
theorem tyBd88:tyBd Tryz.prog 88=0:=by kernel_rfl
theorem tyI89:tyI Tryz.prog 89=some (false,1):=by kernel_rfl
theorem tyKd89:tyKd Tryz.prog 89=3:=by kernel_rfl
theorem und89:(Tryz.prog.underlying 89).isSome=true:=by kernel_rfl
theorem tyZ89:tyZ Tryz.prog 89=some (.sc .nilFunc):=by kernel_rfl
theorem tyBd89:tyBd Tryz.prog 89=0:=by kernel_rfl
theorem tyI90:tyI Tryz.prog 90=some (false,1):=by kernel_rfl
theorem tyKd90:tyKd Tryz.prog 90=3:=by kernel_rfl
theorem und90:(Tryz.prog.underlying 90).isSome=true:=by kernel_rfl
theorem tyZ90:tyZ Tryz.prog 90=some (.sc .nilFunc):=by kernel_rfl
theorem tyBd90:tyBd Tryz.prog 90=0:=by kernel_rfl
theorem tyI91:tyI Tryz.prog 91=some (false,1):=by kernel_rfl
theorem tyKd91:tyKd Tryz.prog 91=3:=by kernel_rfl
theorem und91:(Tryz.prog.underlying 91).isSome=true:=by kernel_rfl
theorem tyZ91:tyZ Tryz.prog 91=some (.sc .nilFunc):=by kernel_rfl
theorem tyBd91:tyBd Tryz.prog 91=0:=by kernel_rfl
theorem tyI92:tyI Tryz.prog 92=some (false,1):=by kernel_rfl
theorem tyKd92:tyKd Tryz.prog 92=3:=by kernel_rfl
theorem und92:(Tryz.prog.underlying 92).isSome=true:=by kernel_rfl
theorem tyZ92:tyZ Tryz.prog 92=some (.sc .nilFunc):=by kernel_rfl
theorem tyBd92:tyBd Tryz.prog 92=0:=by kernel_rfl
theorem tyI93:tyI Tryz.prog 93=some (false,1):=by kernel_rfl
theorem tyKd93:tyKd Tryz.prog 93=3:=by kernel_rfl
theorem und93:(Tryz.prog.underlying 93).isSome=true:=by kernel_rfl
theorem tyZ93:tyZ Tryz.prog 93=some (.sc .nilFunc):=by kernel_rfl
theorem tyBd93:tyBd Tryz.prog 93=0:=by kernel_rfl
theorem tyI94:tyI Tryz.prog 94=some (false,1):=by kernel_rfl
theorem tyKd94:tyKd Tryz.prog 94=3:=by kernel_rfl
theorem und94:(Tryz.prog.underlying 94).isSome=true:=by kernel_rfl
theorem tyZ94:tyZ Tryz.prog 94=some (.sc .nilFunc):=by kernel_rfl
theorem tyBd94:tyBd Tryz.prog 94=0:=by kernel_rfl
theorem tyI95:tyI Tryz.prog 95=some (false,1):=by kernel_rfl
theorem tyKd95:tyKd Tryz.prog 95=3:=by kernel_rfl
theorem und95:(Tryz.prog.underlying 95).isSome=true:=by kernel_rfl
theorem tyZ95:tyZ Tryz.prog 95=some (.sc .nilFunc):=by kernel_rfl
theorem tyBd95:tyBd Tryz.prog 95=0:=by kernel_rfl
theorem tyI96:tyI Tryz.prog 96=some (false,1):=by kernel_rfl
theorem tyKd96:tyKd Tryz.prog 96=3:=by kernel_rfl
theorem und96:(Tryz.prog.underlying 96).isSome=true:=by kernel_rfl
theorem tyZ96:tyZ Tryz.prog 96=some (.sc .nilFunc):=by kernel_rfl
theorem tyBd96:tyBd Tryz.prog 96=0:=by kernel_rfl
theorem tyI97:tyI Tryz.prog 97=some (false,1):=by kernel_rfl
theorem tyKd97:tyKd Tryz.prog 97=3:=by kernel_rfl
theorem und97:(Tryz.prog.underlying 97).isSome=true:=by kernel_rfl
theorem tyZ97:tyZ Tryz.prog 97=some (.sc .nilFunc):=by kernel_rfl
theorem tyBd97:tyBd Tryz.prog 97=0:=by kernel_rfl
theorem tyI98:tyI Tryz.prog 98=some (false,1):=by kernel_rfl
theorem tyKd98:tyKd Tryz.prog 98=3:=by kernel_rfl
theorem und98:(Tryz.prog.underlying 98).isSome=true:=by kernel_rfl
theorem tyZ98:tyZ Tryz.prog 98=some (.sc .nilFunc):=by kernel_rfl
theorem tyBd98:tyBd Tryz.prog 98=0:=by kernel_rfl
theorem tyI99:tyI Tryz.prog 99=some (false,1):=by kernel_rfl
theorem tyK99:tyK Tryz.prog 99=some .u64:=by kernel_rfl
theorem und99:(Tryz.prog.underlying 99).isSome=true:=by kernel_rfl
theorem tyZ99:tyZ Tryz.prog 99=some (nt .u64 0):=by kernel_rfl
theorem tyBd99:tyBd Tryz.prog 99=0:=by kernel_rfl
theorem tyI100:tyI Tryz.prog 100=some (false,1):=by kernel_rfl
theorem tyKd100:tyKd Tryz.prog 100=3:=by kernel_rfl
theorem und100:(Tryz.prog.underlying 100).isSome=true:=by kernel_rfl
theorem tyZ100:tyZ Tryz.prog 100=some (.sc .nilFunc):=by kernel_rfl
theorem tyBd100:tyBd Tryz.prog 100=0:=by kernel_rfl
theorem tyI101:tyI Tryz.prog 101=some (false,1):=by kernel_rfl
theorem tyKd101:tyKd Tryz.prog 101=3:=by kernel_rfl
theorem und101:(Tryz.prog.underlying 101).isSome=true:=by kernel_rfl
theorem tyZ101:tyZ Tryz.prog 101=some (.sc .nilFunc):=by kernel_rfl
theorem tyBd101:tyBd Tryz.prog 101=0:=by kernel_rfl
theorem tyI102:tyI Tryz.prog 102=some (false,1):=by kernel_rfl
theorem tyKd102:tyKd Tryz.prog 102=3:=by kernel_rfl
theorem und102:(Tryz.prog.underlying 102).isSome=true:=by kernel_rfl
theorem tyZ102:tyZ Tryz.prog 102=some (.sc .nilFunc):=by kernel_rfl
theorem tyBd102:tyBd Tryz.prog 102=0:=by kernel_rfl
theorem tyI103:tyI Tryz.prog 103=some (false,1):=by kernel_rfl
theorem tyKd103:tyKd Tryz.prog 103=3:=by kernel_rfl
theorem und103:(Tryz.prog.underlying 103).isSome=true:=by kernel_rfl
theorem tyZ103:tyZ Tryz.prog 103=some (.sc .nilFunc):=by kernel_rfl
theorem tyBd103:tyBd Tryz.prog 103=0:=by kernel_rfl
theorem tyI104:tyI Tryz.prog 104=some (false,1):=by kernel_rfl
theorem tyKd104:tyKd Tryz.prog 104=3:=by kernel_rfl
theorem und104:(Tryz.prog.underlying 104).isSome=true:=by kernel_rfl
theorem tyZ104:tyZ Tryz.prog 104=some (.sc .nilFunc):=by kernel_rfl
theorem tyBd104:tyBd Tryz.prog 104=0:=by kernel_rfl
theorem tyI105:tyI Tryz.prog 105=some (false,1):=by kernel_rfl
theorem und105:(Tryz.prog.underlying 105).isSome=true:=by kernel_rfl
theorem tyBd105:tyBd Tryz.prog 105=0:=by kernel_rfl
theorem tyI106:tyI Tryz.prog 106=some (false,1):=by kernel_rfl
theorem tyKd106:tyKd Tryz.prog 106=3:=by kernel_rfl
theorem und106:(Tryz.prog.underlying 106).isSome=true:=by kernel_rfl
theorem tyZ106:tyZ Tryz.prog 106=some (.sc .nilFunc):=by kernel_rfl
theorem tyBd106:tyBd Tryz.prog 106=0:=by kernel_rfl
theorem tyI107:tyI Tryz.prog 107=some (false,1):=by kernel_rfl
theorem tyKd107:tyKd Tryz.prog 107=3:=by kernel_rfl
theorem und107:(Tryz.prog.underlying 107).isSome=true:=by kernel_rfl
theorem tyZ107:tyZ Tryz.prog 107=some (.sc .nilFunc):=by kernel_rfl
theorem tyBd107:tyBd Tryz.prog 107=0:=by kernel_rfl
theorem tyI108:tyI Tryz.prog 108=some (false,1):=by kernel_rfl
theorem tyEl108:tyEl Tryz.prog 108=some (5,1,1):=by kernel_rfl
theorem tyKd108:tyKd Tryz.prog 108=1:=by kernel_rfl
theorem und108:(Tryz.prog.underlying 108).isSome=true:=by kernel_rfl
theorem tyZ108:tyZ Tryz.prog 108=some (.list false true []):=by kernel_rfl
theorem tyBd108:tyBd Tryz.prog 108=0:=by kernel_rfl
theorem tySrc108:tySrc Tryz.prog 108=true:=by kernel_rfl
theorem tyI109:tyI Tryz.prog 109=some (false,1):=by kernel_rfl
theorem tyKd109:tyKd Tryz.prog 109=3:=by kernel_rfl
theorem und109:(Tryz.prog.underlying 109).isSome=true:=by kernel_rfl
theorem tyZ109:tyZ Tryz.prog 109=some (.sc .nilFunc):=by kernel_rfl
theorem tyBd109:tyBd Tryz.prog 109=0:=by kernel_rfl
theorem tyI112:tyI Tryz.prog 112=some (false,1):=by kernel_rfl
theorem tyKd112:tyKd Tryz.prog 112=2:=by kernel_rfl
theorem und112:(Tryz.prog.underlying 112).isSome=true:=by kernel_rfl
theorem tyZ112:tyZ Tryz.prog 112=some (.sc (.pointer none)):=by kernel_rfl
theorem tyBd112:tyBd Tryz.prog 112=0:=by kernel_rfl
theorem tyI114:tyI Tryz.prog 114=some (true,1):=by kernel_rfl
theorem tyFd114x0:tyFd Tryz.prog 114 0=some (0,3,1):=by kernel_rfl
theorem und114:(Tryz.prog.underlying 114).isSome=true:=by kernel_rfl
theorem tyZ114:tyZ Tryz.prog 114=some (.agg [nt .i64 0]):=by kernel_rfl
theorem tyBd114:tyBd Tryz.prog 114=0:=by kernel_rfl
theorem tyB114:tyB Tryz.prog 114=some ([nt .i64 0],[(0,1)]):=by kernel_rfl
theorem aggEq114 (a0 b0:Int):aggEqA Tryz.prog .eql 114 (.agg [.sc (.int .i64 a0)]) (.agg [.sc (.int .i64 b0)])=some ⟨true,bl (decide (a0=b0))⟩:=(by kernel_rfl:aggEqA Tryz.prog .eql 114 (.agg [.sc (.int .i64 a0)]) (.agg [.sc (.int .i64 b0)])=some ⟨true,bl (((a0==b0)&&(true)))⟩).trans (by congr 3;rw[Bool.eq_iff_iff];simp only[beq_bytes,beq_iff_eq,Bool.and_eq_true,decide_eq_true_eq,and_true,and_assoc])
theorem aggNe114 (a0 b0:Int):aggEqA Tryz.prog .neq 114 (.agg [.sc (.int .i64 a0)]) (.agg [.sc (.int .i64 b0)])=some ⟨true,bl (!decide (a0=b0))⟩:=(by kernel_rfl:aggEqA Tryz.prog .neq 114 (.agg [.sc (.int .i64 a0)]) (.agg [.sc (.int .i64 b0)])=some ⟨true,bl (!((a0==b0)&&(true)))⟩).trans (by congr 4;rw[Bool.eq_iff_iff];simp only[beq_bytes,beq_iff_eq,Bool.and_eq_true,decide_eq_true_eq,and_true,and_assoc])
theorem tyI115:tyI Tryz.prog 115=some (false,1):=by kernel_rfl
theorem tyKd115:tyKd Tryz.prog 115=3:=by kernel_rfl
theorem und115:(Tryz.prog.underlying 115).isSome=true:=by kernel_rfl
theorem tyZ115:tyZ Tryz.prog 115=some (.sc .nilFunc):=by kernel_rfl
theorem tyBd115:tyBd Tryz.prog 115=0:=by kernel_rfl
theorem tyI117:tyI Tryz.prog 117=some (false,1):=by kernel_rfl
theorem tyEl117:tyEl Tryz.prog 117=some (121,1,24):=by kernel_rfl
theorem tyKd117:tyKd Tryz.prog 117=1:=by kernel_rfl
theorem und117:(Tryz.prog.underlying 117).isSome=true:=by kernel_rfl
theorem tyZ117:tyZ Tryz.prog 117=some (.list false true []):=by kernel_rfl
theorem tyBd117:tyBd Tryz.prog 117=0:=by kernel_rfl
theorem tySrc117:tySrc Tryz.prog 117=true:=by kernel_rfl
theorem tyI119:tyI Tryz.prog 119=some (false,1):=by kernel_rfl
theorem tyKd119:tyKd Tryz.prog 119=3:=by kernel_rfl
theorem und119:(Tryz.prog.underlying 119).isSome=true:=by kernel_rfl
theorem tyZ119:tyZ Tryz.prog 119=some (.sc .nilFunc):=by kernel_rfl
theorem tyBd119:tyBd Tryz.prog 119=0:=by kernel_rfl
theorem tyI120:tyI Tryz.prog 120=some (false,1):=by kernel_rfl
theorem tyKd120:tyKd Tryz.prog 120=3:=by kernel_rfl
theorem und120:(Tryz.prog.underlying 120).isSome=true:=by kernel_rfl
theorem tyZ120:tyZ Tryz.prog 120=some (.sc .nilFunc):=by kernel_rfl
theorem tyBd120:tyBd Tryz.prog 120=0:=by kernel_rfl
theorem tyI121:tyI Tryz.prog 121=some (false,1):=by kernel_rfl
theorem tyEl121:tyEl Tryz.prog 121=some (159,3,56):=by kernel_rfl
theorem tyKd121:tyKd Tryz.prog 121=1:=by kernel_rfl
theorem und121:(Tryz.prog.underlying 121).isSome=true:=by kernel_rfl
theorem tyZ121:tyZ Tryz.prog 121=some (.list false true []):=by kernel_rfl
theorem tyBd121:tyBd Tryz.prog 121=0:=by kernel_rfl
theorem tySrc121:tySrc Tryz.prog 121=true:=by kernel_rfl
theorem tyZs121:tyZs Tryz.prog 121=some 1:=by kernel_rfl
theorem kdE121:kdE Tryz.prog 121=0:=by kernel_rfl
theorem tyZero121:tyZero Tryz.prog 121=some (.slice none 0 0):=by kernel_rfl
theorem tyI122:tyI Tryz.prog 122=some (false,1):=by kernel_rfl
theorem tyKd122:tyKd Tryz.prog 122=2:=by kernel_rfl
theorem und122:(Tryz.prog.underlying 122).isSome=true:=by kernel_rfl
theorem tyZ122:tyZ Tryz.prog 122=some (.sc (.pointer none)):=by kernel_rfl
theorem tyBd122:tyBd Tryz.prog 122=0:=by kernel_rfl
theorem tyI123:tyI Tryz.prog 123=some (true,2):=by kernel_rfl
theorem tyFd123x0:tyFd Tryz.prog 123 0=some (0,122,1):=by kernel_rfl
theorem tyFd123x1:tyFd Tryz.prog 123 1=some (1,108,1):=by kernel_rfl
theorem und123:(Tryz.prog.underlying 123).isSome=true:=by kernel_rfl
theorem tyZ123:tyZ Tryz.prog 123=some (.agg [.sc (.pointer none),.list false true []]):=by kernel_rfl
theorem tyBd123:tyBd Tryz.prog 123=0:=by kernel_rfl
theorem tyB123:tyB Tryz.prog 123=some ([.sc (.pointer none),.list false true []],[(0,1),(1,1)]):=by kernel_rfl
theorem tyI124:tyI Tryz.prog 124=some (true,2):=by kernel_rfl
theorem tyFd124x0:tyFd Tryz.prog 124 0=some (0,122,1):=by kernel_rfl
theorem tyFd124x1:tyFd Tryz.prog 124 1=some (1,108,1):=by kernel_rfl
theorem und124:(Tryz.prog.underlying 124).isSome=true:=by kernel_rfl
theorem tyZ124:tyZ Tryz.prog 124=some (.agg [.sc (.pointer none),.list false true []]):=by kernel_rfl
theorem tyBd124:tyBd Tryz.prog 124=126:=by kernel_rfl
theorem rawZ124:rawZ Tryz.prog 124=some (.agg [.sc (.pointer none),.sc (.slice none 0 0)]):=by kernel_rfl
theorem tyB124:tyB Tryz.prog 124=some ([.sc (.pointer none),.list false true []],[(0,1),(1,1)]):=by kernel_rfl
theorem tyI125:tyI Tryz.prog 125=some (false,1):=by kernel_rfl
theorem und125:(Tryz.prog.underlying 125).isSome=true:=by kernel_rfl
theorem tyZ125:tyZ Tryz.prog 125=some (.sc .nilIface):=by kernel_rfl
theorem tyBd125:tyBd Tryz.prog 125=0:=by kernel_rfl
theorem tyI126:tyI Tryz.prog 126=some (false,1):=by kernel_rfl
theorem und126:(Tryz.prog.underlying 126).isSome=true:=by kernel_rfl
theorem tyZ126:tyZ Tryz.prog 126=some (.sc .nilIface):=by kernel_rfl
theorem tyBd126:tyBd Tryz.prog 126=0:=by kernel_rfl
theorem tyI127:tyI Tryz.prog 127=some (false,1):=by kernel_rfl
theorem und127:(Tryz.prog.underlying 127).isSome=true:=by kernel_rfl
theorem tyBd127:tyBd Tryz.prog 127=0:=by kernel_rfl
theorem tyI128:tyI Tryz.prog 128=some (false,1):=by kernel_rfl
theorem tyKd128:tyKd Tryz.prog 128=3:=by kernel_rfl
theorem und128:(Tryz.prog.underlying 128).isSome=true:=by kernel_rfl
theorem tyZ128:tyZ Tryz.prog 128=some (.sc .nilFunc):=by kernel_rfl
theorem tyBd128:tyBd Tryz.prog 128=0:=by kernel_rfl
theorem tyI129:tyI Tryz.prog 129=some (false,1):=by kernel_rfl
theorem tyKd129:tyKd Tryz.prog 129=3:=by kernel_rfl
theorem und129:(Tryz.prog.underlying 129).isSome=true:=by kernel_rfl
theorem tyZ129:tyZ Tryz.prog 129=some (.sc .nilFunc):=by kernel_rfl
theorem tyBd129:tyBd Tryz.prog 129=0:=by kernel_rfl
theorem tyI130:tyI Tryz.prog 130=some (false,1):=by kernel_rfl
theorem tyKd130:tyKd Tryz.prog 130=3:=by kernel_rfl
theorem und130:(Tryz.prog.underlying 130).isSome=true:=by kernel_rfl
theorem tyZ130:tyZ Tryz.prog 130=some (.sc .nilFunc):=by kernel_rfl
theorem tyBd130:tyBd Tryz.prog 130=0:=by kernel_rfl
theorem tyI131:tyI Tryz.prog 131=some (false,1):=by kernel_rfl
theorem tyKd131:tyKd Tryz.prog 131=3:=by kernel_rfl
theorem und131:(Tryz.prog.underlying 131).isSome=true:=by kernel_rfl
theorem tyZ131:tyZ Tryz.prog 131=some (.sc .nilFunc):=by kernel_rfl
theorem tyBd131:tyBd Tryz.prog 131=0:=by kernel_rfl
theorem tyI132:tyI Tryz.prog 132=some (false,1):=by kernel_rfl
theorem und132:(Tryz.prog.underlying 132).isSome=true:=by kernel_rfl
theorem tyBd132:tyBd Tryz.prog 132=0:=by kernel_rfl
theorem tyI133:tyI Tryz.prog 133=some (false,1):=by kernel_rfl
theorem tyKd133:tyKd Tryz.prog 133=3:=by kernel_rfl
theorem und133:(Tryz.prog.underlying 133).isSome=true:=by kernel_rfl
theorem tyZ133:tyZ Tryz.prog 133=some (.sc .nilFunc):=by kernel_rfl
theorem tyBd133:tyBd Tryz.prog 133=0:=by kernel_rfl
theorem tyI134:tyI Tryz.prog 134=some (false,1):=by kernel_rfl
theorem tyKd134:tyKd Tryz.prog 134=3:=by kernel_rfl
theorem und134:(Tryz.prog.underlying 134).isSome=true:=by kernel_rfl
theorem tyZ134:tyZ Tryz.prog 134=some (.sc .nilFunc):=by kernel_rfl
theorem tyBd134:tyBd Tryz.prog 134=0:=by kernel_rfl
theorem tyI136:tyI Tryz.prog 136=some (true,2):=by kernel_rfl
theorem tyFd136x0:tyFd Tryz.prog 136 0=some (0,5,1):=by kernel_rfl
theorem tyFd136x1:tyFd Tryz.prog 136 1=some (1,5,1):=by kernel_rfl
theorem und136:(Tryz.prog.underlying 136).isSome=true:=by kernel_rfl
theorem tyZ136:tyZ Tryz.prog 136=some (.agg [nt .u8 0,nt .u8 0]):=by kernel_rfl
theorem tyBd136:tyBd Tryz.prog 136=0:=by kernel_rfl
theorem tyZs136:tyZs Tryz.prog 136=some 2:=by kernel_rfl
theorem kdE136:kdE Tryz.prog 136=0:=by kernel_rfl
theorem tyZero136:tyZero Tryz.prog 136=some (.agg #[.int .u8 0,.int .u8 0]):=by kernel_rfl
theorem tyB136:tyB Tryz.prog 136=some ([nt .u8 0,nt .u8 0],[(0,1),(1,1)]):=by kernel_rfl
theorem aggEq136 (a0 b0:Int) (a1 b1:Int):aggEqA Tryz.prog .eql 136 (.agg [.sc (.int .u8 a0),.sc (.int .u8 a1)]) (.agg [.sc (.int .u8 b0),.sc (.int .u8 b1)])=some ⟨true,bl (decide (a0=b0∧a1=b1))⟩:=(by kernel_rfl:aggEqA Tryz.prog .eql 136 (.agg [.sc (.int .u8 a0),.sc (.int .u8 a1)]) (.agg [.sc (.int .u8 b0),.sc (.int .u8 b1)])=some ⟨true,bl (((a0==b0)&&((a1==b1)&&(true))))⟩).trans (by congr 3;rw[Bool.eq_iff_iff];simp only[beq_bytes,beq_iff_eq,Bool.and_eq_true,decide_eq_true_eq,and_true,and_assoc])
theorem aggNe136 (a0 b0:Int) (a1 b1:Int):aggEqA Tryz.prog .neq 136 (.agg [.sc (.int .u8 a0),.sc (.int .u8 a1)]) (.agg [.sc (.int .u8 b0),.sc (.int .u8 b1)])=some ⟨true,bl (!decide (a0=b0∧a1=b1))⟩:=(by kernel_rfl:aggEqA Tryz.prog .neq 136 (.agg [.sc (.int .u8 a0),.sc (.int .u8 a1)]) (.agg [.sc (.int .u8 b0),.sc (.int .u8 b1)])=some ⟨true,bl (!((a0==b0)&&((a1==b1)&&(true))))⟩).trans (by congr 4;rw[Bool.eq_iff_iff];simp only[beq_bytes,beq_iff_eq,Bool.and_eq_true,decide_eq_true_eq,and_true,and_assoc])
theorem tyI137:tyI Tryz.prog 137=some (true,6):=by kernel_rfl
theorem tyAr137:tyAr Tryz.prog 137=some (3,136,2):=by kernel_rfl
theorem und137:(Tryz.prog.underlying 137).isSome=true:=by kernel_rfl
theorem tyZ137:tyZ Tryz.prog 137=some (.agg [nt .u8 0,nt .u8 0,nt .u8 0,nt .u8 0,nt .u8 0,nt .u8 0]):=by kernel_rfl
theorem tyBd137:tyBd Tryz.prog 137=0:=by kernel_rfl
theorem tyB137:tyB Tryz.prog 137=some ([nt .u8 0,nt .u8 0,nt .u8 0,nt .u8 0,nt .u8 0,nt .u8 0],[(0,2),(2,2),(4,2)]):=by kernel_rfl
theorem tyI141:tyI Tryz.prog 141=some (false,1):=by kernel_rfl
theorem tyK141:tyK Tryz.prog 141=some .i64:=by kernel_rfl
theorem und141:(Tryz.prog.underlying 141).isSome=true:=by kernel_rfl
theorem tyZ141:tyZ Tryz.prog 141=some (nt .i64 0):=by kernel_rfl
theorem tyBd141:tyBd Tryz.prog 141=0:=by kernel_rfl
theorem tyI142:tyI Tryz.prog 142=some (false,1):=by kernel_rfl
theorem und142:(Tryz.prog.underlying 142).isSome=true:=by kernel_rfl
theorem tyBd142:tyBd Tryz.prog 142=0:=by kernel_rfl
theorem tyI143:tyI Tryz.prog 143=some (false,1):=by kernel_rfl
theorem tyKd143:tyKd Tryz.prog 143=3:=by kernel_rfl
theorem und143:(Tryz.prog.underlying 143).isSome=true:=by kernel_rfl
theorem tyZ143:tyZ Tryz.prog 143=some (.sc .nilFunc):=by kernel_rfl
theorem tyBd143:tyBd Tryz.prog 143=0:=by kernel_rfl
theorem tyI148:tyI Tryz.prog 148=some (false,1):=by kernel_rfl
theorem tyKd148:tyKd Tryz.prog 148=3:=by kernel_rfl
theorem und148:(Tryz.prog.underlying 148).isSome=true:=by kernel_rfl
theorem tyZ148:tyZ Tryz.prog 148=some (.sc .nilFunc):=by kernel_rfl
theorem tyBd148:tyBd Tryz.prog 148=0:=by kernel_rfl
theorem tyI149:tyI Tryz.prog 149=some (false,1):=by kernel_rfl
theorem tyK149:tyK Tryz.prog 149=some .u32:=by kernel_rfl
theorem und149:(Tryz.prog.underlying 149).isSome=true:=by kernel_rfl
theorem tyZ149:tyZ Tryz.prog 149=some (nt .u32 0):=by kernel_rfl
theorem tyBd149:tyBd Tryz.prog 149=0:=by kernel_rfl
theorem tyI150:tyI Tryz.prog 150=some (false,1):=by kernel_rfl
theorem tyKd150:tyKd Tryz.prog 150=3:=by kernel_rfl
theorem und150:(Tryz.prog.underlying 150).isSome=true:=by kernel_rfl
theorem tyZ150:tyZ Tryz.prog 150=some (.sc .nilFunc):=by kernel_rfl
theorem tyBd150:tyBd Tryz.prog 150=0:=by kernel_rfl
theorem tyI151:tyI Tryz.prog 151=some (false,1):=by kernel_rfl
theorem tyK151:tyK Tryz.prog 151=some .u64:=by kernel_rfl
theorem und151:(Tryz.prog.underlying 151).isSome=true:=by kernel_rfl
theorem tyZ151:tyZ Tryz.prog 151=some (nt .u64 0):=by kernel_rfl
theorem tyBd151:tyBd Tryz.prog 151=0:=by kernel_rfl
theorem tyI159:tyI Tryz.prog 159=some (true,3):=by kernel_rfl
theorem tyFd159x0:tyFd Tryz.prog 159 0=some (0,9,1):=by kernel_rfl
theorem tyFd159x1:tyFd Tryz.prog 159 1=some (1,24,2):=by kernel_rfl
theorem und159:(Tryz.prog.underlying 159).isSome=true:=by kernel_rfl
theorem tyZ159:tyZ Tryz.prog 159=some (.agg [.sc (.string (ByteArray.mk #[])),.sc (.string (ByteArray.mk #[])),.list false true []]):=by kernel_rfl
theorem tyBd159:tyBd Tryz.prog 159=0:=by kernel_rfl
theorem tyZs159:tyZs Tryz.prog 159=some 3:=by kernel_rfl
theorem kdE159:kdE Tryz.prog 159=0:=by kernel_rfl
theorem tyZero159:tyZero Tryz.prog 159=some (.agg #[.string (ByteArray.mk #[]),.string (ByteArray.mk #[]),.slice none 0 0]):=by kernel_rfl
theorem tyB159:tyB Tryz.prog 159=some ([.sc (.string (ByteArray.mk #[])),.sc (.string (ByteArray.mk #[])),.list false true []],[(0,1),(1,2)]):=by kernel_rfl
theorem tyI160:tyI Tryz.prog 160=some (false,1):=by kernel_rfl
theorem tyKd160:tyKd Tryz.prog 160=3:=by kernel_rfl
theorem und160:(Tryz.prog.underlying 160).isSome=true:=by kernel_rfl
theorem tyZ160:tyZ Tryz.prog 160=some (.sc .nilFunc):=by kernel_rfl
theorem tyBd160:tyBd Tryz.prog 160=0:=by kernel_rfl
theorem tyI161:tyI Tryz.prog 161=some (false,1):=by kernel_rfl
theorem tyKd161:tyKd Tryz.prog 161=2:=by kernel_rfl
theorem und161:(Tryz.prog.underlying 161).isSome=true:=by kernel_rfl
theorem tyZ161:tyZ Tryz.prog 161=some (.sc (.pointer none)):=by kernel_rfl
theorem tyBd161:tyBd Tryz.prog 161=0:=by kernel_rfl
theorem tyI162:tyI Tryz.prog 162=some (false,1):=by kernel_rfl
theorem tyKd162:tyKd Tryz.prog 162=3:=by kernel_rfl
theorem und162:(Tryz.prog.underlying 162).isSome=true:=by kernel_rfl
theorem tyZ162:tyZ Tryz.prog 162=some (.sc .nilFunc):=by kernel_rfl
theorem tyBd162:tyBd Tryz.prog 162=0:=by kernel_rfl
theorem tyI164:tyI Tryz.prog 164=some (false,1):=by kernel_rfl
theorem tyKd164:tyKd Tryz.prog 164=3:=by kernel_rfl
theorem und164:(Tryz.prog.underlying 164).isSome=true:=by kernel_rfl
theorem tyZ164:tyZ Tryz.prog 164=some (.sc .nilFunc):=by kernel_rfl
theorem tyBd164:tyBd Tryz.prog 164=0:=by kernel_rfl
theorem tyI168:tyI Tryz.prog 168=some (false,1):=by kernel_rfl
theorem tyEl168:tyEl Tryz.prog 168=some (136,2,2):=by kernel_rfl
theorem tyKd168:tyKd Tryz.prog 168=1:=by kernel_rfl
theorem und168:(Tryz.prog.underlying 168).isSome=true:=by kernel_rfl
theorem tyZ168:tyZ Tryz.prog 168=some (.list false true []):=by kernel_rfl
theorem tyBd168:tyBd Tryz.prog 168=0:=by kernel_rfl
theorem tySrc168:tySrc Tryz.prog 168=true:=by kernel_rfl
theorem tyI169:tyI Tryz.prog 169=some (false,1):=by kernel_rfl
theorem tyK169:tyK Tryz.prog 169=some .u64:=by kernel_rfl
theorem und169:(Tryz.prog.underlying 169).isSome=true:=by kernel_rfl
theorem tyZ169:tyZ Tryz.prog 169=some (nt .u64 0):=by kernel_rfl
theorem tyBd169:tyBd Tryz.prog 169=0:=by kernel_rfl
theorem tyI173:tyI Tryz.prog 173=some (false,1):=by kernel_rfl
theorem tyKd173:tyKd Tryz.prog 173=2:=by kernel_rfl
theorem und173:(Tryz.prog.underlying 173).isSome=true:=by kernel_rfl
theorem tyZ173:tyZ Tryz.prog 173=some (.sc (.pointer none)):=by kernel_rfl
theorem tyBd173:tyBd Tryz.prog 173=0:=by kernel_rfl
theorem tyI176:tyI Tryz.prog 176=some (false,1):=by kernel_rfl
theorem tyKd176:tyKd Tryz.prog 176=3:=by kernel_rfl
theorem und176:(Tryz.prog.underlying 176).isSome=true:=by kernel_rfl
theorem tyZ176:tyZ Tryz.prog 176=some (.sc .nilFunc):=by kernel_rfl
theorem tyBd176:tyBd Tryz.prog 176=0:=by kernel_rfl
theorem tyI177:tyI Tryz.prog 177=some (false,1):=by kernel_rfl
theorem tyKd177:tyKd Tryz.prog 177=3:=by kernel_rfl
theorem und177:(Tryz.prog.underlying 177).isSome=true:=by kernel_rfl
theorem tyZ177:tyZ Tryz.prog 177=some (.sc .nilFunc):=by kernel_rfl
theorem tyBd177:tyBd Tryz.prog 177=0:=by kernel_rfl
theorem tyI182:tyI Tryz.prog 182=some (false,1):=by kernel_rfl
theorem tyKd182:tyKd Tryz.prog 182=3:=by kernel_rfl
theorem und182:(Tryz.prog.underlying 182).isSome=true:=by kernel_rfl
theorem tyZ182:tyZ Tryz.prog 182=some (.sc .nilFunc):=by kernel_rfl
theorem tyBd182:tyBd Tryz.prog 182=0:=by kernel_rfl
theorem tyI183:tyI Tryz.prog 183=some (false,1):=by kernel_rfl
theorem und183:(Tryz.prog.underlying 183).isSome=true:=by kernel_rfl
theorem tyZ183:tyZ Tryz.prog 183=some (.sc (.pointer none)):=by kernel_rfl
theorem tyBd183:tyBd Tryz.prog 183=0:=by kernel_rfl
theorem tyI191:tyI Tryz.prog 191=some (true,24):=by kernel_rfl
theorem tyAr191:tyAr Tryz.prog 191=some (24,5,1):=by kernel_rfl
theorem und191:(Tryz.prog.underlying 191).isSome=true:=by kernel_rfl
theorem tyZ191:tyZ Tryz.prog 191=some (.agg [nt .u8 0,nt .u8 0,nt .u8 0,nt .u8 0,nt .u8 0,nt .u8 0,nt .u8 0,nt .u8 0,nt .u8 0,nt .u8 0,nt .u8 0,nt .u8 0,nt .u8 0,nt .u8 0,nt .u8 0,nt .u8 0,nt .u8 0,nt .u8 0,nt .u8 0,nt .u8 0,nt .u8 0,nt .u8 0,nt .u8 0,nt .u8 0]):=by kernel_rfl
theorem tyBd191:tyBd Tryz.prog 191=0:=by kernel_rfl
theorem tyB191:tyB Tryz.prog 191=some ([nt .u8 0,nt .u8 0,nt .u8 0,nt .u8 0,nt .u8 0,nt .u8 0,nt .u8 0,nt .u8 0,nt .u8 0,nt .u8 0,nt .u8 0,nt .u8 0,nt .u8 0,nt .u8 0,nt .u8 0,nt .u8 0,nt .u8 0,nt .u8 0,nt .u8 0,nt .u8 0,nt .u8 0,nt .u8 0,nt .u8 0,nt .u8 0],[(0,1),(1,1),(2,1),(3,1),(4,1),(5,1),(6,1),(7,1),(8,1),(9,1),(10,1),(11,1),(12,1),(13,1),(14,1),(15,1),(16,1),(17,1),(18,1),(19,1),(20,1),(21,1),(22,1),(23,1)]):=by kernel_rfl
attribute [go_sem] tyI0 und0 tyBd0 tyI1 tyKd1 und1 tyZ1 tyBd1 tyI2 tyK2 und2 tyZ2 tyBd2 tyI3 tyK3 und3 tyZ3 tyBd3 tyZs3 kdE3 tyZero3 tyI4 tyIsBool4 und4 tyZ4 tyBd4 tyI5 tyK5 und5 tyZ5 tyBd5 tyZs5 kdE5 tyZero5 tyI6 tyK6 und6 tyZ6 tyBd6 tyI7 tyFd7x0 tyFd7x1 tyFd7x2 tyFd7x3 und7 tyZ7 tyBd7 tyB7 aggEq7 aggNe7 tyI8 tyFd8x0 tyFd8x1 tyFd8x2 tyFd8x3 und8 tyZ8 tyBd8 tyB8 aggEq8 aggNe8 tyI9 tyStr9 und9 tyZ9 tyBd9 tySrc9 tyZs9 kdE9 tyZero9 tyI10 tyStr10 und10 tyZ10 tyBd10 tySrc10 tyI11 tyStr11 und11 tyZ11 tyBd11 tySrc11 tyI12 tyK12 und12 tyZ12 tyBd12 tyI13 tyFd13x0 tyFd13x1 und13 tyZ13 tyBd13 tyB13 tyI14 tyFd14x0 tyFd14x1 und14 tyZ14 tyBd14 tyB14 tyI15 tyKd15 und15 tyZ15 tyBd15 tyI16 tyKd16 und16 tyZ16 tyBd16 tyI17 tyKd17 und17 tyZ17 tyBd17 tyI18 tyFd18x0 und18 tyZ18 tyBd18 tyB18 tyI19 tyFd19x0 und19 tyZ19 tyBd19 tyB19 tyI20 und20 tyZ20 tyBd20 tyI21 tyK21 und21 tyZ21 tyBd21 tyI22 tyEl22 tyKd22 und22 tyZ22 tyBd22 tySrc22 tyI23 tyFd23x0 tyFd23x1 und23 tyZ23 tyBd23 tyB23 tyI24 tyFd24x0 tyFd24x1 und24 tyZ24 tyBd24 tyZs24 kdE24 tyZero24 tyB24 tyI25 tyEl25 tyKd25 und25 tyZ25 tyBd25 tySrc25 tyI26 tyFd26x0 tyFd26x1 und26 tyZ26 tyBd26 tyB26 tyI27 tyFd27x0 tyFd27x1 und27 tyZ27 tyBd27 tyZs27 kdE27 tyZero27 tyB27 tyI28 tyKd28 und28 tyZ28 tyBd28 tyI29 tyKd29 und29 tyZ29 tyBd29 tyI30 tyKd30 und30 tyZ30 tyBd30 tyI31 tyKd31 und31 tyZ31 tyBd31 tyI32 tyK32 und32 tyZ32 tyBd32 tyI33 und33 tyBd33 tyI34 tyKd34 und34 tyZ34 tyBd34 tyI35 und35 tyBd35 tyI36 tyKd36 und36 tyZ36 tyBd36 tyI37 tyEl37 tyKd37 und37 tyZ37 tyBd37 tySrc37 tyI38 tyKd38 und38 tyZ38 tyBd38 tyI39 und39 tyBd39 tyI40 tyKd40 und40 tyZ40 tyBd40 tyI41 tyKd41 und41 tyZ41 tyBd41 tyI42 tyKd42 und42 tyZ42 tyBd42 tyI43 und43 tyBd43 tyI44 tyKd44 und44 tyZ44 tyBd44 tyI45 tyFd45x0 tyFd45x1 und45 tyZ45 tyBd45 tyB45 tyI46 tyFd46x0 tyFd46x1 und46 tyZ46 tyBd46 tyZs46 kdE46 tyZero46 tyB46 tyI47 tyKd47 und47 tyZ47 tyBd47 tyI48 tyKd48 und48 tyZ48 tyBd48 tyI49 tyKd49 und49 tyZ49 tyBd49 tyI50 tyKd50 und50 tyZ50 tyBd50 tyI51 tyKd51 und51 tyZ51 tyBd51 tyI52 tyKd52 und52 tyZ52 tyBd52 tyI53 tyKd53 und53 tyZ53 tyBd53 tyI54 tyKd54 und54 tyZ54 tyBd54 tyI55 tyKd55 und55 tyZ55 tyBd55 tyI56 tyKd56 und56 tyZ56 tyBd56 tyI57 tyEl57 tyKd57 und57 tyZ57 tyBd57 tySrc57 tyI58 tyKd58 und58 tyZ58 tyBd58 tyI59 tyKd59 und59 tyZ59 tyBd59 tyI60 tyKd60 und60 tyZ60 tyBd60 tyI61 tyKd61 und61 tyZ61 tyBd61 tyI62 tyEl62 tyKd62 und62 tyZ62 tyBd62 tySrc62 tyI63 tyFd63x0 tyFd63x1 und63 tyZ63 tyBd63 tyB63 tyI64 tyFd64x0 tyFd64x1 und64 tyZ64 tyBd64 tyZs64 kdE64 tyZero64 tyB64 tyI65 tyKd65 und65 tyZ65 tyBd65 tyI66 tyKd66 und66 tyZ66 tyBd66 tyI67 tyKd67 und67 tyZ67 tyBd67 tyI68 tyEl68 tyKd68 und68 tyZ68 tyBd68 tySrc68 tyI69 tyKd69 und69 tyZ69 tyBd69 tyI70 tyKd70 und70 tyZ70 tyBd70 tyI71 tyEl71 tyKd71 und71 tyZ71 tyBd71 tySrc71 tyZs71 kdE71 tyZero71 tyI72 tyKd72 und72 tyZ72 tyBd72 tyI73 tyKd73 und73 tyZ73 tyBd73 tyI74 tyKd74 und74 tyZ74 tyBd74 tyMk75 tyI75 und75 tyZ75 tyBd75 tyMz75 tyI76 tyKd76 und76 tyZ76 tyBd76 tyI77 tyKd77 und77 tyZ77 tyBd77 tyI78 tyKd78 und78 tyZ78 tyBd78 tyI79 tyKd79 und79 tyZ79 tyBd79 tyI80 tyKd80 und80 tyZ80 tyBd80 tyI81 tyKd81 und81 tyZ81 tyBd81 tyI82 tyFd82x0 tyFd82x1 und82 tyZ82 tyBd82 tyB82 aggEq82 aggNe82 tyI83 tyFd83x0 tyFd83x1 und83 tyZ83 tyBd83 tyB83 aggEq83 aggNe83 tyI84 tyKd84 und84 tyZ84 tyBd84 tyI85 tyKd85 und85 tyZ85 tyBd85 tyI86 tyFd86x0 tyFd86x1 tyFd86x2 tyFd86x3 und86 tyZ86 tyBd86 tyB86 aggEq86 aggNe86 tyI87 tyFd87x0 tyFd87x1 tyFd87x2 tyFd87x3 und87 tyZ87 tyBd87 tyB87 aggEq87 aggNe87 tyI88 tyKd88 und88 tyZ88 tyBd88 tyI89 tyKd89 und89 tyZ89 tyBd89 tyI90 tyKd90 und90 tyZ90 tyBd90 tyI91 tyKd91 und91 tyZ91 tyBd91 tyI92 tyKd92 und92 tyZ92 tyBd92 tyI93 tyKd93 und93 tyZ93 tyBd93 tyI94 tyKd94 und94 tyZ94 tyBd94 tyI95 tyKd95 und95 tyZ95 tyBd95 tyI96 tyKd96 und96 tyZ96 tyBd96 tyI97 tyKd97 und97 tyZ97 tyBd97 tyI98 tyKd98 und98 tyZ98 tyBd98 tyI99 tyK99 und99 tyZ99 tyBd99 tyI100 tyKd100 und100 tyZ100 tyBd100 tyI101 tyKd101 und101 tyZ101 tyBd101 tyI102 tyKd102 und102 tyZ102 tyBd102 tyI103 tyKd103 und103 tyZ103 tyBd103 tyI104 tyKd104 und104 tyZ104 tyBd104 tyI105 und105 tyBd105 tyI106 tyKd106 und106 tyZ106 tyBd106 tyI107 tyKd107 und107 tyZ107 tyBd107 tyI108 tyEl108 tyKd108 und108 tyZ108 tyBd108 tySrc108 tyI109 tyKd109 und109 tyZ109 tyBd109 tyI112 tyKd112 und112 tyZ112 tyBd112 tyI114 tyFd114x0 und114 tyZ114 tyBd114 tyB114 aggEq114 aggNe114 tyI115 tyKd115 und115 tyZ115 tyBd115 tyI117 tyEl117 tyKd117 und117 tyZ117 tyBd117 tySrc117 tyI119 tyKd119 und119 tyZ119 tyBd119 tyI120 tyKd120 und120 tyZ120 tyBd120 tyI121 tyEl121 tyKd121 und121 tyZ121 tyBd121 tySrc121 tyZs121 kdE121 tyZero121 tyI122 tyKd122 und122 tyZ122 tyBd122 tyI123 tyFd123x0 tyFd123x1 und123 tyZ123 tyBd123 tyB123 tyI124 tyFd124x0 tyFd124x1 und124 tyZ124 tyBd124 rawZ124 tyB124 tyI125 und125 tyZ125 tyBd125 tyI126 und126 tyZ126 tyBd126 tyI127 und127 tyBd127 tyI128 tyKd128 und128 tyZ128 tyBd128 tyI129 tyKd129 und129 tyZ129 tyBd129 tyI130 tyKd130 und130 tyZ130 tyBd130 tyI131 tyKd131 und131 tyZ131 tyBd131 tyI132 und132 tyBd132 tyI133 tyKd133 und133 tyZ133 tyBd133 tyI134 tyKd134 und134 tyZ134 tyBd134 tyI136 tyFd136x0 tyFd136x1 und136 tyZ136 tyBd136 tyZs136 kdE136 tyZero136 tyB136 aggEq136 aggNe136 tyI137 tyAr137 und137 tyZ137 tyBd137 tyB137 tyI141 tyK141 und141 tyZ141 tyBd141 tyI142 und142 tyBd142 tyI143 tyKd143 und143 tyZ143 tyBd143 tyI148 tyKd148 und148 tyZ148 tyBd148 tyI149 tyK149 und149 tyZ149 tyBd149 tyI150 tyKd150 und150 tyZ150 tyBd150 tyI151 tyK151 und151 tyZ151 tyBd151 tyI159 tyFd159x0 tyFd159x1 und159 tyZ159 tyBd159 tyZs159 kdE159 tyZero159 tyB159 tyI160 tyKd160 und160 tyZ160 tyBd160 tyI161 tyKd161 und161 tyZ161 tyBd161 tyI162 tyKd162 und162 tyZ162 tyBd162 tyI164 tyKd164 und164 tyZ164 tyBd164 tyI168 tyEl168 tyKd168 und168 tyZ168 tyBd168 tySrc168 tyI169 tyK169 und169 tyZ169 tyBd169 tyI173 tyKd173 und173 tyZ173 tyBd173 tyI176 tyKd176 und176 tyZ176 tyBd176 tyI177 tyKd177 und177 tyZ177 tyBd177 tyI182 tyKd182 und182 tyZ182 tyBd182 tyI183 und183 tyZ183 tyBd183 tyI191 tyAr191 und191 tyZ191 tyBd191 tyB191
theorem mix:Tryz.prog.follows .mixedOrders=true:=by kernel_rfl
end Go.Proofs.YtkbglbcphjmiiaaGreatDoor
