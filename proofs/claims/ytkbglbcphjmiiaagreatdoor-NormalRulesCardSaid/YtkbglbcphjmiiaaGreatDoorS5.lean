import Derived.Test.YtkbglbcphjmiiaaGreatDoorS4
import Derived.Test.YtkbglbcphjmiiaaGreatDoorS3
import Derived.Test.YtkbglbcphjmiiaaGreatDoorA5
import Derived.Test.YtkbglbcphjmiiaaGreatDoorS2
set_option linter.unusedSimpArgs false
set_option linter.unusedVariables false
namespace Go.Proofs.YtkbglbcphjmiiaaGreatDoor
open Go.Ab
set_option maxRecDepth 100000
set_option maxHeartbeats 8000000
theorem write_leaf (s:ByteArray) (hb:s.size≤3000000) (c:UInt8) (r:List UInt8) (h0:bytesS s=c::r) (ts:List Tm) (h:ts.length=0):MCall Tryz.prog 132 [.ptr 1000 0 0,eT (.mk s ts)] bNew (fun r' o'=>r'= .tup []∧o'=bOut (c::r)):=by
 refine mcall_of_awpL Tryz.func132 Tryz.call132 rfl (by simp[Tryz.ntmps132]) ?_;simp only[Tryz.ntmps132,Tryz.results132]
 repeat' (first|(refine awK fun _ _=>?_)|refine zHg ?_|(fail_if_success with_reducible refine Owe.mk ?_);(simp(disch:=omega) [go_sem]))
 refine stepK_fis [] [] 10000 _ _ (Fits.mk' (by simp[go_sem]) (by simp[go_sem])) (by simp[go_sem]) (by simp[go_sem]) (WriteString_new s (by omega) c r h0) (by simp[go_sem]) (by simp[go_sem]) ?_
 repeat' (first|(refine awK fun _ _=>?_)|refine zHg ?_|(fail_if_success with_reducible refine Owe.mk ?_);(simp(disch:=omega) [go_sem,h]))
 refine endL_ret ⟨34,[],bOut (c::r)⟩ [] (Le.renSub [(11001,1001),(1001,11001)] [(1001,11001),(11001,1001)] (by simp[go_sem]) (by simp[go_sem]) (Le.sub4 rfl (by simp[go_sem]))) (by simp[go_sem]) ⟨rfl,rfl⟩
theorem write_empty (s:ByteArray) (h0:bytesS s= []) (ts:List Tm) (h:ts.length=0):MCall Tryz.prog 132 [.ptr 1000 0 0,eT (.mk s ts)] bNew (fun r' o'=>r'= .tup []∧o'=bNil):=by
 refine mcall_of_awpL Tryz.func132 Tryz.call132 rfl (by simp[Tryz.ntmps132]) ?_;simp only[Tryz.ntmps132,Tryz.results132]
 repeat' (first|(refine awK fun _ _=>?_)|refine zHg ?_|(fail_if_success with_reducible refine Owe.mk ?_);(simp(disch:=omega) [go_sem]))
 refine stepK_fis [] [] 10000 _ _ (Fits.mk' (by simp[go_sem]) (by simp[go_sem])) (by simp[go_sem]) (by simp[go_sem]) (WriteString_none s h0) (by simp[go_sem]) (by simp[go_sem]) ?_
 repeat' (first|(refine awK fun _ _=>?_)|refine zHg ?_|(fail_if_success with_reducible refine Owe.mk ?_);(simp(disch:=omega) [go_sem,h]))
 refine endL_ret ⟨34,[],bNil⟩ [] (Le.renSub [] [] (by simp[go_sem]) (by simp[go_sem]) (Le.sub4 rfl (by simp[go_sem]))) (by simp[go_sem]) ⟨rfl,rfl⟩
theorem write_named (s:ByteArray) (ts:List Tm) (h:ts.length≠0) (c:UInt8) (r:List UInt8) (h0:bytesS s=c::r) (hb:(txt (.mk s ts)).length≤3000000):MCall Tryz.prog 132 [.ptr 1000 0 0,eT (.mk s ts)] bNew (fun r' o'=>r'= .tup []∧o'=bOut (txt (.mk s ts))):=by
 have ih: ∀u∈ts,∀l:List UInt8,l.length+(txt u).length≤3000000→MCall Tryz.prog 132 [.ptr 1000 0 0,eT u] (bBuf l) (fun r o'=>r= .tup []∧o'=bOut (l++txt u)):=fun u _ l hl=>write_buf u l hl
 rw[txt_mk,if_neg h]at*
 have hsl:=bytesS_len s
 simp only[List.length_append,List.length_cons,List.length_nil]at hb
 have hq:=txtS_len1 ts
 have hall:=tlS_all ts
 rw[←hall]at hb hq ⊢
 have hle: ∀i,(tlS ts i).length≤(tlS ts ts.length).length:=fun i=>by rw[hall];exact tlS_le ts i
 have hge: ∀(i:Nat) (h:i<ts.length),(txt ts[i]).length≤(tlS ts ts.length).length:=fun i h=>by rw[hall];exact txtS_get h
 clear hall
 rw[h0]at hb hsl ⊢
 have hP:(c::r).length=s.size:=hsl
 refine mcall_of_awpL Tryz.func132 Tryz.call132 rfl (by simp[Tryz.ntmps132]) ?_;simp only[Tryz.ntmps132,Tryz.results132]
 repeat' (first|(refine awK fun _ _=>?_)|refine zHg ?_|(fail_if_success with_reducible refine Owe.mk ?_);(simp(disch:=omega) [go_sem]))
 refine stepK_fis [] [] 10000 _ _ (Fits.mk' (by simp[go_sem]) (by simp[go_sem])) (by simp[go_sem]) (by simp[go_sem]) (WriteString_new s (by omega) c r h0) (by simp[go_sem]) (by simp[go_sem]) ?_
 generalize hp:c::r=p at*
 clear hp
 repeat' (first|(refine awK fun _ _=>?_)|refine zHg ?_|(fail_if_success with_reducible refine Owe.mk ?_);(simp(disch:=omega) [go_sem,h]))
 refine stepK_fis [(1001,11001)] [(11001,1001),(1001,11001)] 20000 _ _ (Fits.mk' (by simp[go_sem]) (by simp[go_sem])) (by simp[go_sem]) (by simp[go_sem]) (WriteByte_buf p 40 (by omega)) (by simp[go_sem]) (by simp[go_sem]) ?_
 repeat' (first|(refine awK fun _ _=>?_)|refine zHg ?_|(fail_if_success with_reducible refine Owe.mk ?_);(simp(disch:=omega) [go_sem,h]))
 refine awp_for [0,17,18] [1000,1001,11001,21001] (fun i:Nat=> [(19,nt .i64 i)]) (fun i:Nat=> [(1000,bBox (.ptr 1000 0 0) (.ref 1001 0 (p++40::tlS ts i).length)),(1001,⟨true,false,false,1,(p++40::tlS ts i).map bAV,7⟩)]) (fun i:Nat=>ts.length - i) (fun i:Nat=>i≤ts.length) (0) (Le.renSub [(21001,1001),(1001,21001)] [(1001,21001),(21001,1001)] (by simp[go_sem,tlS_zero]) (by simp[go_sem,tlS_zero]) (Le.sub4 rfl (by simp[go_sem,tlS_zero]))) ⟨?_⟩ ?_
 ·exact Nat.zero_le _
 intro i hi AA hAA;simp only[kL,Nat.reduceBEq,Nat.reduceEqDiff,if_true,if_false,List.cons_append,List.nil_append,List.append_nil]
 by_cases hlt:i<ts.length
 ·have hu:=ih ts[i] (List.getElem_mem hlt)
  have hl1:=hle i
  have hl2:=hge i hlt
  have hl3:=hle (i+1)
  by_cases hi0:i=0
  ·subst hi0
   have hn:=tlS_one hlt
   have hl4:=congrArg List.length hn
   rw[show 0+1=1 from rfl]at hl3
   have hu:=hu (p++40::tlS ts 0) (by simp only[List.length_append,List.length_cons,tlS_zero,List.length_nil]at*;omega)
   repeat' (first|(refine awK fun _ _=>?_)|refine zHg ?_|(fail_if_success with_reducible refine Owe.mk ?_);(simp(disch:=omega) [go_sem,hlt]))
   refine stepK_fis [] [] 30000 _ _ (Fits.mk' (by simp[go_sem]) (by simp[go_sem])) (by simp[go_sem]) (by simp[go_sem]) (hu) (by simp[go_sem]) (by simp[go_sem]) ?_
   repeat' (first|refine zHg ?_|refine(hAA.next (0+1) (Le.renSub [(31001,1001),(1001,31001)] [(1001,31001),(31001,1001)] (by simp[go_sem,tlS_zero,hn]) (by simp[go_sem,tlS_zero,hn]) (Le.sub4 rfl (by simp[go_sem,tlS_zero,hn]))) (by(try dsimp only);omega) ?_)|(fail_if_success with_reducible refine Owe.mk ?_);(simp(disch:=omega) [go_sem,hlt]))
   exact⟨by omega⟩
  ·have hn:=tlS_next hlt (by omega)
   have hl4:=congrArg List.length hn
   simp only[List.length_append,List.length_cons]at hl4
   have hu:=hu (p++40::tlS ts i++ [44]) (by simp only[List.length_append,List.length_cons,List.length_nil]at*;omega)
   have hi1:(0:Int)<i:=by omega
   repeat' (first|(refine awK fun _ _=>?_)|refine zHg ?_|refine zqd ?_ ?_<;>(intro h;first|(exfalso;omega)|(simp only[h,zT]))|(fail_if_success with_reducible refine Owe.mk ?_);(simp(disch:=omega) [go_sem,hlt,hi1]))
   refine stepK_fis [] [] 30000 _ _ (Fits.mk' (by simp[go_sem]) (by simp[go_sem])) (by simp[go_sem]) (by simp[go_sem]) (WriteByte_buf (p++40::tlS ts i) 44 (by simp only[List.length_append,List.length_cons,List.length_nil]at*;omega)) (by simp[go_sem]) (by simp[go_sem]) ?_
   repeat' (first|refine zHg ?_|(fail_if_success with_reducible refine Owe.mk ?_);(simp(disch:=omega) [go_sem,hlt]))
   refine stepK_fis [(1001,31001)] [(31001,1001),(1001,31001)] 40000 _ _ (Fits.mk' (by simp[go_sem]) (by simp[go_sem])) (by simp[go_sem]) (by simp[go_sem]) (hu) (by simp[go_sem]) (by simp[go_sem]) ?_
   repeat' (first|refine zHg ?_|refine(hAA.next (i+1) (Le.renSub [(41001,1001),(1001,41001)] [(1001,41001),(41001,1001)] (by simp[go_sem,hn]) (by simp[go_sem,hn]) (Le.sub4 rfl (by simp[go_sem,hn]))) (by(try dsimp only);omega) ?_)|(fail_if_success with_reducible refine Owe.mk ?_);(simp(disch:=omega) [go_sem,hlt]))
   exact⟨by omega⟩
 ·obtain rfl:i=ts.length:=by omega
  repeat' (first|(refine awK fun _ _=>?_)|refine zHg ?_|(fail_if_success with_reducible refine Owe.mk ?_);(simp(disch:=omega) [go_sem]))
  refine stepK_fis [] [] 30000 _ _ (Fits.mk' (by simp[go_sem]) (by simp[go_sem])) (by simp[go_sem]) (by simp[go_sem]) (WriteByte_buf (p++40::tlS ts ts.length) 41 (by simp only[List.length_append,List.length_cons,List.length_nil]at*;omega)) (by simp[go_sem]) (by simp[go_sem]) ?_
  repeat' (first|(fail_if_success with_reducible refine Owe.mk ?_);(simp(disch:=omega) [go_sem]))
  refine endL_normal ⟨34,[],bOut (p++40::(tlS ts ts.length++ [41]))⟩ [] (Le.renSub [(31001,1001),(1001,31001)] [(1001,31001),(31001,1001)] (by simp[go_sem]) (by simp[go_sem]) (Le.sub4 rfl (by simp[go_sem]))) (by simp[go_sem]) ⟨rfl,rfl⟩
theorem write_unnamed (s:ByteArray) (ts:List Tm) (h:ts.length≠0) (h0:bytesS s= []) (hb:(txt (.mk s ts)).length≤3000000):MCall Tryz.prog 132 [.ptr 1000 0 0,eT (.mk s ts)] bNew (fun r' o'=>r'= .tup []∧o'=bOut (txt (.mk s ts))):=by
 have ih: ∀u∈ts,∀l:List UInt8,l.length+(txt u).length≤3000000→MCall Tryz.prog 132 [.ptr 1000 0 0,eT u] (bBuf l) (fun r o'=>r= .tup []∧o'=bOut (l++txt u)):=fun u _ l hl=>write_buf u l hl
 rw[txt_mk,if_neg h]at*
 simp only[List.length_append,List.length_cons,List.length_nil]at hb
 have hq:=txtS_len1 ts
 have hall:=tlS_all ts
 rw[←hall]at hb hq ⊢
 have hle: ∀i,(tlS ts i).length≤(tlS ts ts.length).length:=fun i=>by rw[hall];exact tlS_le ts i
 have hge: ∀(i:Nat) (h:i<ts.length),(txt ts[i]).length≤(tlS ts ts.length).length:=fun i h=>by rw[hall];exact txtS_get h
 clear hall
 rw[h0]at hb ⊢
 simp only[List.length_nil]at hb
 refine mcall_of_awpL Tryz.func132 Tryz.call132 rfl (by simp[Tryz.ntmps132]) ?_;simp only[Tryz.ntmps132,Tryz.results132]
 repeat' (first|(refine awK fun _ _=>?_)|refine zHg ?_|(fail_if_success with_reducible refine Owe.mk ?_);(simp(disch:=omega) [go_sem]))
 refine stepK_fis [] [] 10000 _ _ (Fits.mk' (by simp[go_sem]) (by simp[go_sem])) (by simp[go_sem]) (by simp[go_sem]) (WriteString_none s h0) (by simp[go_sem]) (by simp[go_sem]) ?_
 repeat' (first|(refine awK fun _ _=>?_)|refine zHg ?_|(fail_if_success with_reducible refine Owe.mk ?_);(simp(disch:=omega) [go_sem,h]))
 refine stepK_fis [] [] 20000 _ _ (Fits.mk' (by simp[go_sem]) (by simp[go_sem])) (by simp[go_sem]) (by simp[go_sem]) (WriteByte_nil 40) (by simp[go_sem]) (by simp[go_sem]) ?_
 repeat' (first|(refine awK fun _ _=>?_)|refine zHg ?_|(fail_if_success with_reducible refine Owe.mk ?_);(simp(disch:=omega) [go_sem,h]))
 refine awp_for [0,17,18] [1000,1001,11001,21001] (fun i:Nat=> [(19,nt .i64 i)]) (fun i:Nat=> [(1000,bBox (.ptr 1000 0 0) (.ref 1001 0 (([]:List UInt8)++40::tlS ts i).length)),(1001,⟨true,false,false,1,(([]:List UInt8)++40::tlS ts i).map bAV,7⟩)]) (fun i:Nat=>ts.length - i) (fun i:Nat=>i≤ts.length) (0) (Le.renSub [(21001,1001),(1001,21001)] [(1001,21001),(21001,1001)] (by simp[go_sem,tlS_zero]) (by simp[go_sem,tlS_zero]) (Le.sub4 rfl (by simp[go_sem,tlS_zero]))) ⟨?_⟩ ?_
 ·exact Nat.zero_le _
 intro i hi AA hAA;simp only[kL,Nat.reduceBEq,Nat.reduceEqDiff,if_true,if_false,List.cons_append,List.nil_append,List.append_nil]
 by_cases hlt:i<ts.length
 ·have hu:=ih ts[i] (List.getElem_mem hlt)
  have hl1:=hle i
  have hl2:=hge i hlt
  have hl3:=hle (i+1)
  by_cases hi0:i=0
  ·subst hi0
   have hn:=tlS_one hlt
   have hl4:=congrArg List.length hn
   rw[show 0+1=1 from rfl]at hl3
   have hu:=hu (([]:List UInt8)++40::tlS ts 0) (by simp only[List.length_append,List.length_cons,tlS_zero,List.length_nil]at*;omega)
   repeat' (first|(refine awK fun _ _=>?_)|refine zHg ?_|(fail_if_success with_reducible refine Owe.mk ?_);(simp(disch:=omega) [go_sem,hlt]))
   refine stepK_fis [] [] 30000 _ _ (Fits.mk' (by simp[go_sem]) (by simp[go_sem])) (by simp[go_sem]) (by simp[go_sem]) (hu) (by simp[go_sem]) (by simp[go_sem]) ?_
   repeat' (first|refine zHg ?_|refine(hAA.next (0+1) (Le.renSub [(31001,1001),(1001,31001)] [(1001,31001),(31001,1001)] (by simp[go_sem,tlS_zero,hn]) (by simp[go_sem,tlS_zero,hn]) (Le.sub4 rfl (by simp[go_sem,tlS_zero,hn]))) (by(try dsimp only);omega) ?_)|(fail_if_success with_reducible refine Owe.mk ?_);(simp(disch:=omega) [go_sem,hlt]))
   exact⟨by omega⟩
  ·have hn:=tlS_next hlt (by omega)
   have hl4:=congrArg List.length hn
   simp only[List.length_append,List.length_cons]at hl4
   have hu:=hu (([]:List UInt8)++40::tlS ts i++ [44]) (by simp only[List.length_append,List.length_cons,List.length_nil]at*;omega)
   have hi1:(0:Int)<i:=by omega
   repeat' (first|(refine awK fun _ _=>?_)|refine zHg ?_|refine zqd ?_ ?_<;>(intro h;first|(exfalso;omega)|(simp only[h,zT]))|(fail_if_success with_reducible refine Owe.mk ?_);(simp(disch:=omega) [go_sem,hlt,hi1]))
   refine stepK_fis [] [] 30000 _ _ (Fits.mk' (by simp[go_sem]) (by simp[go_sem])) (by simp[go_sem]) (by simp[go_sem]) (WriteByte_buf (([]:List UInt8)++40::tlS ts i) 44 (by simp only[List.length_append,List.length_cons,List.length_nil]at*;omega)) (by simp[go_sem]) (by simp[go_sem]) ?_
   repeat' (first|refine zHg ?_|(fail_if_success with_reducible refine Owe.mk ?_);(simp(disch:=omega) [go_sem,hlt]))
   refine stepK_fis [(1001,31001)] [(31001,1001),(1001,31001)] 40000 _ _ (Fits.mk' (by simp[go_sem]) (by simp[go_sem])) (by simp[go_sem]) (by simp[go_sem]) (hu) (by simp[go_sem]) (by simp[go_sem]) ?_
   repeat' (first|refine zHg ?_|refine(hAA.next (i+1) (Le.renSub [(41001,1001),(1001,41001)] [(1001,41001),(41001,1001)] (by simp[go_sem,hn]) (by simp[go_sem,hn]) (Le.sub4 rfl (by simp[go_sem,hn]))) (by(try dsimp only);omega) ?_)|(fail_if_success with_reducible refine Owe.mk ?_);(simp(disch:=omega) [go_sem,hlt]))
   exact⟨by omega⟩
 ·obtain rfl:i=ts.length:=by omega
  repeat' (first|(refine awK fun _ _=>?_)|refine zHg ?_|(fail_if_success with_reducible refine Owe.mk ?_);(simp(disch:=omega) [go_sem]))
  refine stepK_fis [] [] 30000 _ _ (Fits.mk' (by simp[go_sem]) (by simp[go_sem])) (by simp[go_sem]) (by simp[go_sem]) (WriteByte_buf (([]:List UInt8)++40::tlS ts ts.length) 41 (by simp only[List.length_append,List.length_cons,List.length_nil]at*;omega)) (by simp[go_sem]) (by simp[go_sem]) ?_
  repeat' (first|(fail_if_success with_reducible refine Owe.mk ?_);(simp(disch:=omega) [go_sem]))
  refine endL_normal ⟨34,[],bOut (([]:List UInt8)++40::(tlS ts ts.length++ [41]))⟩ [] (Le.renSub [(31001,1001),(1001,31001)] [(1001,31001),(31001,1001)] (by simp[go_sem]) (by simp[go_sem]) (Le.sub4 rfl (by simp[go_sem]))) (by simp[go_sem]) ⟨rfl,rfl⟩
theorem write_new (t:Tm) (hb:(txt t).length≤3000000) (hne:txt t≠ []):MCall Tryz.prog 132 [.ptr 1000 0 0,eT t] bNew (fun r' o'=>r'= .tup []∧o'=bOut (txt t)):=by
 obtain⟨s,ts⟩:=t
 have hsl:=bytesS_len s
 by_cases h:ts.length=0
 ·have e:txt (.mk s ts)=bytesS s:=by rw[txt_mk,if_pos h]
  rw[e]at hb hne ⊢
  rw[hsl]at hb
  cases h0:bytesS s with
  |nil=>exact absurd h0 hne
  |cons c r=>exact write_leaf s (by omega) c r h0 ts h
 ·cases h0:bytesS s with
  |nil=>exact write_unnamed s ts h h0 hb
  |cons c r=>exact write_named s ts h c r h0 hb
theorem write_nil (t:Tm) (he:txt t= []):MCall Tryz.prog 132 [.ptr 1000 0 0,eT t] bNew (fun r' o'=>r'= .tup []∧o'=bNil):=by
 obtain⟨s,ts⟩:=t
 by_cases h:ts.length=0
 ·have e:txt (.mk s ts)=bytesS s:=by rw[txt_mk,if_pos h]
  rw[e]at he
  exact write_empty s he ts h
 ·rw[txt_mk,if_neg h]at he
  simp at he
def txtB (t:Tm):ByteArray:=⟨(txt t).toArray⟩
theorem Text_ok (t:Tm) (hb:(txt t).length≤3000000):ACall Tryz.prog 93 [eT t] (fun r=>r= .sc (.string (txtB t))):=by
 unfold txtB
 by_cases h:txt t= []
 ·have hw:=write_nil t h
  rw[h]
  refine acall_of_awp Tryz.func93 Tryz.call93 rfl (by simp[Tryz.ntmps93]) ?_;simp only[Tryz.ntmps93,Tryz.results93]
  repeat' (first|(refine awK fun _ _=>?_)|refine zHg ?_|(fail_if_success with_reducible refine Owe.mk ?_);(simp(disch:=omega) [go_sem]))
  refine stepK_fis [(1000,3)] [(3,1000)] 10000 _ _ (Fits.mk' (by simp[go_sem]) (by simp[go_sem])) (by simp[go_sem]) (by simp[go_sem]) (hw) (by simp[go_sem]) (by simp[go_sem]) ?_
  repeat' (first|(refine awK fun _ _=>?_)|refine zHg ?_|(fail_if_success with_reducible refine Owe.mk ?_);(simp(disch:=omega) [go_sem]))
  refine stepK_fis [(1000,3)] [(3,1000)] 20000 _ _ (Fits.mk' (by simp[go_sem]) (by simp[go_sem])) (by simp[go_sem]) (by simp[go_sem]) (String_nil) (by simp[go_sem]) (by simp[go_sem]) ?_
  repeat' (first|refine zHg ?_|refine end_ret [] ?_;simp[go_sem]|(fail_if_success with_reducible refine Owe.mk ?_);(simp(disch:=omega) [go_sem]))
 ·have hw:=write_new t hb h
  generalize txt t=x at*
  refine acall_of_awp Tryz.func93 Tryz.call93 rfl (by simp[Tryz.ntmps93]) ?_;simp only[Tryz.ntmps93,Tryz.results93]
  repeat' (first|(refine awK fun _ _=>?_)|refine zHg ?_|(fail_if_success with_reducible refine Owe.mk ?_);(simp(disch:=omega) [go_sem]))
  refine stepK_fis [(1000,3)] [(3,1000)] 10000 _ _ (Fits.mk' (by simp[go_sem]) (by simp[go_sem])) (by simp[go_sem]) (by simp[go_sem]) (hw) (by simp[go_sem]) (by simp[go_sem]) ?_
  repeat' (first|(refine awK fun _ _=>?_)|refine zHg ?_|(fail_if_success with_reducible refine Owe.mk ?_);(simp(disch:=omega) [go_sem]))
  refine stepK_fis [(1000,3),(1001,11001)] [(3,1000),(11001,1001)] 20000 _ _ (Fits.mk' (by simp[go_sem]) (by simp[go_sem])) (by simp[go_sem]) (by simp[go_sem]) (String_buf x h (by omega)) (by simp[go_sem]) (by simp[go_sem]) ?_
  repeat' (first|refine zHg ?_|refine end_ret [] ?_;simp[go_sem]|(fail_if_success with_reducible refine Owe.mk ?_);(simp(disch:=omega) [go_sem]))
def mkS (l:List UInt8):ByteArray:=⟨l.toArray⟩
theorem mkS_bytes (s:ByteArray):mkS (bytesS s)=s:=by unfold mkS bytesS;rfl
def nc (b:UInt8):Prop:=b≠40∧b≠41∧b≠44
theorem nc_of {b:UInt8} (h:b.toNat≠40∧b.toNat≠41∧b.toNat≠44):nc b:=by
 refine⟨?_,?_,?_⟩<;>(rintro rfl;simp at h)
theorem bytes_bt {s:ByteArray} {b:UInt8} (h:b∈bytesS s): ∃i,i<s.size∧bt s i=b.toNat:=by
 obtain⟨i,hi,rfl⟩:=List.mem_iff_getElem.1 h
 refine⟨i,by rw[bytesS_len]at hi;exact hi,?_⟩
 unfold bt bytesS at*
 rw[List.getD_eq_getElem?_getD,List.getElem?_eq_getElem hi]
 rfl
theorem spell_facts {s:ByteArray} {p q r:Int×Int} (h:spellS s p q r=true):(1≤s.size∧s.size≤16)∧(p.1≤bt s 0∧bt s 0≤p.2)∧ ∀i,i<s.size→(p.1≤bt s i∧bt s i≤p.2)∨(q.1≤bt s i∧bt s i≤q.2)∨(r.1≤bt s i∧bt s i≤r.2):=by
 unfold spellS allS at h
 simp only[Bool.and_eq_true,decide_eq_true_eq,List.all_eq_true,List.mem_range,in1,in3]at h
 exact⟨h.1.1,h.1.2,h.2⟩
theorem name_word {s:ByteArray} (h:nameS s=true):(1≤s.size∧s.size≤16)∧(97≤bt s 0∧bt s 0≤122)∧ ∀b∈bytesS s,nc b:=by
 unfold nameS at h
 simp only[Bool.and_eq_true]at h
 have hs:=spell_facts h.1.1.1
 refine⟨hs.1,hs.2.1,fun b hb=>?_⟩
 obtain⟨i,hi,he⟩:=bytes_bt hb
 have:=hs.2.2 i hi
 exact nc_of (by dsimp only at this;omega)
theorem var_word {s:ByteArray} (h:varS s=true):(1≤s.size∧s.size≤16)∧(65≤bt s 0∧bt s 0≤90)∧ ∀b∈bytesS s,nc b:=by
 unfold varS at h
 have hs:=spell_facts h
 refine⟨hs.1,hs.2.1,fun b hb=>?_⟩
 obtain⟨i,hi,he⟩:=bytes_bt hb
 have:=hs.2.2 i hi
 exact nc_of (by dsimp only at this;omega)
theorem num_word {s:ByteArray} (h:(numS s).2=true):(1≤s.size∧s.size≤16)∧(48≤bt s 0∧bt s 0≤57)∧ ∀b∈bytesS s,nc b:=by
 unfold numS at h
 split at h
 ·rename_i hc
  obtain⟨⟨h1,h2,_⟩,hd⟩:=hc
  unfold digs at hd
  simp only[List.all_eq_true,List.mem_range,decide_eq_true_eq]at hd
  refine⟨by omega,hd 0 (by omega),fun b hb=>?_⟩
  obtain⟨i,hi,he⟩:=bytes_bt hb
  have:=hd i hi
  exact nc_of (by omega)
 ·cases h
theorem const_word {s:ByteArray} (h:constS s=true):(1≤s.size∧s.size≤16)∧(¬(65≤bt s 0∧bt s 0≤90))∧ ∀b∈bytesS s,nc b:=by
 unfold constS at h
 rw[Bool.or_eq_true]at h
 rcases h with h|h
 ·have:=name_word h;exact⟨this.1,by omega,this.2.2⟩
 ·have:=num_word h;exact⟨this.1,by omega,this.2.2⟩
theorem const_var {s:ByteArray} (h:constS s=true):varS s=false:=by
 cases hv:varS s with
 |false=>rfl
 |true=>exact absurd (var_word hv).2.1 (const_word h).2.1
def okr (r:List UInt8):Prop:=r= []∨(∃q,r=41::q)∨ ∃q,r=44::q
def stops (r:List UInt8):Prop:= ∀b q,r=b::q→ ¬nc b
theorem okr_stops {r:List UInt8} (h:okr r):stops r:=by
 rintro b q rfl hn
 rcases h with h|⟨q',h⟩|⟨q',h⟩
 ·cases h
 ·cases h;exact hn.2.1 rfl
 ·cases h;exact hn.2.2 rfl
theorem span_eq: ∀{a b x y:List UInt8},(∀c∈a,nc c)→(∀c∈b,nc c)→stops x→stops y→a++x=b++y→a=b∧x=y
 | [],[],_,_,_,_,_,_,h=>⟨rfl,h⟩
 | [],d::b,x,y,_,hb,hx,_,h=>absurd (hb d (by simp)) (hx d (b++y) h)
 |c::a,[],x,y,ha,_,_,hy,h=>absurd (ha c (by simp)) (hy c (a++x) h.symm)
 |c::a,d::b,x,y,ha,hb,hx,hy,h=>by
  simp only[List.cons_append,List.cons.injEq]at h
  obtain⟨rfl,h⟩:=h
  obtain⟨rfl,rfl⟩:=span_eq (fun c hc=>ha c (List.mem_cons_of_mem _ hc)) (fun c hc=>hb c (List.mem_cons_of_mem _ hc)) hx hy h
  exact⟨rfl,rfl⟩
theorem bytes_inj {s s':ByteArray} (h:bytesS s=bytesS s'):s=s':=by
 rw[←mkS_bytes s,←mkS_bytes s',h]
theorem with_word {lv:Int} {s:ByteArray} {ts:List Tm} (h:withT lv true (.mk s ts)=true):(∀c∈bytesS s,nc c)∧s.size≤16∧(ts.length≠0→withL (lv - 1) true ts=true):=by
 rw[withT_mk]at h
 split at h
 ·cases h
 ·split at h
  ·rename_i h0
   simp only[Bool.true_and,Bool.or_eq_true]at h
   rcases h with h|h
   ·have:=const_word h;exact⟨this.2.2,this.1.2,fun e=>absurd h0 e⟩
   ·have:=var_word h;exact⟨this.2.2,this.1.2,fun e=>absurd h0 e⟩
  ·rw[Bool.and_eq_true]at h
   have:=name_word h.1;exact⟨this.2.2,this.1.2,fun _=>h.2⟩
theorem txtS_inj {ts:List Tm}: ∀{us:List Tm} {lv lv':Int} {r r':List UInt8},
 (∀t∈ts,∀(u:Tm) (lv lv':Int) (r r':List UInt8),withT lv true t=true→withT lv' true u=true→okr r→okr r'→txt t++r=txt u++r'→t=u∧r=r')→
 withL lv true ts=true→withL lv' true us=true→txtS ts++41::r=txtS us++41::r'→ts=us∧r=r':=by
 induction ts with
 |nil=>
  intro us lv lv' r r' _ _ _ h
  cases us with
  |nil=>simp[txtS]at h;exact⟨rfl,h⟩
  |cons u us=>simp[txtS]at h
 |cons t ts ih2=>
  intro us lv lv' r r' ih h1 h2 h
  cases us with
  |nil=>simp[txtS]at h
  |cons u us=>
   simp only[withL,Bool.and_eq_true]at h1 h2
   simp only[txtS,List.cons_append,List.append_assoc,List.cons.injEq,true_and]at h
   have hok: ∀(l:List Tm) (q:List UInt8),okr (txtS l++41::q):=fun l q=>by
    cases l with
    |nil=>exact .inr (.inl ⟨q,rfl⟩)
    |cons v l=>exact .inr (.inr ⟨txt v++txtS l++41::q,by simp[txtS]⟩)
   obtain⟨rfl,he⟩:=ih t (by simp) u lv lv' _ _ h1.1 h2.1 (hok _ _) (hok _ _) h
   obtain⟨rfl,rfl⟩:=ih2 (fun v hv=>ih v (List.mem_cons_of_mem _ hv)) h1.2 h2.2 he
   exact⟨rfl,rfl⟩
theorem tail_cons {ts:List Tm} (h:ts.length≠0):txtS ts=44::(txtS ts).tail:=by
 cases ts with
 |nil=>simp at h
 |cons t r=>rfl
theorem txt_inj_of: ∀t:Tm,∀(u:Tm) (lv lv':Int) (r r':List UInt8),withT lv true t=true→withT lv' true u=true→okr r→okr r'→txt t++r=txt u++r'→t=u∧r=r':=by
 refine tm_ind fun t ih u lv lv' r r' h1 h2 hr hr' h=>?_
 obtain⟨s,ts⟩:=t
 obtain⟨s',us⟩:=u
 simp only[args_mk]at ih
 have w1:=with_word h1
 have w2:=with_word h2
 rw[txt_mk,txt_mk]at h
 have st: ∀x:List UInt8,stops (40::x):=fun x b q e hn=>by cases e;exact hn.1 rfl
 by_cases h0:ts.length=0
 ·rw[if_pos h0]at h
  have e0:=List.eq_nil_of_length_eq_zero h0
  subst e0
  by_cases k0:us.length=0
  ·rw[if_pos k0]at h
   have e0:=List.eq_nil_of_length_eq_zero k0
   subst e0
   obtain⟨e1,e2⟩:=span_eq w1.1 w2.1 (okr_stops hr) (okr_stops hr') h
   exact⟨by rw[bytes_inj e1],e2⟩
  ·rw[if_neg k0,List.append_assoc,List.cons_append]at h
   obtain⟨e1,e2⟩:=span_eq w1.1 w2.1 (okr_stops hr) (st _) h
   rcases hr with rfl|⟨q,rfl⟩|⟨q,rfl⟩<;>simp at e2
 ·rw[if_neg h0]at h
  by_cases k0:us.length=0
  ·rw[if_pos k0,List.append_assoc,List.cons_append]at h
   obtain⟨e1,e2⟩:=span_eq w1.1 w2.1 (st _) (okr_stops hr') h
   rcases hr' with rfl|⟨q,rfl⟩|⟨q,rfl⟩<;>simp at e2
  ·rw[if_neg k0,List.append_assoc,List.append_assoc,List.cons_append,List.cons_append]at h
   obtain⟨e1,e2⟩:=span_eq w1.1 w2.1 (st _) (st _) h
   simp only[List.cons.injEq,true_and,List.append_assoc,List.cons_append,List.nil_append]at e2
   have e3:txtS ts++41::r=txtS us++41::r':=by
    rw[tail_cons h0,tail_cons k0,List.cons_append,List.cons_append,e2]
   obtain⟨rfl,rfl⟩:=txtS_inj ih (w1.2.2 h0) (w2.2.2 k0) e3
   exact⟨by rw[bytes_inj e1],rfl⟩
theorem txt_inj {t u:Tm} {lv lv':Int} (h1:withT lv true t=true) (h2:withT lv' true u=true):txt t=txt u↔t=u:=by
 constructor
 ·intro h
  exact(txt_inj_of t u lv lv' [] [] h1 h2 (.inl rfl) (.inl rfl) (by rw[h])).1
 ·rintro rfl;rfl
theorem lvs_size: ∀t:Tm,(lvs t).length≤t.size:=by
 refine tm_ind fun t ih=>?_
 obtain⟨s,ts⟩:=t
 simp only[args_mk]at ih
 rw[lvs_mk,Tm.size]
 split
 ·simp
 ·rename_i h0;clear h0
  induction ts with
  |nil=>simp[lvsS]
  |cons u r ih2=>
   have h1:=ih u (by simp)
   have h2:=ih2 fun v hv=>ih v (List.mem_cons_of_mem _ hv)
   simp only[lvsS,sizeL,List.length_append];omega
theorem txt_size: ∀t:Tm,∀lv:Int,withT lv true t=true→(txt t).length+1≤20*t.size:=by
 refine tm_ind fun t ih lv h=>?_
 obtain⟨s,ts⟩:=t
 simp only[args_mk]at ih
 have w:=with_word h
 rw[txt_mk,Tm.size]
 have hs:=bytesS_len s
 split
 ·omega
 ·rename_i h0
  have hw:=w.2.2 h0
  have hS:(txtS ts).length≤20*sizeL ts:=by
   clear h0 h w
   induction ts with
   |nil=>simp[txtS]
   |cons u r ih2=>
    simp only[withL,Bool.and_eq_true]at hw
    have h1:=ih u (by simp) _ hw.1
    have h2:=ih2 (fun v hv=>ih v (List.mem_cons_of_mem _ hv)) hw.2
    simp only[txtS,sizeL,List.length_cons,List.length_append];omega
  have:=tail_cons h0
  have h3:(txtS ts).length=(txtS ts).tail.length+1:=by rw[this];rfl
  simp only[List.length_append,List.length_cons,List.length_nil]
  have:=w.2.1
  omega
def prmF {α:Type}:Nat→Nat→List α→List (List α)
 |0,_,l=> [l]
 |k+1,a,l=>(List.range (k+1)).flatMap fun d=>prmF k (a+1) (swp l a (a+d))
theorem mem_prmF {α:Type}: ∀(k a:Nat) (l m:List α),a+k=l.length→(m∈prmF k a l↔m.Perm l∧m.take a=l.take a)
 |0,a,l,m,h=>by
  rw[prmF,List.mem_singleton]
  constructor
  ·rintro rfl;exact⟨.refl _,rfl⟩
  ·rintro⟨h1,h2⟩
   have hml:=h1.length_eq
   rw[List.take_of_length_le (by omega),List.take_of_length_le (by omega)]at h2
   exact h2
 |k+1,a,l,m,h=>by
  have ha:a<l.length:=by omega
  rw[prmF,List.mem_flatMap]
  constructor
  ·rintro⟨d,hd,hm⟩
   rw[List.mem_range]at hd
   have hl:(swp l a (a+d)).length=l.length:=swp_len _ _ _
   obtain⟨h1,h2⟩:=(mem_prmF k (a+1) _ m (by omega)).1 hm
   have hk:Keep l (swp l a (a+d)) a l.length:=swp_keep ⟨Nat.le_refl _,ha⟩ ⟨by omega,by omega⟩
   refine⟨h1.trans hk.perm,?_⟩
   have h3:=congrArg (List.take a) h2
   rw[List.take_take,List.take_take,Nat.min_eq_left (by omega)]at h3
   rw[h3]
   refine List.ext_getElem? fun i=>?_
   rw[List.getElem?_take,List.getElem?_take]
   split
   ·exact hk.out i (.inl (by assumption))
   ·rfl
  ·rintro⟨h1,h2⟩
   have hml:=h1.length_eq
   have e1:=(List.take_append_drop a l).symm
   have e2:=(List.take_append_drop a m).symm
   have hp:(m.drop a).Perm (l.drop a):=by
    rw[e1,e2,h2]at h1
    exact(List.perm_append_left_iff _).1 h1
   have hma:a<m.length:=by omega
   have hx:m[a]∈l.drop a:=hp.mem_iff.1 (by rw[List.drop_eq_getElem_cons hma];exact List.mem_cons_self)
   obtain⟨d,hd,hde⟩:=List.mem_iff_getElem.1 hx
   rw[List.length_drop]at hd
   rw[List.getElem_drop]at hde
   have hk:Keep l (swp l a (a+d)) a l.length:=swp_keep ⟨Nat.le_refl _,ha⟩ ⟨by omega,by omega⟩
   have hl:(swp l a (a+d)).length=l.length:=swp_len _ _ _
   refine⟨d,List.mem_range.2 (by omega),(mem_prmF k (a+1) _ m (by omega)).2 ⟨h1.trans hk.perm.symm,?_⟩⟩
   have ha2:a<(swp l a (a+d)).length:=by omega
   rw[take_next hma,take_next ha2,h2]
   congr 1
   ·refine List.ext_getElem? fun i=>?_
    rw[List.getElem?_take,List.getElem?_take]
    split
    ·exact(hk.out i (.inl (by assumption))).symm
    ·rfl
   ·congr 1
    have h5:=swp_get (l:=l) (i:=a) (j:=a+d) ha (by omega) a
    rw[List.getElem?_eq_getElem ha2,List.getElem?_eq_getElem (by omega:a+d<l.length)]at h5
    rw[←hde]
    by_cases h0:a=a+d
    ·rw[if_pos h0,List.getElem?_eq_getElem ha]at h5
     have h6:=Option.some.inj h5
     rw[h6]
     simp only[show a+d=a from h0.symm]
    ·rw[if_neg h0,if_pos rfl]at h5
     rw[Option.some.inj h5]
mutual
def apT (s:List Bd):Tm→Tm
 | .mk n ts=>if ts.length=0∧varS n=true then(lookB s n).getD (.mk n ts)else .mk n (apL s ts)
def apL (s:List Bd):List Tm→List Tm
 | []=> []
 |t::r=>apT s t::apL s r
end
theorem apL_map {s:List Bd}: ∀{l:List Tm},apL s l=l.map (apT s)
 | []=>rfl
 |t::r=>by rw[apL,apL_map];rfl
theorem apT_mk {s:List Bd} {n:ByteArray} {ts:List Tm}:apT s (.mk n ts)=if ts.length=0∧varS n=true then(lookB s n).getD (.mk n ts)else .mk n (ts.map (apT s)):=by
 rw[apT,apL_map]
def apB (s:List Bd) (b:Lt):Lt:=⟨b.neg,apT s b.atom⟩
def apR (s:List Bd) (r:Rl):Rl:=⟨apT s r.head,r.body.map (apB s)⟩
def lkF (s:List Bd) (v:ByteArray):ByteArray:=match lookB s v with
 |some t=>t.name
 |none=>v
theorem apT_ren {s:List Bd} (hs: ∀b∈s,b.t.args= []): ∀t:Tm,apT s t=renT (lkF s) t:=by
 refine tm_ind fun t ih=>?_
 obtain⟨n,ts⟩:=t
 simp only[args_mk]at ih
 rw[apT_mk,renT_mk]
 by_cases h0:ts.length=0
 ·obtain rfl:=List.eq_nil_of_length_eq_zero h0
  by_cases hv:varS n=true
  ·rw[if_pos ⟨h0,hv⟩,if_pos h0,if_pos hv]
   unfold lkF
   cases hq:lookB s n with
   |none=>rfl
   |some t=>
    unfold lookB at hq
    obtain⟨b,hb,rfl⟩:=Option.map_eq_some_iff.1 hq
    have:=hs b (List.mem_of_find?_eq_some hb)
    show b.t= .mk b.t.name []
    rw[←this];cases b.t;rfl
  ·rw[if_neg (fun h=>hv h.2),if_pos h0,if_neg hv];rfl
 ·rw[if_neg (fun h=>h0 h.1),if_neg h0]
  congr 1
  exact List.map_congr_left fun u hu=>ih u hu
theorem apR_ren {s:List Bd} (hs: ∀b∈s,b.t.args= []) (r:Rl):apR s r=renR (lkF s) r:=by
 unfold apR renR apB renB
 rw[apT_ren hs]
 simp only[apT_ren hs]
def sbl (vs l:List ByteArray):List Bd:=List.zipWith (fun v n=>⟨v,.mk n []⟩) vs l
theorem sbl_args {vs l:List ByteArray}: ∀b∈sbl vs l,b.t.args= []:=by
 intro b hb
 unfold sbl at hb
 rw[List.mem_iff_getElem]at hb
 obtain⟨i,hi,rfl⟩:=hb
 rw[List.getElem_zipWith];rfl
theorem sbl_cons {v n:ByteArray} {vs l:List ByteArray}:sbl (v::vs) (n::l)=⟨v,.mk n []⟩::sbl vs l:=rfl
theorem lkF_cons {v n:ByteArray} {s:List Bd} {w:ByteArray}:lkF (⟨v,.mk n []⟩::s) w=if v=w then n else lkF s w:=by
 unfold lkF lookB
 rw[List.find?_cons]
 by_cases h:v=w<;>simp[h]
 rfl
theorem map_lkF: ∀{vs l:List ByteArray},vs.Nodup→vs.length=l.length→vs.map (lkF (sbl vs l))=l
 | [],[],_,_=>rfl
 | [],_::_,_,h=>by simp at h
 |_::_,[],_,h=>by simp at h
 |v::vs,n::l,hn,h=>by
  obtain⟨h1,h2⟩:=List.nodup_cons.1 hn
  rw[sbl_cons,List.map_cons,lkF_cons,if_pos rfl]
  congr 1
  rw[←map_lkF (l:=l) h2 (by simpa using h)]
  refine List.map_congr_left fun w hw=>?_
  rw[lkF_cons,if_neg (by rintro rfl;exact h1 hw),map_lkF h2 (by simpa using h)]
def cndR (r:Rl) (vs l:List ByteArray):Rl:=tidyR (apR (sbl vs l) r)
theorem isC_cnd {r:Rl} {vs:List ByteArray} (hv:vs.Perm (varsR r)) (x:Rl):IsC r x↔ ∃l,l.Perm (nmsN (varsR r).length)∧x=cndR r vs l:=by
 have hn:vs.Nodup:=hv.nodup_iff.2 (varsR_nodup r)
 constructor
 ·rintro⟨f,h1,h2⟩
  refine⟨vs.map f,(hv.map f).trans h1,?_⟩
  rw[h2]
  unfold cndR
  rw[apR_ren sbl_args]
  congr 1
  refine renR_congr fun v hm=>?_
  have h3:=map_lkF (l:=vs.map f) hn (by simp)
  exact(List.map_inj_left.1 h3 v (hv.mem_iff.2 hm)).symm
 ·rintro⟨l,h1,h2⟩
  have hl:vs.length=l.length:=by rw[h1.length_eq,nmsN_len,hv.length_eq]
  refine⟨lkF (sbl vs l),?_,?_⟩
  ·have h3:=map_lkF hn hl
   exact(hv.symm.map _).trans (by rw[h3];exact h1)
  ·rw[h2]
   unfold cndR
   rw[apR_ren sbl_args]
def zR:Rl:=⟨.mk ⟨#[]⟩ [],[]⟩
def minL (L:List Rl):Rl:=match L with
 | []=>zR
 |a::l=>minG rlC a l
theorem minL_uniq {A B:List Rl} (h: ∀x,x∈A↔x∈B):minL A=minL B:=by
 cases A with
 |nil=>
  cases B with
  |nil=>rfl
  |cons b m=>exact absurd ((h b).2 (by simp)) (by simp)
 |cons a l=>
  cases B with
  |nil=>exact absurd ((h a).1 (by simp)) (by simp)
  |cons b m=>exact min_uniq tot_R h
theorem minL_mem {A:List Rl} (h:A≠ []):minL A∈A:=by
 cases A with
 |nil=>exact absurd rfl h
 |cons a l=>
  rcases(minG_facts tot_R l a).1 with e|e
  ·show minG rlC a l∈_;rw[e];simp
  ·show minG rlC a l∈_;simp[e]
def svR (r:Rl):List ByteArray:=srtG strC (varsR r)
def nrmB (r:Rl):Rl:=minL ((prmF (varsR r).length 0 (nmsN (varsR r).length)).map (cndR r (svR r)))
theorem tot_S:Tot strC:=⟨strC_range,strC_neg,strC_TR,fun _ _=>strC_zero⟩
theorem svR_perm (r:Rl):(svR r).Perm (varsR r):=by
 refine perm_of_mem ((srtG_asc tot_S _).imp fun {a b} h=>?_) (varsR_nodup r) (srtG_mem tot_S _)
 rintro rfl
 rw[tot_S.self]at h;omega
theorem mem_cands {r:Rl} {x:Rl}:x∈(prmF (varsR r).length 0 (nmsN (varsR r).length)).map (cndR r (svR r))↔IsC r x:=by
 rw[isC_cnd (svR_perm r),List.mem_map]
 constructor
 ·rintro⟨l,h1,rfl⟩
  exact⟨l,((mem_prmF _ 0 _ _ (by rw[nmsN_len];omega)).1 h1).1,rfl⟩
 ·rintro⟨l,h1,rfl⟩
  exact⟨l,(mem_prmF _ 0 _ _ (by rw[nmsN_len];omega)).2 ⟨h1,rfl⟩,rfl⟩
theorem nrmB_congr {r r':Rl} (h: ∀x,IsC r x↔IsC r' x):nrmB r=nrmB r':=
 minL_uniq fun x=>by rw[mem_cands,mem_cands,h]
theorem nrmB_isC (r:Rl):IsC r (nrmB r):=by
 refine mem_cands.1 (minL_mem fun h=>?_)
 have:cndR r (svR r) (nmsN (varsR r).length)∈(prmF (varsR r).length 0 (nmsN (varsR r).length)).map (cndR r (svR r)):=
  List.mem_map.2 ⟨_,(mem_prmF _ 0 _ _ (by rw[nmsN_len];omega)).2 ⟨.refl _,rfl⟩,rfl⟩
 rw[h]at this
 simp at this
open Go.Ab
set_option maxRecDepth 100000
set_option maxHeartbeats 8000000
theorem ltC_if (a b:Lt):ltC a b=if a.neg=b.neg then cmpT a.atom b.atom else if b.neg=true then -1 else 1:=by
 obtain⟨p,t⟩:=a
 obtain⟨q,u⟩:=b
 unfold ltC
 cases p<;>cases q<;>simp[nb,ord,thn]
theorem cmpLit_ok (a b:Lt):ACall Tryz.prog 30 [eLt a,eLt b] (fun r=>r=nt .i64 (ltC a b)):=by
 have h:=Compare_ok a.atom b.atom
 rw[ltC_if]
 obtain⟨p,t⟩:=a
 obtain⟨q,u⟩:=b
 dsimp only at*
 generalize cmpT t u=c at*
 cases p<;>cases q<;>simp only[if_true,if_false,Bool.false_eq_true,Bool.true_eq_false]
 ·refine acall_of_awp Tryz.func30 Tryz.call30 rfl (by simp[Tryz.ntmps30]) ?_;simp only[Tryz.ntmps30,Tryz.results30]
  repeat' (first|(refine awK fun _ _=>?_)|refine zHg ?_|refine end_ret [] ?_;simp[go_sem]|refine stepK_is rfl (h) (by simp) ?_|(fail_if_success with_reducible refine Owe.mk ?_);(simp(disch:=omega) [go_sem]))
 ·refine acall_of_awp Tryz.func30 Tryz.call30 rfl (by simp[Tryz.ntmps30]) ?_;simp only[Tryz.ntmps30,Tryz.results30]
  repeat' (first|(refine awK fun _ _=>?_)|refine zHg ?_|refine end_ret [] ?_;simp[go_sem]|(fail_if_success with_reducible refine Owe.mk ?_);(simp(disch:=omega) [go_sem]))
 ·refine acall_of_awp Tryz.func30 Tryz.call30 rfl (by simp[Tryz.ntmps30]) ?_;simp only[Tryz.ntmps30,Tryz.results30]
  repeat' (first|(refine awK fun _ _=>?_)|refine zHg ?_|refine end_ret [] ?_;simp[go_sem]|(fail_if_success with_reducible refine Owe.mk ?_);(simp(disch:=omega) [go_sem]))
 ·refine acall_of_awp Tryz.func30 Tryz.call30 rfl (by simp[Tryz.ntmps30]) ?_;simp only[Tryz.ntmps30,Tryz.results30]
  repeat' (first|(refine awK fun _ _=>?_)|refine zHg ?_|refine end_ret [] ?_;simp[go_sem]|refine stepK_is rfl (h) (by simp) ?_|(fail_if_success with_reducible refine Owe.mk ?_);(simp(disch:=omega) [go_sem]))
theorem Or_ok (x y:Int) (le fu:Bool):ACall Tryz.prog 27 [.list le fu [nt .i64 x,nt .i64 y]] (fun r=>r=nt .i64 (thn x y)):=by
 generalize hV:thn x y=V
 unfold thn at hV
 refine acall_of_awp Tryz.func27 Tryz.call27 rfl (by simp[Tryz.ntmps27]) ?_;simp only[Tryz.ntmps27,Tryz.results27]
 repeat' (first|(refine awK fun _ _=>?_)|refine zHg ?_|(fail_if_success with_reducible refine Owe.mk ?_);(simp(disch:=omega) [go_sem]))
 refine awp_for [3,6,7] [] (fun i:Nat=> [(8,nt .i64 i)]) (fun i:Nat=> []) (fun i:Nat=>2 - i) (fun i:Nat=>i≤2∧(1≤i→x=0)∧(2≤i→y=0)) (0) (Le.sub4 rfl (by simp[go_sem])) ⟨?_⟩ ?_
 ·exact⟨by omega,fun h=>by omega,fun h=>by omega⟩
 intro i ⟨hi,h1,h2⟩ AA hAA;simp only[kL,Nat.reduceBEq,Nat.reduceEqDiff,if_true,if_false,List.cons_append,List.nil_append,List.append_nil]
 have hc:i=0∨i=1∨i=2:=by omega
 rcases hc with rfl|rfl|rfl
 ·by_cases hx:x=0
  ·subst hx
   repeat' (first|(refine awK fun _ _=>?_)|refine zHg ?_|refine(hAA.next (1) (Le.sub4 rfl (by simp[go_sem])) (by(try dsimp only);omega) ?_)|(fail_if_success with_reducible refine Owe.mk ?_);(simp(disch:=omega) [go_sem]))
   all_goals(first|omega|skip)
   all_goals exact⟨by omega,fun _=>rfl,fun h=>by omega⟩
  ·rw[if_pos hx]at hV
   subst hV
   repeat' (first|(refine awK fun _ _=>?_)|refine zHg ?_|refine end_ret [] ?_;simp[go_sem,hx]|(fail_if_success with_reducible refine Owe.mk ?_);(simp(disch:=omega) [go_sem,hx]))
 ·obtain rfl:=h1 (Nat.le_refl _)
  simp only[ne_eq,not_true_eq_false,if_false]at hV
  subst hV
  by_cases hy:y=0
  ·subst hy
   repeat' (first|(refine awK fun _ _=>?_)|refine zHg ?_|refine(hAA.next (2) (Le.sub4 rfl (by simp[go_sem])) (by(try dsimp only);omega) ?_)|(fail_if_success with_reducible refine Owe.mk ?_);(simp(disch:=omega) [go_sem]))
   all_goals(first|omega|skip)
   all_goals exact⟨by omega,fun _=>rfl,fun _=>rfl⟩
  ·repeat' (first|(refine awK fun _ _=>?_)|refine zHg ?_|refine end_ret [] ?_;simp[go_sem,hy]|(fail_if_success with_reducible refine Owe.mk ?_);(simp(disch:=omega) [go_sem,hy]))
 ·obtain rfl:=h1 (by omega)
  obtain rfl:=h2 (Nat.le_refl _)
  simp only[ne_eq,not_true_eq_false,if_false]at hV
  subst hV
  repeat' (first|(refine awK fun _ _=>?_)|refine zHg ?_|refine end_ret [] ?_;simp[go_sem]|(fail_if_success with_reducible refine Owe.mk ?_);(simp(disch:=omega) [go_sem]))
theorem lex_drop {α:Type} {c:α→α→Int} {a b:List α} {i:Nat} (ha:i<a.length) (hb:i<b.length):lexC c (a.drop i) (b.drop i)=thn (c a[i] b[i]) (lexC c (a.drop (i+1)) (b.drop (i+1))):=by
 rw[List.drop_eq_getElem_cons ha,List.drop_eq_getElem_cons hb,lexC_cons]
theorem CmpLits_ok (a b:List Lt) (le fu le' fu':Bool):ACall Tryz.prog 29 [.list le fu (a.map eLt),.list le' fu' (b.map eLt),.clo 30 []] (fun r=>r=nt .i64 (lexC ltC a b)):=by
 refine ACall.bound (i:=0) rfl Tryz.call29 fun hba=>?_
 refine ACall.bound (i:=1) rfl Tryz.call29 fun hbb=>?_
 rw[List.length_map]at hba hbb
 have hba:a.length≤140737488355328:=hba
 have hbb:b.length≤140737488355328:=hbb
 generalize hV:lexC ltC a b=V
 refine acall_of_awp Tryz.func29 Tryz.call29 rfl (by simp[Tryz.ntmps29]) ?_;simp only[Tryz.ntmps29,Tryz.results29]
 repeat' (first|(refine awK fun _ _=>?_)|refine zHg ?_|(fail_if_success with_reducible refine Owe.mk ?_);(simp(disch:=omega) [go_sem]))
 refine awp_for [0,1,2,11,12] [] (fun i:Nat=> [(13,nt .i64 i)]) (fun i:Nat=> []) (fun i:Nat=>a.length - i) (fun i:Nat=>i≤a.length∧i≤b.length∧lexC ltC (a.drop i) (b.drop i)=V) (0) (Le.sub4 rfl (by simp[go_sem])) ⟨?_⟩ ?_
 ·exact⟨Nat.zero_le _,Nat.zero_le _,hV⟩
 clear hV
 intro i ⟨hi,hj,hV⟩ AA hAA;simp only[kL,Nat.reduceBEq,Nat.reduceEqDiff,if_true,if_false,List.cons_append,List.nil_append,List.append_nil]
 by_cases hlt:i<a.length
 ·by_cases hjl:i<b.length
  ·have hc:=cmpLit_ok a[i] b[i]
   rw[lex_drop hlt hjl]at hV
   by_cases hz:ltC a[i] b[i]=0
   ·rw[hz]at hV hc
    repeat' (first|(refine awK fun _ _=>?_)|refine zHg ?_|refine zqd ?_ ?_<;>(intro h;first|(exfalso;omega)|(simp only[h,zT]))|refine stepK_is rfl (hc) (by simp) ?_|refine(hAA.next (i+1) (Le.sub4 rfl (by simp[go_sem])) (by(try dsimp only);omega) ?_)|(fail_if_success with_reducible refine Owe.mk ?_);(simp(disch:=omega) [go_sem,hlt,hjl]))
    all_goals(first|omega|skip)
    all_goals exact⟨hlt,hjl,by simpa[thn]using hV⟩
   ·have hV':ltC a[i] b[i]=V:=by rw[←hV];unfold thn;rw[if_pos hz]
    rw[hV']at hc hz
    clear hV hV'
    repeat' (first|(refine awK fun _ _=>?_)|refine zHg ?_|refine zqd ?_ ?_<;>(intro h;first|(exfalso;omega)|(simp only[h,zT]))|refine end_ret [] ?_;simp[go_sem,hlt,hjl,hz]|refine stepK_is rfl (hc) (by simp) ?_|(fail_if_success with_reducible refine Owe.mk ?_);(simp(disch:=omega) [go_sem,hlt,hjl,hz]))
  ·obtain rfl:i=b.length:=by omega
   rw[List.drop_length,List.drop_eq_getElem_cons hlt]at hV
   have hV:(1:Int)=V:=hV
   subst hV
   repeat' (first|(refine awK fun _ _=>?_)|refine zHg ?_|refine end_ret [] ?_;simp[go_sem,hlt,hjl]|(fail_if_success with_reducible refine Owe.mk ?_);(simp(disch:=omega) [go_sem,hlt,hjl]))
 ·obtain rfl:i=a.length:=by omega
  rw[List.drop_length]at hV
  by_cases hjl:a.length<b.length
  ·rw[List.drop_eq_getElem_cons hjl]at hV
   have hV:(-1:Int)=V:=hV
   subst hV
   repeat' (first|(refine awK fun _ _=>?_)|refine zHg ?_|refine end_ret [] ?_;simp[go_sem,hjl]|(fail_if_success with_reducible refine Owe.mk ?_);(simp(disch:=omega) [go_sem,hjl]))
  ·rw[List.drop_of_length_le (by omega)]at hV
   have hV:(0:Int)=V:=hV
   subst hV
   have hjl': ¬((a.length:Int)<b.length):=by omega
   repeat' (first|(refine awK fun _ _=>?_)|refine zHg ?_|refine end_ret [] ?_;simp[go_sem,hjl']|(fail_if_success with_reducible refine Owe.mk ?_);(simp(disch:=omega) [go_sem,hjl']))
abbrev eRlF (le fu:Bool) (x:Rl):AV:= .agg [.sc (.string x.head.name),.list false false (x.head.args.map eTm),.list le fu (x.body.map eLt)]
theorem cmpRl_ok (a b:Rl) (le fu le' fu':Bool):ACall Tryz.prog 12 [eRlF le fu a,eRlF le' fu' b] (fun r=>r=nt .i64 (rlC a b)):=by
 have h1:=Compare_ok a.head b.head
 have h2:=CmpLits_ok a.body b.body le fu le' fu'
 have h3:=Or_ok (cmpT a.head b.head) (lexC ltC a.body b.body) true false
 unfold rlC
 generalize thn (cmpT a.head b.head) (lexC ltC a.body b.body)=V at*
 generalize cmpT a.head b.head=x at*
 generalize lexC ltC a.body b.body=y at*
 refine acall_of_awp Tryz.func12 Tryz.call12 rfl (by simp[Tryz.ntmps12]) ?_;simp only[Tryz.ntmps12,Tryz.results12]
 have hlenT:True:=trivial
 repeat' (first|(refine awK fun _ _=>?_)|refine zHg ?_|refine end_ret [] ?_;simp[go_sem,hlenT]|refine dstepK_is rfl (h1) rfl (by simp) ?_|refine dstepK_is rfl (h2) rfl (by simp) ?_|refine stepK_is rfl (h3) (by simp) ?_|(fail_if_success with_reducible refine Owe.mk ?_);(simp(disch:=omega) [go_sem,hlenT])|refine zDr 10 mix ?_)
end Go.Proofs.YtkbglbcphjmiiaaGreatDoor
