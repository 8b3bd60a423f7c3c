import Derived.Test.YtmadpbpmcbdboaaGreatS7
import Derived.Test.YtmadpbpmcbdboaaGreatS6
import Derived.Test.YtmadpbpmcbdboaaGreatS10
set_option linter.unusedSimpArgs false
set_option linter.unusedVariables false
namespace Go.Proofs.YtmadpbpmcbdboaaGreat
open Go.Ab
set_option maxRecDepth 100000
abbrev sA : ByteArray := ⟨#[97]⟩
abbrev sB : ByteArray := ⟨#[98]⟩
abbrev sX : ByteArray := ⟨#[120]⟩
abbrev sY : ByteArray := ⟨#[121]⟩
abbrev tA : Tm := .mk sA []
abbrev tB : Tm := .mk sB []
abbrev tX : Tm := .mk sX []
abbrev tY : Tm := .mk sY []
abbrev tM : Tm := .mk ⟨#[109]⟩ []
abbrev pOne : List Pr := [⟨sA, sA⟩, ⟨sB, sB⟩, ⟨sX, sX⟩, ⟨sY, sY⟩]
abbrev pP : List Pr := [⟨sA, sB⟩, ⟨sB, sA⟩, ⟨sX, sX⟩, ⟨sY, sY⟩]
abbrev pQ : List Pr := [⟨sA, sA⟩, ⟨sB, sB⟩, ⟨sX, sY⟩, ⟨sY, sX⟩]
theorem al_at1 : atF ⟨#[98, 44, 32, 102, 40, 97, 41]⟩ = [tB, .mk ⟨#[102]⟩ [tA]] := by kernel_rfl
theorem al_at2 : atF ⟨#[97, 44, 32, 102, 40, 98, 41]⟩ = [tA, .mk ⟨#[102]⟩ [tB]] := by kernel_rfl
theorem al_at3 : atF ⟨#[120, 44, 32, 121]⟩ = [tX, tY] := by kernel_rfl
theorem al_at4 : atF ⟨#[109, 44, 32, 103, 40, 120, 41]⟩ = [tM, .mk ⟨#[103]⟩ [tX]] := by kernel_rfl
theorem al_at5 : atF ⟨#[103, 40, 121, 41, 44, 32, 109]⟩ = [.mk ⟨#[103]⟩ [tY], tM] := by kernel_rfl
theorem al_at6 : atF sB = [tB] := by kernel_rfl
theorem al_at7 : atF sA = [tA] := by kernel_rfl
theorem al_at8 : atF ⟨#[102, 40, 97, 44, 32, 98, 41]⟩ = [.mk ⟨#[102]⟩ [tA, tB]] := by kernel_rfl
theorem al_at9 : atF ⟨#[97, 44, 32, 98]⟩ = [tA, tB] := by kernel_rfl
theorem al_st1 : stF pP [tB, .mk ⟨#[102]⟩ [tA]] = [tA, .mk ⟨#[102]⟩ [tB]] := by kernel_rfl
theorem al_jn1 : jntV (jntF pQ [tX, tY] [tM, .mk ⟨#[103]⟩ [tX]]) = .tup [.list false false (List.map eTm [.mk ⟨#[103]⟩ [tY], tM]), bl true] := by kernel_rfl
theorem al_ob1 : orbF [pOne, pP] [tB] = [[tA], [tB]] := by kernel_rfl
theorem al_cn1 : canF [pOne, pP] [tB] = ([tA], 1) := by kernel_rfl
theorem al_sb1 : [pOne, pP].filter (stbB [.mk ⟨#[102]⟩ [tA, tB]]) = [pOne] := by kernel_rfl
theorem al_sb2 : [pOne, pP].filter (stbB [tA, tB]) = [pOne, pP] := by kernel_rfl
theorem al_cl1 : closedF [pOne, pP] = true := by kernel_rfl
theorem al_cl2 : closedF [pP] = false := by kernel_rfl
set_option maxHeartbeats 16000000
theorem alive_ok : ACall Tryz.prog 10 [] (fun r => r = bl true) := by
  have a1 := (Atoms_ok ⟨#[98, 44, 32, 102, 40, 97, 41]⟩ (by decide)).frz
  have a2 := (Atoms_ok ⟨#[97, 44, 32, 102, 40, 98, 41]⟩ (by decide)).frz
  have a3 := (Atoms_ok ⟨#[120, 44, 32, 121]⟩ (by decide)).frz
  have a4 := (Atoms_ok ⟨#[109, 44, 32, 103, 40, 120, 41]⟩ (by decide)).frz
  have a5 := (Atoms_ok ⟨#[103, 40, 121, 41, 44, 32, 109]⟩ (by decide)).frz
  have a6 := (Atoms_ok sB (by decide)).frz
  have a7 := (Atoms_ok sA (by decide)).frz
  have a8 := (Atoms_ok ⟨#[102, 40, 97, 44, 32, 98, 41]⟩ (by decide)).frz
  have a9 := (Atoms_ok ⟨#[97, 44, 32, 98]⟩ (by decide)).frz
  rw [al_at1] at a1
  rw [al_at2] at a2
  rw [al_at3] at a3
  rw [al_at4] at a4
  rw [al_at5] at a5
  rw [al_at6] at a6
  rw [al_at7] at a7
  rw [al_at8] at a8
  rw [al_at9] at a9
  have s1 := (State_ok pP [tB, .mk ⟨#[102]⟩ [tA]] true false false false (by decide) (by decide)).frz
  rw [al_st1] at s1
  have j1 := Joint_ok pQ [tX, tY] [tM, .mk ⟨#[103]⟩ [tX]] true false false false false false (by decide) (by decide) (by decide) (by decide)
  rw [al_jn1] at j1
  have o1 := (Orbit_ok [pOne, pP] [tB] true false false false (by decide) (by decide) (by decide)).frz
  rw [al_ob1] at o1
  have c1 := Canon_ok [pOne, pP] [tB] true false false false (by decide) (by decide) (by decide)
  rw [al_cn1] at c1
  have b1 := (Stabilizer_ok [pOne, pP] [.mk ⟨#[102]⟩ [tA, tB]] true false false (by decide) (by decide) (by decide) (by decide)).frz
  rw [al_sb1] at b1
  have b2 := (Stabilizer_ok [pOne, pP] [tA, tB] true false false (by decide) (by decide) (by decide) (by decide)).frz
  rw [al_sb2] at b2
  have k1 := Closed_ok [pOne, pP] true false (by decide) (by decide)
  rw [al_cl1] at k1
  have k2 := Closed_ok [pP] true false (by decide) (by decide)
  rw [al_cl2] at k2
  have t1 := plainTermsD_ok [tA, .mk ⟨#[102]⟩ [tB]] [tA, .mk ⟨#[102]⟩ [tB]] false false false false
  have t2 := plainTermsD_ok [.mk ⟨#[103]⟩ [tY], tM] [.mk ⟨#[103]⟩ [tY], tM] false false false false
  have t3 := plainTermsD_ok [tA] [tA] false false false false
  rw [decide_eq_true rfl] at t1 t2 t3
  refine acall_of_awp Tryz.func10 Tryz.call10 rfl (by simp [Tryz.ntmps10]) ?_; simp only [Tryz.ntmps10, Tryz.results10]
  repeat' (first | (refine awK fun _ _ => ?_) | refine Hide.go (by assumption) ?_ | refine end_ret [] ?_; simp [go_sem] | (fail_if_success with_reducible (refine Owe.mk ?_)); (simp (disch := omega) [go_sem]) | refine stepK_is rfl (a1) (by first | (simp; done) | (simp [go_sem]; done)) ?_ | refine stepK_is rfl (a2) (by first | (simp; done) | (simp [go_sem]; done)) ?_ | refine stepK_is rfl (a3) (by first | (simp; done) | (simp [go_sem]; done)) ?_ | refine stepK_is rfl (a4) (by first | (simp; done) | (simp [go_sem]; done)) ?_ | refine stepK_is rfl (a5) (by first | (simp; done) | (simp [go_sem]; done)) ?_ | refine stepK_is rfl (a6) (by first | (simp; done) | (simp [go_sem]; done)) ?_ | refine dstepK_is rfl (a7) rfl (by first | (simp; done) | (simp [go_sem]; done)) ?_ | refine dstepK_is rfl (a8) rfl (by first | (simp; done) | (simp [go_sem]; done)) ?_ | refine dstepK_is rfl (a9) rfl (by first | (simp; done) | (simp [go_sem]; done)) ?_ | refine stepK_is rfl (s1) (by first | (simp; done) | (simp [go_sem]; done)) ?_ | refine stepK_is rfl (j1) (by first | (simp; done) | (simp [go_sem]; done)) ?_ | refine stepK_is rfl (o1) (by first | (simp; done) | (simp [go_sem]; done)) ?_ | refine stepK_is rfl (c1) (by first | (simp; done) | (simp [go_sem]; done)) ?_ | refine dstepK_is rfl (b1) rfl (by first | (simp; done) | (simp [go_sem]; done)) ?_ | refine dstepK_is rfl (b2) rfl (by first | (simp; done) | (simp [go_sem]; done)) ?_ | refine dstepK_is rfl (k1) rfl (by first | (simp; done) | (simp [go_sem]; done)) ?_ | refine dstepK_is rfl (k2) rfl (by first | (simp; done) | (simp [go_sem]; done)) ?_ | refine stepK_is rfl (t1) (by first | (simp; done) | (simp [go_sem]; done)) ?_ | refine stepK_is rfl (t2) (by first | (simp; done) | (simp [go_sem]; done)) ?_ | refine dstepK_is rfl (t3) rfl (by first | (simp; done) | (simp [go_sem]; done)) ?_ | refine awp_draw 44 mix (by decide +kernel) ?_)
theorem OrbitClosed_ok (g : List (List Pr)) (_ : True) : ACall Tryz.prog 5 [.list false false (g.map eG)] (fun r => r = bl true) := OrbitClosed_of alive_ok g false
end Go.Proofs.YtmadpbpmcbdboaaGreat
