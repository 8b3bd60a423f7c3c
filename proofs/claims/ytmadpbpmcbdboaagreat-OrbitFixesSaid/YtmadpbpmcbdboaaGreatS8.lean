import Derived.Test.YtmadpbpmcbdboaaGreatS1
import Derived.Shelf.SlGeneric
import Derived.Shelf.SlLaysF
import Derived.Ground.SlsfProg
import Derived.Test.YtmadpbpmcbdboaaGreatS5
import Derived.Shelf.SlSortCmp.Whole1
import Derived.Test.YtmadpbpmcbdboaaGreatS2
set_option linter.unusedSimpArgs false
set_option linter.unusedVariables false
namespace Go.Proofs.YtmadpbpmcbdboaaGreat
open Go.Shelf Go.Proofs
def Tryz.pdqS_ren : Go.Shelf.Ren := ⟨fun | 6 => 110 | 15 => 126 | 14 => 125 | 28 => 139 | 29 => 140 | 20 => 131 | 21 => 132 | 22 => 133 | 23 => 134 | 24 => 135 | 25 => 136 | 26 => 137 | 27 => 138 | 46 => 142 | 47 => 143 | 48 => 144 | 49 => 145 | 50 => 146 | 57 => 147 | n => n, fun | 22 => 68 | 24 => 9 | 25 => 99 | 3 => 3 | 39 => 92 | 0 => 0 | 53 => 138 | 55 => 140 | 4 => 4 | 46 => 132 | 45 => 131 | 50 => 63 | 5 => 5 | 9 => 9 | 66 => 141 | 70 => 145 | 76 => 147 | 77 => 148 | n => n, fun | n => n⟩
theorem Tryz.pdqS : Go.Proofs.SlLaysF.n6 Tryz.prog Tryz.pdqS_ren := {
  mixed := by kernel_rfl
  f6 := ⟨Tryz.f110.name, by decide, Tryz.func110.trans (congrArg some (by kernel_rfl))⟩
  f14 := ⟨Tryz.f125.name, by decide, Tryz.func125.trans (congrArg some (by kernel_rfl))⟩
  f15 := Tryz.func126.trans (congrArg some (by kernel_rfl))
  f20 := ⟨Tryz.f131.name, by decide, Tryz.func131.trans (congrArg some (by kernel_rfl))⟩
  f21 := ⟨Tryz.f132.name, by decide, Tryz.func132.trans (congrArg some (by kernel_rfl))⟩
  f22 := ⟨Tryz.f133.name, by decide, Tryz.func133.trans (congrArg some (by kernel_rfl))⟩
  f23 := ⟨Tryz.f134.name, by decide, Tryz.func134.trans (congrArg some (by kernel_rfl))⟩
  f24 := ⟨Tryz.f135.name, by decide, Tryz.func135.trans (congrArg some (by kernel_rfl))⟩
  f25 := ⟨Tryz.f136.name, by decide, Tryz.func136.trans (congrArg some (by kernel_rfl))⟩
  f26 := ⟨Tryz.f137.name, by decide, Tryz.func137.trans (congrArg some (by kernel_rfl))⟩
  f27 := ⟨Tryz.f138.name, by decide, Tryz.func138.trans (congrArg some (by kernel_rfl))⟩
  f28 := Tryz.func139.trans (congrArg some (by kernel_rfl))
  f29 := Tryz.func140.trans (congrArg some (by kernel_rfl))
  f46 := ⟨Tryz.f142.name, by decide, Tryz.func142.trans (congrArg some (by kernel_rfl))⟩
  f47 := Tryz.func143.trans (congrArg some (by kernel_rfl))
  f48 := Tryz.func144.trans (congrArg some (by kernel_rfl))
  f49 := ⟨Tryz.f145.name, by decide, Tryz.func145.trans (congrArg some (by kernel_rfl))⟩
  f50 := ⟨Tryz.f146.name, by decide, Tryz.func146.trans (congrArg some (by kernel_rfl))⟩
  f57 := ⟨Tryz.f147.name, by decide, Tryz.func147.trans (congrArg some (by kernel_rfl))⟩
  t0 := Tryz.underlying0
  a0 := Tryz.isAgg0
  z0 := Tryz.sizeOf0
  v0 := Tryz.zeroValue0
  t3 := Tryz.underlying3
  a3 := Tryz.isAgg3
  z3 := Tryz.sizeOf3
  v3 := Tryz.zeroValue3
  t4 := Tryz.underlying4
  a4 := Tryz.isAgg4
  z4 := Tryz.sizeOf4
  v4 := Tryz.zeroValue4
  t5 := Tryz.underlying5
  a5 := Tryz.isAgg5
  z5 := Tryz.sizeOf5
  v5 := Tryz.zeroValue5
  t9 := Tryz.underlying9
  a9 := Tryz.isAgg9
  z9 := Tryz.sizeOf9
  v9 := Tryz.zeroValue9
  t22 := Tryz.underlying68
  a22 := Tryz.isAgg68
  z22 := Tryz.sizeOf68
  v22 := Tryz.zeroValue68
  a24 := Tryz.isAgg9
  z24 := Tryz.sizeOf9
  t25 := Tryz.underlying99
  a25 := Tryz.isAgg99
  z25 := Tryz.sizeOf99
  v25 := Tryz.zeroValue99
  t39 := Tryz.underlying92
  a39 := Tryz.isAgg92
  z39 := Tryz.sizeOf92
  v39 := Tryz.zeroValue92
  t45 := Tryz.underlying131
  a45 := Tryz.isAgg131
  z45 := Tryz.sizeOf131
  v45 := Tryz.zeroValue131
  t46 := Tryz.underlying132
  a46 := Tryz.isAgg132
  z46 := Tryz.sizeOf132
  v46 := Tryz.zeroValue132
  t50 := Tryz.underlying63
  a50 := Tryz.isAgg63
  z50 := Tryz.sizeOf63
  v50 := Tryz.zeroValue63
  t53 := Tryz.underlying138
  a53 := Tryz.isAgg138
  z53 := Tryz.sizeOf138
  v53 := Tryz.zeroValue138
  t55 := Tryz.underlying140
  a55 := Tryz.isAgg140
  z55 := Tryz.sizeOf140
  v55 := Tryz.zeroValue140
  t66 := Tryz.underlying141
  a66 := Tryz.isAgg141
  z66 := Tryz.sizeOf141
  v66 := Tryz.zeroValue141
  t70 := Tryz.underlying145
  a70 := Tryz.isAgg145
  z70 := Tryz.sizeOf145
  v70 := Tryz.zeroValue145
  t76 := Tryz.underlying147
  a76 := Tryz.isAgg147
  z76 := Tryz.sizeOf147
  v76 := Tryz.zeroValue147
  t77 := Tryz.underlying148
  a77 := Tryz.isAgg148
  z77 := Tryz.sizeOf148
  v77 := Tryz.zeroValue148 }
open Go.Ab
set_option maxRecDepth 100000
set_option maxHeartbeats 8000000
theorem cmpS_neg (x y : ByteArray) : cmpS y x = -cmpS x y := cmp_neg _ _
theorem cmpS_self (x : ByteArray) : cmpS x x = 0 := cmp_self _
theorem cmpS_le {x y z : ByteArray} (h : cmpS x y ≤ 0) (k : cmpS y z ≤ 0) : cmpS x z ≤ 0 := cmp_pre.tr _ _ _ h k
theorem cmpS_lt {x y z : ByteArray} (h : cmpS x y < 0) (k : cmpS y z < 0) : cmpS x z < 0 := cmp_lt_le h (Int.le_of_lt k)
theorem cmpS_swo : Go.Sort.SWO (ltOf cmpS) where
  irrefl x := by unfold ltOf; rw [cmpS_self]; rfl
  trans x y z h1 h2 := by
    unfold ltOf at *
    simp only [decide_eq_true_eq] at *
    exact cmpS_lt h1 h2
  ntrans x y z h1 h2 := by
    unfold ltOf at *
    simp only [decide_eq_false_iff_not, Int.not_lt] at *
    have a := cmpS_neg x y
    have b := cmpS_neg y z
    have c := cmpS_neg x z
    have := cmpS_le (x := z) (y := y) (z := x) (by omega) (by omega)
    omega
theorem cmpS_zero (x y : ByteArray) : cmpS x y = 0 ↔ x = y := (cmp_zero _ _).trans ⟨fun h => congrArg Tm.name h, fun h => by rw [h]⟩
theorem constant_ok (s : ByteArray) : ACall Tryz.prog 108 [.sc (.string s)] (fun r => r = eT (.mk s [])) := by
  refine ACall.loose (x := .agg [.sc (.string s), .list false true []]) rfl ?_
  refine acall_of_awp Tryz.func108 Tryz.call108 rfl (by simp [Tryz.ntmps108]) ?_; simp only [Tryz.ntmps108, Tryz.results108]
  repeat' (first | (refine awK fun _ _ => ?_) | refine Hide.go (by assumption) ?_ | refine end_ret [] ?_; simp [go_sem] | (fail_if_success with_reducible (refine Owe.mk ?_)); (simp (disch := omega) [go_sem]))
theorem compare_ok (x y : ByteArray) : ACall Tryz.prog 89 [.sc (.string x), .sc (.string y)] (fun r => r = nt .i64 (cmpS x y)) := by
  have h1 := constant_ok x
  have h2 := constant_ok y
  have h3 := Compare_ok (.mk x []) (.mk y [])
  unfold cmpS
  generalize cmpT (.mk x []) (.mk y []) = c at *
  refine acall_of_awp Tryz.func89 Tryz.call89 rfl (by simp [Tryz.ntmps89]) ?_; simp only [Tryz.ntmps89, Tryz.results89]
  repeat' (first | (refine awK fun _ _ => ?_) | refine Hide.go (by assumption) ?_ | refine end_ret [] ?_; simp [go_sem] | refine stepK_is rfl (h1) (by simp) ?_ | refine stepK_is rfl (h2) (by simp) ?_ | refine stepK_is rfl (h3) (by simp) ?_ | (fail_if_success with_reducible (refine Owe.mk ?_)); (simp (disch := omega) [go_sem]))
theorem is_ok (s : ByteArray) : ACall Tryz.prog 88 [.sc (.string s)] (fun r => r = bl (constS s)) := by
  have h1 := Number_ok s
  have h2 := Name_ok s
  have hcs : constS s = (nameS s || (numS s).2) := rfl
  rw [hcs]
  generalize (numS s).1 = a at *
  generalize (numS s).2 = b at *
  generalize nameS s = c at *
  cases b
  · rw [Bool.or_false]
    refine acall_of_awp Tryz.func88 Tryz.call88 rfl (by simp [Tryz.ntmps88]) ?_; simp only [Tryz.ntmps88, Tryz.results88]
    repeat' (first | (refine awK fun _ _ => ?_) | refine Hide.go (by assumption) ?_ | refine end_ret [] ?_; simp [go_sem] | refine stepK_is rfl (h1) (by simp) ?_ | refine stepK_is rfl (h2) (by simp) ?_ | (fail_if_success with_reducible (refine Owe.mk ?_)); (simp (disch := omega) [go_sem]))
  · rw [Bool.or_true]
    refine acall_of_awp Tryz.func88 Tryz.call88 rfl (by simp [Tryz.ntmps88]) ?_; simp only [Tryz.ntmps88, Tryz.results88]
    repeat' (first | (refine awK fun _ _ => ?_) | refine Hide.go (by assumption) ?_ | refine end_ret [] ?_; simp [go_sem] | refine stepK_is rfl (h1) (by simp) ?_ | (fail_if_success with_reducible (refine Owe.mk ?_)); (simp (disch := omega) [go_sem]))
theorem refis_ok (s : ByteArray) : ACall Tryz.prog 63 [.sc (.string s)] (fun r => r = bl (constS s)) := by
  have h1 := refNumber_ok s
  have h2 := refName_ok s
  have hcs : constS s = (nameS s || (numS s).2) := rfl
  rw [hcs]
  generalize (numS s).1 = a at *
  generalize (numS s).2 = b at *
  generalize nameS s = c at *
  cases b
  · rw [Bool.or_false]
    refine acall_of_awp Tryz.func63 Tryz.call63 rfl (by simp [Tryz.ntmps63]) ?_; simp only [Tryz.ntmps63, Tryz.results63]
    repeat' (first | (refine awK fun _ _ => ?_) | refine Hide.go (by assumption) ?_ | refine end_ret [] ?_; simp [go_sem] | refine stepK_is rfl (h1) (by simp) ?_ | refine stepK_is rfl (h2) (by simp) ?_ | (fail_if_success with_reducible (refine Owe.mk ?_)); (simp (disch := omega) [go_sem]))
  · rw [Bool.or_true]
    refine acall_of_awp Tryz.func63 Tryz.call63 rfl (by simp [Tryz.ntmps63]) ?_; simp only [Tryz.ntmps63, Tryz.results63]
    repeat' (first | (refine awK fun _ _ => ?_) | refine Hide.go (by assumption) ?_ | refine end_ret [] ?_; simp [go_sem] | refine stepK_is rfl (h1) (by simp) ?_ | (fail_if_success with_reducible (refine Owe.mk ?_)); (simp (disch := omega) [go_sem]))
def idxB {α : Type} (cf : α → Bool) (l : List α) : Int := if l.findIdx cf < l.length then l.findIdx cf else -1
theorem idxB_at {α : Type} {cf : α → Bool} {l : List α} {i : Nat} (h : i < l.length) (he : cf l[i] = true) (hn : ∀ (k : Nat) (hk : k < l.length), k < i → cf l[k] = false) : idxB cf l = i := by
  have e : l.findIdx cf = i := by
    rw [List.findIdx_eq h]
    exact ⟨he, fun j hj => by simpa using hn j (by omega) hj⟩
  unfold idxB
  rw [e, if_pos h]
theorem idxB_none {α : Type} {cf : α → Bool} {l : List α} (hn : ∀ (k : Nat) (hk : k < l.length), k < l.length → cf l[k] = false) : idxB cf l = -1 := by
  unfold idxB
  rw [if_neg]
  intro h
  have := List.findIdx_getElem (w := h)
  rw [hn _ h h] at this
  cases this
theorem idxB_any {α : Type} {cf : α → Bool} {l : List α} : 0 ≤ idxB cf l ↔ l.any cf = true := by
  unfold idxB
  rw [List.any_eq_true]
  by_cases h : l.findIdx cf < l.length
  · rw [if_pos h]
    exact ⟨fun _ => List.findIdx_lt_length.1 h, fun _ => by omega⟩
  · rw [if_neg h]
    exact ⟨fun h => by omega, fun hh => absurd (List.findIdx_lt_length.2 hh) h⟩
theorem idxB_range {α : Type} {cf : α → Bool} {l : List α} : -1 ≤ idxB cf l ∧ idxB cf l < l.length := by
  unfold idxB
  split <;> omega
def plc (p : List Pr) (l : List Tm) (t : Tm) : Int := idxB (fun x => decide (cmpT x (tmP p t) = 0)) l
abbrev eI (i : Int) : AV := nt .i64 i
def rolV (p : List Pr) (l : List Tm) : AV := if ∀ t ∈ l, 0 ≤ plc p l t then .tup [.list false false ((l.map (plc p l)).map eI), bl true] else .tup [.list false true [], bl false]
theorem Roles1_ok (x u : Tm) : ACall Tryz.prog 70 [eT x, .iptr true [eT u] 0 0] (fun r => r = bl (decide (cmpT x u = 0))) := by
  have hc := Compare_ok x u
  generalize cmpT x u = c at *
  refine acall_of_awp Tryz.func70 Tryz.call70 rfl (by simp [Tryz.ntmps70]) ?_; simp only [Tryz.ntmps70, Tryz.results70]
  repeat' (first | (refine awK fun _ _ => ?_) | refine Hide.go (by assumption) ?_ | refine end_ret [] ?_; simp [go_sem] | refine stepK_is rfl (hc) (by simp) ?_ | (fail_if_success with_reducible (refine Owe.mk ?_)); (simp (disch := omega) [go_sem]))
theorem IndexRoles_ok (l : List Tm) (le fu : Bool) (u : Tm) (cf : Tm → Bool) (hcl : ∀ x ∈ l, ACall Tryz.prog 70 [eTm x, .iptr true [eT u] 0 0] (fun r => r = bl (cf x))) : ACall Tryz.prog 69 [.list le fu (l.map eTm), .clo 70 [.iptr true [eT u] 0 0]] (fun r => r = nt .i64 (idxB cf l)) := by
  refine ACall.bound (i := 0) rfl Tryz.call69 fun hb => ?_
  rw [List.length_map] at hb
  have hb : l.length ≤ 140737488355328 := hb
  generalize hR : idxB cf l = R
  refine acall_of_awp Tryz.func69 Tryz.call69 rfl (by simp [Tryz.ntmps69]) ?_; simp only [Tryz.ntmps69, Tryz.results69]
  repeat' (first | (refine awK fun _ _ => ?_) | refine Hide.go (by assumption) ?_ | (fail_if_success with_reducible (refine Owe.mk ?_)); (simp (disch := omega) [go_sem]))
  refine awp_for [0, 1, 7] [] (fun i : Nat => [(8, nt .i64 i)]) (fun i : Nat => []) (fun i : Nat => l.length - i) (fun i : Nat => i ≤ l.length ∧ ∀ (k : Nat) (hk : k < l.length), k < i → cf l[k] = false) (0) (Le.sub4 rfl (by simp [go_sem])) ⟨?_⟩ ?_
  · exact ⟨Nat.zero_le _, fun k _ hk => absurd hk (Nat.not_lt_zero _)⟩
  intro i ⟨hi, hn⟩ AA hAA; simp only [kL, Nat.reduceBEq, Nat.reduceEqDiff, if_true, if_false, List.cons_append, List.nil_append, List.append_nil]
  by_cases hlt : i < l.length
  · have hu := hcl l[i] (List.getElem_mem hlt)
    rw [eTm_eq] at hu
    cases hq : cf l[i]
    · rw [hq] at hu
      repeat' (first | (refine awK fun _ _ => ?_) | refine Hide.go (by assumption) ?_ | refine stepK_is rfl (hu) (by simp) ?_ | refine (hAA.next (i + 1) (Le.sub4 rfl (by simp [go_sem])) (by (try dsimp only); omega) ?_) | (fail_if_success with_reducible (refine Owe.mk ?_)); (simp (disch := omega) [go_sem, hlt]))
      all_goals (first | omega | skip)
      exact ⟨hlt, fun k hk hki => by rcases Nat.lt_or_eq_of_le (Nat.le_of_lt_succ hki) with h | rfl; exact hn k hk h; exact hq⟩
    · have he := idxB_at hlt hq hn
      rw [hR] at he
      subst he
      rw [hq] at hu
      repeat' (first | (refine awK fun _ _ => ?_) | refine Hide.go (by assumption) ?_ | refine end_ret [] ?_; simp [go_sem, hlt] | refine stepK_is rfl (hu) (by simp) ?_ | (fail_if_success with_reducible (refine Owe.mk ?_)); (simp (disch := omega) [go_sem, hlt]))
  · obtain rfl : i = l.length := by omega
    have he := idxB_none hn
    rw [hR] at he
    subst he
    repeat' (first | (refine awK fun _ _ => ?_) | refine Hide.go (by assumption) ?_ | refine end_ret [] ?_; simp [go_sem] | (fail_if_success with_reducible (refine Owe.mk ?_)); (simp (disch := omega) [go_sem]))
theorem rol_next {p : List Pr} {L l : List Tm} {i : Nat} (h : i < l.length) : (l.take (i + 1)).map (plc p L) = (l.take i).map (plc p L) ++ [plc p L l[i]] := by
  rw [List.take_add_one, List.getElem?_eq_getElem h, List.map_append]
  rfl
theorem Roles_ok (p : List Pr) (l : List Tm) (le fu lm fm : Bool) (hb : l.length ≤ 1000000) (hz : ∀ t ∈ l, t.size ≤ 1000000) :
    ACall Tryz.prog 33 [.list le fu (p.map ePr), .list lm fm (l.map eTm)] (fun r => r = rolV p l) := by
  unfold rolV
  by_cases hall : ∀ t ∈ l, 0 ≤ plc p l t
  · rw [if_pos hall]
    have hz0 : (l.take 0).map (plc p l) = [] := by simp
    refine acall_of_awp Tryz.func33 Tryz.call33 rfl (by simp [Tryz.ntmps33]) ?_; simp only [Tryz.ntmps33, Tryz.results33]
    repeat' (first | (refine awK fun _ _ => ?_) | refine Hide.go (by assumption) ?_ | (fail_if_success with_reducible (refine Owe.mk ?_)); (simp (disch := omega) [go_sem]))
    refine awp_for [0, 1, 11, 12] [900] (fun i : Nat => [(13, nt .i64 i), (6, .ref 900 0 i)]) (fun i : Nat => [(900, ⟨true, false, false, 1, ((l.take i).map (plc p l)).map eI, 0⟩)]) (fun i : Nat => l.length - i) (fun i : Nat => i ≤ l.length) (0) (by refine Le.trans ?_ (Le.nil (i := 6) (T := 900) (es := 1) rfl); exact (Le.sub4 rfl (by simp [go_sem, hz0, List.take_zero, List.map_nil]))) ⟨?_⟩ ?_
    · exact Nat.zero_le _
    intro i hi AA hAA; simp only [kL, Nat.reduceBEq, Nat.reduceEqDiff, if_true, if_false, List.cons_append, List.nil_append, List.append_nil]
    by_cases hlt : i < l.length
    · have hm := List.getElem_mem hlt
      have ht := Term_ok p le fu l[i] (hz _ hm)
      have hx := IndexRoles_ok l lm fm (tmP p l[i]) (fun x => decide (cmpT x (tmP p l[i]) = 0)) (fun x _ => by rw [eTm_eq]; exact Roles1_ok x _)
      have hp : 0 ≤ plc p l l[i] := hall _ hm
      have hnx := rol_next (p := p) (L := l) hlt
      have hln : ((l.take i).map (plc p l)).length = i := by simp; omega
      have hfold : idxB (fun x => decide (cmpT x (tmP p l[i]) = 0)) l = plc p l l[i] := rfl
      rw [hfold] at hx
      generalize plc p l l[i] = x at *
      generalize (l.take i).map (plc p l) = A at *
      generalize tmP p l[i] = u at *
      have hp' : ¬ x < 0 := by omega
      repeat' (first | (refine awK fun _ _ => ?_) | refine Hide.go (by assumption) ?_ | refine stepK_is rfl (ht) (by simp) ?_ | refine stepK_is rfl (hx) (by simp) ?_ | refine (hAA.next (i + 1) (Le.sub4 rfl (by simp [go_sem, hnx, hln])) (by (try dsimp only); omega) ?_) | (fail_if_success with_reducible (refine Owe.mk ?_)); (simp (disch := omega) [go_sem, hlt, hln, hp']) | refine And.intro (by omega) ?_)
      all_goals (first | omega | skip)
      exact ⟨hlt⟩
    · obtain rfl : i = l.length := by omega
      rw [List.take_length]
      repeat' (first | (refine awK fun _ _ => ?_) | refine Hide.go (by assumption) ?_ | refine end_ret [900] ?_; simp [go_sem] | (fail_if_success with_reducible (refine Owe.mk ?_)); (simp (disch := omega) [go_sem]))
  · rw [if_neg hall]
    have hz0 : (l.take 0).map (plc p l) = [] := by simp
    refine acall_of_awp Tryz.func33 Tryz.call33 rfl (by simp [Tryz.ntmps33]) ?_; simp only [Tryz.ntmps33, Tryz.results33]
    repeat' (first | (refine awK fun _ _ => ?_) | refine Hide.go (by assumption) ?_ | (fail_if_success with_reducible (refine Owe.mk ?_)); (simp (disch := omega) [go_sem]))
    refine awp_for [0, 1, 11, 12] [900] (fun i : Nat => [(13, nt .i64 i), (6, .ref 900 0 i)]) (fun i : Nat => [(900, ⟨true, false, false, 1, ((l.take i).map (plc p l)).map eI, 0⟩)]) (fun i : Nat => l.length - i) (fun i : Nat => i ≤ l.length ∧ ∀ t ∈ l.take i, 0 ≤ plc p l t) (0) (by refine Le.trans ?_ (Le.nil (i := 6) (T := 900) (es := 1) rfl); exact (Le.sub4 rfl (by simp [go_sem, hz0, List.take_zero, List.map_nil]))) ⟨?_⟩ ?_
    · exact ⟨Nat.zero_le _, by simp⟩
    intro i ⟨hi, hbe⟩ AA hAA; simp only [kL, Nat.reduceBEq, Nat.reduceEqDiff, if_true, if_false, List.cons_append, List.nil_append, List.append_nil]
    by_cases hlt : i < l.length
    · have hm := List.getElem_mem hlt
      have ht := Term_ok p le fu l[i] (hz _ hm)
      have hx := IndexRoles_ok l lm fm (tmP p l[i]) (fun x => decide (cmpT x (tmP p l[i]) = 0)) (fun x _ => by rw [eTm_eq]; exact Roles1_ok x _)
      have hnx := rol_next (p := p) (L := l) hlt
      have hbn : 0 ≤ plc p l l[i] → ∀ t ∈ l.take (i + 1), 0 ≤ plc p l t := fun h t ht => by
        rw [List.take_add_one, List.getElem?_eq_getElem hlt] at ht
        rcases List.mem_append.1 ht with h' | h'
        · exact hbe t h'
        · simp at h'; subst h'; exact h
      have hln : ((l.take i).map (plc p l)).length = i := by simp; omega
      have hfold : idxB (fun x => decide (cmpT x (tmP p l[i]) = 0)) l = plc p l l[i] := rfl
      rw [hfold] at hx
      generalize plc p l l[i] = x at *
      generalize (l.take i).map (plc p l) = A at *
      generalize tmP p l[i] = u at *
      by_cases hp' : x < 0
      · repeat' (first | (refine awK fun _ _ => ?_) | refine Hide.go (by assumption) ?_ | refine end_ret [] ?_; simp [go_sem, hlt, hln, hp'] | refine stepK_is rfl (ht) (by simp) ?_ | refine stepK_is rfl (hx) (by simp) ?_ | (fail_if_success with_reducible (refine Owe.mk ?_)); (simp (disch := omega) [go_sem, hlt, hln, hp']))
      · repeat' (first | (refine awK fun _ _ => ?_) | refine Hide.go (by assumption) ?_ | refine stepK_is rfl (ht) (by simp) ?_ | refine stepK_is rfl (hx) (by simp) ?_ | refine (hAA.next (i + 1) (Le.sub4 rfl (by simp [go_sem, hnx, hln])) (by (try dsimp only); omega) ?_) | (fail_if_success with_reducible (refine Owe.mk ?_)); (simp (disch := omega) [go_sem, hlt, hln, hp']) | refine And.intro (by omega) ?_)
        all_goals (first | omega | skip)
        exact ⟨hlt, hbn (by omega)⟩
    · obtain rfl : i = l.length := by omega
      rw [List.take_length] at hbe
      exact absurd hbe hall
theorem flt_next {α : Type} {cf : α → Bool} {l : List α} {i : Nat} (h : i < l.length) : (l.take (i + 1)).filter cf = (l.take i).filter cf ++ (if cf l[i] = true then [l[i]] else []) := by
  rw [List.take_add_one, List.getElem?_eq_getElem h, List.filter_append]
  congr 1
  by_cases hp : cf l[i] = true <;> simp [hp]
def stbB (s : List Tm) (p : List Pr) : Bool := decide (cmpL (stF p s) (stF [] s) = 0)
theorem Stab1_ok (p : List Pr) (s : List Tm) (le fu : Bool) (hb : s.length ≤ 1000000) (hz : ∀ t ∈ s, t.size ≤ 1000000) : ACall Tryz.prog 57 [eG p, .iptr true [.list le fu (s.map eTm)] 0 0, .iptr true [eLs (stF [] s)] 0 0] (fun r => r = bl (stbB s p)) := by
  have h1 := (State_ok p s false false le fu hb hz).frz
  have h2 := CompareList_ok (stF p s) (stF [] s) false false false false
  unfold stbB
  generalize cmpL (stF p s) (stF [] s) = c at *
  generalize stF p s = u at *
  generalize stF [] s = v at *
  refine acall_of_awp Tryz.func57 Tryz.call57 rfl (by simp [Tryz.ntmps57]) ?_; simp only [Tryz.ntmps57, Tryz.results57]
  repeat' (first | (refine awK fun _ _ => ?_) | refine Hide.go (by assumption) ?_ | refine end_ret [] ?_; simp [go_sem, eG, eLs] | refine dstepK_is rfl (h1) rfl (by simp) ?_ | refine dstepK_is rfl (h2) rfl (by simp) ?_ | (fail_if_success with_reducible (refine Owe.mk ?_)); (simp (disch := omega) [go_sem, eG, eLs]) | refine awp_draw 7 mix (by decide +kernel) ?_)
theorem filterStab_ok (g : List (List Pr)) (le fu : Bool) (hb : g.length ≤ 1000000) (s : List Tm) (fm : Bool) (cf : List Pr → Bool) (hcl : ∀ x ∈ g, ACall Tryz.prog 57 [eG x, .iptr true [.list false fm (s.map eTm)] 0 0, .iptr true [eLs (stF [] s)] 0 0] (fun r => r = bl (cf x))) : ACall Tryz.prog 56 [.list le fu (g.map eG), .clo 57 [.iptr true [.list false fm (s.map eTm)] 0 0, .iptr true [eLs (stF [] s)] 0 0]] (fun r => r = .own 1 ((g.filter cf).map eG)) := by
  have hz : (g.take 0).filter cf = [] := by simp
  refine acall_of_awp Tryz.func56 Tryz.call56 rfl (by simp [Tryz.ntmps56]) ?_; simp only [Tryz.ntmps56, Tryz.results56]
  repeat' (first | (refine awK fun _ _ => ?_) | refine Hide.go (by assumption) ?_ | (fail_if_success with_reducible (refine Owe.mk ?_)); (simp (disch := omega) [go_sem]))
  refine awp_for [1, 8, 9] [900] (fun i : Nat => [(10, nt .i64 i), (5, .ref 900 0 ((g.take i).filter cf).length)]) (fun i : Nat => [(900, ⟨true, false, false, 1, ((g.take i).filter cf).map eG, 0⟩)]) (fun i : Nat => g.length - i) (fun i : Nat => i ≤ g.length) (0) (by refine Le.trans ?_ (Le.nil (i := 5) (T := 900) (es := 1) rfl); exact (Le.sub4 rfl (by simp [go_sem, hz, List.take_zero, List.map_nil, List.filter_nil]))) ⟨?_⟩ ?_
  · exact Nat.zero_le _
  intro i hi AA hAA; simp only [kL, Nat.reduceBEq, Nat.reduceEqDiff, if_true, if_false, List.cons_append, List.nil_append, List.append_nil]
  by_cases hlt : i < g.length
  · have hu := hcl g[i] (List.getElem_mem hlt)
    have hnx := flt_next (cf := cf) hlt
    have hle : ((g.take i).filter cf).length ≤ i := Nat.le_trans (List.length_filter_le _ _) (by simp; omega)
    generalize (g.take i).filter cf = A at *
    cases hc : cf g[i]
    · rw [hc] at hu hnx
      simp only [Bool.false_eq_true, if_false, List.append_nil] at hnx
      repeat' (first | (refine awK fun _ _ => ?_) | refine Hide.go (by assumption) ?_ | refine stepK_is rfl (hu) (by simp) ?_ | refine (hAA.next (i + 1) (Le.sub4 rfl (by simp [go_sem, hnx])) (by (try dsimp only); omega) ?_) | (fail_if_success with_reducible (refine Owe.mk ?_)); (simp (disch := omega) [go_sem, hlt, eG]))
      all_goals (first | omega | skip)
      exact ⟨hlt⟩
    · rw [hc] at hu hnx
      simp only [if_true] at hnx
      repeat' (first | (refine awK fun _ _ => ?_) | refine Hide.go (by assumption) ?_ | refine stepK_is rfl (hu) (by simp) ?_ | refine (hAA.next (i + 1) (Le.sub4 rfl (by simp [go_sem, hnx, eG])) (by (try dsimp only); omega) ?_) | (fail_if_success with_reducible (refine Owe.mk ?_)); (simp (disch := omega) [go_sem, hlt, eG]) | refine And.intro (by omega) ?_)
      all_goals (first | omega | skip)
      exact ⟨hlt⟩
  · obtain rfl : i = g.length := by omega
    rw [List.take_length]
    repeat' (first | (refine awK fun _ _ => ?_) | refine Hide.go (by assumption) ?_ | refine end_ret [] ?_; simp [go_sem] | (fail_if_success with_reducible (refine Owe.mk ?_)); (simp (disch := omega) [go_sem]))
theorem clonePr_ok (p : List Pr) (le fu : Bool) (hb : p.length ≤ 1000000) : ACall Tryz.prog 94 [.list le fu (p.map ePr)] (fun r => r = .own 2 (p.map ePr)) := by
  cases p with
  | nil =>
    refine ACall.own_nil ?_
    simp only [List.map_nil]
    refine acall_of_awp Tryz.func94 Tryz.call94 rfl (by simp [Tryz.ntmps94]) ?_; simp only [Tryz.ntmps94, Tryz.results94]
    repeat' (first | (refine awK fun _ _ => ?_) | refine Hide.go (by assumption) ?_ | refine end_ret [] ?_; simp [go_sem] | (fail_if_success with_reducible (refine Owe.mk ?_)); (simp (disch := omega) [go_sem]) | (refine nbI fun bq => ?_) | refine zqs ?_ ?_ <;> (intro h; ((try simp only [h]); (try simp at h))))
  | cons x l =>
    simp only [List.map_cons, List.length_cons] at *
    refine acall_of_awp Tryz.func94 Tryz.call94 rfl (by simp [Tryz.ntmps94]) ?_; simp only [Tryz.ntmps94, Tryz.results94]
    repeat' (first | (refine awK fun _ _ => ?_) | refine Hide.go (by assumption) ?_ | refine end_ret [] ?_; simp [go_sem] | (fail_if_success with_reducible (refine Owe.mk ?_)); (simp (disch := omega) [go_sem]) | refine And.intro (by omega) ?_)
theorem copies_ok (g : List (List Pr)) (le fu : Bool) (hb : g.length ≤ 1000000) (hg : ∀ p ∈ g, p.length ≤ 1000000) : ACall Tryz.prog 55 [.list le fu (g.map eG)] (fun r => r = .own 1 (g.map eG)) := by
  refine acall_of_awp Tryz.func55 Tryz.call55 rfl (by simp [Tryz.ntmps55]) ?_; simp only [Tryz.ntmps55, Tryz.results55]
  repeat' (first | (refine awK fun _ _ => ?_) | refine Hide.go (by assumption) ?_ | (fail_if_success with_reducible (refine Owe.mk ?_)); (simp (disch := omega) [go_sem]))
  refine awp_for [6, 7] [900] (fun i : Nat => [(8, nt .i64 i), (3, .ref 900 0 i)]) (fun i : Nat => [(900, ⟨true, false, false, 1, (g.take i).map eG, 0⟩)]) (fun i : Nat => g.length - i) (fun i : Nat => i ≤ g.length) (0) (by refine Le.trans ?_ (Le.nil (i := 3) (T := 900) (es := 1) rfl); exact (Le.sub4 rfl (by simp [go_sem, List.take_zero, List.map_nil]))) ⟨?_⟩ ?_
  · exact Nat.zero_le _
  intro i hi AA hAA; simp only [kL, Nat.reduceBEq, Nat.reduceEqDiff, if_true, if_false, List.cons_append, List.nil_append, List.append_nil]
  by_cases hlt : i < g.length
  · have hu := (clonePr_ok g[i] false false (hg _ (List.getElem_mem hlt))).frz
    have hnx := take_next hlt
    have hln : (g.take i).length = i := by rw [List.length_take]; omega
    generalize g.take i = A at *
    repeat' (first | (refine awK fun _ _ => ?_) | refine Hide.go (by assumption) ?_ | refine stepK_is rfl (hu) (by simp) ?_ | refine (hAA.next (i + 1) (Le.sub4 rfl (by simp [go_sem, hnx, hln, eG])) (by (try dsimp only); omega) ?_) | (fail_if_success with_reducible (refine Owe.mk ?_)); (simp (disch := omega) [go_sem, hlt, hln, eG]) | refine And.intro (by omega) ?_)
    all_goals (first | omega | skip)
    exact ⟨hlt⟩
  · obtain rfl : i = g.length := by omega
    rw [List.take_length]
    repeat' (first | (refine awK fun _ _ => ?_) | refine Hide.go (by assumption) ?_ | refine end_ret [] ?_; simp [go_sem] | (fail_if_success with_reducible (refine Owe.mk ?_)); (simp (disch := omega) [go_sem]))
theorem Stabilizer_ok (g : List (List Pr)) (s : List Tm) (le fu fm : Bool) (hb : g.length ≤ 1000000) (hg : ∀ p ∈ g, p.length ≤ 1000000) (hbs : s.length ≤ 1000000) (hz : ∀ t ∈ s, t.size ≤ 1000000) :
    ACall Tryz.prog 25 [.list le fu (g.map eG), .list false fm (s.map eTm)] (fun r => r = .own 1 ((g.filter (stbB s)).map eG)) := by
  have h0 := (State_ok [] s false true false fm hbs hz).frz
  have h1 := filterStab_ok g le fu hb s fm (stbB s) (fun x _ => Stab1_ok x s false fm hbs hz)
  have hsub : ∀ p ∈ g.filter (stbB s), p ∈ g := fun p hp => (List.mem_filter.1 hp).1
  have hle := List.length_filter_le (stbB s) g
  have h2 := copies_ok (g.filter (stbB s)) true false (by omega) (fun p hp => hg p (hsub p hp))
  generalize g.filter (stbB s) = F at *
  generalize stF [] s = v at *
  have hlenT : True := trivial
  refine acall_of_awp Tryz.func25 Tryz.call25 rfl (by simp [Tryz.ntmps25]) ?_; simp only [Tryz.ntmps25, Tryz.results25]
  repeat' (first | (refine awK fun _ _ => ?_) | refine Hide.go (by assumption) ?_ | refine end_ret [] ?_; simp [go_sem, hlenT] | refine stepK_is rfl (h0) (by simp) ?_ | refine stepK_is rfl (h1) (by simp) ?_ | refine stepK_is ?hl (h2) (by simp) ?_; (case hl => (simp [go_sem, hlenT]; done)) | (fail_if_success with_reducible (refine Owe.mk ?_)); (simp (disch := omega) [go_sem, hlenT]))
def frA (p : List Pr) (i : Nat) : ByteArray := (p.getD i ⟨⟨#[]⟩, ⟨#[]⟩⟩).fr
theorem frA_get {p : List Pr} {i : Nat} (h : i < p.length) : frA p i = p[i].fr := by
  unfold frA
  rw [List.getD_eq_getElem?_getD, List.getElem?_eq_getElem h, Option.getD_some]
def cntP (p : List Pr) (s : ByteArray) (k : Nat) : Nat := (p.take k).countP fun x => decide (x.to = s)
theorem cntP_zero {p : List Pr} {s : ByteArray} : cntP p s 0 = 0 := by simp [cntP]
theorem cntP_next {p : List Pr} {s : ByteArray} {k : Nat} (h : k < p.length) : cntP p s (k + 1) = cntP p s k + if p[k].to = s then 1 else 0 := by
  unfold cntP
  rw [List.take_add_one, List.getElem?_eq_getElem h, List.countP_append]
  simp [List.countP_cons]
theorem cntP_le {p : List Pr} {s : ByteArray} {k : Nat} : cntP p s k ≤ k := by
  unfold cntP
  exact Nat.le_trans List.countP_le_length (by simp; omega)
def okB (p : List Pr) (i : Nat) : Bool := constS (frA p i) && (decide (i = 0) || decide (cmpS (frA p (i - 1)) (frA p i) < 0)) && decide (cntP p (frA p i) p.length = 1)
def validP (p : List Pr) : Bool := (List.range p.length).all (okB p)
theorem validP_iff {p : List Pr} : validP p = true ↔ ∀ i, i < p.length → okB p i = true := by
  unfold validP
  rw [List.all_eq_true]
  simp only [List.mem_range]
theorem validP_false {p : List Pr} {i : Nat} (h : i < p.length) (hk : okB p i = false) : validP p = false := by
  cases hv : validP p
  · rfl
  · rw [validP_iff.1 hv i h] at hk; cases hk
theorem refValid_ok (p : List Pr) (le fu : Bool) (hb : p.length ≤ 1000000) : ACall Tryz.prog 30 [.list le fu (p.map ePr)] (fun r => r = bl (validP p)) := by
  generalize hV : validP p = V
  refine acall_of_awp Tryz.func30 Tryz.call30 rfl (by simp [Tryz.ntmps30]) ?_; simp only [Tryz.ntmps30, Tryz.results30]
  repeat' (first | (refine awK fun _ _ => ?_) | refine Hide.go (by assumption) ?_ | (fail_if_success with_reducible (refine Owe.mk ?_)); (simp (disch := omega) [go_sem]))
  refine awp_for [0] [] (fun i : Nat => [(3, nt .i64 i)]) (fun i : Nat => []) (fun i : Nat => p.length - i) (fun i : Nat => i ≤ p.length ∧ ∀ j, j < i → okB p j = true) (0) (Le.sub4 rfl (by simp [go_sem])) ⟨?_⟩ ?_
  · exact ⟨Nat.zero_le _, fun j hj => absurd hj (Nat.not_lt_zero _)⟩
  intro i ⟨hi, hok⟩ AA hAA; simp only [kL, Nat.reduceBEq, Nat.reduceEqDiff, if_true, if_false, List.cons_append, List.nil_append, List.append_nil]
  by_cases hlt : i < p.length
  · have hAB := hAA
    have h1 := refis_ok p[i].fr
    have hfi := frA_get hlt
    have hstep : okB p i = true → ∀ j, j < i + 1 → okB p j = true := fun h j hj => by
      rcases Nat.lt_or_eq_of_le (Nat.le_of_lt_succ hj) with h' | rfl
      · exact hok j h'
      · exact h
    have hbad : okB p i = false → V = false := fun h => hV.symm.trans (validP_false hlt h)
    cases hc : constS p[i].fr
    · rw [hc] at h1
      have hV0 := hbad (by unfold okB; rw [hfi, hc]; rfl)
      rw [hV0]
      repeat' (first | (refine awK fun _ _ => ?_) | refine Hide.go (by assumption) ?_ | refine end_ret [] ?_; simp [go_sem, hlt] | refine dstepK_is rfl (h1) rfl (by simp) ?_ | (fail_if_success with_reducible (refine Owe.mk ?_)); (simp (disch := omega) [go_sem, hlt]) | refine awp_draw 28 mix (by decide +kernel) ?_)
    · rw [hc] at h1
      have hcnt : ∀ q : Bool, (decide (i = 0) || decide (cmpS (frA p (i - 1)) (frA p i) < 0)) = q → okB p i = (q && decide (cntP p p[i].fr p.length = 1)) := fun q hq => by
        unfold okB
        rw [hq, hfi, hc, Bool.true_and]
      cases i with
      | zero =>
        replace hcnt := hcnt true (by simp)
        simp only [Bool.true_and] at hcnt
        generalize hs : p[0].fr = s at *
        repeat' (first | (refine awK fun _ _ => ?_) | refine Hide.go (by assumption) ?_ | refine dstepK_is rfl (h1) rfl (by simp) ?_ | (fail_if_success with_reducible (refine Owe.mk ?_)); (simp (disch := omega) [go_sem, hlt, hs]) | refine awp_draw 28 mix (by decide +kernel) ?_)
        refine awp_for [0, 3] [] (fun k : Nat => [(5, nt .i64 k), (4, nt .i64 (cntP p s k))]) (fun k : Nat => []) (fun k : Nat => p.length - k) (fun k : Nat => k ≤ p.length) (0) (Le.sub4 rfl (by simp [go_sem, cntP_zero])) ⟨?_⟩ ?_
        · exact Nat.zero_le _
        intro k hk AA hAA; simp only [kL, Nat.reduceBEq, Nat.reduceEqDiff, if_true, if_false, List.cons_append, List.nil_append, List.append_nil]
        have hle := cntP_le (p := p) (s := s) (k := k)
        by_cases hkl : k < p.length
        · have hn := cntP_next (s := s) hkl
          by_cases he : p[k].to = s
          · rw [if_pos he] at hn
            generalize cntP p s k = c at *
            repeat' (first | (refine awK fun _ _ => ?_) | refine Hide.go (by assumption) ?_ | refine (hAA.next (k + 1) (Le.sub4 rfl (by simp [go_sem, hn])) (by (try dsimp only); omega) ?_) | (fail_if_success with_reducible (refine Owe.mk ?_)); (simp (disch := omega) [go_sem, hlt, hkl, he, hs]) | refine awp_draw 11 mix (by decide +kernel) ?_)
            all_goals (first | omega | skip)
            all_goals exact ⟨hkl⟩
          · rw [if_neg he] at hn
            generalize cntP p s k = c at *
            repeat' (first | (refine awK fun _ _ => ?_) | refine Hide.go (by assumption) ?_ | refine (hAA.next (k + 1) (Le.sub4 rfl (by simp [go_sem, hn])) (by (try dsimp only); omega) ?_) | (fail_if_success with_reducible (refine Owe.mk ?_)); (simp (disch := omega) [go_sem, hlt, hkl, he, hs]) | refine awp_draw 11 mix (by decide +kernel) ?_)
            all_goals (first | omega | skip)
            all_goals exact ⟨hkl⟩
        · obtain rfl : k = p.length := by omega
          by_cases h1c : cntP p s p.length = 1
          · have ho : okB p 0 = true := by rw [hcnt, h1c]; rfl
            have hst := hstep ho
            repeat' (first | (refine awK fun _ _ => ?_) | refine Hide.go (by assumption) ?_ | refine (hAB.next (0 + 1) (Le.sub4 rfl (by simp [go_sem])) (by (try dsimp only); omega) ?_) | (fail_if_success with_reducible (refine Owe.mk ?_)); (simp (disch := omega) [go_sem, hlt, h1c]))
            all_goals (first | omega | skip)
            all_goals exact ⟨hlt, hst⟩
          · have ho : okB p 0 = false := by rw [hcnt]; simp [h1c]
            have hV0 := hbad ho
            subst hV0
            generalize cntP p s p.length = c at *
            have h1c' : ¬ (c : Int) = 1 := by omega
            repeat' (first | (refine awK fun _ _ => ?_) | refine Hide.go (by assumption) ?_ | refine end_ret [] ?_; simp [go_sem, hlt, h1c'] | (fail_if_success with_reducible (refine Owe.mk ?_)); (simp (disch := omega) [go_sem, hlt, h1c']))
      | succ j =>
        have hj : j < p.length := by omega
        have hfj := frA_get hj
        have hq0 : (decide (j + 1 = 0) || decide (cmpS (frA p (j + 1 - 1)) (frA p (j + 1)) < 0)) = decide (cmpS p[j].fr p[j + 1].fr < 0) := by
          rw [hfi, Nat.add_sub_cancel, hfj]; simp
        have hc1 := constant29_ok p[j].fr
        have hc2 := constant29_ok p[j + 1].fr
        have hcm := refCompare_ok (.mk p[j].fr []) (.mk p[j + 1].fr [])
        have hcS : cmpT (.mk p[j].fr []) (.mk p[j + 1].fr []) = cmpS p[j].fr p[j + 1].fr := rfl
        rw [hcS] at hcm
        by_cases hq : cmpS p[j].fr p[j + 1].fr < 0
        · replace hcnt := hcnt true (by rw [hq0]; simpa using hq)
          simp only [Bool.true_and] at hcnt
          generalize cmpS p[j].fr p[j + 1].fr = q at *
          generalize hs : p[j + 1].fr = s at *
          repeat' (first | (refine awK fun _ _ => ?_) | refine Hide.go (by assumption) ?_ | refine zqd ?_ ?_ <;> (intro h; first | (exfalso; omega) | (simp only [h, decide_true, decide_false, not_false_eq_true])) | refine dstepK_is rfl (h1) rfl (by simp) ?_ | refine dstepK_is rfl (hc1) rfl (by simp) ?_ | refine dstepK_is rfl (hc2) rfl (by simp) ?_ | refine dstepK_is rfl (hcm) rfl (by simp) ?_ | (fail_if_success with_reducible (refine Owe.mk ?_)); (simp (disch := omega) [go_sem, hlt, hj, hs, hq]) | refine And.intro (by omega) ?_ | refine awp_draw 28 mix (by decide +kernel) ?_)
          refine awp_for [0, 3] [] (fun k : Nat => [(5, nt .i64 k), (4, nt .i64 (cntP p s k))]) (fun k : Nat => []) (fun k : Nat => p.length - k) (fun k : Nat => k ≤ p.length) (0) (Le.sub4 rfl (by simp [go_sem, cntP_zero])) ⟨?_⟩ ?_
          · exact Nat.zero_le _
          intro k hk AA hAA; simp only [kL, Nat.reduceBEq, Nat.reduceEqDiff, if_true, if_false, List.cons_append, List.nil_append, List.append_nil]
          have hle := cntP_le (p := p) (s := s) (k := k)
          by_cases hkl : k < p.length
          · have hn := cntP_next (s := s) hkl
            by_cases he : p[k].to = s
            · rw [if_pos he] at hn
              generalize cntP p s k = c at *
              repeat' (first | (refine awK fun _ _ => ?_) | refine Hide.go (by assumption) ?_ | refine (hAA.next (k + 1) (Le.sub4 rfl (by simp [go_sem, hn])) (by (try dsimp only); omega) ?_) | (fail_if_success with_reducible (refine Owe.mk ?_)); (simp (disch := omega) [go_sem, hlt, hkl, he, hs]) | refine And.intro (by omega) ?_ | refine awp_draw 11 mix (by decide +kernel) ?_)
              all_goals (first | omega | skip)
              all_goals exact ⟨hkl⟩
            · rw [if_neg he] at hn
              generalize cntP p s k = c at *
              repeat' (first | (refine awK fun _ _ => ?_) | refine Hide.go (by assumption) ?_ | refine (hAA.next (k + 1) (Le.sub4 rfl (by simp [go_sem, hn])) (by (try dsimp only); omega) ?_) | (fail_if_success with_reducible (refine Owe.mk ?_)); (simp (disch := omega) [go_sem, hlt, hkl, he, hs]) | refine And.intro (by omega) ?_ | refine awp_draw 11 mix (by decide +kernel) ?_)
              all_goals (first | omega | skip)
              all_goals exact ⟨hkl⟩
          · obtain rfl : k = p.length := by omega
            by_cases h1c : cntP p s p.length = 1
            · have ho : okB p (j + 1) = true := by rw [hcnt, h1c]; rfl
              have hst := hstep ho
              repeat' (first | (refine awK fun _ _ => ?_) | refine Hide.go (by assumption) ?_ | refine (hAB.next ((j + 1) + 1) (Le.sub4 rfl (by simp [go_sem])) (by (try dsimp only); omega) ?_) | (fail_if_success with_reducible (refine Owe.mk ?_)); (simp (disch := omega) [go_sem, hlt, h1c]))
              all_goals (first | omega | skip)
              all_goals exact ⟨hlt, hst⟩
            · have ho : okB p (j + 1) = false := by rw [hcnt]; simp [h1c]
              have hV0 := hbad ho
              subst hV0
              generalize cntP p s p.length = c at *
              have h1c' : ¬ (c : Int) = 1 := by omega
              repeat' (first | (refine awK fun _ _ => ?_) | refine Hide.go (by assumption) ?_ | refine end_ret [] ?_; simp [go_sem, hlt, h1c'] | (fail_if_success with_reducible (refine Owe.mk ?_)); (simp (disch := omega) [go_sem, hlt, h1c']))
        · have ho : okB p (j + 1) = false := by
            rw [hcnt false (by rw [hq0]; simpa using hq)]; rfl
          have hV0 := hbad ho
          subst hV0
          generalize cmpS p[j].fr p[j + 1].fr = q at *
          repeat' (first | (refine awK fun _ _ => ?_) | refine Hide.go (by assumption) ?_ | refine zqd ?_ ?_ <;> (intro h; first | (exfalso; omega) | (simp only [h, decide_true, decide_false, not_false_eq_true])) | refine end_ret [] ?_; simp [go_sem, hlt, hj, hq] | refine dstepK_is rfl (h1) rfl (by simp) ?_ | refine dstepK_is rfl (hc1) rfl (by simp) ?_ | refine dstepK_is rfl (hc2) rfl (by simp) ?_ | refine dstepK_is rfl (hcm) rfl (by simp) ?_ | (fail_if_success with_reducible (refine Owe.mk ?_)); (simp (disch := omega) [go_sem, hlt, hj, hq]) | refine And.intro (by omega) ?_ | refine awp_draw 28 mix (by decide +kernel) ?_)
  · obtain rfl : i = p.length := by omega
    have hV1 : V = true := hV.symm.trans (validP_iff.2 hok)
    subst hV1
    repeat' (first | (refine awK fun _ _ => ?_) | refine Hide.go (by assumption) ?_ | refine end_ret [] ?_; simp [go_sem] | (fail_if_success with_reducible (refine Owe.mk ?_)); (simp (disch := omega) [go_sem]))
def insS (x : ByteArray) : List ByteArray → List ByteArray
  | [] => [x]
  | y :: r => if cmpS x y ≤ 0 then x :: y :: r else y :: insS x r
def srtS : List ByteArray → List ByteArray
  | [] => []
  | x :: r => insS x (srtS r)
theorem insS_perm (x : ByteArray) : ∀ l : List ByteArray, (insS x l).Perm (x :: l)
  | [] => .refl _
  | y :: r => by
    unfold insS
    split
    · exact .refl _
    · exact ((insS_perm x r).cons y).trans (.swap x y r)
theorem srtS_perm : ∀ l : List ByteArray, (srtS l).Perm l
  | [] => .refl _
  | x :: r => (insS_perm x (srtS r)).trans ((srtS_perm r).cons x)
theorem insS_srt {x : ByteArray} : ∀ {l : List ByteArray}, l.Pairwise (fun a b => cmpS a b ≤ 0) → (insS x l).Pairwise (fun a b => cmpS a b ≤ 0)
  | [], _ => by simp [insS]
  | y :: r, h => by
    obtain ⟨h1, h2⟩ := List.pairwise_cons.1 h
    unfold insS
    split
    · rename_i hxy
      refine List.pairwise_cons.2 ⟨fun b hb => ?_, h⟩
      rcases List.mem_cons.1 hb with rfl | hb
      · exact hxy
      · exact cmpS_le hxy (h1 b hb)
    · rename_i hxy
      refine List.pairwise_cons.2 ⟨fun b hb => ?_, insS_srt h2⟩
      rcases List.mem_cons.1 ((insS_perm x r).mem_iff.1 hb) with rfl | hb
      · have := cmpS_neg y b; omega
      · exact h1 b hb
theorem srtS_srt : ∀ l : List ByteArray, (srtS l).Pairwise (fun a b => cmpS a b ≤ 0)
  | [] => .nil
  | x :: r => insS_srt (srtS_srt r)
theorem srtS_is {l m : List ByteArray} (hp : m.Perm l) (hs : m.Pairwise (fun a b => cmpS a b ≤ 0)) : m = srtS l :=
  List.Perm.eq_of_pairwise (fun a b _ _ h1 h2 => (cmpS_zero a b).1 (by have := cmpS_neg a b; omega)) hs (srtS_srt l) (hp.trans (srtS_perm l).symm)
theorem SortFuncC_ok (l : List ByteArray) (hb : l.length ≤ 140737488355328) : MCall Tryz.prog 110 [.ref 1000 0 l.length, .clo 89 []] [(1000, rowO eStr 1 0 l)]
    (fun r o' => r = .tup [] ∧ o' = [(1000, rowO eStr 1 0 (srtS l))]) := by
  by_cases hl : l = []
  · subst hl
    exact SortFunc_zero _
  · have h := sort_bridge (P := Tryz.prog) (f := 110) (g := 89) Value.string (fun _ => rfl) (fun _ => rfl) (ltOf cmpS) 0 (by decide) l hl Tryz.call110
      (fun blk cap w hH hblk => by
        have h := Any.slices_SortFunc Tryz.pdqS Value.string (fun _ => rfl) cmpS cmpS_swo 89 #[] blk 0 cap l.toArray w Tryz.call89
          (fun m os dk hs x y => cmp_lays Value.string (fun _ => rfl) cmpS compare_ok x y _) hH hblk (by simp; omega)
        exact h)
    refine h.mono fun r o' ⟨m, ⟨h1, h2⟩, h3, h4⟩ => ?_
    have : m = srtS l := srtS_is h1 (h2.imp fun {x y} hxy => by
      unfold ltOf at hxy
      simp only [decide_eq_false_iff_not, Int.not_lt] at hxy
      have := cmpS_neg x y
      omega)
    subst this
    exact ⟨h3, h4⟩
theorem srtS_len (l : List ByteArray) : (srtS l).length = l.length := (srtS_perm l).length_eq
theorem Collect_ok (l : List ByteArray) (le le' fu : Bool) (hb : l.length ≤ 1000000) : ACall Tryz.prog 109 [.clo 111 [.iptr le [.list le' fu (l.map eStr)] 0 0]] (fun r => r = .own 1 (l.map eStr)) := by
  have h := AppendSeq_ok l le le' fu hb
  refine acall_of_awp Tryz.func109 Tryz.call109 rfl (by simp [Tryz.ntmps109]) ?_; simp only [Tryz.ntmps109, Tryz.results109]
  repeat' (first | (refine awK fun _ _ => ?_) | refine Hide.go (by assumption) ?_ | refine end_ret [] ?_; simp [go_sem] | refine stepK_is rfl (h) (by simp) ?_ | (fail_if_success with_reducible (refine Owe.mk ?_)); (simp (disch := omega) [go_sem]))
theorem SortedFunc_ok (l : List ByteArray) (le le' fu : Bool) (hb : l.length ≤ 1000000) : ACall Tryz.prog 90 [.clo 111 [.iptr le [.list le' fu (l.map eStr)] 0 0], .clo 89 []] (fun r => r = .own 1 ((srtS l).map eStr)) := by
  have h := Collect_ok l le le' fu hb
  have hs := SortFuncC_ok l (by omega)
  have hl := srtS_len l
  generalize srtS l = m at *
  refine acall_of_awp Tryz.func90 Tryz.call90 rfl (by simp [Tryz.ntmps90]) ?_; simp only [Tryz.ntmps90, Tryz.results90]
  repeat' (first | (refine awK fun _ _ => ?_) | refine Hide.go (by assumption) ?_ | refine stepK_is rfl (h) (by simp) ?_ | (fail_if_success with_reducible (refine Owe.mk ?_)); (simp (disch := omega) [go_sem]))
  refine stepK_fis [(1000, 7)] [(7, 1000)] 10000 _ _ (Fits.mk' (by simp [go_sem]) (by simp [go_sem])) (by simp [go_sem]) (by simp [go_sem]) (hs) (by simp [go_sem]) (by simp [go_sem]) ?_
  repeat' (first | (refine awK fun _ _ => ?_) | refine Hide.go (by assumption) ?_ | refine end_ret [] ?_; simp [go_sem, hl] | (fail_if_success with_reducible (refine Owe.mk ?_)); (simp (disch := omega) [go_sem, hl]))
theorem same1_ok (x y : ByteArray) : ACall Tryz.prog 113 [.sc (.string x), .sc (.string y), .iptr true [.clo 89 []] 0 0] (fun r => r = bl (decide (x = y))) := by
  have h := compare_ok x y
  have hz := cmpS_zero x y
  by_cases he : x = y
  · rw [decide_eq_true he]
    rw [hz.2 he] at h
    refine acall_of_awp Tryz.func113 Tryz.call113 rfl (by simp [Tryz.ntmps113]) ?_; simp only [Tryz.ntmps113, Tryz.results113]
    repeat' (first | (refine awK fun _ _ => ?_) | refine Hide.go (by assumption) ?_ | refine end_ret [] ?_; simp [go_sem] | refine stepK_is rfl (h) (by simp) ?_ | (fail_if_success with_reducible (refine Owe.mk ?_)); (simp (disch := omega) [go_sem]))
  · rw [decide_eq_false he]
    have hne : ¬ cmpS x y = 0 := fun e => he (hz.1 e)
    generalize cmpS x y = c at *
    refine acall_of_awp Tryz.func113 Tryz.call113 rfl (by simp [Tryz.ntmps113]) ?_; simp only [Tryz.ntmps113, Tryz.results113]
    repeat' (first | (refine awK fun _ _ => ?_) | refine Hide.go (by assumption) ?_ | refine end_ret [] ?_; simp [go_sem, hne] | refine stepK_is rfl (h) (by simp) ?_ | (fail_if_success with_reducible (refine Owe.mk ?_)); (simp (disch := omega) [go_sem, hne]))
theorem EqualFunc_ok (a b : List ByteArray) (le fu le' fu' : Bool) : ACall Tryz.prog 112 [.list le fu (a.map eStr), .list le' fu' (b.map eStr), .clo 113 [.iptr true [.clo 89 []] 0 0]] (fun r => r = bl (decide (a = b))) := by
  refine ACall.bound (i := 0) rfl Tryz.call112 fun hb => ?_
  rw [List.length_map] at hb
  have hb : a.length ≤ 140737488355328 := hb
  by_cases h0 : a.length = b.length
  · generalize hR : decide (a = b) = R
    have h0' : ¬ (a.length : Int) ≠ b.length := by omega
    refine acall_of_awp Tryz.func112 Tryz.call112 rfl (by simp [Tryz.ntmps112]) ?_; simp only [Tryz.ntmps112, Tryz.results112]
    repeat' (first | (refine awK fun _ _ => ?_) | refine Hide.go (by assumption) ?_ | (fail_if_success with_reducible (refine Owe.mk ?_)); (simp (disch := omega) [go_sem, h0]))
    all_goals (first | (exfalso; omega) | skip)
    refine awp_for [1, 2, 15, 16] [] (fun i : Nat => [(17, nt .i64 i)]) (fun i : Nat => []) (fun i : Nat => b.length - i) (fun i : Nat => i ≤ b.length ∧ ∀ (k : Nat) (hk : k < a.length) (hk' : k < b.length), k < i → a[k] = b[k]) (0) (Le.sub4 rfl (by simp [go_sem])) ⟨?_⟩ ?_
    · exact ⟨Nat.zero_le _, fun k _ _ hk => absurd hk (Nat.not_lt_zero _)⟩
    intro i ⟨hi, hn⟩ AA hAA; simp only [kL, Nat.reduceBEq, Nat.reduceEqDiff, if_true, if_false, List.cons_append, List.nil_append, List.append_nil]
    by_cases hlt : i < b.length
    · have hla : i < a.length := by omega
      have hs := same1_ok a[i] b[i]
      by_cases hq : a[i] = b[i]
      · rw [decide_eq_true hq] at hs
        repeat' (first | (refine awK fun _ _ => ?_) | refine Hide.go (by assumption) ?_ | refine stepK_is rfl (hs) (by simp) ?_ | refine (hAA.next (i + 1) (Le.sub4 rfl (by simp [go_sem])) (by (try dsimp only); omega) ?_) | (fail_if_success with_reducible (refine Owe.mk ?_)); (simp (disch := omega) [go_sem, hlt, hla, eStr]))
        all_goals (first | omega | skip)
        exact ⟨hlt, fun k hk hk' hki => by rcases Nat.lt_or_eq_of_le (Nat.le_of_lt_succ hki) with h | rfl; exact hn k hk hk' h; exact hq⟩
      · have hu : R = false := by
          rw [← hR, decide_eq_false_iff_not]
          intro h
          apply hq
          simp only [h]
        subst hu
        rw [decide_eq_false hq] at hs
        repeat' (first | (refine awK fun _ _ => ?_) | refine Hide.go (by assumption) ?_ | refine end_ret [] ?_; simp [go_sem, hlt, hla, eStr] | refine stepK_is rfl (hs) (by simp) ?_ | (fail_if_success with_reducible (refine Owe.mk ?_)); (simp (disch := omega) [go_sem, hlt, hla, eStr]))
    · obtain rfl : i = b.length := by omega
      have hu : R = true := by
        rw [← hR, decide_eq_true_eq]
        exact List.ext_getElem h0 fun k h1 h2 => hn k h1 h2 h2
      subst hu
      repeat' (first | (refine awK fun _ _ => ?_) | refine Hide.go (by assumption) ?_ | refine end_ret [] ?_; simp [go_sem] | (fail_if_success with_reducible (refine Owe.mk ?_)); (simp (disch := omega) [go_sem]))
  · rw [decide_eq_false (fun h => h0 (by rw [h]))]
    refine acall_of_awp Tryz.func112 Tryz.call112 rfl (by simp [Tryz.ntmps112]) ?_; simp only [Tryz.ntmps112, Tryz.results112]
    repeat' (first | (refine awK fun _ _ => ?_) | refine Hide.go (by assumption) ?_ | refine zqn ?_ ?_ <;> (intro h; first | (exfalso; omega) | (simp only [h, decide_true, decide_false, not_false_eq_true])) | refine end_ret [] ?_; simp [go_sem, h0] | (fail_if_success with_reducible (refine Owe.mk ?_)); (simp (disch := omega) [go_sem, h0]))
    all_goals (first | (exfalso; omega) | skip)
theorem same_ok (a b : List ByteArray) (le fu le' fu' : Bool) : ACall Tryz.prog 92 [.list le fu (a.map eStr), .list le' fu' (b.map eStr), .clo 89 []] (fun r => r = bl (decide (a = b))) := by
  have h := EqualFunc_ok a b le fu le' fu'
  generalize decide (a = b) = q at *
  refine acall_of_awp Tryz.func92 Tryz.call92 rfl (by simp [Tryz.ntmps92]) ?_; simp only [Tryz.ntmps92, Tryz.results92]
  repeat' (first | (refine awK fun _ _ => ?_) | refine Hide.go (by assumption) ?_ | refine end_ret [] ?_; simp [go_sem] | refine stepK_is rfl (h) (by simp) ?_ | (fail_if_success with_reducible (refine Owe.mk ?_)); (simp (disch := omega) [go_sem]))
theorem sides_ok (p : List Pr) (le fu : Bool) (hb : p.length ≤ 1000000) : ACall Tryz.prog 87 [.list le fu (p.map ePr)] (fun r => r = .tup [.list false false ((p.map Pr.fr).map eStr), .list false false ((p.map Pr.to).map eStr)]) := by
  have h0 : (p.take 0).map Pr.fr = [] := by simp
  have h0' : (p.take 0).map Pr.to = [] := by simp
  refine acall_of_awp Tryz.func87 Tryz.call87 rfl (by simp [Tryz.ntmps87]) ?_; simp only [Tryz.ntmps87, Tryz.results87]
  repeat' (first | (refine awK fun _ _ => ?_) | refine Hide.go (by assumption) ?_ | (fail_if_success with_reducible (refine Owe.mk ?_)); (simp (disch := omega) [go_sem]))
  refine awp_for [8, 9] [900, 901] (fun i : Nat => [(10, nt .i64 i), (4, .ref 900 0 i), (5, .ref 901 0 i)]) (fun i : Nat => [(900, ⟨true, false, false, 1, ((p.take i).map Pr.fr).map eStr, 0⟩), (901, ⟨true, false, false, 1, ((p.take i).map Pr.to).map eStr, 0⟩)]) (fun i : Nat => p.length - i) (fun i : Nat => i ≤ p.length) (0) (by refine Le.trans ?_ (Le.nil (i := 5) (T := 901) (es := 1) rfl); exact (by refine Le.trans ?_ (Le.nil (i := 4) (T := 900) (es := 1) rfl); exact (Le.sub4 rfl (by simp [go_sem, h0, h0', List.take_zero, List.map_nil])))) ⟨?_⟩ ?_
  · exact Nat.zero_le _
  intro i hi AA hAA; simp only [kL, Nat.reduceBEq, Nat.reduceEqDiff, if_true, if_false, List.cons_append, List.nil_append, List.append_nil]
  by_cases hlt : i < p.length
  · have hnx := take_next hlt
    have hln : ((p.take i).map Pr.fr).length = i := by simp; omega
    have hln' : ((p.take i).map Pr.to).length = i := by simp; omega
    have hn1 : (p.take (i + 1)).map Pr.fr = (p.take i).map Pr.fr ++ [p[i].fr] := by rw [hnx, List.map_append]; rfl
    have hn2 : (p.take (i + 1)).map Pr.to = (p.take i).map Pr.to ++ [p[i].to] := by rw [hnx, List.map_append]; rfl
    generalize (p.take i).map Pr.fr = A at *
    generalize (p.take i).map Pr.to = B at *
    repeat' (first | (refine awK fun _ _ => ?_) | refine Hide.go (by assumption) ?_ | refine (hAA.next (i + 1) (Le.sub4 rfl (by simp [go_sem, hn1, hn2, hln, hln', eStr])) (by (try dsimp only); omega) ?_) | (fail_if_success with_reducible (refine Owe.mk ?_)); (simp (disch := omega) [go_sem, hlt, hln, hln', eStr]) | refine And.intro (by omega) ?_)
    all_goals (first | omega | skip)
    exact ⟨hlt⟩
  · obtain rfl : i = p.length := by omega
    rw [List.take_length]
    repeat' (first | (refine awK fun _ _ => ?_) | refine Hide.go (by assumption) ?_ | refine end_ret [900, 901] ?_; simp [go_sem] | (fail_if_success with_reducible (refine Owe.mk ?_)); (simp (disch := omega) [go_sem]))
end Go.Proofs.YtmadpbpmcbdboaaGreat
