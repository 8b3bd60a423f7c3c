import Derived.Test.YtldecgghhaoliaaS1
import Derived.Shelf.SlGeneric
import Derived.Shelf.SlLaysF
import Derived.Ground.SlsfProg
import Derived.Test.YtldecgghhaoliaaS6
import Derived.Shelf.SlSortCmp.Whole1
import Derived.Shelf.SlicesE.Compact
import Derived.Ground.SlgnProg
set_option linter.unusedSimpArgs false
set_option linter.unusedVariables false
namespace Go.Proofs.Ytldecgghhaoliaa
open Go.Shelf Go.Proofs
def Try.pdqS_ren : Go.Shelf.Ren := ⟨fun | 6 => 70 | 15 => 83 | 14 => 82 | 28 => 96 | 29 => 97 | 20 => 88 | 21 => 89 | 22 => 90 | 23 => 91 | 24 => 92 | 25 => 93 | 26 => 94 | 27 => 95 | 46 => 100 | 47 => 101 | 48 => 102 | 49 => 103 | 50 => 104 | 57 => 106 | n => n, fun | 22 => 42 | 24 => 9 | 25 => 63 | 3 => 3 | 39 => 82 | 0 => 0 | 53 => 96 | 55 => 98 | 4 => 4 | 46 => 90 | 45 => 89 | 50 => 23 | 5 => 5 | 9 => 9 | 66 => 101 | 70 => 105 | 76 => 107 | 77 => 108 | n => n, fun | n => n⟩
theorem Try.pdqS : Go.Proofs.SlLaysF.n6 Try.prog Try.pdqS_ren := {
  mixed := by kernel_rfl
  f6 := ⟨Try.f70.name, by decide, Try.func70.trans (congrArg some (by kernel_rfl))⟩
  f14 := ⟨Try.f82.name, by decide, Try.func82.trans (congrArg some (by kernel_rfl))⟩
  f15 := Try.func83.trans (congrArg some (by kernel_rfl))
  f20 := ⟨Try.f88.name, by decide, Try.func88.trans (congrArg some (by kernel_rfl))⟩
  f21 := ⟨Try.f89.name, by decide, Try.func89.trans (congrArg some (by kernel_rfl))⟩
  f22 := ⟨Try.f90.name, by decide, Try.func90.trans (congrArg some (by kernel_rfl))⟩
  f23 := ⟨Try.f91.name, by decide, Try.func91.trans (congrArg some (by kernel_rfl))⟩
  f24 := ⟨Try.f92.name, by decide, Try.func92.trans (congrArg some (by kernel_rfl))⟩
  f25 := ⟨Try.f93.name, by decide, Try.func93.trans (congrArg some (by kernel_rfl))⟩
  f26 := ⟨Try.f94.name, by decide, Try.func94.trans (congrArg some (by kernel_rfl))⟩
  f27 := ⟨Try.f95.name, by decide, Try.func95.trans (congrArg some (by kernel_rfl))⟩
  f28 := Try.func96.trans (congrArg some (by kernel_rfl))
  f29 := Try.func97.trans (congrArg some (by kernel_rfl))
  f46 := ⟨Try.f100.name, by decide, Try.func100.trans (congrArg some (by kernel_rfl))⟩
  f47 := Try.func101.trans (congrArg some (by kernel_rfl))
  f48 := Try.func102.trans (congrArg some (by kernel_rfl))
  f49 := ⟨Try.f103.name, by decide, Try.func103.trans (congrArg some (by kernel_rfl))⟩
  f50 := ⟨Try.f104.name, by decide, Try.func104.trans (congrArg some (by kernel_rfl))⟩
  f57 := ⟨Try.f106.name, by decide, Try.func106.trans (congrArg some (by kernel_rfl))⟩
  t0 := Try.underlying0
  a0 := Try.isAgg0
  z0 := Try.sizeOf0
  v0 := Try.zeroValue0
  t3 := Try.underlying3
  a3 := Try.isAgg3
  z3 := Try.sizeOf3
  v3 := Try.zeroValue3
  t4 := Try.underlying4
  a4 := Try.isAgg4
  z4 := Try.sizeOf4
  v4 := Try.zeroValue4
  t5 := Try.underlying5
  a5 := Try.isAgg5
  z5 := Try.sizeOf5
  v5 := Try.zeroValue5
  t9 := Try.underlying9
  a9 := Try.isAgg9
  z9 := Try.sizeOf9
  v9 := Try.zeroValue9
  t22 := Try.underlying42
  a22 := Try.isAgg42
  z22 := Try.sizeOf42
  v22 := Try.zeroValue42
  a24 := Try.isAgg9
  z24 := Try.sizeOf9
  t25 := Try.underlying63
  a25 := Try.isAgg63
  z25 := Try.sizeOf63
  v25 := Try.zeroValue63
  t39 := Try.underlying82
  a39 := Try.isAgg82
  z39 := Try.sizeOf82
  v39 := Try.zeroValue82
  t45 := Try.underlying89
  a45 := Try.isAgg89
  z45 := Try.sizeOf89
  v45 := Try.zeroValue89
  t46 := Try.underlying90
  a46 := Try.isAgg90
  z46 := Try.sizeOf90
  v46 := Try.zeroValue90
  t50 := Try.underlying23
  a50 := Try.isAgg23
  z50 := Try.sizeOf23
  v50 := Try.zeroValue23
  t53 := Try.underlying96
  a53 := Try.isAgg96
  z53 := Try.sizeOf96
  v53 := Try.zeroValue96
  t55 := Try.underlying98
  a55 := Try.isAgg98
  z55 := Try.sizeOf98
  v55 := Try.zeroValue98
  t66 := Try.underlying101
  a66 := Try.isAgg101
  z66 := Try.sizeOf101
  v66 := Try.zeroValue101
  t70 := Try.underlying105
  a70 := Try.isAgg105
  z70 := Try.sizeOf105
  v70 := Try.zeroValue105
  t76 := Try.underlying107
  a76 := Try.isAgg107
  z76 := Try.sizeOf107
  v76 := Try.zeroValue107
  t77 := Try.underlying108
  a77 := Try.isAgg108
  z77 := Try.sizeOf108
  v77 := Try.zeroValue108 }
open Go.Ab
set_option maxRecDepth 100000
set_option maxHeartbeats 8000000
theorem cmpS_neg (x y : ByteArray) : cmpS y x = -cmpS x y := cmp_neg _ _
theorem cmpS_self (x : ByteArray) : cmpS x x = 0 := cmp_self _
theorem cmpS_le {x y z : ByteArray} (h : cmpS x y ≤ 0) (k : cmpS y z ≤ 0) : cmpS x z ≤ 0 := cmp_pre.tr _ _ _ h k
theorem cmpS_lt {x y z : ByteArray} (h : cmpS x y < 0) (k : cmpS y z < 0) : cmpS x z < 0 := cmp_lt_le h (Int.le_of_lt k)
theorem cmpS_swo : Go.Sort.SWO (ltOf cmpS) where
  irrefl x := by unfold ltOf; rw [cmpS_self]; rfl
  trans x y z h1 h2 := by
    unfold ltOf at *
    simp only [decide_eq_true_eq] at *
    exact cmpS_lt h1 h2
  ntrans x y z h1 h2 := by
    unfold ltOf at *
    simp only [decide_eq_false_iff_not, Int.not_lt] at *
    have a := cmpS_neg x y
    have b := cmpS_neg y z
    have c := cmpS_neg x z
    have := cmpS_le (x := z) (y := y) (z := x) (by omega) (by omega)
    omega
theorem SortFunc_ok (l : List ByteArray) (hb : l.length ≤ 140737488355328) : MCall Try.prog 70 [.ref 1000 0 l.length, .clo 71 []] [(1000, rowO eStr 1 0 l)]
    (fun r o' => ∃ m : List ByteArray, (m.Perm l ∧ m.Pairwise (fun x y => cmpS x y ≤ 0)) ∧ r = .tup [] ∧ o' = [(1000, rowO eStr 1 0 m)]) := by
  by_cases hl : l = []
  · subst hl
    exact (SortFunc_zero _).mono fun r o' ⟨h1, h2⟩ => ⟨[], ⟨.refl _, .nil⟩, h1, h2⟩
  · have h := sort_bridge (P := Try.prog) (f := 70) (g := 71) Value.string (fun _ => rfl) (fun _ => rfl) (ltOf cmpS) 0 (by decide) l hl Try.call70
      (fun blk cap w hH hblk => by
        have h := Any.slices_SortFunc Try.pdqS Value.string (fun _ => rfl) cmpS cmpS_swo 71 #[] blk 0 cap l.toArray w Try.call71
          (fun m os dk hs x y => cmp_lays Value.string (fun _ => rfl) cmpS less_ok x y _) hH hblk (by simp; omega)
        exact h)
    refine h.mono fun r o' ⟨m, ⟨h1, h2⟩, h3, h4⟩ => ⟨m, ⟨h1, ?_⟩, h3, h4⟩
    refine h2.imp fun {x y} hxy => ?_
    unfold ltOf at hxy
    simp only [decide_eq_false_iff_not, Int.not_lt] at hxy
    have := cmpS_neg x y
    omega
section
open Go.Shelf Go.Proofs
def Try.compS_ren : Go.Shelf.Ren := ⟨fun | 43 => 72 | n => n, fun | 22 => 42 | 23 => 9 | 3 => 3 | 4 => 4 | 0 => 0 | n => n, fun | n => n⟩
theorem Try.compS : Go.Proofs.SlLaysE.n43 Try.prog Try.compS_ren := {
  mixed := by kernel_rfl
  f43 := ⟨Try.f72.name, by decide, Try.func72.trans (congrArg some (by kernel_rfl))⟩
  t0 := Try.underlying0
  a0 := Try.isAgg0
  z0 := Try.sizeOf0
  v0 := Try.zeroValue0
  t3 := Try.underlying3
  a3 := Try.isAgg3
  z3 := Try.sizeOf3
  v3 := Try.zeroValue3
  t4 := Try.underlying4
  a4 := Try.isAgg4
  z4 := Try.sizeOf4
  v4 := Try.zeroValue4
  t22 := Try.underlying42
  a22 := Try.isAgg42
  z22 := Try.sizeOf42
  v22 := Try.zeroValue42
  a23 := Try.isAgg9
  z23 := Try.sizeOf9 }
end
def cpt (l : List ByteArray) : List ByteArray := Go.Lib.compactUpTo l.toArray l.length
theorem cpt_next (d : Array ByteArray) (i : Nat) : Go.Lib.compactUpTo d (i + 1) = Go.Lib.compactUpTo d i ++ (if Go.Lib.keeps d i = true then [d[i]!] else []) := by
  unfold Go.Lib.compactUpTo
  rw [List.range_succ, List.filter_append, List.map_append]
  congr 1
  by_cases h : Go.Lib.keeps d i = true <;> simp [h]
theorem cpt_len (d : Array ByteArray) : ∀ i, (Go.Lib.compactUpTo d i).length ≤ i
  | 0 => by simp [Go.Lib.compactUpTo]
  | i + 1 => by
    rw [cpt_next, List.length_append]
    have := cpt_len d i
    split <;> simp <;> omega
def zs : ByteArray := ByteArray.mk #[]
theorem Compact_ok (l : List ByteArray) (hb : l.length ≤ 140737488355328) : MCall Try.prog 72 [.ref 1000 0 l.length] [(1000, rowO eStr 1 0 l)]
    (fun r o' => r = .ref 1001 0 (cpt l).length ∧ o' = [(1001, ⟨true, false, false, 1, (cpt l).map eStr, 0⟩)]) := by
  by_cases hl : l = []
  · subst hl
    have e : cpt [] = [] := rfl
    rw [e]
    refine mcall_of_awpL Try.func72 Try.call72 rfl (by simp [Try.ntmps72]) ?_; simp only [Try.ntmps72, Try.results72]
    repeat' (first | (refine awK fun _ _ => ?_) | refine Hide.go (by assumption) ?_ | (first | refine zqd ?_ ?_ | refine zqn ?_ ?_ | refine zgd ?_ ?_ | refine zgn ?_ ?_ | refine zdd ?_ ?_ | refine zdn ?_ ?_) <;> (intro h; first | (exfalso; omega) | (simp only [h, decide_true, decide_false, not_false_eq_true]) | skip) | refine end_ret [] ?_; simp [go_sem] | (fail_if_success with_reducible (refine Owe.mk ?_)); (simp (disch := omega) [go_sem]) | refine And.intro (by omega) ?_ | refine And.intro (And.intro (by assumption) (by omega)) ?_ | refine awp_draw 10 mix (by decide +kernel) ?_ | (refine nbI fun bq => ?_) | (first | refine zqm ?_ ?_ | refine zgm ?_ ?_ | refine zdm ?_ ?_) <;> (intro h; simp only [h, Bool.not_true, Bool.not_false]) | (first | refine zqs ?_ ?_ | refine zgs ?_ ?_ | refine zds ?_ ?_) <;> (intro h; first | (exfalso; simp at h; omega) | ((try simp only [h]); (try simp at h))))
    refine endL_ret ⟨61, [(2, .ref 1001 0 0)], [(1001, ⟨true, false, false, 1, [], 0⟩)]⟩ [.ref 1001 0 0] (by refine Le.trans ?_ (Le.move (i := 2) (T := 1000) (T' := 1001) rfl (by show (0 : Nat) ≠ 1; decide) rfl rfl rfl); exact (Le.sub4 rfl (by simp [go_sem]))) (by simp [go_sem]) ⟨rfl, rfl⟩
  · exact compact_bridge (P := Try.prog) (f := 72) Value.string (fun _ => rfl) (fun _ => rfl) 0 (by decide) l (cpt l) zs hl (cpt_len _ _) Try.call72
      (fun blk cap w hH hcap => by
        have h := AnyE.slices_Compact Try.compS Value.string (fun _ => rfl)
          ⟨fun x y w => by rw [(EqlAt.string _ _).1 x y w]; show _ = Result.ok (Value.bool (decide (x = y))) w; rw [← str_eq], (EqlAt.string _ _).2⟩ ⟨fun x y w => by rw [(NeqAt.string _ _).1 x y w]; show _ = Result.ok (Value.bool (!decide (x = y))) w; rw [← str_eq], (NeqAt.string _ _).2⟩ zs (fun w => by rfl) blk 0 cap l.toArray w hH (by simp; omega) (by simpa using hcap)
        exact h)
def leafC (s : ByteArray) : Tm := .mk s []
theorem leafC_inj {x y : ByteArray} : leafC x = leafC y ↔ x = y := ⟨fun h => congrArg Tm.name h, fun h => by rw [h]⟩
theorem cpt_dd (m : List ByteArray) : ∀ i, i ≤ m.length → (Go.Lib.compactUpTo m.toArray i).map leafC = ddP (m.map leafC) i
  | 0, _ => rfl
  | i + 1, hi => by
    have hi' : i < m.length := by omega
    have hl : i < (m.map leafC).length := by rw [List.length_map]; exact hi'
    rw [cpt_next, List.map_append, cpt_dd m i (by omega), ddP_next hl]
    have e1 : m.toArray[i]! = m[i] := by simp [hi']
    have e2 : (m.map leafC)[i] = leafC m[i] := by simp
    rw [e2]
    by_cases h0 : i = 0
    · have hk : Go.Lib.keeps m.toArray i = true := by simp [Go.Lib.keeps, h0]
      rw [if_pos hk, if_pos (.inl h0), e1]; rfl
    · have h1 : i - 1 < m.length := by omega
      have e3 : (m.map leafC).getD (i - 1) (leafC m[i]) = leafC m[i - 1] := by
        rw [List.getD_eq_getElem?_getD, List.getElem?_eq_getElem (by simpa using h1)]; simp
      have e4 : m.toArray[i - 1]! = m[i - 1] := by simp [h1]
      rw [e3]
      have hz : cmpT (leafC m[i - 1]) (leafC m[i]) = 0 ↔ m[i - 1] = m[i] := by rw [cmp_zero, leafC_inj]
      by_cases hk : m[i - 1] = m[i]
      · have hk' : ¬ Go.Lib.keeps m.toArray i = true := by simp [Go.Lib.keeps, h0, e1, e4, hk]
        rw [if_neg hk', if_neg (by rw [hz.2 hk]; simp [h0])]; simp
      · have hk' : Go.Lib.keeps m.toArray i = true := by
          unfold Go.Lib.keeps
          rw [decide_eq_true_eq, e1, e4]
          exact .inr fun e => hk e.symm
        rw [if_pos hk', if_pos (.inr fun e => hk (hz.1 e)), e1]; rfl
def csT (l : List Tm) : List ByteArray := (lvsS l).filter constS
def cstT (l : List Tm) : List ByteArray := (sortT ((csT l).map leafC)).map Tm.name
theorem cpt_cst {l : List Tm} {m : List ByteArray} (hp : m.Perm (csT l)) (hs : m.Pairwise (fun x y => cmpS x y ≤ 0)) : cpt m = cstT l := by
  have h1 : (m.map leafC).Perm ((csT l).map leafC) := hp.map _
  have h2 : SrtOn cmpT (m.map leafC) 0 ((csT l).map leafC).length := by
    rw [← h1.length_eq]
    intro i j x y _ hij hj hx hy
    rw [List.length_map] at hj
    have hi : i < m.length := by omega
    rw [List.getElem?_map, List.getElem?_eq_getElem hi] at hx
    rw [List.getElem?_map, List.getElem?_eq_getElem hj] at hy
    simp only [Option.map_some, Option.some.injEq] at hx hy
    subst hx hy
    exact List.pairwise_iff_getElem.1 hs i j hi hj hij
  have h3 := ddP_sort h1 h2
  unfold cstT cpt
  rw [← h3, List.length_map, ← cpt_dd m m.length (Nat.le_refl _), List.map_map]
  have : Tm.name ∘ leafC = id := rfl
  rw [this, List.map_id]
theorem filter_next {p : ByteArray → Bool} {L : List ByteArray} {j : Nat} (h : j < L.length) : (L.take (j + 1)).filter p = (L.take j).filter p ++ (if p L[j] = true then [L[j]] else []) := by
  rw [take_next h, List.filter_append]
  congr 1
  by_cases hp : p L[j] = true <;> simp [hp]
def fdC (A L : List ByteArray) (j : Nat) : List ByteArray := A ++ (L.take j).filter constS
theorem fdC_zero (A L : List ByteArray) : fdC A L 0 = A := by simp [fdC]
theorem fdC_all (A L : List ByteArray) : fdC A L L.length = A ++ L.filter constS := by simp [fdC]
theorem fdC_next {A L : List ByteArray} {j : Nat} (h : j < L.length) : fdC A L (j + 1) = fdC A L j ++ (if constS L[j] = true then [L[j]] else []) := by
  unfold fdC; rw [filter_next h, List.append_assoc]
theorem fdC_le (A L : List ByteArray) (j : Nat) : (fdC A L j).length ≤ A.length + j := by
  unfold fdC
  rw [List.length_append]
  have := List.length_filter_le constS (L.take j)
  rw [List.length_take] at this
  omega
theorem csT_next {l : List Tm} {i : Nat} (h : i < l.length) : csT (l.take (i + 1)) = csT (l.take i) ++ (lvs l[i]).filter constS := by
  unfold csT; rw [lvsS_next h, List.filter_append]
theorem csT_le (l : List Tm) : (csT l).length ≤ (lvsS l).length := List.length_filter_le _ _
theorem csT_nil : csT [] = [] := rfl
theorem Constants_ok (l : List Tm) (le fu : Bool) (hb : (lvsS l).length ≤ 1000000) : ACall Try.prog 42 [.list le fu (l.map eTm)] (fun r => r = .own 1 ((cstT l).map eStr)) := by
  have hge := lvsS_ge l
  refine acall_of_awp Try.func42 Try.call42 rfl (by simp [Try.ntmps42]) ?_; simp only [Try.ntmps42, Try.results42]
  repeat' (first | (refine awK fun _ _ => ?_) | refine Hide.go (by assumption) ?_ | (first | refine zqd ?_ ?_ | refine zqn ?_ ?_ | refine zgd ?_ ?_ | refine zgn ?_ ?_ | refine zdd ?_ ?_ | refine zdn ?_ ?_) <;> (intro h; first | (exfalso; omega) | (simp only [h, decide_true, decide_false, not_false_eq_true]) | skip) | refine end_ret [] ?_; simp [go_sem] | (fail_if_success with_reducible (refine Owe.mk ?_)); (simp (disch := omega) [go_sem]) | refine And.intro (by omega) ?_ | refine And.intro (And.intro (by assumption) (by omega)) ?_ | (refine nbI fun bq => ?_) | (first | refine zqm ?_ ?_ | refine zgm ?_ ?_ | refine zdm ?_ ?_) <;> (intro h; simp only [h, Bool.not_true, Bool.not_false]) | (first | refine zqs ?_ ?_ | refine zgs ?_ ?_ | refine zds ?_ ?_) <;> (intro h; first | (exfalso; simp at h; omega) | ((try simp only [h]); (try simp at h))))
  refine awp_for [8, 9] [900] (fun i : Nat => [(10, nt .i64 i), (3, .ref 900 0 (csT (l.take i)).length)]) (fun i : Nat => [(900, ⟨true, false, false, 1, (csT (l.take i)).map eStr, 0⟩)]) (fun i : Nat => l.length - i) (fun i : Nat => i ≤ l.length) (0) (by refine Le.trans ?_ (Le.nil (i := 3) (T := 900) (es := 1) rfl); exact (Le.sub4 rfl (by simp [go_sem, csT_nil, List.take_zero, List.map_nil]))) ⟨?_⟩ ?_
  · exact Nat.zero_le _
  intro i hi AA hAA; simp only [kL, Nat.reduceBEq, Nat.reduceEqDiff, if_true, if_false, List.cons_append, List.nil_append, List.append_nil]
  by_cases hlt : i < l.length
  · have hB := hAA
    have hlv := lvsS_get hlt
    have hcl := leaves_ok l[i] (by omega)
    have hn := csT_next hlt
    have hl0 := csT_le (l.take i)
    have hl2 := lvsS_take_le l (i + 1)
    rw [lvsS_next hlt, List.length_append] at hl2
    generalize csT (l.take i) = A at *
    generalize lvs l[i] = L at *
    repeat' (first | (refine awK fun _ _ => ?_) | refine Hide.go (by assumption) ?_ | (first | refine zqd ?_ ?_ | refine zqn ?_ ?_ | refine zgd ?_ ?_ | refine zgn ?_ ?_ | refine zdd ?_ ?_ | refine zdn ?_ ?_) <;> (intro h; first | (exfalso; omega) | (simp only [h, decide_true, decide_false, not_false_eq_true]) | skip) | refine end_ret [] ?_; simp [go_sem, hlt] | refine stepK_is rfl (hcl) (by simp) ?_ | refine dstepK_is rfl (hcl) rfl (by simp) ?_ | (fail_if_success with_reducible (refine Owe.mk ?_)); (simp (disch := omega) [go_sem, hlt]) | refine And.intro (by omega) ?_ | refine And.intro (And.intro (by assumption) (by omega)) ?_ | (refine nbI fun bq => ?_) | (first | refine zqm ?_ ?_ | refine zgm ?_ ?_ | refine zdm ?_ ?_) <;> (intro h; simp only [h, Bool.not_true, Bool.not_false]) | (first | refine zqs ?_ ?_ | refine zgs ?_ ?_ | refine zds ?_ ?_) <;> (intro h; first | (exfalso; simp at h; omega) | ((try simp only [h]); (try simp at h))))
    refine awp_for [8, 9, 10, 15, 16] [900, 5] (fun j : Nat => [(17, nt .i64 j), (3, .ref 900 0 (fdC A L j).length)]) (fun j : Nat => [(900, ⟨true, false, false, 1, (fdC A L j).map eStr, 0⟩)]) (fun j : Nat => L.length - j) (fun j : Nat => j ≤ L.length) (0) (Le.renSub [] [] (by simp [go_sem, fdC_zero]) (by simp [go_sem, fdC_zero]) (Le.sub4 rfl (by simp [go_sem, fdC_zero]))) ⟨?_⟩ ?_
    · exact Nat.zero_le _
    intro j hj AA hAA; simp only [kL, Nat.reduceBEq, Nat.reduceEqDiff, if_true, if_false, List.cons_append, List.nil_append, List.append_nil]
    by_cases hjl : j < L.length
    · have h1 := Name_ok L[j]
      have h2 := number_ok L[j]
      have hz := fdC_next (A := A) hjl
      have hfl := fdC_le A L j
      have hcs : constS L[j] = (nameS L[j] || (numS L[j]).2) := rfl
      generalize fdC A L j = X at *
      cases hv : nameS L[j] with
      | true =>
        rw [hv] at h1
        rw [hcs, hv, Bool.true_or, if_pos rfl] at hz
        repeat' (first | (refine awK fun _ _ => ?_) | refine Hide.go (by assumption) ?_ | (first | refine zqd ?_ ?_ | refine zqn ?_ ?_ | refine zgd ?_ ?_ | refine zgn ?_ ?_ | refine zdd ?_ ?_ | refine zdn ?_ ?_) <;> (intro h; first | (exfalso; omega) | (simp only [h, decide_true, decide_false, not_false_eq_true]) | skip) | refine end_ret [] ?_; simp [go_sem, hjl, eStr] | refine stepK_is rfl (h1) (by simp) ?_ | refine dstepK_is rfl (h1) rfl (by simp) ?_ | refine stepK_is rfl (h2) (by simp) ?_ | refine dstepK_is rfl (h2) rfl (by simp) ?_ | refine (hAA.next (j + 1) (Le.sub4 rfl (by simp [go_sem, hz, eStr])) (by (try dsimp only); omega) ?_) | (fail_if_success with_reducible (refine Owe.mk ?_)); (simp (disch := omega) [go_sem, hjl, eStr]) | refine And.intro (by omega) ?_ | refine And.intro (And.intro (by assumption) (by omega)) ?_ | (refine nbI fun bq => ?_) | (first | refine zqm ?_ ?_ | refine zgm ?_ ?_ | refine zdm ?_ ?_) <;> (intro h; simp only [h, Bool.not_true, Bool.not_false]) | (first | refine zqs ?_ ?_ | refine zgs ?_ ?_ | refine zds ?_ ?_) <;> (intro h; first | (exfalso; simp at h; omega) | ((try simp only [h]); (try simp at h))))
        all_goals (first | omega | skip)
        exact ⟨hjl⟩
      | false =>
        rw [hv] at h1
        cases hm : (numS L[j]).2 with
        | true =>
          rw [hm] at h2
          rw [hcs, hv, hm, Bool.false_or, if_pos rfl] at hz
          repeat' (first | (refine awK fun _ _ => ?_) | refine Hide.go (by assumption) ?_ | (first | refine zqd ?_ ?_ | refine zqn ?_ ?_ | refine zgd ?_ ?_ | refine zgn ?_ ?_ | refine zdd ?_ ?_ | refine zdn ?_ ?_) <;> (intro h; first | (exfalso; omega) | (simp only [h, decide_true, decide_false, not_false_eq_true]) | skip) | refine end_ret [] ?_; simp [go_sem, hjl, eStr] | refine stepK_is rfl (h1) (by simp) ?_ | refine dstepK_is rfl (h1) rfl (by simp) ?_ | refine stepK_is rfl (h2) (by simp) ?_ | refine dstepK_is rfl (h2) rfl (by simp) ?_ | refine (hAA.next (j + 1) (Le.sub4 rfl (by simp [go_sem, hz, eStr])) (by (try dsimp only); omega) ?_) | (fail_if_success with_reducible (refine Owe.mk ?_)); (simp (disch := omega) [go_sem, hjl, eStr]) | refine And.intro (by omega) ?_ | refine And.intro (And.intro (by assumption) (by omega)) ?_ | (refine nbI fun bq => ?_) | (first | refine zqm ?_ ?_ | refine zgm ?_ ?_ | refine zdm ?_ ?_) <;> (intro h; simp only [h, Bool.not_true, Bool.not_false]) | (first | refine zqs ?_ ?_ | refine zgs ?_ ?_ | refine zds ?_ ?_) <;> (intro h; first | (exfalso; simp at h; omega) | ((try simp only [h]); (try simp at h))))
          all_goals (first | omega | skip)
          exact ⟨hjl⟩
        | false =>
          rw [hm] at h2
          rw [hcs, hv, hm, Bool.false_or, if_neg (by decide), List.append_nil] at hz
          repeat' (first | (refine awK fun _ _ => ?_) | refine Hide.go (by assumption) ?_ | (first | refine zqd ?_ ?_ | refine zqn ?_ ?_ | refine zgd ?_ ?_ | refine zgn ?_ ?_ | refine zdd ?_ ?_ | refine zdn ?_ ?_) <;> (intro h; first | (exfalso; omega) | (simp only [h, decide_true, decide_false, not_false_eq_true]) | skip) | refine end_ret [] ?_; simp [go_sem, hjl, eStr] | refine stepK_is rfl (h1) (by simp) ?_ | refine dstepK_is rfl (h1) rfl (by simp) ?_ | refine stepK_is rfl (h2) (by simp) ?_ | refine dstepK_is rfl (h2) rfl (by simp) ?_ | refine (hAA.next (j + 1) (Le.sub4 rfl (by simp [go_sem, hz])) (by (try dsimp only); omega) ?_) | (fail_if_success with_reducible (refine Owe.mk ?_)); (simp (disch := omega) [go_sem, hjl, eStr]) | refine And.intro (by omega) ?_ | refine And.intro (And.intro (by assumption) (by omega)) ?_ | (refine nbI fun bq => ?_) | (first | refine zqm ?_ ?_ | refine zgm ?_ ?_ | refine zdm ?_ ?_) <;> (intro h; simp only [h, Bool.not_true, Bool.not_false]) | (first | refine zqs ?_ ?_ | refine zgs ?_ ?_ | refine zds ?_ ?_) <;> (intro h; first | (exfalso; simp at h; omega) | ((try simp only [h]); (try simp at h))))
          all_goals (first | omega | skip)
          exact ⟨hjl⟩
    · obtain rfl : j = L.length := by omega
      rw [fdC_all, ← hn]
      repeat' (first | (refine awK fun _ _ => ?_) | refine Hide.go (by assumption) ?_ | (first | refine zqd ?_ ?_ | refine zqn ?_ ?_ | refine zgd ?_ ?_ | refine zgn ?_ ?_ | refine zdd ?_ ?_ | refine zdn ?_ ?_) <;> (intro h; first | (exfalso; omega) | (simp only [h, decide_true, decide_false, not_false_eq_true]) | skip) | refine end_ret [] ?_; simp [go_sem] | refine (hB.next (i + 1) (Le.sub4 rfl (by simp [go_sem])) (by (try dsimp only); omega) ?_) | (fail_if_success with_reducible (refine Owe.mk ?_)); (simp (disch := omega) [go_sem]) | refine And.intro (by omega) ?_ | refine And.intro (And.intro (by assumption) (by omega)) ?_ | (refine nbI fun bq => ?_) | (first | refine zqm ?_ ?_ | refine zgm ?_ ?_ | refine zdm ?_ ?_) <;> (intro h; simp only [h, Bool.not_true, Bool.not_false]) | (first | refine zqs ?_ ?_ | refine zgs ?_ ?_ | refine zds ?_ ?_) <;> (intro h; first | (exfalso; simp at h; omega) | ((try simp only [h]); (try simp at h))))
      all_goals (first | omega | skip)
      exact ⟨hlt⟩
  · obtain rfl : i = l.length := by omega
    rw [List.take_length]
    have hcl := csT_le l
    have hso := SortFunc_ok (csT l) (by omega)
    have hfin : ∀ m : List ByteArray, m.Perm (csT l) → m.Pairwise (fun x y => cmpS x y ≤ 0) → cpt m = cstT l := fun m => cpt_cst
    generalize csT l = K at *
    repeat' (first | (refine awK fun _ _ => ?_) | refine Hide.go (by assumption) ?_ | (first | refine zqd ?_ ?_ | refine zqn ?_ ?_ | refine zgd ?_ ?_ | refine zgn ?_ ?_ | refine zdd ?_ ?_ | refine zdn ?_ ?_) <;> (intro h; first | (exfalso; omega) | (simp only [h, decide_true, decide_false, not_false_eq_true]) | skip) | refine end_ret [] ?_; simp [go_sem] | (fail_if_success with_reducible (refine Owe.mk ?_)); (simp (disch := omega) [go_sem]) | refine And.intro (by omega) ?_ | refine And.intro (And.intro (by assumption) (by omega)) ?_ | (refine nbI fun bq => ?_) | (first | refine zqm ?_ ?_ | refine zgm ?_ ?_ | refine zdm ?_ ?_) <;> (intro h; simp only [h, Bool.not_true, Bool.not_false]) | (first | refine zqs ?_ ?_ | refine zgs ?_ ?_ | refine zds ?_ ?_) <;> (intro h; first | (exfalso; simp at h; omega) | ((try simp only [h]); (try simp at h))))
    refine stepK_fex [(1000, 900)] [(900, 1000)] 10000 _ _ (Fits.mk' (by simp [go_sem]) (by simp [go_sem])) (by simp [go_sem]) (by simp [go_sem]) (hso) (by simp [go_sem]) (by intros; simp [go_sem]) ?_; intro m hm
    have hml := hm.1.length_eq
    have hco := Compact_ok m (by omega)
    rw [hfin m hm.1 hm.2] at hco
    have hcl2 : (cstT l).length ≤ m.length := by rw [← hfin m hm.1 hm.2]; exact cpt_len _ _
    rw [← hml]
    generalize cstT l = Z at *
    repeat' (first | (refine awK fun _ _ => ?_) | refine Hide.go (by assumption) ?_ | (first | refine zqd ?_ ?_ | refine zqn ?_ ?_ | refine zgd ?_ ?_ | refine zgn ?_ ?_ | refine zdd ?_ ?_ | refine zdn ?_ ?_) <;> (intro h; first | (exfalso; omega) | (simp only [h, decide_true, decide_false, not_false_eq_true]) | skip) | refine end_ret [] ?_; simp [go_sem] | (fail_if_success with_reducible (refine Owe.mk ?_)); (simp (disch := omega) [go_sem]) | refine And.intro (by omega) ?_ | refine And.intro (And.intro (by assumption) (by omega)) ?_ | (refine nbI fun bq => ?_) | (first | refine zqm ?_ ?_ | refine zgm ?_ ?_ | refine zdm ?_ ?_) <;> (intro h; simp only [h, Bool.not_true, Bool.not_false]) | (first | refine zqs ?_ ?_ | refine zgs ?_ ?_ | refine zds ?_ ?_) <;> (intro h; first | (exfalso; simp at h; omega) | ((try simp only [h]); (try simp at h))))
    refine stepK_fis [(1000, 900)] [(900, 1000)] 20000 _ _ (Fits.mk' (by simp [go_sem]) (by simp [go_sem])) (by simp [go_sem]) (by simp [go_sem]) (hco) (by simp [go_sem]) (by simp [go_sem]) ?_
    repeat' (first | (refine awK fun _ _ => ?_) | refine Hide.go (by assumption) ?_ | (first | refine zqd ?_ ?_ | refine zqn ?_ ?_ | refine zgd ?_ ?_ | refine zgn ?_ ?_ | refine zdd ?_ ?_ | refine zdn ?_ ?_) <;> (intro h; first | (exfalso; omega) | (simp only [h, decide_true, decide_false, not_false_eq_true]) | skip) | refine end_ret [] ?_; simp [go_sem] | (fail_if_success with_reducible (refine Owe.mk ?_)); (simp (disch := omega) [go_sem]) | refine And.intro (by omega) ?_ | refine And.intro (And.intro (by assumption) (by omega)) ?_ | (refine nbI fun bq => ?_) | (first | refine zqm ?_ ?_ | refine zgm ?_ ?_ | refine zdm ?_ ?_) <;> (intro h; simp only [h, Bool.not_true, Bool.not_false]) | (first | refine zqs ?_ ?_ | refine zgs ?_ ?_ | refine zds ?_ ?_) <;> (intro h; first | (exfalso; simp at h; omega) | ((try simp only [h]); (try simp at h))))
open Go.Ab
set_option maxRecDepth 100000
set_option maxHeartbeats 8000000
theorem sortT_len (l : List Tm) : (sortT l).length ≤ l.length := by
  have h1 : (sortT l).Nodup := by
    refine List.Pairwise.imp (fun {a b} h => ?_) (sort_asc l)
    rintro rfl
    rw [cmp_self] at h; omega
  exact List.Nodup.length_le_of_subset h1 fun x hx => (sort_mem l x).1 hx
def eLf (s : ByteArray) : AV := .agg [.sc (.string s), .list false true []]
theorem RV_lfs {F : Bool → Facts} {loc : Nat → Option LI} {S : List ByteArray} {a b : Bool} {v : Value} (h : RV F loc (.list a b (S.map eLf)) v) : RV F loc (.list a b ((S.map leafC).map eTm)) v := by
  have hg : ∀ (i : Nat) (y : AV), ((S.map leafC).map eTm)[i]? = some y → ∃ s, (S.map eLf)[i]? = some (eLf s) ∧ y = .agg [.sc (.string s), .list false false []] := fun i y hy => by
    simp only [List.getElem?_map, Option.map_eq_some_iff] at hy
    obtain ⟨t, ⟨s, hs, rfl⟩, rfl⟩ := hy
    exact ⟨s, by simp [hs], rfl⟩
  have hl : ((S.map leafC).map eTm).length = (S.map eLf).length := by simp
  generalize hx : S.map eLf = xs at h hg hl
  cases h with
  | nil =>
    have : (S.map leafC).map eTm = [] := List.eq_nil_of_length_eq_zero hl
    rw [this]; exact .nil
  | @list _ _ _ _ _ _ o o' cap es f h1 h2 h3 h4 h5 h6 h7 h8 =>
    rw [← hl]
    have hcell : ∀ (i : Nat) (y : AV) (j : Nat) (z : AV), ((S.map leafC).map eTm)[i]? = some y → y.cells[j]? = some z → ∃ s y' z', xs[i]? = some y' ∧ y'.cells[j]? = some z' ∧ (∀ (F : Bool → Facts) (loc : Nat → Option LI) (v : Value), RV F loc z' v → RV F loc z v) := fun i y j z hy hz => by
      obtain ⟨s, h, rfl⟩ := hg i y hy
      rcases j with _ | _ | j
      · simp [AV.cells] at hz; subst hz
        exact ⟨s, _, .sc (.string s), h, rfl, fun _ _ _ h => h⟩
      · simp [AV.cells] at hz; subst hz
        exact ⟨s, _, .list false true [], h, rfl, fun _ _ _ h => h.void rfl⟩
      · simp [AV.cells] at hz
    refine .list (es := es) (f := f) (o := o) (fun y hy => ?_) (by rw [hl]; exact h2) (by rw [hl]; exact h3) (fun h => by rw [hl]; exact h4 h) (fun hne => h5 fun e => hne ?_) (fun i y j z hy hz => ?_) (fun i y j z hy hz => ?_) (fun i y j z hy hz => ?_)
    · obtain ⟨i, hi, rfl⟩ := List.mem_iff_getElem.1 hy
      obtain ⟨s, h, e⟩ := hg i _ (List.getElem?_eq_getElem hi)
      rw [e]
      have := h1 _ (List.mem_of_getElem? h)
      simpa [AV.cells, eLf] using this
    · apply List.eq_nil_of_length_eq_zero
      rw [hl, e]; rfl
    · obtain ⟨s, y', z', h, hz', _⟩ := hcell i y j z hy hz
      exact h6 i y' j z' h hz'
    · obtain ⟨s, y', z', h, hz', hr⟩ := hcell i y j z hy hz
      exact hr _ _ _ (h7 i y' j z' h hz')
    · obtain ⟨s, y', z', h, hz', _⟩ := hcell i y j z hy hz
      exact h8 i y' j z' h hz'
theorem refSort_lfs (S : List ByteArray) (a b : Bool) (hb : S.length ≤ 1000000) : ACall Try.prog 36 [.list a b (S.map eLf)] (fun r => r = .list false false ((sortT (S.map leafC)).map eTm)) := by
  refine (refSortF_ok (S.map leafC) a b (by rw [List.length_map]; exact hb)).args rfl fun F i p q v hp hq h => ?_
  rcases i with _ | i
  · simp at hp hq; subst hp; subst hq
    have := RV_lfs h
    simpa using this
  · simp at hp
def nmS (S : List Tm) (k : Nat) : List ByteArray := (S.take k).map Tm.name
theorem nmS_zero (S : List Tm) : nmS S 0 = [] := rfl
theorem nmS_all (S : List Tm) : nmS S S.length = S.map Tm.name := by unfold nmS; rw [List.take_length]
theorem nmS_next {S : List Tm} {k : Nat} (h : k < S.length) : nmS S (k + 1) = nmS S k ++ [S[k].name] := by
  unfold nmS; rw [take_next h, List.map_append]; rfl
theorem nmS_len {S : List Tm} {k : Nat} (h : k ≤ S.length) : (nmS S k).length = k := by unfold nmS; simp; omega
theorem refConstants_ok (l : List Tm) (le fu : Bool) (hb : (lvsS l).length ≤ 1000000) : ACall Try.prog 43 [.list le fu (l.map eTm)] (fun r => r = .own 1 ((cstT l).map eStr)) := by
  have hge := lvsS_ge l
  obtain ⟨S, hS⟩ : ∃ S, S = sortT ((csT l).map leafC) := ⟨_, rfl⟩
  have hcst : cstT l = nmS S S.length := by rw [nmS_all, hS]; rfl
  rw [hcst]
  clear hcst
  refine ACall.own_nil ?_
  refine acall_of_awp Try.func43 Try.call43 rfl (by simp [Try.ntmps43]) ?_; simp only [Try.ntmps43, Try.results43]
  repeat' (first | (refine awK fun _ _ => ?_) | refine Hide.go (by assumption) ?_ | (first | refine zqd ?_ ?_ | refine zqn ?_ ?_ | refine zgd ?_ ?_ | refine zgn ?_ ?_ | refine zdd ?_ ?_ | refine zdn ?_ ?_) <;> (intro h; first | (exfalso; omega) | (simp only [h, decide_true, decide_false, not_false_eq_true]) | skip) | refine end_ret [] ?_; simp [go_sem] | (fail_if_success with_reducible (refine Owe.mk ?_)); (simp (disch := omega) [go_sem]) | refine And.intro (by omega) ?_ | refine And.intro (And.intro (by assumption) (by omega)) ?_ | (refine nbI fun bq => ?_) | (first | refine zqm ?_ ?_ | refine zgm ?_ ?_ | refine zdm ?_ ?_) <;> (intro h; simp only [h, Bool.not_true, Bool.not_false]) | (first | refine zqs ?_ ?_ | refine zgs ?_ ?_ | refine zds ?_ ?_) <;> (intro h; first | (exfalso; simp at h; omega) | ((try simp only [h]); (try simp at h))))
  refine awp_for [0, 10] [900] (fun i : Nat => [(11, nt .i64 i), (3, .ref 900 0 (csT (l.take i)).length)]) (fun i : Nat => [(900, ⟨true, false, false, 2, (csT (l.take i)).map eLf, 0⟩)]) (fun i : Nat => l.length - i) (fun i : Nat => i ≤ l.length) (0) (by refine Le.trans ?_ (Le.nil (i := 3) (T := 900) (es := 2) rfl); exact (Le.sub4 rfl (by simp [go_sem, csT_nil, List.take_zero, List.map_nil]))) ⟨?_⟩ ?_
  · exact Nat.zero_le _
  intro i hi AA hAA; simp only [kL, Nat.reduceBEq, Nat.reduceEqDiff, if_true, if_false, List.cons_append, List.nil_append, List.append_nil]
  by_cases hlt : i < l.length
  · have hB := hAA
    have hlv := lvsS_get hlt
    have hcl := refLeaves_ok l[i] (by omega)
    have hn := csT_next hlt
    have hl0 := csT_le (l.take i)
    have hl2 := lvsS_take_le l (i + 1)
    rw [lvsS_next hlt, List.length_append] at hl2
    generalize csT (l.take i) = A at *
    generalize lvs l[i] = L at *
    repeat' (first | (refine awK fun _ _ => ?_) | refine Hide.go (by assumption) ?_ | (first | refine zqd ?_ ?_ | refine zqn ?_ ?_ | refine zgd ?_ ?_ | refine zgn ?_ ?_ | refine zdd ?_ ?_ | refine zdn ?_ ?_) <;> (intro h; first | (exfalso; omega) | (simp only [h, decide_true, decide_false, not_false_eq_true]) | skip) | refine end_ret [] ?_; simp [go_sem, hlt] | refine stepK_is rfl (hcl) (by simp) ?_ | refine dstepK_is rfl (hcl) rfl (by simp) ?_ | (fail_if_success with_reducible (refine Owe.mk ?_)); (simp (disch := omega) [go_sem, hlt]) | refine And.intro (by omega) ?_ | refine And.intro (And.intro (by assumption) (by omega)) ?_ | (refine nbI fun bq => ?_) | (first | refine zqm ?_ ?_ | refine zgm ?_ ?_ | refine zdm ?_ ?_) <;> (intro h; simp only [h, Bool.not_true, Bool.not_false]) | (first | refine zqs ?_ ?_ | refine zgs ?_ ?_ | refine zds ?_ ?_) <;> (intro h; first | (exfalso; simp at h; omega) | ((try simp only [h]); (try simp at h))))
    refine awp_for [0, 5, 10, 11, 20] [900] (fun j : Nat => [(21, nt .i64 j), (3, .ref 900 0 (fdC A L j).length)]) (fun j : Nat => [(900, ⟨true, false, false, 2, (fdC A L j).map eLf, 0⟩)]) (fun j : Nat => L.length - j) (fun j : Nat => j ≤ L.length) (0) (Le.sub4 rfl (by simp [go_sem, fdC_zero])) ⟨?_⟩ ?_
    · exact Nat.zero_le _
    intro j hj AA hAA; simp only [kL, Nat.reduceBEq, Nat.reduceEqDiff, if_true, if_false, List.cons_append, List.nil_append, List.append_nil]
    by_cases hjl : j < L.length
    · have h1 := fun a b => refConstant_leaf L[j] a b
      have hz := fdC_next (A := A) hjl
      have hfl := fdC_le A L j
      generalize fdC A L j = X at *
      cases hv : constS L[j] with
      | true =>
        rw [hv] at h1
        rw [if_pos hv] at hz
        repeat' (first | (refine awK fun _ _ => ?_) | refine Hide.go (by assumption) ?_ | (first | refine zqd ?_ ?_ | refine zqn ?_ ?_ | refine zgd ?_ ?_ | refine zgn ?_ ?_ | refine zdd ?_ ?_ | refine zdn ?_ ?_) <;> (intro h; first | (exfalso; omega) | (simp only [h, decide_true, decide_false, not_false_eq_true]) | skip) | refine end_ret [] ?_; simp [go_sem, hjl, eStr] | refine stepK_is rfl (h1 _ _) (by simp) ?_ | refine dstepK_is rfl (h1 _ _) rfl (by simp) ?_ | refine (hAA.next (j + 1) (Le.sub4 rfl (by simp [go_sem, hz, eLf])) (by (try dsimp only); omega) ?_) | (fail_if_success with_reducible (refine Owe.mk ?_)); (simp (disch := omega) [go_sem, hjl, eStr]) | refine And.intro (by omega) ?_ | refine And.intro (And.intro (by assumption) (by omega)) ?_ | (refine nbI fun bq => ?_) | (first | refine zqm ?_ ?_ | refine zgm ?_ ?_ | refine zdm ?_ ?_) <;> (intro h; simp only [h, Bool.not_true, Bool.not_false]) | (first | refine zqs ?_ ?_ | refine zgs ?_ ?_ | refine zds ?_ ?_) <;> (intro h; first | (exfalso; simp at h; omega) | ((try simp only [h]); (try simp at h))))
        all_goals (first | omega | skip)
        exact ⟨hjl⟩
      | false =>
        rw [hv] at h1
        rw [if_neg (by simp [hv]), List.append_nil] at hz
        repeat' (first | (refine awK fun _ _ => ?_) | refine Hide.go (by assumption) ?_ | (first | refine zqd ?_ ?_ | refine zqn ?_ ?_ | refine zgd ?_ ?_ | refine zgn ?_ ?_ | refine zdd ?_ ?_ | refine zdn ?_ ?_) <;> (intro h; first | (exfalso; omega) | (simp only [h, decide_true, decide_false, not_false_eq_true]) | skip) | refine end_ret [] ?_; simp [go_sem, hjl, eStr] | refine stepK_is rfl (h1 _ _) (by simp) ?_ | refine dstepK_is rfl (h1 _ _) rfl (by simp) ?_ | refine (hAA.next (j + 1) (Le.sub4 rfl (by simp [go_sem, hz])) (by (try dsimp only); omega) ?_) | (fail_if_success with_reducible (refine Owe.mk ?_)); (simp (disch := omega) [go_sem, hjl, eStr]) | refine And.intro (by omega) ?_ | refine And.intro (And.intro (by assumption) (by omega)) ?_ | (refine nbI fun bq => ?_) | (first | refine zqm ?_ ?_ | refine zgm ?_ ?_ | refine zdm ?_ ?_) <;> (intro h; simp only [h, Bool.not_true, Bool.not_false]) | (first | refine zqs ?_ ?_ | refine zgs ?_ ?_ | refine zds ?_ ?_) <;> (intro h; first | (exfalso; simp at h; omega) | ((try simp only [h]); (try simp at h))))
        all_goals (first | omega | skip)
        exact ⟨hjl⟩
    · obtain rfl : j = L.length := by omega
      rw [fdC_all, ← hn]
      repeat' (first | (refine awK fun _ _ => ?_) | refine Hide.go (by assumption) ?_ | (first | refine zqd ?_ ?_ | refine zqn ?_ ?_ | refine zgd ?_ ?_ | refine zgn ?_ ?_ | refine zdd ?_ ?_ | refine zdn ?_ ?_) <;> (intro h; first | (exfalso; omega) | (simp only [h, decide_true, decide_false, not_false_eq_true]) | skip) | refine end_ret [] ?_; simp [go_sem] | refine (hB.next (i + 1) (Le.sub4 rfl (by simp [go_sem])) (by (try dsimp only); omega) ?_) | (fail_if_success with_reducible (refine Owe.mk ?_)); (simp (disch := omega) [go_sem]) | refine And.intro (by omega) ?_ | refine And.intro (And.intro (by assumption) (by omega)) ?_ | (refine nbI fun bq => ?_) | (first | refine zqm ?_ ?_ | refine zgm ?_ ?_ | refine zdm ?_ ?_) <;> (intro h; simp only [h, Bool.not_true, Bool.not_false]) | (first | refine zqs ?_ ?_ | refine zgs ?_ ?_ | refine zds ?_ ?_) <;> (intro h; first | (exfalso; simp at h; omega) | ((try simp only [h]); (try simp at h))))
      all_goals (first | omega | skip)
      exact ⟨hlt⟩
  · obtain rfl : i = l.length := by omega
    rw [List.take_length]
    have hcl := csT_le l
    have hlenT : True := trivial
    have hso := refSort_lfs (csT l) true false (by omega)
    have hsl := sortT_len ((csT l).map leafC)
    rw [List.length_map] at hsl
    rw [← hS] at hso hsl
    clear hS
    generalize csT l = K at *
    repeat' (first | (refine awK fun _ _ => ?_) | refine Hide.go (by assumption) ?_ | (first | refine zqd ?_ ?_ | refine zqn ?_ ?_ | refine zgd ?_ ?_ | refine zgn ?_ ?_ | refine zdd ?_ ?_ | refine zdn ?_ ?_) <;> (intro h; first | (exfalso; omega) | (simp only [h, decide_true, decide_false, not_false_eq_true]) | skip) | refine end_ret [] ?_; simp [go_sem, hlenT] | refine stepK_is rfl (hso) (by simp) ?_ | refine dstepK_is rfl (hso) rfl (by simp) ?_ | refine stepK_is ?hl (hso) (by simp) ?_; (case hl => (simp [go_sem, hlenT]; done)) | refine dstepK_is ?hl (hso) rfl (by simp) ?_; (case hl => (simp [go_sem, hlenT]; done)) | (fail_if_success with_reducible (refine Owe.mk ?_)); (simp (disch := omega) [go_sem, hlenT]) | refine And.intro (by omega) ?_ | refine And.intro (And.intro (by assumption) (by omega)) ?_ | (refine nbI fun bq => ?_) | (first | refine zqm ?_ ?_ | refine zgm ?_ ?_ | refine zdm ?_ ?_) <;> (intro h; simp only [h, Bool.not_true, Bool.not_false]) | (first | refine zqs ?_ ?_ | refine zgs ?_ ?_ | refine zds ?_ ?_) <;> (intro h; first | (exfalso; simp at h; omega) | ((try simp only [h]); (try simp at h))))
    refine awp_for [43] [901, 900] (fun k : Nat => [(44, nt .i64 k), (3, .list false false (S.map eTm)), (7, .ref 901 0 (nmS S k).length)]) (fun k : Nat => [(901, ⟨true, false, false, 1, (nmS S k).map eStr, 0⟩)]) (fun k : Nat => S.length - k) (fun k : Nat => k ≤ S.length) (0) (by refine Le.trans ?_ (Le.nil (i := 7) (T := 901) (es := 1) rfl); exact (Le.sub4 rfl (by simp [go_sem, nmS_zero, List.map_nil]))) ⟨?_⟩ ?_
    · exact Nat.zero_le _
    intro k hk AA hAA; simp only [kL, Nat.reduceBEq, Nat.reduceEqDiff, if_true, if_false, List.cons_append, List.nil_append, List.append_nil]
    by_cases hkl : k < S.length
    · have hn := nmS_next hkl
      have hnl := nmS_len hk
      generalize nmS S k = A at *
      repeat' (first | (refine awK fun _ _ => ?_) | refine Hide.go (by assumption) ?_ | (first | refine zqd ?_ ?_ | refine zqn ?_ ?_ | refine zgd ?_ ?_ | refine zgn ?_ ?_ | refine zdd ?_ ?_ | refine zdn ?_ ?_) <;> (intro h; first | (exfalso; omega) | (simp only [h, decide_true, decide_false, not_false_eq_true]) | skip) | refine end_ret [] ?_; simp [go_sem, hkl] | refine (hAA.next (k + 1) (Le.sub4 rfl (by simp [go_sem, hn, eStr])) (by (try dsimp only); omega) ?_) | (fail_if_success with_reducible (refine Owe.mk ?_)); (simp (disch := omega) [go_sem, hkl]) | refine And.intro (by omega) ?_ | refine And.intro (And.intro (by assumption) (by omega)) ?_ | (refine nbI fun bq => ?_) | (first | refine zqm ?_ ?_ | refine zgm ?_ ?_ | refine zdm ?_ ?_) <;> (intro h; simp only [h, Bool.not_true, Bool.not_false]) | (first | refine zqs ?_ ?_ | refine zgs ?_ ?_ | refine zds ?_ ?_) <;> (intro h; first | (exfalso; simp at h; omega) | ((try simp only [h]); (try simp at h))))
      all_goals (first | omega | skip)
      exact ⟨hkl⟩
    · obtain rfl : k = S.length := by omega
      repeat' (first | (refine awK fun _ _ => ?_) | refine Hide.go (by assumption) ?_ | (first | refine zqd ?_ ?_ | refine zqn ?_ ?_ | refine zgd ?_ ?_ | refine zgn ?_ ?_ | refine zdd ?_ ?_ | refine zdn ?_ ?_) <;> (intro h; first | (exfalso; omega) | (simp only [h, decide_true, decide_false, not_false_eq_true]) | skip) | refine end_ret [] ?_; simp [go_sem] | (fail_if_success with_reducible (refine Owe.mk ?_)); (simp (disch := omega) [go_sem]) | refine And.intro (by omega) ?_ | refine And.intro (And.intro (by assumption) (by omega)) ?_ | (refine nbI fun bq => ?_) | (first | refine zqm ?_ ?_ | refine zgm ?_ ?_ | refine zdm ?_ ?_) <;> (intro h; simp only [h, Bool.not_true, Bool.not_false]) | (first | refine zqs ?_ ?_ | refine zgs ?_ ?_ | refine zds ?_ ?_) <;> (intro h; first | (exfalso; simp at h; omega) | ((try simp only [h]); (try simp at h))))
theorem lvs_size' : ∀ t : Tm, (lvs t).length ≤ t.size := by
  refine tm_ind fun t ih => ?_
  obtain ⟨s, ts⟩ := t
  simp only [args_mk] at ih
  rw [lvs_mk, Tm.size]
  split
  · simp
  · rename_i h0; clear h0
    induction ts with
    | nil => simp [lvsS]
    | cons u r ih2 =>
      have h1 := ih u (by simp)
      have h2 := ih2 fun v hv => ih v (List.mem_cons_of_mem _ hv)
      simp only [lvsS, sizeL, List.length_append]; omega
theorem lvsS_size {k : Nat} : ∀ {l : List Tm}, (∀ t ∈ l, t.size ≤ k) → (lvsS l).length ≤ k * l.length
  | [], _ => by simp [lvsS]
  | t :: r, h => by
    have h1 := lvs_size' t
    have h2 := h t (by simp)
    have h3 := lvsS_size fun u hu => h u (List.mem_cons_of_mem _ hu)
    simp only [lvsS, List.length_append, List.length_cons, Nat.mul_add, Nat.mul_one]; omega
theorem smallL_leaves {l : List Tm} (h : smallL 40 l = true) : (lvsS l).length ≤ 1600 := by
  unfold smallL at h
  simp only [Bool.and_eq_true, decide_eq_true_eq, List.all_eq_true] at h
  have h1 : ∀ t ∈ l, t.size ≤ 40 := fun t ht => by
    have := smallT_size (by decide) (h.2 t ht)
    omega
  have h2 := lvsS_size h1
  omega
theorem TermLeaves_ok (l : List Tm) (_ : True) : ACall Try.prog 9 [.list false false (l.map eTm)] (fun r => r = bl true) := by
  have hA := awake_ok
  have s1 := small_ok l false false
  cases h1 : smallL 40 l with
  | false =>
    rw [h1] at s1
    refine acall_of_awp Try.func9 Try.call9 rfl (by simp [Try.ntmps9]) ?_; simp only [Try.ntmps9, Try.results9]
    repeat' (first | (refine awK fun _ _ => ?_) | refine Hide.go (by assumption) ?_ | (first | refine zqd ?_ ?_ | refine zqn ?_ ?_ | refine zgd ?_ ?_ | refine zgn ?_ ?_ | refine zdd ?_ ?_ | refine zdn ?_ ?_) <;> (intro h; first | (exfalso; omega) | (simp only [h, decide_true, decide_false, not_false_eq_true]) | skip) | refine end_ret [] ?_; simp [go_sem] | refine stepK_is rfl (s1) (by simp) ?_ | refine dstepK_is rfl (s1) rfl (by simp) ?_ | refine stepK_is rfl (hA) (by simp) ?_ | refine dstepK_is rfl (hA) rfl (by simp) ?_ | (fail_if_success with_reducible (refine Owe.mk ?_)); (simp (disch := omega) [go_sem]) | refine And.intro (by omega) ?_ | refine And.intro (And.intro (by assumption) (by omega)) ?_ | (refine nbI fun bq => ?_) | (first | refine zqm ?_ ?_ | refine zgm ?_ ?_ | refine zdm ?_ ?_) <;> (intro h; simp only [h, Bool.not_true, Bool.not_false]) | (first | refine zqs ?_ ?_ | refine zgs ?_ ?_ | refine zds ?_ ?_) <;> (intro h; first | (exfalso; simp at h; omega) | ((try simp only [h]); (try simp at h))))
  | true =>
    rw [h1] at s1
    have hb := smallL_leaves h1
    have hv := Vars_ok l false false (by omega)
    have hw := refVars_ok l false false (by omega)
    have hc := Constants_ok l false false (by omega)
    have hd := refConstants_ok l false false (by omega)
    have hs := Strings_ok (varsT l) (varsT l) true false true false
    have ht := Strings_ok (cstT l) (cstT l) true false true false
    rw [decide_eq_true rfl] at hs ht
    have hlenT : True := trivial
    generalize varsT l = V at *
    generalize cstT l = C at *
    refine acall_of_awp Try.func9 Try.call9 rfl (by simp [Try.ntmps9]) ?_; simp only [Try.ntmps9, Try.results9]
    repeat' (first | (refine awK fun _ _ => ?_) | refine Hide.go (by assumption) ?_ | (first | refine zqd ?_ ?_ | refine zqn ?_ ?_ | refine zgd ?_ ?_ | refine zgn ?_ ?_ | refine zdd ?_ ?_ | refine zdn ?_ ?_) <;> (intro h; first | (exfalso; omega) | (simp only [h, decide_true, decide_false, not_false_eq_true]) | skip) | refine end_ret [] ?_; simp [go_sem, hlenT] | refine stepK_is rfl (s1) (by simp) ?_ | refine dstepK_is rfl (s1) rfl (by simp) ?_ | refine stepK_is rfl (hv) (by simp) ?_ | refine dstepK_is rfl (hv) rfl (by simp) ?_ | refine stepK_is rfl (hw) (by simp) ?_ | refine dstepK_is rfl (hw) rfl (by simp) ?_ | refine stepK_is rfl (hc) (by simp) ?_ | refine dstepK_is rfl (hc) rfl (by simp) ?_ | refine stepK_is rfl (hd) (by simp) ?_ | refine dstepK_is rfl (hd) rfl (by simp) ?_ | refine stepK_is rfl (hs) (by simp) ?_ | refine dstepK_is rfl (hs) rfl (by simp) ?_ | refine stepK_is rfl (ht) (by simp) ?_ | refine dstepK_is rfl (ht) rfl (by simp) ?_ | refine stepK_is rfl (hA) (by simp) ?_ | refine dstepK_is rfl (hA) rfl (by simp) ?_ | refine stepK_is ?hl (s1) (by simp) ?_; (case hl => (simp [go_sem, hlenT]; done)) | refine stepK_is ?hl (hv) (by simp) ?_; (case hl => (simp [go_sem, hlenT]; done)) | refine stepK_is ?hl (hw) (by simp) ?_; (case hl => (simp [go_sem, hlenT]; done)) | refine stepK_is ?hl (hc) (by simp) ?_; (case hl => (simp [go_sem, hlenT]; done)) | refine stepK_is ?hl (hd) (by simp) ?_; (case hl => (simp [go_sem, hlenT]; done)) | refine stepK_is ?hl (hs) (by simp) ?_; (case hl => (simp [go_sem, hlenT]; done)) | refine stepK_is ?hl (ht) (by simp) ?_; (case hl => (simp [go_sem, hlenT]; done)) | refine stepK_is ?hl (hA) (by simp) ?_; (case hl => (simp [go_sem, hlenT]; done)) | refine dstepK_is ?hl (s1) rfl (by simp) ?_; (case hl => (simp [go_sem, hlenT]; done)) | refine dstepK_is ?hl (hv) rfl (by simp) ?_; (case hl => (simp [go_sem, hlenT]; done)) | refine dstepK_is ?hl (hw) rfl (by simp) ?_; (case hl => (simp [go_sem, hlenT]; done)) | refine dstepK_is ?hl (hc) rfl (by simp) ?_; (case hl => (simp [go_sem, hlenT]; done)) | refine dstepK_is ?hl (hd) rfl (by simp) ?_; (case hl => (simp [go_sem, hlenT]; done)) | refine dstepK_is ?hl (hs) rfl (by simp) ?_; (case hl => (simp [go_sem, hlenT]; done)) | refine dstepK_is ?hl (ht) rfl (by simp) ?_; (case hl => (simp [go_sem, hlenT]; done)) | refine dstepK_is ?hl (hA) rfl (by simp) ?_; (case hl => (simp [go_sem, hlenT]; done)) | (fail_if_success with_reducible (refine Owe.mk ?_)); (simp (disch := omega) [go_sem, hlenT]) | refine And.intro (by omega) ?_ | refine And.intro (And.intro (by assumption) (by omega)) ?_ | (refine nbI fun bq => ?_) | (first | refine zqm ?_ ?_ | refine zgm ?_ ?_ | refine zdm ?_ ?_) <;> (intro h; simp only [h, Bool.not_true, Bool.not_false]) | (first | refine zqs ?_ ?_ | refine zgs ?_ ?_ | refine zds ?_ ?_) <;> (intro h; first | (exfalso; simp at h; omega) | ((try simp only [h]); (try simp at h))))
end Go.Proofs.Ytldecgghhaoliaa
