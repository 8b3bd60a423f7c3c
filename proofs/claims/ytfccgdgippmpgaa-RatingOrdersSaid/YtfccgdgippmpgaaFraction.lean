import Derived.Test.YtfccgdgippmpgaaTy
namespace Go.Proofs.Ytfccgdgippmpgaa
open Go.Ab
theorem mix : Try.prog.follows .mixedOrders = true := by kernel_rfl
theorem divisor_ok (a b : Nat) (ha : a ≤ 18446744073709551615) (hb : b ≤ 18446744073709551615) : ACall Try.prog 56 [nt .u64 a, nt .u64 b] (fun r => r = nt .u64 (Nat.gcd a b)) := by
  refine acall_of_awp Try.func56 Try.call56 rfl (by simp [Try.ntmps56]) ?_
  simp only [Try.ntmps56, Try.results56]
  simp (disch := omega) [go_sem]
  refine awp_loop (fun n s => ∃ x y : Nat, n = y ∧ x ≤ 18446744073709551615 ∧ y ≤ 18446744073709551615 ∧ Nat.gcd x y = Nat.gcd a b ∧ s = { n := 12, t := [(0, nt .u64 x), (1, nt .u64 y)], o := [] }) b { n := 12, t := [(0, nt .u64 a), (1, nt .u64 b)], o := [] } (Le.sub rfl (by simp [go_sem]) (by simp [go_sem]) (by simp [go_sem]) (by simp [go_sem])) ⟨a, b, rfl, ha, hb, rfl, rfl⟩ ?_
  rintro n s ⟨x, y, rfl, hx, hy, hg, rfl⟩
  simp (disch := omega) [go_sem]
  refine condQ_ndec (fun h => ?_) (fun h => ?_)
  · simp (disch := omega) [go_sem]
    refine awp_draw 4 mix (by kernel_rfl) ?_
    simp (disch := omega) [go_sem]
    refine ⟨h, ?_⟩
    refine Again.mk (x % n) { n := 12, t := [(0, nt .u64 n), (1, nt .u64 (x % n : Nat))], o := [] } (Nat.mod_lt _ (by omega)) (Le.sub rfl (by simp [go_sem]) (by simp [go_sem]) (by simp [go_sem]) (by simp [go_sem])) ?_
    refine ⟨n, hy, by have := Nat.mod_lt x (show 0 < n by omega); omega, ?_, rfl⟩
    rw [← hg, Nat.gcd_comm n, ← Nat.gcd_rec, Nat.gcd_comm]
  · simp (disch := omega) [go_sem]
    refine end_ret [] ?_
    subst h
    simp [go_sem]
    have hx2 : x = a.gcd b := by simpa using hg
    rw [hx2]
theorem magnitude_ok (n : Int) (h1 : -9223372036854775808 ≤ n) (h2 : n ≤ 9223372036854775807) : ACall Try.prog 55 [nt .i64 n] (fun r => r = nt .u64 n.natAbs) := by
  refine acall_of_awp Try.func55 Try.call55 rfl (by simp [Try.ntmps55]) ?_
  simp only [Try.ntmps55, Try.results55]
  simp (disch := omega) [go_sem]
  refine condQ_dec (fun h => ?_) (fun h => ?_)
  · simp (disch := omega) [go_sem]
    refine end_ret [] ?_
    simp [go_sem]
    omega
  · simp (disch := omega) [go_sem]
    refine end_ret [] ?_
    simp [go_sem]
    omega
/-- A fraction in lowest terms, as the program makes it: numerator, denominator, error. -/
def mkQ (n d : Int) : Int × Int × Int :=
  if d = 0 then (0, 0, 13)
  else if n.natAbs / Nat.gcd n.natAbs d.natAbs > 1073741824 ∨ d.natAbs / Nat.gcd n.natAbs d.natAbs > 1073741824 then (0, 0, 12)
  else (if decide (n < 0) = decide (d < 0) then (n.natAbs / Nat.gcd n.natAbs d.natAbs : Nat) else -((n.natAbs / Nat.gcd n.natAbs d.natAbs : Nat) : Int), (d.natAbs / Nat.gcd n.natAbs d.natAbs : Nat), 0)
def eF (f : Int × Int × Int) : AV := .tup [.agg [nt .i64 f.1, nt .i64 f.2.1], nt .i64 f.2.2]
def mkF (n d : Int) : AV := eF (mkQ n d)
theorem Make_ok (n d : Int) (h1 : -9223372036854775808 ≤ n) (h2 : n ≤ 9223372036854775807) (hd1 : -9223372036854775808 ≤ d) (hd2 : d ≤ 9223372036854775807) :
    ACall Try.prog 37 [nt .i64 n, nt .i64 d] (fun r => r = mkF n d) := by
  refine acall_of_awp Try.func37 Try.call37 rfl (by simp [Try.ntmps37]) ?_
  simp only [Try.ntmps37, Try.results37]
  generalize hR : (fun r => r = mkF n d) = R
  simp (disch := omega) [go_sem]
  refine condQ_dec (fun h => ?_) (fun h => ?_)
  · simp (disch := omega) [go_sem]
    refine end_ret [] ?_
    simp [go_sem]
    rw [← hR]
    simp [mkF, mkQ, eF, h, nt]
  · simp (disch := omega) [go_sem]
    refine stepK_is rfl (magnitude_ok n h1 h2) (by simp) ?_
    simp (disch := omega) [go_sem]
    refine stepK_is rfl (magnitude_ok d hd1 hd2) (by simp) ?_
    simp (disch := omega) [go_sem]
    refine stepK_is rfl (divisor_ok _ _ (by omega) (by omega)) (by simp) ?_
    have hg : Nat.gcd n.natAbs d.natAbs ≠ 0 := fun e => by have := Nat.gcd_eq_zero_iff.1 e; omega
    obtain ⟨g, hgg⟩ : ∃ g, g = Nat.gcd n.natAbs d.natAbs := ⟨_, rfl⟩
    obtain ⟨x, hx⟩ : ∃ x, x = n.natAbs / g := ⟨_, rfl⟩
    obtain ⟨y, hy⟩ : ∃ y, y = d.natAbs / g := ⟨_, rfl⟩
    rw [← hgg] at hg ⊢
    have hq : x ≤ 9223372036854775808 := by rw [hx]; exact Nat.le_trans (Nat.div_le_self _ _) (by omega)
    have hq2 : y ≤ 9223372036854775808 := by rw [hy]; exact Nat.le_trans (Nat.div_le_self _ _) (by omega)
    have e1 : ((n.natAbs : Int) / (g : Int)) = (x : Int) := by rw [hx]; rfl
    have e2 : ((d.natAbs : Int) / (g : Int)) = (y : Int) := by rw [hy]; rfl
    have hmk : mkQ n d = if x > 1073741824 ∨ y > 1073741824 then (0, 0, 12) else (if decide (n < 0) = decide (d < 0) then (x : Int) else -(x : Int), (y : Int), 0) := by
      simp only [mkQ, if_neg h, ← hgg, ← hx, ← hy]
    rw [mkF, hmk] at hR
    clear hmk hx hy hgg
    simp (disch := omega) [go_sem]
    refine awp_draw 6 mix (by kernel_rfl) ?_
    simp (disch := omega) [go_sem, e1, e2, hg]
    refine gK_dec (fun hx => ?_) (fun hx => ?_)
    · simp (disch := omega) [go_sem, hx]
      refine end_ret [] ?_
      simp [go_sem]
      rw [← hR, if_pos (.inl (by omega))]
      rfl
    · simp (disch := omega) [go_sem, hx]
      refine condQ_dec (fun hy => ?_) (fun hy => ?_)
      · simp (disch := omega) [go_sem]
        refine end_ret [] ?_
        simp [go_sem]
        rw [← hR, if_pos (.inr (by omega))]
        rfl
      · rw [if_neg (by omega)] at hR
        simp (disch := omega) [go_sem]
        refine condQ_split (fun hs => ?_) (fun hs => ?_)
        · simp (disch := omega) [go_sem]
          refine end_ret [] ?_
          simp [go_sem]
          rw [← hR]
          simp at hs
          simp [hs, nt, eF]
        · simp (disch := omega) [go_sem]
          refine end_ret [] ?_
          simp [go_sem]
          rw [← hR]
          simp at hs
          simp [hs, nt, eF]
theorem gcd_ok (a b : Nat) (ha : a ≤ 18446744073709551615) (hb : b ≤ 18446744073709551615) : ACall Try.prog 58 [nt .u64 a, nt .u64 b] (fun r => r = nt .u64 (Nat.gcd a b)) := by
  refine acall_of_awp Try.func58 Try.call58 rfl (by simp [Try.ntmps58]) ?_
  simp only [Try.ntmps58, Try.results58]
  simp (disch := omega) [go_sem]
  refine awp_loop (fun n s => ∃ x y : Nat, n = y ∧ x ≤ 18446744073709551615 ∧ y ≤ 18446744073709551615 ∧ Nat.gcd x y = Nat.gcd a b ∧ s = { n := 12, t := [(0, nt .u64 x), (1, nt .u64 y)], o := [] }) b { n := 12, t := [(0, nt .u64 a), (1, nt .u64 b)], o := [] } (Le.sub rfl (by simp [go_sem]) (by simp [go_sem]) (by simp [go_sem]) (by simp [go_sem])) ⟨a, b, rfl, ha, hb, rfl, rfl⟩ ?_
  rintro n s ⟨x, y, rfl, hx, hy, hg, rfl⟩
  simp (disch := omega) [go_sem]
  refine condQ_dec (fun h => ?_) (fun h => ?_)
  · simp (disch := omega) [go_sem]
    refine awp_draw 4 mix (by kernel_rfl) ?_
    simp (disch := omega) [go_sem]
    refine ⟨by omega, ?_⟩
    refine Again.mk (x % n) { n := 12, t := [(0, nt .u64 n), (1, nt .u64 (x % n : Nat))], o := [] } (Nat.mod_lt _ (by omega)) (Le.sub rfl (by simp [go_sem]) (by simp [go_sem]) (by simp [go_sem]) (by simp [go_sem])) ?_
    refine ⟨n, hy, by have := Nat.mod_lt x (show 0 < n by omega); omega, ?_, rfl⟩
    rw [← hg, Nat.gcd_comm n, ← Nat.gcd_rec, Nat.gcd_comm]
  · simp (disch := omega) [go_sem]
    refine end_ret [] ?_
    obtain rfl : n = 0 := by omega
    simp [go_sem]
    have hx2 : x = a.gcd b := by simpa using hg
    rw [hx2]
theorem size_ok (n : Int) (h1 : -9223372036854775808 ≤ n) (h2 : n ≤ 9223372036854775807) : ACall Try.prog 59 [nt .i64 n] (fun r => r = nt .u64 n.natAbs) := by
  refine acall_of_awp Try.func59 Try.call59 rfl (by simp [Try.ntmps59]) ?_
  simp only [Try.ntmps59, Try.results59]
  simp (disch := omega) [go_sem]
  refine condQ_dec (fun h => ?_) (fun h => ?_)
  · simp (disch := omega) [go_sem]
    refine end_ret [] ?_
    simp [go_sem]
    omega
  · simp (disch := omega) [go_sem]
    refine end_ret [] ?_
    simp [go_sem]
    omega
theorem refMake_ok (n d : Int) (h1 : -9223372036854775808 ≤ n) (h2 : n ≤ 9223372036854775807) (hd1 : -9223372036854775808 ≤ d) (hd2 : d ≤ 9223372036854775807) :
    ACall Try.prog 41 [nt .i64 n, nt .i64 d] (fun r => r = mkF n d) := by
  refine acall_of_awp Try.func41 Try.call41 rfl (by simp [Try.ntmps41]) ?_
  simp only [Try.ntmps41, Try.results41]
  generalize hR : (fun r => r = mkF n d) = R
  simp (disch := omega) [go_sem]
  refine condQ_dec (fun h => ?_) (fun h => ?_)
  · simp (disch := omega) [go_sem]
    refine end_ret [] ?_
    simp [go_sem]
    rw [← hR]
    simp [mkF, mkQ, eF, h, nt]
  · simp (disch := omega) [go_sem]
    refine stepK_is rfl (size_ok n h1 h2) (by simp) ?_
    simp (disch := omega) [go_sem]
    refine stepK_is rfl (size_ok d hd1 hd2) (by simp) ?_
    simp (disch := omega) [go_sem]
    refine stepK_is rfl (gcd_ok _ _ (by omega) (by omega)) (by simp) ?_
    have hg : Nat.gcd n.natAbs d.natAbs ≠ 0 := fun e => by have := Nat.gcd_eq_zero_iff.1 e; omega
    obtain ⟨g, hgg⟩ : ∃ g, g = Nat.gcd n.natAbs d.natAbs := ⟨_, rfl⟩
    obtain ⟨x, hx⟩ : ∃ x, x = n.natAbs / g := ⟨_, rfl⟩
    obtain ⟨y, hy⟩ : ∃ y, y = d.natAbs / g := ⟨_, rfl⟩
    rw [← hgg] at hg ⊢
    have hq : x ≤ 9223372036854775808 := by rw [hx]; exact Nat.le_trans (Nat.div_le_self _ _) (by omega)
    have hq2 : y ≤ 9223372036854775808 := by rw [hy]; exact Nat.le_trans (Nat.div_le_self _ _) (by omega)
    have e1 : ((n.natAbs : Int) / (g : Int)) = (x : Int) := by rw [hx]; rfl
    have e2 : ((d.natAbs : Int) / (g : Int)) = (y : Int) := by rw [hy]; rfl
    have hmk : mkQ n d = if x > 1073741824 ∨ y > 1073741824 then (0, 0, 12) else (if decide (n < 0) = decide (d < 0) then (x : Int) else -(x : Int), (y : Int), 0) := by
      simp only [mkQ, if_neg h, ← hgg, ← hx, ← hy]
    rw [mkF, hmk] at hR
    clear hmk hx hy hgg
    simp (disch := omega) [go_sem]
    refine awp_draw 8 mix (by kernel_rfl) ?_
    simp (disch := omega) [go_sem]
    refine dstepK_is rfl (size_ok n h1 h2) rfl (by simp) ?_
    simp (disch := omega) [go_sem, e1, hg]
    refine dstepK_is rfl (size_ok d hd1 hd2) rfl (by simp) ?_
    simp (disch := omega) [go_sem, e2, hg]
    refine gK_dec (fun hx => ?_) (fun hx => ?_)
    · simp (disch := omega) [go_sem, hx]
      refine end_ret [] ?_
      simp [go_sem]
      rw [← hR, if_pos (.inl (by omega))]
      rfl
    · simp (disch := omega) [go_sem, hx]
      refine condQ_dec (fun hy => ?_) (fun hy => ?_)
      · simp (disch := omega) [go_sem]
        refine end_ret [] ?_
        simp [go_sem]
        rw [← hR, if_pos (.inr (by omega))]
        rfl
      · rw [if_neg (by omega)] at hR
        simp (disch := omega) [go_sem]
        refine condQ_split (fun hs => ?_) (fun hs => ?_)
        · simp (disch := omega) [go_sem]
          refine end_ret [] ?_
          simp [go_sem]
          rw [← hR]
          simp at hs
          simp [hs, nt, eF]
        · simp (disch := omega) [go_sem]
          refine end_ret [] ?_
          simp [go_sem]
          rw [← hR]
          simp at hs
          simp [hs, nt, eF]
end Go.Proofs.Ytfccgdgippmpgaa
