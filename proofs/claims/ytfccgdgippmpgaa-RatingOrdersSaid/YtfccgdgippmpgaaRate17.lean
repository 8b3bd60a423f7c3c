/-
  Rate17: a match of two: the plain law.
-/
import Derived.Test.YtfccgdgippmpgaaRate13
import Derived.Test.YtfccgdgippmpgaaRate16
namespace Go.Proofs.Ytfccgdgippmpgaa
open Go.Ab
set_option linter.unusedSimpArgs false
set_option maxRecDepth 100000
theorem mk_val {n m : Int} (hm : 0 < m ∧ m ≤ 1073741824) (hn : -1073741824 ≤ n ∧ n ≤ 1073741824) : ∃ u v, mkQ n m = (u, v, 0) ∧ 0 < v ∧ u * m = n * v ∧ okF u v = true ∧ sm u ∧ sm v := by
  obtain ⟨M, rfl⟩ : ∃ M : Nat, m = M := ⟨m.natAbs, by omega⟩
  obtain ⟨g, u, v, h1, h2, h3, hg, hv, h4⟩ := mk_parts (n := n) (m := M) (by omega) (by omega) hn
  have hu : u ≤ n.natAbs := by rw [h1]; exact Nat.le_mul_of_pos_left _ hg
  have hv2 : v ≤ M := by rw [h2]; exact Nat.le_mul_of_pos_left _ hg
  have e : (if n < 0 then -(u : Int) else u).natAbs = u := by split <;> omega
  refine ⟨_, _, h4, by omega, ?_, ?_, ?_, ?_⟩
  · have e1 : (n.natAbs : Int) = g * u := by rw [h1]; simp
    have e2 : (M : Int) = g * v := by rw [h2]; simp
    rw [e2]
    split
    · have : n = -(g * u) := by omega
      rw [this]; grind
    · have : n = g * u := by omega
      rw [this]; grind
  · rw [okF_iff, e]
    refine ⟨by omega, by omega, ?_, ?_, by simpa using h3⟩
    · split <;> omega
    · split <;> omega
  · unfold sm; split <;> omega
  · unfold sm; omega
/-- A valid number of hundredths. -/
theorem cts_val {n d : Int} (h : (cts n d).2 = true) : okF n d = true ∧ 0 < d ∧ d ≤ 100 ∧ 100 * n = (cts n d).1 * d ∧ sm n ∧ sm d := by
  unfold cts at *
  split at h
  · rename_i hc
    rw [if_pos hc]
    obtain ⟨d1, d2, n1, n2, hg⟩ := okF_iff.1 hc.1
    refine ⟨hc.1, by omega, ?_, ?_, ⟨n1, n2⟩, ⟨by omega, by omega⟩⟩
    · rcases Int.lt_or_le 100 d with h1 | h1
      · have : (100 : Int) % d = 100 := Int.emod_eq_of_lt (by omega) h1
        rw [this] at hc; have := hc.2; omega
      · exact h1
    · dsimp only
      have : 100 / d * d = 100 := Int.ediv_mul_cancel (Int.dvd_of_emod_eq_zero hc.2)
      rw [Int.mul_assoc, this]; omega
  · simp at h
theorem mul_le1 {a b c : Int} (h : a ≤ b) (hc : 0 ≤ c) : a * c ≤ b * c := Int.mul_le_mul_of_nonneg_right h hc
theorem ord_nonneg {a b : Int} : 0 ≤ ord a b ↔ b ≤ a := by unfold ord; split <;> (try split) <;> omega
theorem ord_neg {a b : Int} : ord a b < 0 ↔ a < b := by unfold ord; split <;> (try split) <;> omega
theorem ord_pos {a b : Int} : 0 < ord a b ↔ b < a := by unfold ord; split <;> (try split) <;> omega
/-- Hundredths, compared. -/
theorem cmp_cents {n d m e a b : Int} (h1 : 100 * n = a * d) (h2 : 100 * m = b * e) (hd : 0 < d) (he : 0 < e) (h : a ≤ b) : n * e ≤ m * d := by
  have h3 := mul_le1 h (show 0 ≤ d * e from Int.le_of_lt (Int.mul_pos hd he))
  have e1 : a * (d * e) = 100 * (n * e) := by grind
  have e2 : b * (d * e) = 100 * (m * d) := by grind
  omega
/-- What the match of two leaves. -/
structure Two (a b : Rt) (p q : Int × Int) (O : List Rt) : Prop where
  ca : (cts a.n a.d).2 = true
  cb : (cts b.n b.d).2 = true
  cp : (cts p.1 p.2).2 = true
  cq : (cts q.1 q.2).2 = true
  pr : 0 ≤ (cts p.1 p.2).1 ∧ (cts p.1 p.2).1 ≤ 100
  qr : 0 ≤ (cts q.1 q.2).1 ∧ (cts q.1 q.2).1 ≤ 100
  ra : rgt { a with p := 0 } = true
  rb : rgt { b with p := 1 } = true
  out : ∃ x y, O = [x, y] ∧ x.ok ∧ y.ok ∧ x.c = (cts a.n a.d).1 - tr (cts q.1 q.2).1 (cts p.1 p.2).1 (cts b.n b.d).1 (cts a.n a.d).1 2 ∧
    y.c = (cts b.n b.d).1 + tr (cts q.1 q.2).1 (cts p.1 p.2).1 (cts b.n b.d).1 (cts a.n a.d).1 2 ∧ mkQ x.c 100 = (x.n, x.d, 0) ∧ mkQ y.c 100 = (y.n, y.d, 0)
theorem two_facts {a b : Rt} {p q : Int × Int} {O : List Rt} (h : upd [{ a with p := 0 }, { b with p := 1 }] [⟨1, q.1, q.2⟩, ⟨0, p.1, p.2⟩] = (0, O)) (ha : Rt.ok a) (hb : Rt.ok b) : Two a b p q O := by
  have hl : ∀ r ∈ [({ a with p := 0 } : Rt), { b with p := 1 }], r.ok := by
    intro r hr
    simp only [List.mem_cons, List.not_mem_nil, or_false] at hr
    rcases hr with rfl | rfl
    · exact ⟨by dsimp only; omega, ha.n, ha.d, ha.g⟩
    · exact ⟨by dsimp only; omega, hb.n, hb.d, hb.g⟩
  have F := upd_facts h hl
  obtain ⟨_, hrg, _⟩ := chk_facts F.chk
  obtain ⟨_, _, hpt, _⟩ := scB_facts F.sc
  have ra : rgt { a with p := 0 } = true := List.all_eq_true.1 hrg _ (by simp)
  have rb : rgt { b with p := 1 } = true := List.all_eq_true.1 hrg _ (by simp)
  have pq := (ptOk_iff _).1 (hpt ⟨1, q.1, q.2⟩ (by simp))
  have pp := (ptOk_iff _).1 (hpt ⟨0, p.1, p.2⟩ (by simp))
  have hlen := F.len
  obtain ⟨x, y, rfl⟩ : ∃ x y, O = [x, y] := by
    match O, hlen with
    | [x, y], _ => exact ⟨x, y, rfl⟩
  have hx := F.vals 0 x rfl
  have hy := F.vals 1 y rfl
  have hcs := F.cs
  have p1 : pos [({ a with p := 0 } : Rt), { b with p := 1 }] 1 = 1 := by simp [pos, List.findIdx_cons]
  have p0 : pos [({ a with p := 0 } : Rt), { b with p := 1 }] 0 = 0 := by simp [pos, List.findIdx_cons]
  simp only [outr, inn, stp, List.length_cons, List.length_nil, List.getElem?_cons_zero, List.getElem?_cons_succ, p0, p1, Nat.zero_add, Nat.add_zero, Nat.reduceAdd, Nat.reduceSub, List.map_cons, List.map_nil, List.getD_cons_zero, List.getD_cons_succ, List.set_cons_zero, List.set_cons_succ, List.cons.injEq, and_true, Sc.c] at hcs
  exact ⟨(rgt_cts ra).1, (rgt_cts rb).1, pp.1, pq.1, pp.2, pq.2, ra, rb, x, y, rfl, hx.2, hy.2, hcs.1, hcs.2, hx.1, hy.1⟩
/-- With at least its expected points the first does not lose. -/
theorem fair_tr {v w p q E : Int} (hE : E = xpd v w) (h : E ≤ 400 * (100 + p - q)) : tr q p w v 2 ≤ 0 := by
  have hx : xpd w v = 80000 - E := by rw [hE]; unfold xpd; omega
  unfold tr
  rw [hx]
  unfold rnd half
  split <;> omega
theorem fair_eq {v p : Int} : tr p p v v 2 = 0 := by
  have hx : xpd v v = 40000 := by unfold xpd; omega
  unfold tr
  rw [hx]
  unfold rnd half
  split <;> omega
/-- The points of the law: (1 + p - q) / 2. -/
theorem points {p q : Int × Int} (hp : (cts p.1 p.2).2 = true) (hq : (cts q.1 q.2).2 = true) (pr : 0 ≤ (cts p.1 p.2).1 ∧ (cts p.1 p.2).1 ≤ 100) (qr : 0 ≤ (cts q.1 q.2).1 ∧ (cts q.1 q.2).1 ≤ 100) :
    ∃ d1 d2 s1 s2 u1 u2, subQ p q = (d1, d2, 0) ∧ addQ (d1, d2) (1, 1) = (s1, s2, 0) ∧ divQ (s1, s2) (2, 1) = (u1, u2, 0) ∧ 200 * u1 = (100 + (cts p.1 p.2).1 - (cts q.1 q.2).1) * u2 ∧ 0 < u2 ∧
      sm d1 ∧ sm d2 ∧ sm s1 ∧ sm s2 ∧ sm u1 ∧ sm u2 := by
  obtain ⟨a1, a2, a3, a4, a5, a6⟩ := cts_val hp
  obtain ⟨b1, b2, b3, b4, b5, b6⟩ := cts_val hq
  generalize (cts p.1 p.2).1 = P at *
  generalize (cts q.1 q.2).1 = Q at *
  obtain ⟨pn, pd⟩ := p
  obtain ⟨qn, qd⟩ := q
  dsimp only at *
  have pn1 : 0 ≤ pn ∧ pn ≤ 100 := by
    have := Int.mul_nonneg pr.1 (Int.le_of_lt a2)
    have := mul_le1 pr.2 (Int.le_of_lt a2)
    omega
  have qn1 : 0 ≤ qn ∧ qn ≤ 100 := by
    have := Int.mul_nonneg qr.1 (Int.le_of_lt b2)
    have := mul_le1 qr.2 (Int.le_of_lt b2)
    omega
  have m1 : 0 ≤ pn * qd ∧ pn * qd ≤ 10000 := by
    have := Int.mul_nonneg pn1.1 (Int.le_of_lt b2)
    have := mul_le1 pn1.2 (Int.le_of_lt b2)
    omega
  have m2 : 0 ≤ qn * pd ∧ qn * pd ≤ 10000 := by
    have := Int.mul_nonneg qn1.1 (Int.le_of_lt a2)
    have := mul_le1 qn1.2 (Int.le_of_lt a2)
    omega
  have m3 : 0 < pd * qd ∧ pd * qd ≤ 10000 := by
    have := Int.mul_pos a2 b2
    have := mul_le1 a3 (Int.le_of_lt b2)
    omega
  obtain ⟨d1, d2, e1, e2, e3, e4, e5, e6⟩ := mk_val (n := pn * qd - qn * pd) (m := pd * qd) (by omega) (by omega)
  have k1 : 100 * d1 = (P - Q) * d2 := by
    refine Int.eq_of_mul_eq_mul_right (a := pd * qd) (by omega) ?_
    grind
  have hd2 : d2 ≤ 1073741824 := e6.2
  have d1b : -d2 ≤ d1 ∧ d1 ≤ d2 := by
    have := mul_le1 (show P - Q ≤ 100 by omega) (Int.le_of_lt e2)
    have := mul_le1 (show -100 ≤ P - Q by omega) (Int.le_of_lt e2)
    omega
  have hd2' : d2 ≤ 10000 := by
    have h := e1
    obtain ⟨M, hM⟩ : ∃ M : Nat, pd * qd = M := ⟨(pd * qd).toNat, by omega⟩
    rw [hM] at h
    obtain ⟨g, u, v, h1, h2, h3, hg, hv, h4⟩ := mk_parts (n := pn * qd - qn * pd) (m := M) (by omega) (by omega) (by omega)
    rw [h4] at h
    have hv2 : v ≤ M := by rw [h2]; exact Nat.le_mul_of_pos_left _ hg
    simp only [Prod.mk.injEq] at h
    omega
  obtain ⟨s1, s2, f1, f2, f3, f4, f5, f6⟩ := mk_val (n := d1 * 1 + 1 * d2) (m := d2 * 1) (by omega) (by omega)
  have k2 : 100 * s1 = (100 + P - Q) * s2 := by
    refine Int.eq_of_mul_eq_mul_right (a := d2) (by omega) ?_
    grind
  have hs2' : s2 ≤ 10000 := by
    have h := f1
    obtain ⟨M, hM⟩ : ∃ M : Nat, d2 * 1 = M := ⟨(d2 * 1).toNat, by omega⟩
    rw [hM] at h
    obtain ⟨g, u, v, h1, h2, h3, hg, hv, h4⟩ := mk_parts (n := d1 * 1 + 1 * d2) (m := M) (by omega) (by omega) (by omega)
    rw [h4] at h
    have hv2 : v ≤ M := by rw [h2]; exact Nat.le_mul_of_pos_left _ hg
    simp only [Prod.mk.injEq] at h
    omega
  have s1b : 0 ≤ s1 ∧ s1 ≤ 2 * s2 := by
    have := mul_le1 (show 100 + P - Q ≤ 200 by omega) (Int.le_of_lt f2)
    have := mul_le1 (show 0 ≤ 100 + P - Q by omega) (Int.le_of_lt f2)
    omega
  obtain ⟨u1, u2, g1, g2, g3, g4, g5, g6⟩ := mk_val (n := s1 * 1) (m := s2 * 2) (by omega) (by omega)
  have k3 : 200 * u1 = (100 + P - Q) * u2 := by
    refine Int.eq_of_mul_eq_mul_right (a := s2) (by omega) ?_
    grind
  refine ⟨d1, d2, s1, s2, u1, u2, ?_, ?_, ?_, k3, g2, e5, e6, f5, f6, g5, g6⟩
  · unfold subQ
    simp only [a1, b1, and_self, if_true]
    exact e1
  · have o1 : okF 1 1 = true := by decide +kernel
    unfold addQ
    simp only [e4, o1, and_self, if_true]
    exact f1
  · have o1 : okF 2 1 = true := by decide +kernel
    unfold divQ
    simp only [f4, o1, and_self, if_true]
    rw [if_neg (by decide)]
    exact g1
/-- What the law asks. -/
theorem fair_facts {a b : Rt} {p q : Int × Int} {O : List Rt} (h : Two a b p q O) : ∃ x y d1 d2 s1 s2 u1 u2 w1 w2, O = [x, y] ∧ x.ok ∧ y.ok ∧ expQ { a with p := 0 } { b with p := 1 } = (w1, w2, 0) ∧ subQ p q = (d1, d2, 0) ∧ addQ (d1, d2) (1, 1) = (s1, s2, 0) ∧ divQ (s1, s2) (2, 1) = (u1, u2, 0) ∧
    sm d1 ∧ sm d2 ∧ sm s1 ∧ sm s2 ∧ sm u1 ∧ sm u2 ∧ sm w1 ∧ sm w2 ∧ sm a.n ∧ sm a.d ∧ sm b.n ∧ sm b.d ∧ sm x.n ∧ sm x.d ∧ sm y.n ∧ sm y.d ∧
    (0 ≤ ord (u1 * w2) (w1 * u2) → ¬ ord (x.n * a.d) (a.n * x.d) < 0 ∧ ¬ 0 < ord (y.n * b.d) (b.n * y.d)) ∧ (a.n = b.n → a.d = b.d → p = q → x.n = a.n ∧ x.d = a.d ∧ y.n = b.n ∧ y.d = b.d) := by
  obtain ⟨ca, cb, cp, cq, pr, qr, ra, rb, x, y, rfl, hx, hy, hxc, hyc, hxm, hym⟩ := h
  obtain ⟨d1, d2, s1, s2, u1, u2, i1, i2, i3, k, hu, j1, j2, j3, j4, j5, j6⟩ := points cp cq pr qr
  obtain ⟨_, ad, _, av, sa1, sa2⟩ := cts_val ca
  obtain ⟨_, bd, _, bv, sb1, sb2⟩ := cts_val cb
  have va := rgt_cts ra
  have vb := rgt_cts rb
  dsimp only at va vb
  have hxr := xpd_range (cts a.n a.d).1 (cts b.n b.d).1
  obtain ⟨w1, w2, l1, l2, l3, l4, l5, l6⟩ := mk_val (n := xpd (cts a.n a.d).1 (cts b.n b.d).1) (m := 80000) (by omega) (by omega)
  have mA := mk_cts ca
  have mB := mk_cts cb
  have hw : expQ { a with p := 0 } { b with p := 1 } = (w1, w2, 0) := by
    unfold expQ
    rw [if_pos ⟨ra, rb⟩]
    exact l1
  generalize hT : tr (cts q.1 q.2).1 (cts p.1 p.2).1 (cts b.n b.d).1 (cts a.n a.d).1 2 = T at *
  have hTr := tr_range (p := (cts q.1 q.2).1) (q := (cts p.1 p.2).1) (a := (cts b.n b.d).1) (b := (cts a.n a.d).1) (n := 2) qr pr (by omega)
  rw [hT] at hTr
  obtain ⟨x1, x2, gx1, gx2, gx3, _, gx5, gx6⟩ := mk_val (n := x.c) (m := 100) (by omega) (by omega)
  obtain ⟨y1, y2, gy1, gy2, gy3, _, gy5, gy6⟩ := mk_val (n := y.c) (m := 100) (by omega) (by omega)
  rw [hxm] at gx1
  rw [hym] at gy1
  simp only [Prod.mk.injEq, and_true] at gx1 gy1
  obtain ⟨rfl, rfl⟩ := gx1
  obtain ⟨rfl, rfl⟩ := gy1
  refine ⟨x, y, d1, d2, s1, s2, u1, u2, w1, w2, rfl, hx, hy, hw, i1, i2, i3, j1, j2, j3, j4, j5, j6, l5, l6, sa1, sa2, sb1, sb2, gx5, gx6, gy5, gy6, fun ho => ?_, fun e1 e2 e3 => ?_⟩
  · rw [ord_nonneg] at ho
    have hpos := Int.mul_pos hu l2
    have key : xpd (cts a.n a.d).1 (cts b.n b.d).1 ≤ 400 * (100 + (cts p.1 p.2).1 - (cts q.1 q.2).1) := by
      refine Int.le_of_mul_le_mul_right (a := u2 * w2) ?_ hpos
      have q1 : xpd (cts a.n a.d).1 (cts b.n b.d).1 * (u2 * w2) = 80000 * (w1 * u2) := by grind
      have q2 : 400 * (100 + (cts p.1 p.2).1 - (cts q.1 q.2).1) * (u2 * w2) = 80000 * (u1 * w2) := by grind
      omega
    have hT0 := fair_tr rfl key
    rw [hT] at hT0
    rw [ord_neg, ord_pos]
    have c1 := cmp_cents (n := a.n) (d := a.d) (m := x.n) (e := x.d) (a := (cts a.n a.d).1) (b := x.c) av (by omega) ad gx2 (by omega)
    have c2 := cmp_cents (n := y.n) (d := y.d) (m := b.n) (e := b.d) (a := y.c) (b := (cts b.n b.d).1) (by omega) bv gy2 bd (by omega)
    omega
  · rw [e1, e2, e3] at hT
    rw [fair_eq] at hT
    subst hT
    rw [Int.sub_zero] at hxc
    rw [Int.add_zero] at hyc
    rw [hxc, mA] at hxm
    rw [hyc, mB] at hym
    simp only [Prod.mk.injEq, and_true] at hxm hym
    exact ⟨hxm.1.symm, hxm.2.symm, hym.1.symm, hym.2.symm⟩
end Go.Proofs.Ytfccgdgippmpgaa
