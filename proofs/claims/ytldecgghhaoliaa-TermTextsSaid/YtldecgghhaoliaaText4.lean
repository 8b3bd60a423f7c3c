/-
  Text4: valid terms with equal texts are equal; plainly.
-/
import Derived.Test.YtldecgghhaoliaaText3
import Derived.Test.YtldecgghhaoliaaLeaf2
import Derived.Test.YtldecgghhaoliaaTerm6
namespace Go.Proofs.Ytldecgghhaoliaa
open Go.Ab
set_option linter.unusedSimpArgs false
set_option maxRecDepth 100000
def nc (b : UInt8) : Prop := b ≠ 40 ∧ b ≠ 41 ∧ b ≠ 44
theorem nc_of {b : UInt8} (h : b.toNat ≠ 40 ∧ b.toNat ≠ 41 ∧ b.toNat ≠ 44) : nc b := by
  refine ⟨?_, ?_, ?_⟩ <;> (rintro rfl; simp at h)
theorem bytes_bt {s : ByteArray} {b : UInt8} (h : b ∈ bytesS s) : ∃ i, i < s.size ∧ bt s i = b.toNat := by
  obtain ⟨i, hi, rfl⟩ := List.mem_iff_getElem.1 h
  refine ⟨i, by rw [bytesS_len] at hi; exact hi, ?_⟩
  unfold bt bytesS at *
  rw [List.getD_eq_getElem?_getD, List.getElem?_eq_getElem hi]
  rfl
theorem spell_facts {s : ByteArray} {p q r : Int × Int} (h : spellS s p q r = true) : (1 ≤ s.size ∧ s.size ≤ 16) ∧ (p.1 ≤ bt s 0 ∧ bt s 0 ≤ p.2) ∧ ∀ i, i < s.size → (p.1 ≤ bt s i ∧ bt s i ≤ p.2) ∨ (q.1 ≤ bt s i ∧ bt s i ≤ q.2) ∨ (r.1 ≤ bt s i ∧ bt s i ≤ r.2) := by
  unfold spellS allS at h
  simp only [Bool.and_eq_true, decide_eq_true_eq, List.all_eq_true, List.mem_range, in1, in3] at h
  exact ⟨h.1.1, h.1.2, h.2⟩
theorem name_word {s : ByteArray} (h : nameS s = true) : (1 ≤ s.size ∧ s.size ≤ 16) ∧ (97 ≤ bt s 0 ∧ bt s 0 ≤ 122) ∧ ∀ b ∈ bytesS s, nc b := by
  unfold nameS at h
  simp only [Bool.and_eq_true] at h
  have hs := spell_facts h.1.1.1
  refine ⟨hs.1, hs.2.1, fun b hb => ?_⟩
  obtain ⟨i, hi, he⟩ := bytes_bt hb
  have := hs.2.2 i hi
  exact nc_of (by dsimp only at this; omega)
theorem var_word {s : ByteArray} (h : varS s = true) : (1 ≤ s.size ∧ s.size ≤ 16) ∧ (65 ≤ bt s 0 ∧ bt s 0 ≤ 90) ∧ ∀ b ∈ bytesS s, nc b := by
  unfold varS at h
  have hs := spell_facts h
  refine ⟨hs.1, hs.2.1, fun b hb => ?_⟩
  obtain ⟨i, hi, he⟩ := bytes_bt hb
  have := hs.2.2 i hi
  exact nc_of (by dsimp only at this; omega)
theorem num_word {s : ByteArray} (h : (numS s).2 = true) : (1 ≤ s.size ∧ s.size ≤ 16) ∧ (48 ≤ bt s 0 ∧ bt s 0 ≤ 57) ∧ ∀ b ∈ bytesS s, nc b := by
  unfold numS at h
  split at h
  · rename_i hc
    obtain ⟨⟨h1, h2, _⟩, hd⟩ := hc
    unfold digs at hd
    simp only [List.all_eq_true, List.mem_range, decide_eq_true_eq] at hd
    refine ⟨by omega, hd 0 (by omega), fun b hb => ?_⟩
    obtain ⟨i, hi, he⟩ := bytes_bt hb
    have := hd i hi
    exact nc_of (by omega)
  · cases h
theorem const_word {s : ByteArray} (h : constS s = true) : (1 ≤ s.size ∧ s.size ≤ 16) ∧ (¬ (65 ≤ bt s 0 ∧ bt s 0 ≤ 90)) ∧ ∀ b ∈ bytesS s, nc b := by
  unfold constS at h
  rw [Bool.or_eq_true] at h
  rcases h with h | h
  · have := name_word h; exact ⟨this.1, by omega, this.2.2⟩
  · have := num_word h; exact ⟨this.1, by omega, this.2.2⟩
theorem const_var {s : ByteArray} (h : constS s = true) : varS s = false := by
  cases hv : varS s with
  | false => rfl
  | true => exact absurd (var_word hv).2.1 (const_word h).2.1
def noV (l : List ByteArray) : Bool := l.all fun s => !varS s
theorem noV_append {a b : List ByteArray} : noV (a ++ b) = (noV a && noV b) := by simp [noV]
theorem with_ground : ∀ t : Tm, ∀ lv : Int, withT lv false t = (withT lv true t && noV (lvs t)) := by
  refine tm_ind fun t ih lv => ?_
  obtain ⟨s, ts⟩ := t
  simp only [args_mk] at ih
  rw [withT_mk, withT_mk, lvs_mk]
  by_cases hc : lv < 1 ∨ 4 < ts.length
  · rw [if_pos hc, if_pos hc]; simp
  · rw [if_neg hc, if_neg hc]
    by_cases h0 : ts.length = 0
    · rw [if_pos h0, if_pos h0, if_pos h0]
      cases h1 : constS s with
      | true => simp [noV, const_var h1]
      | false => cases h2 : varS s <;> simp [noV, h2]
    · rw [if_neg h0, if_neg h0, if_neg h0]
      rw [Bool.and_assoc]
      congr 1
      clear hc h0
      induction ts with
      | nil => simp [withL, lvsS, noV]
      | cons u r ih2 =>
        simp only [withL, lvsS, noV_append]
        rw [ih u (by simp), ih2 fun v hv => ih v (List.mem_cons_of_mem _ hv)]
        cases withT (lv - 1) true u <;> cases withL (lv - 1) true r <;> cases noV (lvs u) <;> cases noV (lvsS r) <;> rfl
theorem foldV_nil : ∀ (l acc : List ByteArray), (l.foldl addV acc).length = 0 ↔ acc.length = 0 ∧ noV l = true
  | [], acc => by simp [noV]
  | s :: l, acc => by
    rw [List.foldl_cons, foldV_nil l, show noV (s :: l) = (!varS s && noV l) from rfl]
    unfold addV
    by_cases hv : varS s = true
    · by_cases hm : hasS acc s = true
      · rw [if_neg (by simp [hm])]
        have := hasS_iff.1 hm
        have : 0 < acc.length := List.length_pos_of_mem this
        constructor <;> (rintro ⟨h, _⟩; omega)
      · rw [if_pos ⟨hv, by simpa using hm⟩]
        simp [hv]
    · rw [if_neg (by simp [hv])]
      simp [hv]
theorem ground_vars (t : Tm) : withT 4 false t = (withT 4 true t && decide ((varsT [t]).length = 0)) := by
  rw [with_ground t 4]
  congr 1
  rw [Bool.eq_iff_iff, decide_eq_true_eq]
  unfold varsT
  rw [foldV_nil]
  simp [lvsS]
/-- What may follow a term's text. -/
def okr (r : List UInt8) : Prop := r = [] ∨ (∃ q, r = 41 :: q) ∨ ∃ q, r = 44 :: q
def stops (r : List UInt8) : Prop := ∀ b q, r = b :: q → ¬ nc b
theorem okr_stops {r : List UInt8} (h : okr r) : stops r := by
  rintro b q rfl hn
  rcases h with h | ⟨q', h⟩ | ⟨q', h⟩
  · cases h
  · cases h; exact hn.2.1 rfl
  · cases h; exact hn.2.2 rfl
theorem span_eq : ∀ {a b x y : List UInt8}, (∀ c ∈ a, nc c) → (∀ c ∈ b, nc c) → stops x → stops y → a ++ x = b ++ y → a = b ∧ x = y
  | [], [], _, _, _, _, _, _, h => ⟨rfl, h⟩
  | [], d :: b, x, y, _, hb, hx, _, h => absurd (hb d (by simp)) (hx d (b ++ y) h)
  | c :: a, [], x, y, ha, _, _, hy, h => absurd (ha c (by simp)) (hy c (a ++ x) h.symm)
  | c :: a, d :: b, x, y, ha, hb, hx, hy, h => by
    simp only [List.cons_append, List.cons.injEq] at h
    obtain ⟨rfl, h⟩ := h
    obtain ⟨rfl, rfl⟩ := span_eq (fun c hc => ha c (List.mem_cons_of_mem _ hc)) (fun c hc => hb c (List.mem_cons_of_mem _ hc)) hx hy h
    exact ⟨rfl, rfl⟩
theorem bytes_inj {s s' : ByteArray} (h : bytesS s = bytesS s') : s = s' := by
  rw [← mkS_bytes s, ← mkS_bytes s', h]
theorem with_word {lv : Int} {s : ByteArray} {ts : List Tm} (h : withT lv true (.mk s ts) = true) : (∀ c ∈ bytesS s, nc c) ∧ s.size ≤ 16 ∧ (ts.length ≠ 0 → withL (lv - 1) true ts = true) := by
  rw [withT_mk] at h
  split at h
  · cases h
  · split at h
    · rename_i h0
      simp only [Bool.true_and, Bool.or_eq_true] at h
      rcases h with h | h
      · have := const_word h; exact ⟨this.2.2, this.1.2, fun e => absurd h0 e⟩
      · have := var_word h; exact ⟨this.2.2, this.1.2, fun e => absurd h0 e⟩
    · rw [Bool.and_eq_true] at h
      have := name_word h.1; exact ⟨this.2.2, this.1.2, fun _ => h.2⟩
theorem txtS_inj {ts : List Tm} : ∀ {us : List Tm} {lv lv' : Int} {r r' : List UInt8},
    (∀ t ∈ ts, ∀ (u : Tm) (lv lv' : Int) (r r' : List UInt8), withT lv true t = true → withT lv' true u = true → okr r → okr r' → txt t ++ r = txt u ++ r' → t = u ∧ r = r') →
    withL lv true ts = true → withL lv' true us = true → txtS ts ++ 41 :: r = txtS us ++ 41 :: r' → ts = us ∧ r = r' := by
  induction ts with
  | nil =>
    intro us lv lv' r r' _ _ _ h
    cases us with
    | nil => simp [txtS] at h; exact ⟨rfl, h⟩
    | cons u us => simp [txtS] at h
  | cons t ts ih2 =>
    intro us lv lv' r r' ih h1 h2 h
    cases us with
    | nil => simp [txtS] at h
    | cons u us =>
      simp only [withL, Bool.and_eq_true] at h1 h2
      simp only [txtS, List.cons_append, List.append_assoc, List.cons.injEq, true_and] at h
      have hok : ∀ (l : List Tm) (q : List UInt8), okr (txtS l ++ 41 :: q) := fun l q => by
        cases l with
        | nil => exact .inr (.inl ⟨q, rfl⟩)
        | cons v l => exact .inr (.inr ⟨txt v ++ txtS l ++ 41 :: q, by simp [txtS]⟩)
      obtain ⟨rfl, he⟩ := ih t (by simp) u lv lv' _ _ h1.1 h2.1 (hok _ _) (hok _ _) h
      obtain ⟨rfl, rfl⟩ := ih2 (fun v hv => ih v (List.mem_cons_of_mem _ hv)) h1.2 h2.2 he
      exact ⟨rfl, rfl⟩
theorem tail_cons {ts : List Tm} (h : ts.length ≠ 0) : txtS ts = 44 :: (txtS ts).tail := by
  cases ts with
  | nil => simp at h
  | cons t r => rfl
theorem txt_inj_of : ∀ t : Tm, ∀ (u : Tm) (lv lv' : Int) (r r' : List UInt8), withT lv true t = true → withT lv' true u = true → okr r → okr r' → txt t ++ r = txt u ++ r' → t = u ∧ r = r' := by
  refine tm_ind fun t ih u lv lv' r r' h1 h2 hr hr' h => ?_
  obtain ⟨s, ts⟩ := t
  obtain ⟨s', us⟩ := u
  simp only [args_mk] at ih
  have w1 := with_word h1
  have w2 := with_word h2
  rw [txt_mk, txt_mk] at h
  have st : ∀ x : List UInt8, stops (40 :: x) := fun x b q e hn => by cases e; exact hn.1 rfl
  by_cases h0 : ts.length = 0
  · rw [if_pos h0] at h
    have e0 := List.eq_nil_of_length_eq_zero h0
    subst e0
    by_cases k0 : us.length = 0
    · rw [if_pos k0] at h
      have e0 := List.eq_nil_of_length_eq_zero k0
      subst e0
      obtain ⟨e1, e2⟩ := span_eq w1.1 w2.1 (okr_stops hr) (okr_stops hr') h
      exact ⟨by rw [bytes_inj e1], e2⟩
    · rw [if_neg k0, List.append_assoc, List.cons_append] at h
      obtain ⟨e1, e2⟩ := span_eq w1.1 w2.1 (okr_stops hr) (st _) h
      rcases hr with rfl | ⟨q, rfl⟩ | ⟨q, rfl⟩ <;> simp at e2
  · rw [if_neg h0] at h
    by_cases k0 : us.length = 0
    · rw [if_pos k0, List.append_assoc, List.cons_append] at h
      obtain ⟨e1, e2⟩ := span_eq w1.1 w2.1 (st _) (okr_stops hr') h
      rcases hr' with rfl | ⟨q, rfl⟩ | ⟨q, rfl⟩ <;> simp at e2
    · rw [if_neg k0, List.append_assoc, List.append_assoc, List.cons_append, List.cons_append] at h
      obtain ⟨e1, e2⟩ := span_eq w1.1 w2.1 (st _) (st _) h
      simp only [List.cons.injEq, true_and, List.append_assoc, List.cons_append, List.nil_append] at e2
      have e3 : txtS ts ++ 41 :: r = txtS us ++ 41 :: r' := by
        rw [tail_cons h0, tail_cons k0, List.cons_append, List.cons_append, e2]
      obtain ⟨rfl, rfl⟩ := txtS_inj ih (w1.2.2 h0) (w2.2.2 k0) e3
      exact ⟨by rw [bytes_inj e1], rfl⟩
theorem txt_inj {t u : Tm} {lv lv' : Int} (h1 : withT lv true t = true) (h2 : withT lv' true u = true) : txt t = txt u ↔ t = u := by
  constructor
  · intro h
    exact (txt_inj_of t u lv lv' [] [] h1 h2 (.inl rfl) (.inl rfl) (by rw [h])).1
  · rintro rfl; rfl
theorem lvs_size : ∀ t : Tm, (lvs t).length ≤ t.size := by
  refine tm_ind fun t ih => ?_
  obtain ⟨s, ts⟩ := t
  simp only [args_mk] at ih
  rw [lvs_mk, Tm.size]
  split
  · simp
  · rename_i h0; clear h0
    induction ts with
    | nil => simp [lvsS]
    | cons u r ih2 =>
      have h1 := ih u (by simp)
      have h2 := ih2 fun v hv => ih v (List.mem_cons_of_mem _ hv)
      simp only [lvsS, sizeL, List.length_append]; omega
theorem txt_size : ∀ t : Tm, ∀ lv : Int, withT lv true t = true → (txt t).length + 1 ≤ 20 * t.size := by
  refine tm_ind fun t ih lv h => ?_
  obtain ⟨s, ts⟩ := t
  simp only [args_mk] at ih
  have w := with_word h
  rw [txt_mk, Tm.size]
  have hs := bytesS_len s
  split
  · omega
  · rename_i h0
    have hw := w.2.2 h0
    have hS : (txtS ts).length ≤ 20 * sizeL ts := by
      clear h0 h w
      induction ts with
      | nil => simp [txtS]
      | cons u r ih2 =>
        simp only [withL, Bool.and_eq_true] at hw
        have h1 := ih u (by simp) _ hw.1
        have h2 := ih2 (fun v hv => ih v (List.mem_cons_of_mem _ hv)) hw.2
        simp only [txtS, sizeL, List.length_cons, List.length_append]; omega
    have := tail_cons h0
    have h3 : (txtS ts).length = (txtS ts).tail.length + 1 := by rw [this]; rfl
    simp only [List.length_append, List.length_cons, List.length_nil]
    have := w.2.1
    omega
end Go.Proofs.Ytldecgghhaoliaa
