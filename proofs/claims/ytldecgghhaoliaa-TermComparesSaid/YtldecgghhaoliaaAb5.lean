/-
  Ab5: addresses, parts, slices, lengths.
-/
import Derived.Test.YtldecgghhaoliaaAb4
namespace Go.Ab
open Go.RowKit
set_option linter.unusedVariables false
set_option linter.unusedSimpArgs false

theorem add_none (b p n : Nat) : (⟨b, p, none⟩ : Addr).add n = ⟨b, p + n, none⟩ := by unfold Addr.add; split <;> simp_all

def fieldAddrA (P : Program) (t : TypeId) (f : Nat) (p : AV) : Option Sv :=
  match tyFd P t f with
  | some (off, _, n) => match p with
    | .iptr l xs i o => some ⟨decide (n ≠ 0), .iptr l xs i (o + off)⟩
    | .ptr L i o => some ⟨decide (n ≠ 0), .ptr L i (o + off)⟩
    | _ => none
  | none => none

theorem fieldAt_run {P : Program} {t : TypeId} {f off ft n : Nat} (h : tyFd P t f = some (off, ft, n)) (hn : n ≠ 0) (b p : Nat) (w : World) :
    (Instr.fieldAt t (.pointer (some ⟨b, p, none⟩)) f).run P w = .ok (.pointer (some ⟨b, p + off, none⟩)) w := by
  obtain ⟨fs, x, h1, h2, rfl, rfl, h3⟩ := tyFd_run h w
  simp [Instr.fieldAt, h1, h2, Instr.sureAddr, fieldPlace, h3, hn, add_none]

theorem fieldAddrA_sound {P : Program} {F loc} {t : TypeId} {f : Nat} {p : AV} {v : Value} {r : Sv} (h : fieldAddrA P t f p = some r) (hn : r.need) (hp : RV F loc p v) (w : World) :
    ∃ z, (Instr.fieldAt t v f).run P w = .ok z w ∧ RV F loc r.val z := by
  unfold fieldAddrA at h
  split at h
  · rename_i off ft n hf
    split at h
    · obtain rfl := Option.some.inj h
      cases hp with
      | iptr g1 g2 g3 g4 g5 =>
        refine ⟨_, fieldAt_run hf (of_decide_eq_true hn) _ _ w, ?_⟩
        rw [Nat.add_assoc]
        exact .iptr g1 g2 g3 g4 g5
    · obtain rfl := Option.some.inj h
      cases hp with
      | ptr g1 g2 =>
        refine ⟨_, fieldAt_run hf (of_decide_eq_true hn) _ _ w, ?_⟩
        rw [Nat.add_assoc]
        exact .ptr g1 g2
    · cases h
  · cases h

def lenA (P : Program) (t : TypeId) (x : AV) : Option Sv :=
  match x with
  | .sc (.string s) => if tyStr P t = true then some ⟨true, nt .i64 s.size⟩ else none
  | .sc (.slice none 0 0) => match tyEl P t with | some _ => some ⟨true, nt .i64 0⟩ | none => none
  | .list _ _ xs => match tyEl P t with | some _ => some ⟨true, nt .i64 xs.length⟩ | none => none
  | .ref _ _ n => match tyEl P t with | some _ => some ⟨true, nt .i64 n⟩ | none => none
  | .aref _ _ _ _ n => match tyEl P t with | some _ => some ⟨true, nt .i64 n⟩ | none => none
  | _ => none

theorem lenA_sound {P : Program} {F loc} {t ty : TypeId} {x : AV} {v : Value} {r : Sv} (h : lenA P t x = some r) (hx : RV F loc x v) (w : World) :
    ∃ z, (Builtin.len_ #[t] ty #[v]).run P w = .ok z w ∧ RV F loc r.val z := by
  unfold lenA at h
  split at h
  · rename_i s
    cases hx
    split at h
    · rename_i ht
      obtain rfl := Option.some.inj h
      refine ⟨goInt s.size, ?_, .sc rfl⟩
      unfold tyStr at ht
      split at ht
      · rename_i hu; simp [Builtin.len_, run_underlying_ok hu]
      · cases ht
    · cases h
  · split at h
    · rename_i q hq
      obtain ⟨e, n, m⟩ := q
      obtain rfl := Option.some.inj h
      obtain ⟨hu, _⟩ := tyEl_run hq w
      refine ⟨goInt 0, ?_, .sc rfl⟩
      cases hx; simp [Builtin.len_, hu]
    · cases h
  · rename_i l fl xs
    split at h
    · rename_i q hq
      obtain ⟨e, n, m⟩ := q
      obtain rfl := Option.some.inj h
      obtain ⟨hu, _⟩ := tyEl_run hq w
      refine ⟨goInt xs.length, ?_, .sc rfl⟩
      cases hx <;> simp [Builtin.len_, hu]
    · cases h
  · rename_i L lo n
    split at h
    · rename_i q hq
      obtain ⟨e, n', m⟩ := q
      obtain rfl := Option.some.inj h
      obtain ⟨hu, _⟩ := tyEl_run hq w
      refine ⟨goInt n, ?_, .sc rfl⟩
      cases hx <;> simp [Builtin.len_, hu]
    · cases h
  · rename_i L i o es n
    split at h
    · rename_i q hq
      obtain ⟨e, n', m⟩ := q
      obtain rfl := Option.some.inj h
      obtain ⟨hu, _⟩ := tyEl_run hq w
      refine ⟨goInt n, ?_, .sc rfl⟩
      cases hx <;> simp [Builtin.len_, hu]
    · cases h
  · cases h

def indexAddrA (P : Program) (t : TypeId) (x ix : AV) (ob : Objs) : Option Sv :=
  match ix with
  | .sc (.int _ i) => match x with
    | .list l _ xs => match tyEl P t with
      | some (_, es, _) => some ⟨decide (0 ≤ i ∧ i < xs.length ∧ ∀ y, xs[i.toNat]? = some y → y.cells.length = es), .iptr l xs i.toNat 0⟩
      | none => none
    | .ref L lo n => match tyEl P t, lk ob L with
      | some (_, es, _), some x => some ⟨decide (x.es = es ∧ 0 ≤ i ∧ i < n), .ptr L (lo + i.toNat) 0⟩
      | _, _ => none
    | .aref L k o es' n => match tyEl P t with
      | some (_, es, _) => some ⟨decide (es' = es ∧ 0 ≤ i ∧ i < n), .ptr L k (o + i.toNat * es)⟩
      | none => none
    | .ptr L k o => match tyAr P t with
      | some (n, _, es) => some ⟨decide (0 ≤ i ∧ i < n), .ptr L k (o + i.toNat * es)⟩
      | none => none
    | .iptr l xs k o => match tyAr P t with
      | some (n, _, es) => some ⟨decide (0 ≤ i ∧ i < n), .iptr l xs k (o + i.toNat * es)⟩
      | none => none
    | _ => none
  | _ => none

theorem indexAt_slice {P : Program} {t e : TypeId} {es m : Nat} (h : tyEl P t = some (e, es, m)) {k : IntKind} {i : Int} {len c : Nat} (h0 : 0 ≤ i) (h1 : i < len) (b p : Nat) (w : World) :
    (Instr.indexAt t (.slice (some ⟨b, p, none⟩) len c) (.int k i)).run P w = .ok (.pointer (some ⟨b, p + i.toNat * es, none⟩)) w := by
  obtain ⟨hu, hs, _⟩ := tyEl_run h w
  have hc : (0 ≤ i ∧ i < (len : Int)) := ⟨h0, h1⟩
  simp [Instr.indexAt, asIntOf, hu, hs, hc, h0, h1, add_none]

theorem indexAt_array {P : Program} {t e : TypeId} {n es : Nat} (h : tyAr P t = some (n, e, es)) {k : IntKind} {i : Int} (h0 : 0 ≤ i) (h1 : i < n) (b p : Nat) (w : World) :
    (Instr.indexAt t (.pointer (some ⟨b, p, none⟩)) (.int k i)).run P w = .ok (.pointer (some ⟨b, p + i.toNat * es, none⟩)) w := by
  obtain ⟨hu, hs⟩ := tyAr_run h w
  have hc : (0 ≤ i ∧ i < (n : Int)) := ⟨h0, h1⟩
  simp [Instr.indexAt, asIntOf, hu, hs, hc, h0, h1, add_none, Instr.sureAddr]

theorem indexAddrA_sound {P : Program} {F} {μ : Pl} {ob : Objs} {t : TypeId} {x ix : AV} {v u : Value} {r : Sv} (h : indexAddrA P t x ix ob = some r) (hn : r.need) (hx : RV F (locOf ob μ) x v) (hi : RV F (locOf ob μ) ix u) (w : World) :
    ∃ z, (Instr.indexAt t v u).run P w = .ok z w ∧ RV F (locOf ob μ) r.val z := by
  unfold indexAddrA at h
  split at h
  · rename_i k i
    cases hi
    split at h
    · rename_i l fl xs
      split at h
      · rename_i e es m ht
        obtain rfl := Option.some.inj h
        obtain ⟨h0, h1, h2⟩ := of_decide_eq_true hn
        have hlt : i.toNat < xs.length := by omega
        cases hx with
        | nil => simp at hlt
        | @list _ _ _ _ _ b o o' cap es' f g1 g2 g3 g4 g5 g6 g7 g8 =>
          have hes : es' = es := (g1 xs[i.toNat] (by simp)).symm.trans (h2 xs[i.toNat] (by simp [hlt]))
          subst hes
          obtain rfl := g5 (by intro e; subst e; simp at hlt)
          exact ⟨_, indexAt_slice ht h0 h1 b o' w, .iptr (k := 0) g1 hlt g6 g7 g8⟩
      · cases h
    · rename_i L lo n
      split at h
      · rename_i e es m x' ht hg
        obtain rfl := Option.some.inj h
        obtain ⟨hes, h0, h1⟩ := of_decide_eq_true hn
        have hloc : locOf ob μ L = some (locO x' (μ L)) := by simp [locOf, hg]
        cases hx with
        | refNil g => simp at h1; omega
        | @ref _ _ _ _ _ b cap es' len o c g1 g2 g3 g4 g5 =>
          rw [hloc] at g1
          obtain ⟨hm, rfl, rfl, hk1⟩ := locO_std (Option.some.inj g1)
          obtain rfl := g4 (.inl (by omega))
          refine ⟨_, indexAt_slice ht h0 h1 b _ w, ?_⟩
          rw [← hes, ← Nat.add_mul]
          exact .ptr (k := 0) (hloc.trans (by rw [locO_mk hk1, hm])) (by omega)
      · cases h
    · rename_i L k' o es' n
      split at h
      · rename_i e es m ht
        obtain rfl := Option.some.inj h
        obtain ⟨hes, h0, h1⟩ := of_decide_eq_true hn
        cases hx with
        | aref g1 g2 g3 g4 =>
          obtain rfl := g4 (by omega)
          refine ⟨_, indexAt_slice ht h0 h1 _ _ w, ?_⟩
          rw [Nat.add_assoc]
          exact .ptr g1 g2
      · cases h
    · rename_i L k' o
      split at h
      · rename_i n e es ht
        obtain rfl := Option.some.inj h
        obtain ⟨h0, h1⟩ := of_decide_eq_true hn
        cases hx with
        | ptr g1 g2 =>
          refine ⟨_, indexAt_array ht h0 h1 _ _ w, ?_⟩
          rw [Nat.add_assoc]
          exact .ptr g1 g2
      · cases h
    · rename_i l xs k' o
      split at h
      · rename_i n e es ht
        obtain rfl := Option.some.inj h
        obtain ⟨h0, h1⟩ := of_decide_eq_true hn
        cases hx with
        | iptr g1 g2 g3 g4 g5 =>
          refine ⟨_, indexAt_array ht h0 h1 _ _ w, ?_⟩
          rw [Nat.add_assoc]
          exact .iptr g1 g2 g3 g4 g5
      · cases h
    · cases h
  · cases h

/-- The part of an aggregate's cells that a field fills. -/
def partA (P : Program) (t : TypeId) (cs : List AV) (off : Nat) : Option AV :=
  match tyI P t with
  | some (true, n) => some (.agg ((cs.drop off).take n))
  | some (false, _) => cs[off]?
  | none => none

theorem partA_sound {P : Program} {F loc} {t : TypeId} {cs : List AV} {vs : Array Value} {off : Nat} {a : AV} (h : partA P t cs off = some a) (hx : RV F loc (.agg cs) (.agg vs)) (w : World) :
    ∃ z, (part t vs off).run P w = .ok z w ∧ RV F loc a z := by
  cases hx with
  | agg h1 h2 h3 =>
    unfold partA at h
    split at h
    · rename_i n ht
      obtain rfl := Option.some.inj h
      obtain ⟨g1, g2⟩ := tyI_run ht w
      refine ⟨.agg (vs.extract off (off + n)), by simp [part, g1, g2], ?_⟩
      refine .agg (by simp [h1]; omega) (fun i a v ha hv => ?_) (fun i v hv => ?_)
      · rw [List.getElem?_take] at ha
        split at ha
        · rw [List.getElem?_drop] at ha
          rw [Array.getElem?_extract] at hv
          split at hv
          · exact h2 (off + i) a v ha hv
          · cases hv
        · cases ha
      · rw [Array.getElem?_extract] at hv
        split at hv
        · exact h3 (off + i) v hv
        · cases hv
    · rename_i n ht
      obtain ⟨g1, g2⟩ := tyI_run ht w
      have hi : off < vs.size := by rw [← h1]; exact (List.getElem?_eq_some_iff.1 h).1
      exact ⟨vs[off], by simp [part, g1, hi], h2 off a vs[off] h (by simp [hi])⟩
    · cases h

def fieldA (P : Program) (t : TypeId) (x : AV) (f : Nat) : Option Sv :=
  match x with
  | .agg cs => match tyFd P t f with
    | some (off, ft, _) => (partA P ft cs off).map fun a => ⟨true, a⟩
    | none => none
  | _ => none

theorem fieldA_sound {P : Program} {F loc} {t : TypeId} {f : Nat} {x : AV} {v : Value} {r : Sv} (h : fieldA P t x f = some r) (hx : RV F loc x v) (w : World) :
    ∃ z, (Instr.field t v f).run P w = .ok z w ∧ RV F loc r.val z := by
  unfold fieldA at h
  split at h
  · rename_i cs
    split at h
    · rename_i off ft n hf
      cases hp : partA P ft cs off with
      | none => simp [hp] at h
      | some a =>
        simp [hp] at h
        subst h
        obtain ⟨fs, y, h1, h2, rfl, rfl, h3⟩ := tyFd_run hf w
        cases hx' : v with
        | agg vs =>
          rw [hx'] at hx
          obtain ⟨z, g1, g2⟩ := partA_sound hp hx w
          exact ⟨z, by simp [Instr.field, h1, h2, asAgg, g1], g2⟩
        | _ => rw [hx'] at hx; cases hx
    · cases h
  · cases h

def indexA (P : Program) (t : TypeId) (x ix : AV) : Option Sv :=
  match ix with
  | .sc (.int _ i) => match x with
    | .sc (.string s) => if tyStr P t = true then some ⟨decide (0 ≤ i ∧ i < s.size), nt .u8 (s.data.toList.getD i.toNat 0).toNat⟩ else none
    | .agg cs => match tyAr P t with
      | some (n, e, es) => (partA P e cs (i.toNat * es)).map fun a => ⟨decide (0 ≤ i ∧ i < n), a⟩
      | none => none
    | _ => none
  | _ => none

theorem indexA_sound {P : Program} {F loc} {t : TypeId} {x ix : AV} {v u : Value} {r : Sv} (h : indexA P t x ix = some r) (hn : r.need) (hx : RV F loc x v) (hi : RV F loc ix u) (w : World) :
    ∃ z, (Instr.index t v u).run P w = .ok z w ∧ RV F loc r.val z := by
  unfold indexA at h
  split at h
  · rename_i k i
    cases hi
    split at h
    · rename_i s
      cases hx
      split at h
      · rename_i ht
        obtain rfl := Option.some.inj h
        obtain ⟨h0, h1⟩ := of_decide_eq_true hn
        unfold tyStr at ht
        split at ht
        · rename_i hu
          have hlt : i.toNat < s.size := by omega
          have hlt' : i.toNat < s.data.toList.length := by simpa using hlt
          refine ⟨.int .u8 (s[i.toNat]).toNat, ?_, ?_⟩
          · simp [Instr.index, asIntOf, run_underlying_ok hu, h0, hlt]
          · have : s.data.toList.getD i.toNat 0 = s[i.toNat] := by
              rw [List.getD_eq_getElem?_getD, List.getElem?_eq_getElem hlt']; rfl
            show RV F loc (nt .u8 (s.data.toList.getD i.toNat 0).toNat) _
            rw [this]
            exact .sc rfl
        · cases ht
      · cases h
    · rename_i cs
      split at h
      · rename_i n e es ht
        cases hp : partA P e cs (i.toNat * es) with
        | none => simp [hp] at h
        | some a =>
          simp [hp] at h
          subst h
          obtain ⟨h0, h1⟩ : 0 ≤ i ∧ i < (n : Int) := by simpa using hn
          obtain ⟨hu, hs⟩ := tyAr_run ht w
          cases hx' : v with
          | agg vs =>
            rw [hx'] at hx
            obtain ⟨z, g1, g2⟩ := partA_sound hp hx w
            exact ⟨z, by simp [Instr.index, asIntOf, hu, hs, h0, h1, g1], g2⟩
          | _ => rw [hx'] at hx; cases hx
      · cases h
    · cases h
  · cases h

end Go.Ab
