/-
  Ab6: slices of slices and of strings; closures; built structs; whatever lies open.
-/
import Derived.Test.YtldecgghhaoliaaAb5
namespace Go.Ab
open Go.RowKit
set_option linter.unusedVariables false
set_option linter.unusedSimpArgs false

/-- A bound of a slice expression: given, or d. -/
def bd (x : Option AV) (d : Int) : Option Int :=
  match x with
  | none => some d
  | some (.sc (.int _ i)) => some i
  | _ => none

/-- The values of the optional operands. -/
inductive RO (F : Bool → Facts) (loc : Nat → Option LI) : Option AV → Option Value → Prop
  | none : RO F loc none none
  | some {a v} : RV F loc a v → RO F loc (some a) (some v)

theorem bounds_run {P : Program} {F loc} {lo hi : Option AV} {vl vh : Option Value} {l h : Int} {isS : Bool} {len cap : Nat} (hl : RO F loc lo vl) (hh : RO F loc hi vh) (el : bd lo 0 = some l) (eh : bd hi len = some h)
    (h0 : 0 ≤ l) (h1 : l ≤ h) (h2 : h ≤ cap) (w : World) : (Instr.sliceBounds isS len cap vl vh none).run P w = .ok (l.toNat, h.toNat, cap) w := by
  have q0 : 0 ≤ h := by omega
  have q1 : l ≤ (h.toNat : Int) := by omega
  cases hl with
  | none =>
    simp [bd] at el; subst el
    cases hh with
    | none => simp [bd] at eh; subst eh; simp [Instr.sliceBounds]
    | @some a v ha =>
      cases a with
      | sc u => cases u with
        | int k i => simp [bd] at eh; subst eh; cases ha; simp [Instr.sliceBounds, run_sliceBound, q0, h2]
        | _ => simp [bd] at eh
      | _ => simp [bd] at eh
  | @some a v ha =>
    cases a with
    | sc u => cases u with
      | int k i =>
        simp [bd] at el; subst el; cases ha
        have hq : ∀ y : Nat, i ≤ (y : Int) → (Instr.sliceBound (.int k i) y .sliceB).run P w = .ok i.toNat w := fun y hy => run_sliceBound _ _ _ _ _ h0 hy
        have hq1 := hq h.toNat q1
        cases hh with
        | none =>
          simp [bd] at eh; subst eh
          have hq2 := hq len h1
          simp [Instr.sliceBounds, hq2]
        | @some a v ha =>
          cases a with
          | sc u => cases u with
            | int k2 i2 =>
              simp [bd] at eh; subst eh; cases ha
              have hq3 := run_sliceBound (P := P) w k2 i2 cap (if isS = true then .sliceAcap else .sliceAlen) q0 h2
              simp [Instr.sliceBounds, hq3, hq1]
            | _ => simp [bd] at eh
          | _ => simp [bd] at eh
      | _ => simp [bd] at el
    | _ => simp [bd] at el

def sliceA (P : Program) (t : TypeId) (x : AV) (lo hi : Option AV) (ob : Objs) : Option Sv :=
  match x with
  | .sc (.string s) => if tyStr P t = true then match bd lo 0, bd hi s.size with
      | some l, some h => some ⟨decide (0 ≤ l ∧ l ≤ h ∧ h ≤ s.size), .sc (.string (s.extract l.toNat h.toNat))⟩
      | _, _ => none else none
  | .list len full xs => match tyEl P t, bd lo 0, bd hi xs.length with
      | some (_, es, _), some l, some h => some ⟨decide (0 ≤ l ∧ l ≤ h ∧ h ≤ xs.length ∧ ∀ y ∈ xs, y.cells.length = es), .list len (full && hi.isNone) ((xs.drop l.toNat).take (h.toNat - l.toNat))⟩
      | _, _, _ => none
  | .ref L b n => match tyEl P t, lk ob L, bd lo 0, bd hi n with
      | some (_, es, _), some x, some l, some h => some ⟨decide (x.es = es ∧ 0 ≤ l ∧ l ≤ h ∧ h ≤ n), .ref L (b + l.toNat) (h.toNat - l.toNat)⟩
      | _, _, _, _ => none
  | .ptr L i o => match tyAr P t, bd lo 0 with
      | some (n, _, es), some l => match bd hi n with
        | some h => some ⟨decide (0 ≤ l ∧ l ≤ h ∧ h ≤ n), .aref L i (o + l.toNat * es) es (h.toNat - l.toNat)⟩
        | none => none
      | _, _ => none
  | _ => none

theorem tyAr_not {P : Program} {t e : TypeId} {n m : Nat} (h : tyEl P t = some (e, n, m)) {q : Value} {vl vh : Option Value} (w : World) :
    (Instr.sliceAt t q vl vh none).run P w = (Instr.slice t q vl vh none).run P w := by
  obtain ⟨hu, _⟩ := tyEl_run h w
  simp [Instr.sliceAt, hu]

theorem sliceA_sound {P : Program} {F} {μ : Pl} {ob : Objs} {t : TypeId} {x : AV} {v : Value} {lo hi : Option AV} {vl vh : Option Value} {r : Sv} (h : sliceA P t x lo hi ob = some r) (hn : r.need) (hx : RV F (locOf ob μ) x v)
    (hl : RO F (locOf ob μ) lo vl) (hh : RO F (locOf ob μ) hi vh) (w : World) : ∃ z, (Instr.sliceAt t v vl vh none).run P w = .ok z w ∧ RV F (locOf ob μ) r.val z := by
  unfold sliceA at h
  split at h
  · rename_i s
    cases hx
    split at h
    · rename_i ht
      split at h
      · rename_i l hq el eh
        obtain rfl := Option.some.inj h
        obtain ⟨h0, h1, h2⟩ := of_decide_eq_true hn
        unfold tyStr at ht
        split at ht
        · rename_i hu
          have hb := bounds_run (P := P) (isS := false) hl hh el eh h0 h1 (by exact_mod_cast h2) w
          refine ⟨.string (s.extract l.toNat hq.toNat), ?_, .sc rfl⟩
          simp [Instr.sliceAt, Instr.slice, run_underlying_ok hu, hb]
        · cases ht
      · cases h
    · cases h
  · rename_i lent full xs
    split at h
    · rename_i e es m l hq ht el eh
      obtain rfl := Option.some.inj h
      obtain ⟨h0, h1, h2, h3⟩ := of_decide_eq_true hn
      obtain ⟨hu, hs, _⟩ := tyEl_run ht w
      have hmin : min (hq.toNat - l.toNat) (xs.length - l.toNat) = hq.toNat - l.toNat := by omega
      rw [tyAr_not ht]
      cases hx with
      | @nil _ _ _ _ base =>
        have h2' : hq ≤ 0 := by simpa using h2
        obtain rfl : l = 0 := by omega
        obtain rfl : hq = 0 := by omega
        have hb := bounds_run (P := P) (isS := true) (cap := 0) hl hh el eh (by omega) (by omega) (by omega) w
        refine ⟨.slice base 0 0, ?_, ?_⟩
        · simp at hb
          simp [Instr.slice, hu, hs, hb]
        · simp; exact .nil
      | @list _ _ _ _ _ b o o' cap es' f g1 g2 g3 g4 g5 g6 g7 g8 =>
        have hb := bounds_run (P := P) (isS := true) (cap := cap) hl hh el eh h0 h1 (by omega) w
        have hlen : ((xs.drop l.toNat).take (hq.toNat - l.toNat)).length = hq.toNat - l.toNat := by simp [hmin]
        have hmem : ∀ (i : Nat) (y : AV), ((xs.drop l.toNat).take (hq.toNat - l.toNat))[i]? = some y → xs[l.toNat + i]? = some y := fun i y hy => by
          rw [List.getElem?_take] at hy
          split at hy
          · rwa [List.getElem?_drop] at hy
          · cases hy
        refine ⟨.slice (if cap = l.toNat then some ⟨b, o', none⟩ else some ⟨b, o' + l.toNat * es, none⟩) (hq.toNat - l.toNat) (cap - l.toNat), ?_, ?_⟩
        · simp [Instr.slice, hu, hs, hb, add_none]
        · rw [← apply_ite some, ← apply_ite (fun q => (⟨b, q, none⟩ : Addr))]
          have key := @RV.list F (locOf ob μ) lent (full && hi.isNone) ((xs.drop l.toNat).take (hq.toNat - l.toNat)) b (o + l.toNat * es) (if cap = l.toNat then o' else o' + l.toNat * es) (cap - l.toNat) es (fun i j => f (l.toNat + i) j)
            (fun y hy => h3 y (List.mem_of_mem_drop (List.mem_of_mem_take hy))) (by rw [hlen]; omega) (by rw [hlen]; unfold maxRow at *; omega)
            (fun hf => by
              simp at hf
              obtain ⟨hf1, hf2⟩ := hf
              subst hf2
              simp [bd] at eh
              rw [hlen, g4 hf1, ← eh]; simp)
            (fun hne => by
              have : 0 < hq.toNat - l.toNat := by
                rcases Nat.eq_zero_or_pos (hq.toNat - l.toNat) with e | e
                · rw [e] at hne; simp at hne
                · exact e
              have hc : ¬ cap = l.toNat := by omega
              rw [if_neg hc, g5 (by intro e; subst e; simp at h2; omega)])
            (fun i y j a hy ha => by
              have hx := hmem i y hy
              have hes : es' = es := (g1 y (List.mem_of_getElem? hx)).symm.trans (h3 y (List.mem_of_getElem? hx))
              have := g6 _ y j a hx ha
              rw [← this]
              congr 1
              rw [hes, Nat.add_mul]; omega)
            (fun i y j a hy ha => g7 _ y j a (hmem i y hy) ha) (fun i y j a hy ha => g8 _ y j a (hmem i y hy) ha)
          rw [hlen] at key
          exact key
    · cases h
  · rename_i L b n
    split at h
    · rename_i e es m x' l hq ht hg el eh
      obtain rfl := Option.some.inj h
      obtain ⟨hes, h0, h1, h2⟩ := of_decide_eq_true hn
      obtain ⟨hu, hs, _⟩ := tyEl_run ht w
      rw [tyAr_not ht]
      have hloc : locOf ob μ L = some (locO x' (μ L)) := by simp [locOf, hg]
      cases hx with
      | @refNil _ _ _ es0 len0 base g =>
        have h2' : hq ≤ 0 := by simpa using h2
        obtain rfl : l = 0 := by omega
        obtain rfl : hq = 0 := by omega
        have hb := bounds_run (P := P) (isS := true) (cap := 0) hl hh el eh (by omega) (by omega) (by omega) w
        refine ⟨.slice base 0 0, ?_, .refNil g⟩
        · simp at hb
          simp [Instr.slice, hu, hs, hb]
      | @ref _ _ _ _ _ blk cap es' len o c g1 g2 g3 g4 g5 =>
        have hb := bounds_run (P := P) (isS := true) (cap := c) hl hh el eh h0 h1 (by omega) w
        rw [hloc] at g1
        obtain ⟨hm, rfl, rfl, hk1⟩ := locO_std (Option.some.inj g1)
        refine ⟨.slice (some ⟨blk, if c = l.toNat then o else o + l.toNat * es, none⟩) (hq.toNat - l.toNat) (c - l.toNat), ?_, ?_⟩
        · simp [Instr.slice, hu, hs, hb, add_none]
          by_cases hc : c = l.toNat <;> simp [hc]
        · refine .ref (hloc.trans (by rw [locO_mk hk1, hm])) (by omega) (by omega) (fun hne => ?_) (fun hlo => ?_)
          · by_cases hc : c = l.toNat
            · rw [if_pos hc]
              have hl0 : b + l.toNat = 0 := by omega
              have := g4 (.inr (by omega))
              rw [this, hl0, show b = 0 from by omega]
            · rw [if_neg hc]
              have : n ≠ 0 ∨ b = 0 := by omega
              rw [g4 this, ← hes, Nat.add_mul]
          · have := g5 (by omega); omega
    · cases h
  · rename_i L i o
    split at h
    · rename_i n e es l ht el
      split at h
      · rename_i hq eh
        obtain rfl := Option.some.inj h
        obtain ⟨h0, h1, h2⟩ := of_decide_eq_true hn
        obtain ⟨hu, hs⟩ := tyAr_run ht w
        have hb := bounds_run (P := P) (isS := false) (cap := n) hl hh el eh h0 h1 (by omega) w
        cases hx with
        | @ptr _ _ _ _ _ b cap es' len g1 g2 =>
          refine ⟨.slice (some ⟨b, if n = l.toNat then i * es' + o else i * es' + o + l.toNat * es, none⟩) (hq.toNat - l.toNat) (n - l.toNat), ?_, ?_⟩
          · simp [Instr.sliceAt, Instr.sureAddr, hu, hs, hb, add_none]
            by_cases hc : n = l.toNat <;> simp [hc]
          · refine .aref g1 g2 (by omega) (fun hne => ?_)
            rw [if_neg (by omega)]; omega
      · cases h
    · cases h
  · cases h

end Go.Ab
