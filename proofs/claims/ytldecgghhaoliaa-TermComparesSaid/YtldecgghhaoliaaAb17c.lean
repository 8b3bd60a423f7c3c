/-
  Ab17c: maps that the walk made itself: making one, an entry looked up, an entry set.
-/
import Derived.Test.YtldecgghhaoliaaAb17b
import Derived.MapKept
import Derived.Laws.MakeOwn
namespace Go.Ab
open Go.RowKit
set_option linter.unusedVariables false
set_option linter.unusedSimpArgs false

/-- Keys of one kind: are they the same? -/
def kEq : Value → Value → Option Bool
  | .int k a, .int k' b => if k = k' then some (a == b) else none
  | .string a, .string b => some (decide (a = b))
  | .bool a, .bool b => some (a == b)
  | _, _ => none
/-- The kinds of keys that are dealt with. -/
def tyMk (P : Program) (t : TypeId) (k : Value) : Bool := match P.underlying t with
  | some (.map kt _) => match P.underlying kt, k with
    | some (.int _), .int _ _ => true
    | some .string, .string _ => true
    | some .bool, .bool _ => true
    | _, _ => false
  | _ => false
/-- An entry's place and value. -/
def mget (k : Value) : List AV → Nat → Option (Option (Nat × AV))
  | [], _ => some none
  | .tup [.sc k', v] :: r, i => match kEq k k' with
    | some true => some (some (i, v))
    | some false => mget k r (i + 1)
    | none => none
  | _ :: _, _ => none
def mput (k : Value) (v : AV) (xs : List AV) : Option (List AV) := match mget k xs 0 with
  | some (some (i, _)) => some (xs.set i (.tup [.sc k, v]))
  | some none => some (xs ++ [.tup [.sc k, v]])
  | none => none

theorem beq_toListB (a b : ByteArray) : (a == b) = decide (a = b) := by
  rw [Bool.eq_iff_iff, decide_eq_true_eq]
  constructor
  · intro h
    obtain ⟨a⟩ := a; obtain ⟨b⟩ := b
    have h' : (a == b) = true := h
    rw [eq_of_beq h']
  · rintro rfl
    obtain ⟨a⟩ := a
    show (a == a) = true
    simp

theorem sameNow_kEq {P : Program} {t kt et : TypeId} {k k' : Value} (hu : P.underlying t = some (.map kt et)) (hk : tyMk P t k = true) {d : TypeDesc} (hd : P.underlying kt = some d) {q : Bool} (h : kEq k k' = some q) : Instr.sameNow d k k' = some q := by
  unfold tyMk at hk
  rw [hu] at hk
  simp only [hd] at hk
  unfold kEq at h
  split at h
  · cases d <;> simp at hk
    simpa [Instr.sameNow] using h
  · cases d <;> simp at hk
    simp only [Instr.sameNow, beq_toListB]; exact h
  · cases d <;> simp at hk
    simpa [Instr.sameNow] using h
  · cases h

theorem kEq_same {k k' : Value} (h : kEq k k' = some true) : k = k' := by
  unfold kEq at h
  split at h
  · split at h
    · rename_i hk; subst hk; simp at h; rw [h]
    · cases h
  · simp at h; rw [h]
  · simp at h; rw [h]
  · cases h

theorem mget_now {P : Program} {t kt et : TypeId} {k : Value} (hu : P.underlying t = some (.map kt et)) (hk : tyMk P t k = true) {d : TypeDesc} (hd : P.underlying kt = some d) {F : Bool → Facts} :
    ∀ {xs : List AV} {es : List MapEntry} {i : Nat} {r : Option (Nat × AV)}, es.length = xs.length → (∀ (j : Nat) (e : MapEntry) (y : AV), es[j]? = some e → xs[j]? = some y → ∃ v, y = .tup [.sc e.key, v] ∧ RV (sh F) noloc v e.val) → mget k xs i = some r →
      ∃ z, Instr.findNow d k es i = some z ∧ (match r, z with
        | none, none => True
        | some (n, v), some (n', u) => n = n' ∧ i ≤ n ∧ RV (sh F) noloc v u ∧ ∃ e, es[n - i]? = some e ∧ e.key = k
        | _, _ => False)
  | [], es, i, r, hl, hes, h => by
    simp [mget] at h; subst h
    obtain rfl : es = [] := List.length_eq_zero_iff.1 hl
    exact ⟨none, rfl, trivial⟩
  | x :: xs, [], i, r, hl, hes, h => by simp at hl
  | x :: xs, e :: es, i, r, hl, hes, h => by
    obtain ⟨v, rfl, hv⟩ := hes 0 e x rfl rfl
    simp only [mget] at h
    split at h
    · rename_i hq
      obtain rfl := Option.some.inj h
      refine ⟨some (i, e.val), ?_, rfl, Nat.le_refl _, hv, e, by simp, (kEq_same hq).symm⟩
      simp only [Instr.findNow, sameNow_kEq hu hk hd hq]
    · rename_i hq
      obtain ⟨z, h1, h2⟩ := mget_now hu hk hd (xs := xs) (es := es) (i := i + 1) (by simpa using hl) (fun j e' y he hy => hes (j + 1) e' y (by simpa using he) (by simpa using hy)) h
      refine ⟨z, by simp only [Instr.findNow, sameNow_kEq hu hk hd hq]; exact h1, ?_⟩
      cases r with
      | none =>
        cases z with
        | none => trivial
        | some q => exact h2.elim
      | some p =>
        obtain ⟨n, v'⟩ := p
        cases z with
        | none => exact h2.elim
        | some q =>
          obtain ⟨n', u⟩ := q
          obtain ⟨g1, g2, g3, e', g4, g5⟩ := h2
          exact ⟨g1, by omega, g3, e', by rw [show n - i = (n - (i + 1)) + 1 by omega]; simpa using g4, g5⟩
    · cases h

theorem run_findKey {P : Program} {t kt et : TypeId} {k : Value} (hu : P.underlying t = some (.map kt et)) (hk : tyMk P t k = true) {w : World} {es : List MapEntry} {d : TypeDesc} (hd : P.underlying kt = some d) {z} (h : Instr.findNow d k es 0 = some z) :
    (Instr.findKey kt k es).run P w = .ok z w := by
  simp [Instr.findKey, run_underlying hd, h]

theorem run_checkKey {P : Program} {t kt et : TypeId} {k : Value} (hu : P.underlying t = some (.map kt et)) (hk : tyMk P t k = true) (em : Bool) (n : Nat) (w : World) : (Instr.checkKey em (n + 1) kt k).run P w = .ok () w := by
  unfold tyMk at hk
  rw [hu] at hk
  simp only at hk
  split at hk
  · rename_i h1; simp [Instr.checkKey, run_underlying h1]
  · rename_i h1; simp [Instr.checkKey, run_underlying h1]
  · rename_i h1; simp [Instr.checkKey, run_underlying h1]
  · cases hk

theorem tyMk_und {P : Program} {t : TypeId} {k : Value} (hk : tyMk P t k = true) : ∃ kt et d, P.underlying t = some (.map kt et) ∧ P.underlying kt = some d := by
  unfold tyMk at hk
  split at hk
  · rename_i kt et hu
    split at hk
    · rename_i h1; exact ⟨kt, et, _, hu, h1⟩
    · rename_i h1; exact ⟨kt, et, _, hu, h1⟩
    · rename_i h1; exact ⟨kt, et, _, hu, h1⟩
    · cases hk
  · cases hk

/-- The element type's zero value. -/
def tyMz (P : Program) (t : TypeId) : Option AV := match P.underlying t with
  | some (.map _ et) => tyZ P et
  | _ => none

theorem map_at {C F μ} {s : ASt} {a : Act} {w : World} (hs : SR C F μ s a w) {v : Value} {L : Nat} {y : AObj} (hx : RV F (locOf s.o μ) (.mp L) v) (hg : lk s.o L = some y) :
    ∃ b cap, v = .map (some b) ∧ μ L = some (b, cap) ∧ MapAt F w y b := by
  have ho := hs.sw.obj L y hg
  cases hx with
  | @mp _ _ _ b cap es len g1 =>
    simp only [locOf, hg, Option.map_some] at g1
    obtain ⟨hm, hk⟩ := locO_map (Option.some.inj g1)
    rw [hm] at ho
    exact ⟨b, cap, rfl, hm, ObjAt.map ho hk⟩

def mapO : AObj := { arr := true, fz := false, pin := false, es := 0, xs := [], kd := 1 }
theorem makeMap_sound {P : Program} {C F μ} {s : ASt} {a : Act} {w : World} (h : SR C F μ s a w) {t : TypeId} {d : Nat} (hd : d < s.n) :
    ∃ v w' μ', (Instr.makeMap t none).run P w = .ok v w' ∧ SR C F μ' (s.renew d d d mapO (.mp d)) (a.put (some d) v) w' := by
  refine ⟨.map (some w.heap.size), w.alloc (.map #[] 0), upd μ d (some (w.heap.size, 0)), by simp [Instr.makeMap], ?_⟩
  refine SR.renew (x := mapO) (w' := w.alloc (.map #[] 0)) (p := some (w.heap.size, 0)) h hd rfl rfl rfl ⟨rfl, rfl, rfl, by simp, fun k hk _ => alloc_heap_old hk⟩ ?_ (fun b c hbc => .inl (h.sw.nb (by simp at hbc; omega))) (fun loc hl => ?_)
  · exact .inr ⟨rfl, rfl, by simp [mapO, maxRow], #[], 0, alloc_heap_new, rfl, fun i e y he => by simp at he⟩
  · exact .mp (cap := 0) (es := 0) (len := 0) (hl.trans rfl)

/-- A value looked up. -/
def lookA (P : Program) (t : TypeId) (k : Value) (ok : Bool) (xs : List AV) : Option AV := match tyMz P t, mget k xs 0 with
  | some z, some none => some (if ok = true then .tup [z, bl false] else z)
  | some _, some (some (_, v)) => some (if ok = true then .tup [v, bl true] else v)
  | _, _ => none
theorem lookA_sound {P : Program} {C F μ} {s : ASt} {a : Act} {w : World} (h : SR C F μ s a w) {t : TypeId} {k : Value} (hk : tyMk P t k = true) {ok : Bool} {L : Nat} {x : AObj} (hg : lk s.o L = some x) {m : Value} (hm : RV F (locOf s.o μ) (.mp L) m) {r : AV}
    (hr : lookA P t k ok x.xs = some r) : ∃ v, (Instr.lookup t m k ok).run P w = .ok v w ∧ RV F (locOf s.o μ) r v := by
  obtain ⟨kt, et, d, hu, hd⟩ := tyMk_und hk
  obtain ⟨b, cap, rfl, e2, k1, k2, k4, es, ck, k5, k6, k7⟩ := map_at h hm hg
  have hes : ∀ (j : Nat) (e : MapEntry) (y : AV), es.toList[j]? = some e → x.xs[j]? = some y → ∃ v, y = .tup [.sc e.key, v] ∧ RV (sh F) noloc v e.val := fun j e y he hy => k7 j e y (by simpa using he) hy
  unfold lookA at hr
  split at hr
  · rename_i z hz hq
    obtain rfl := Option.some.inj hr
    obtain ⟨z', f1, f2⟩ := mget_now hu hk hd (i := 0) (by simpa using k6) hes hq
    cases z' with
    | some q => exact f2.elim
    | none =>
      unfold tyMz at hz
      rw [hu] at hz
      simp only [tyZ] at hz
      cases hzv : tyZero P et with
      | none => simp [hzv] at hz
      | some zv =>
        simp [hzv] at hz
        have hrv : RV F (locOf s.o μ) z zv := RV_cst hz
        have hrun : (Instr.lookup t (.map (some b)) k ok).run P w = .ok (if ok then .tuple #[zv, .bool false] else zv) w := by
          simp [Instr.lookup, run_underlying hu, MapKept.run_getObj_map k5, run_checkKey hu hk, run_findKey hu hk hd f1, run_zeroValue_ok hzv]
        refine ⟨_, hrun, ?_⟩
        cases ok
        · exact hrv
        · refine .tup rfl fun i a v ha hv => ?_
          match i with
          | 0 => simp at ha hv; subst ha; subst hv; exact hrv
          | 1 => simp at ha hv; subst ha; subst hv; exact .sc rfl
          | i + 2 => simp at ha
  · rename_i z n v hz hq
    obtain rfl := Option.some.inj hr
    obtain ⟨z', f1, f2⟩ := mget_now hu hk hd (i := 0) (by simpa using k6) hes hq
    cases z' with
    | none => exact f2.elim
    | some q =>
      obtain ⟨n', u⟩ := q
      obtain ⟨rfl, _, g3, _⟩ := f2
      have hrv : RV F (locOf s.o μ) v u := RV.up g3 h.sw.sub
      have hrun : (Instr.lookup t (.map (some b)) k ok).run P w = .ok (if ok then .tuple #[u, .bool true] else u) w := by
        simp [Instr.lookup, run_underlying hu, MapKept.run_getObj_map k5, run_checkKey hu hk, run_findKey hu hk hd f1]
      refine ⟨_, hrun, ?_⟩
      cases ok
      · exact hrv
      · refine .tup rfl fun i a v ha hv => ?_
        match i with
        | 0 => simp at ha hv; subst ha; subst hv; exact hrv
        | 1 => simp at ha hv; subst ha; subst hv; exact .sc rfl
        | i + 2 => simp at ha
  · cases hr

theorem sameBits_k {k : Value} {P : Program} {t : TypeId} (hk : tyMk P t k = true) : Instr.sameBits 10000 k k = true := by
  unfold tyMk at hk
  split at hk
  · split at hk <;> first | (simp [Instr.sameBits]; done) | (simp [Instr.sameBits, beq_toListB]; done) | cases hk
  · cases hk
theorem run_stays {k : Value} {P : Program} {t : TypeId} (hk : tyMk P t k = true) (w : World) : (Instr.keyThatStays k k).run P w = .ok k w := by
  simp [Instr.keyThatStays, sameBits_k hk]

/-- An entry set. -/
def mupdA (P : Program) (t : TypeId) (L : Nat) (k : Value) (v : AV) (s : ASt) : Option ASt :=
  match share s v with
  | some (s1, v1) => match lk s1.o L with
    | some x => if tyMk P t k = true ∧ x.kd = 1 ∧ x.fz = false ∧ v1.pure = true then match mput k v1 x.xs with
        | some ys => if ys.length ≤ maxRow then some { s1 with o := setO s1.o L { x with xs := ys } } else none
        | none => none
      else none
    | none => none
  | none => none

theorem mupdA_sound {P : Program} {C F μ} {s : ASt} {a : Act} {w : World} (h : SR C F μ s a w) {t : TypeId} {k : Value} {L : Nat} {v : AV} {m u : Value} (hm : RV F (locOf s.o μ) (.mp L) m) (hv : RV F (locOf s.o μ) v u) {r : ASt}
    (he : mupdA P t L k v s = some r) : ∃ w' F' μ', (Instr.mapUpdate t m k u).run P w = .ok () w' ∧ SR C F' μ' r a w' := by
  unfold mupdA at he
  split at he
  · rename_i s1 v1 hsh
    obtain ⟨F', b1, b2, b3, b4, b5⟩ := share_sound h hsh
    split at he
    · rename_i x hg
      split at he
      · rename_i hc
        obtain ⟨hk, c1, c2, c3⟩ := hc
        split at he
        · rename_i ys hput
          split at he
          · rename_i hlen
            obtain rfl := Option.some.inj he
            have hm' : RV F' (locOf s1.o μ) (.mp L) m := by rw [b4]; exact hm.mono b1
            have hu' : RV (sh F') noloc v1 u := RV.share (b5 u hv) c3
            obtain ⟨kt, et, d, hu, hd⟩ := tyMk_und hk
            obtain ⟨b, cap, rfl, e2, k1, k2, k4, es, ck, k5, k6, k7⟩ := map_at b2 hm' hg
            have hes : ∀ (j : Nat) (e : MapEntry) (y : AV), es.toList[j]? = some e → x.xs[j]? = some y → ∃ v, y = .tup [.sc e.key, v] ∧ RV (sh F') noloc v e.val := fun j e y he hy => k7 j e y (by simpa using he) hy
            have fin : ∀ (es' : Array MapEntry) (ck' : Nat), es'.size = ys.length → (∀ (i : Nat) (e : MapEntry) (y : AV), es'[i]? = some e → ys[i]? = some y → ∃ v, y = .tup [.sc e.key, v] ∧ RV (sh F') noloc v e.val) →
                SR C F' μ { s1 with o := setO s1.o L { x with xs := ys } } a { w with heap := w.heap.setIfInBounds b (.map es' ck') } := by
              intro es' ck' hs1 hs2
              have hb : b < w.heap.size := get_block_lt k5
              have h1 : ∀ p, locO { x with xs := ys } p = locO x p := fun p => by simp [locO, c1]
              have hloc := locOf_setO (μ := μ) hg h1
              refine ⟨?_, b2.defers, b2.n, fun k z hk => by rw [hloc]; exact b2.slot k z hk⟩
              refine b2.sw.turn hg h1 rfl rfl e2 c2 (by exact c2) ⟨rfl, rfl, rfl, by simp, fun k hk hkb => by simp only [Array.getElem?_setIfInBounds]; rw [if_neg (fun q => hkb q.symm)]⟩ (by simp) ?_
              exact .inr ⟨c1, k2, hlen, es', ck', by simp [hb], hs1, hs2⟩
            unfold mput at hput
            split at hput
            · rename_i i v0 hq
              obtain rfl := Option.some.inj hput
              obtain ⟨z', f1, f2⟩ := mget_now hu hk hd (i := 0) (by simpa using k6) hes hq
              cases z' with
              | none => exact f2.elim
              | some q =>
                obtain ⟨n', u0⟩ := q
                obtain ⟨rfl, _, g3, e0, g4, g5⟩ := f2
                have hj : es[i]? = some e0 := by simpa using g4
                refine ⟨_, F', μ, ?_, fin (es.modify i fun e => { e with key := k, val := u }) ck (by simp [k6]) ?_⟩
                · simp [Instr.mapUpdate, run_underlying hu, MapKept.run_getObj_map k5, run_checkKey hu hk, run_findKey hu hk hd f1, hj, g5, run_stays hk, MapKept.run_setObj_map _ k5, Result.andThen]
                · intro j e y he hy
                  rw [Array.getElem?_modify] at he
                  rw [List.getElem?_set] at hy
                  by_cases hij : i = j
                  · subst hij
                    rw [if_pos rfl] at he hy
                    split at hy
                    · obtain rfl := Option.some.inj hy
                      rw [hj] at he
                      simp at he
                      subst he
                      exact ⟨v1, rfl, hu'⟩
                    · cases hy
                  · rw [if_neg hij] at he hy
                    exact k7 j e y he hy
            · rename_i hq
              obtain rfl := Option.some.inj hput
              obtain ⟨z', f1, f2⟩ := mget_now hu hk hd (i := 0) (by simpa using k6) hes hq
              cases z' with
              | some q => exact f2.elim
              | none =>
                refine ⟨_, F', μ, ?_, fin (es.push ⟨k, u, ck⟩) (ck + 1) (by simp [k6]) ?_⟩
                · simp [Instr.mapUpdate, run_underlying hu, MapKept.run_getObj_map k5, run_checkKey hu hk, run_findKey hu hk hd f1, MapKept.run_setObj_map _ k5, Result.andThen]
                · intro j e y he hy
                  rw [Array.getElem?_push] at he
                  by_cases hij : j = es.size
                  · subst hij
                    rw [if_pos rfl] at he
                    obtain rfl := Option.some.inj he
                    rw [k6, List.getElem?_append_right (Nat.le_refl _)] at hy
                    simp at hy
                    exact ⟨v1, hy.symm, hu'⟩
                  · rw [if_neg hij] at he
                    have hjl := (Array.getElem?_eq_some_iff.1 he).1
                    rw [List.getElem?_append_left (by omega)] at hy
                    exact k7 j e y he hy
            · cases hput
          · cases he
        · cases he
      · cases he
    · cases he
  · cases he

/-- A row made of zero values. -/
def makeSliceA (P : Program) (t : TypeId) (d : Nat) (s : ASt) : Option AV → Option AV → Option St
  | some (.sc (.int _ l)), some (.sc (.int _ c)) => match tyEl P t with
    | some (e, es, by_) => match tyZ P e with
      | some z => if z.pure = true ∧ z.cells.length = es then some ⟨decide (d < s.n ∧ 0 ≤ l ∧ l ≤ c ∧ (by_ : Int) * c ≤ 281474976710656 ∧ c ≤ 140737488355328), s.fresh d (arrO es (List.replicate l.toNat z)) (.ref d 0 l.toNat)⟩ else none
      | none => none
    | none => none
  | _, _ => none

theorem madeCells_get {z : Array Value} {n es i j : Nat} (hz : z.size = es) (hj : j < es) (hi : i < n) : (madeCells z (n * es))[i * es + j]? = z[j]? := by
  have hlt : i * es + j < n * es := by
    have : (i + 1) * es ≤ n * es := Nat.mul_le_mul_right _ hi
    rw [Nat.add_mul] at this; omega
  simp only [madeCells, Array.getElem?_map, Array.getElem?_range, hlt, hz]
  have hm : (i * es + j) % es = j := by rw [Nat.mul_comm, Nat.mul_add_mod]; exact Nat.mod_eq_of_lt hj
  simp [hm, hz, hj]

theorem makeSliceA_sound {P : Program} {C F μ} {s : ASt} {a : Act} {w : World} (h : SR C F μ s a w) {t : TypeId} {d : Nat} {x y : AV} {vx vy : Value} (hx : RV F (locOf s.o μ) x vx) (hy : RV F (locOf s.o μ) y vy) {r : St}
    (he : makeSliceA P t d s (some x) (some y) = some r) (hn : r.need) : ∃ v w' μ', (Instr.makeSlice t vx vy).run P w = .ok v w' ∧ SR C F μ' r.st (a.put (some d) v) w' := by
  unfold makeSliceA at he
  split at he
  · rename_i kl l kc c e1 e2
    obtain rfl := Option.some.inj e1
    obtain rfl := Option.some.inj e2
    cases hx
    cases hy
    split at he
    · rename_i e es by_ ht
      split at he
      · rename_i z hz
        split at he
        · rename_i hc
          obtain ⟨c1, c2⟩ := hc
          obtain rfl := Option.some.inj he
          obtain ⟨n1, n2, n3, n4, n5⟩ := of_decide_eq_true hn
          obtain ⟨hu, hs, i, hi, rfl, rfl⟩ := tyEl_run ht w
          have hu' : P.underlying t = some (.slice e) := by
            unfold tyEl at ht
            split at ht
            · rename_i e' hu'
              cases hi' : P.info? e' with
              | none => simp [hi'] at ht
              | some i' => simp [hi'] at ht; rw [hu', ht.1]
            · cases ht
          unfold tyZ tyZero at hz
          rw [hi] at hz
          simp only [Option.bind_some] at hz
          cases hzv : i.zero with
          | none => simp [hzv] at hz
          | some zv =>
            simp only [hzv, Option.bind_some] at hz
            have hrz : RV (sh F) noloc z zv := RV_cst hz
            have hcv := hrz.cv (pure_plain c1)
            have hzs : zv.cells.size = i.size := by rw [← hcv.len]; exact c2
            have hrun := run_make (P := P) w t e i zv hu' hi hzv kl kc l c n2 n3 n4 (by omega)
            refine ⟨_, _, upd μ d (some (w.heap.size, c.toNat)), hrun, ?_⟩
            refine h.fresh (x := arrO i.size (List.replicate l.toNat z)) (c := madeCells zv.cells (c.toNat * i.size)) (cap := c.toNat) n1 ⟨size_madeCells _ _, by simp [arrO]; omega, by simp [arrO, maxRow]; omega, fun y hy => by rw [(List.mem_replicate.1 hy).2]; exact c2, fun i' y j a' hy hj => ?_, rfl, rfl, .inl rfl⟩ ?_ fun loc hl => ?_
            · obtain ⟨hi', rfl⟩ := List.getElem?_eq_some_iff.1 hy
              simp [arrO] at hi'
              have hyz : (arrO i.size (List.replicate l.toNat z)).xs[i'] = z := by simp [arrO]
              rw [hyz] at hj
              have hjl : j < i.size := by rw [← c2]; exact (List.getElem?_eq_some_iff.1 hj).1
              have hjs : j < zv.cells.size := by omega
              refine ⟨zv.cells[j], ?_, hcv.one j _ (by simp [hjs]), hcv.rv j a' _ hj (by simp [hjs])⟩
              show (madeCells zv.cells (c.toNat * i.size))[i' * i.size + j]? = _
              rw [madeCells_get hzs hjl (by omega)]
              simp [hjs]
            · rw [Bool.eq_false_iff]
              intro hh
              obtain ⟨i', y, hy, hL⟩ := hasL_ex hh
              rw [(List.mem_replicate.1 (List.mem_of_getElem? hy)).2] at hL
              exact hrz.noloc_has (fun _ => rfl) d hL
            · exact @RV.ref F loc d 0 l.toNat w.heap.size c.toNat i.size _ 0 c.toNat (by rw [hl]; rfl) (by simp [arrO]) (by omega) (fun _ => by simp) (fun _ => rfl)
        · cases he
      · cases he
    · cases he
  · cases he
end Go.Ab
