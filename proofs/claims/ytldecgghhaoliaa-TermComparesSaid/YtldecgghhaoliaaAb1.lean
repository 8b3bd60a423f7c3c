/-
  Ab1: the abstract states of the walk: values without memory (immutable rows by value), objects that the walk owns, and what it means that a machine's state is one of them.
-/
import Derived.WalkKit
namespace Go.Ab
open Go.RowKit

inductive AV where
  | sc (v : Value)
  | agg (cs : List AV)
  | tup (vs : List AV)
  | list (lent full : Bool) (xs : List AV)
  | iptr (lent : Bool) (xs : List AV) (i o : Nat)
  | ref (L lo n : Nat)
  | ptr (L i o : Nat)
  | aref (L i o es n : Nat)
  | clo (f : FuncId) (cap : List AV)
  | own (es : Nat) (xs : List AV)
  | mp (L : Nat)
  | dead

def AV.cells : AV → List AV
  | .agg cs => cs
  | a => [a]

mutual
def AV.has (L : Nat) : AV → Bool
  | .agg cs => AV.hasL L cs
  | .tup vs => AV.hasL L vs
  | .clo _ cs => AV.hasL L cs
  | .ref L' _ _ => L == L'
  | .ptr L' _ _ => L == L'
  | .aref L' _ _ _ _ => L == L'
  | .mp L' => L == L'
  | _ => false
def AV.hasL (L : Nat) : List AV → Bool
  | [] => false
  | a :: r => a.has L || AV.hasL L r
end

theorem hasL_get {L : Nat} : ∀ {cs : List AV} {i : Nat} {a : AV}, cs[i]? = some a → a.has L = true → AV.hasL L cs = true
  | [], _, _, h, _ => by simp at h
  | c :: cs, 0, a, h, ha => by simp at h; subst h; simp [AV.hasL, ha]
  | c :: cs, i + 1, a, h, ha => by simp at h; simp [AV.hasL, hasL_get h ha]

/-- Values that hold no address. -/
def scalar : Value → Bool
  | .bool _ | .int .. | .float .. | .complex .. | .string _ | .pointer none | .map none | .chan none | .nilFunc | .nilIface => true
  | .iface _ v => scalar v
  | .slice none 0 0 => true
  | _ => false

/-- A value that fills one cell. -/
abbrev one (v : Value) : Bool := v.oneCell'

abbrev Facts := Nat → Nat → Option Value

/-- What is known of an object's place: its block and how many elements that has room for (none: a nil slice), the size of an element, how many there are. -/
structure LI where
  place : Option (Nat × Nat)
  es : Nat
  len : Nat
  mp : Bool

def sh (F : Bool → Facts) : Bool → Facts := fun _ => F false
def noloc : Nat → Option LI := fun _ => none
def maxRow : Nat := 2 ^ 47

inductive RV : (Bool → Facts) → (Nat → Option LI) → AV → Value → Prop
  | sc {F loc v} : scalar v = true → RV F loc (.sc v) v
  | agg {F loc} {cs : List AV} {vs : Array Value} : cs.length = vs.size → (∀ (i : Nat) (a : AV) (v : Value), cs[i]? = some a → vs[i]? = some v → RV F loc a v) →
      (∀ (i : Nat) (v : Value), vs[i]? = some v → one v = true) → RV F loc (.agg cs) (.agg vs)
  | tup {F loc} {cs : List AV} {vs : Array Value} : cs.length = vs.size → (∀ (i : Nat) (a : AV) (v : Value), cs[i]? = some a → vs[i]? = some v → RV F loc a v) →
      RV F loc (.tup cs) (.tuple vs)
  | nil {F loc lent full base} : RV F loc (.list lent full []) (.slice base 0 0)
  | list {F loc lent full} {xs : List AV} {b o o' cap es : Nat} {f : Nat → Nat → Value} : (∀ x ∈ xs, x.cells.length = es) → xs.length ≤ cap → xs.length ≤ maxRow → (full = true → cap = xs.length) → (xs ≠ [] → o' = o) →
      (∀ (i : Nat) (x : AV) (j : Nat) (a : AV), xs[i]? = some x → x.cells[j]? = some a → F lent b (o + i * es + j) = some (f i j)) →
      (∀ (i : Nat) (x : AV) (j : Nat) (a : AV), xs[i]? = some x → x.cells[j]? = some a → RV (sh F) noloc a (f i j)) →
      (∀ (i : Nat) (x : AV) (j : Nat) (a : AV), xs[i]? = some x → x.cells[j]? = some a → one (f i j) = true) →
      RV F loc (.list lent full xs) (.slice (some ⟨b, o', none⟩) xs.length cap)
  | iptr {F loc lent} {xs : List AV} {b o es i k : Nat} {f : Nat → Nat → Value} : (∀ x ∈ xs, x.cells.length = es) → i < xs.length →
      (∀ (i : Nat) (x : AV) (j : Nat) (a : AV), xs[i]? = some x → x.cells[j]? = some a → F lent b (o + i * es + j) = some (f i j)) →
      (∀ (i : Nat) (x : AV) (j : Nat) (a : AV), xs[i]? = some x → x.cells[j]? = some a → RV (sh F) noloc a (f i j)) →
      (∀ (i : Nat) (x : AV) (j : Nat) (a : AV), xs[i]? = some x → x.cells[j]? = some a → one (f i j) = true) →
      RV F loc (.iptr lent xs i k) (.pointer (some ⟨b, o + i * es + k, none⟩))
  | refNil {F} {loc : Nat → Option LI} {L es len : Nat} {base} : loc L = some ⟨none, es, len, false⟩ → RV F loc (.ref L 0 0) (.slice base 0 0)
  | ref {F} {loc : Nat → Option LI} {L lo n b cap es len o c : Nat} : loc L = some ⟨some (b, cap), es, len, false⟩ → lo + n ≤ len → n ≤ c → (n ≠ 0 ∨ lo = 0 → o = lo * es) → (lo = 0 → c = cap) →
      RV F loc (.ref L lo n) (.slice (some ⟨b, o, none⟩) n c)
  | ptr {F} {loc : Nat → Option LI} {L i k b cap es len : Nat} : loc L = some ⟨some (b, cap), es, len, false⟩ → i < len → RV F loc (.ptr L i k) (.pointer (some ⟨b, i * es + k, none⟩))
  | aref {F} {loc : Nat → Option LI} {L i k b cap es len e n o c : Nat} : loc L = some ⟨some (b, cap), es, len, false⟩ → i < len → n ≤ c → (n ≠ 0 → o = i * es + k) → RV F loc (.aref L i k e n) (.slice (some ⟨b, o, none⟩) n c)
  | clo {F loc} {g : FuncId} {cs : List AV} {vs : Array Value} : cs.length = vs.size → (∀ (i : Nat) (a : AV) (v : Value), cs[i]? = some a → vs[i]? = some v → RV F loc a v) →
      RV F loc (.clo g cs) (.func (.func g) #[] vs)
  | mp {F} {loc : Nat → Option LI} {L b cap es len : Nat} : loc L = some ⟨some (b, cap), es, len, true⟩ → RV F loc (.mp L) (.map (some b))
  | dead {F loc v} : RV F loc .dead v

def FLe (F F' : Bool → Facts) : Prop := ∀ l b k v, F l b k = some v → F' l b k = some v
theorem FLe.refl (F : Bool → Facts) : FLe F F := fun _ _ _ _ h => h
theorem FLe.trans {A B C : Bool → Facts} (h : FLe A B) (k : FLe B C) : FLe A C := fun l b o v e => k l b o v (h l b o v e)
theorem FLe.sh {F F' : Bool → Facts} (h : FLe F F') : FLe (sh F) (sh F') := fun _ b k v e => h false b k v e

/-- More facts, and the same places of the objects that the value names. -/
theorem RV.congr {F : Bool → Facts} {loc : Nat → Option LI} {a : AV} {v : Value} (h : RV F loc a v) :
    ∀ {F' : Bool → Facts} {loc' : Nat → Option LI}, FLe F F' → (∀ L, a.has L = true → loc' L = loc L) → RV F' loc' a v := by
  induction h with
  | sc h => intro F' loc' _ _; exact .sc h
  | agg hl hr ho ih =>
    intro F' loc' hF hloc
    exact .agg hl (fun i a v ha hv => ih i a v ha hv hF (fun L hL => hloc L (by simp only [AV.has]; exact hasL_get ha hL))) ho
  | tup hl hr ih =>
    intro F' loc' hF hloc
    exact .tup hl (fun i a v ha hv => ih i a v ha hv hF (fun L hL => hloc L (by simp only [AV.has]; exact hasL_get ha hL)))
  | nil => intro F' loc' _ _; exact .nil
  | list h1 h2 h3 h4 h5 h6 h7 h8 ih =>
    intro F' loc' hF hloc
    exact .list h1 h2 h3 h4 h5 (fun i x j a hx ha => hF _ _ _ _ (h6 i x j a hx ha)) (fun i x j a hx ha => ih i x j a hx ha hF.sh (fun L _ => rfl)) h8
  | iptr h1 h2 h6 h7 h8 ih =>
    intro F' loc' hF hloc
    exact .iptr h1 h2 (fun i x j a hx ha => hF _ _ _ _ (h6 i x j a hx ha)) (fun i x j a hx ha => ih i x j a hx ha hF.sh (fun L _ => rfl)) h8
  | refNil h => intro F' loc' _ hloc; exact .refNil ((hloc _ (by simp [AV.has])).trans h)
  | ref h h1 h2 h3 h4 => intro F' loc' _ hloc; exact .ref ((hloc _ (by simp [AV.has])).trans h) h1 h2 h3 h4
  | ptr h h1 => intro F' loc' _ hloc; exact .ptr ((hloc _ (by simp [AV.has])).trans h) h1
  | aref h h1 h2 h3 => intro F' loc' _ hloc; exact .aref ((hloc _ (by simp [AV.has])).trans h) h1 h2 h3
  | clo hl hr ih =>
    intro F' loc' hF hloc
    exact .clo hl (fun i a v ha hv => ih i a v ha hv hF (fun L hL => hloc L (by simp only [AV.has]; exact hasL_get ha hL)))
  | mp h => intro F' loc' _ hloc; exact .mp ((hloc _ (by simp [AV.has])).trans h)
  | dead => intro F' loc' _ _; exact .dead

theorem RV.mono {F F' : Bool → Facts} {loc : Nat → Option LI} {a : AV} {v : Value} (h : RV F loc a v) (hF : FLe F F') : RV F' loc a v := h.congr hF fun _ _ => rfl

/- A value that names no object and nothing lent holds under the shared facts alone. -/
mutual
def AV.pure : AV → Bool
  | .sc _ => true
  | .agg cs => AV.pureL cs
  | .list lent _ _ => !lent
  | .iptr lent _ _ _ => !lent
  | .clo _ cs => AV.pureL cs
  | _ => false
def AV.pureL : List AV → Bool
  | [] => true
  | a :: r => a.pure && AV.pureL r
end

theorem pureL_get : ∀ {cs : List AV} {i : Nat} {a : AV}, AV.pureL cs = true → cs[i]? = some a → a.pure = true
  | [], _, _, _, h => by simp at h
  | c :: cs, 0, a, hp, h => by simp at h; subst h; simp [AV.pureL] at hp; exact hp.1
  | c :: cs, i + 1, a, hp, h => by simp at h; simp [AV.pureL] at hp; exact pureL_get hp.2 h

theorem RV.shared {F : Bool → Facts} {loc : Nat → Option LI} {a : AV} {v : Value} (h : RV F loc a v) : a.pure = true → RV (sh F) noloc a v := by
  induction h with
  | sc h => intro _; exact .sc h
  | agg hl hr ho ih => intro hp; exact .agg hl (fun i a v ha hv => ih i a v ha hv (pureL_get (by simpa [AV.pure] using hp) ha)) ho
  | tup hl hr ih => intro hp; simp [AV.pure] at hp
  | nil => intro _; exact .nil
  | @list F loc lent full xs b o o' cap es f h1 h2 h3 h4 h5 h6 h7 h8 ih =>
    intro hp
    have hl : lent = false := by simpa [AV.pure] using hp
    subst hl
    exact .list h1 h2 h3 h4 h5 h6 h7 h8
  | @iptr F loc lent xs b o es i k f h1 h2 h6 h7 h8 ih =>
    intro hp
    have hl : lent = false := by simpa [AV.pure] using hp
    subst hl
    exact .iptr h1 h2 h6 h7 h8
  | refNil h => intro hp; simp [AV.pure] at hp
  | ref h h1 h2 h3 h4 => intro hp; simp [AV.pure] at hp
  | ptr h h1 => intro hp; simp [AV.pure] at hp
  | aref h h1 => intro hp; simp [AV.pure] at hp
  | clo hl hr ih => intro hp; exact .clo hl (fun i a v ha hv => ih i a v ha hv (pureL_get (by simpa [AV.pure] using hp) ha))
  | mp h => intro hp; simp [AV.pure] at hp
  | dead => intro hp; simp [AV.pure] at hp

theorem RV.unshare {F : Bool → Facts} {loc : Nat → Option LI} {a : AV} {v : Value} (h : RV (sh F) noloc a v) (hp : a.pure = true) : RV F loc a v := by
  generalize hF : sh F = F₁ at h
  generalize hloc : (noloc : Nat → Option LI) = loc₁ at h
  induction h with
  | sc h => exact .sc h
  | agg hl hr ho ih => exact .agg hl (fun i a v ha hv => ih i a v ha hv (pureL_get (by simpa [AV.pure] using hp) ha) hF hloc) ho
  | tup hl hr ih => simp [AV.pure] at hp
  | nil => exact .nil
  | @list F1 loc lent full xs b o o' cap es f h1 h2 h3 h4 h5 h6 h7 h8 ih =>
    subst hF
    have hl : lent = false := by simpa [AV.pure] using hp
    subst hl
    exact .list h1 h2 h3 h4 h5 h6 h7 h8
  | @iptr F1 loc lent xs b o es i k f h1 h2 h6 h7 h8 ih =>
    subst hF
    have hl : lent = false := by simpa [AV.pure] using hp
    subst hl
    exact .iptr h1 h2 h6 h7 h8
  | refNil h => simp [AV.pure] at hp
  | ref h h1 h2 h3 h4 => simp [AV.pure] at hp
  | ptr h h1 => simp [AV.pure] at hp
  | aref h h1 => simp [AV.pure] at hp
  | clo hl hr ih => exact .clo hl (fun i a v ha hv => ih i a v ha hv (pureL_get (by simpa [AV.pure] using hp) ha) hF hloc)
  | mp h => simp [AV.pure] at hp
  | dead => simp [AV.pure] at hp

theorem hasL_ex {L : Nat} : ∀ {cs : List AV}, AV.hasL L cs = true → ∃ (i : Nat) (a : AV), cs[i]? = some a ∧ a.has L = true
  | [], h => by simp [AV.hasL] at h
  | c :: cs, h => by
    simp only [AV.hasL, Bool.or_eq_true] at h
    rcases h with h | h
    · exact ⟨0, c, rfl, h⟩
    · obtain ⟨i, a, h1, h2⟩ := hasL_ex h; exact ⟨i + 1, a, by simpa using h1, h2⟩

theorem RV.noloc_has {F : Bool → Facts} {loc : Nat → Option LI} {a : AV} {v : Value} (h : RV F loc a v) : (∀ L, loc L = none) → ∀ L, a.has L = true → False := by
  induction h with
  | @agg F loc cs vs hl hr ho ih =>
    intro hn L hL
    simp only [AV.has] at hL
    obtain ⟨i, a, h1, h2⟩ := hasL_ex hL
    have hi : i < vs.size := by rw [← hl]; exact (List.getElem?_eq_some_iff.1 h1).1
    exact ih i a vs[i] h1 (by simp [hi]) hn L h2
  | @tup F loc cs vs hl hr ih =>
    intro hn L hL
    simp only [AV.has] at hL
    obtain ⟨i, a, h1, h2⟩ := hasL_ex hL
    have hi : i < vs.size := by rw [← hl]; exact (List.getElem?_eq_some_iff.1 h1).1
    exact ih i a vs[i] h1 (by simp [hi]) hn L h2
  | @clo F loc g cs vs hl hr ih =>
    intro hn L hL
    simp only [AV.has] at hL
    obtain ⟨i, a, h1, h2⟩ := hasL_ex hL
    have hi : i < vs.size := by rw [← hl]; exact (List.getElem?_eq_some_iff.1 h1).1
    exact ih i a vs[i] h1 (by simp [hi]) hn L h2
  | refNil h => intro hn L hL; rw [hn] at h; cases h
  | ref h => intro hn L hL; rw [hn] at h; cases h
  | ptr h => intro hn L hL; rw [hn] at h; cases h
  | aref h => intro hn L hL; rw [hn] at h; cases h
  | mp h => intro hn L hL; rw [hn] at h; cases h
  | _ => intro hn L hL; simp [AV.has] at hL

/-- The lent facts hold the shared ones. -/
def Sub (F : Bool → Facts) : Prop := ∀ b k v, F false b k = some v → F true b k = some v
theorem Sub.sh {F : Bool → Facts} (h : Sub F) : FLe (sh F) F := fun l b k v e => by
  cases l
  · exact e
  · exact h b k v e

/-- A part of a row, taken out of it. -/
theorem RV.up {F : Bool → Facts} {loc : Nat → Option LI} {a : AV} {v : Value} (h : RV (Ab.sh F) noloc a v) (hs : Sub F) : RV F loc a v :=
  h.congr hs.sh fun L hL => (h.noloc_has (fun _ => rfl) L hL).elim

end Go.Ab
