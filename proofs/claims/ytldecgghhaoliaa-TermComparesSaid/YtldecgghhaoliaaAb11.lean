/-
  Ab11: the operations that make or change an object.
-/
import Derived.Test.YtldecgghhaoliaaAb10
namespace Go.Ab
open Go.RowKit
set_option linter.unusedVariables false
set_option linter.unusedSimpArgs false

/-- What an operation needs, and the state behind it. -/
structure St where
  need : Bool
  st : ASt

/-- A value as it can be laid into an array: the arrays that it names are frozen. -/
def shareV (s : ASt) : AV → Option (ASt × AV)
  | .ref L lo n => match lk s.o L with
    | some x => if x.arr = true ∧ x.pin = false then some (s.frz L x, .list false false (seg x.xs lo n)) else none
    | none => none
  | a => if a.pure = true then some (s, a) else none
def shareL : ASt → List AV → Option (ASt × List AV)
  | s, [] => some (s, [])
  | s, a :: r => match shareV s a with
    | some (s1, b) => match shareL s1 r with
      | some (s2, bs) => some (s2, b :: bs)
      | none => none
    | none => none
def share (s : ASt) : AV → Option (ASt × AV)
  | .agg cs => match shareL s cs with
    | some (s1, ds) => some (s1, .agg ds)
    | none => none
  | a => shareV s a

theorem ref_list {F : Bool → Facts} {o : Objs} {μ : Pl} {w : World} {L : Nat} {x : AObj} (hg : lk o L = some x) (ho : ObjR F (locOf o μ) w x (μ L)) (ha : x.arr = true) (hz : x.fz = true) {lo n : Nat} {v : Value}
    (h : RV F (locOf o μ) (.ref L lo n) v) (loc : Nat → Option LI) : RV F loc (.list false false (seg x.xs lo n)) v := by
  refine RV.row hg ho ha h (FLe.refl _) (fun b cap hm i y j a u hy hj hu => ?_) loc
  rw [hm] at ho
  obtain ⟨c, e, q1, q2, q3, q4, q5, q6, q7⟩ := ho.std (fun hk => by
    cases h with
    | ref g1 => simp only [locOf, hg, Option.map_some] at g1; exact (locO_std (Option.some.inj g1)).2.2.2 hk
    | refNil g1 => simp only [locOf, hg, Option.map_some] at g1; exact (locO_std (Option.some.inj g1)).2.2.2 hk)
  obtain ⟨u', g1, g2, g3, g4⟩ := q6 i y j a hy hj
  have : u' = u := by simp [World.cell?, q1, g1] at hu; exact hu
  subst this
  exact g4 hz

theorem shareV_sound {C F μ} {s s' : ASt} {a : Act} {w : World} (h : SR C F μ s a w) {x y : AV} (he : shareV s x = some (s', y)) :
    ∃ F', FLe F F' ∧ SR C F' μ s' a w ∧ s'.n = s.n ∧ locOf s'.o μ = locOf s.o μ ∧ ∀ v, RV F (locOf s.o μ) x v → RV F' noloc y v := by
  unfold shareV at he
  split at he
  · rename_i L lo n
    split at he
    · rename_i xo hg
      split at he
      · rename_i hc
        obtain ⟨ha, hp⟩ := hc
        obtain ⟨rfl, rfl⟩ := Prod.mk.inj (Option.some.inj he)
        obtain ⟨F', h1, h2⟩ := h.freeze hg ha
        have hloc : locOf (s.frz L xo).o μ = locOf s.o μ := locOf_setO (x' := xo.frz) hg (fun _ => rfl)
        refine ⟨F', h1, h2, rfl, hloc, fun v hv => ?_⟩
        have hg' : lk (s.frz L xo).o L = some xo.frz := by simp [ASt.frz, get_setO]
        have := ref_list hg' (h2.sw.obj L xo.frz hg') (by exact ha) rfl (v := v) (lo := lo) (n := n) (by rw [hloc]; exact hv.mono h1) noloc
        exact this
      · cases he
    · cases he
  · split at he
    · rename_i hp
      obtain ⟨rfl, rfl⟩ := Prod.mk.inj (Option.some.inj he)
      exact ⟨F, FLe.refl _, h, rfl, rfl, fun v hv => RV.up (hv.shared hp) h.sw.sub⟩
    · cases he

theorem shareL_sound {C μ} {a : Act} {w : World} : ∀ {cs ds : List AV} {F} {s s' : ASt}, SR C F μ s a w → shareL s cs = some (s', ds) →
    ∃ F', FLe F F' ∧ SR C F' μ s' a w ∧ s'.n = s.n ∧ locOf s'.o μ = locOf s.o μ ∧ ds.length = cs.length ∧ ∀ (i : Nat) (x y : AV) (v : Value), cs[i]? = some x → ds[i]? = some y → RV F (locOf s.o μ) x v → RV F' noloc y v
  | [], ds, F, s, s', h, he => by
    simp [shareL] at he
    obtain ⟨rfl, rfl⟩ := he
    exact ⟨F, FLe.refl _, h, rfl, rfl, rfl, fun i x y v hx => by simp at hx⟩
  | c :: cs, ds, F, s, s', h, he => by
    simp only [shareL] at he
    split at he
    · rename_i s1 b h1
      split at he
      · rename_i s2 bs h2
        obtain ⟨rfl, rfl⟩ := Prod.mk.inj (Option.some.inj he)
        obtain ⟨F1, a1, a2, a3, a4, a5⟩ := shareV_sound h h1
        obtain ⟨F2, b1, b2, b3, b4, b5, b6⟩ := shareL_sound a2 h2
        refine ⟨F2, a1.trans b1, b2, b3.trans a3, b4.trans a4, by simp [b5], fun i x y v hx hy hv => ?_⟩
        cases i with
        | zero => simp at hx hy; subst hx; subst hy; exact (a5 v hv).mono b1
        | succ i => simp at hx hy; exact b6 i x y v hx hy (by rw [a4]; exact hv.mono a1)
      · cases he
    · cases he

theorem share_sound {C F μ} {s s' : ASt} {a : Act} {w : World} (h : SR C F μ s a w) {x y : AV} (he : share s x = some (s', y)) :
    ∃ F', FLe F F' ∧ SR C F' μ s' a w ∧ s'.n = s.n ∧ locOf s'.o μ = locOf s.o μ ∧ ∀ v, RV F (locOf s.o μ) x v → RV F' noloc y v := by
  unfold share at he
  split at he
  · rename_i cs
    split at he
    · rename_i s1 ds h1
      obtain ⟨rfl, rfl⟩ := Prod.mk.inj (Option.some.inj he)
      obtain ⟨F', b1, b2, b3, b4, b5, b6⟩ := shareL_sound h h1
      refine ⟨F', b1, b2, b3, b4, fun v hv => ?_⟩
      cases hv with
      | agg g1 g2 g3 =>
        refine .agg (by omega) (fun i y u hy hu => ?_) g3
        have hi : i < cs.length := by rw [← b5]; exact (List.getElem?_eq_some_iff.1 hy).1
        exact b6 i cs[i] y u (by simp [hi]) hy (g2 i cs[i] u (by simp [hi]) hu)
    · cases he
  · exact shareV_sound h he

/-- Freezing leaves each object's content. -/
def Keeps (o o' : Objs) : Prop := ∀ L x1, lk o' L = some x1 → ∃ x, lk o L = some x ∧ x1.arr = x.arr ∧ x1.xs = x.xs ∧ x1.es = x.es ∧ x1.pin = x.pin
theorem Keeps.refl (o : Objs) : Keeps o o := fun L x h => ⟨x, h, rfl, rfl, rfl, rfl⟩
theorem Keeps.trans {a b c : Objs} (h : Keeps a b) (k : Keeps b c) : Keeps a c := fun L x hx => by
  obtain ⟨y, h1, h2, h3, h4, h5⟩ := k L x hx
  obtain ⟨z, g1, g2, g3, g4, g5⟩ := h L y h1
  exact ⟨z, g1, h2.trans g2, h3.trans g3, h4.trans g4, h5.trans g5⟩
theorem shareV_keeps {s s' : ASt} {x y : AV} (he : shareV s x = some (s', y)) : Keeps s.o s'.o := by
  unfold shareV at he
  split at he
  · split at he
    · rename_i L lo n xo hg
      split at he
      · obtain ⟨rfl, rfl⟩ := Prod.mk.inj (Option.some.inj he)
        intro L' x1 h1
        simp only [ASt.frz, get_setO] at h1
        split at h1
        · rename_i hl
          subst hl
          obtain rfl := Option.some.inj h1
          exact ⟨xo, hg, rfl, rfl, rfl, rfl⟩
        · exact ⟨x1, h1, rfl, rfl, rfl, rfl⟩
      · cases he
    · cases he
  · split at he
    · obtain ⟨rfl, rfl⟩ := Prod.mk.inj (Option.some.inj he)
      exact Keeps.refl _
    · cases he
theorem shareL_keeps : ∀ {cs ds : List AV} {s s' : ASt}, shareL s cs = some (s', ds) → Keeps s.o s'.o
  | [], ds, s, s', he => by simp [shareL] at he; obtain ⟨rfl, rfl⟩ := he; exact Keeps.refl _
  | c :: cs, ds, s, s', he => by
    simp only [shareL] at he
    split at he
    · rename_i s1 b h1
      split at he
      · rename_i s2 bs h2
        obtain ⟨rfl, rfl⟩ := Prod.mk.inj (Option.some.inj he)
        exact (shareV_keeps h1).trans (shareL_keeps h2)
      · cases he
    · cases he
theorem share_keeps {s s' : ASt} {x y : AV} (he : share s x = some (s', y)) : Keeps s.o s'.o := by
  unfold share at he
  split at he
  · split at he
    · rename_i h1
      obtain ⟨rfl, rfl⟩ := Prod.mk.inj (Option.some.inj he)
      exact shareL_keeps h1
    · cases he
  · exact shareV_keeps he

/-- What lies in an array: it holds under the shared facts. -/
theorem RV.share {F : Bool → Facts} {y : AV} {v : Value} (h : RV F noloc y v) (hp : y.pure = true) : RV (Ab.sh F) noloc y v := h.shared hp

theorem cells_pure {y : AV} (h : y.pure = true) {j : Nat} {a : AV} (ha : y.cells[j]? = some a) : a.pure = true := by
  cases hy : y.isAgg with
  | true =>
    cases y with
    | agg cs => exact pureL_get (show AV.pureL cs = true by simpa [AV.pure] using h) ha
    | _ => simp [AV.isAgg] at hy
  | false =>
    rw [cells_not_agg hy] at ha
    cases j with
    | zero => simp at ha; subst ha; exact h
    | succ j => simp at ha

/-- The object that holds one value. -/
def boxO (a : AV) : AObj := { arr := false, fz := false, pin := false, es := a.cells.length, xs := [a] }

def boxK (a : AV) (k : Nat) : AObj := { arr := false, fz := false, pin := false, es := a.cells.length, xs := [a], kd := k }

theorem Fresh.boxK {F loc} {a : AV} {v : Value} {k : Nat} {e : TypeId} (h : CV F loc a.cells v.cells) (hk : k = 0 ∨ k = e + 2) : Fresh F loc (Ab.boxK a k) v.cells 1 e := by
  refine ⟨by simp [Ab.boxK, h.len], by simp [Ab.boxK], by simp [Ab.boxK, maxRow], fun y hy => by simp [Ab.boxK] at hy ⊢; rw [hy], fun i y j b hy hj => ?_, rfl, rfl, hk.imp_right fun h => ⟨h, fun _ => rfl⟩⟩
  have hi : i = 0 ∧ y = a := by
    cases i with
    | zero => simp [Ab.boxK] at hy; exact ⟨rfl, hy.symm⟩
    | succ i => simp [Ab.boxK] at hy
  obtain ⟨rfl, rfl⟩ := hi
  have hlt : j < v.cells.size := by rw [← h.len]; exact (List.getElem?_eq_some_iff.1 hj).1
  exact ⟨v.cells[j], by simp [hlt], h.one j _ (by simp [hlt]), h.rv j b _ hj (by simp [hlt])⟩
theorem Fresh.box {F loc} {a : AV} {v : Value} {e : TypeId} (h : CV F loc a.cells v.cells) : Fresh F loc (boxO a) v.cells 1 e := Fresh.boxK h (.inl rfl)

/-- The kind of a block of this type: only a strings.Builder is told apart. -/
def tyBd (P : Program) (t : TypeId) : Nat := match P.info? t with
  | some i => match i.desc with
    | .named n _ => if (n == "strings.Builder") = true then t + 2 else 0
    | _ => 0
  | none => 0
theorem tyBd_or (P : Program) (t : TypeId) : tyBd P t = 0 ∨ tyBd P t = t + 2 := by
  unfold tyBd
  split
  · split
    · split
      · exact .inr rfl
      · exact .inl rfl
    · exact .inl rfl
  · exact .inl rfl

def tyZ (P : Program) (t : TypeId) : Option AV := (tyZero P t).bind cst

/-- The zero value of a strings.Builder: its nil slice stays what it is. -/
def rawZ (P : Program) (t : TypeId) : Option AV := match tyZero P t with
  | some (.agg cs) => if cs.toList.all scalar = true then some (.agg (cs.toList.map .sc)) else none
  | _ => none
def zbS (k : Nat) (z r : Option AV) : Option AV := match k with
  | 0 => z
  | _ + 1 => r
def tyZb (P : Program) (t : TypeId) : Option AV := zbS (tyBd P t) (tyZ P t) (rawZ P t)
theorem tyZb_sound {P : Program} {t : TypeId} {z : AV} (h : tyZb P t = some z) : ∃ zv, tyZero P t = some zv ∧ ∀ F loc, RV F loc z zv := by
  unfold tyZb zbS at h
  split at h
  · unfold tyZ at h
    cases hzv : tyZero P t with
    | none => simp [hzv] at h
    | some zv => simp [hzv] at h; exact ⟨zv, rfl, fun F loc => RV_cst h⟩
  · unfold rawZ at h
    split at h
    · rename_i cs hcs
      split at h
      · rename_i hall
        obtain rfl := Option.some.inj h
        refine ⟨_, hcs, fun F loc => .agg (by simp) (fun i a v ha hv => ?_) (fun i v hv => ?_)⟩
        · simp only [List.getElem?_map, Array.getElem?_toList, Option.map_eq_some_iff] at ha
          obtain ⟨u, hu, rfl⟩ := ha
          rw [hu] at hv
          obtain rfl := Option.some.inj hv
          exact .sc (List.all_eq_true.1 hall u (List.mem_of_getElem? (by simpa using hu)))
        · exact one_of_scalar (List.all_eq_true.1 hall v (List.mem_of_getElem? (i := i) (by simpa using hv)))
      · cases h
    · cases h

def allocA (P : Program) (t : TypeId) (d : Nat) (s : ASt) : Option St :=
  match tyZb P t with
  | some z => if z.plain = true ∧ z.has d = false then some ⟨decide (d < s.n), s.fresh d (boxK z (tyBd P t)) (.ptr d 0 0)⟩ else none
  | none => none

theorem hasL_one {L : Nat} {a : AV} (h : a.has L = false) : AV.hasL L [a] = false := by simp [AV.hasL, h]

theorem allocA_sound {P : Program} {C F μ} {s : ASt} {a : Act} {w : World} (h : SR C F μ s a w) {t : TypeId} {d : Nat} {r : St} (he : allocA P t d s = some r) (hn : r.need) :
    ∃ v w' μ', (Instr.alloc t true (.tuple #[])).run P w = .ok v w' ∧ SR C F μ' r.st (a.put (some d) v) w' := by
  unfold allocA at he
  split at he
  · rename_i z hz
    split at he
    · rename_i hc
      obtain ⟨hp, hd⟩ := hc
      obtain rfl := Option.some.inj he
      obtain ⟨zv, hzv, hrv0⟩ := tyZb_sound hz
      · have hrv : RV F (locOf s.o μ) z zv := hrv0 _ _
        refine ⟨.pointer (some ⟨w.heap.size, 0, none⟩), w.alloc (.cells zv.cells t (0, 0)), upd μ d (some (w.heap.size, 1)), ?_, ?_⟩
        · simp [Instr.alloc, run_zeroValue_ok hzv, newVar, newRow]
        · refine h.fresh (of_decide_eq_true hn) (Fresh.boxK (hrv.cv hp) (tyBd_or P t)) (hasL_one hd) fun loc hl => ?_
          have := @RV.ptr F loc d 0 0 w.heap.size 1 (boxK z (tyBd P t)).es (boxK z (tyBd P t)).xs.length hl (by simp [boxK])
          simpa using this
    · cases he
  · cases he

def boxA (b : AV) (d : Nat) (s : ASt) : Option St :=
  if b.plain = true ∧ b.has d = false then some ⟨decide (d < s.n), s.fresh d (boxO b) (.ptr d 0 0)⟩ else none

theorem boxA_sound {P : Program} {C F μ} {s : ASt} {a : Act} {w : World} (h : SR C F μ s a w) {t : TypeId} {b : AV} {u : Value} (hb : RV F (locOf s.o μ) b u) {d : Nat} {r : St} (he : boxA b d s = some r) (hn : r.need) :
    ∃ v w' μ', (Instr.box t u).run P w = .ok v w' ∧ SR C F μ' r.st (a.put (some d) v) w' := by
  unfold boxA at he
  split at he
  · rename_i hc
    obtain ⟨hp, hd⟩ := hc
    obtain rfl := Option.some.inj he
    refine ⟨.pointer (some ⟨w.heap.size, 0, none⟩), w.alloc (.cells u.cells t (0, 0)), upd μ d (some (w.heap.size, 1)), ?_, ?_⟩
    · simp [Instr.box, newVar, newRow]
    · refine h.fresh (of_decide_eq_true hn) (Fresh.box (hb.cv hp)) (hasL_one hd) fun loc hl => ?_
      have := @RV.ptr F loc d 0 0 w.heap.size 1 (boxO b).es (boxO b).xs.length hl (by simp [boxO])
      simpa using this
  · cases he

end Go.Ab
