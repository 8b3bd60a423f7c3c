/-
  Ab19: a function's contract out of its body's weakest precondition.
-/
import Derived.Test.YtldecgghhaoliaaAb18
namespace Go.Ab
open Go.RowKit
set_option linter.unusedVariables false
set_option linter.unusedSimpArgs false

/-- A result variable, read. -/
def res1 (P : Program) (s : ASt) : ResultVar → Option AV
  | .tmp t => lk s.t t
  | .cell a t => match lk s.t a with
    | some (.ptr L i k) => (loadA P t (.ptr L i k) s.o).map (·.val)
    | _ => none
def resL (P : Program) (s : ASt) : List ResultVar → Option (List AV)
  | [] => some []
  | r :: rs => match res1 P s r, resL P s rs with
    | some a, some as => some (a :: as)
    | _, _ => none

def resSem (tmps : Array Value) : ResultVar → Sem Value
  | .tmp t => pure (tmps.getD t undef)
  | .cell a t => do loadVar t (← asAddr (tmps.getD a undef))

theorem res1_sound {P : Program} {C F μ} {s : ASt} {a : Act} {w : World} (h : SR C F μ s a w) {r : ResultVar} {x : AV} (he : res1 P s r = some x) :
    ∃ v, (resSem a.tmps r).run P w = .ok v w ∧ RV F (locOf s.o μ) x v := by
  cases r with
  | tmp t => exact ⟨_, rfl, h.slot t x he⟩
  | cell p t =>
    simp only [res1] at he
    split at he
    · rename_i L i k hp
      cases hl : loadA P t (.ptr L i k) s.o with
      | none => simp [hl] at he
      | some r =>
        simp [hl] at he
        subst he
        have hv := h.slot p _ hp
        obtain ⟨z, h1, h2⟩ := loadA_sound (P := P) h.sw hl hv
        generalize hu : a.tmps.getD p undef = u at hv h1
        refine ⟨z, ?_, h2⟩
        simp only [resSem, hu]
        cases hv with
        | ptr g1 g2 =>
          simp [asAddr]
          simpa [Instr.loadAt, Instr.sureAddr] using h1
    · cases he

theorem resL_sound {P : Program} {C F μ} {s : ASt} {a : Act} {w : World} (h : SR C F μ s a w) : ∀ {rs : List ResultVar} {xs : List AV}, resL P s rs = some xs →
    ∃ vs : List Value, (rs.mapM (resSem a.tmps)).run P w = .ok vs w ∧ xs.length = vs.length ∧
      ∀ (i : Nat) (x : AV) (v : Value), xs[i]? = some x → vs[i]? = some v → RV F (locOf s.o μ) x v
  | [], xs, he => by
    simp [resL] at he; subst he
    exact ⟨[], by simp, rfl, fun i x v hx => by simp at hx⟩
  | r :: rs, xs, he => by
    simp only [resL] at he
    split at he
    · rename_i x xs' h1 h2
      obtain rfl := Option.some.inj he
      obtain ⟨v, g1, g2⟩ := res1_sound h h1
      obtain ⟨vs, k1, k2, k3⟩ := resL_sound h h2
      refine ⟨v :: vs, ?_, by simp [k2], fun i y u hy hu => ?_⟩
      · rw [List.mapM_cons, Sem.run_bind, g1, Result.andThen_ok, Sem.run_bind, k1]; rfl
      · cases i with
        | zero => simp at hy hu; subst hy; subst hu; exact g2
        | succ i => simp at hy hu; exact k3 i y u hy hu
    · cases he

/-- What is handed over: rows of the call's own wait; the rest is shared. -/
def hand1 (s : ASt) : AV → Option (ASt × AV)
  | .ref L lo n => some (s, .ref L lo n)
  | a => share s a
def handL : ASt → List AV → Option (ASt × List AV)
  | s, [] => some (s, [])
  | s, a :: r => match hand1 s a with
    | some (s1, b) => match handL s1 r with
      | some (s2, bs) => some (s2, b :: bs)
      | none => none
    | none => none

/-- The rows of the call's own, in the end. -/
def fin1 (o : Objs) : AV → Option AV
  | .ref L lo n => match lk o L with
    | some x => if x.arr = true then (if x.fz = true then some (.list false false (seg x.xs lo n)) else if x.pin = false ∧ lo = 0 ∧ n = x.xs.length then some (.own x.es x.xs) else none) else none
    | none => none
  | a => if a.pure = true then some a else none
def finL (o : Objs) : List AV → Option (List AV)
  | [] => some []
  | a :: r => match fin1 o a, finL o r with
    | some b, some bs => some (b :: bs)
    | _, _ => none

def refsOf : List AV → List Nat
  | [] => []
  | .ref L _ _ :: r => L :: refsOf r
  | _ :: r => refsOf r

def nodupB : List Nat → Bool
  | [] => true
  | a :: r => !r.contains a && nodupB r

def pack : List AV → AV
  | [r] => r
  | rs => .tup rs

/-- What the call hands back: the freezing of fs first. -/
def aret (P : Program) (rs : List ResultVar) (fs : List Nat) (s : ASt) : Option AV :=
  match resL P s rs, freezeL fs s with
  | some xs, some s1 => match handL s1 xs with
    | some (s2, ys) => if nodupB (refsOf ys) = true then (finL s2.o ys).map pack else none
    | none => none
  | _, _ => none

theorem hand1_sound {C F μ} {s s' : ASt} {a : Act} {w : World} (h : SR C F μ s a w) {x y : AV} (he : hand1 s x = some (s', y)) :
    ∃ F', FLe F F' ∧ SR C F' μ s' a w ∧ locOf s'.o μ = locOf s.o μ ∧ ∀ v, RV F (locOf s.o μ) x v → RV F' (locOf s.o μ) y v := by
  unfold hand1 at he
  split at he
  · obtain ⟨rfl, rfl⟩ := Prod.mk.inj (Option.some.inj he)
    exact ⟨F, FLe.refl _, h, rfl, fun v hv => hv⟩
  · obtain ⟨F', h1, h2, h3, h4, h5⟩ := share_sound h he
    exact ⟨F', h1, h2, h4, fun v hv => (h5 v hv).congr (FLe.refl _) fun L hL => ((h5 v hv).noloc_has (fun _ => rfl) L hL).elim⟩

theorem handL_sound {C μ} {a : Act} {w : World} : ∀ {xs ys : List AV} {F} {s s' : ASt}, SR C F μ s a w → handL s xs = some (s', ys) →
    ∃ F', FLe F F' ∧ SR C F' μ s' a w ∧ locOf s'.o μ = locOf s.o μ ∧ ys.length = xs.length ∧ ∀ (i : Nat) (x y : AV) (v : Value), xs[i]? = some x → ys[i]? = some y → RV F (locOf s.o μ) x v → RV F' (locOf s'.o μ) y v
  | [], ys, F, s, s', h, he => by
    simp [handL] at he
    obtain ⟨rfl, rfl⟩ := he
    exact ⟨F, FLe.refl _, h, rfl, rfl, fun i x y v hx => by simp at hx⟩
  | c :: cs, ys, F, s, s', h, he => by
    simp only [handL] at he
    split at he
    · rename_i s1 b h1
      split at he
      · rename_i s2 bs h2
        obtain ⟨rfl, rfl⟩ := Prod.mk.inj (Option.some.inj he)
        obtain ⟨F1, a1, a2, a3, a4⟩ := hand1_sound h h1
        obtain ⟨F2, b1, b2, b3, b4, b5⟩ := handL_sound a2 h2
        refine ⟨F2, a1.trans b1, b2, b3.trans a3, by simp [b4], fun i x y v hx hy hv => ?_⟩
        cases i with
        | zero => simp at hx hy; subst hx; subst hy; rw [b3, a3]; exact (a4 v hv).mono b1
        | succ i => simp at hx hy; exact b5 i x y v hx hy (by rw [a3]; exact hv.mono a1)
      · cases he
    · cases he

theorem RV_ref_inv {F} {loc : Nat → Option LI} {L lo n : Nat} {v : Value} (h : RV F loc (.ref L lo n) v) {li : LI} (hl : loc L = some li) :
    (li.place = none ∧ lo = 0 ∧ n = 0 ∧ ∃ q, v = .slice q 0 0) ∨ (∃ b cap o c, li.place = some (b, cap) ∧ v = .slice (some ⟨b, o, none⟩) n c ∧ lo + n ≤ li.len ∧ n ≤ c ∧ (n ≠ 0 ∨ lo = 0 → o = lo * li.es) ∧ (lo = 0 → c = cap)) := by
  cases h with
  | @refNil _ _ _ _ _ base g => rw [hl] at g; obtain rfl := Option.some.inj g; exact .inl ⟨rfl, rfl, rfl, base, rfl⟩
  | @ref _ _ _ _ _ b cap es len o c g1 g2 g3 g4 g5 => rw [hl] at g1; obtain rfl := Option.some.inj g1; exact .inr ⟨b, cap, o, c, rfl, rfl, g2, g3, g4, g5⟩

/-- The place of what is handed over. -/
def plOf (μ : Pl) : AV → AV → Option (Nat × Nat)
  | .ref L _ _, .own _ _ => μ L
  | _, _ => none

theorem fin1_sound {C F μ} {s : ASt} {a : Act} {w : World} (h : SR C F μ s a w) (hM : ∀ b, ¬ C.M b) {y z : AV} (he : fin1 s.o y = some z) {v : Value} (hv : RV F (locOf s.o μ) y v) : ResV1 F w C.w0.heap.size (plOf μ y z) v z := by
  unfold fin1 at he
  split at he
  · rename_i L lo n
    split at he
    · rename_i x hg
      split at he
      · rename_i ha
        split at he
        · rename_i hz
          obtain rfl := Option.some.inj he
          exact ⟨rfl, ref_list hg (h.sw.obj L x hg) ha hz hv noloc⟩
        · rename_i hz
          have hz : x.fz = false := by simpa using hz
          split at he
          · rename_i hc
            obtain ⟨hpin, rfl, rfl⟩ := hc
            obtain rfl := Option.some.inj he
            have hkd := ref_kd hv hg
            have hloc : locOf s.o μ L = some ⟨μ L, x.es, x.xs.length, false⟩ := by simp [locOf, hg, locO_mk hkd]
            have ho := h.sw.obj L x hg
            show OwnR F w C.w0.heap.size x.es x.xs v (μ L)
            rcases RV_ref_inv hv hloc with ⟨hm, _, hn0, q, rfl⟩ | ⟨b, cap, o, c, hm, rfl, g1, g2, g3, g4⟩
            · simp only at hm
              rw [hm] at ho ⊢
              have hx0 : x.xs = [] := ho
              exact ⟨hx0, q, rfl⟩
            · simp only at hm
              rw [hm] at ho ⊢
              have ho' := g3 (.inr rfl)
              have hc' := g4 rfl
              simp at ho'
              subst ho'
              refine ⟨by rw [hc'], ?_, ?_, h.sw.excl L x b cap hg hm hz⟩
              · obtain ⟨c, e, q1, q2, q3, q4, q5, q6, q7⟩ := ho.std hkd
                refine .inl ⟨c, e, q1, q2, q3, q4, q5, fun i y j a hy hj => ?_, .inl rfl⟩
                obtain ⟨u, r1, r2, r3, r4⟩ := q6 i y j a hy hj
                refine ⟨u, r1, r2, ?_, fun hz' => by simp [arrO] at hz'⟩
                rw [ha] at r3; exact r3
              · rcases h.sw.mine L x b cap hg hm with hh | hh
                · exact hh
                · exact (hM b hh).elim
          · cases he
      · cases he
    · cases he
  · split at he
    · rename_i hp
      obtain rfl := Option.some.inj he
      have : RV F noloc y v := RV.up (hv.shared hp) h.sw.sub
      cases y <;> first | exact ⟨hp, this⟩ | (simp [AV.pure] at hp)
    · cases he

theorem finL_get : ∀ {ys zs : List AV} {o : Objs}, finL o ys = some zs → zs.length = ys.length ∧ ∀ (i : Nat) (y z : AV), ys[i]? = some y → zs[i]? = some z → fin1 o y = some z
  | [], zs, o, he => by simp [finL] at he; subst he; exact ⟨rfl, fun i y z hy => by simp at hy⟩
  | y :: ys, zs, o, he => by
    simp only [finL] at he
    split at he
    · rename_i b bs h1 h2
      obtain rfl := Option.some.inj he
      obtain ⟨g1, g2⟩ := finL_get h2
      refine ⟨by simp [g1], fun i y' z hy hz => ?_⟩
      cases i with
      | zero => simp at hy hz; subst hy; subst hz; exact h1
      | succ i => simp at hy hz; exact g2 i y' z hy hz
    · cases he

theorem refsOf_dist : ∀ {ys : List AV}, nodupB (refsOf ys) = true → ∀ (i j L : Nat) (lo n lo' n' : Nat), ys[i]? = some (.ref L lo n) → ys[j]? = some (.ref L lo' n') → i = j := by
  have hmem : ∀ {ys : List AV} {i L lo n : Nat}, ys[i]? = some (.ref L lo n) → L ∈ refsOf ys := by
    intro ys
    induction ys with
    | nil => intro i L lo n h; simp at h
    | cons y ys ih =>
      intro i L lo n h
      cases i with
      | zero => simp at h; subst h; simp [refsOf]
      | succ i =>
        simp at h
        have := ih h
        cases y <;> simp_all [refsOf]
  intro ys
  induction ys with
  | nil => intro _ i j L lo n lo' n' h; simp at h
  | cons y ys ih =>
    intro hn i j L lo n lo' n' hi hj
    have hn' : nodupB (refsOf ys) = true := by
      cases y <;> simp_all [refsOf, nodupB]
    cases i with
    | zero =>
      cases j with
      | zero => rfl
      | succ j =>
        simp at hi hj
        subst hi
        have := hmem hj
        simp [refsOf, nodupB, this] at hn
    | succ i =>
      cases j with
      | zero =>
        simp at hi hj
        subst hj
        have := hmem hi
        simp [refsOf, nodupB, this] at hn
      | succ j =>
        simp at hi hj
        rw [ih hn' i j L lo n lo' n' hi hj]

theorem get_zip : ∀ (as : List AV) (k i : Nat) (x : AV), lk ((as.zipIdx k).map fun p => (p.2, p.1)) i = some x → k ≤ i ∧ as[i - k]? = some x
  | [], k, i, x, h => by simp [lk] at h
  | a :: as, k, i, x, h => by
    simp only [List.zipIdx_cons, List.map_cons, lk] at h
    by_cases hk : k = i
    · subst hk
      rw [if_pos rfl] at h
      exact ⟨Nat.le_refl _, by simpa using h⟩
    · rw [if_neg hk] at h
      obtain ⟨h1, h2⟩ := get_zip as (k + 1) i x h
      refine ⟨by omega, ?_⟩
      rw [show i - k = (i - (k + 1)) + 1 by omega]
      simpa using h2

/-- The state in which a function begins. -/
def entry (n : Nat) (as : List AV) : ASt := { n := n, t := (as.zipIdx 0).map fun p => (p.2, p.1), o := [] }

/-- The end of a function's body. -/
def endQ (P : Program) (rs : List ResultVar) (R : AV → Prop) : Exit → ASt → Prop
  | .normal, s => ∃ fs r, aret P rs fs s = some r ∧ R r
  | .ret, s => ∃ fs r, aret P rs fs s = some r ∧ R r
  | _, _ => False

theorem endQ_post {P : Program} {fn : Func} {R : AV → Prop} {C : Cx} (hM : ∀ b, ¬ C.M b) {F μ} {s : ASt} {a : Act} {w : World} (h : SR C F μ s a w) (hq : ∃ fs r, aret P fn.results.toList fs s = some r ∧ R r) :
    a.defers = [] ∧ ∃ v, (results fn a.tmps).run P w = .ok v w ∧ ∃ v' r F', Ending.returned v = .returned v' ∧ R r ∧ APost C.F0 C.w0 F' w ∧ ResV F' w C.w0.heap.size v' r := by
  refine ⟨h.defers, ?_⟩
  obtain ⟨fs, r, hr, hR⟩ := hq
  unfold aret at hr
  split at hr
  · rename_i xs s1 hx hf
    obtain ⟨vs, k1, k2, k3⟩ := resL_sound h hx
    obtain ⟨F1, f1, f2, f3, f4⟩ := freezeL_sound h hf
    split at hr
    · rename_i s2 ys hh
      split at hr
      · rename_i hnd
        cases hfin : finL s2.o ys with
        | none => simp [hfin] at hr
        | some zs =>
          simp [hfin] at hr
          subst hr
          obtain ⟨F2, g1, g2, g3, g4, g5⟩ := handL_sound f2 hh
          obtain ⟨e1, e2⟩ := finL_get hfin
          have hres1 : ∀ (i : Nat) (z : AV) (v : Value), zs[i]? = some z → vs[i]? = some v → ResV1 F2 w C.w0.heap.size (plOf μ (ys.getD i .dead) z) v z := by
            intro i z v hz hv
            have hiz : i < zs.length := (List.getElem?_eq_some_iff.1 hz).1
            have hiy : i < ys.length := by omega
            have hix : i < xs.length := by omega
            have hy : ys[i]? = some ys[i] := by simp [hiy]
            have hyv : RV F2 (locOf s2.o μ) ys[i] v := g5 i xs[i] ys[i] v (by simp [hix]) hy (by rw [f4]; exact (k3 i xs[i] v (by simp [hix]) hv).mono f1)
            have := fin1_sound g2 hM (e2 i ys[i] z hy hz) hyv
            rw [List.getD_eq_getElem?_getD, hy]; exact this
          have hpost : APost C.F0 C.w0 F2 w := by
            refine ⟨⟨g2.sw.facts, g2.sw.sub⟩, g2.sw.grow, g2.sw.lentc, fun b k v hv => ?_, ?_⟩
            · rcases g2.sw.newf b k v hv with hh | hh | hh
              · exact .inl hh
              · exact .inr hh
              · exact (hM b hh).elim
            · have := g2.sw.fr
              exact ⟨this.os, this.tape, this.output, this.size, fun k hk _ => this.block k hk (hM k)⟩
          have hlen : zs.length = vs.length := by omega
          have hrun : (results fn a.tmps).run P w = .ok (if h : vs.toArray.size = 1 then vs.toArray[0] else .tuple vs.toArray) w := by
            have he : results fn a.tmps = (do let vs ← fn.results.mapM (resSem a.tmps); pure (if h : vs.size = 1 then vs[0] else .tuple vs)) := by
              unfold results
              congr 1
            rw [he, Sem.run_bind, Array.mapM_eq_mapM_toList, Sem.run_map, k1]
            rfl
          refine ⟨_, hrun, _, pack zs, F2, rfl, hR, hpost, ?_⟩
          by_cases h1 : vs.length = 1
          · obtain ⟨v, rfl⟩ := List.length_eq_one_iff.1 h1
            obtain ⟨z, rfl⟩ := List.length_eq_one_iff.1 (hlen.trans h1)
            have hz := hres1 0 z v rfl rfl
            show ResV F2 w C.w0.heap.size v z
            cases z with
            | tup rs => exact (by have := hz.1; simp [AV.pure] at this)
            | _ => exact ⟨_, hz⟩
          · have hne : ¬ vs.toArray.size = 1 := by simpa using h1
            rw [dif_neg hne]
            have hpk : pack zs = .tup zs := by
              cases zs with
              | nil => rfl
              | cons z zs => cases zs with
                | nil => simp at hlen; omega
                | cons z' zs => rfl
            rw [hpk]
            refine ⟨vs.toArray, fun i => plOf μ (ys.getD i .dead) (zs.getD i .dead), rfl, by simpa using hlen, fun i z v hz hv => ?_, fun i j b c c' hi hj => ?_⟩
            · have := hres1 i z v hz (by simpa using hv)
              simp only [List.getD_eq_getElem?_getD, hz, Option.getD_some] at this ⊢
              exact this
            · have key : ∀ i b c, plOf μ (ys.getD i .dead) (zs.getD i .dead) = some (b, c) → ∃ L lo n, ys[i]? = some (.ref L lo n) ∧ μ L = some (b, c) ∧ ∃ x, lk s2.o L = some x := by
                intro i b c hp
                rw [List.getD_eq_getElem?_getD, List.getD_eq_getElem?_getD] at hp
                cases hy : ys[i]? with
                | none => simp [hy, plOf] at hp
                | some y =>
                  cases hz : zs[i]? with
                  | none => cases y <;> simp [hy, hz, plOf] at hp
                  | some z =>
                    simp only [hy, hz, Option.getD_some] at hp
                    cases y <;> cases z <;> simp [plOf] at hp
                    rename_i L lo n es xs'
                    have hf1 := e2 i _ _ hy hz
                    simp only [fin1] at hf1
                    cases hgx : lk s2.o L with
                    | none => simp [hgx] at hf1
                    | some x => exact ⟨L, lo, n, rfl, hp, x, hgx⟩
              obtain ⟨L1, lo1, n1, a1, a2, x1, a3⟩ := key i b c hi
              obtain ⟨L2, lo2, n2, b1, b2, x2, b3⟩ := key j b c' hj
              have hL : L1 = L2 := g2.sw.dist L1 x1 L2 x2 b c c' a3 b3 a2 b2
              subst hL
              exact refsOf_dist hnd i j L1 lo1 n1 lo2 n2 a1 b1
      · cases hr
    · cases hr
  · cases hr

/-- THE CONTRACT OF A FUNCTION: its body's weakest precondition, reckoned at its arguments. -/
theorem acall_of_awp {P : Program} {f : FuncId} {fn : Func} {c : Code} {args : List AV} {R : AV → Prop} (hf : P.funcs[f]? = some fn) (hc : ∀ cargs w, (callFunc f cargs).run P w = .ok (.enter f cargs) w) (hb : fn.body = some c)
    (hn : args.length ≤ fn.ntmps) (h : awp P c (endQ P fn.results.toList R) (entry fn.ntmps args)) : ACall P f args R := by
  refine ⟨hc, fun w F cargs hok hl hrv => ?_⟩
  refine calls_of_wp hf hb ?_
  let C : Cx := { w0 := w, F0 := F, o0 := [], μ0 := fun _ => none }
  have hM : ∀ b, ¬ C.M b := fun b ⟨L, x, cc, hx, _⟩ => by simp [C, lk] at hx
  have hsr : SR C F (fun _ => none) (entry fn.ntmps args) { tmps := cargs ++ Array.replicate (fn.ntmps - cargs.size) undef, defers := [] } w := by
    refine ⟨⟨hok.facts, hok.sub, fun b k v hv => .inl hv, FLe.refl _, fun b k v hv => .inl hv, Fr.refl _ _, fun L x hx => ?_, fun L x L' x' b c c' hx => ?_, fun L x b c hx => ?_, fun L x b c hx => ?_, fun L x x0 hx => ?_⟩, rfl, ?_, fun i x hx => ?_⟩
    · simp [entry, lk] at hx
    · simp [entry, lk] at hx
    · simp [entry, lk] at hx
    · simp [entry, lk] at hx
    · simp [C, lk] at hx
    · simp [entry]; omega
    · obtain ⟨_, h2⟩ := get_zip args 0 i x hx
      rw [Nat.sub_zero] at h2
      have hi : i < cargs.size := by rw [← hl]; exact (List.getElem?_eq_some_iff.1 h2).1
      have hg : ((cargs ++ Array.replicate (fn.ntmps - cargs.size) undef).getD i undef) = cargs[i] := by
        rw [Array.getD_eq_getD_getElem?, Array.getElem?_append_left hi]; simp [hi]
      rw [hg]
      have := hrv i x cargs[i] h2 (by simp [hi])
      exact this.congr (FLe.refl _) fun L hL => (this.noloc_has (fun _ => rfl) L hL).elim
  refine wp_mono (awp_sound c _ _ h C F _ _ w hsr) ?_
  rintro e a' w' ⟨F', μ', s', hq, hs'⟩
  cases e with
  | normal => exact endQ_post hM hs' hq
  | ret => exact endQ_post hM hs' hq
  | _ => exact hq.elim

end Go.Ab
