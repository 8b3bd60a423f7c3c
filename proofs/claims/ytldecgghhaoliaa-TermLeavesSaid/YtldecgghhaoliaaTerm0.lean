/-
  Term0: terms, plainly.
-/
import Derived.Test.YtldecgghhaoliaaTy
import Derived.Test.YtldecgghhaoliaaA5
namespace Go.Proofs.Ytldecgghhaoliaa
open Go.Ab
inductive Tm where
  | mk (name : ByteArray) (args : List Tm)
namespace Tm
def name : Tm → ByteArray
  | .mk s _ => s
def args : Tm → List Tm
  | .mk _ ts => ts
end Tm
mutual
def eTm : Tm → AV
  | .mk s ts => .agg [.sc (.string s), .list false false (eTms ts)]
def eTms : List Tm → List AV
  | [] => []
  | t :: r => eTm t :: eTms r
end
theorem eTms_map : ∀ l : List Tm, eTms l = l.map eTm
  | [] => rfl
  | t :: r => by rw [eTms, eTms_map r]; rfl
abbrev eT (t : Tm) : AV := .agg [.sc (.string t.name), .list false false (t.args.map eTm)]
theorem eTm_eq : ∀ t : Tm, eTm t = eT t
  | .mk s ts => by rw [eTm, eTms_map]; rfl
theorem name_mk {s : ByteArray} {ts : List Tm} : (Tm.mk s ts).name = s := rfl
theorem args_mk {s : ByteArray} {ts : List Tm} : (Tm.mk s ts).args = ts := rfl
attribute [go_sem] eTm_eq name_mk args_mk
mutual
def Tm.size : Tm → Nat
  | .mk _ ts => 1 + sizeL ts
def sizeL : List Tm → Nat
  | [] => 0
  | t :: r => t.size + sizeL r
end
mutual
def Tm.depth : Tm → Nat
  | .mk _ ts => depthL ts + 1
def depthL : List Tm → Nat
  | [] => 0
  | t :: r => max t.depth (depthL r)
end
theorem size_eq (t : Tm) : t.size = 1 + sizeL t.args := by cases t; rfl
theorem depth_eq (t : Tm) : t.depth = depthL t.args + 1 := by cases t; rfl
theorem sizeL_append : ∀ a b : List Tm, sizeL (a ++ b) = sizeL a + sizeL b
  | [], b => by simp [sizeL]
  | t :: r, b => by simp [sizeL, sizeL_append r b, Nat.add_assoc]
theorem depthL_append : ∀ a b : List Tm, depthL (a ++ b) = max (depthL a) (depthL b)
  | [], b => by simp [depthL]
  | t :: r, b => by simp only [List.cons_append, depthL, depthL_append r b]; omega
theorem take_next {α : Type} {l : List α} {i : Nat} (h : i < l.length) : l.take (i + 1) = l.take i ++ [l[i]] := by
  rw [List.take_add_one, List.getElem?_eq_getElem h]; rfl
theorem sizeL_next {l : List Tm} {i : Nat} (h : i < l.length) : sizeL (l.take (i + 1)) = sizeL (l.take i) + l[i].size := by
  rw [take_next h, sizeL_append]; simp [sizeL]
theorem depthL_next {l : List Tm} {i : Nat} (h : i < l.length) : depthL (l.take (i + 1)) = max (depthL (l.take i)) l[i].depth := by
  rw [take_next h, depthL_append]; simp [depthL]
theorem size_mem : ∀ {l : List Tm} {t : Tm}, t ∈ l → t.size ≤ sizeL l
  | u :: r, t, h => by
    rcases List.mem_cons.1 h with rfl | h
    · simp [sizeL]
    · have := size_mem h; simp only [sizeL]; omega
theorem size_get {l : List Tm} {i : Nat} (h : i < l.length) : l[i].size ≤ sizeL l := size_mem (List.getElem_mem h)
theorem sizeL_take (l : List Tm) (i : Nat) : sizeL (l.take i) ≤ sizeL l := by
  have := sizeL_append (l.take i) (l.drop i)
  rw [List.take_append_drop] at this; omega
theorem size_pos (t : Tm) : 1 ≤ t.size := by rw [size_eq]; omega
theorem length_le_sizeL : ∀ l : List Tm, l.length ≤ sizeL l
  | [] => by simp [sizeL]
  | t :: r => by have := length_le_sizeL r; have := size_pos t; simp only [sizeL, List.length_cons]; omega
theorem depth_le_size : ∀ t : Tm, t.depth ≤ t.size := by
  have key : ∀ n (t : Tm), t.size ≤ n → t.depth ≤ t.size := by
    intro n
    induction n with
    | zero => intro t h; have := size_pos t; omega
    | succ n ih =>
      intro t h
      rw [size_eq] at *
      rw [depth_eq]
      have : ∀ l : List Tm, sizeL l ≤ n → depthL l ≤ sizeL l := by
        intro l
        induction l with
        | nil => intro _; simp [depthL, sizeL]
        | cons u r ihr =>
          intro hl
          simp only [sizeL, depthL] at *
          have h1 := ih u (by omega)
          have h2 := ihr (by omega)
          omega
      have := this t.args (by omega)
      omega
  exact fun t => key t.size t (Nat.le_refl _)
/-- Induction on the size. -/
theorem tm_ind {p : Tm → Prop} (h : ∀ t : Tm, (∀ u ∈ t.args, p u) → p t) : ∀ t, p t := by
  have key : ∀ n (t : Tm), t.size ≤ n → p t := by
    intro n
    induction n with
    | zero => intro t h; have := size_pos t; omega
    | succ n ih =>
      intro t ht
      refine h t fun u hu => ih u ?_
      have := size_mem hu
      rw [size_eq] at ht; omega
  exact fun t => key t.size t (Nat.le_refl _)
end Go.Proofs.Ytldecgghhaoliaa
