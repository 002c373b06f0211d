/- Layer 2: what may be, and what fits a type. -/
import Derived.Test.YtaodnkhpiiepiaaVLVal
import Derived.Test.YtaodnkhpiiepiaaVx7
namespace Go.Proofs.Ytaodnkhpiiepiaa.V
open Go Go.RowKit Go.Proofs.YtaodnkhpiiepiaaW.PrintWords Go.Proofs.YtaodnkhpiiepiaaW.PrintLast Go.Proofs.YtaodnkhpiiepiaaG
theorem check_eq (v : S24) : value_Check.f v.f0 v.f1 v.f2 = some (if good v then 0 else 1) := by
  unfold value_Check.f
  rw [good_eq]
  have eg : (⟨v.f0, v.f1, v.f2⟩ : S24) = v := rfl
  rw [eg]
  cases h : good v <;> rfl
/-- Does a value fit a type? -/
def fitsB (v : S24) (t : Int) : Bool := decide (v.f0 = 0) || decide (t = 1) || (decide (t = 2) && decide (v.f0 = 1)) || (decide (t = 3) && decide (v.f0 = 2)) || (decide (t = 4) && decide (v.f0 = 3))
def typeB (t : Int) : Bool := decide (1 ≤ t) && decide (t ≤ 4)
theorem type_eq (t : Int) : value_Type.f t = some (typeB t) := by
  unfold value_Type.f typeB
  by_cases h : 1 ≤ t
  · rw [if_pos h]; simp [h]
  · rw [if_neg h]; simp [h]
theorem rtype_eq (t : Int) : cadastreref2_Type.f t = some (typeB t) := type_eq t
theorem in_eq (v : S24) (t : Int) (ht : typeB t = true) : value_In.f v.f0 v.f1 v.f2 t = some (fitsB v t) := by
  unfold typeB at ht; simp only [Bool.and_eq_true, decide_eq_true_eq] at ht
  unfold value_In.f fitsB
  have : t = 1 ∨ t = 2 ∨ t = 3 ∨ t = 4 := by omega
  rcases this with h | h | h | h <;> subst h <;> simp <;> (by_cases h0 : v.f0 = 0 <;> simp [h0, eq_comm]) <;> rfl
theorem rfits_eq (v : S24) (t : Int) : cadastreref2_Fits.f v.f0 v.f1 v.f2 t = some (fitsB v t) := by
  unfold cadastreref2_Fits.f fitsB
  by_cases h0 : v.f0 = 0
  · rw [if_pos h0]; simp [h0]
  rw [if_neg h0]
  by_cases t1 : t = 1
  · rw [if_pos t1]; simp [t1]
  rw [if_neg t1]
  by_cases t2 : t = 2
  · subst t2; by_cases h1 : v.f0 = 1 <;> simp [h0, h1]
  rw [if_neg t2]
  by_cases t3 : t = 3
  · subst t3; by_cases h1 : v.f0 = 2 <;> simp [h0, h1]
  rw [if_neg t3]
  by_cases t4 : t = 4
  · subst t4; simp [h0]; rfl
  rw [if_neg t4]; simp [h0, t1, t2, t3, t4]
def fitsR (v : S24) (t : Int) : Bool × Int := if good v && typeB t then (fitsB v t, 0) else (false, 1)
theorem fits_eq (v : S24) (t : Int) : value_Fits.f v.f0 v.f1 v.f2 t = some (fitsR v t) := by
  unfold value_Fits.f fitsR
  rw [good_eq]
  have eg : (⟨v.f0, v.f1, v.f2⟩ : S24) = v := rfl
  rw [eg]
  cases h : good v
  · rfl
  · cases h2 : typeB t
    · simp [type_eq, h2]
    · simp [type_eq, h2, in_eq v t h2]
end Go.Proofs.Ytaodnkhpiiepiaa.V
