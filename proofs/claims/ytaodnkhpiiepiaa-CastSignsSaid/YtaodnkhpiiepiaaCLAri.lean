/- Layer 4: reckoning: what the printed functions come to. -/
import Derived.Test.YtaodnkhpiiepiaaCLVal
import Derived.Test.YtaodnkhpiiepiaaCOk
import Derived.Test.YtaodnkhpiiepiaaCx0
import Derived.Test.YtaodnkhpiiepiaaCx2
import Derived.Test.YtaodnkhpiiepiaaCx3
namespace Go.Proofs.Ytaodnkhpiiepiaa.C
open Go Go.RowKit Go.Proofs.YtaodnkhpiiepiaaW.PrintWords Go.Proofs.YtaodnkhpiiepiaaW.PrintLast Go.Proofs.YtaodnkhpiiepiaaG
set_option linter.unusedVariables false
set_option linter.unusedSimpArgs false

/-- Is it a number of 64 bits? -/
def inr (z : Int) : Bool := decide (-9223372036854775808 ≤ z) && decide (z < 9223372036854775808)
theorem inr_iff {z : Int} : inr z = true ↔ -9223372036854775808 ≤ z ∧ z < 9223372036854775808 := by simp [inr]
theorem inr_not {z : Int} : inr z = false ↔ ¬ (-9223372036854775808 ≤ z ∧ z < 9223372036854775808) := by
  rw [← inr_iff]; cases inr z <;> simp
theorem w64i {x : Int} (h : inr x = true) : wrap64 x = x := by have := inr_iff.mp h; exact w64 this.1 this.2
theorem quot_in {p y : Int} (hp : inr p = true) (y0 : y ≠ 0) (y1 : y ≠ -1) : inr (Int.tdiv p y) = true := by
  have hp := inr_iff.mp hp
  have e := Int.natAbs_tdiv p y
  have e2 : (p.natAbs.div y.natAbs) = p.natAbs / y.natAbs := rfl
  rw [e2] at e
  apply inr_iff.mpr
  by_cases h1 : y = 1
  · subst h1; simpa using hp
  have : p.natAbs / y.natAbs ≤ p.natAbs / 2 := Nat.div_le_div_left (by omega) (by omega)
  omega
theorem prod_fits {x y : Int} (hx : inr x = true) (hy : inr y = true) (y0 : y ≠ 0) (h1 : ¬ (y = -1 ∧ x = -9223372036854775808)) :
    (wrap64 (Int.tdiv (wrap64 (x * y)) y) = x) ↔ inr (x * y) = true := by
  have hx' := inr_iff.mp hx; have hy' := inr_iff.mp hy
  by_cases ym : y = -1
  · subst ym
    have e : x * -1 = -x := by omega
    have hr : inr (-x) = true := inr_iff.mpr (by omega)
    rw [e, w64i hr, Int.tdiv_neg, Int.tdiv_one, Int.neg_neg, w64i hx]
    simp [hr]
  have hp : inr (wrap64 (x * y)) = true := inr_iff.mpr (by unfold wrap64; omega)
  rw [w64i (quot_in hp y0 ym)]
  constructor
  · intro h
    have e := Int.tmod_add_mul_tdiv (wrap64 (x * y)) y
    rw [h] at e
    have b := Int.natAbs_tmod (wrap64 (x * y)) y
    have b2 : (wrap64 (x * y)).natAbs % y.natAbs < y.natAbs := Nat.mod_lt _ (by omega)
    rw [← b] at b2
    have e3 : y * x = x * y := Int.mul_comm _ _
    rw [e3] at e
    have hp' := inr_iff.mp hp
    generalize (wrap64 (x * y)).tmod y = t at *
    generalize x * y = P at *
    apply inr_iff.mpr
    unfold wrap64 at *
    omega
  · intro h
    rw [w64i h, Int.mul_tdiv_cancel _ y0]

/-- What an operation comes to, of two numbers. -/
def opZ (op x y : Int) : Int := if op = 9 then x * y else if op = 12 then x + y else if op = 13 then x - y else if op = 10 then Int.tdiv x y else Int.tmod x y
def none4 (e : Int) : Int × Int × ByteArray × Int := (0, 0, ⟨#[]⟩, e)
def some4 (n : Int) : Int × Int × ByteArray × Int := (1, n, ⟨#[]⟩, 0)
/-- An operation of two values. -/
def doR (op : Int) (a b : S24) : Int × Int × ByteArray × Int :=
  if a.f0 = 0 ∨ b.f0 = 0 then none4 0 else if a.f0 = 1 ∧ b.f0 = 1 then (if (op = 10 ∨ op = 11) ∧ b.f1 = 0 then none4 0 else if inr (opZ op a.f1 b.f1) = true then some4 (opZ op a.f1 b.f1) else none4 5) else none4 4

theorem mul_ev (x y : Int) (hx : inr x = true) (hy : inr y = true) : ∃ q : Int × Bool, q.2 = inr (x * y) ∧ (inr (x * y) = true → q.1 = x * y) ∧ Ev (fun k => cadastreref4_mul.f k x y) q := by
  by_cases hz : x = 0 ∨ y = 0
  · have e : x * y = 0 := by rcases hz with h | h <;> subst h <;> simp
    refine ⟨(0, true), by rw [e]; rfl, fun _ => e.symm, ?_⟩
    refine Ev.congr (fun k => by rw [cadastreref4_mul.f]) ?_
    have tl : Ev (fun k => cadastreref4_mul.j0 k x y true) (0, true) := by
      refine Ev.step (fun k => by rw [cadastreref4_mul.j0]) ?_
      exact Ev.ifp rfl (Ev.ret rfl)
    by_cases h : x = 0
    · exact Ev.ifp h tl
    · refine Ev.ifn h ?_
      rw [show (y == 0) = true by simp; omega]; exact tl
  have hx0 : x ≠ 0 := fun h => hz (.inl h)
  have hy0 : y ≠ 0 := fun h => hz (.inr h)
  have hx' := inr_iff.mp hx; have hy' := inr_iff.mp hy
  have start : ∀ q : Int × Bool, Ev (fun k => cadastreref4_mul.j0 k x y false) q → Ev (fun k => cadastreref4_mul.f k x y) q := fun q h => by
    refine Ev.congr (fun k => by rw [cadastreref4_mul.f]) ?_
    refine Ev.ifn hx0 ?_
    rw [show (y == 0) = false by simp; omega]; exact h
  by_cases b1 : x = -1 ∧ y = -9223372036854775808
  · refine ⟨(0, false), by rw [b1.1, b1.2]; rfl, fun h => by rw [b1.1, b1.2] at h; exact absurd h (by decide), start _ ?_⟩
    refine Ev.step (fun k => by rw [cadastreref4_mul.j0]) ?_
    exact Ev.ifn (by decide) (Ev.ifp b1.1 (Ev.ifp b1.2 (Ev.ret rfl)))
  by_cases b2 : y = -1 ∧ x = -9223372036854775808
  · refine ⟨(0, false), by rw [b2.1, b2.2]; rfl, fun h => by rw [b2.1, b2.2] at h; exact absurd h (by decide), start _ ?_⟩
    refine Ev.step (fun k => by rw [cadastreref4_mul.j0]) ?_
    exact Ev.ifn (by decide) (Ev.ifn (by omega) (Ev.ifp b2.1 (Ev.ifp b2.2 (Ev.ret rfl))))
  have pf := prod_fits hx hy hy0 b2
  refine ⟨(wrap64 (x * y), (wrap64 (Int.tdiv (wrap64 (x * y)) y)) == x), ?_, fun h => w64i h, start _ ?_⟩
  · rw [Bool.eq_iff_iff, beq_iff_eq]; exact pf
  refine Ev.step (fun k => by rw [cadastreref4_mul.j0]) ?_
  refine Ev.ifn (by decide) ?_
  have last : Ev (fun _ => if y = 0 then none else some (wrap64 (x * y), (wrap64 (Int.tdiv (wrap64 (x * y)) y)) == x)) (wrap64 (x * y), (wrap64 (Int.tdiv (wrap64 (x * y)) y)) == x) := Ev.ifn hy0 (Ev.ret rfl)
  by_cases h1 : x = -1
  · refine Ev.ifp h1 (Ev.ifn (fun h => b1 ⟨h1, h⟩) ?_)
    by_cases h2 : y = -1
    · exact Ev.ifp h2 (Ev.ifn (fun h => b2 ⟨h2, h⟩) last)
    · exact Ev.ifn h2 last
  · refine Ev.ifn h1 ?_
    by_cases h2 : y = -1
    · exact Ev.ifp h2 (Ev.ifn (fun h => b2 ⟨h2, h⟩) last)
    · exact Ev.ifn h2 last

theorem add_fits {x y : Int} (hx : inr x = true) (hy : inr y = true) : ((decide (y ≥ 0)) == (decide ((wrap64 (x + y)) ≥ x))) = inr (x + y) := by
  have hx' := inr_iff.mp hx; have hy' := inr_iff.mp hy
  rw [Bool.eq_iff_iff, beq_iff_eq, inr_iff, decide_eq_decide]
  unfold wrap64; omega
theorem sub_fits {x y : Int} (hx : inr x = true) (hy : inr y = true) : ((decide (y ≥ 0)) == (decide ((wrap64 (x - y)) ≤ x))) = inr (x - y) := by
  have hx' := inr_iff.mp hx; have hy' := inr_iff.mp hy
  rw [Bool.eq_iff_iff, beq_iff_eq, inr_iff, decide_eq_decide]
  unfold wrap64; omega
theorem tmod_in {x y : Int} (hx : inr x = true) : inr (Int.tmod x y) = true := by
  have hx' := inr_iff.mp hx
  have b := Int.natAbs_tmod x y
  have b2 : x.natAbs % y.natAbs ≤ x.natAbs := Nat.mod_le _ _
  apply inr_iff.mpr
  by_cases h : x = -9223372036854775808
  · subst h
    by_cases hp : 0 ≤ y
    · have := Int.tmod_neg (-9223372036854775808) (y)
      have s : Int.tmod (-9223372036854775808) y = - Int.tmod 9223372036854775808 y := Int.neg_tmod 9223372036854775808 y
      have t : 0 ≤ Int.tmod 9223372036854775808 y := Int.tmod_nonneg _ (by omega)
      omega
    · have s : Int.tmod (-9223372036854775808) y = - Int.tmod 9223372036854775808 y := Int.neg_tmod 9223372036854775808 y
      have t : 0 ≤ Int.tmod 9223372036854775808 y := Int.tmod_nonneg _ (by omega)
      omega
  · omega

theorem rdo_ev (op a0 a1 b0 b1 : Int) (a2 b2 : ByteArray) (ho : 9 ≤ op ∧ op ≤ 13) (ha : inr a1 = true) (hb : inr b1 = true) :
    Ev (fun k => cadastreref4_Do.f k op a0 a1 a2 b0 b1 b2) (doR op ⟨a0, a1, a2⟩ ⟨b0, b1, b2⟩) := by
  have ha' := inr_iff.mp ha; have hb' := inr_iff.mp hb
  unfold doR
  dsimp only
  refine Ev.congr (fun k => by rw [cadastreref4_Do.f]) ?_
  by_cases h0 : a0 = 0 ∨ b0 = 0
  · rw [if_pos h0]
    have tl : Ev (fun k => cadastreref4_Do.j0 k op true a0 a1 a2 b0 b1 b2) (none4 0) := by
      refine Ev.step (fun k => by rw [cadastreref4_Do.j0]) ?_
      exact Ev.ifp rfl (Ev.ret rfl)
    by_cases h : a0 = 0
    · exact Ev.ifp h tl
    · refine Ev.ifn h ?_
      rw [show (b0 == 0) = true by simp; omega]; exact tl
  rw [if_neg h0]
  refine Ev.ifn (fun h => h0 (.inl h)) ?_
  rw [show (b0 == 0) = false by simp; omega]
  refine Ev.step (fun k => by rw [cadastreref4_Do.j0]) ?_
  refine Ev.ifn (by decide) ?_
  by_cases h1 : a0 = 1 ∧ b0 = 1
  case neg =>
    rw [if_neg h1]
    have tl : Ev (fun k => cadastreref4_Do.j1 k op true a0 a1 a2 b0 b1 b2) (none4 4) := by
      refine Ev.step (fun k => by rw [cadastreref4_Do.j1]) ?_
      exact Ev.ifp rfl (Ev.ret rfl)
    by_cases h : a0 = 1
    · refine Ev.ifp h ?_
      rw [show (b0 != 1) = true by simp; omega]; exact tl
    · exact Ev.ifn h tl
  rw [if_pos h1]
  refine Ev.ifp h1.1 ?_
  rw [show (b0 != 1) = false by simp; omega]
  refine Ev.step (fun k => by rw [cadastreref4_Do.j1]) ?_
  refine Ev.ifn (by decide) ?_
  have cases_ : op = 9 ∨ op = 12 ∨ op = 13 ∨ op = 10 ∨ op = 11 := by omega
  rcases cases_ with h | h | h | h | h <;> subst h
  · refine Ev.cast (if_neg (by omega)).symm ?_
    obtain ⟨q, q2, q1, hq⟩ := mul_ev a1 b1 ha hb
    refine Ev.ifp rfl (Ev.bind hq ?_)
    rw [show opZ 9 a1 b1 = a1 * b1 from rfl]
    by_cases hr : inr (a1 * b1) = true
    · refine Ev.cast (if_pos hr).symm ?_
      have hn : q.2 = true := by rw [q2, hr]
      exact Ev.ifp hn (Ev.const rfl (Ev.ret (by rw [q1 hr]; rfl)))
    · refine Ev.cast (if_neg hr).symm ?_
      have hn : ¬ q.2 = true := by rw [q2]; exact hr
      exact Ev.ifn hn (Ev.ret rfl)
  · refine Ev.cast (if_neg (by omega)).symm ?_
    refine Ev.ifn (by decide) (Ev.ifp rfl ?_)
    rw [show opZ 12 a1 b1 = a1 + b1 from rfl]
    by_cases hr : inr (a1 + b1) = true
    · refine Ev.cast (if_pos hr).symm ?_
      refine Ev.ifp (by rw [add_fits ha hb]; exact hr) (Ev.const rfl (Ev.ret ?_))
      rw [w64i hr]; rfl
    · refine Ev.cast (if_neg hr).symm ?_
      exact Ev.ifn (by rw [add_fits ha hb]; exact hr) (Ev.ret rfl)
  · refine Ev.cast (if_neg (by omega)).symm ?_
    refine Ev.ifn (by decide) (Ev.ifn (by decide) (Ev.ifp rfl ?_))
    rw [show opZ 13 a1 b1 = a1 - b1 from rfl]
    by_cases hr : inr (a1 - b1) = true
    · refine Ev.cast (if_pos hr).symm ?_
      refine Ev.ifp (by rw [sub_fits ha hb]; exact hr) (Ev.const rfl (Ev.ret ?_))
      rw [w64i hr]; rfl
    · refine Ev.cast (if_neg hr).symm ?_
      exact Ev.ifn (by rw [sub_fits ha hb]; exact hr) (Ev.ret rfl)
  · refine Ev.ifn (by decide) (Ev.ifn (by decide) (Ev.ifn (by decide) ?_))
    by_cases hz : b1 = 0
    · refine Ev.cast (if_pos ⟨.inl rfl, hz⟩).symm ?_
      exact Ev.ifp hz (Ev.ret rfl)
    refine Ev.cast (if_neg (fun h => hz h.2)).symm ?_
    refine Ev.ifn hz ?_
    rw [show opZ 10 a1 b1 = Int.tdiv a1 b1 from rfl]
    by_cases hm : b1 = -1
    · refine Ev.ifp hm (Ev.ifn (by decide) ?_)
      rw [show Int.tdiv a1 b1 = -a1 by rw [hm, Int.tdiv_neg, Int.tdiv_one]]
      by_cases hl : a1 = -9223372036854775808
      · refine Ev.cast (if_neg (by rw [hl]; decide)).symm ?_
        exact Ev.ifn (fun h => h hl) (Ev.ret rfl)
      · have hr : inr (-a1) = true := inr_iff.mpr (by omega)
        refine Ev.cast (if_pos hr).symm ?_
        refine Ev.ifp hl (Ev.const rfl (Ev.ret ?_))
        rw [w64i hr]; rfl
    · have hr := quot_in ha hz hm
      refine Ev.cast (if_pos hr).symm ?_
      refine Ev.ifn hm (Ev.ifp rfl (Ev.const rfl (Ev.ret ?_)))
      rw [w64i hr]; rfl
  · refine Ev.ifn (by decide) (Ev.ifn (by decide) (Ev.ifn (by decide) ?_))
    by_cases hz : b1 = 0
    · refine Ev.cast (if_pos ⟨.inr rfl, hz⟩).symm ?_
      exact Ev.ifp hz (Ev.ret rfl)
    refine Ev.cast (if_neg (fun h => hz h.2)).symm ?_
    refine Ev.ifn hz ?_
    rw [show opZ 11 a1 b1 = Int.tmod a1 b1 from rfl]
    refine Ev.cast (if_pos (tmod_in ha)).symm ?_
    by_cases hm : b1 = -1
    · refine Ev.ifp hm (Ev.ifp rfl (Ev.const rfl (Ev.ret ?_)))
      rw [hm, Int.tmod_neg, Int.tmod_one]; rfl
    · exact Ev.ifn hm (Ev.ifn (by decide) (Ev.const rfl (Ev.ret rfl)))

/-- What the program's own reckoning answers. -/
def doA (op : Int) (a b : S24) : Int × Int × ByteArray × Int := if 9 ≤ op ∧ op ≤ 13 ∧ good a = true ∧ good b = true then doR op a b else none4 1
theorem bytes_none {s : ByteArray} (h : s.size = 0) : s = ⟨#[]⟩ := by
  apply by_inj; rw [size_nil h, size_nil (s := (⟨#[]⟩ : ByteArray)) rfl]
end Go.Proofs.Ytaodnkhpiiepiaa.C
