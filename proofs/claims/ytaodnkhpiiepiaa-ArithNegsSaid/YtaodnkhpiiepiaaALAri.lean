/- Layer 4: reckoning: what the printed functions come to. -/
import Derived.Test.YtaodnkhpiiepiaaALVal
import Derived.Test.YtaodnkhpiiepiaaAOk
import Derived.Test.YtaodnkhpiiepiaaAx3
import Derived.Test.YtaodnkhpiiepiaaAx4
import Derived.Test.YtaodnkhpiiepiaaAx5
import Derived.Test.YtaodnkhpiiepiaaAx6
import Derived.Test.YtaodnkhpiiepiaaAx7
import Derived.Test.YtaodnkhpiiepiaaAx8
namespace Go.Proofs.Ytaodnkhpiiepiaa.A
open Go Go.RowKit Go.Proofs.YtaodnkhpiiepiaaW.PrintWords Go.Proofs.YtaodnkhpiiepiaaW.PrintLast Go.Proofs.YtaodnkhpiiepiaaG
set_option linter.unusedVariables false
set_option linter.unusedSimpArgs false

/-- Is it a number of 64 bits? -/
def inr (z : Int) : Bool := decide (-9223372036854775808 ≤ z) && decide (z < 9223372036854775808)
theorem inr_iff {z : Int} : inr z = true ↔ -9223372036854775808 ≤ z ∧ z < 9223372036854775808 := by simp [inr]
theorem inr_not {z : Int} : inr z = false ↔ ¬ (-9223372036854775808 ≤ z ∧ z < 9223372036854775808) := by
  rw [← inr_iff]; cases inr z <;> simp
theorem w64i {x : Int} (h : inr x = true) : wrap64 x = x := by have := inr_iff.mp h; exact w64 this.1 this.2
theorem quot_in {p y : Int} (hp : inr p = true) (y0 : y ≠ 0) (y1 : y ≠ -1) : inr (Int.tdiv p y) = true := by
  have hp := inr_iff.mp hp
  have e := Int.natAbs_tdiv p y
  have e2 : (p.natAbs.div y.natAbs) = p.natAbs / y.natAbs := rfl
  rw [e2] at e
  apply inr_iff.mpr
  by_cases h1 : y = 1
  · subst h1; simpa using hp
  have : p.natAbs / y.natAbs ≤ p.natAbs / 2 := Nat.div_le_div_left (by omega) (by omega)
  omega
theorem prod_fits {x y : Int} (hx : inr x = true) (hy : inr y = true) (y0 : y ≠ 0) (h1 : ¬ (y = -1 ∧ x = -9223372036854775808)) :
    (wrap64 (Int.tdiv (wrap64 (x * y)) y) = x) ↔ inr (x * y) = true := by
  have hx' := inr_iff.mp hx; have hy' := inr_iff.mp hy
  by_cases ym : y = -1
  · subst ym
    have e : x * -1 = -x := by omega
    have hr : inr (-x) = true := inr_iff.mpr (by omega)
    rw [e, w64i hr, Int.tdiv_neg, Int.tdiv_one, Int.neg_neg, w64i hx]
    simp [hr]
  have hp : inr (wrap64 (x * y)) = true := inr_iff.mpr (by unfold wrap64; omega)
  rw [w64i (quot_in hp y0 ym)]
  constructor
  · intro h
    have e := Int.tmod_add_mul_tdiv (wrap64 (x * y)) y
    rw [h] at e
    have b := Int.natAbs_tmod (wrap64 (x * y)) y
    have b2 : (wrap64 (x * y)).natAbs % y.natAbs < y.natAbs := Nat.mod_lt _ (by omega)
    rw [← b] at b2
    have e3 : y * x = x * y := Int.mul_comm _ _
    rw [e3] at e
    have hp' := inr_iff.mp hp
    generalize (wrap64 (x * y)).tmod y = t at *
    generalize x * y = P at *
    apply inr_iff.mpr
    unfold wrap64 at *
    omega
  · intro h
    rw [w64i h, Int.mul_tdiv_cancel _ y0]

/-- What an operation comes to, of two numbers. -/
def opZ (op x y : Int) : Int := if op = 9 then x * y else if op = 12 then x + y else if op = 13 then x - y else if op = 10 then Int.tdiv x y else Int.tmod x y
def none4 (e : Int) : Int × Int × ByteArray × Int := (0, 0, ⟨#[]⟩, e)
def some4 (n : Int) : Int × Int × ByteArray × Int := (1, n, ⟨#[]⟩, 0)
/-- An operation of two values. -/
def doR (op : Int) (a b : S24) : Int × Int × ByteArray × Int :=
  if a.f0 = 0 ∨ b.f0 = 0 then none4 0 else if a.f0 = 1 ∧ b.f0 = 1 then (if (op = 10 ∨ op = 11) ∧ b.f1 = 0 then none4 0 else if inr (opZ op a.f1 b.f1) = true then some4 (opZ op a.f1 b.f1) else none4 5) else none4 4

theorem mul_ev (x y : Int) (hx : inr x = true) (hy : inr y = true) : ∃ q : Int × Bool, q.2 = inr (x * y) ∧ (inr (x * y) = true → q.1 = x * y) ∧ Ev (fun k => cadastreref4_mul.f k x y) q := by
  by_cases hz : x = 0 ∨ y = 0
  · have e : x * y = 0 := by rcases hz with h | h <;> subst h <;> simp
    refine ⟨(0, true), by rw [e]; rfl, fun _ => e.symm, ?_⟩
    refine Ev.congr (fun k => by rw [cadastreref4_mul.f]) ?_
    have tl : Ev (fun k => cadastreref4_mul.j0 k x y true) (0, true) := by
      refine Ev.step (fun k => by rw [cadastreref4_mul.j0]) ?_
      exact Ev.ifp rfl (Ev.ret rfl)
    by_cases h : x = 0
    · exact Ev.ifp h tl
    · refine Ev.ifn h ?_
      rw [show (y == 0) = true by simp; omega]; exact tl
  have hx0 : x ≠ 0 := fun h => hz (.inl h)
  have hy0 : y ≠ 0 := fun h => hz (.inr h)
  have hx' := inr_iff.mp hx; have hy' := inr_iff.mp hy
  have start : ∀ q : Int × Bool, Ev (fun k => cadastreref4_mul.j0 k x y false) q → Ev (fun k => cadastreref4_mul.f k x y) q := fun q h => by
    refine Ev.congr (fun k => by rw [cadastreref4_mul.f]) ?_
    refine Ev.ifn hx0 ?_
    rw [show (y == 0) = false by simp; omega]; exact h
  by_cases b1 : x = -1 ∧ y = -9223372036854775808
  · refine ⟨(0, false), by rw [b1.1, b1.2]; rfl, fun h => by rw [b1.1, b1.2] at h; exact absurd h (by decide), start _ ?_⟩
    refine Ev.step (fun k => by rw [cadastreref4_mul.j0]) ?_
    exact Ev.ifn (by decide) (Ev.ifp b1.1 (Ev.ifp b1.2 (Ev.ret rfl)))
  by_cases b2 : y = -1 ∧ x = -9223372036854775808
  · refine ⟨(0, false), by rw [b2.1, b2.2]; rfl, fun h => by rw [b2.1, b2.2] at h; exact absurd h (by decide), start _ ?_⟩
    refine Ev.step (fun k => by rw [cadastreref4_mul.j0]) ?_
    exact Ev.ifn (by decide) (Ev.ifn (by omega) (Ev.ifp b2.1 (Ev.ifp b2.2 (Ev.ret rfl))))
  have pf := prod_fits hx hy hy0 b2
  refine ⟨(wrap64 (x * y), (wrap64 (Int.tdiv (wrap64 (x * y)) y)) == x), ?_, fun h => w64i h, start _ ?_⟩
  · rw [Bool.eq_iff_iff, beq_iff_eq]; exact pf
  refine Ev.step (fun k => by rw [cadastreref4_mul.j0]) ?_
  refine Ev.ifn (by decide) ?_
  have last : Ev (fun _ => if y = 0 then none else some (wrap64 (x * y), (wrap64 (Int.tdiv (wrap64 (x * y)) y)) == x)) (wrap64 (x * y), (wrap64 (Int.tdiv (wrap64 (x * y)) y)) == x) := Ev.ifn hy0 (Ev.ret rfl)
  by_cases h1 : x = -1
  · refine Ev.ifp h1 (Ev.ifn (fun h => b1 ⟨h1, h⟩) ?_)
    by_cases h2 : y = -1
    · exact Ev.ifp h2 (Ev.ifn (fun h => b2 ⟨h2, h⟩) last)
    · exact Ev.ifn h2 last
  · refine Ev.ifn h1 ?_
    by_cases h2 : y = -1
    · exact Ev.ifp h2 (Ev.ifn (fun h => b2 ⟨h2, h⟩) last)
    · exact Ev.ifn h2 last

theorem add_fits {x y : Int} (hx : inr x = true) (hy : inr y = true) : ((decide (y ≥ 0)) == (decide ((wrap64 (x + y)) ≥ x))) = inr (x + y) := by
  have hx' := inr_iff.mp hx; have hy' := inr_iff.mp hy
  rw [Bool.eq_iff_iff, beq_iff_eq, inr_iff, decide_eq_decide]
  unfold wrap64; omega
theorem sub_fits {x y : Int} (hx : inr x = true) (hy : inr y = true) : ((decide (y ≥ 0)) == (decide ((wrap64 (x - y)) ≤ x))) = inr (x - y) := by
  have hx' := inr_iff.mp hx; have hy' := inr_iff.mp hy
  rw [Bool.eq_iff_iff, beq_iff_eq, inr_iff, decide_eq_decide]
  unfold wrap64; omega
theorem tmod_in {x y : Int} (hx : inr x = true) : inr (Int.tmod x y) = true := by
  have hx' := inr_iff.mp hx
  have b := Int.natAbs_tmod x y
  have b2 : x.natAbs % y.natAbs ≤ x.natAbs := Nat.mod_le _ _
  apply inr_iff.mpr
  by_cases h : x = -9223372036854775808
  · subst h
    by_cases hp : 0 ≤ y
    · have := Int.tmod_neg (-9223372036854775808) (y)
      have s : Int.tmod (-9223372036854775808) y = - Int.tmod 9223372036854775808 y := Int.neg_tmod 9223372036854775808 y
      have t : 0 ≤ Int.tmod 9223372036854775808 y := Int.tmod_nonneg _ (by omega)
      omega
    · have s : Int.tmod (-9223372036854775808) y = - Int.tmod 9223372036854775808 y := Int.neg_tmod 9223372036854775808 y
      have t : 0 ≤ Int.tmod 9223372036854775808 y := Int.tmod_nonneg _ (by omega)
      omega
  · omega

theorem rdo_ev (op a0 a1 b0 b1 : Int) (a2 b2 : ByteArray) (ho : 9 ≤ op ∧ op ≤ 13) (ha : inr a1 = true) (hb : inr b1 = true) :
    Ev (fun k => cadastreref4_Do.f k op a0 a1 a2 b0 b1 b2) (doR op ⟨a0, a1, a2⟩ ⟨b0, b1, b2⟩) := by
  have ha' := inr_iff.mp ha; have hb' := inr_iff.mp hb
  unfold doR
  dsimp only
  refine Ev.congr (fun k => by rw [cadastreref4_Do.f]) ?_
  by_cases h0 : a0 = 0 ∨ b0 = 0
  · rw [if_pos h0]
    have tl : Ev (fun k => cadastreref4_Do.j0 k op true a0 a1 a2 b0 b1 b2) (none4 0) := by
      refine Ev.step (fun k => by rw [cadastreref4_Do.j0]) ?_
      exact Ev.ifp rfl (Ev.ret rfl)
    by_cases h : a0 = 0
    · exact Ev.ifp h tl
    · refine Ev.ifn h ?_
      rw [show (b0 == 0) = true by simp; omega]; exact tl
  rw [if_neg h0]
  refine Ev.ifn (fun h => h0 (.inl h)) ?_
  rw [show (b0 == 0) = false by simp; omega]
  refine Ev.step (fun k => by rw [cadastreref4_Do.j0]) ?_
  refine Ev.ifn (by decide) ?_
  by_cases h1 : a0 = 1 ∧ b0 = 1
  case neg =>
    rw [if_neg h1]
    have tl : Ev (fun k => cadastreref4_Do.j1 k op true a0 a1 a2 b0 b1 b2) (none4 4) := by
      refine Ev.step (fun k => by rw [cadastreref4_Do.j1]) ?_
      exact Ev.ifp rfl (Ev.ret rfl)
    by_cases h : a0 = 1
    · refine Ev.ifp h ?_
      rw [show (b0 != 1) = true by simp; omega]; exact tl
    · exact Ev.ifn h tl
  rw [if_pos h1]
  refine Ev.ifp h1.1 ?_
  rw [show (b0 != 1) = false by simp; omega]
  refine Ev.step (fun k => by rw [cadastreref4_Do.j1]) ?_
  refine Ev.ifn (by decide) ?_
  have cases_ : op = 9 ∨ op = 12 ∨ op = 13 ∨ op = 10 ∨ op = 11 := by omega
  rcases cases_ with h | h | h | h | h <;> subst h
  · refine Ev.cast (if_neg (by omega)).symm ?_
    obtain ⟨q, q2, q1, hq⟩ := mul_ev a1 b1 ha hb
    refine Ev.ifp rfl (Ev.bind hq ?_)
    rw [show opZ 9 a1 b1 = a1 * b1 from rfl]
    by_cases hr : inr (a1 * b1) = true
    · refine Ev.cast (if_pos hr).symm ?_
      have hn : q.2 = true := by rw [q2, hr]
      exact Ev.ifp hn (Ev.const rfl (Ev.ret (by rw [q1 hr]; rfl)))
    · refine Ev.cast (if_neg hr).symm ?_
      have hn : ¬ q.2 = true := by rw [q2]; exact hr
      exact Ev.ifn hn (Ev.ret rfl)
  · refine Ev.cast (if_neg (by omega)).symm ?_
    refine Ev.ifn (by decide) (Ev.ifp rfl ?_)
    rw [show opZ 12 a1 b1 = a1 + b1 from rfl]
    by_cases hr : inr (a1 + b1) = true
    · refine Ev.cast (if_pos hr).symm ?_
      refine Ev.ifp (by rw [add_fits ha hb]; exact hr) (Ev.const rfl (Ev.ret ?_))
      rw [w64i hr]; rfl
    · refine Ev.cast (if_neg hr).symm ?_
      exact Ev.ifn (by rw [add_fits ha hb]; exact hr) (Ev.ret rfl)
  · refine Ev.cast (if_neg (by omega)).symm ?_
    refine Ev.ifn (by decide) (Ev.ifn (by decide) (Ev.ifp rfl ?_))
    rw [show opZ 13 a1 b1 = a1 - b1 from rfl]
    by_cases hr : inr (a1 - b1) = true
    · refine Ev.cast (if_pos hr).symm ?_
      refine Ev.ifp (by rw [sub_fits ha hb]; exact hr) (Ev.const rfl (Ev.ret ?_))
      rw [w64i hr]; rfl
    · refine Ev.cast (if_neg hr).symm ?_
      exact Ev.ifn (by rw [sub_fits ha hb]; exact hr) (Ev.ret rfl)
  · refine Ev.ifn (by decide) (Ev.ifn (by decide) (Ev.ifn (by decide) ?_))
    by_cases hz : b1 = 0
    · refine Ev.cast (if_pos ⟨.inl rfl, hz⟩).symm ?_
      exact Ev.ifp hz (Ev.ret rfl)
    refine Ev.cast (if_neg (fun h => hz h.2)).symm ?_
    refine Ev.ifn hz ?_
    rw [show opZ 10 a1 b1 = Int.tdiv a1 b1 from rfl]
    by_cases hm : b1 = -1
    · refine Ev.ifp hm (Ev.ifn (by decide) ?_)
      rw [show Int.tdiv a1 b1 = -a1 by rw [hm, Int.tdiv_neg, Int.tdiv_one]]
      by_cases hl : a1 = -9223372036854775808
      · refine Ev.cast (if_neg (by rw [hl]; decide)).symm ?_
        exact Ev.ifn (fun h => h hl) (Ev.ret rfl)
      · have hr : inr (-a1) = true := inr_iff.mpr (by omega)
        refine Ev.cast (if_pos hr).symm ?_
        refine Ev.ifp hl (Ev.const rfl (Ev.ret ?_))
        rw [w64i hr]; rfl
    · have hr := quot_in ha hz hm
      refine Ev.cast (if_pos hr).symm ?_
      refine Ev.ifn hm (Ev.ifp rfl (Ev.const rfl (Ev.ret ?_)))
      rw [w64i hr]; rfl
  · refine Ev.ifn (by decide) (Ev.ifn (by decide) (Ev.ifn (by decide) ?_))
    by_cases hz : b1 = 0
    · refine Ev.cast (if_pos ⟨.inr rfl, hz⟩).symm ?_
      exact Ev.ifp hz (Ev.ret rfl)
    refine Ev.cast (if_neg (fun h => hz h.2)).symm ?_
    refine Ev.ifn hz ?_
    rw [show opZ 11 a1 b1 = Int.tmod a1 b1 from rfl]
    refine Ev.cast (if_pos (tmod_in ha)).symm ?_
    by_cases hm : b1 = -1
    · refine Ev.ifp hm (Ev.ifp rfl (Ev.const rfl (Ev.ret ?_)))
      rw [hm, Int.tmod_neg, Int.tmod_one]; rfl
    · exact Ev.ifn hm (Ev.ifn (by decide) (Ev.const rfl (Ev.ret rfl)))

theorem reckon_ev (op x y : Int) (ho : 9 ≤ op ∧ op ≤ 13) (hx : inr x = true) (hy : inr y = true) (hq : op = 10 ∨ op = 11 → y ≠ 0) :
    Ev (fun k => arith_reckon.f k op x y) (if inr (opZ op x y) = true then (opZ op x y, 0) else (0, 5)) := by
  have hx' := inr_iff.mp hx; have hy' := inr_iff.mp hy
  refine Ev.congr (fun k => by rw [arith_reckon.f]) ?_
  have cases_ : op = 9 ∨ op = 12 ∨ op = 13 ∨ op = 10 ∨ op = 11 := by omega
  rcases cases_ with h | h | h | h | h <;> subst h
  · refine Ev.ifn (by decide) (Ev.ifn (by decide) (Ev.ifp rfl ?_))
    rw [show opZ 9 x y = x * y from rfl]
    by_cases hz : x = 0 ∨ y = 0
    · have e : x * y = 0 := by rcases hz with h | h <;> subst h <;> simp
      rw [e, if_pos (by decide)]
      have tl : Ev (fun k => arith_reckon.j0 k x y true) (0, 0) := by
        refine Ev.step (fun k => by rw [arith_reckon.j0]) ?_
        exact Ev.ifp rfl (Ev.ret rfl)
      by_cases h : x = 0
      · exact Ev.ifp h tl
      · refine Ev.ifn h ?_
        rw [show (y == 0) = true by simp; omega]; exact tl
    have hx0 : x ≠ 0 := fun h => hz (.inl h)
    have hy0 : y ≠ 0 := fun h => hz (.inr h)
    refine Ev.ifn hx0 ?_
    rw [show (y == 0) = false by simp; omega]
    refine Ev.step (fun k => by rw [arith_reckon.j0]) ?_
    refine Ev.ifn (by decide) ?_
    by_cases b1 : x = -1 ∧ y = -9223372036854775808
    · refine Ev.cast (if_neg (by rw [b1.1, b1.2]; decide)).symm ?_
      exact Ev.ifp b1.1 (Ev.ifp b1.2 (Ev.ret rfl))
    by_cases b2 : y = -1 ∧ x = -9223372036854775808
    · refine Ev.cast (if_neg (by rw [b2.1, b2.2]; decide)).symm ?_
      exact Ev.ifn (by omega) (Ev.ifp b2.1 (Ev.ifp b2.2 (Ev.ret rfl)))
    have pf := prod_fits hx hy hy0 b2
    have last : Ev (fun _ => if y = 0 then none else if wrap64 (Int.tdiv (wrap64 (x * y)) y) = x then some (wrap64 (x * y), (0 : Int)) else some (0, 5)) (if inr (x * y) = true then (x * y, (0 : Int)) else (0, 5)) := by
      refine Ev.ifn hy0 ?_
      by_cases hr : inr (x * y) = true
      · refine Ev.cast (if_pos hr).symm ?_; exact Ev.ifp (pf.mpr hr) (Ev.ret (by rw [w64i hr]))
      · refine Ev.cast (if_neg hr).symm ?_; exact Ev.ifn (fun h => hr (pf.mp h)) (Ev.ret rfl)
    by_cases h1 : x = -1
    · refine Ev.ifp h1 (Ev.ifn (fun h => b1 ⟨h1, h⟩) ?_)
      by_cases h2 : y = -1
      · exact Ev.ifp h2 (Ev.ifn (fun h => b2 ⟨h2, h⟩) last)
      · exact Ev.ifn h2 last
    · refine Ev.ifn h1 ?_
      by_cases h2 : y = -1
      · exact Ev.ifp h2 (Ev.ifn (fun h => b2 ⟨h2, h⟩) last)
      · exact Ev.ifn h2 last
  · refine Ev.ifp rfl ?_
    rw [show opZ 12 x y = x + y from rfl]
    by_cases h1 : y > 0
    · refine Ev.ifp h1 ?_
      rw [w64 (x := 9223372036854775807 - y) (by omega) (by omega)]
      by_cases h2 : x > 9223372036854775807 - y
      · refine Ev.cast (if_neg (by rw [inr_iff]; omega)).symm ?_; exact Ev.ifp h2 (Ev.ret rfl)
      · refine Ev.cast (if_pos (by rw [inr_iff]; omega)).symm ?_; exact Ev.ifn h2 (Ev.ifn (by omega) (Ev.ret (by rw [w64 (by omega) (by omega)])))
    · refine Ev.ifn h1 ?_
      by_cases h3 : y < 0
      · refine Ev.ifp h3 ?_
        rw [w64 (x := -9223372036854775808 - y) (by omega) (by omega)]
        by_cases h2 : x < -9223372036854775808 - y
        · refine Ev.cast (if_neg (by rw [inr_iff]; omega)).symm ?_; exact Ev.ifp h2 (Ev.ret rfl)
        · refine Ev.cast (if_pos (by rw [inr_iff]; omega)).symm ?_; exact Ev.ifn h2 (Ev.ret (by rw [w64 (by omega) (by omega)]))
      · refine Ev.cast (if_pos (by rw [inr_iff]; omega)).symm ?_; exact Ev.ifn h3 (Ev.ret (by rw [w64 (by omega) (by omega)]))
  · refine Ev.ifn (by decide) (Ev.ifp rfl ?_)
    rw [show opZ 13 x y = x - y from rfl]
    by_cases h1 : y < 0
    · refine Ev.ifp h1 ?_
      rw [w64 (x := 9223372036854775807 + y) (by omega) (by omega)]
      by_cases h2 : x > 9223372036854775807 + y
      · refine Ev.cast (if_neg (by rw [inr_iff]; omega)).symm ?_; exact Ev.ifp h2 (Ev.ret rfl)
      · refine Ev.cast (if_pos (by rw [inr_iff]; omega)).symm ?_; exact Ev.ifn h2 (Ev.ifn (by omega) (Ev.ret (by rw [w64 (by omega) (by omega)])))
    · refine Ev.ifn h1 ?_
      by_cases h3 : y > 0
      · refine Ev.ifp h3 ?_
        rw [w64 (x := -9223372036854775808 + y) (by omega) (by omega)]
        by_cases h2 : x < -9223372036854775808 + y
        · refine Ev.cast (if_neg (by rw [inr_iff]; omega)).symm ?_; exact Ev.ifp h2 (Ev.ret rfl)
        · refine Ev.cast (if_pos (by rw [inr_iff]; omega)).symm ?_; exact Ev.ifn h2 (Ev.ret (by rw [w64 (by omega) (by omega)]))
      · refine Ev.cast (if_pos (by rw [inr_iff]; omega)).symm ?_; exact Ev.ifn h3 (Ev.ret (by rw [w64 (by omega) (by omega)]))
  · have y0 := hq (.inl rfl)
    refine Ev.ifn (by decide) (Ev.ifn (by decide) (Ev.ifn (by decide) (Ev.ifp rfl ?_)))
    rw [show opZ 10 x y = Int.tdiv x y from rfl]
    by_cases hl : x = -9223372036854775808
    · refine Ev.ifp hl ?_
      by_cases hm : y = -1
      · refine Ev.cast (if_neg (by rw [hl, hm]; decide)).symm ?_; exact Ev.ifp hm (Ev.ret rfl)
      · have hr := quot_in hx y0 hm
        refine Ev.cast (if_pos hr).symm ?_; exact Ev.ifn hm (Ev.ifn y0 (Ev.ret (by rw [w64i hr])))
    · have hr : inr (Int.tdiv x y) = true := by
        by_cases hm : y = -1
        · subst hm; rw [Int.tdiv_neg, Int.tdiv_one]; exact inr_iff.mpr (by omega)
        · exact quot_in hx y0 hm
      refine Ev.cast (if_pos hr).symm ?_; exact Ev.ifn hl (Ev.ifn y0 (Ev.ret (by rw [w64i hr])))
  · have y0 := hq (.inr rfl)
    refine Ev.ifn (by decide) (Ev.ifn (by decide) (Ev.ifn (by decide) (Ev.ifn (by decide) ?_)))
    rw [show opZ 11 x y = Int.tmod x y from rfl, if_pos (tmod_in hx)]
    by_cases hm : y = -1
    · exact Ev.ifp hm (Ev.ret (by subst hm; rw [Int.tmod_neg, Int.tmod_one]))
    · exact Ev.ifn hm (Ev.ifn y0 (Ev.ret rfl))

/-- What the program's own reckoning answers. -/
def doA (op : Int) (a b : S24) : Int × Int × ByteArray × Int := if 9 ≤ op ∧ op ≤ 13 ∧ good a = true ∧ good b = true then doR op a b else none4 1
theorem do_ev (op : Int) (a b : S24) (ha : inr a.f1 = true) (hb : inr b.f1 = true) :
    Ev (fun k => arith_Do.f k op a.f0 a.f1 a.f2 b.f0 b.f1 b.f2) (doA op a b) := by
  refine Ev.congr (fun k => by rw [arith_Do.f]) ?_
  have bad : ¬ (9 ≤ op ∧ op ≤ 13 ∧ good a = true ∧ good b = true) → Ev (fun k => arith_Do.j0 k op true a.f0 a.f1 a.f2 b.f0 b.f1 b.f2) (doA op a b) := fun h => by
    unfold doA; refine Ev.cast (if_neg h).symm ?_
    refine Ev.step (fun k => by rw [arith_Do.j0]) ?_
    exact Ev.ifp rfl (Ev.ret rfl)
  by_cases h1 : op < 9
  · exact Ev.ifp h1 (bad (by omega))
  refine Ev.ifn h1 ?_
  by_cases h2 : op > 13
  · exact Ev.ifp h2 (bad (by omega))
  refine Ev.ifn h2 (Ev.bind (all_two a b) ?_)
  cases hg : (good a && good b)
  · exact bad (fun h => by rw [h.2.2.1, h.2.2.2] at hg; exact absurd hg (by decide))
  have g := Bool.and_eq_true_iff.mp hg
  unfold doA; refine Ev.cast (if_pos ⟨by omega, by omega, g.1, g.2⟩).symm ?_
  unfold doR
  show Ev (fun k => arith_Do.j0 k op false a.f0 a.f1 a.f2 b.f0 b.f1 b.f2) _
  refine Ev.step (fun k => by rw [arith_Do.j0]) ?_
  refine Ev.ifn (by decide) ?_
  by_cases h0 : a.f0 = 0 ∨ b.f0 = 0
  · refine Ev.cast (if_pos h0).symm ?_
    have tl : Ev (fun k => arith_Do.j1 k op true a.f0 a.f1 a.f2 b.f0 b.f1 b.f2) (none4 0) := by
      refine Ev.step (fun k => by rw [arith_Do.j1]) ?_
      exact Ev.ifp rfl (Ev.ret rfl)
    by_cases h : a.f0 = 0
    · exact Ev.ifp h tl
    · refine Ev.ifn h ?_
      rw [show (b.f0 == 0) = true by simp; omega]; exact tl
  refine Ev.cast (if_neg h0).symm ?_
  refine Ev.ifn (fun h => h0 (.inl h)) ?_
  rw [show (b.f0 == 0) = false by simp; omega]
  refine Ev.step (fun k => by rw [arith_Do.j1]) ?_
  refine Ev.ifn (by decide) ?_
  by_cases h1 : a.f0 = 1 ∧ b.f0 = 1
  case neg =>
    refine Ev.cast (if_neg h1).symm ?_
    have tl : Ev (fun k => arith_Do.j2 k op true a.f0 a.f1 a.f2 b.f0 b.f1 b.f2) (none4 4) := by
      refine Ev.step (fun k => by rw [arith_Do.j2]) ?_
      exact Ev.ifp rfl (Ev.ret rfl)
    by_cases h : a.f0 = 1
    · refine Ev.ifp h ?_
      rw [show (b.f0 != 1) = true by simp; omega]; exact tl
    · exact Ev.ifn h tl
  refine Ev.cast (if_pos h1).symm ?_
  refine Ev.ifp h1.1 ?_
  rw [show (b.f0 != 1) = false by simp; omega]
  refine Ev.step (fun k => by rw [arith_Do.j2]) ?_
  refine Ev.ifn (by decide) ?_
  have go : ¬ ((op = 10 ∨ op = 11) ∧ b.f1 = 0) → Ev (fun k => arith_Do.j3 k op a.f0 a.f1 a.f2 b.f0 b.f1 b.f2) (if (op = 10 ∨ op = 11) ∧ b.f1 = 0 then none4 0 else if inr (opZ op a.f1 b.f1) = true then some4 (opZ op a.f1 b.f1) else none4 5) := fun h => by
    refine Ev.cast (if_neg h).symm ?_
    refine Ev.step (fun k => by rw [arith_Do.j3]) ?_
    refine Ev.bind (reckon_ev op a.f1 b.f1 (by omega) ha hb (fun h3 h4 => h ⟨h3, h4⟩)) ?_
    by_cases hr : inr (opZ op a.f1 b.f1) = true
    · rw [if_pos hr, if_pos hr]; exact Ev.ifp rfl (Ev.const rfl (Ev.ret rfl))
    · rw [if_neg hr, if_neg hr]; exact Ev.ifn (by decide) (Ev.ret rfl)
  have nul : ((op = 10 ∨ op = 11) ∧ b.f1 = 0) → Ev (fun k => (some (0, 0, (⟨#[]⟩ : ByteArray), 0) : Option (Int × Int × ByteArray × Int))) (if (op = 10 ∨ op = 11) ∧ b.f1 = 0 then none4 0 else if inr (opZ op a.f1 b.f1) = true then some4 (opZ op a.f1 b.f1) else none4 5) := fun h => by
    refine Ev.cast (if_pos h).symm ?_; exact Ev.ret rfl
  by_cases o1 : op = 10
  · refine Ev.ifp o1 ?_
    by_cases z : b.f1 = 0
    · exact Ev.ifp z (nul ⟨.inl o1, z⟩)
    · exact Ev.ifn z (go (fun h => z h.2))
  · refine Ev.ifn o1 ?_
    by_cases o2 : op = 11
    · refine Ev.ifp o2 ?_
      by_cases z : b.f1 = 0
      · exact Ev.ifp z (nul ⟨.inr o2, z⟩)
      · exact Ev.ifn z (go (fun h => z h.2))
    · exact Ev.ifn o2 (go (by omega))
theorem bytes_none {s : ByteArray} (h : s.size = 0) : s = ⟨#[]⟩ := by
  apply by_inj; rw [size_nil h, size_nil (s := (⟨#[]⟩ : ByteArray)) rfl]
theorem is_same (q : Int × Int × ByteArray × Int) : cadastrelaw4_is.f q.1 q.2.1 q.2.2.1 q.2.2.2 q.1 q.2.1 q.2.2.1 q.2.2.2 = some true := by
  unfold cadastrelaw4_is.f cadastrelaw4_num.f
  simp
theorem neg_eq (a : S24) (ha : inr a.f1 = true) : arith_Neg.f a.f0 a.f1 a.f2 = some (if good a = true then doR 13 ⟨1, 0, ⟨#[]⟩⟩ a else none4 1) := by
  have ha' := inr_iff.mp ha
  unfold arith_Neg.f
  rw [good_eq]
  have ea : (⟨a.f0, a.f1, a.f2⟩ : S24) = a := rfl
  rw [ea]
  by_cases hg : good a = true
  case neg => rw [Bool.eq_false_iff.mpr hg]; rfl
  rw [hg, if_pos rfl]
  show (if a.f0 = 0 then _ else _) = _
  rcases good_says hg with ⟨k, n, z⟩ | ⟨k, z⟩ | ⟨k, n, z⟩
  · have d : doR 13 ⟨1, 0, ⟨#[]⟩⟩ a = none4 0 := by unfold doR; exact if_pos (.inr k)
    rw [d, if_pos k, k, n, bytes_none z]; rfl
  · have d : doR 13 ⟨1, 0, ⟨#[]⟩⟩ a = if inr (0 - a.f1) = true then some4 (0 - a.f1) else none4 5 := by
      unfold doR; dsimp only
      rw [if_neg (show ¬ ((1 : Int) = 0 ∨ a.f0 = 0) by omega), if_pos (show (1 : Int) = 1 ∧ a.f0 = 1 from ⟨rfl, k⟩), if_neg (show ¬ (((13 : Int) = 10 ∨ (13 : Int) = 11) ∧ a.f1 = 0) by omega)]; rfl
    rw [d, if_neg (show ¬ a.f0 = 0 by omega), if_pos k]
    by_cases hm : a.f1 = -9223372036854775808
    · rw [if_pos hm, if_neg (show ¬ inr (0 - a.f1) = true by rw [hm]; decide)]; rfl
    · have hr : inr (0 - a.f1) = true := inr_iff.mpr (by omega)
      rw [if_neg hm, if_pos hr, show wrap64 (-a.f1) = 0 - a.f1 by rw [w64 (by omega) (by omega)]; omega]; rfl
  · have d : doR 13 ⟨1, 0, ⟨#[]⟩⟩ a = none4 4 := by
      unfold doR; dsimp only
      rw [if_neg (show ¬ ((1 : Int) = 0 ∨ a.f0 = 0) by omega), if_neg (show ¬ ((1 : Int) = 1 ∧ a.f0 = 1) by omega)]
    rw [d, if_neg (show ¬ a.f0 = 0 by omega), if_neg (show ¬ a.f0 = 1 by omega)]; rfl
theorem rneg_ev (a : S24) (ha : inr a.f1 = true) : Ev (fun k => cadastreref4_Neg.f k a.f0 a.f1 a.f2) (doR 13 ⟨1, 0, ⟨#[]⟩⟩ a) := by
  refine Ev.congr (fun k => by rw [cadastreref4_Neg.f]) ?_
  refine Ev.const rfl (Ev.bind (rdo_ev 13 1 0 a.f0 a.f1 ⟨#[]⟩ a.f2 (by decide) (by decide) ha) (Ev.ret rfl))
theorem wakes4_ev : Ev (fun k => cadastrelaw4_wakes.f k) true := by
  refine Ev.congr (fun k => by rw [cadastrelaw4_wakes.f]) ?_
  refine Ev.bind (do_ev 10 ⟨1, 7, ⟨#[]⟩⟩ ⟨1, 2, ⟨#[]⟩⟩ (by decide) (by decide)) ?_
  rw [show doA 10 ⟨1, 7, ⟨#[]⟩⟩ ⟨1, 2, ⟨#[]⟩⟩ = (1, 3, ⟨#[]⟩, 0) by
    unfold doA; rw [if_pos (by decide)]; rfl]
  refine Ev.const rfl (Ev.ifp rfl (Ev.ret ?_))
  rw [by_toList, size_nil (s := (⟨#[]⟩ : ByteArray)) rfl]; rfl
theorem law_do (fr tt : Int) (h1 : 9 ≤ fr) (h2 : tt ≤ 13) (l : List S58) (hok : ∀ y ∈ l, ok58 y) (hlen : l.length ≤ 9223372036854775807) : Ev (fun k => cadastrelaw4_do.f k l fr tt) true := by
  refine Ev.congr (fun k => by rw [cadastrelaw4_do.f]) ?_
  have tl : ∀ i, Ev (fun k => cadastrelaw4_do.j1 k l fr tt i false) true := fun i => by
    refine Ev.step (fun k => by rw [cadastrelaw4_do.j1]) ?_
    exact Ev.ifn (by decide) (Ev.bind wakes4_ev (Ev.ret rfl))
  refine ev_loop (g := fun i k => cadastrelaw4_do.l0 k l fr tt i) l.length ?_ ?_
  · refine Ev.step (fun k => by rw [cadastrelaw4_do.l0]) ?_
    exact Ev.ifn (by omega) (tl _)
  intro i hi ih
  have e1 : wrap64 ((i : Int) + 1) = (i : Int) + 1 := w64 (by omega) (by omega)
  have hx : ok58 (rd_T58 l i) := hok _ (rdOf_mem hi)
  refine Ev.step (fun k => by rw [cadastrelaw4_do.l0]) ?_
  refine Ev.ifp (by omega) ?_
  by_cases h20 : (i : Int) < 30
  case neg => rw [decide_eq_false h20]; exact tl _
  rw [decide_eq_true h20]
  refine Ev.step (fun k => by rw [cadastrelaw4_do.j1]) ?_
  refine Ev.ifp rfl (Ev.ifp (by omega) (Ev.ifp (by omega) ?_))
  obtain ⟨p, hp⟩ : ∃ p, rd_T58 l i = p := ⟨_, rfl⟩
  rw [hp] at hx ⊢
  rw [← e1] at ih
  obtain ⟨⟨_, ha, _⟩, ⟨_, hb, _⟩, _⟩ := hx
  have ha := inr_iff.mpr ha; have hb := inr_iff.mpr hb
  have loop : ∀ (d : Nat) (op : Int), op + d = max (tt + 1) fr → fr ≤ op → Ev (fun k => cadastrelaw4_do.l1 k l fr tt i op p.f0.f0 p.f0.f1 p.f0.f2 p.f1.f0 p.f1.f1 p.f1.f2 p.f2) true := by
    intro d
    induction d with
    | zero =>
      intro op hd hf
      refine Ev.step (fun k => by rw [cadastrelaw4_do.l1]) ?_
      exact Ev.ifn (by omega) ih
    | succ d ihd =>
      intro op hd hf
      refine Ev.step (fun k => by rw [cadastrelaw4_do.l1]) ?_
      by_cases hto : op ≤ tt
      case neg => exact Ev.ifn hto ih
      have e2 : wrap64 (op + 1) = op + 1 := w64 (by omega) (by omega)
      have nx := ihd (op + 1) (by omega) (by omega)
      rw [← e2] at nx
      have ea : (⟨p.f0.f0, p.f0.f1, p.f0.f2⟩ : S24) = p.f0 := rfl
      have eb : (⟨p.f1.f0, p.f1.f1, p.f1.f2⟩ : S24) = p.f1 := rfl
      refine Ev.ifp hto (Ev.bind (do_ev op p.f0 p.f1 ha hb) (Ev.const (may_eq _ _ _) ?_))
      rw [ea]
      have bad : ¬ (good p.f0 = true ∧ good p.f1 = true) → Ev (fun k => cadastrelaw4_do.j3 k l fr tt i op (doA op p.f0 p.f1).2.2.2 1 false p.f0.f0 p.f0.f1 p.f0.f2 p.f1.f0 p.f1.f1 p.f1.f2 p.f2 (doA op p.f0 p.f1).1 (doA op p.f0 p.f1).2.1 (doA op p.f0 p.f1).2.2.1 0 0 (⟨#[]⟩ : ByteArray)) true := fun h => by
        refine Ev.step (fun k => by rw [cadastrelaw4_do.j3]) ?_
        have e : doA op p.f0 p.f1 = none4 1 := by unfold doA; rw [if_neg (fun q => h q.2.2)]
        rw [e]
        exact Ev.ifn (by decide) (Ev.const (is_same (none4 1)) (Ev.ifp rfl nx))
      by_cases g1 : good p.f0 = true
      case neg => exact Ev.ifn g1 (bad (fun h => g1 h.1))
      refine Ev.ifp g1 (Ev.const (may_eq _ _ _) ?_)
      rw [eb]
      by_cases g2 : good p.f1 = true
      case neg => rw [Bool.eq_false_iff.mpr g2]; exact bad (fun h => g2 h.2)
      rw [g2]
      refine Ev.step (fun k => by rw [cadastrelaw4_do.j3]) ?_
      have e : doA op p.f0 p.f1 = doR op p.f0 p.f1 := by unfold doA; rw [if_pos ⟨by omega, by omega, g1, g2⟩]
      rw [e]
      exact Ev.ifp rfl (Ev.bind (rdo_ev op p.f0.f0 p.f0.f1 p.f1.f0 p.f1.f1 p.f0.f2 p.f1.f2 (by omega) ha hb) (Ev.const (is_same (doR op p.f0 p.f1)) (Ev.ifp rfl nx)))
  exact loop (max (tt + 1) fr - fr).toNat fr (by omega) (by omega)
end Go.Proofs.Ytaodnkhpiiepiaa.A
