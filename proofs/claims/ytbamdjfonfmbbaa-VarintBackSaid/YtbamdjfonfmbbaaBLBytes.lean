/-
  Bytes: what the printed copies and comparisons of the references' helpers come to.
-/
import Derived.Test.YtbamdjfonfmbbaaLib
import Derived.Test.YtbamdjfonfmbbaaBOk
import Derived.Test.YtbamdjfonfmbbaaBx1
namespace Go.Proofs.Ytbamdjfonfmbbaa.B
open Go Go.RowKit Go.Proofs.YtbamdjfonfmbbaaW.PrintWords Go.Proofs.YtbamdjfonfmbbaaW.PrintLast Go.Proofs.YtbamdjfonfmbbaaG

/-- Bytes. -/
def IsB (l : List Int) : Prop := ∀ y ∈ l, 0 ≤ y ∧ y < 256

theorem rd_out {l : List Int} {i : Int} (h0 : 0 ≤ i) (h : ¬ i < (l.length : Int)) : rd l i = 0 := by
  unfold rd; rw [List.getD_eq_getElem?_getD, List.getElem?_eq_none (by omega)]; rfl

theorem eq_loop {a b : List Int} (hab : a.length = b.length) (hn : a.length ≤ 9223372036854775807) : ∀ (d : Nat) (i : Nat), i + d = a.length → Ev (fun k => cadastreref0_EqBytes.l0 k a b i) (decide (a.drop i = b.drop i))
  | 0, i, hi => by
    refine Ev.step (fun k => by rw [cadastreref0_EqBytes.l0]) (Ev.ifn (by omega) (Ev.ret ?_))
    rw [List.drop_eq_nil_of_le (by omega), List.drop_eq_nil_of_le (by omega)]; simp
  | d + 1, i, hi => by
    have h1 : i < a.length := by omega
    have h2 : i < b.length := by omega
    have e1 : wrap64 ((i : Int) + 1) = ((i + 1 : Nat) : Int) := by rw [w64 (by omega) (by omega)]; simp
    refine Ev.step (fun k => by rw [cadastreref0_EqBytes.l0]) (Ev.ifp (by omega) (Ev.ifp (by omega) (Ev.ifp (by omega) ?_)))
    rw [rd_get a i h1, rd_get b i h2, e1]
    rw [List.drop_eq_getElem_cons h1, List.drop_eq_getElem_cons h2]
    by_cases h : a[i] = b[i]
    · refine Ev.ifp h ?_
      refine Ev.cast ?_ (eq_loop hab hn d (i + 1) (by omega))
      simp only [h, List.cons.injEq, true_and]
    · refine Ev.ifn h (Ev.ret ?_)
      exact (decide_eq_false fun e => h (List.cons.inj e).1).symm
theorem eq_ev (a b : List Int) (hn : a.length ≤ 9223372036854775807) : Ev (fun k => cadastreref0_EqBytes.f k a b) (decide (a = b)) := by
  refine Ev.congr (fun k => by rw [cadastreref0_EqBytes.f]) ?_
  by_cases h : (a.length : Int) = (b.length : Int)
  · refine Ev.ifp h ?_
    have := eq_loop (a := a) (b := b) (by omega) hn a.length 0 (by omega)
    simpa using this
  · refine Ev.ifn h (Ev.ret ?_)
    have : ¬ a = b := fun e => h (by rw [e])
    simp [this]

theorem copy_loop {a : List Int} (hn : a.length ≤ 140737488351232) : ∀ (d : Nat) (i : Nat), i + d = a.length → Ev (fun k => cadastreref0_CopyBytes.l0 k a (a.take i) i) a
  | 0, i, hi => by
    refine Ev.step (fun k => by rw [cadastreref0_CopyBytes.l0]) (Ev.ifn (by omega) (Ev.ret ?_))
    rw [List.take_of_length_le (by omega)]
  | d + 1, i, hi => by
    have h1 : i < a.length := by omega
    have e1 : wrap64 ((i : Int) + 1) = ((i + 1 : Nat) : Int) := by rw [w64 (by omega) (by omega)]; simp
    refine Ev.step (fun k => by rw [cadastreref0_CopyBytes.l0]) (Ev.ifp (by omega) (Ev.ifp (by omega) (Ev.ifp (by rw [List.length_take]; omega) ?_)))
    rw [rd_get a i h1, e1, ← List.take_succ_eq_append_getElem h1]
    exact copy_loop hn d (i + 1) (by omega)
theorem copy_ev {a : List Int} (hn : a.length ≤ 140737488351232) : Ev (fun k => cadastreref0_CopyBytes.f k a) a :=
  Ev.congr (fun k => by rw [cadastreref0_CopyBytes.f]) (by simpa using copy_loop hn a.length 0 (by omega))

end Go.Proofs.Ytbamdjfonfmbbaa.B
