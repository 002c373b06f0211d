/- Layer 3: truths, what two make together, tests: what the printed functions come to. -/
import Derived.Test.YtaodnkhpiiepiaaLLVal
import Derived.Test.YtaodnkhpiiepiaaLOk
import Derived.Test.YtaodnkhpiiepiaaLx0
import Derived.Test.YtaodnkhpiiepiaaLx2
import Derived.Test.YtaodnkhpiiepiaaLx3
import Derived.Test.YtaodnkhpiiepiaaLx4
import Derived.Test.YtaodnkhpiiepiaaLx6
import Derived.Test.YtaodnkhpiiepiaaLx7
namespace Go.Proofs.Ytaodnkhpiiepiaa.L
open Go Go.RowKit Go.Proofs.YtaodnkhpiiepiaaW.PrintWords Go.Proofs.YtaodnkhpiiepiaaW.PrintLast Go.Proofs.YtaodnkhpiiepiaaG
set_option linter.unusedVariables false
set_option linter.unusedSimpArgs false

def none4 (e : Int) : Int × Int × ByteArray × Int := (0, 0, ⟨#[]⟩, e)
/-- A value's truth (0, 1 unknown, 2), and what is wrong with it. -/
def tr (v : S24) : Int × Int := if good v = true then (if v.f0 = 0 then (1, 0) else if v.f0 = 1 then (if v.f1 = 0 then (0, 0) else (2, 0)) else (0, 4)) else (0, 1)
theorem truth_eq (v : S24) : logic_truth.f v.f0 v.f1 v.f2 = some (tr v) := by
  unfold logic_truth.f tr
  rw [good_eq]
  have ev : (⟨v.f0, v.f1, v.f2⟩ : S24) = v := rfl
  rw [ev]
  cases good v
  · rfl
  · show (if true = true then (if v.f0 = 0 then (some ((1 : Int), (0 : Int))) else (if v.f0 = 1 then (if v.f1 = 0 then (some (0, 0)) else (some (2, 0))) else (some (0, 4)))) else (some (0, 1))) = _
    by_cases h0 : v.f0 = 0
    · simp [h0]
    by_cases h1 : v.f0 = 1
    · by_cases h2 : v.f1 = 0 <;> simp [h1, h2]
    simp [h0, h1]
/-- The page's own telling of it. -/
def rtr (v : S24) : Int := if v.f0 = 0 then 2 else if v.f0 = 1 then (if v.f1 = 0 then 0 else 1) else -1
theorem rtruth_eq (v : S24) : cadastreref2_Truth.f v.f0 v.f1 v.f2 = some (rtr v) := by
  unfold cadastreref2_Truth.f rtr
  by_cases h0 : v.f0 = 0
  · simp [h0]
  by_cases h1 : v.f0 = 1
  · by_cases h2 : v.f1 = 0 <;> simp [h1, h2]
  simp [h0, h1]
theorem tr_bad {v : S24} (h : ¬ good v = true) : tr v = (0, 1) := by unfold tr; rw [if_neg h]
theorem tr_cases {v : S24} (h : good v = true) : (tr v = (0, 0) ∧ rtr v = 0) ∨ (tr v = (1, 0) ∧ rtr v = 2) ∨ (tr v = (2, 0) ∧ rtr v = 1) ∨ (tr v = (0, 4) ∧ rtr v = -1) := by
  unfold tr rtr
  rw [if_pos h]
  by_cases h0 : v.f0 = 0
  · simp [h0]
  by_cases h1 : v.f0 = 1
  · by_cases h2 : v.f1 = 0 <;> simp [h1, h2]
  simp [h0, h1]
def ansV (t : Int) : Int × Int × ByteArray × Int := if t = 0 then (1, 0, ⟨#[]⟩, 0) else if t = 1 then (0, 0, ⟨#[]⟩, 0) else (1, 1, ⟨#[]⟩, 0)
theorem ans_eq {t : Int} (h : t = 0 ∨ t = 1 ∨ t = 2) : logic_answer.f t = some ((ansV t).1, (ansV t).2.1, (ansV t).2.2.1) := by
  rcases h with h | h | h <;> subst h <;> rfl
theorem is_same (q : Int × Int × ByteArray × Int) : cadastrelaw3_is.f q.1 q.2.1 q.2.2.1 q.2.2.2 q.1 q.2.1 q.2.2.1 q.2.2.2 = some true := by
  unfold cadastrelaw3_is.f cadastrelaw3_num.f
  simp

/-! ### and, or -/
def joinR (op : Int) (a b : S24) : Int × Int × ByteArray × Int := if (tr a).2 = 0 ∧ (tr b).2 = 0 then ansV (if op = 21 then mn (tr a).1 (tr b).1 else mx (tr a).1 (tr b).1) else none4 4
def joinA (op : Int) (a b : S24) : Int × Int × ByteArray × Int := if good a = true ∧ good b = true then joinR op a b else none4 1
theorem join_ev (op : Int) (ho : op = 21 ∨ op = 22) (a b : S24) : Ev (fun k => logic_Join.f k op a.f0 a.f1 a.f2 b.f0 b.f1 b.f2) (joinA op a b) := by
  have main : Ev (fun k => logic_Join.j0 k op (!(good a && good b)) a.f0 a.f1 a.f2 b.f0 b.f1 b.f2) (joinA op a b) := by
    refine Ev.step (fun k => by rw [logic_Join.j0]) ?_
    by_cases hg : good a = true ∧ good b = true
    case neg =>
      refine Ev.ifp (by cases h1 : good a <;> cases h2 : good b <;> simp_all) (Ev.ret ?_)
      unfold joinA; rw [if_neg hg]; rfl
    refine Ev.ifn (by rw [hg.1, hg.2]; decide) (Ev.const (truth_eq a) ?_)
    unfold joinA; refine Ev.cast (if_pos hg).symm ?_
    unfold joinR
    rcases tr_cases hg.1 with ⟨ha, _⟩ | ⟨ha, _⟩ | ⟨ha, _⟩ | ⟨ha, _⟩ <;> rw [ha]
    case inr.inr.inr => exact Ev.ifn (by decide) (Ev.ret rfl)
    all_goals
      refine Ev.ifp rfl (Ev.const (truth_eq b) ?_)
      rcases tr_cases hg.2 with ⟨hb, _⟩ | ⟨hb, _⟩ | ⟨hb, _⟩ | ⟨hb, _⟩ <;> rw [hb]
      case inr.inr.inr => exact Ev.ifn (by decide) (Ev.ret rfl)
      all_goals
        refine Ev.ifp rfl ?_
        rcases ho with h | h <;> subst h
        · exact Ev.ifp rfl (Ev.const rfl (Ev.ret rfl))
        · exact Ev.ifn (by decide) (Ev.const rfl (Ev.ret rfl))
  refine Ev.congr (fun k => by rw [logic_Join.f]) ?_
  rcases ho with h | h
  · exact Ev.ifp h (Ev.bind (all_two a b) main)
  · exact Ev.ifn (by omega) (Ev.ifp h (Ev.bind (all_two a b) main))
theorem rjoin_ev (op : Int) (ho : op = 21 ∨ op = 22) (a b : S24) (hg : good a = true ∧ good b = true) : Ev (fun k => cadastreref2_Join.f k op a.f0 a.f1 a.f2 b.f0 b.f1 b.f2) (joinR op a b) := by
  refine Ev.congr (fun k => by rw [cadastreref2_Join.f]) ?_
  refine Ev.const (rtruth_eq a) (Ev.const (rtruth_eq b) ?_)
  have bad : ∀ x y, Ev (fun k => cadastreref2_Join.j0 k op x y true) (none4 4) := fun x y => by
    refine Ev.step (fun k => by rw [cadastreref2_Join.j0]) ?_
    exact Ev.ifp rfl (Ev.ret rfl)
  unfold joinR
  rcases tr_cases hg.1 with ⟨ha, ra⟩ | ⟨ha, ra⟩ | ⟨ha, ra⟩ | ⟨ha, ra⟩ <;> rw [ha, ra]
  case inr.inr.inr => exact Ev.ifp (by decide) (bad _ _)
  all_goals
    refine Ev.ifn (by decide) ?_
    rcases tr_cases hg.2 with ⟨hb, rb⟩ | ⟨hb, rb⟩ | ⟨hb, rb⟩ | ⟨hb, rb⟩ <;> rw [hb, rb]
    case inr.inr.inr => exact bad _ _
    all_goals
      refine Ev.step (fun k => by rw [cadastreref2_Join.j0]) ?_
      refine Ev.ifn (by decide) ?_
      rcases ho with h | h <;> subst h <;> first | (refine Ev.ifp rfl ?_) | (refine Ev.ifn (by decide) ?_)
      all_goals
        refine Ev.step (fun k => by rw [cadastreref2_Join.j1]) ?_
        first | (refine Ev.ifp rfl ?_) | (refine Ev.ifn (by decide) ?_)
        refine Ev.step (fun k => by rw [cadastreref2_Join.j2]) ?_
        first
          | exact Ev.ifp rfl (Ev.const rfl (Ev.ret rfl))
          | exact Ev.ifn (by decide) (Ev.ifp rfl (Ev.ret rfl))
          | exact Ev.ifn (by decide) (Ev.ifn (by decide) (Ev.ifp rfl (Ev.ret rfl)))
          | exact Ev.ifn (by decide) (Ev.ifn (by decide) (Ev.ifn (by decide) (Ev.const (r := (1, 0, ⟨#[]⟩)) (by rw [w64 (by decide) (by decide)]; rfl) (Ev.ret rfl))))
          | exact Ev.ifn (by decide) (Ev.ifn (by decide) (Ev.ifn (by decide) (Ev.const (r := (1, 1, ⟨#[]⟩)) (by rw [w64 (by decide) (by decide)]; rfl) (Ev.ret rfl))))
theorem wakes3_ev : Ev (fun k => cadastrelaw3_wakes.f k) true := by
  refine Ev.congr (fun k => by rw [cadastrelaw3_wakes.f]) ?_
  refine Ev.bind (join_ev 21 (.inl rfl) ⟨0, 0, ⟨#[]⟩⟩ ⟨1, 0, ⟨#[]⟩⟩) ?_
  rw [show joinA 21 ⟨0, 0, ⟨#[]⟩⟩ ⟨1, 0, ⟨#[]⟩⟩ = (1, 0, ⟨#[]⟩, 0) by rfl]
  refine Ev.const rfl (Ev.ifp rfl (Ev.ret ?_))
  rw [by_toList, size_nil (s := (⟨#[]⟩ : ByteArray)) rfl]; rfl

/-! ### not -/
def notR (a : S24) : Int × Int × ByteArray × Int := if (tr a).2 = 0 then ansV (2 - (tr a).1) else none4 (tr a).2
theorem not_eq (a : S24) : logic_Not.f a.f0 a.f1 a.f2 = some (notR a) := by
  unfold logic_Not.f notR
  rw [truth_eq]
  by_cases hg : good a = true
  case neg => rw [tr_bad hg]; rfl
  rcases tr_cases hg with ⟨ha, _⟩ | ⟨ha, _⟩ | ⟨ha, _⟩ | ⟨ha, _⟩ <;> rw [ha]
  · show (logic_answer.f (wrap64 (2 - 0))).bind _ = _; rw [w64 (by decide) (by decide)]; rfl
  · show (logic_answer.f (wrap64 (2 - 1))).bind _ = _; rw [w64 (by decide) (by decide)]; rfl
  · show (logic_answer.f (wrap64 (2 - 2))).bind _ = _; rw [w64 (by decide) (by decide)]; rfl
  · rfl
theorem rnot_eq (a : S24) (hg : good a = true) : cadastreref2_Not.f a.f0 a.f1 a.f2 = some (notR a) := by
  unfold cadastreref2_Not.f notR
  rw [rtruth_eq]
  rcases tr_cases hg with ⟨ha, ra⟩ | ⟨ha, ra⟩ | ⟨ha, ra⟩ | ⟨ha, ra⟩ <;> rw [ha, ra]
  · show (cadastreref2_told.f (wrap64 (1 - 0))).bind _ = _; rw [w64 (by decide) (by decide)]; rfl
  · rfl
  · show (cadastreref2_told.f (wrap64 (1 - 1))).bind _ = _; rw [w64 (by decide) (by decide)]; rfl
  · rfl
theorem true_eq (a : S24) : logic_True.f a.f0 a.f1 a.f2 = some (if (tr a).2 = 0 then ((tr a).1 == 2, (tr a).2) else (false, (tr a).2)) := by
  unfold logic_True.f
  rw [truth_eq]
  show (if (tr a).2 = 0 then _ else _) = _
  by_cases h : (tr a).2 = 0
  · rw [if_pos h, if_pos h]
  · rw [if_neg h, if_neg h]

/-! ### tests -/
def holds (op c : Int) : Bool := if op = 15 then c == 0 else if op = 16 then c != 0 else if op = 17 then decide (c < 0) else if op = 18 then decide (c ≤ 0) else if op = 19 then decide (c > 0) else decide (c ≥ 0)
def sayV (b : Bool) : Int × Int × ByteArray × Int := if b = true then (1, 1, ⟨#[]⟩, 0) else (1, 0, ⟨#[]⟩, 0)
theorem said_eq (b : Bool) : logic_said.f b = some ((sayV b).1, (sayV b).2.1, (sayV b).2.2.1) := by cases b <;> rfl
theorem bool_eq (b : Bool) : cadastreref2_Bool.f b = some ((sayV b).1, (sayV b).2.1, (sayV b).2.2.1) := by cases b <;> rfl
theorem sayV_ok (b : Bool) : (sayV b).2.2.2 = 0 := by cases b <;> rfl
def testR (op : Int) (a b : S24) : Int × Int × ByteArray × Int := if a.f0 = 0 ∨ b.f0 = 0 then none4 0 else sayV (holds op (vcmp a b))
theorem testR_ok (op : Int) (a b : S24) : (testR op a b).2.2.2 = 0 := by
  unfold testR; split
  · rfl
  · exact sayV_ok _
def testA (op : Int) (a b : S24) : Int × Int × ByteArray × Int := if good a = true ∧ good b = true then testR op a b else none4 1
theorem six {op : Int} (h : 15 ≤ op ∧ op ≤ 20) : op = 15 ∨ op = 16 ∨ op = 17 ∨ op = 18 ∨ op = 19 ∨ op = 20 := by omega
theorem test_ev (op : Int) (ho : 15 ≤ op ∧ op ≤ 20) (a b : S24) (ha : a.f2.size ≤ 140737488351232) (hb : b.f2.size ≤ 140737488351232) : Ev (fun k => logic_Test.f k op a.f0 a.f1 a.f2 b.f0 b.f1 b.f2) (testA op a b) := by
  refine Ev.congr (fun k => by rw [logic_Test.f]) ?_
  refine Ev.ifn (by omega) (Ev.ifn (by omega) (Ev.bind (all_two a b) ?_))
  refine Ev.step (fun k => by rw [logic_Test.j0]) ?_
  by_cases hg : good a = true ∧ good b = true
  case neg =>
    refine Ev.ifp (by cases h1 : good a <;> cases h2 : good b <;> simp_all) (Ev.ret ?_)
    unfold testA; rw [if_neg hg]; rfl
  unfold testA; refine Ev.cast (if_pos hg).symm ?_
  unfold testR
  refine Ev.ifn (by rw [hg.1, hg.2]; decide) ?_
  by_cases hz : a.f0 = 0 ∨ b.f0 = 0
  · refine Ev.cast (if_pos hz).symm ?_
    have tl : Ev (fun k => logic_Test.j1 k op true a.f0 a.f1 a.f2 b.f0 b.f1 b.f2) (none4 0) := by
      refine Ev.step (fun k => by rw [logic_Test.j1]) ?_
      exact Ev.ifp rfl (Ev.ret rfl)
    by_cases h : a.f0 = 0
    · exact Ev.ifp h tl
    · refine Ev.ifn h ?_
      rw [show (b.f0 == 0) = true by simp; omega]; exact tl
  refine Ev.cast (if_neg hz).symm ?_
  refine Ev.ifn (fun h => hz (.inl h)) ?_
  rw [show (b.f0 == 0) = false by simp; omega]
  refine Ev.step (fun k => by rw [logic_Test.j1]) ?_
  refine Ev.ifn (by decide) (Ev.bind (order_ev a b ha hb) ?_)
  have fin : ∀ t : Bool, t = holds op (vcmp a b) → Ev (fun k => (logic_said.f t).bind fun bt => (some (bt.1, bt.2.1, bt.2.2, (0 : Int)))) (sayV (holds op (vcmp a b))) := fun t ht => by
    subst ht
    refine Ev.const (said_eq _) (Ev.ret ?_)
    rw [← sayV_ok (holds op (vcmp a b))]
  rcases six ho with h | h | h | h | h | h <;> subst h
  · exact Ev.ifp rfl (fin _ rfl)
  · exact Ev.ifn (by decide) (Ev.ifp rfl (fin _ rfl))
  · exact Ev.ifn (by decide) (Ev.ifn (by decide) (Ev.ifp rfl (fin _ rfl)))
  · exact Ev.ifn (by decide) (Ev.ifn (by decide) (Ev.ifn (by decide) (Ev.ifp rfl (fin _ rfl))))
  · exact Ev.ifn (by decide) (Ev.ifn (by decide) (Ev.ifn (by decide) (Ev.ifn (by decide) (Ev.ifp rfl (fin _ rfl)))))
  · exact Ev.ifn (by decide) (Ev.ifn (by decide) (Ev.ifn (by decide) (Ev.ifn (by decide) (Ev.ifn (by decide) (fin _ rfl)))))
theorem rtest_ev (op : Int) (ho : 15 ≤ op ∧ op ≤ 20) (a b : S24) (hg : good a = true ∧ good b = true) : Ev (fun k => cadastreref2_Test.f k op a.f0 a.f1 a.f2 b.f0 b.f1 b.f2) ((testR op a b).1, (testR op a b).2.1, (testR op a b).2.2.1) := by
  refine Ev.congr (fun k => by rw [cadastreref2_Test.f]) ?_
  unfold testR
  by_cases hz : a.f0 = 0 ∨ b.f0 = 0
  · rw [if_pos (c := a.f0 = 0 ∨ b.f0 = 0) hz]
    have tl : Ev (fun k => cadastreref2_Test.j0 k op true a.f0 a.f1 a.f2 b.f0 b.f1 b.f2) ((none4 0).1, (none4 0).2.1, (none4 0).2.2.1) := by
      refine Ev.step (fun k => by rw [cadastreref2_Test.j0]) ?_
      exact Ev.ifp rfl (Ev.ret rfl)
    by_cases h : a.f0 = 0
    · exact Ev.ifp h tl
    · refine Ev.ifn h ?_
      rw [show (b.f0 == 0) = true by simp; omega]; exact tl
  rw [if_neg (c := a.f0 = 0 ∨ b.f0 = 0) hz]
  refine Ev.ifn (fun h => hz (.inl h)) ?_
  rw [show (b.f0 == 0) = false by simp; omega]
  refine Ev.step (fun k => by rw [cadastreref2_Test.j0]) ?_
  refine Ev.ifn (by decide) (Ev.bind (rcmp_ev a b hg.1 hg.2) ?_)
  have fin : ∀ t : Bool, t = holds op (vcmp a b) → Ev (fun k => (cadastreref2_Bool.f t).bind fun bt => (some (bt.1, bt.2.1, bt.2.2))) ((sayV (holds op (vcmp a b))).1, (sayV (holds op (vcmp a b))).2.1, (sayV (holds op (vcmp a b))).2.2.1) := fun t ht => by
    subst ht
    exact Ev.const (bool_eq _) (Ev.ret rfl)
  rcases six ho with h | h | h | h | h | h <;> subst h
  · exact Ev.ifp rfl (fin _ rfl)
  · exact Ev.ifn (by decide) (Ev.ifp rfl (fin _ rfl))
  · exact Ev.ifn (by decide) (Ev.ifn (by decide) (Ev.ifp rfl (fin _ rfl)))
  · exact Ev.ifn (by decide) (Ev.ifn (by decide) (Ev.ifn (by decide) (Ev.ifp rfl (fin _ rfl))))
  · exact Ev.ifn (by decide) (Ev.ifn (by decide) (Ev.ifn (by decide) (Ev.ifn (by decide) (Ev.ifp rfl (fin _ rfl)))))
  · exact Ev.ifn (by decide) (Ev.ifn (by decide) (Ev.ifn (by decide) (Ev.ifn (by decide) (Ev.ifn (by decide) (fin _ rfl)))))
end Go.Proofs.Ytaodnkhpiiepiaa.L
