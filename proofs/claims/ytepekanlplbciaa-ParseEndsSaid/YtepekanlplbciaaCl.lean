/-
  What a row's closed facts say of the call graph, from a table of the calls: small steps in place of one great one.
-/
import Derived.JoinedOf
import Derived.ProofKit
namespace Go.Proofs.YtepekanlplbciaaG
open Go

theorem and_both {a b : Bool} (ha : a = true) (hb : b = true) : (a && b) = true := by rw [ha, hb]; rfl
def lead (P : Program) (g : FuncId) : List FuncId := (P.funcs[g]?).elim [] P.leadsTo
def lk : List (Nat × List Nat) → Nat → Option (List Nat)
  | [], _ => none
  | (i, L) :: T, j => bif i == j then some L else lk T j
def GoodT (P : Program) : List (Nat × List Nat) → Prop
  | [] => True
  | p :: T => lead P p.1 = p.2 ∧ GoodT P T
theorem lk_good {P : Program} : ∀ {T : List (Nat × List Nat)} {j : Nat} {L : List Nat}, GoodT P T → lk T j = some L → lead P j = L
  | [], _, _, _, h => by cases h
  | (i, M) :: T, j, L, g, h => by
    unfold lk at h
    cases e : (i == j) with
    | true =>
      rw [e] at h; simp only [cond_true, Option.some.injEq] at h
      rw [beq_iff_eq] at e; subst e; subst h; exact g.1
    | false => rw [e] at h; exact lk_good g.2 h
def runT (T : List (Nat × List Nat)) : Nat → List Nat → List Nat → Option (List Nat)
  | _, [], seen => some seen.reverse
  | 0, _ :: _, _ => none
  | n + 1, f :: todo, seen => bif seen.contains f then runT T n todo seen else match lk T f with
    | none => none
    | some L => runT T n (L ++ todo) (f :: seen)
theorem runT_ok {P : Program} {T : List (Nat × List Nat)} (hT : GoodT P T) : ∀ (n m : Nat) (todo seen R : List Nat), n ≤ m → runT T n todo seen = some R → P.closureVia m todo seen = R
  | n, 0, [], seen, R, _, h => by
    have : some seen.reverse = some R := by cases n <;> exact h
    simp only [Option.some.injEq] at this; rw [Program.closureVia]; exact this
  | n, m + 1, [], seen, R, _, h => by
    have : some seen.reverse = some R := by cases n <;> exact h
    simp only [Option.some.injEq] at this; rw [Program.closureVia]; · exact this
    · intro h; cases h
  | 0, m, f :: todo, seen, R, _, h => by cases h
  | n + 1, 0, f :: todo, seen, R, hl, h => by omega
  | n + 1, m + 1, f :: todo, seen, R, hl, h => by
    unfold runT at h
    rw [Program.closureVia]
    cases e : seen.contains f with
    | true => rw [e] at h; rw [if_pos rfl]; exact runT_ok hT n m todo seen R (by omega) h
    | false =>
      rw [e] at h; rw [if_neg (by decide)]
      simp only [cond_false] at h
      cases e2 : lk T f with
      | none => rw [e2] at h; cases h
      | some L =>
        rw [e2] at h
        have := lk_good hT e2
        unfold lead at this
        rw [this]
        exact runT_ok hT n m (L ++ todo) (f :: seen) R (by omega) h
theorem sum_le {α : Type} (f g : α → Nat) : ∀ l : List α, (∀ x ∈ l, f x ≤ g x) → (l.map f).sum ≤ (l.map g).sum
  | [], _ => Nat.le_refl _
  | a :: l, h => by
    have h1 := h a (List.mem_cons_self ..)
    have h2 := sum_le f g l (fun x hx => h x (List.mem_cons_of_mem _ hx))
    simp only [List.map_cons, List.sum_cons]; omega
theorem fuel_ge {P : Program} {T : List (Nat × List Nat)} (hT : GoodT P T) {N size : Nat} (hs : P.funcs.size = size)
    (h : N ≤ 1 + ((List.range size).map fun i => ((lk T i).elim 0 List.length) + 1).sum) : N ≤ 1 + (P.funcs.toList.map fun g => (P.leadsTo g).length + 1).sum := by
  have e : (P.funcs.toList.map fun g => (P.leadsTo g).length + 1) = (List.range size).map (fun i => (P.funcs[i]?).elim 0 fun g => (P.leadsTo g).length + 1) := by
    apply List.ext_getElem
    · simp [hs]
    · intro i h1 h2
      have hi : i < P.funcs.size := by simpa using h1
      simp [hi]
  rw [e]
  refine Nat.le_trans h (Nat.add_le_add_left (sum_le _ _ _ ?_) 1)
  intro i hi
  have hi : i < P.funcs.size := by rw [hs]; exact List.mem_range.mp hi
  cases e2 : lk T i with
  | none => simp [hi]
  | some L =>
    have := lk_good hT e2
    unfold lead at this
    simp only [hi, Array.getElem?_eq_getElem, Option.elim_some] at this ⊢
    rw [this]; exact Nat.le_refl _
/-- All closures of a table, each with the functions that it reaches. -/
def runsT (T : List (Nat × List Nat)) (N : Nat) : List (Nat × List Nat) → Bool
  | [] => true
  | (f, R) :: C => (runT T N [f] [] == some R) && runsT T N C
theorem runs_ok {P : Program} {T : List (Nat × List Nat)} (hT : GoodT P T) {N size : Nat} (hs : P.funcs.size = size)
    (h : decide (N ≤ 1 + ((List.range size).map fun i => ((lk T i).elim 0 List.length) + 1).sum) = true) : ∀ (C : List (Nat × List Nat)) {f : Nat} {R : List Nat}, runsT T N C = true → lk C f = some R → P.closure f = R
  | [], _, _, _, h2 => by cases h2
  | (g, S) :: C, f, R, h1, h2 => by
    unfold runsT at h1
    simp only [Bool.and_eq_true, beq_iff_eq] at h1
    unfold lk at h2
    cases e : (g == f) with
    | true =>
      rw [e] at h2; simp only [cond_true, Option.some.injEq] at h2
      rw [beq_iff_eq] at e; subst e; subst h2
      exact runT_ok hT N _ [g] [] S (fuel_ge hT hs (of_decide_eq_true h)) h1.1
    | false => rw [e] at h2; exact runs_ok hT hs h C h1.2 h2
theorem inPlace_of {P : Program} {f : FuncId} {R : List FuncId} (h : P.closure f = R) : P.inPlace f = R.filterMap fun g => (P.funcs[g]?).bind fun fn => if fn.ours || fn.body.isNone || fn.name == "runtime.NumGoroutine" then some fn.name else none := by
  unfold Program.inPlace; rw [h]
theorem unfollowed_of {P : Program} {f : FuncId} {R : List FuncId} (h : P.closure f = R) : P.unfollowed f = R.any fun g => (P.funcs[g]?).any fun fn => match fn.body with | some c => c.unfollowed | none => entryCalls fn := by
  unfold Program.unfollowed; rw [h]; rfl
theorem varsNamed_of {P : Program} {f : FuncId} {R : List FuncId} (h : P.closure f = R) : P.varsNamed f = (((R.flatMap fun g => ((P.funcs[g]?).bind (·.body)).elim [] Code.globalsNamed).eraseDups).filterMap (fun g => (P.globals[g]?).map (·.name)) ++
   R.filterMap fun g => (P.funcs[g]?).bind fun fn => if fn.body.isNone then entryReads.lookup fn.name else none).eraseDups := by
  unfold Program.varsNamed; rw [h]
/-- No function of R is called again by what it calls. -/
def noneAgain (T C : List (Nat × List Nat)) : List Nat → Bool
  | [] => true
  | g :: R => (match lk T g with
    | none => false
    | some L => L.all fun h => match lk C h with
      | none => false
      | some S => !S.contains g) && noneAgain T C R
theorem recurses_of {P : Program} {T C : List (Nat × List Nat)} {f : FuncId} {R : List FuncId} (hT : GoodT P T) (hC : ∀ {f : Nat} {R : List Nat}, lk C f = some R → P.closure f = R) (h : P.closure f = R) (hu : P.unfollowed f = false) (hn : noneAgain T C R = true) : P.recurses f = false := by
  unfold Program.recurses
  rw [hu, h, Bool.false_or]
  have key : ∀ R : List Nat, noneAgain T C R = true → (R.any fun g => ((P.funcs[g]?).elim [] P.leadsTo).any fun h => (P.closure h).contains g) = false := by
    intro R
    induction R with
    | nil => intro _; rfl
    | cons g R ih =>
      intro hn
      unfold noneAgain at hn
      rw [Bool.and_eq_true] at hn
      rw [List.any_cons, ih hn.2, Bool.or_false]
      have h1 := hn.1
      cases e : lk T g with
      | none => rw [e] at h1; cases h1
      | some L =>
        rw [e] at h1
        have hl := lk_good hT e
        unfold lead at hl
        rw [hl, List.any_eq_false]
        intro x hx
        have h2 := List.all_eq_true.mp h1 x hx
        cases e2 : lk C x with
        | none => rw [e2] at h2; cases h2
        | some S =>
          rw [e2] at h2
          rw [hC e2]
          simpa using h2
  exact key R hn
section
variable {P : Program} {W R : List (List Char)}
theorem make_cut (h : wordsSigns P.initOrder.toList = W) (hb : behindMainWord W = "cut".toList :: R) : P.make = some .cut := by unfold Program.make; rw [h, hb]; rfl
theorem headLifts_cut (h : wordsSigns P.initOrder.toList = W) (hb : behindMainWord W = "cut".toList :: R) : P.headLifts = [] := by unfold Program.headLifts; rw [h, hb]; rfl
theorem liftsFinal_cut (h : wordsSigns P.initOrder.toList = W) (hb : behindMainWord W = "cut".toList :: R) : P.liftsFinal = false := by unfold Program.liftsFinal; rw [headLifts_cut h hb, h, hb]; rfl
theorem mayEnter_cut (h : wordsSigns P.initOrder.toList = W) (hb : behindMainWord W = "cut".toList :: R) (h1 : P.laysLater = false) (h2 : P.bearsReflect = false) (h3 : P.doorFits [] = true) : P.mayEnter = true := by
  unfold Program.mayEnter
  rw [h, hb]
  have e : stripLifts liftWords ("cut".toList :: R) = ([], "cut".toList :: R) := by rfl
  simp only [e, h1, h2, h3]
  rfl
end
end Go.Proofs.YtepekanlplbciaaG
