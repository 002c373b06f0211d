/- Layer 7: rows of values: what the printed functions come to. -/
import Derived.Test.YtaodnkhpiiepiaaKLVal
import Derived.Test.YtaodnkhpiiepiaaKOk
import Derived.Test.YtaodnkhpiiepiaaKx0
import Derived.Test.YtaodnkhpiiepiaaKx2
import Derived.Test.YtaodnkhpiiepiaaKx3
import Derived.Test.YtaodnkhpiiepiaaKx4
import Derived.Test.YtaodnkhpiiepiaaKx5
import Derived.Test.YtaodnkhpiiepiaaKx6
namespace Go.Proofs.Ytaodnkhpiiepiaa.K
open Go Go.RowKit Go.Proofs.YtaodnkhpiiepiaaW.PrintWords Go.Proofs.YtaodnkhpiiepiaaW.PrintLast Go.Proofs.YtaodnkhpiiepiaaG
set_option linter.unusedVariables false
set_option linter.unusedSimpArgs false

/-- How two rows of values stand to each other. -/
def kcmp : List S24 → List S24 → Int
  | [], [] => 0
  | [], _ :: _ => -1
  | _ :: _, [] => 1
  | a :: x, b :: y => if vcmp a b = 0 then kcmp x y else vcmp a b
theorem rdT (l : List S24) (i : Nat) (h : i < l.length) : rd_T24 l i = l[i] := by unfold rd_T24; simp [h]
theorem good_size {v : S24} (h : good v = true) : v.f2.size ≤ 140737488351232 := by
  rcases good_says h with ⟨_, _, z⟩ | ⟨_, z⟩ | ⟨_, _, z⟩ <;> omega
theorem kcmp_refl : ∀ x, kcmp x x = 0
  | [] => rfl
  | a :: x => by unfold kcmp; rw [vcmp_refl, if_pos rfl]; exact kcmp_refl x
theorem kcmp_neg : ∀ x y, kcmp y x = - kcmp x y
  | [], [] => rfl
  | [], _ :: _ => rfl
  | _ :: _, [] => rfl
  | a :: x, b :: y => by
    unfold kcmp
    rw [vcmp_neg a b]
    by_cases h : vcmp a b = 0
    · rw [if_pos h, if_pos (by omega)]; exact kcmp_neg x y
    · rw [if_neg h, if_neg (by omega)]
theorem kcmp_cases : ∀ x y, kcmp x y = -1 ∨ kcmp x y = 0 ∨ kcmp x y = 1
  | [], [] => .inr (.inl rfl)
  | [], _ :: _ => .inl rfl
  | _ :: _, [] => .inr (.inr rfl)
  | a :: x, b :: y => by
    unfold kcmp
    by_cases h : vcmp a b = 0
    · rw [if_pos h]; exact kcmp_cases x y
    · rw [if_neg h]; exact vcmp_cases a b
theorem kcmp_eq : ∀ x y, x.all good = true → y.all good = true → kcmp x y = 0 → x = y
  | [], [], _, _, _ => rfl
  | [], _ :: _, _, _, h => by simp [kcmp] at h
  | _ :: _, [], _, _, h => by simp [kcmp] at h
  | a :: x, b :: y, hx, hy, h => by
    rw [List.all_cons, Bool.and_eq_true] at hx hy
    unfold kcmp at h
    by_cases h0 : vcmp a b = 0
    · rw [if_pos h0] at h
      rw [vcmp_eq hx.1 hy.1 h0, kcmp_eq x y hx.2 hy.2 h]
    · rw [if_neg h0] at h; contradiction
theorem kcmp_behind : ∀ x r, kcmp (x ++ r) x = if r = [] then 0 else 1
  | [], [] => rfl
  | [], _ :: _ => rfl
  | a :: x, r => by
    show (if vcmp a a = 0 then kcmp (x ++ r) x else vcmp a a) = _
    rw [vcmp_refl, if_pos rfl]; exact kcmp_behind x r

theorem korder_loop {a b : List S24} (hna : a.length ≤ 9223372036854775806) (hga : a.all good = true) (hgb : b.all good = true) : ∀ (d i : Nat), i + d = a.length → i ≤ b.length →
    Ev (fun k => keys_Order.l0 k a b i) (kcmp (a.drop i) (b.drop i)) := by
  have tail : ∀ i : Nat, i ≤ a.length → i ≤ b.length → (i = a.length ∨ i = b.length) → Ev (fun k => keys_Order.j1 k a b i false) (kcmp (a.drop i) (b.drop i)) := by
    intro i h1 h2 h3
    refine Ev.step (fun k => by rw [keys_Order.j1]) ?_
    refine Ev.ifn (by decide) ?_
    rcases Nat.lt_trichotomy a.length b.length with h | h | h
    · have : i = a.length := by omega
      rw [show a.drop i = [] from List.drop_eq_nil_of_le (by omega), List.drop_eq_getElem_cons (l := b) (i := i) (by omega)]
      exact Ev.ifp (by omega) (Ev.ret rfl)
    · rw [show a.drop i = [] from List.drop_eq_nil_of_le (by omega), show b.drop i = [] from List.drop_eq_nil_of_le (by omega)]
      exact Ev.ifn (by omega) (Ev.ifn (by omega) (Ev.ret rfl))
    · have : i = b.length := by omega
      rw [show b.drop i = [] from List.drop_eq_nil_of_le (by omega), List.drop_eq_getElem_cons (l := a) (i := i) (by omega)]
      exact Ev.ifn (by omega) (Ev.ifp (by omega) (Ev.ret rfl))
  intro d
  induction d with
  | zero =>
    intro i h1 h2
    refine Ev.step (fun k => by rw [keys_Order.l0]) ?_
    exact Ev.ifn (by omega) (tail i (by omega) h2 (.inl (by omega)))
  | succ d ih =>
    intro i h1 h2
    refine Ev.step (fun k => by rw [keys_Order.l0]) ?_
    refine Ev.ifp (by omega) ?_
    by_cases hb' : (i : Int) < (b.length : Int)
    case neg =>
      rw [decide_eq_false hb']
      exact tail i (by omega) h2 (.inr (by omega))
    rw [decide_eq_true hb']
    refine Ev.step (fun k => by rw [keys_Order.j1]) ?_
    refine Ev.ifp rfl (Ev.ifp (by omega) (Ev.ifp (by omega) (Ev.ifp (by omega) ?_)))
    have e1 : wrap64 ((i : Int) + 1) = ((i + 1 : Nat) : Int) := by rw [w64 (by omega) (by omega)]; omega
    have hai : i < a.length := by omega
    have hbi : i < b.length := by omega
    rw [rdT a i hai, rdT b i hbi, e1, List.drop_eq_getElem_cons hai, List.drop_eq_getElem_cons hbi]
    have g1 := List.all_eq_true.mp hga _ (List.getElem_mem hai)
    have g2 := List.all_eq_true.mp hgb _ (List.getElem_mem hbi)
    refine Ev.bind (order_ev a[i] b[i] (good_size g1) (good_size g2)) ?_
    unfold kcmp
    by_cases h : vcmp a[i] b[i] = 0
    · refine Ev.cast (if_pos h).symm ?_
      exact Ev.ifp h (ih (i + 1) (by omega) (by omega))
    · refine Ev.cast (if_neg h).symm ?_
      exact Ev.ifn h (Ev.ret rfl)
theorem korder_ev {a b : List S24} (hna : a.length ≤ 9223372036854775806) (hga : a.all good = true) (hgb : b.all good = true) : Ev (fun k => keys_Order.f k a b) (kcmp a b) := by
  refine Ev.congr (fun k => by rw [keys_Order.f]) ?_
  have := korder_loop hna hga hgb a.length 0 (by omega) (by omega)
  simpa using this
theorem rkeys_loop {a b : List S24} (hna : a.length ≤ 9223372036854775806) (hga : a.all good = true) (hgb : b.all good = true) : ∀ (d i : Nat), i + d = a.length → i ≤ b.length →
    Ev (fun k => cadastreref2_CmpKeys.l0 k a b i) (kcmp (a.drop i) (b.drop i)) := by
  have tail : ∀ i : Nat, i ≤ a.length → i ≤ b.length → (i = a.length ∨ i = b.length) → Ev (fun k => cadastreref2_CmpKeys.j1 k a b i false) (kcmp (a.drop i) (b.drop i)) := by
    intro i h1 h2 h3
    refine Ev.step (fun k => by rw [cadastreref2_CmpKeys.j1]) ?_
    refine Ev.ifn (by decide) ?_
    rcases Nat.lt_trichotomy a.length b.length with h | h | h
    · have : i = a.length := by omega
      rw [show a.drop i = [] from List.drop_eq_nil_of_le (by omega), List.drop_eq_getElem_cons (l := b) (i := i) (by omega)]
      exact Ev.ifp (by omega) (Ev.ret rfl)
    · rw [show a.drop i = [] from List.drop_eq_nil_of_le (by omega), show b.drop i = [] from List.drop_eq_nil_of_le (by omega)]
      exact Ev.ifn (by omega) (Ev.ifn (by omega) (Ev.ret rfl))
    · have : i = b.length := by omega
      rw [show b.drop i = [] from List.drop_eq_nil_of_le (by omega), List.drop_eq_getElem_cons (l := a) (i := i) (by omega)]
      exact Ev.ifn (by omega) (Ev.ifp (by omega) (Ev.ret rfl))
  intro d
  induction d with
  | zero =>
    intro i h1 h2
    refine Ev.step (fun k => by rw [cadastreref2_CmpKeys.l0]) ?_
    exact Ev.ifn (by omega) (tail i (by omega) h2 (.inl (by omega)))
  | succ d ih =>
    intro i h1 h2
    refine Ev.step (fun k => by rw [cadastreref2_CmpKeys.l0]) ?_
    refine Ev.ifp (by omega) ?_
    by_cases hb' : (i : Int) < (b.length : Int)
    case neg =>
      rw [decide_eq_false hb']
      exact tail i (by omega) h2 (.inr (by omega))
    rw [decide_eq_true hb']
    refine Ev.step (fun k => by rw [cadastreref2_CmpKeys.j1]) ?_
    refine Ev.ifp rfl (Ev.ifp (by omega) (Ev.ifp (by omega) (Ev.ifp (by omega) ?_)))
    have e1 : wrap64 ((i : Int) + 1) = ((i + 1 : Nat) : Int) := by rw [w64 (by omega) (by omega)]; omega
    have hai : i < a.length := by omega
    have hbi : i < b.length := by omega
    rw [rdT a i hai, rdT b i hbi, e1, List.drop_eq_getElem_cons hai, List.drop_eq_getElem_cons hbi]
    have g1 := List.all_eq_true.mp hga _ (List.getElem_mem hai)
    have g2 := List.all_eq_true.mp hgb _ (List.getElem_mem hbi)
    refine Ev.bind (rcmp_ev a[i] b[i] g1 g2) ?_
    unfold kcmp
    by_cases h : vcmp a[i] b[i] = 0
    · refine Ev.cast (if_pos h).symm ?_
      exact Ev.ifp h (ih (i + 1) (by omega) (by omega))
    · refine Ev.cast (if_neg h).symm ?_
      exact Ev.ifn h (Ev.ret rfl)
theorem rkeys_ev {a b : List S24} (hna : a.length ≤ 9223372036854775806) (hga : a.all good = true) (hgb : b.all good = true) : Ev (fun k => cadastreref2_CmpKeys.f k a b) (kcmp a b) := by
  refine Ev.congr (fun k => by rw [cadastreref2_CmpKeys.f]) ?_
  have := rkeys_loop hna hga hgb a.length 0 (by omega) (by omega)
  simpa using this

theorem rall_loop (l : List S24) (hn : l.length ≤ 9223372036854775806) : ∀ (d i : Nat), i + d = l.length → Ev (fun k => cadastreref2_All.l0 k l i) ((l.drop i).all good)
  | 0, i, h => by
    refine Ev.step (fun k => by rw [cadastreref2_All.l0]) ?_
    refine Ev.ifn (by omega) (Ev.ret ?_)
    rw [List.drop_eq_nil_of_le (by omega)]; rfl
  | d + 1, i, h => by
    have hi : i < l.length := by omega
    refine Ev.step (fun k => by rw [cadastreref2_All.l0]) ?_
    refine Ev.ifp (by omega) (Ev.ifp (by omega) ?_)
    have e1 : wrap64 ((i : Int) + 1) = ((i + 1 : Nat) : Int) := by rw [w64 (by omega) (by omega)]; omega
    rw [e1, rdT l i hi, List.drop_eq_getElem_cons hi, List.all_cons]
    refine Ev.const (may_eq _ _ _) ?_
    have eg : (⟨l[i].f0, l[i].f1, l[i].f2⟩ : S24) = l[i] := rfl
    rw [eg]
    cases hg : good l[i]
    · exact Ev.ifn (by decide) (Ev.ret (by simp))
    · refine Ev.ifp rfl ?_
      rw [Bool.true_and]
      exact rall_loop l hn d (i + 1) (by omega)
theorem rall_ev (l : List S24) (hn : l.length ≤ 9223372036854775806) : Ev (fun k => cadastreref2_All.f k l) (l.all good) := by
  refine Ev.congr (fun k => by rw [cadastreref2_All.f]) ?_
  have := rall_loop l hn l.length 0 (by omega)
  simpa using this

/-- What is wrong with two keys. -/
def bothR (a b : List S24) : Int := if a.all good = true ∧ b.all good = true then (if a.length ≤ 17 ∧ b.length ≤ 17 then 0 else 7) else 1
theorem bothR_ok {a b : List S24} : bothR a b = 0 ↔ (a.all good = true ∧ b.all good = true) ∧ a.length ≤ 17 ∧ b.length ≤ 17 := by
  unfold bothR
  by_cases h : a.all good = true ∧ b.all good = true
  · rw [if_pos h]
    by_cases h2 : a.length ≤ 17 ∧ b.length ≤ 17
    · rw [if_pos h2]; exact ⟨fun _ => ⟨h, h2⟩, fun _ => rfl⟩
    · rw [if_neg h2]; exact ⟨fun q => absurd q (by decide), fun q => absurd q.2 h2⟩
  · rw [if_neg h]; exact ⟨fun q => absurd q (by decide), fun q => absurd q.1 h⟩
theorem both_ev {a b : List S24} (ha : a.length ≤ 9223372036854775806) (hb : b.length ≤ 9223372036854775806) : Ev (fun k => cadastrelaw7_both.f k a b) (bothR a b) := by
  refine Ev.congr (fun k => by rw [cadastrelaw7_both.f]) ?_
  have bad : ¬ (a.all good = true ∧ b.all good = true) → Ev (fun k => cadastrelaw7_both.j0 k a b true) (bothR a b) := fun h => by
    unfold bothR; refine Ev.cast (if_neg h).symm ?_
    refine Ev.step (fun k => by rw [cadastrelaw7_both.j0]) ?_
    exact Ev.ifp rfl (Ev.ret rfl)
  refine Ev.bind (rall_ev a ha) ?_
  by_cases h1 : a.all good = true
  case neg => exact Ev.ifn h1 (bad (fun h => h1 h.1))
  refine Ev.ifp h1 (Ev.bind (rall_ev b hb) ?_)
  by_cases h2 : b.all good = true
  case neg => rw [Bool.eq_false_iff.mpr h2]; exact bad (fun h => h2 h.2)
  rw [h2]
  unfold bothR; refine Ev.cast (if_pos ⟨h1, h2⟩).symm ?_
  refine Ev.step (fun k => by rw [cadastrelaw7_both.j0]) ?_
  refine Ev.ifn (by decide) ?_
  by_cases l1 : (a.length : Int) > 17
  · rw [if_neg (c := a.length ≤ 17 ∧ b.length ≤ 17) (by omega)]; exact Ev.ifp l1 (Ev.ret rfl)
  refine Ev.ifn l1 ?_
  by_cases l2 : (b.length : Int) > 17
  · rw [if_neg (c := a.length ≤ 17 ∧ b.length ≤ 17) (by omega)]; exact Ev.ifp l2 (Ev.ret rfl)
  · rw [if_pos (c := a.length ≤ 17 ∧ b.length ≤ 17) (by omega)]; exact Ev.ifn l2 (Ev.ret rfl)
theorem check_ev {a b : List S24} (ha : a.length ≤ 9223372036854775806) (hb : b.length ≤ 9223372036854775806) : Ev (fun k => keys_Check.f k [a, b]) (bothR a b) := by
  refine Ev.congr (fun k => by rw [keys_Check.f]) ?_
  have w1 : wrap64 (0 + 1) = 1 := w64 (by decide) (by decide)
  have w2 : wrap64 (1 + 1) = 2 := w64 (by decide) (by decide)
  have r0 : rd_L3 [a, b] 0 = a := rfl
  have r1 : rd_L3 [a, b] 1 = b := rfl
  have l2 : (([a, b] : List (List S24)).length : Int) = 2 := rfl
  rw [l2]
  refine Ev.step (fun k => by rw [keys_Check.l0]) ?_
  refine Ev.ifp (by decide) (Ev.ifp (by decide) (Ev.ifp (by rw [l2]; decide) ?_))
  rw [r0, w1]
  refine Ev.bind (all_ev a (by omega)) ?_
  have done_ : ∀ e, Ev (fun k => keys_Check.l0 k e [a, b] 2 2) e := fun e => by
    refine Ev.step (fun k => by rw [keys_Check.l0]) ?_
    exact Ev.ifn (by decide) (Ev.ret rfl)
  by_cases h1 : a.all good = true
  case neg =>
    unfold bothR; refine Ev.cast (if_neg (fun h => h1 h.1)).symm ?_
    exact Ev.ifn h1 (Ev.ret rfl)
  refine Ev.ifp h1 ?_
  have second : ∀ e : Int, (b.all good = true → (if b.length ≤ 17 then e else 7) = bothR a b) → (¬ b.all good = true → bothR a b = 1) → Ev (fun k => keys_Check.l0 k e [a, b] 2 1) (bothR a b) := fun e he hn => by
    refine Ev.step (fun k => by rw [keys_Check.l0]) ?_
    refine Ev.ifp (by decide) (Ev.ifp (by decide) (Ev.ifp (by rw [l2]; decide) ?_))
    rw [r1, w2]
    refine Ev.bind (all_ev b (by omega)) ?_
    by_cases h2 : b.all good = true
    case neg => rw [hn h2]; exact Ev.ifn h2 (Ev.ret rfl)
    refine Ev.ifp h2 ?_
    rw [← he h2]
    by_cases l2 : (b.length : Int) > 17
    · rw [if_neg (c := b.length ≤ 17) (by omega)]; exact Ev.ifp l2 (done_ 7)
    · rw [if_pos (c := b.length ≤ 17) (by omega)]; exact Ev.ifn l2 (done_ e)
  have hn : ¬ b.all good = true → bothR a b = 1 := fun h2 => by unfold bothR; rw [if_neg (fun h => h2 h.2)]
  by_cases l1 : (a.length : Int) > 17
  · refine Ev.ifp l1 (second 7 (fun h2 => ?_) hn)
    unfold bothR; rw [if_pos (c := a.all good = true ∧ b.all good = true) ⟨h1, h2⟩, if_neg (c := a.length ≤ 17 ∧ b.length ≤ 17) (by omega)]; split <;> rfl
  · refine Ev.ifn l1 (second 0 (fun h2 => ?_) hn)
    unfold bothR; rw [if_pos (c := a.all good = true ∧ b.all good = true) ⟨h1, h2⟩]
    by_cases l2 : b.length ≤ 17
    · rw [if_pos l2, if_pos (c := a.length ≤ 17 ∧ b.length ≤ 17) (by omega)]
    · rw [if_neg l2, if_neg (c := a.length ≤ 17 ∧ b.length ≤ 17) (by omega)]
theorem kcmp_ev {a b : List S24} (ha : a.length ≤ 9223372036854775806) (hb : b.length ≤ 9223372036854775806) : Ev (fun k => keys_Cmp.f k a b) (if bothR a b = 0 then (kcmp a b, 0) else (0, bothR a b)) := by
  refine Ev.congr (fun k => by rw [keys_Cmp.f]) ?_
  refine Ev.bind (check_ev ha hb) ?_
  by_cases h : bothR a b = 0
  · refine Ev.cast (if_pos h).symm ?_
    have g := (bothR_ok.mp h).1
    exact Ev.ifp h (Ev.bind (korder_ev ha g.1 g.2) (Ev.ret rfl))
  · refine Ev.cast (if_neg h).symm ?_
    exact Ev.ifn h (Ev.ret rfl)
theorem light_ev (l : List S24) (m : Int) : ∃ b, Ev (fun k => cadastrelaw0_Light.f k l m) b := by
  by_cases h : (l.length : Int) > 200
  · exact ⟨false, Ev.congr (fun k => by rw [cadastrelaw0_Light.f]) (Ev.ifp h (Ev.ret rfl))⟩
  have loop : ∀ (d i : Nat), i + d = l.length → ∀ x, ∃ b, Ev (fun k => cadastrelaw0_Light.l0 k l m x i) b := by
    intro d
    induction d with
    | zero =>
      intro i hi x
      exact ⟨_, Ev.step (fun k => by rw [cadastrelaw0_Light.l0]) (Ev.ifn (by omega) (Ev.ret rfl))⟩
    | succ d ih =>
      intro i hi x
      obtain ⟨b, hb⟩ := ih (i + 1) (by omega) (wrap64 (x + ((rd_T24 l i).f2.size : Int)))
      refine ⟨b, Ev.step (fun k => by rw [cadastrelaw0_Light.l0]) (Ev.ifp (by omega) (Ev.ifp (by omega) ?_))⟩
      rw [show wrap64 ((i : Int) + 1) = ((i + 1 : Nat) : Int) by rw [w64 (by omega) (by omega)]; omega]
      exact hb
  obtain ⟨b, hb⟩ := loop l.length 0 (by omega) 0
  refine ⟨b, ?_⟩
  refine Ev.congr (fun k => by rw [cadastrelaw0_Light.f]) ?_
  exact Ev.ifn h hb
theorem lists_ev (l : List (List S24)) (m : Int) : ∃ b, Ev (fun k => cadastrelaw0_LightLists.f k l m) b := by
  by_cases h : (l.length : Int) > 200
  · exact ⟨false, Ev.congr (fun k => by rw [cadastrelaw0_LightLists.f]) (Ev.ifp h (Ev.ret rfl))⟩
  have loop : ∀ (d i : Nat), i + d = l.length → ∀ x, ∃ b, Ev (fun k => cadastrelaw0_LightLists.l0 k l m x i) b := by
    intro d
    induction d with
    | zero =>
      intro i hi x
      exact ⟨_, Ev.step (fun k => by rw [cadastrelaw0_LightLists.l0]) (Ev.ifn (by omega) (Ev.ret rfl))⟩
    | succ d ih =>
      intro i hi x
      by_cases h2 : ((rd_L3 l i).length : Int) > 100
      · exact ⟨false, Ev.step (fun k => by rw [cadastrelaw0_LightLists.l0]) (Ev.ifp (by omega) (Ev.ifp (by omega) (Ev.ifp h2 (Ev.ret rfl))))⟩
      have inner : ∀ (e j : Nat), j + e = (rd_L3 l i).length → ∀ x, ∃ b, Ev (fun k => cadastrelaw0_LightLists.l1 k l m x i j) b := by
        intro e
        induction e with
        | zero =>
          intro j hj x
          obtain ⟨b, hb⟩ := ih (i + 1) (by omega) x
          refine ⟨b, Ev.step (fun k => by rw [cadastrelaw0_LightLists.l1]) (Ev.ifp (by omega) (Ev.ifp (by omega) (Ev.ifn (by omega) ?_)))⟩
          rw [show wrap64 ((i : Int) + 1) = ((i + 1 : Nat) : Int) by rw [w64 (by omega) (by omega)]; omega]
          exact hb
        | succ e ihe =>
          intro j hj x
          obtain ⟨b, hb⟩ := ihe (j + 1) (by omega) (wrap64 (wrap64 (x + 1) + ((rd_T24 (rd_L3 l i) j).f2.size : Int)))
          refine ⟨b, Ev.step (fun k => by rw [cadastrelaw0_LightLists.l1]) (Ev.ifp (by omega) (Ev.ifp (by omega) (Ev.ifp (by omega) (Ev.ifp (by omega) ?_))))⟩
          rw [show wrap64 ((j : Int) + 1) = ((j + 1 : Nat) : Int) by rw [w64 (by omega) (by omega)]; omega]
          exact hb
      obtain ⟨b, hb⟩ := inner (rd_L3 l i).length 0 (by omega) x
      refine ⟨b, ?_⟩
      refine Ev.step (fun k => by rw [cadastrelaw0_LightLists.l0]) ?_
      exact Ev.ifp (by omega) (Ev.ifp (by omega) (Ev.ifn h2 hb))
  obtain ⟨b, hb⟩ := loop l.length 0 (by omega) 0
  refine ⟨b, ?_⟩
  refine Ev.congr (fun k => by rw [cadastrelaw0_LightLists.f]) ?_
  exact Ev.ifn h hb
theorem heavy_ev (a b : List S24) (l : List (List S24)) : ∃ t, Ev (fun k => cadastrelaw7_heavy.f k a b l) t := by
  obtain ⟨x, hx⟩ := light_ev a 5000
  obtain ⟨y, hy⟩ := light_ev b 5000
  obtain ⟨z, hz⟩ := lists_ev l 5000
  have w : ∀ t, Ev (fun k => (cadastrelaw0_Light.f k a 5000).bind fun t107 => (if t107 = true then ((cadastrelaw0_Light.f k b 5000).bind fun t108 => (if t108 = true then ((cadastrelaw0_LightLists.f k l 5000).bind fun t109 => (some (!t109))) else (some true))) else (some true))) t → Ev (fun k => cadastrelaw7_heavy.f k a b l) t := fun t h =>
    Ev.congr (fun k => by rw [cadastrelaw7_heavy.f]) h
  cases x with
  | false => refine ⟨true, w _ (Ev.bind hx ?_)⟩; exact Ev.ifn (by decide) (Ev.ret rfl)
  | true =>
    cases y with
    | false => refine ⟨true, w _ (Ev.bind hx (Ev.ifp rfl (Ev.bind hy ?_)))⟩; exact Ev.ifn (by decide) (Ev.ret rfl)
    | true => refine ⟨!z, w _ (Ev.bind hx (Ev.ifp rfl (Ev.bind hy (Ev.ifp rfl (Ev.bind hz ?_)))))⟩; exact Ev.ret rfl
theorem wakes7_ev : Ev (fun k => cadastrelaw7_wakes.f k) true := by
  refine Ev.congr (fun k => by rw [cadastrelaw7_wakes.f]) ?_
  refine Ev.bind (kcmp_ev (by decide) (by decide)) ?_
  have e : bothR [(⟨1, 1, ⟨#[]⟩⟩ : S24)] [(⟨1, 1, ⟨#[]⟩⟩ : S24), ⟨0, 0, ⟨#[]⟩⟩] = 0 := by decide
  rw [if_pos e]
  exact Ev.const rfl (Ev.ifp rfl (Ev.ret rfl))

/-! ### beginnings -/
theorem with_ev {a b : List S24} (ha : a.length ≤ 9223372036854775806) (hga : a.all good = true) (hgb : b.all good = true) : Ev (fun k => keys_With.f k a b) (decide (b.length ≤ a.length) && (kcmp (a.take b.length) b == 0)) := by
  refine Ev.congr (fun k => by rw [keys_With.f]) ?_
  by_cases h : b.length ≤ a.length
  · rw [decide_eq_true h, Bool.true_and]
    refine Ev.ifp (by omega) (Ev.ifp (by omega) (Ev.ifp (by omega) ?_))
    rw [show ((b.length : Int)).toNat = b.length by omega]
    refine Ev.bind (korder_ev (by rw [List.length_take]; omega) ?_ hgb) (Ev.ret rfl)
    exact List.all_eq_true.mpr (fun x hx => List.all_eq_true.mp hga x (List.mem_of_mem_take hx))
  · rw [decide_eq_false h, Bool.false_and]
    exact Ev.ifn (by omega) (Ev.ret rfl)
theorem begins_ev {a b : List S24} (ha : a.length ≤ 9223372036854775806) (hb : b.length ≤ 9223372036854775806) : Ev (fun k => keys_Begins.f k a b) (if bothR a b = 0 then ((decide (b.length ≤ a.length) && (kcmp (a.take b.length) b == 0)), 0) else (false, bothR a b)) := by
  refine Ev.congr (fun k => by rw [keys_Begins.f]) ?_
  refine Ev.bind (check_ev ha hb) ?_
  by_cases h : bothR a b = 0
  · refine Ev.cast (if_pos h).symm ?_
    have g := (bothR_ok.mp h).1
    exact Ev.ifp h (Ev.bind (with_ev ha g.1 g.2) (Ev.ret rfl))
  · refine Ev.cast (if_neg h).symm ?_
    exact Ev.ifn h (Ev.ret rfl)
theorem copy_loop (l : List S24) (hn : l.length < 4398046511104) : ∀ (d i : Nat), i + d = l.length → Ev (fun k => cadastreref0_CopyValues.l0 k l (l.take i) i) l
  | 0, i, h => by
    refine Ev.step (fun k => by rw [cadastreref0_CopyValues.l0]) ?_
    refine Ev.ifn (by omega) (Ev.ret ?_)
    rw [List.take_of_length_le (by omega)]
  | d + 1, i, h => by
    have hi : i < l.length := by omega
    refine Ev.step (fun k => by rw [cadastreref0_CopyValues.l0]) ?_
    refine Ev.ifp (by omega) (Ev.ifp (by omega) (Ev.ifp (by rw [List.length_take]; omega) ?_))
    rw [show wrap64 ((i : Int) + 1) = ((i + 1 : Nat) : Int) by rw [w64 (by omega) (by omega)]; omega, rdT l i hi]
    have eg : (⟨l[i].f0, l[i].f1, l[i].f2⟩ : S24) = l[i] := rfl
    rw [eg, ← List.take_succ_eq_append_getElem hi]
    exact copy_loop l hn d (i + 1) (by omega)
theorem copy_ev (l : List S24) (hn : l.length < 4398046511104) : Ev (fun k => cadastreref0_CopyValues.f k l) l := by
  refine Ev.congr (fun k => by rw [cadastreref0_CopyValues.f]) ?_
  have := copy_loop l hn l.length 0 (by omega)
  simpa using this
theorem eqv_loop (a b : List S24) (hl : a.length = b.length) (hn : a.length ≤ 9223372036854775806) : ∀ (d i : Nat), i + d = a.length → ∃ t, (t = true ↔ a.drop i = b.drop i) ∧ Ev (fun k => cadastreref0_EqValues.l0 k a b i) t
  | 0, i, h => by
    refine ⟨true, ⟨fun _ => ?_, fun _ => rfl⟩, Ev.step (fun k => by rw [cadastreref0_EqValues.l0]) (Ev.ifn (by omega) (Ev.ret rfl))⟩
    rw [List.drop_eq_nil_of_le (by omega), List.drop_eq_nil_of_le (by omega)]
  | d + 1, i, h => by
    have hi : i < a.length := by omega
    have hi2 : i < b.length := by omega
    obtain ⟨t, ht, hev⟩ := eqv_loop a b hl hn d (i + 1) (by omega)
    by_cases he : a[i] = b[i]
    · refine ⟨t, ?_, ?_⟩
      · rw [List.drop_eq_getElem_cons hi, List.drop_eq_getElem_cons hi2, he, List.cons.injEq]; exact ⟨fun x => ⟨rfl, ht.mp x⟩, fun x => ht.mpr x.2⟩
      · refine Ev.step (fun k => by rw [cadastreref0_EqValues.l0]) (Ev.ifp (by omega) (Ev.ifp (by omega) (Ev.ifp (by omega) (Ev.ifn ?_ ?_))))
        · rw [rdT a i hi, rdT b i hi2, he]; simp
        · rw [show wrap64 ((i : Int) + 1) = ((i + 1 : Nat) : Int) by rw [w64 (by omega) (by omega)]; omega]
          exact hev
    · refine ⟨false, ?_, ?_⟩
      · rw [List.drop_eq_getElem_cons hi, List.drop_eq_getElem_cons hi2, List.cons.injEq]; exact ⟨fun x => absurd x (by decide), fun x => absurd x.1 he⟩
      · refine Ev.step (fun k => by rw [cadastreref0_EqValues.l0]) (Ev.ifp (by omega) (Ev.ifp (by omega) (Ev.ifp (by omega) (Ev.ifp ?_ (Ev.ret rfl)))))
        rw [rdT a i hi, rdT b i hi2, by_toList, by_toList]
        by_cases q0 : a[i].f0 = b[i].f0
        · by_cases q1 : a[i].f1 = b[i].f1
          · have q2 : ¬ by_ a[i].f2 = by_ b[i].f2 := fun q2 => he (S24_ext q0 q1 (by_inj q2))
            simp [q2]
          · simp [q1]
        · simp [q0]
theorem eqv_ev (a b : List S24) (hn : a.length ≤ 9223372036854775806) : ∃ t, (t = true ↔ a = b) ∧ Ev (fun k => cadastreref0_EqValues.f k a b) t := by
  by_cases hl : a.length = b.length
  · obtain ⟨t, ht, hev⟩ := eqv_loop a b hl hn a.length 0 (by omega)
    refine ⟨t, by simpa using ht, ?_⟩
    refine Ev.congr (fun k => by rw [cadastreref0_EqValues.f]) ?_
    exact Ev.ifp (by omega) hev
  · refine ⟨false, ⟨fun h => absurd h (by decide), fun h => absurd (congrArg List.length h) hl⟩, Ev.congr (fun k => by rw [cadastreref0_EqValues.f]) (Ev.ifn (by omega) (Ev.ret rfl))⟩
end Go.Proofs.Ytaodnkhpiiepiaa.K
