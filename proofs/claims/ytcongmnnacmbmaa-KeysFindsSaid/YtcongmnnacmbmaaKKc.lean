/-
  Layer 7: rows of values in order: what the printed functions come to.
-/
import Derived.Test.YtcongmnnacmbmaaKOrd
namespace Go.Proofs.Ytcongmnnacmbmaa.K
open Go Go.AX
/-- How two rows of values stand to each other. -/
def kcmp : List S41 → List S41 → Int
  | [], [] => 0
  | [], _ :: _ => -1
  | _ :: _, [] => 1
  | a :: x, b :: y => if vcmp a b = 0 then kcmp x y else vcmp a b
theorem kcmp_refl : ∀ x, kcmp x x = 0
  | [] => rfl
  | a :: x => by unfold kcmp; rw [vcmp_refl, if_pos rfl]; exact kcmp_refl x
theorem kcmp_neg : ∀ x y, kcmp y x = - kcmp x y
  | [], [] => rfl
  | [], _ :: _ => rfl
  | _ :: _, [] => rfl
  | a :: x, b :: y => by
    unfold kcmp
    rw [vcmp_neg a b]
    by_cases h : vcmp a b = 0
    · rw [if_pos h, if_pos (by omega)]; exact kcmp_neg x y
    · rw [if_neg h, if_neg (by omega)]
theorem kcmp_trans : ∀ x y z, kcmp x y ≤ 0 → kcmp y z ≤ 0 → kcmp x z ≤ 0 ∧ (kcmp x y < 0 ∨ kcmp y z < 0 → kcmp x z < 0)
  | [], [], [], _, _ => by simp [kcmp]
  | [], [], _ :: _, _, _ => by simp [kcmp]
  | [], _ :: _, [], _, h => by simp [kcmp] at h
  | [], _ :: _, _ :: _, _, _ => by simp [kcmp]
  | _ :: _, [], _, h, _ => by simp [kcmp] at h
  | _ :: _, _ :: _, [], _, h => by simp [kcmp] at h
  | a :: x, b :: y, c :: z, h1, h2 => by
    have ih := kcmp_trans x y z
    have nab := vcmp_neg a b
    have nbc := vcmp_neg b c
    have nac := vcmp_neg a c
    unfold kcmp at h1 h2 ⊢
    have h1' : vcmp a b ≤ 0 := by split at h1 <;> omega
    have h2' : vcmp b c ≤ 0 := by split at h2 <;> omega
    have t := vcmp_trans a b c h1' h2'
    by_cases ab : vcmp a b = 0
    · by_cases bc : vcmp b c = 0
      · have ca := (vcmp_trans c b a (by omega) (by omega)).1
        have ac : vcmp a c = 0 := by omega
        rw [if_pos ab] at h1 ⊢
        rw [if_pos bc] at h2 ⊢
        rw [if_pos ac]
        exact ih h1 h2
      · rw [if_pos ab, if_neg bc]
        have := t.2 (.inr (by omega))
        rw [if_neg (by omega)]
        exact ⟨by omega, fun _ => this⟩
    · rw [if_neg ab]
      have := t.2 (.inl (by omega))
      rw [if_neg (c := vcmp a c = 0) (by omega)]
      exact ⟨by omega, fun _ => this⟩

section
variable {ρ : Type}
theorem order_j8 (k : Nat) (kret : Int → Option ρ) (a b : List S41) (i : Nat) (ha : i ≤ a.length) (hb : i ≤ b.length) (h : i = a.length ∨ i = b.length) :
    keys_Order_j8 k kret a b = kret (kcmp (a.drop i) (b.drop i)) := by
  unfold keys_Order_j8
  rcases Nat.lt_trichotomy a.length b.length with h3 | h3 | h3
  · rw [decide_eq_true (by omega), cond_true]
    rw [show a.drop i = [] from List.drop_eq_nil_of_le (by omega), List.drop_eq_getElem_cons (l := b) (i := i) (by omega)]; rfl
  · rw [decide_eq_false (by omega), cond_false, decide_eq_false (by omega), cond_false]
    rw [show a.drop i = [] from List.drop_eq_nil_of_le (by omega), show b.drop i = [] from List.drop_eq_nil_of_le (by omega)]; rfl
  · rw [decide_eq_false (by omega), cond_false, decide_eq_true (by omega), cond_true]
    rw [show b.drop i = [] from List.drop_eq_nil_of_le (by omega), List.drop_eq_getElem_cons (l := a) (i := i) (by omega)]; rfl
theorem korder_j3 (k : Nat) (kg : List S41 → List S41 → Int → Option ρ) (kret : Int → Option ρ) (a b : List S41) (i : Nat) (hv : ∀ v ∈ a, v.f2.size < k ∧ v.f2.size ≤ 9223372036854775807) (hl : a.length < 9223372036854775807)
    (ha : i ≤ a.length) (hb : i ≤ b.length) (hg : i < a.length → i < b.length → kg a b ((i + 1 : Nat) : Int) = kret (kcmp (a.drop (i + 1)) (b.drop (i + 1)))) :
    keys_Order_j3 k kg kret a b i = kret (kcmp (a.drop i) (b.drop i)) := by
  unfold keys_Order_j3
  by_cases h1 : i < a.length
  case neg => rw [decide_eq_false (by omega), cond_false, order_j8 k kret a b i ha hb (.inl (by omega))]
  rw [decide_eq_true (by omega), cond_true]
  by_cases h2 : i < b.length
  case neg => rw [decide_eq_false (by omega), cond_false, order_j8 k kret a b i ha hb (.inr (by omega))]
  rw [decide_eq_true (by omega), cond_true]
  unfold keys_Order_j4
  have hm := hv _ (List.getElem_mem h1)
  rw [chk_pos (by omega), chk_pos (by omega), Int.toNat_natCast, getD_get a i default h1, getD_get b i default h2, order_eq k _ _ hm.2 hm.1, some_bind, w64n (by omega)]
  rw [List.drop_eq_getElem_cons (l := a) h1, List.drop_eq_getElem_cons (l := b) h2]
  unfold kcmp
  by_cases h : vcmp a[i] b[i] = 0
  · rw [if_pos h, h, hg h1 h2]; rfl
  · rw [if_neg h, show (vcmp a[i] b[i] == 0) = false from beq_eq_false_iff_ne.2 h]; rfl
theorem korder_loop (k : Nat) (kret : Int → Option ρ) (a b : List S41) (hv : ∀ v ∈ a, v.f2.size < k ∧ v.f2.size ≤ 9223372036854775807) (hl : a.length < 9223372036854775807) : ∀ (d i n : Nat), i + d = a.length → i ≤ b.length → d < n →
    keys_Order_g0 k kret n a b i = kret (kcmp (a.drop i) (b.drop i))
  | d, i, n + 1, hi, hb, hn => by
    simp only [keys_Order_g0, keys_Order_g0_b]
    refine korder_j3 k _ kret a b i hv hl (by omega) hb (fun h1 h2 => ?_)
    match d, hi, hn with
    | d + 1, hi, hn => exact korder_loop k kret a b hv hl d (i + 1) n (by omega) (by omega) (by omega)
    | 0, hi, _ => omega
end
theorem korder_eq (k : Nat) (a b : List S41) (hv : ∀ v ∈ a, v.f2.size < k ∧ v.f2.size ≤ 9223372036854775807) (hl : a.length < 9223372036854775807) (hk : a.length < k) : keys_Order k a b = some (kcmp a b) := by
  unfold keys_Order
  refine (korder_j3 k _ some a b 0 hv hl (by omega) (by omega) (fun h1 h2 => ?_))
  exact korder_loop k some a b hv hl (a.length - 1) 1 k (by omega) (by omega) (by omega)
/-- May these values be a key? -/
def kgood (l : List S41) : Bool := l.all good && decide (l.length ≤ 17)
def chkR (L : List (List S41)) : Int := if L.all (fun y => y.all good) = true then (if L.all (fun y => decide (y.length ≤ 17)) = true then 0 else 7) else 1
theorem chkR_ok {L : List (List S41)} : chkR L = 0 ↔ ∀ y ∈ L, kgood y = true := by
  unfold chkR kgood
  by_cases h : L.all (fun y => y.all good) = true
  · rw [if_pos h]
    rw [List.all_eq_true] at h
    by_cases h2 : L.all (fun y => decide (y.length ≤ 17)) = true
    · rw [if_pos h2]
      rw [List.all_eq_true] at h2
      exact ⟨fun _ y hy => by rw [h y hy, h2 y hy]; rfl, fun _ => rfl⟩
    · rw [if_neg h2]
      refine ⟨fun q => absurd q (by decide), fun q => absurd (List.all_eq_true.2 fun y hy => ?_) h2⟩
      have := q y hy
      rw [Bool.and_eq_true] at this
      exact this.2
  · rw [if_neg h]
    refine ⟨fun q => absurd q (by decide), fun q => absurd (List.all_eq_true.2 fun y hy => ?_) h⟩
    have := q y hy
    rw [Bool.and_eq_true] at this
    exact this.1
theorem check_l3 (k : Nat) (L : List (List S41)) (hL : L.length < 9223372036854775807) (hy : ∀ y ∈ L, y.length < k ∧ y.length ≤ 9223372036854775807) : ∀ (d i n : Nat) (e : Int), i + d = L.length → d < n →
    keys_Check_l3 k (fun t => some t) (fun t => some t) n e L (L.length : Int) i = some (if (L.drop i).all (fun y => y.all good) = true then (if (L.drop i).all (fun y => decide (y.length ≤ 17)) = true then e else 7) else 1)
  | 0, i, n + 1, e, hi, _ => by
    simp only [keys_Check_l3, keys_Check_l3_b]
    rw [decide_eq_false (by omega), cond_false, List.drop_eq_nil_of_le (by omega)]; rfl
  | d + 1, i, n + 1, e, hi, hn => by
    have h1 : i < L.length := by omega
    have hm := hy _ (List.getElem_mem h1)
    simp only [keys_Check_l3, keys_Check_l3_b]
    rw [decide_eq_true (by omega), cond_true, chk_pos (by omega), Int.toNat_natCast, getD_get L i [] h1, all_eq k _ hm.2 hm.1, some_bind, w64n (by omega), List.drop_eq_getElem_cons h1]
    rw [List.all_cons, List.all_cons]
    cases hg : L[i].all good with
    | false => simp
    | true =>
      rw [Bool.not_true, cond_false, Bool.true_and]
      by_cases h17 : L[i].length ≤ 17
      · rw [decide_eq_false (show ¬ ((L[i].length : Int) > 17) by omega), cond_false, check_l3 k L hL hy d (i + 1) n e (by omega) (by omega), decide_eq_true h17, Bool.true_and]
      · rw [decide_eq_true (show ((L[i].length : Int) > 17) by omega), cond_true, check_l3 k L hL hy d (i + 1) n 7 (by omega) (by omega), decide_eq_false h17, Bool.false_and]
        by_cases q : (L.drop (i + 1)).all (fun y => y.all good) = true
        · rw [if_pos q, if_pos q]; simp
        · rw [if_neg q, if_neg q]
theorem check_eq (k : Nat) (L : List (List S41)) (hL : L.length < 9223372036854775807) (hk : L.length < k) (hy : ∀ y ∈ L, y.length < k ∧ y.length ≤ 9223372036854775807) : keys_Check k L = some (chkR L) := by
  unfold keys_Check chkR
  have := check_l3 k L hL hy L.length 0 k 0 (by omega) hk
  simpa using this
theorem good_small {v : S41} (h : good v = true) : v.f2.size ≤ 4096 := by
  rcases good_says h with ⟨_, _, z⟩ | ⟨_, z⟩ | ⟨_, _, z⟩ <;> omega
theorem korder_good (k : Nat) (hk : 5000 ≤ k) (a b : List S41) (ha : kgood a = true) : keys_Order k a b = some (kcmp a b) := by
  unfold kgood at ha
  rw [Bool.and_eq_true, List.all_eq_true, decide_eq_true_eq] at ha
  exact korder_eq k a b (fun v hv => by have := good_small (ha.1 v hv); omega) (by omega) (by omega)
theorem kcmp_eq_ev (k : Nat) (hk : 5000 ≤ k) (a b : List S41) (ha : kgood a = true) (hb : kgood b = true) : keys_Cmp k a b = some (kcmp a b, 0) := by
  unfold keys_Cmp
  have la : a.length ≤ 17 := by unfold kgood at ha; rw [Bool.and_eq_true, decide_eq_true_eq] at ha; exact ha.2
  have lb : b.length ≤ 17 := by unfold kgood at hb; rw [Bool.and_eq_true, decide_eq_true_eq] at hb; exact hb.2
  have hy : ∀ y ∈ [a, b], y.length < k ∧ y.length ≤ 9223372036854775807 := by
    intro y hy
    simp only [List.mem_cons, List.not_mem_nil, or_false] at hy
    rcases hy with rfl | rfl <;> omega
  have c0 : chkR [a, b] = 0 := chkR_ok.2 (by
    intro y hy
    simp only [List.mem_cons, List.not_mem_nil, or_false] at hy
    rcases hy with rfl | rfl <;> assumption)
  rw [check_eq k _ (by simp) (by simp; omega) hy, some_bind, c0]
  rw [korder_good k hk a b ha, some_bind]; rfl
end Go.Proofs.Ytcongmnnacmbmaa.K
