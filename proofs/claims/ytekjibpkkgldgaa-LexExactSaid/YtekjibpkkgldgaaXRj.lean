/-
  A text read as a number by the page's own printed functions: layers 4 and 5, as far as layer 19 needs them.
-/
import Derived.Test.YtekjibpkkgldgaaXF
import Derived.Test.YtekjibpkkgldgaaAxLib
namespace Go.Proofs.Ytekjibpkkgldgaa.X
open Go Go.AX

def vnull : S44 := ⟨0, 0, ByteArray.empty⟩
def vint (n : Int) : S44 := ⟨1, n, ByteArray.empty⟩
/-- Is it a number of 64 bits? -/
def inr (z : Int) : Bool := decide (-9223372036854775808 ≤ z) && decide (z < 9223372036854775808)
theorem inr_iff {z : Int} : inr z = true ↔ -9223372036854775808 ≤ z ∧ z < 9223372036854775808 := by simp [inr]
theorem inr_not {z : Int} : inr z = false ↔ ¬ (-9223372036854775808 ≤ z ∧ z < 9223372036854775808) := by
  rw [← inr_iff]; cases inr z <;> simp
theorem w64i {x : Int} (h : inr x = true) : IntKind.i64.wrap x = x := by have := inr_iff.mp h; exact w64 this.1 this.2
theorem quot_in {p y : Int} (hp : inr p = true) (y0 : y ≠ 0) (y1 : y ≠ -1) : inr (Int.tdiv p y) = true := by
  have hp := inr_iff.mp hp
  have e := Int.natAbs_tdiv p y
  have e2 : (p.natAbs.div y.natAbs) = p.natAbs / y.natAbs := rfl
  rw [e2] at e
  apply inr_iff.mpr
  by_cases h1 : y = 1
  · subst h1; simpa using hp
  have : p.natAbs / y.natAbs ≤ p.natAbs / 2 := Nat.div_le_div_left (by omega) (by omega)
  omega
theorem prod_fits {x y : Int} (hx : inr x = true) (hy : inr y = true) (y0 : y ≠ 0) (h1 : ¬ (y = -1 ∧ x = -9223372036854775808)) :
    (IntKind.i64.wrap (Int.tdiv (IntKind.i64.wrap (x * y)) y) = x) ↔ inr (x * y) = true := by
  have hx' := inr_iff.mp hx; have hy' := inr_iff.mp hy
  by_cases ym : y = -1
  · subst ym
    have e : x * -1 = -x := by omega
    have hr : inr (-x) = true := inr_iff.mpr (by omega)
    rw [e, w64i hr, Int.tdiv_neg, Int.tdiv_one, Int.neg_neg, w64i hx]
    simp [hr]
  have hp : inr (IntKind.i64.wrap (x * y)) = true := inr_iff.mpr (by rw [IntKind.wrap_i64]; omega)
  rw [w64i (quot_in hp y0 ym)]
  constructor
  · intro h
    have e := Int.tmod_add_mul_tdiv (IntKind.i64.wrap (x * y)) y
    rw [h] at e
    have b := Int.natAbs_tmod (IntKind.i64.wrap (x * y)) y
    have b2 : (IntKind.i64.wrap (x * y)).natAbs % y.natAbs < y.natAbs := Nat.mod_lt _ (by omega)
    rw [← b] at b2
    have e3 : y * x = x * y := Int.mul_comm _ _
    rw [e3] at e
    have hp' := inr_iff.mp hp
    rw [IntKind.wrap_i64] at *
    generalize (((x * y + 9223372036854775808) % 18446744073709551616 - 9223372036854775808)).tmod y = t at *
    generalize x * y = P at *
    apply inr_iff.mpr
    omega
  · intro h
    rw [w64i h, Int.mul_tdiv_cancel _ y0]
/-- What an operation comes to, of two numbers. -/
def opZ (op x y : Int) : Int := if op = 9 then x * y else if op = 12 then x + y else if op = 13 then x - y else if op = 10 then Int.tdiv x y else Int.tmod x y
def by_ (s : ByteArray) : List UInt8 := s.data.toList
theorem by_length (s : ByteArray) : (by_ s).length = s.size := by simp [by_]
theorem by_toList (s : ByteArray) : s.toList = by_ s := ByteArray.toList_eq s
theorem rd_by (s : ByteArray) (i : Nat) (h : i < (by_ s).length) : s.data.toList.getD ((i : Nat) : Int).toNat 0 = (by_ s)[i] := by
  rw [Int.toNat_natCast]; exact getD_get (by_ s) i 0 h
def isD (c : UInt8) : Bool := decide (48 ≤ c.toNat) && decide (c.toNat ≤ 57)
def valF : Nat → List UInt8 → Nat
  | v, [] => v
  | v, c :: t => valF (10 * v + (c.toNat - 48)) t
def lim (neg : Bool) : Nat := if neg = true then 9223372036854775808 else 9223372036854775807
def sg (neg : Bool) (v : Nat) : Int := if neg = true then -(v : Int) else v
def fin_ (neg : Bool) (v : Nat) : Int × Int := if v ≤ lim neg then (sg neg v, 0) else (0, 5)
/-- What a row of digits behind a sign comes to. -/
def digs (neg : Bool) (ds : List UInt8) : Int × Int := if ds = [] then (0, 4) else if ds.all isD = true then fin_ neg (valF 0 ds) else (0, 4)
/-- What a text comes to. -/
def castR : List UInt8 → Int × Int
  | [] => (0, 4)
  | c :: t => if c.toNat = 45 then digs true t else if c.toNat = 43 then digs false t else digs false (c :: t)
theorem valF_ge : ∀ (t : List UInt8) (v : Nat), v ≤ valF v t
  | [], v => Nat.le_refl _
  | c :: t, v => by
    have := valF_ge t (10 * v + (c.toNat - 48))
    unfold valF; omega
theorem lim_le (neg : Bool) : lim neg ≤ 9223372036854775808 := by cases neg <;> decide
theorem fin_over {neg : Bool} {v : Nat} (h : lim neg < v) : fin_ neg v = (0, 5) := by unfold fin_; rw [if_neg (by omega)]
theorem rmul (k : Nat) (x y : Int) (hx : inr x = true) (hy : inr y = true) : ∃ p, cadastreref4_mul k x y = some (p, inr (x * y)) ∧ (inr (x * y) = true → p = x * y) := by
  have hx' := inr_iff.mp hx; have hy' := inr_iff.mp hy
  unfold cadastreref4_mul cadastreref4_mul_j3 cadastreref4_mul_j5
  simp only [big_eq, bif_ite, beq_iff_eq]
  by_cases h0 : x = 0
  · subst h0; exact ⟨0, by simp [inr], by simp⟩
  by_cases h1 : y = 0
  · subst h1; exact ⟨0, by simp [inr], by simp⟩
  have pf := prod_fits hx hy h1
  simp only [h0, h1, if_false]
  by_cases ha : x = -1 ∧ y = -9223372036854775808
  · obtain ⟨rfl, rfl⟩ := ha; exact ⟨0, rfl, by decide⟩
  by_cases hb : y = -1 ∧ x = -9223372036854775808
  · obtain ⟨rfl, rfl⟩ := hb; exact ⟨0, rfl, by decide⟩
  have pf := pf hb
  have e : ((IntKind.i64.wrap (Int.tdiv (IntKind.i64.wrap (x * y)) y)) == x) = inr (x * y) := by
    rw [Bool.eq_iff_iff, beq_iff_eq]; exact pf
  rw [e]
  refine ⟨IntKind.i64.wrap (x * y), ?_, fun h => w64i h⟩
  by_cases h2 : x = -1
  · have h3 : ¬ y = -9223372036854775808 := fun h => ha ⟨h2, h⟩
    simp only [h2, if_true, h3, if_false]
    by_cases h4 : y = -1
    · simp [h4]
    · simp only [h4, if_false]
  · simp only [h2, if_false]
    by_cases h4 : y = -1
    · have h5 : ¬ x = -9223372036854775808 := fun h => hb ⟨h4, h⟩
      simp only [h4, if_true, h5, if_false]
    · simp only [h4, if_false]
theorem rdo (k : Nat) (op x y : Int) (ho : op = 9 ∨ op = 12 ∨ op = 13) (hx : inr x = true) (hy : inr y = true) : cadastreref4_Do k op (vint x) (vint y) = some (if inr (opZ op x y) = true then (vint (opZ op x y), 0) else (vnull, 5)) := by
  have hx' := inr_iff.mp hx; have hy' := inr_iff.mp hy
  unfold cadastreref4_Do cadastreref4_Do_j3 cadastreref4_Do_j5 cadastreref4_Do_j28 vint
  simp only [bif_ite, beq_iff_eq, bne_iff_ne, ne_eq, show ¬ ((1 : Int) = 0) by decide, if_false, not_true]
  rcases ho with rfl | rfl | rfl
  · obtain ⟨p, hp, he⟩ := rmul k x y hx hy
    simp only [if_true, hp, some_bind, opZ]
    cases h : inr (x * y) with
    | true => rw [he h]; rfl
    | false => rfl
  · simp only [show ¬ ((12 : Int) = 9) by decide, if_false, if_true, opZ]
    have e : ((decide (y ≥ 0)) == (decide ((IntKind.i64.wrap (x + y)) ≥ x))) = inr (x + y) := by
      rw [Bool.eq_iff_iff, inr_iff, beq_iff_eq, Bool.eq_iff_iff, decide_eq_true_eq, decide_eq_true_eq, IntKind.wrap_i64]; omega
    rw [e]
    cases h : inr (x + y) with
    | true => rw [w64i h]; rfl
    | false => rfl
  · simp only [show ¬ ((13 : Int) = 9) by decide, show ¬ ((13 : Int) = 12) by decide, if_false, if_true, opZ]
    have e : ((decide (y ≥ 0)) == (decide ((IntKind.i64.wrap (x - y)) ≤ x))) = inr (x - y) := by
      rw [Bool.eq_iff_iff, inr_iff, beq_iff_eq, Bool.eq_iff_iff, decide_eq_true_eq, decide_eq_true_eq, IntKind.wrap_i64]; omega
    rw [e]
    cases h : inr (x - y) with
    | true => rw [w64i h]; rfl
    | false => rfl

section
variable {ρ : Type} (k : Nat) (kret : Int → Int → Option ρ)
theorem rloop {s : ByteArray} (hs : s.size ≤ 9000000000) (neg : Bool) : ∀ (d m i : Nat), i + d = s.size → d < m → ∀ v : Nat, v ≤ lim neg → ((by_ s).drop i).all isD = true →
    cadastreref4_Int_l18 k kret (fun n => kret n.f1 0) m s (if neg = true then 13 else 12) i (vint (sg neg v)) = kret (fin_ neg (valF v ((by_ s).drop i))).1 (fin_ neg (valF v ((by_ s).drop i))).2
  | 0, m + 1, i, hi, _, v, hv, _ => by
    have ls := by_length s
    simp only [cadastreref4_Int_l18, cadastreref4_Int_l18_b]
    rw [decide_eq_false (by omega), cond_false, show (by_ s).drop i = [] from List.drop_eq_nil_of_le (by omega)]
    show kret (sg neg v) 0 = kret (fin_ neg v).1 (fin_ neg v).2
    unfold fin_; rw [if_pos hv]
  | d + 1, m + 1, i, hi, hm, v, hv, hall => by
    have ls := by_length s
    have hil : i < (by_ s).length := by omega
    rw [List.drop_eq_getElem_cons hil] at hall ⊢
    rw [List.all_cons, Bool.and_eq_true] at hall
    simp only [cadastreref4_Int_l18, cadastreref4_Int_l18_b]
    have hl := lim_le neg
    have hv1 : inr (sg neg v) = true := by
      unfold lim at hv; unfold sg; apply inr_iff.mpr
      cases neg <;> simp at hv ⊢ <;> omega
    rw [decide_eq_true (by omega), cond_true, show cadastreref2_Int k 10 = some (vint 10) from rfl, some_bind, rdo k 9 _ _ (.inl rfl) hv1 (by decide), some_bind]
    rw [show opZ 9 (sg neg v) 10 = sg neg v * 10 from rfl]
    have hD := hall.1
    have hrd := rd_by s i hil
    rw [chk_pos (by omega), hrd]
    generalize (by_ s)[i] = c at *
    unfold isD at hD
    simp only [Bool.and_eq_true, decide_eq_true_eq] at hD
    have hge := valF_ge ((by_ s).drop (i + 1)) (10 * v + (c.toNat - 48))
    show _ = kret (fin_ neg (valF (10 * v + (c.toNat - 48)) ((by_ s).drop (i + 1)))).1 (fin_ neg (valF (10 * v + (c.toNat - 48)) ((by_ s).drop (i + 1)))).2
    by_cases hr : inr (sg neg v * 10) = true
    case neg =>
      rw [if_neg hr]
      have : lim neg < 10 * v := by
        have := inr_not.mp (Bool.eq_false_iff.mpr hr)
        unfold sg at this; unfold lim
        cases neg <;> simp at this ⊢ <;> omega
      rw [fin_over (by omega)]; rfl
    rw [if_pos hr]
    have e2 : IntKind.u8.wrap ((c.toNat : Int) - 48) = ((c.toNat - 48 : Nat) : Int) := by rw [IntKind.wrap_u8]; omega
    dsimp only
    rw [e2, w64 (x := ((c.toNat - 48 : Nat) : Int)) (by omega) (by omega)]
    rw [show cadastreref2_Int k ((c.toNat - 48 : Nat) : Int) = some (vint ((c.toNat - 48 : Nat) : Int)) from rfl, some_bind, rdo k _ _ _ (by cases neg <;> simp) hr (by apply inr_iff.mpr; omega), some_bind]
    have eo : opZ (if neg = true then 13 else 12) (sg neg v * 10) ((c.toNat - 48 : Nat) : Int) = sg neg (10 * v + (c.toNat - 48)) := by
      unfold sg
      cases neg
      · show ((v : Int) * 10 + ((c.toNat - 48 : Nat) : Int)) = ((10 * v + (c.toNat - 48) : Nat) : Int); omega
      · show (-(v : Int) * 10 - ((c.toNat - 48 : Nat) : Int)) = -((10 * v + (c.toNat - 48) : Nat) : Int); omega
    rw [eo]
    by_cases hr2 : inr (sg neg (10 * v + (c.toNat - 48))) = true
    case neg =>
      rw [if_neg hr2]
      have : lim neg < 10 * v + (c.toNat - 48) := by
        have := inr_not.mp (Bool.eq_false_iff.mpr hr2)
        unfold sg at this; unfold lim
        cases neg <;> simp at this ⊢ <;> omega
      rw [fin_over (by omega)]; rfl
    rw [if_pos hr2, w64n (by omega)]
    refine Eq.trans ?_ (rloop hs neg d m (i + 1) (by omega) (by omega) (10 * v + (c.toNat - 48)) ?_ hall.2)
    · rfl
    · have := inr_iff.mp hr2
      unfold sg at this; unfold lim
      cases neg <;> simp at this ⊢ <;> omega

theorem rcheck {s : ByteArray} (hs : s.size ≤ 9000000000) (neg : Bool) (i0 : Nat) (kexit : ByteArray → Int → Bool → Option ρ) : ∀ (d m i : Nat), i + d = s.size → d < m →
    cadastreref4_Int_l8 k kret kexit m s i0 neg i = if ((by_ s).drop i).all isD = true then kexit s i0 neg else kret 0 4
  | 0, m + 1, i, hi, _ => by
    have ls := by_length s
    simp only [cadastreref4_Int_l8, cadastreref4_Int_l8_b]
    rw [decide_eq_false (by omega), cond_false, show (by_ s).drop i = [] from List.drop_eq_nil_of_le (by omega)]
    rfl
  | d + 1, m + 1, i, hi, hm => by
    have ls := by_length s
    have hil : i < (by_ s).length := by omega
    simp only [cadastreref4_Int_l8, cadastreref4_Int_l8_b]
    rw [decide_eq_true (by omega), cond_true, chk_pos (by omega), chk_pos (by omega), rd_by s i hil, List.drop_eq_getElem_cons hil, List.all_cons, w64n (by omega), rcheck hs neg i0 kexit d m (i + 1) (by omega) (by omega)]
    generalize (by_ s)[i] = c
    simp only [bif_ite, decide_eq_true_eq]
    unfold isD
    by_cases h1 : ((c.toNat : Int)) < 48
    · rw [if_pos h1, decide_eq_false (show ¬ 48 ≤ c.toNat by omega)]; rfl
    · rw [if_neg h1, decide_eq_true (show 48 ≤ c.toNat by omega), Bool.true_and]
      by_cases h2 : ((c.toNat : Int)) > 57
      · rw [if_pos h2, decide_eq_false (show ¬ c.toNat ≤ 57 by omega)]; rfl
      · rw [if_neg h2, decide_eq_true (show c.toNat ≤ 57 by omega), Bool.true_and]
end
theorem rj5 (k : Nat) {s : ByteArray} (hs : s.size ≤ 9000000000) (hk : s.size < k) (neg : Bool) (i0 : Nat) (hi0 : i0 ≤ s.size) : cadastreref4_Int_j5 k (fun a b => some (a, b)) s i0 neg = some (digs neg ((by_ s).drop i0)) := by
  have ls := by_length s
  unfold cadastreref4_Int_j5 digs
  by_cases h : i0 = s.size
  · subst h
    rw [if_pos (List.drop_eq_nil_of_le (by omega))]; simp
  · rw [if_neg (fun hn => by have := congrArg List.length hn; simp at this; omega), show ((i0 : Int) == (s.size : Int)) = false by rw [beq_eq_false_iff_ne]; omega, cond_false]
    rw [rcheck k (fun a b => some (a, b)) hs neg i0 _ (s.size - i0) k i0 (by omega) (by omega)]
    by_cases ha : ((by_ s).drop i0).all isD = true
    · rw [if_pos ha, if_pos ha]
      have fin := rloop k (fun a b => some (a, b)) hs neg (s.size - i0) k i0 (by omega) (by omega) 0 (Nat.zero_le _) ha
      unfold cadastreref4_Int_j17
      cases neg with
      | true => exact fin
      | false => exact fin
    · rw [if_neg ha, if_neg ha]
theorem rint_eq (k : Nat) {s : ByteArray} (hs : s.size ≤ 9000000000) (hk : s.size < k) : cadastreref4_Int k s = some (castR (by_ s)) := by
  have ls := by_length s
  unfold cadastreref4_Int cadastreref4_Int_j3
  cases hb : by_ s with
  | nil =>
    rw [hb, List.length_nil] at ls
    rw [decide_eq_false (by omega), cond_false, cond_false, cond_false]
    have := rj5 k hs hk false 0 (by omega)
    rw [hb] at this
    exact this
  | cons c t =>
    rw [hb, List.length_cons] at ls
    have g : s.data.toList.getD 0 0 = c := by
      have : s.data.toList = by_ s := rfl
      rw [this, hb]; rfl
    have tail : ∀ neg, cadastreref4_Int_j5 k (fun a b => some (a, b)) s 1 neg = some (digs neg t) := fun neg => by
      have := rj5 k hs hk neg 1 (by omega)
      rw [hb] at this
      exact this
    rw [decide_eq_true (by omega), cond_true, chk_pos (by omega), g, chk_pos (by omega), cond_true]
    rw [show castR (c :: t) = if c.toNat = 45 then digs true t else if c.toNat = 43 then digs false t else digs false (c :: t) from rfl]
    by_cases h1 : c.toNat = 45
    · rw [show ((c.toNat : Int) == 45) = true by rw [beq_iff_eq]; omega, cond_true, if_pos h1]
      exact tail true
    · rw [show ((c.toNat : Int) == 45) = false by rw [beq_eq_false_iff_ne]; omega, cond_false, if_neg h1]
      by_cases h2 : c.toNat = 43
      · rw [show ((c.toNat : Int) == 43) = true by rw [beq_iff_eq]; omega, cond_true, if_pos h2]
        exact tail false
      · rw [show ((c.toNat : Int) == 43) = false by rw [beq_eq_false_iff_ne]; omega, cond_false, if_neg h2]
        have := rj5 k hs hk false 0 (by omega)
        rw [hb] at this
        exact this
end Go.Proofs.Ytekjibpkkgldgaa.X
