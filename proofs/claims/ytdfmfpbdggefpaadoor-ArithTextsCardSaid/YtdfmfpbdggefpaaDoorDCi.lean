/-
  Layer 5: a text read as a number: what the printed functions come to.
-/
import Derived.Test.YtdfmfpbdggefpaaDoorDAri
namespace Go.Proofs.YtdfmfpbdggefpaaDoor.D
open Go Go.AX

def by_ (s : ByteArray) : List UInt8 := s.data.toList
theorem by_length (s : ByteArray) : (by_ s).length = s.size := by simp [by_]
theorem by_toList (s : ByteArray) : s.toList = by_ s := ByteArray.toList_eq s
theorem rd_by (s : ByteArray) (i : Nat) (h : i < (by_ s).length) : s.data.toList.getD ((i : Nat) : Int).toNat 0 = (by_ s)[i] := by
  rw [Int.toNat_natCast]; exact getD_get (by_ s) i 0 h
def isD (c : UInt8) : Bool := decide (48 ≤ c.toNat) && decide (c.toNat ≤ 57)
def valF : Nat → List UInt8 → Nat
  | v, [] => v
  | v, c :: t => valF (10 * v + (c.toNat - 48)) t
def lim (neg : Bool) : Nat := if neg = true then 9223372036854775808 else 9223372036854775807
def sg (neg : Bool) (v : Nat) : Int := if neg = true then -(v : Int) else v
def fin_ (neg : Bool) (v : Nat) : Int × Int := if v ≤ lim neg then (sg neg v, 0) else (0, 5)
/-- What a row of digits behind a sign comes to. -/
def digs (neg : Bool) (ds : List UInt8) : Int × Int := if ds = [] then (0, 4) else if ds.all isD = true then fin_ neg (valF 0 ds) else (0, 4)
/-- What a text comes to. -/
def castR : List UInt8 → Int × Int
  | [] => (0, 4)
  | c :: t => if c.toNat = 45 then digs true t else if c.toNat = 43 then digs false t else digs false (c :: t)
theorem valF_ge : ∀ (t : List UInt8) (v : Nat), v ≤ valF v t
  | [], v => Nat.le_refl _
  | c :: t, v => by
    have := valF_ge t (10 * v + (c.toNat - 48))
    unfold valF; omega
theorem lim_le (neg : Bool) : lim neg ≤ 9223372036854775808 := by cases neg <;> decide
theorem fin_over {neg : Bool} {v : Nat} (h : lim neg < v) : fin_ neg v = (0, 5) := by unfold fin_; rw [if_neg (by omega)]
theorem by_extract (s : ByteArray) : by_ (s.extract (1 : Int).toNat (s.size : Int).toNat) = (by_ s).drop 1 := by
  have := by_length s
  rw [show (1 : Int).toNat = 1 by rfl, Int.toNat_natCast]
  unfold by_ at *
  rw [ByteArray.data_extract, Array.toList_extract]
  rw [List.extract_eq_take_drop]
  rw [List.take_of_length_le]
  simp

section
variable {ρ : Type} (k : Nat) (kret : Int → Int → Option ρ)
/-- What stands behind the last digit. -/
noncomputable def done_ (neg : Bool) (n : Int) (over : Bool) : Option ρ :=
  bif over then kret 0 5 else bif (!neg) then (bif (big (n == (-9223372036854775808))) then kret 0 5 else bif neg then kret n 0 else kret (IntKind.i64.wrap (0 - n)) 0) else bif neg then kret n 0 else kret (IntKind.i64.wrap (0 - n)) 0
theorem done_over (neg : Bool) (n : Int) : done_ kret neg n true = kret 0 5 := rfl
theorem done_fin (neg : Bool) (v : Nat) (hv : v ≤ 9223372036854775808) : done_ kret neg (-(v : Int)) false = kret (fin_ neg v).1 (fin_ neg v).2 := by
  unfold done_
  simp only [cond_false]
  cases neg with
  | true =>
    simp only [Bool.not_true, cond_false, cond_true]
    unfold fin_; rw [if_pos (show v ≤ lim true from hv)]; rfl
  | false =>
    simp only [Bool.not_false, cond_true, cond_false]
    rw [big_eq]
    by_cases he : v = 9223372036854775808
    · subst he
      rw [fin_over (by decide)]; rfl
    · rw [show ((-(v : Int)) == (-9223372036854775808)) = false by rw [beq_eq_false_iff_ne]; omega, cond_false]
      unfold fin_; rw [if_pos (show v ≤ lim false by show v ≤ 9223372036854775807; omega), w64 (by omega) (by omega)]
      show kret (0 - -(v : Int)) 0 = kret (v : Int) 0
      rw [show (0 : Int) - -(v : Int) = v by omega]

variable (kg0 : Bool → Int → Bool → Option ρ) (kg1 : ByteArray → Bool → Int → Bool → Int → Option ρ)
theorem j8_end (s : ByteArray) (neg : Bool) (n : Int) (over : Bool) : cast_Int_j8 k kg0 kret kg1 s neg n over (s.size : Int) = kg0 neg n over := by
  unfold cast_Int_j8; simp
theorem j8_eq (s : ByteArray) (neg : Bool) (n : Int) (over : Bool) (i : Nat) (hi : i < (by_ s).length) :
    cast_Int_j8 k kg0 kret kg1 s neg n over i = if isD ((by_ s)[i]) = true then cast_Int_j11 k kg1 s neg n over i else kret 0 4 := by
  have ls := by_length s
  unfold cast_Int_j8
  rw [show ((i : Int) == (s.size : Int)) = false by rw [beq_eq_false_iff_ne]; omega, cond_false, chk_pos (by omega), chk_pos (by omega), rd_by s i hi]
  generalize (by_ s)[i] = c
  simp only [bif_ite, decide_eq_true_eq]
  unfold isD
  by_cases h1 : ((c.toNat : Int)) < 48
  · rw [if_pos h1, decide_eq_false (show ¬ 48 ≤ c.toNat by omega)]; rfl
  · rw [if_neg h1, decide_eq_true (show 48 ≤ c.toNat by omega), Bool.true_and]
    by_cases h2 : ((c.toNat : Int)) > 57
    · rw [if_pos h2, decide_eq_false (show ¬ c.toNat ≤ 57 by omega)]; rfl
    · rw [if_neg h2, decide_eq_true (show c.toNat ≤ 57 by omega)]; rfl
theorem j11_over (s : ByteArray) (neg : Bool) (n : Int) (over : Bool) (i : Nat) (hi : i < (by_ s).length) (hs : s.size ≤ 9000000000) (hd : isD ((by_ s)[i]) = true)
    (h : over = true ∨ n < -((9223372036854775808 - (((by_ s)[i]).toNat - 48 : Nat) : Int) / 10)) : cast_Int_j11 k kg1 s neg n over i = kg1 s neg n true ((i + 1 : Nat) : Int) := by
  have ls := by_length s
  unfold cast_Int_j11
  rw [chk_pos (by omega)]
  rw [rd_by s i hi]
  generalize (by_ s)[i] = c at *
  unfold isD at hd
  simp only [Bool.and_eq_true, decide_eq_true_eq] at hd
  have e2 : IntKind.u8.wrap ((c.toNat : Int) - 48) = ((c.toNat - 48 : Nat) : Int) := by rw [IntKind.wrap_u8]; omega
  dsimp only
  rw [e2]
  have q : Int.tdiv (-9223372036854775808 + ((c.toNat - 48 : Nat) : Int)) 10 = -((9223372036854775808 - ((c.toNat - 48 : Nat) : Int)) / 10) := by
    rw [show (-9223372036854775808 + ((c.toNat - 48 : Nat) : Int)) = -(9223372036854775808 - ((c.toNat - 48 : Nat) : Int)) by omega, Int.neg_tdiv, Int.tdiv_eq_ediv_of_nonneg (by omega)]
  rw [w64 (x := ((c.toNat - 48 : Nat) : Int)) (by omega) (by omega), w64 (x := -9223372036854775808 + ((c.toNat - 48 : Nat) : Int)) (by omega) (by omega), q, w64 (x := -((9223372036854775808 - ((c.toNat - 48 : Nat) : Int)) / 10)) (by omega) (by omega)]
  unfold cast_Int_j15
  rw [w64n (by omega)]
  cases over with
  | true => rfl
  | false =>
    rw [cond_false]
    rcases h with h | h
    · cases h
    · rw [decide_eq_true h]; rfl
theorem j11_in (s : ByteArray) (neg : Bool) (v : Nat) (i : Nat) (hi : i < (by_ s).length) (hs : s.size ≤ 9000000000) (hd : isD ((by_ s)[i]) = true)
    (h : 10 * v + (((by_ s)[i]).toNat - 48) ≤ 9223372036854775808) : cast_Int_j11 k kg1 s neg (-(v : Int)) false i = kg1 s neg (-((10 * v + (((by_ s)[i]).toNat - 48) : Nat) : Int)) false ((i + 1 : Nat) : Int) := by
  have ls := by_length s
  unfold cast_Int_j11
  rw [chk_pos (by omega)]
  rw [rd_by s i hi]
  generalize (by_ s)[i] = c at *
  unfold isD at hd
  simp only [Bool.and_eq_true, decide_eq_true_eq] at hd
  have e2 : IntKind.u8.wrap ((c.toNat : Int) - 48) = ((c.toNat - 48 : Nat) : Int) := by rw [IntKind.wrap_u8]; omega
  dsimp only
  rw [e2]
  have q : Int.tdiv (-9223372036854775808 + ((c.toNat - 48 : Nat) : Int)) 10 = -((9223372036854775808 - ((c.toNat - 48 : Nat) : Int)) / 10) := by
    rw [show (-9223372036854775808 + ((c.toNat - 48 : Nat) : Int)) = -(9223372036854775808 - ((c.toNat - 48 : Nat) : Int)) by omega, Int.neg_tdiv, Int.tdiv_eq_ediv_of_nonneg (by omega)]
  rw [w64 (x := ((c.toNat - 48 : Nat) : Int)) (by omega) (by omega), w64 (x := -9223372036854775808 + ((c.toNat - 48 : Nat) : Int)) (by omega) (by omega), q, w64 (x := -((9223372036854775808 - ((c.toNat - 48 : Nat) : Int)) / 10)) (by omega) (by omega)]
  unfold cast_Int_j15
  rw [w64n (by omega), cond_false, decide_eq_false (by omega), cond_false, w64 (x := 10 * -(v : Int)) (by omega) (by omega), w64 (by omega) (by omega)]
  congr 1; omega

/-- The loop over the digits, from any place. -/
theorem j8_loop {s : ByteArray} (hs : s.size ≤ 9000000000) (neg : Bool) : ∀ (d m i : Nat), i + d = s.size → d < m → ∀ (n : Int) (over : Bool) (v : Nat),
    ((over = true ∧ 9223372036854775808 < v) ∨ (over = false ∧ v ≤ 9223372036854775808 ∧ n = -(v : Int))) →
    cast_Int_g1 k kret m s neg n over i = if ((by_ s).drop i).all isD = true then kret (fin_ neg (valF v ((by_ s).drop i))).1 (fin_ neg (valF v ((by_ s).drop i))).2 else kret 0 4
  | 0, m + 1, i, hi, _, n, over, v, hv => by
    have ls := by_length s
    obtain rfl : i = s.size := by omega
    simp only [cast_Int_g1, cast_Int_g1_b]
    rw [j8_end, show (by_ s).drop s.size = [] from List.drop_eq_nil_of_le (by omega)]
    show done_ kret neg n over = kret (fin_ neg v).1 (fin_ neg v).2
    rcases hv with ⟨rfl, hv⟩ | ⟨rfl, hv, rfl⟩
    · rw [done_over, fin_over (by have := lim_le neg; omega)]
    · exact done_fin kret neg v hv
  | d + 1, m + 1, i, hi, hm, n, over, v, hv => by
    have ls := by_length s
    have hil : i < (by_ s).length := by omega
    simp only [cast_Int_g1, cast_Int_g1_b]
    rw [j8_eq k kret _ _ s neg n over i hil, List.drop_eq_getElem_cons hil, List.all_cons]
    by_cases hd : isD ((by_ s)[i]) = true
    case neg => rw [if_neg hd]; simp [hd]
    rw [if_pos hd, hd, Bool.true_and]
    show _ = if ((by_ s).drop (i + 1)).all isD = true then kret (fin_ neg (valF (10 * v + ((by_ s)[i].toNat - 48)) ((by_ s).drop (i + 1)))).1 (fin_ neg (valF (10 * v + ((by_ s)[i].toNat - 48)) ((by_ s).drop (i + 1)))).2 else kret 0 4
    have hD := hd
    unfold isD at hD
    simp only [Bool.and_eq_true, decide_eq_true_eq] at hD
    by_cases ho : 10 * v + ((by_ s)[i].toNat - 48) ≤ 9223372036854775808 ∧ over = false
    · obtain ⟨ho, rfl⟩ := ho
      rcases hv with ⟨h, _⟩ | ⟨_, hv, rfl⟩
      · cases h
      rw [j11_in k _ s neg v i hil hs hd ho]
      exact j8_loop hs neg d m (i + 1) (by omega) (by omega) _ false _ (.inr ⟨rfl, ho, rfl⟩)
    · rw [j11_over k _ s neg n over i hil hs hd (by
        rcases hv with ⟨h, _⟩ | ⟨h, hv, rfl⟩
        · exact .inl h
        · have : ¬ 10 * v + ((by_ s)[i].toNat - 48) ≤ 9223372036854775808 := fun q => ho ⟨q, h⟩
          exact .inr (by omega))]
      refine j8_loop hs neg d m (i + 1) (by omega) (by omega) n true _ (.inl ⟨rfl, ?_⟩)
      rcases hv with ⟨_, hv⟩ | ⟨h, hv, rfl⟩
      · omega
      · have : ¬ 10 * v + ((by_ s)[i].toNat - 48) ≤ 9223372036854775808 := fun q => ho ⟨q, h⟩
        omega
end

/-- A row of digits behind a sign, as the program reads it. -/
theorem j4_eq (k : Nat) {s : ByteArray} (hs : s.size ≤ 9000000000) (hk : s.size + 1 < k) (neg : Bool) :
    cast_Int_j4 k (fun a b => some (a, b)) (fun neg n over => done_ (fun a b => some (a, b)) neg n over) (fun s neg n over i => cast_Int_g1 k (fun a b => some (a, b)) k s neg n over i) s neg = some (digs neg (by_ s)) := by
  have ls := by_length s
  unfold cast_Int_j4 digs
  rw [by_toList, show ByteArray.empty.toList = [] by rw [by_toList]; rfl]
  by_cases h : by_ s = []
  · rw [if_pos h, h]; rfl
  · rw [if_neg h, show (by_ s == []) = false by rw [beq_eq_false_iff_ne]; exact h, cond_false]
    have := j8_loop k (fun a b => some (a, b)) hs neg s.size (k + 1) 0 (by omega) (by omega) 0 false 0 (.inr ⟨rfl, by omega, by simp⟩)
    simp only [cast_Int_g1, cast_Int_g1_b, List.drop_zero] at this
    refine Eq.trans this ?_
    split <;> rfl

theorem cast_eq (k : Nat) {s : ByteArray} (hs : s.size ≤ 9000000000) (hk : s.size + 1 < k) : cast_Int k s = some (castR (by_ s)) := by
  have ls := by_length s
  have j2 : ∀ neg, cast_Int_j2 k (fun a b => some (a, b)) (fun neg n over => done_ (fun a b => some (a, b)) neg n over) (fun s neg n over i => cast_Int_g1 k (fun a b => some (a, b)) k s neg n over i) s neg =
      if neg = true then (chk (0 ≤ (1 : Int) ∧ (1 : Int) ≤ (s.size : Int) ∧ (s.size : Int) ≤ (s.size : Int)) (some (digs neg ((by_ s).drop 1)))) else
        if (by_ s).head? = some 43 then some (digs neg ((by_ s).drop 1)) else some (digs neg (by_ s)) := by
    intro neg
    have hx : ∀ neg, 1 ≤ s.size → cast_Int_j4 k (fun a b => some (a, b)) (fun neg n over => done_ (fun a b => some (a, b)) neg n over) (fun s neg n over i => cast_Int_g1 k (fun a b => some (a, b)) k s neg n over i) (s.extract (1 : Int).toNat (s.size : Int).toNat) neg = some (digs neg ((by_ s).drop 1)) := fun neg h1 => by
      have l2 := by_length (s.extract (1 : Int).toNat (s.size : Int).toNat)
      rw [by_extract, List.length_drop] at l2
      rw [j4_eq k (by omega) (by omega), by_extract]
    unfold cast_Int_j2
    cases neg with
    | true =>
      rw [cond_true, if_pos rfl]
      by_cases h : 1 ≤ s.size
      · rw [chk_pos (by omega), chk_pos (by omega), hx _ h]
      · unfold chk; rw [if_neg (by omega), if_neg (by omega)]
    | false =>
      rw [cond_false, if_neg (by decide)]
      cases hb : by_ s with
      | nil =>
        rw [hb, List.length_nil] at ls
        rw [decide_eq_false (by omega), cond_false, j4_eq k hs hk, hb]; rfl
      | cons c t =>
        rw [hb, List.length_cons] at ls
        have g : s.data.toList.getD 0 0 = c := by
          have : s.data.toList = by_ s := rfl
          rw [this, hb]; rfl
        rw [decide_eq_true (by omega), cond_true, chk_pos (by omega), g, hx _ (by omega), j4_eq k hs hk, hb, chk_pos (by omega)]
        by_cases h2 : c = 43
        · subst h2; rfl
        · rw [show ((c.toNat : Int) == 43) = false by rw [beq_eq_false_iff_ne]; intro h; exact h2 (UInt8.toNat_inj.1 (by show c.toNat = 43; omega))]
          rw [if_neg (by simp [h2])]; rfl
  unfold cast_Int
  cases hb : by_ s with
  | nil =>
    rw [hb, List.length_nil] at ls
    rw [decide_eq_false (by omega), cond_false]
    refine Eq.trans (j2 false) ?_
    rw [hb]; rfl
  | cons c t =>
    rw [hb, List.length_cons] at ls
    have g : s.data.toList.getD 0 0 = c := by
      have : s.data.toList = by_ s := rfl
      rw [this, hb]; rfl
    rw [decide_eq_true (by omega), cond_true, chk_pos (by omega), g]
    refine Eq.trans (j2 _) ?_
    rw [hb, show castR (c :: t) = if c.toNat = 45 then digs true t else if c.toNat = 43 then digs false t else digs false (c :: t) from rfl]
    by_cases h1 : c.toNat = 45
    · rw [show ((c.toNat : Int) == 45) = true by rw [beq_iff_eq]; omega, if_pos rfl, chk_pos (by omega), if_pos h1]; rfl
    · rw [show ((c.toNat : Int) == 45) = false by rw [beq_eq_false_iff_ne]; omega, if_neg (by decide), if_neg h1]
      by_cases h2 : c = 43
      · subst h2; rfl
      · rw [if_neg (by simp [h2]), if_neg (show ¬ c.toNat = 43 from fun h => h2 (UInt8.toNat_inj.1 h))]
end Go.Proofs.YtdfmfpbdggefpaaDoor.D
