/-
  Layer 5: a text read as a number: what the printed functions come to.
  Layer 5: a text read as a number: what the page's own printed functions come to.
-/
import Derived.Test.YtnoeedkbadoogaaDoorPAr
namespace Go.Proofs.YtnoeedkbadoogaaDoor.P
open Go Go.AX

def by_ (s : ByteArray) : List UInt8 := s.data.toList
theorem by_length (s : ByteArray) : (by_ s).length = s.size := by simp [by_]
theorem by_toList (s : ByteArray) : s.toList = by_ s := ByteArray.toList_eq s
theorem rd_by (s : ByteArray) (i : Nat) (h : i < (by_ s).length) : s.data.toList.getD ((i : Nat) : Int).toNat 0 = (by_ s)[i] := by
  rw [Int.toNat_natCast]; exact getD_get (by_ s) i 0 h
def isD (c : UInt8) : Bool := decide (48 ≤ c.toNat) && decide (c.toNat ≤ 57)
def valF : Nat → List UInt8 → Nat
  | v, [] => v
  | v, c :: t => valF (10 * v + (c.toNat - 48)) t
def lim (neg : Bool) : Nat := if neg = true then 9223372036854775808 else 9223372036854775807
def sg (neg : Bool) (v : Nat) : Int := if neg = true then -(v : Int) else v
def fin_ (neg : Bool) (v : Nat) : Int × Int := if v ≤ lim neg then (sg neg v, 0) else (0, 5)
/-- What a row of digits behind a sign comes to. -/
def digs (neg : Bool) (ds : List UInt8) : Int × Int := if ds = [] then (0, 4) else if ds.all isD = true then fin_ neg (valF 0 ds) else (0, 4)
/-- What a text comes to. -/
def castR : List UInt8 → Int × Int
  | [] => (0, 4)
  | c :: t => if c.toNat = 45 then digs true t else if c.toNat = 43 then digs false t else digs false (c :: t)
theorem valF_ge : ∀ (t : List UInt8) (v : Nat), v ≤ valF v t
  | [], v => Nat.le_refl _
  | c :: t, v => by
    have := valF_ge t (10 * v + (c.toNat - 48))
    unfold valF; omega
theorem lim_le (neg : Bool) : lim neg ≤ 9223372036854775808 := by cases neg <;> decide
theorem fin_over {neg : Bool} {v : Nat} (h : lim neg < v) : fin_ neg v = (0, 5) := by unfold fin_; rw [if_neg (by omega)]
theorem by_extract (s : ByteArray) : by_ (s.extract (1 : Int).toNat (s.size : Int).toNat) = (by_ s).drop 1 := by
  have := by_length s
  rw [show (1 : Int).toNat = 1 by rfl, Int.toNat_natCast]
  unfold by_ at *
  rw [ByteArray.data_extract, Array.toList_extract]
  rw [List.extract_eq_take_drop]
  rw [List.take_of_length_le]
  simp

section
variable {ρ : Type} (k : Nat) (kret : Int → Int → Option ρ)
/-- What stands behind the last digit. -/
noncomputable def done_ (neg : Bool) (n : Int) (over : Bool) : Option ρ :=
  bif over then kret 0 5 else bif (!neg) then (bif (big (n == (-9223372036854775808))) then kret 0 5 else bif neg then kret n 0 else kret (IntKind.i64.wrap (0 - n)) 0) else bif neg then kret n 0 else kret (IntKind.i64.wrap (0 - n)) 0
theorem done_over (neg : Bool) (n : Int) : done_ kret neg n true = kret 0 5 := rfl
theorem done_fin (neg : Bool) (v : Nat) (hv : v ≤ 9223372036854775808) : done_ kret neg (-(v : Int)) false = kret (fin_ neg v).1 (fin_ neg v).2 := by
  unfold done_
  simp only [cond_false]
  cases neg with
  | true =>
    simp only [Bool.not_true, cond_false, cond_true]
    unfold fin_; rw [if_pos (show v ≤ lim true from hv)]; rfl
  | false =>
    simp only [Bool.not_false, cond_true, cond_false]
    rw [big_eq]
    by_cases he : v = 9223372036854775808
    · subst he
      rw [fin_over (by decide)]; rfl
    · rw [show ((-(v : Int)) == (-9223372036854775808)) = false by rw [beq_eq_false_iff_ne]; omega, cond_false]
      unfold fin_; rw [if_pos (show v ≤ lim false by show v ≤ 9223372036854775807; omega), w64 (by omega) (by omega)]
      show kret (0 - -(v : Int)) 0 = kret (v : Int) 0
      rw [show (0 : Int) - -(v : Int) = v by omega]

variable (kg0 : Bool → Int → Bool → Option ρ) (kg1 : ByteArray → Bool → Int → Bool → Int → Option ρ)
end

end Go.Proofs.YtnoeedkbadoogaaDoor.P
namespace Go.Proofs.YtnoeedkbadoogaaDoor.P
open Go Go.AX

section
variable {ρ : Type} (k : Nat) (kret : Int → Int → Option ρ)
end
end Go.Proofs.YtnoeedkbadoogaaDoor.P
