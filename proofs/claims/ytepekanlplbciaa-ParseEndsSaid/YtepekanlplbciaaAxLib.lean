/-
  Plain lemmas for the printed functions.
-/
import Derived.Test.YtepekanlplbciaaAxDef
import Derived.Laws.BitsLemmas
import Derived.Laws.Strings
import Derived.Laws.StructEq
namespace Go.AX
open Go
section
variable {ρ : Type}
theorem chk_pos {p : Prop} [Decidable p] (h : p) (x : Option ρ) : chk p x = x := by unfold chk; rw [if_pos h]
theorem bif_ite (b : Bool) (x y : ρ) : (bif b then x else y) = if b = true then x else y := Bool.cond_eq_ite b x y
theorem some_bind {α β : Type} (a : α) (f : α → Option β) : (some a).bind f = f a := rfl
theorem w64 {x : Int} (h1 : -9223372036854775808 ≤ x) (h2 : x < 9223372036854775808) : IntKind.i64.wrap x = x := by rw [IntKind.wrap_i64]; omega
theorem w64n {i : Nat} (h : i < 9223372036854775807) : IntKind.i64.wrap ((i : Int) + 1) = ((i + 1 : Nat) : Int) := by rw [w64 (by omega) (by omega)]; rfl
theorem getD_get {α : Type} (l : List α) (i : Nat) (d : α) (h : i < l.length) : l.getD i d = l[i] := by simp [h]
theorem getD_mem {α : Type} {d : α} {l : List α} {i : Nat} (h : i < l.length) : l.getD i d ∈ l := by rw [getD_get l i d h]; exact List.getElem_mem h
theorem beq_bytes (a b : ByteArray) : (a.toList == b.toList) = (a == b) := (beq_toListBytes a b).symm
instance : LawfulBEq ByteArray where
  eq_of_beq {a b} h := by
    rw [beq_toListBytes, beq_iff_eq, ByteArray.toList_eq, ByteArray.toList_eq] at h
    exact ByteArray.ext (Array.ext' h)
  rfl {a} := by rw [beq_toListBytes]; simp
theorem empty_of_size {a : ByteArray} (h : a.size = 0) : a = ByteArray.empty := by
  apply ByteArray.ext
  apply Array.ext'
  have : a.data.toList.length = 0 := by simpa using h
  rw [List.length_eq_zero_iff] at this
  rw [this]; rfl
theorem size_empty_iff (a : ByteArray) : (a == ByteArray.empty) = decide (a.size = 0) := by
  rw [Bool.eq_iff_iff, beq_iff_eq, decide_eq_true_eq]
  exact ⟨fun h => by rw [h]; rfl, empty_of_size⟩
end
/-- A law's loop over its list. -/
theorem law_run (len : Nat) (F : Nat → Int → Option Bool) (h0 : ∀ n, F (n + 1) (len : Int) = some true) (h1 : ∀ n i, i < len → (F (n + 1) (i : Int) = F n ((i + 1 : Nat) : Int) ∨ F (n + 1) (i : Int) = some true)) :
    ∀ (d i n : Nat), i + d = len → d < n → F n (i : Int) = some true
  | 0, i, n + 1, hi, _ => by
    obtain rfl : i = len := by omega
    exact h0 n
  | d + 1, i, n + 1, hi, hn => by
    rcases h1 n i (by omega) with h | h
    · rw [h]; exact law_run len F h0 h1 d (i + 1) n (by omega) (by omega)
    · exact h
end Go.AX
