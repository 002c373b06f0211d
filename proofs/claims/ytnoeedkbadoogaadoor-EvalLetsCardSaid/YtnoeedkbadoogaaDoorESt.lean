/-
  Layer 5: a value as a column of a type takes it: what the printed functions come to.
-/
import Derived.Test.YtnoeedkbadoogaaDoorEDg
namespace Go.Proofs.YtnoeedkbadoogaaDoor.E
open Go Go.AX

def vblob (s : ByteArray) : S23 := ⟨3, 0, s⟩
theorem gcases {v : S23} (h : good v = true) : (v = vnull) ∨ (∃ n, v = vint n) ∨ (∃ s, v = vtxt s ∧ s.size ≤ 4096) ∨ (∃ s, v = vblob s ∧ s.size ≤ 4096) := by
  rcases good_cases h with h | h | h | h
  · exact .inl h
  · exact .inr (.inl ⟨_, h.1⟩)
  · exact .inr (.inr (.inl ⟨_, h.2⟩))
  · exact .inr (.inr (.inr ⟨_, h.2⟩))
def typeOk (t : Int) : Bool := decide (1 ≤ t) && decide (t ≤ 4)
theorem typeOk_cases {t : Int} (h : typeOk t = true) : t = 1 ∨ t = 2 ∨ t = 3 ∨ t = 4 := by
  unfold typeOk at h; simp only [Bool.and_eq_true, decide_eq_true_eq] at h; omega
/-- The number of a text, as a value. -/
def numS (s : ByteArray) : S23 × Int := if (castR (by_ s)).2 = 0 then (vint (castR (by_ s)).1, 0) else (vnull, (castR (by_ s)).2)
def fitsB (v : S23) (t : Int) : Bool := v.f0 == 0 || t == 1 || (t == 2 && v.f0 == 1) || (t == 3 && v.f0 == 2) || (t == 4 && v.f0 == 3)
def storeS (v : S23) (t : Int) : S23 × Int :=
  if fitsB v t = true then (v, 0) else if t = 2 ∧ v.f0 = 2 then numS v.f2 else if t = 3 ∧ v.f0 = 1 then (textS v, 0) else if t = 4 ∧ v.f0 = 2 then (vblob v.f2, 0) else (vnull, 4)
/-- A law's loop over its list. -/
theorem law_loop {α : Type} (len : Nat) (F : Nat → Int → Option Bool) (hl : len ≤ 9223372036854775807) (h0 : ∀ n, F (n + 1) (len : Int) = some true) (h1 : ∀ n i, i < len → (F (n + 1) (i : Int) = F n ((i + 1 : Nat) : Int) ∨ F (n + 1) (i : Int) = some true)) :
    ∀ (d i n : Nat), i + d = len → d < n → F n (i : Int) = some true
  | 0, i, n + 1, hi, _ => by obtain rfl : i = len := by omega
                             exact h0 n
  | d + 1, i, n + 1, hi, hn => by
    rcases h1 n i (by omega) with h | h
    · rw [h]; exact law_loop (α := α) len F hl h0 h1 d (i + 1) n (by omega) (by omega)
    · exact h
end Go.Proofs.YtnoeedkbadoogaaDoor.E
