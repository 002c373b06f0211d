/-
  Plain lemmas for the printed functions: what a number of rounds comes to, loops, bytes held against bytes.
-/
import Derived.Test.YtaodnkhpiiepiaaWWords
import Derived.Test.YtaodnkhpiiepiaaWLast
import Derived.Laws.BitsAllLaws
import Derived.Laws.BitsLemmas
namespace Go.Proofs.YtaodnkhpiiepiaaG
open Go Go.RowKit Go.Proofs.YtaodnkhpiiepiaaW.PrintWords Go.Proofs.YtaodnkhpiiepiaaW.PrintLast

theorem w64 {x : Int} (h1 : -9223372036854775808 ≤ x) (h2 : x < 9223372036854775808) : wrap64 x = x := by unfold wrap64; omega

section
variable {α β : Type} {f g : Nat → Option α} {r : α} {c : Prop} [Decidable c]
theorem Ev.ifp (h : c) (H : Ev f r) : Ev (fun k => if c then f k else g k) r := by simpa only [if_pos h] using H
theorem Ev.ifn (h : ¬ c) (H : Ev g r) : Ev (fun k => if c then f k else g k) r := by simpa only [if_neg h] using H
theorem Ev.ret {q : α} (h : q = r) : Ev (fun _ => some q) r := by subst h; exact Ev.now _
theorem Ev.pure {q : Option α} (h : q = some r) : Ev (fun _ => q) r := by subst h; exact Ev.now _
theorem Ev.const {q : Option α} (h : q = some r) {F : Nat → α → Option β} {b : β} (H : Ev (fun k => F k r) b) : Ev (fun k => q.bind (F k)) b := by subst h; exact H
theorem Ev.cast {q : α} (h : q = r) (H : Ev f q) : Ev f r := h ▸ H
theorem Ev.get (H : Ev f r) (F : Nat → α → Option β) (b : β) (h : Ev (fun k => F k r) b) : Ev (fun k => (f k).bind (F k)) b := Ev.bind H h
/-- One answer alone. -/
theorem Ev.uniq {q : α} (h : Ev f r) (h' : Ev f q) : r = q := by
  obtain ⟨K, h⟩ := h; obtain ⟨K', h'⟩ := h'
  have a := h (max K K') (by omega)
  have b := h' (max K K') (by omega)
  rw [a] at b; exact Option.some.inj b
end
/-- A loop over places: from each place ahead of the end it comes to the next one. -/
theorem ev_loop {g : Int → Nat → Option Bool} (n : Nat) (hend : Ev (g n) true) (hstep : ∀ i : Nat, i < n → Ev (g ((i : Int) + 1)) true → Ev (g i) true) : Ev (g 0) true := by
  have key : ∀ d i : Nat, i + d = n → Ev (g i) true := by
    intro d
    induction d with
    | zero => intro i hi; obtain rfl : i = n := by omega
              exact hend
    | succ d ih => intro i hi; exact hstep i (by omega) (by have := ih (i + 1) (by omega); simpa using this)
  simpa using key n 0 (by omega)

theorem rd_nat (l : List Int) (i : Nat) : rd l i = l.getD i 0 := rfl
theorem rd_get (l : List Int) (i : Nat) (h : i < l.length) : rd l i = l[i] := by simp [rd, h]
theorem rd_mem {l : List Int} {i : Int} (h0 : 0 ≤ i) (h : i < l.length) : rd l i ∈ l := by
  have h' : i.toNat < l.length := by omega
  have : rd l i = l[i.toNat] := by simp [rd, h']
  rw [this]; exact List.getElem_mem h'
theorem rdOf_mem {α : Type} {d : α} {l : List α} {i : Nat} (h : i < l.length) : l.getD i d ∈ l := by
  rw [List.getD_eq_getElem?_getD, List.getElem?_eq_getElem h]; exact List.getElem_mem h
/-- Any cell of a row of bytes, or nought behind its end. -/
theorem rd_byte {l : List Int} (hl : ∀ y ∈ l, 0 ≤ y ∧ y < 256) (i : Int) : 0 ≤ rd l i ∧ rd l i < 256 := by
  unfold rd
  by_cases h : i.toNat < l.length
  · rw [List.getD_eq_getElem?_getD, List.getElem?_eq_getElem h]; exact hl _ (List.getElem_mem h)
  · rw [List.getD_eq_getElem?_getD, List.getElem?_eq_none (by omega)]; simp

theorem or_u32 {x y : Int} (hx : 0 ≤ x) (hx1 : x < 4294967296) (hm : x % 256 = 0) (hy : 0 ≤ y) (hy1 : y < 256) : bits .or .u32 x y = x + y :=
  bits_join .u32 32 (by decide) (fun n h0 h1 => by rw [IntKind.wrap_u32]; omega) 8 x y hx hm hx1 hy hy1 (by omega)
theorem wrap_u64 (n : Int) : IntKind.u64.wrap n = n % 18446744073709551616 := by simp [IntKind.wrap, IntKind.bits, IntKind.signed]
theorem or_u64 {x y : Int} (i : Nat) (hx : 0 ≤ x) (hx1 : x < 18446744073709551616) (hm : x % 2 ^ i = 0) (hy : 0 ≤ y) (hy1 : y < 2 ^ i) (hy2 : y < 18446744073709551616) : bits .or .u64 x y = x + y :=
  bits_join .u64 64 (by decide) (fun n h0 h1 => by rw [wrap_u64]; omega) i x y hx hm hx1 hy hy1 hy2
end Go.Proofs.YtaodnkhpiiepiaaG
