/-
  From a function's contract to a law's row: the call from any world in which the argument reads as plain data.
-/
import Derived.Below
import Derived.Test.YtepekanlplbciaaAxGen
import Derived.Test.YtepekanlplbciaaAxRead
namespace Go.AX
open Go
variable {X : Univ} {P : Program}

theorem cs_slice {cl : Nat → Nat} {w : World} {u : X.U} {k : Nat} {get : Nat → PV X.U} {a : Option Addr} {n c : Nat} (hv : X.view u = .sl k get) (h : CS X cl w [.typ u] (Value.slice a n c).cells.toList) : VP X cl w (.typ u) (.slice a n c) := by
  obtain ⟨vs, hvs, hf⟩ := h
  cases hvs with
  | cons h ho hn =>
    cases hn
    have h' := h
    cases h with
    | seg hu _ => rw [hv] at hu; cases hu
    | arr hu _ _ _ _ => rw [hv] at hu; cases hu
    | sl hu _ _ _ _ _ =>
      simp only [flat, List.flatMap_cons, List.flatMap_nil, List.append_nil, Value.cells, List.cons.injEq, and_true] at hf
      rw [← hf]; exact h'

theorem calls_row {f : FuncId} {W : World} {p : PV X.U} {c : Value} (h : Con (X := X) P f [.pv p] [] (.pv (.bool true)) []) (hc : VP X (clOf W) W p c) (hI : X.inv (fun _ => False) W) :
    Calls P f #[c] W fun e W' => e = .returned (.bool true) ∧ Go.RowKit.Below W.heap.size W W' := by
  have hlook : ∀ i, ({ env := zipI 0 [.pv p], hp := zipI 1000 [] } : St X.U).look i = if i = 0 then .pv p else .undef := fun i => by
    simp only [St.look, zipI, assoc]
    by_cases hi : i = 0
    · simp [hi]
    · have : ¬ 0 = i := fun e => hi e.symm
      simp [hi, this]
  have how : ∀ l b, ¬ Ow (fun _ => 0) ({ env := zipI 0 [.pv p], hp := zipI 1000 [] } : St X.U) #[c] W l b := by
    intro l b ho
    cases l with
    | slot i =>
      simp only [Ow, hlook] at ho
      split at ho <;> simp [blk] at ho
    | cell id off => obtain ⟨_, _, h1, _⟩ := ho; simp [zipI, assoc] at h1
    | box id => obtain ⟨⟨_, h1⟩, _⟩ := ho; simp [zipI, assoc] at h1
  have hR : Rel ⟨W, clOf W, fun _ => False, fun _ => 0⟩ (clOf W) (fun _ => 0) ({ env := zipI 0 [.pv p], hp := zipI 1000 [] } : St X.U) #[c] W := by
    refine ⟨.refl _ _ _ _, fun i => ?_, fun id c h => by simp [zipI, assoc] at h, fun l l' b h1 => absurd h1 (how l b), fun l b h1 => absurd h1 (how l b), fun b hb => ?_, fun id c h => by simp [zipI, assoc] at h, hI⟩
    · rw [hlook]
      split
      · rename_i hi; subst hi; exact .pv (by simpa [Array.getD] using hc)
      · exact .undef _
    · simp [clOf, Array.getElem?_eq_none hb]
  refine (h (fun _ => False) (clOf W) (fun _ => 0) W #[c] rfl hR).mono fun e W' ⟨c', cl', m', he, hR', _⟩ => ?_
  have hv := hR'.env 0
  simp only [St.look, assoc, if_true, Option.getD_some] at hv
  have hb := bool_inv hv
  simp [Array.getD] at hb
  subst hb
  exact ⟨he, hR'.fr.os, hR'.fr.tape, hR'.fr.output, hR'.fr.size, fun b hb => (hR'.fr.block b hb (fun h => h)).1⟩
end Go.AX
