/-
  How a law's parameter reads as plain data, and the bounds that its datum gives.
-/
import Derived.Test.YtcongmnnacmbmaaAxRow
import Derived.Test.YtcongmnnacmbmaaKU
namespace Go.Proofs.Ytcongmnnacmbmaa.K
open Go Go.AX
/-- The bounds of a cadastre/api.Value. -/
def ok41 (x : S41) : Prop := (-9223372036854775808 ≤ x.f0 ∧ x.f0 < 9223372036854775808) ∧ (-9223372036854775808 ≤ x.f1 ∧ x.f1 < 9223372036854775808) ∧ (x.f2.size ≤ 140737488351232)
theorem rd42 : Rd UX Try.prog 42 (fun x : S41 => [.int .i64 x.f0, .int .i64 x.f1, .str x.f2]) ok41 :=
  Rd.struct (fun x : S41 => (x.f0, x.f1, x.f2)) (fun v => ⟨⟨v.1, v.2.1, v.2.2⟩, rfl⟩) (fun _ => rfl) Try.underlying42 (by kernel_rfl) (RdF.cons (n := 1) rfl (by kernel_rfl) (Rd.i64 Try.underlying3) (RdF.cons (n := 1) rfl (by kernel_rfl) (Rd.i64 Try.underlying2) (RdF.one (n := 1) rfl (by kernel_rfl) (Rd.string Try.underlying9))))
/-- The bounds of a cadastre/cadastrelaw7.Ask. -/
def ok25 (x : S25) : Prop := (x.f0.length * 32 ≤ 140737488351232 ∧ x.f0.length ≤ 9223372036854775807 ∧ ∀ y ∈ x.f0, (ok41 y)) ∧ (x.f1.length * 32 ≤ 140737488351232 ∧ x.f1.length ≤ 9223372036854775807 ∧ ∀ y ∈ x.f1, (ok41 y)) ∧ (x.f2.length * 24 ≤ 140737488351232 ∧ x.f2.length ≤ 9223372036854775807 ∧ ∀ y ∈ x.f2, (y.length * 32 ≤ 140737488351232 ∧ y.length ≤ 9223372036854775807 ∧ ∀ y1 ∈ y, (ok41 y1)))
theorem rd26 : Rd UX Try.prog 26 (fun x : S25 => [.typ (.l41 x.f0), .typ (.l41 x.f1), .typ (.ll41 x.f2)]) ok25 :=
  Rd.struct (fun x : S25 => (x.f0, x.f1, x.f2)) (fun v => ⟨⟨v.1, v.2.1, v.2.2⟩, rfl⟩) (fun _ => rfl) Try.underlying26 (by kernel_rfl) (RdF.cons (n := 1) rfl (by kernel_rfl) (Rd.slice (X := UX) (C := UU.l41) (g := (fun x => .typ (.s41 x))) (d := default) (n := 3) Try.underlying23 (by kernel_rfl) (by decide) (by kernel_rfl) (fun _ => rfl) (fun _ => rfl) (El.struct (X := UX) (fun x => UU.s41 x) _ (fun _ => rfl)) rd42) (RdF.cons (n := 1) rfl (by kernel_rfl) (Rd.slice (X := UX) (C := UU.l41) (g := (fun x => .typ (.s41 x))) (d := default) (n := 3) Try.underlying23 (by kernel_rfl) (by decide) (by kernel_rfl) (fun _ => rfl) (fun _ => rfl) (El.struct (X := UX) (fun x => UU.s41 x) _ (fun _ => rfl)) rd42) (RdF.one (n := 1) rfl (by kernel_rfl) (Rd.slice (X := UX) (C := UU.ll41) (g := (fun x => .typ (.l41 x))) (d := []) (n := 1) Try.underlying24 (by kernel_rfl) (by decide) (by kernel_rfl) (fun _ => rfl) (fun _ => rfl) (El.one (X := UX) (fun x => .typ (.l41 x)) (fun _ => rfl) (by intro cl w v c h; cases h with | sl _ _ _ _ _ _ => rfl | seg hu _ => cases hu | arr hu _ _ _ _ => cases hu)) (Rd.slice (X := UX) (C := UU.l41) (g := (fun x => .typ (.s41 x))) (d := default) (n := 3) Try.underlying23 (by kernel_rfl) (by decide) (by kernel_rfl) (fun _ => rfl) (fun _ => rfl) (El.struct (X := UX) (fun x => UU.s41 x) _ (fun _ => rfl)) rd42)))))
end Go.Proofs.Ytcongmnnacmbmaa.K
