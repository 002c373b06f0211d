/- The bounds that a law's parameter has, type by type, and that its datum gives them. -/
import Derived.Test.YtbamdjfonfmbbaaOp
import Derived.Test.YtbamdjfonfmbbaaBx0
namespace Go.Proofs.Ytbamdjfonfmbbaa.B
open Go.RowKit Go.Proofs.YtbamdjfonfmbbaaW.PrintWords Go.Proofs.YtbamdjfonfmbbaaW.PrintLast Go.Proofs.YtbamdjfonfmbbaaG
/-- The bounds of a cadastre/cadastrelaw1.Ask. -/
def ok41 (x : S41) : Prop := (0 ≤ x.f0 ∧ x.f0 < 18446744073709551616) ∧ (x.f1.length * 1 ≤ 140737488351232 ∧ x.f1.length ≤ 9223372036854775807 ∧ ∀ y ∈ x.f1, (0 ≤ y ∧ y < 256))
theorem op41 : Opn Try.prog 41 k41 ok41 :=
  Opn.struct (fun x : S41 => (x.f0, x.f1)) (fun v => ⟨⟨v.1, v.2⟩, rfl⟩) Try.underlying41 (by kernel_rfl) (OpF.cons rfl (by kernel_rfl) (Opn.u64 Try.underlying36) (OpF.one rfl (by kernel_rfl) (Opn.slice Try.underlying24 (by kernel_rfl) (by kernel_rfl) (Opn.u8 Try.underlying5))))
end Go.Proofs.Ytbamdjfonfmbbaa.B
