/- The bounds that a law's parameter has, type by type, and that its datum gives them. -/
import Derived.Test.YtaodnkhpiiepiaaOp
import Derived.Test.YtaodnkhpiiepiaaKx0
namespace Go.Proofs.Ytaodnkhpiiepiaa.K
open Go.RowKit Go.Proofs.YtaodnkhpiiepiaaW.PrintWords Go.Proofs.YtaodnkhpiiepiaaW.PrintLast Go.Proofs.YtaodnkhpiiepiaaG
/-- The bounds of a cadastre/api.Value. -/
def ok24 (x : S24) : Prop := (-9223372036854775808 ≤ x.f0 ∧ x.f0 < 9223372036854775808) ∧ (-9223372036854775808 ≤ x.f1 ∧ x.f1 < 9223372036854775808) ∧ (x.f2.size ≤ 140737488351232)
theorem op24 : Opn Try.prog 24 k24 ok24 :=
  Opn.struct (fun x : S24 => (x.f0, x.f1, x.f2)) (fun v => ⟨⟨v.1, v.2.1, v.2.2⟩, rfl⟩) Try.underlying24 (by kernel_rfl) (OpF.cons rfl (by kernel_rfl) (Opn.i64 Try.underlying3) (OpF.cons rfl (by kernel_rfl) (Opn.i64 Try.underlying2) (OpF.one rfl (by kernel_rfl) (Opn.string Try.underlying9))))
/-- The bounds of a cadastre/cadastrelaw7.Ask. -/
def ok70 (x : S70) : Prop := (x.f0.length * 32 ≤ 140737488351232 ∧ x.f0.length ≤ 9223372036854775807 ∧ ∀ y ∈ x.f0, (ok24 y)) ∧ (x.f1.length * 32 ≤ 140737488351232 ∧ x.f1.length ≤ 9223372036854775807 ∧ ∀ y ∈ x.f1, (ok24 y)) ∧ (x.f2.length * 24 ≤ 140737488351232 ∧ x.f2.length ≤ 9223372036854775807 ∧ ∀ y ∈ x.f2, (y.length * 32 ≤ 140737488351232 ∧ y.length ≤ 9223372036854775807 ∧ ∀ y1 ∈ y, (ok24 y1)))
theorem op70 : Opn Try.prog 70 k70 ok70 :=
  Opn.struct (fun x : S70 => (x.f0, x.f1, x.f2)) (fun v => ⟨⟨v.1, v.2.1, v.2.2⟩, rfl⟩) Try.underlying70 (by kernel_rfl) (OpF.cons rfl (by kernel_rfl) (Opn.slice Try.underlying67 (by kernel_rfl) (by kernel_rfl) op24) (OpF.cons rfl (by kernel_rfl) (Opn.slice Try.underlying67 (by kernel_rfl) (by kernel_rfl) op24) (OpF.one rfl (by kernel_rfl) (Opn.slice Try.underlying68 (by kernel_rfl) (by kernel_rfl) (Opn.slice Try.underlying67 (by kernel_rfl) (by kernel_rfl) op24)))))
end Go.Proofs.Ytaodnkhpiiepiaa.K
