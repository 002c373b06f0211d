/- The bounds that a law's parameter has, type by type, and that its datum gives them. -/
import Derived.Test.YtaodnkhpiiepiaaOp
import Derived.Test.YtaodnkhpiiepiaaLx0
namespace Go.Proofs.Ytaodnkhpiiepiaa.L
open Go.RowKit Go.Proofs.YtaodnkhpiiepiaaW.PrintWords Go.Proofs.YtaodnkhpiiepiaaW.PrintLast Go.Proofs.YtaodnkhpiiepiaaG
/-- The bounds of a cadastre/api.Value. -/
def ok24 (x : S24) : Prop := (-9223372036854775808 ≤ x.f0 ∧ x.f0 < 9223372036854775808) ∧ (-9223372036854775808 ≤ x.f1 ∧ x.f1 < 9223372036854775808) ∧ (x.f2.size ≤ 140737488351232)
theorem op24 : Opn Try.prog 24 k24 ok24 :=
  Opn.struct (fun x : S24 => (x.f0, x.f1, x.f2)) (fun v => ⟨⟨v.1, v.2.1, v.2.2⟩, rfl⟩) Try.underlying24 (by kernel_rfl) (OpF.cons rfl (by kernel_rfl) (Opn.i64 Try.underlying3) (OpF.cons rfl (by kernel_rfl) (Opn.i64 Try.underlying2) (OpF.one rfl (by kernel_rfl) (Opn.string Try.underlying9))))
/-- The bounds of a cadastre/cadastrelaw3.Two. -/
def ok37 (x : S37) : Prop := (ok24 x.f0) ∧ (ok24 x.f1) ∧ (-9223372036854775808 ≤ x.f2 ∧ x.f2 < 9223372036854775808)
theorem op37 : Opn Try.prog 37 k37 ok37 :=
  Opn.struct (fun x : S37 => (x.f0, x.f1, x.f2)) (fun v => ⟨⟨v.1, v.2.1, v.2.2⟩, rfl⟩) Try.underlying37 (by kernel_rfl) (OpF.cons rfl (by kernel_rfl) op24 (OpF.cons rfl (by kernel_rfl) op24 (OpF.one rfl (by kernel_rfl) (Opn.i64 Try.underlying3))))
end Go.Proofs.Ytaodnkhpiiepiaa.L
