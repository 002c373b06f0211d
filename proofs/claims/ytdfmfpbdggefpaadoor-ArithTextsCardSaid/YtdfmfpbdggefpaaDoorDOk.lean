/-
  How a law's parameter reads as plain data, and the bounds that its datum gives.
-/
import Derived.Test.YtdfmfpbdggefpaaDoorAxRow
import Derived.Test.YtdfmfpbdggefpaaDoorDU
namespace Go.Proofs.YtdfmfpbdggefpaaDoor.D
open Go Go.AX
/-- The bounds of a cadastre/api.Value. -/
def ok23 (x : S23) : Prop := (-9223372036854775808 ≤ x.f0 ∧ x.f0 < 9223372036854775808) ∧ (-9223372036854775808 ≤ x.f1 ∧ x.f1 < 9223372036854775808) ∧ (x.f2.size ≤ 140737488351232)
theorem rd24 : Rd UX Tryd.prog 24 (fun x : S23 => [.int .i64 x.f0, .int .i64 x.f1, .str x.f2]) ok23 :=
  Rd.struct (fun x : S23 => (x.f0, x.f1, x.f2)) (fun v => ⟨⟨v.1, v.2.1, v.2.2⟩, rfl⟩) (fun _ => rfl) Tryd.underlying24 (by kernel_rfl) (RdF.cons (n := 1) rfl (by kernel_rfl) (Rd.i64 Tryd.underlying3) (RdF.cons (n := 1) rfl (by kernel_rfl) (Rd.i64 Tryd.underlying2) (RdF.one (n := 1) rfl (by kernel_rfl) (Rd.string Tryd.underlying9))))
/-- The bounds of a cadastre/cadastrelaw5.Ask. -/
def ok25 (x : S25) : Prop := (x.f0.size ≤ 140737488351232) ∧ (ok23 x.f1) ∧ (-9223372036854775808 ≤ x.f2 ∧ x.f2 < 9223372036854775808)
theorem rd26 : Rd UX Tryd.prog 26 (fun x : S25 => [.str x.f0, .int .i64 x.f1.f0, .int .i64 x.f1.f1, .str x.f1.f2, .int .i64 x.f2]) ok25 :=
  Rd.struct (fun x : S25 => (x.f0, x.f1, x.f2)) (fun v => ⟨⟨v.1, v.2.1, v.2.2⟩, rfl⟩) (fun _ => rfl) Tryd.underlying26 (by kernel_rfl) (RdF.cons (n := 1) rfl (by kernel_rfl) (Rd.string Tryd.underlying9) (RdF.cons (n := 3) rfl (by kernel_rfl) rd24 (RdF.one (n := 1) rfl (by kernel_rfl) (Rd.i64 Tryd.underlying3))))
/-- The bounds of a cadastre/cadastrelaw4.Two. -/
def ok45 (x : S45) : Prop := (ok23 x.f0) ∧ (ok23 x.f1) ∧ (-9223372036854775808 ≤ x.f2 ∧ x.f2 < 9223372036854775808)
theorem rd46 : Rd UX Tryd.prog 46 (fun x : S45 => [.int .i64 x.f0.f0, .int .i64 x.f0.f1, .str x.f0.f2, .int .i64 x.f1.f0, .int .i64 x.f1.f1, .str x.f1.f2, .int .i64 x.f2]) ok45 :=
  Rd.struct (fun x : S45 => (x.f0, x.f1, x.f2)) (fun v => ⟨⟨v.1, v.2.1, v.2.2⟩, rfl⟩) (fun _ => rfl) Tryd.underlying46 (by kernel_rfl) (RdF.cons (n := 3) rfl (by kernel_rfl) rd24 (RdF.cons (n := 3) rfl (by kernel_rfl) rd24 (RdF.one (n := 1) rfl (by kernel_rfl) (Rd.i64 Tryd.underlying3))))
end Go.Proofs.YtdfmfpbdggefpaaDoor.D
