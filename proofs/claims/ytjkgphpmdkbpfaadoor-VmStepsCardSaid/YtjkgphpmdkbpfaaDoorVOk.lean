/-
  How a law's parameter reads as plain data, and the bounds that its datum gives.
-/
import Derived.Test.YtjkgphpmdkbpfaaDoorAxRow
import Derived.Test.YtjkgphpmdkbpfaaDoorVU
namespace Go.Proofs.YtjkgphpmdkbpfaaDoor.V
open Go Go.AX
/-- The bounds of a cadastre/api.Value. -/
def ok29 (x : S29) : Prop := (-9223372036854775808 ≤ x.f0 ∧ x.f0 < 9223372036854775808) ∧ (-9223372036854775808 ≤ x.f1 ∧ x.f1 < 9223372036854775808) ∧ (x.f2.size ≤ 140737488351232)
theorem rd30 : Rd UX Tryd.prog 30 (fun x : S29 => [.int .i64 x.f0, .int .i64 x.f1, .str x.f2]) ok29 :=
  Rd.struct (fun x : S29 => (x.f0, x.f1, x.f2)) (fun v => ⟨⟨v.1, v.2.1, v.2.2⟩, rfl⟩) (fun _ => rfl) Tryd.underlying30 (by kernel_rfl) (RdF.cons (n := 1) rfl (by kernel_rfl) (Rd.i64 Tryd.underlying3) (RdF.cons (n := 1) rfl (by kernel_rfl) (Rd.i64 Tryd.underlying2) (RdF.one (n := 1) rfl (by kernel_rfl) (Rd.string Tryd.underlying9))))
/-- The bounds of a cadastre/api.Code. -/
def ok43 (x : S43) : Prop := (-9223372036854775808 ≤ x.f0 ∧ x.f0 < 9223372036854775808) ∧ (-9223372036854775808 ≤ x.f1 ∧ x.f1 < 9223372036854775808) ∧ (-9223372036854775808 ≤ x.f2 ∧ x.f2 < 9223372036854775808) ∧ (-9223372036854775808 ≤ x.f3 ∧ x.f3 < 9223372036854775808) ∧ (ok29 x.f4) ∧ (-9223372036854775808 ≤ x.f5 ∧ x.f5 < 9223372036854775808)
theorem rd44 : Rd UX Tryd.prog 44 (fun x : S43 => [.int .i64 x.f0, .int .i64 x.f1, .int .i64 x.f2, .int .i64 x.f3, .int .i64 x.f4.f0, .int .i64 x.f4.f1, .str x.f4.f2, .int .i64 x.f5]) ok43 :=
  Rd.struct (fun x : S43 => (x.f0, x.f1, x.f2, x.f3, x.f4, x.f5)) (fun v => ⟨⟨v.1, v.2.1, v.2.2.1, v.2.2.2.1, v.2.2.2.2.1, v.2.2.2.2.2⟩, rfl⟩) (fun _ => rfl) Tryd.underlying44 (by kernel_rfl) (RdF.cons (n := 1) rfl (by kernel_rfl) (Rd.i64 Tryd.underlying3) (RdF.cons (n := 1) rfl (by kernel_rfl) (Rd.i64 Tryd.underlying3) (RdF.cons (n := 1) rfl (by kernel_rfl) (Rd.i64 Tryd.underlying3) (RdF.cons (n := 1) rfl (by kernel_rfl) (Rd.i64 Tryd.underlying3) (RdF.cons (n := 3) rfl (by kernel_rfl) rd30 (RdF.one (n := 1) rfl (by kernel_rfl) (Rd.i64 Tryd.underlying3)))))))
/-- The bounds of a cadastre/cadastrelaw24.Ask. -/
def ok25 (x : S25) : Prop := (x.f0.length * 72 ≤ 140737488351232 ∧ x.f0.length ≤ 9223372036854775807 ∧ ∀ y ∈ x.f0, (ok43 y)) ∧ (x.f1.length * 32 ≤ 140737488351232 ∧ x.f1.length ≤ 9223372036854775807 ∧ ∀ y ∈ x.f1, (ok29 y)) ∧ (-9223372036854775808 ≤ x.f2 ∧ x.f2 < 9223372036854775808) ∧ (-9223372036854775808 ≤ x.f3 ∧ x.f3 < 9223372036854775808)
theorem rd26 : Rd UX Tryd.prog 26 (fun x : S25 => [.typ (.l43 x.f0), .typ (.l29 x.f1), .int .i64 x.f2, .int .i64 x.f3]) ok25 :=
  Rd.struct (fun x : S25 => (x.f0, x.f1, x.f2, x.f3)) (fun v => ⟨⟨v.1, v.2.1, v.2.2.1, v.2.2.2⟩, rfl⟩) (fun _ => rfl) Tryd.underlying26 (by kernel_rfl) (RdF.cons (n := 1) rfl (by kernel_rfl) (Rd.slice (X := UX) (C := UU.l43) (g := (fun x => .typ (.s43 x))) (d := default) (n := 8) Tryd.underlying23 (by kernel_rfl) (by decide) (by kernel_rfl) (fun _ => rfl) (fun _ => rfl) (El.struct (X := UX) (fun x => UU.s43 x) _ (fun _ => rfl)) rd44) (RdF.cons (n := 1) rfl (by kernel_rfl) (Rd.slice (X := UX) (C := UU.l29) (g := (fun x => .typ (.s29 x))) (d := default) (n := 3) Tryd.underlying24 (by kernel_rfl) (by decide) (by kernel_rfl) (fun _ => rfl) (fun _ => rfl) (El.struct (X := UX) (fun x => UU.s29 x) _ (fun _ => rfl)) rd30) (RdF.cons (n := 1) rfl (by kernel_rfl) (Rd.i64 Tryd.underlying3) (RdF.one (n := 1) rfl (by kernel_rfl) (Rd.i64 Tryd.underlying3)))))
end Go.Proofs.YtjkgphpmdkbpfaaDoor.V
