/-
  How a law's parameter reads as plain data, and the bounds that its datum gives.
-/
import Derived.Test.YtekjibpkkgldgaaAxRow
import Derived.Test.YtekjibpkkgldgaaRU
namespace Go.Proofs.Ytekjibpkkgldgaa.R
open Go Go.AX
/-- The bounds of a cadastre/api.Value. -/
def ok44 (x : S44) : Prop := (-9223372036854775808 ≤ x.f0 ∧ x.f0 < 9223372036854775808) ∧ (-9223372036854775808 ≤ x.f1 ∧ x.f1 < 9223372036854775808) ∧ (x.f2.size ≤ 140737488351232)
theorem rd45 : Rd UX Try.prog 45 (fun x : S44 => [.int .i64 x.f0, .int .i64 x.f1, .str x.f2]) ok44 :=
  Rd.struct (fun x : S44 => (x.f0, x.f1, x.f2)) (fun v => ⟨⟨v.1, v.2.1, v.2.2⟩, rfl⟩) (fun _ => rfl) Try.underlying45 (by kernel_rfl) (RdF.cons (n := 1) rfl (by kernel_rfl) (Rd.i64 Try.underlying3) (RdF.cons (n := 1) rfl (by kernel_rfl) (Rd.i64 Try.underlying2) (RdF.one (n := 1) rfl (by kernel_rfl) (Rd.string Try.underlying9))))
/-- The bounds of a cadastre/cadastrelaw6.Ask. -/
def ok34 (x : S34) : Prop := (x.f0.length * 32 ≤ 140737488351232 ∧ x.f0.length ≤ 9223372036854775807 ∧ ∀ y ∈ x.f0, (ok44 y)) ∧ (x.f1.length * 1 ≤ 140737488351232 ∧ x.f1.length ≤ 9223372036854775807 ∧ ∀ y ∈ x.f1, (0 ≤ y ∧ y < 256))
theorem rd35 : Rd UX Try.prog 35 (fun x : S34 => [.typ (.l44 x.f0), .typ (.li_u8 x.f1)]) ok34 :=
  Rd.struct (fun x : S34 => (x.f0, x.f1)) (fun v => ⟨⟨v.1, v.2⟩, rfl⟩) (fun _ => rfl) Try.underlying35 (by kernel_rfl) (RdF.cons (n := 1) rfl (by kernel_rfl) (Rd.slice (X := UX) (C := UU.l44) (g := (fun x => .typ (.s44 x))) (d := default) (n := 3) Try.underlying33 (by kernel_rfl) (by decide) (by kernel_rfl) (fun _ => rfl) (fun _ => rfl) (El.struct (X := UX) (fun x => UU.s44 x) _ (fun _ => rfl)) rd45) (RdF.one (n := 1) rfl (by kernel_rfl) (Rd.slice (X := UX) (C := UU.li_u8) (g := (fun n : Int => .int .u8 n)) (d := (0 : Int)) (n := 1) Try.underlying25 (by kernel_rfl) (by decide) (by kernel_rfl) (fun _ => rfl) (fun _ => rfl) (El.one (X := UX) (fun n : Int => .int .u8 n) (fun _ => rfl) (by intro cl w v c h; cases h; rfl)) (Rd.u8 Try.underlying5))))
end Go.Proofs.Ytekjibpkkgldgaa.R
