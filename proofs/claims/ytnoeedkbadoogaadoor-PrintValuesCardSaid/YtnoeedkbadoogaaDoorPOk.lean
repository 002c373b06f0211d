/-
  How a law's parameter reads as plain data, and the bounds that its datum gives.
-/
import Derived.Test.YtnoeedkbadoogaaDoorAxRec
import Derived.Test.YtnoeedkbadoogaaDoorPU
namespace Go.Proofs.YtnoeedkbadoogaaDoor.P
open Go Go.AX
/-- The bounds of a cadastre/api.Value. -/
def ok23 (x : S23) : Prop := (-9223372036854775808 ≤ x.f0 ∧ x.f0 < 9223372036854775808) ∧ (-9223372036854775808 ≤ x.f1 ∧ x.f1 < 9223372036854775808) ∧ (x.f2.size ≤ 140737488351232)
theorem rd24 : Rd UX Tryd.prog 24 (fun x : S23 => [.int .i64 x.f0, .int .i64 x.f1, .str x.f2]) ok23 :=
  Rd.struct (fun x : S23 => (x.f0, x.f1, x.f2)) (fun v => ⟨⟨v.1, v.2.1, v.2.2⟩, rfl⟩) (fun _ => rfl) Tryd.underlying24 (by kernel_rfl) (RdF.cons (n := 1) rfl (by kernel_rfl) (Rd.i64 Tryd.underlying3) (RdF.cons (n := 1) rfl (by kernel_rfl) (Rd.i64 Tryd.underlying2) (RdF.one (n := 1) rfl (by kernel_rfl) (Rd.string Tryd.underlying9))))
/-- The bounds of a cadastre/api.Expr. -/
inductive T25.ok : T25 → Prop
  | mk (x : T25) : ((-9223372036854775808 ≤ x.s.f0 ∧ x.s.f0 < 9223372036854775808) ∧ (ok23 x.s.f1) ∧ (x.s.f2.size ≤ 140737488351232) ∧ (x.s.f3.size ≤ 140737488351232) ∧ (x.s.f4.length * 96 ≤ 140737488351232 ∧ x.s.f4.length ≤ 9223372036854775807)) → (∀ y ∈ x.s.f4, T25.ok y) → T25.ok x
theorem rdT25 : ∀ N, RdN UX Tryd.prog N 26 (fun x : T25 => [.int .i64 x.s.f0, .int .i64 x.s.f1.f0, .int .i64 x.s.f1.f1, .str x.s.f1.f2, .str x.s.f2, .str x.s.f3, .typ (.l25 x.s.f4)]) T25.ok
  | 0 => RdN.zero
  | N + 1 => ((RdN.struct (N := N + 1) (fun x : T25 => (x.s.f0, x.s.f1, x.s.f2, x.s.f3, x.s.f4)) (fun v => ⟨.mk v.1 v.2.1 v.2.2.1 v.2.2.2.1 v.2.2.2.2, rfl⟩) (fun _ => rfl) Tryd.underlying26 (by kernel_rfl) (RdFN.cons (n := 1) rfl (by kernel_rfl) (RdN.of (Rd.i64 Tryd.underlying3)) (RdFN.cons (n := 3) rfl (by kernel_rfl) (RdN.of rd24) (RdFN.cons (n := 1) rfl (by kernel_rfl) (RdN.of (Rd.string Tryd.underlying9)) (RdFN.cons (n := 1) rfl (by kernel_rfl) (RdN.of (Rd.string Tryd.underlying9)) (RdFN.one (n := 1) rfl (by kernel_rfl) (RdN.slice (X := UX) (C := UU.l25) (g := (fun x => .typ (.s25 x.s))) (d := default) (n := 7) Tryd.underlying22 (by kernel_rfl) (by decide) (by kernel_rfl) (fun _ => rfl) (fun _ => rfl) (El.struct (X := UX) (fun x : T25 => UU.s25 x.s) _ (fun _ => rfl)) (rdT25 N)))))))).mono (Nat.le_succ _)).imp fun x h => .mk x ⟨h.1, h.2.1, h.2.2.1, h.2.2.2.1, h.2.2.2.2.1⟩ h.2.2.2.2.2
theorem T25.st (x : T25) : x.s.t = x := by cases x; rfl
theorem rd26 : Rd UX Tryd.prog 26 (fun x : S25 => [.int .i64 x.f0, .int .i64 x.f1.f0, .int .i64 x.f1.f1, .str x.f1.f2, .str x.f2, .str x.f3, .typ (.l25 x.f4)]) (fun x => T25.ok x.t) := Rd.map (Rd.ofN rdT25) T25.s (fun _ => rfl) (fun x h => by rw [T25.st]; exact h)
end Go.Proofs.YtnoeedkbadoogaaDoor.P
