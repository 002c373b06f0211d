/-
  What a function that the kit's walk steps through answers, in the reckoning machine's words: plain values in, a plain value out, the world as it was.
-/
import Derived.Test.YtepekanlplbciaaAxBody
import Derived.Lib.Bytealg
import Derived.Tactics
import Derived.WalkKit
import Derived.RowKit3
import Derived.Deep.QuietTactic
namespace Go.AX
open Go
variable {X : Univ} {P : Program}

theorem con_flat {f : FuncId} {args : List (AV X.U)} {v : PV X.U} (h : ∀ (w : World) (cargs : Array Value), cargs.size = args.length →
      (∀ (i : Nat) (a : AV X.U), args[i]? = some a → ∃ cl m lv, V X cl w m lv a (cargs.getD i Go.undef)) →
      ∃ c, (∀ cl, VP X cl w v c) ∧ Calls P f cargs w fun e w' => e = .returned c ∧ w' = w) : Con P f args [] (.pv v) [] := by
  intro D cl m w cargs hcs hR
  obtain ⟨c, hv, hc⟩ := h w cargs hcs fun i a hi => ⟨cl, m, _, by
    have := hR.env i
    have e : ({ env := zipI 0 args, hp := zipI 1000 [] } : St X.U).look i = a := by
      simp only [St.look, assoc_zipI, Nat.zero_le, if_true, Nat.sub_zero, hi]; rfl
    rw [e] at this; exact this⟩
  refine hc.mono ?_
  rintro e w' ⟨rfl, rfl⟩
  exact ⟨c, cl, m, rfl, hR.result (fun lv => .pv (hv cl)) (fun id c hc => by simp [zipI, assoc] at hc) (fun k hk => by simp [blk] at hk), .inl rfl⟩
/-- A text and a byte in, a number out. -/
theorem con_strByte {f : FuncId} {s : ByteArray} {c n : Int} (h : ∀ w, Calls P f #[.string s, .int .u8 c] w fun e w' => e = .returned (.int .i64 n) ∧ w' = w) :
    Con (X := X) P f [.pv (.str s), .pv (.int .u8 c)] [] (.pv (.int .i64 n)) [] :=
  con_flat fun w cargs hs hv => by
    have v0 : ∀ (x : Value) (cl : Nat → Nat) (m : Nat → Nat) (lv : Lc → Option Value), V X cl w m lv (.pv (.str s)) x → x = .string s := by
      intro x cl m lv h
      cases h with | pv h => cases h; rfl
    have v1 : ∀ (x : Value) (cl : Nat → Nat) (m : Nat → Nat) (lv : Lc → Option Value), V X cl w m lv (.pv (.int .u8 c)) x → x = .int .u8 c := by
      intro x cl m lv h
      cases h with | pv h => cases h; rfl
    obtain ⟨cl0, m0, lv0, h0⟩ := hv 0 _ rfl
    obtain ⟨cl1, m1, lv1, h1⟩ := hv 1 _ rfl
    replace h0 := v0 _ _ _ _ h0
    replace h1 := v1 _ _ _ _ h1
    have e : cargs = #[.string s, .int .u8 c] := by
      apply Array.ext
      · exact hs
      · intro i hi hi2
        have : i = 0 ∨ i = 1 := by simp at hi2; omega
        rcases this with rfl | rfl
        · rw [← Array.getElem_eq_getD (fallback := Go.undef)] at h0; exact h0
        · rw [← Array.getElem_eq_getD (fallback := Go.undef)] at h1; exact h1
    rw [e]
    exact ⟨_, fun cl => .int _ _, h w⟩
end Go.AX
