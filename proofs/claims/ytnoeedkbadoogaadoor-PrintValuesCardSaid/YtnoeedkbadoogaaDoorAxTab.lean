/-
  Tables of the library's that functions read, in the reckoning machine's words; what a function answers that reads them and lays blocks of its own.
-/
import Derived.Test.YtnoeedkbadoogaaDoorAxBody
import Derived.RowKit3
import Derived.Lib.LaidTab
import Derived.Lib.AppendIntMem
import Derived.Shelf.Strconv.Itoa4
namespace Go.AX
open Go
variable {X : Univ} {P : Program}

/-! Tables of the library's. -/
/-- A table reads as it is laid, and no one writes its block. -/
def TabOk (P : Program) (D : Nat → Prop) (w : World) (name : String) (k : IntKind) (zs : List Int) : Prop :=
  Lib.TabIs P w name k zs ∧ ∀ g, P.globalNamed name = some g → g < w.heap.size ∧ ¬ D g
theorem tabOk_keep {D D' : Nat → Prop} {w w' : World} {name : String} {k : IntKind} {zs : List Int} (h : TabOk P D w name k zs) (h1 : w.heap.size ≤ w'.heap.size) (h2 : ∀ b, b < w.heap.size → ¬ D b → w'.heap[b]? = w.heap[b]?)
    (h3 : ∀ b, D' b → D b ∨ w.heap.size ≤ b) : TabOk P D' w' name k zs := by
  refine ⟨?_, fun g hg => ?_⟩
  · have ht := h.1
    unfold Lib.TabIs World.var? at *
    cases hg : P.globalNamed name with
    | none => rw [hg] at ht; cases ht
    | some g =>
      obtain ⟨k1, k2⟩ := h.2 g hg
      rw [hg] at ht
      simp only [Option.bind_some] at ht ⊢
      rw [h2 g k1 k2]; exact ht
  · obtain ⟨k1, k2⟩ := h.2 g hg
    refine ⟨by omega, fun hd => ?_⟩
    rcases h3 g hd with h | h
    · exact k2 h
    · omega
/-- As con_flat, of a function that may read what is laid, draw and lay blocks. -/
theorem con_grow (hX : ∀ u, 0 < X.width u) {f : FuncId} {args : List (AV X.U)} {v : PV X.U} (h : ∀ (D : Nat → Prop) (w : World) (cargs : Array Value), X.inv D w → cargs.size = args.length →
      (∀ (i : Nat) (a : AV X.U), args[i]? = some a → ∃ cl m lv, V X cl w m lv a (cargs.getD i Go.undef)) →
      ∃ c, (∀ cl w, VP X cl w v c) ∧ Calls P f cargs w fun e w' => e = .returned c ∧ Go.RowKit.Below w.heap.size w w') : Con P f args [] (.pv v) [] := by
  intro D cl m w cargs hcs hR
  obtain ⟨c, hv, hc⟩ := h D w cargs hR.inv hcs fun i a hi => ⟨cl, m, _, by
    have := hR.env i
    have e : ({ env := zipI 0 args, hp := zipI 1000 [] } : St X.U).look i = a := by
      simp only [St.look, assoc_zipI, Nat.zero_le, if_true, Nat.sub_zero, hi]; rfl
    rw [e] at this; exact this⟩
  refine hc.mono ?_
  rintro e w' ⟨rfl, hb⟩
  exact ⟨c, cl, m, rfl, (hR.grow hX hb.os hb.tape hb.output hb.size hb.block).result (fun lv => .pv (hv cl w')) (fun id c hc => by simp [zipI, assoc] at hc) (fun k hk => by simp [blk] at hk), .inl rfl⟩
/-- A number and a number in, a text out. -/
theorem con_numNum (hX : ∀ u, 0 < X.width u) {f : FuncId} {k1 k2 : IntKind} {a b : Int} {s : ByteArray} (h : ∀ D w, X.inv D w → Calls P f #[.int k1 a, .int k2 b] w fun e w' => e = .returned (.string s) ∧ Go.RowKit.Below w.heap.size w w') :
    Con (X := X) P f [.pv (.int k1 a), .pv (.int k2 b)] [] (.pv (.str s)) [] :=
  con_grow hX fun D w cargs hI hs hv => by
    have v0 : ∀ (k : IntKind) (n : Int) (x : Value) (cl : Nat → Nat) (m : Nat → Nat) (lv : Lc → Option Value), V X cl w m lv (.pv (.int k n)) x → x = .int k n := by
      intro k n x cl m lv h
      cases h with | pv h => cases h; rfl
    obtain ⟨cl0, m0, lv0, h0⟩ := hv 0 _ rfl
    obtain ⟨cl1, m1, lv1, h1⟩ := hv 1 _ rfl
    replace h0 := v0 _ _ _ _ _ _ h0
    replace h1 := v0 _ _ _ _ _ _ h1
    have e : cargs = #[.int k1 a, .int k2 b] := by
      apply Array.ext
      · exact hs
      · intro i hi hi2
        have : i = 0 ∨ i = 1 := by simp at hi2; omega
        rcases this with rfl | rfl
        · rw [← Array.getElem_eq_getD (fallback := Go.undef)] at h0; exact h0
        · rw [← Array.getElem_eq_getD (fallback := Go.undef)] at h1; exact h1
    rw [e]
    exact ⟨_, fun cl w => .str _, h D w hI⟩
end Go.AX
