/-
  A function that answers a row of the caller's own, laid anew, in the reckoning machine's words; the library's slices.Grow of nil.
-/
import Derived.Test.YtekjibpkkgldgaaAxBody
import Derived.Shelf.Spec.SlicesGrow
namespace Go.AX
open Go
variable {X : Univ} {P : Program}
/-- A row of one's own, laid anew or nil. -/
theorem con_own (hX : ∀ u, 0 < X.width u) {f : FuncId} {args : List (AV X.U)} (hne : args ≠ []) {u : X.U} (h : ∀ (w : World) (cargs : Array Value), cargs.size = args.length →
      (∀ (i : Nat) (a : AV X.U), args[i]? = some a → ∃ cl m lv, V X cl w m lv a (cargs.getD i Go.undef)) →
      Calls P f cargs w fun e w' => ∃ ao n cap, e = .returned (.slice ao n cap) ∧ w'.os = w.os ∧ w'.tape = w.tape ∧ w'.output = w.output ∧ w.heap.size ≤ w'.heap.size ∧ (∀ b, b < w.heap.size → w'.heap[b]? = w.heap[b]?) ∧
        (∀ cl : Nat → Nat, (∀ b, w.heap.size ≤ b → cl b = 0) → OwnAt X cl w' u ao n cap) ∧ ∀ ad, ao = some ad → w.heap.size ≤ ad.block ∧ ad.block < w'.heap.size) : Con P f args [] (.own u) [] := by
  intro D cl m w cargs hcs hR
  refine (h w cargs hcs fun i a hi => ⟨cl, m, _, by
    have := hR.env i
    have e : ({ env := zipI 0 args, hp := zipI 1000 [] } : St X.U).look i = a := by
      simp only [St.look, assoc_zipI, Nat.zero_le, if_true, Nat.sub_zero, hi]; rfl
    rw [e] at this; exact this⟩).mono ?_
  rintro e w' ⟨ao, n, cap, rfl, h1, h2, h3, h4, h5, h6, h7⟩
  have hg := hR.grow hX h1 h2 h3 h4 h5
  have ho := h6 cl (fun b hb => hR.top b hb)
  have hpos : 0 < cargs.size := by rw [hcs]; exact List.length_pos_iff.2 hne
  have hp := hg.put (d := 0) (v := .own u) (c := .slice ao n cap) hpos (.own ho) rfl (fun b hb => by
    cases ao with
    | none => simp [blk] at hb
    | some ad =>
      simp only [blk, Option.some.injEq] at hb; subst hb
      obtain ⟨k1, k2⟩ := h7 ad rfl
      exact ⟨fun l hl => by have := (hR.mine l _ (grow_ow hR h5 hl)).1; omega, k2, .inr k1, hR.top _ k1⟩)
  refine ⟨_, cl, m, rfl, hp.result (v := .own u) (c := .slice ao n cap) (fun lv => .own ho) (fun id c hc => by simp [zipI, assoc] at hc) (fun k hk => ⟨0, ?_⟩), .inl rfl⟩
  simp only [Ow, look_put, if_pos rfl]
  rw [show (cargs.setIfInBounds 0 (.slice ao n cap)).getD 0 Go.undef = .slice ao n cap by simp [Array.getD, hpos]]
  exact hk
/-- slices.Grow of nil. -/
theorem con_growNil (hX : ∀ u, 0 < X.width u) {f : FuncId} {ty : TypeId} {z : Value} {u : X.U} {get : Nat → PV X.U} (hu : X.view u = .sl 0 get) (he : X.esz u = 1) (hz : z.cells.size = 1) {n : Int} (h0 : 0 ≤ n) (h1 : n ≤ 140737488355328)
    (hroom : ∀ w : World, Calls P f #[.slice none 0 0, .int .i64 (0 : Nat)] w fun e w' => e = .returned (.slice none 0 0) ∧ w' = w)
    (hgrow : ∀ (n : Nat) (w : World), 0 < n → n ≤ 140737488355328 → Calls P f #[.slice none 0 0, .int .i64 n] w fun e w' =>
      e = .returned (.slice (some ⟨w.heap.size, 0, none⟩) 0 (grownCap w n 0 ty)) ∧ w' = w.drew.alloc (.cells (#[] ++ Builtin.zeroCells z.cells n ++ Builtin.zeroCells z.cells (grownCap w n 0 ty - n)) ty)) :
    Con P f [.nil, .pv (.int .i64 n)] [] (.own u) [] := by
  refine con_own hX (by simp) fun w cargs hs hv => ?_
  have v0 : ∀ (x : Value) (cl : Nat → Nat) (m : Nat → Nat) (lv : Lc → Option Value), V X cl w m lv .nil x → x = .slice none 0 0 := by
    intro x cl m lv h
    cases h; rfl
  have v1 : ∀ (x : Value) (cl : Nat → Nat) (m : Nat → Nat) (lv : Lc → Option Value), V X cl w m lv (.pv (.int .i64 n)) x → x = .int .i64 n := by
    intro x cl m lv h
    cases h with | pv h => cases h; rfl
  obtain ⟨cl0, m0, lv0, k0⟩ := hv 0 _ rfl
  obtain ⟨cl1, m1, lv1, k1⟩ := hv 1 _ rfl
  replace k0 := v0 _ _ _ _ k0
  replace k1 := v1 _ _ _ _ k1
  have e : cargs = #[.slice none 0 0, .int .i64 n] := by
    apply Array.ext
    · exact hs
    · intro i hi hi2
      have : i = 0 ∨ i = 1 := by simp at hi2; omega
      rcases this with rfl | rfl
      · rw [← Array.getElem_eq_getD (fallback := Go.undef)] at k0; exact k0
      · rw [← Array.getElem_eq_getD (fallback := Go.undef)] at k1; exact k1
  rw [e]
  obtain ⟨k, rfl⟩ : ∃ k : Nat, n = k := ⟨n.toNat, by omega⟩
  by_cases hk : k = 0
  · subst hk
    refine (hroom w).mono ?_
    rintro e w' ⟨rfl, rfl⟩
    exact ⟨none, 0, 0, rfl, rfl, rfl, rfl, Nat.le_refl _, fun _ _ => rfl, fun cl _ => ⟨[], get, hu, rfl, fun i hi => absurd hi (by simp), fun v hv => absurd hv (by simp), Nat.le_refl _, .inl ⟨rfl, rfl⟩⟩, fun ad h => by cases h⟩
  · refine (hgrow k w (by omega) (by omega)).mono ?_
    rintro e w' ⟨rfl, rfl⟩
    have hge := grownCap_ge w k 0 ty
    refine ⟨_, _, _, rfl, rfl, rfl, rfl, by simp, fun b hb => heap_alloc_old w.drew _ hb, fun cl hcl => ⟨[], get, hu, rfl, fun i hi => absurd hi (by simp), fun v hv => absurd hv (by simp), Nat.zero_le _,
      .inr ⟨_, _, _, _, rfl, rfl, hcl _ (Nat.le_refl _), heap_alloc_new w.drew _, ?_, fun q _ h => by simp at h, fun q c hq => by simp [flat] at hq⟩⟩, fun ad h => by cases h; exact ⟨Nat.le_refl _, by simp⟩⟩
    rw [he]
    simp only [Array.size_append, List.size_toArray, size_zeroCells, hz]
    simp; omega
theorem con_growL (hX : XOK X) (hT : TOK P X) {R : Go.Shelf.Ren} (L : Go.Proofs.Lays8.n4 P R) {u : X.U} {get : Nat → PV X.U} (hu : X.view u = .sl 0 get) (he : X.esz u = 1) {td : TD} (hty : X.ty (R.t 25) = some ⟨td, 1, 1⟩) (hzw : zeroW X (R.t 25) = some 1)
    {n : Int} (h0 : 0 ≤ n) (h1 : n ≤ 140737488355328) : Con P (R.f 4) [.nil, .pv (.int .i64 n)] [] (.own u) [] := by
  unfold zeroW at hzw
  cases hze : X.zero (R.t 25) with
  | none => rw [hze] at hzw; simp at hzw
  | some zl =>
  rw [hze] at hzw
  simp only [Option.map_some, Option.some.injEq] at hzw
  obtain ⟨info, dd, i1, i2, i3, i4, _⟩ := hT.ty (R.t 25) _ hty
  simp only at i2 i3
  obtain ⟨info', zv, vz, j1, j2, j3, j4, _⟩ := hT.zero (R.t 25) _ hze
  rw [i1] at j1; cases j1
  have hzsz : zv.cells.size = 1 := by rw [← Array.length_toList, j3, (j4 (fun _ => 0) (default : World) (fun b => b) (fun _ => none)).size, hzw]
  refine con_growNil hX.wpos hu he hzsz h0 h1 (ty := R.t 25) (fun w => ?_) (fun n w k1 k2 => ?_)
  · exact Go.Proofs.Any8.slices_Grow_room L none 0 0 0 w (Nat.le_refl _) (by omega) (by omega) (by omega)
  · have := Go.Proofs.Any8.slices_Grow_grow L info zv i1 j2 (by omega) none 0 0 n [] w (Nat.le_refl _) (by omega) (by rw [i3]; omega) (by omega) (by simp) (fun _ => rfl) (fun a h => by cases h)
    simpa using this
end Go.AX
