/-
  The relation where a box is written, where what is owned is handed over or told.
-/
import Derived.Test.YtepekanlplbciaaAxRelB
namespace Go.AX
open Go
variable {X : Univ} {cl cl' m m' : Nat → Nat} {w w' : World} {B : Base} {s s' : St X.U} {tm : Array Value}

theorem segsW_append : ∀ a b : List (AV X.U), segsW X (a ++ b) = segsW X a + segsW X b
  | [], b => by simp [segsW]
  | x :: r, b => by simp [segsW, segsW_append r b, Nat.add_assoc]
theorem segAt_append (hX : ∀ u, 0 < X.width u) : ∀ (a b : List (AV X.U)) (off : Nat), segAt X (a ++ b) off = if off < segsW X a then segAt X a off else segAt X b (off - segsW X a)
  | [], b, off => by simp [segsW]
  | x :: r, b, 0 => by have := segW_pos hX x; simp [segAt, segsW]; omega
  | x :: r, b, k + 1 => by
    have hx := segW_pos hX x
    have hsw : segsW X (x :: r) = x.segW X + segsW X r := rfl
    simp only [List.cons_append, segAt]
    by_cases hle : x.segW X ≤ k + 1
    · rw [if_pos hle, if_pos hle, segAt_append hX r b]
      by_cases h : k + 1 < segsW X (x :: r)
      · rw [if_pos (by omega), if_pos h]
      · rw [if_neg (by omega), if_neg h]; congr 1; omega
    · rw [if_neg hle, if_neg hle, if_pos (by omega)]
theorem takeW_eq : ∀ {l : List (AV X.U)} {n : Nat} {a b : List (AV X.U)}, takeW X l n = some (a, b) → l = a ++ b ∧ segsW X a = n
  | l, 0, a, b, h => by
    have : takeW X l 0 = some ([], l) := by cases l <;> rfl
    rw [this] at h; cases h; exact ⟨rfl, rfl⟩
  | [], n + 1, a, b, h => by simp [takeW] at h
  | x :: r, n + 1, a, b, h => by
    simp only [takeW] at h
    split at h
    · rename_i hle
      cases hr : takeW X r (n + 1 - x.segW X) with
      | none => simp [hr] at h
      | some p =>
        obtain ⟨a', b'⟩ := p
        simp only [hr, Option.map_some, Option.some.injEq, Prod.mk.injEq] at h
        obtain ⟨rfl, rfl⟩ := h
        obtain ⟨h1, h2⟩ := takeW_eq hr
        exact ⟨by rw [h1]; rfl, by simp [segsW, h2]; omega⟩
    · simp at h
/-- A part behind a span has been put: elsewhere all is as it was. -/
theorem segAt_putSpan (hX : ∀ u, 0 < X.width u) {c c' new : List (AV X.U)} {off0 n off : Nat} {x : AV X.U} (h : putSpan X c off0 n new = some c') (hs : segAt X c' off = some x) :
    segAt X c off = some x ∧ (off < off0 ∨ off0 + n ≤ off) ∨ (off0 ≤ off ∧ segAt X new (off - off0) = some x) := by
  unfold Go.AX.putSpan at h
  cases h1 : takeW X c off0 with
  | none => simp [h1] at h
  | some p =>
    obtain ⟨a, r⟩ := p
    simp only [h1] at h
    cases h2 : takeW X r n with
    | none => simp [h2] at h
    | some q =>
      obtain ⟨l', b⟩ := q
      simp only [h2] at h
      split at h
      · rename_i hw
        simp only [Option.some.injEq] at h
        subst h
        obtain ⟨rfl, ha⟩ := takeW_eq h1
        obtain ⟨rfl, hm⟩ := takeW_eq h2
        rw [segAt_append hX, segAt_append hX] at hs
        by_cases k1 : off < segsW X a
        · rw [if_pos k1] at hs
          refine .inl ⟨?_, by omega⟩
          rw [segAt_append hX, if_pos k1]; exact hs
        · rw [if_neg k1] at hs
          by_cases k2 : off - segsW X a < segsW X new
          · rw [if_pos k2] at hs
            exact .inr ⟨by omega, by rw [← ha]; exact hs⟩
          · rw [if_neg k2] at hs
            refine .inl ⟨?_, by omega⟩
            rw [segAt_append hX, if_neg k1, segAt_append hX, if_neg (by omega), hm, ← hw]; exact hs
      · simp at h

/-- What owns in a box, in cells. -/
def OwC (c : List (AV X.U)) (vs : List Value) (off b : Nat) : Prop :=
  ∃ u, segAt X c off = some (.own u) ∧ blk (AV.own u) (((flat vs)[off]?).getD Go.undef) = some b

theorem cellOf (h : w.heap[m 0]? = none ∨ True) {id off : Nat} {vs : List Value} {e : TypeId} {fz : Nat × Nat} (hh : w.heap[m id]? = some (.cells (flat vs).toArray e fz)) :
    w.cell? ⟨m id, off, none⟩ = (flat vs)[off]? := by
  simp [World.cell?, hh]

theorem ow_cell (h : Rel B cl m s tm w) {id off b : Nat} {c : List (AV X.U)} {vs : List Value} {e : TypeId} (hc : assoc s.hp id = some c) (hh : w.heap[m id]? = some (.cells (flat vs).toArray e (0, 0))) :
    Ow m s tm w (.cell id off) b ↔ OwC c vs off b := by
  constructor
  · rintro ⟨c', u, h1, h2, h3⟩
    rw [hc] at h1; cases h1
    rw [cellOf (.inr trivial) hh] at h3
    exact ⟨u, h2, h3⟩
  · rintro ⟨u, h2, h3⟩
    exact ⟨c, u, hc, h2, by rw [cellOf (.inr trivial) hh]; exact h3⟩

/-- A box is written: its block alone. -/
theorem Rel.setBox (hX : ∀ u, 0 < X.width u) (h : Rel B cl m s tm w) {id : Nat} {c c' : List (AV X.U)} {vs vs' : List Value} {e : TypeId} (hc : assoc s.hp id = some c)
    (hh : w.heap[m id]? = some (.cells (flat vs).toArray e (0, 0))) (hv : Vs X cl w m (lval m s tm w) c' vs') (hp : ∀ v ∈ c', v.at? = none)
    (w1 : w'.os = w.os) (w2 : w'.tape = w.tape) (w3 : w'.output = w.output) (w4 : w'.heap.size = w.heap.size) (w5 : ∀ b, b ≠ m id → w'.heap[b]? = w.heap[b]?)
    (w6 : w'.heap[m id]? = some (.cells (flat vs').toArray e (0, 0)))
    (ho : ∀ off b, OwC c' vs' off b → (∀ l, Ow m s tm w l b → l = .cell id off) ∧ (∀ off', OwC c' vs' off' b → off' = off) ∧ b < w.heap.size ∧ (B.D b ∨ B.w.heap.size ≤ b) ∧ cl b = 0) :
    Rel B cl m (s.setBox id c') tm w' := by
  have hmine := h.mine (.box id) _ ⟨⟨c, hc⟩, rfl⟩
  have hext : Ext cl w cl w' := Ext.of fun b h1 _ => ⟨by
    by_cases hb : b = m id
    · subst hb; omega
    · exact w5 b hb, Nat.le_refl _⟩
  have how : ∀ l b, Ow m (s.setBox id c') tm w' l b → ((∃ off, l = .cell id off ∧ OwC c' vs' off b) ∨ (Ow m s tm w l b ∧ ∀ off, l ≠ .cell id off)) := by
    intro l b h1
    cases l with
    | slot i =>
      refine .inr ⟨?_, by simp⟩
      simp only [Ow, look_setBox] at h1
      by_cases hm : (s.look i).atCell id = true
      · simp [hm, blk] at h1
      · simpa [Ow, hm] using h1
    | cell j off =>
      obtain ⟨c0, u, k1, k2, k3⟩ := h1
      simp only [St.setBox, assoc_assocSet] at k1
      by_cases hj : j = id
      · subst hj
        simp only [if_true, hc, Option.map_some, Option.some.injEq] at k1
        subst k1
        rw [cellOf (.inr trivial) w6] at k3
        exact .inl ⟨off, rfl, u, k2, k3⟩
      · simp only [hj, if_false] at k1
        refine .inr ⟨⟨c0, u, k1, k2, ?_⟩, fun off' e => hj (by cases e; rfl)⟩
        have : m j ≠ m id := fun e => hj (by
          have := h.sep (.box j) (.box id) (m j) ⟨⟨c0, k1⟩, rfl⟩ ⟨⟨c, hc⟩, e⟩
          cases this; rfl)
        rw [cell?_of_heap (w5 _ this)] at k3
        exact k3
    | box j =>
      obtain ⟨⟨c0, k1⟩, rfl⟩ := h1
      refine .inr ⟨⟨?_, rfl⟩, by simp⟩
      simp only [St.setBox, assoc_assocSet] at k1
      by_cases hj : j = id
      · subst hj; exact ⟨c, hc⟩
      · simp only [hj, if_false] at k1; exact ⟨c0, k1⟩
  have hne : ∀ l b, Ow m s tm w l b → l ≠ .box id → b ≠ m id := fun l b h1 h2 e => h2 (h.sep l (.box id) b h1 ⟨⟨c, hc⟩, e⟩)
  have hlv : ∀ l x, (∀ o, l ≠ .cell id o) → lval m (s.setBox id c') tm w' l = some x → lval m s tm w l = some x := by
    intro l x hl hx
    obtain ⟨⟨u, hu⟩, rfl⟩ := lval_some hx
    cases l with
    | slot i =>
      have : s.own (.slot i) = some u := by
        rw [own_slot, look_setBox] at hu; rw [own_slot]
        by_cases hm : (s.look i).atCell id = true
        · simp [hm, AV.own?] at hu
        · simpa [hm] using hu
      rw [lval_of this]; rfl
    | cell j off =>
      have hj : j ≠ id := fun e => hl off (by rw [e])
      rw [own_cell', St.setBox, assoc_assocSet, if_neg hj, ← own_cell'] at hu
      rw [lval_of hu]
      obtain ⟨c0, k1, _⟩ := own_cell hu
      have : m j ≠ m id := hne (.box j) _ ⟨⟨c0, k1⟩, rfl⟩ (by simpa using hj)
      rw [cval_cell_eq (w5 _ this)]
  refine ⟨⟨w1.trans h.fr.os, w2.trans h.fr.tape, w3.trans h.fr.output, by rw [w4]; exact h.fr.size, fun b hb hd => ?_⟩, fun i => ?_, fun j cj hcj => ?_, fun l l' b h1 h2 => ?_, fun l b h1 => ?_,
    fun b hb => h.top b (by rw [w4] at hb; exact hb), fun j cj hcj => ?_, h.inv⟩
  · have : b ≠ m id := fun e => by rw [e] at hb hd; rcases hmine.2.1 with k | k; exact hd k; omega
    rw [w5 b this]; exact h.fr.block b hb hd
  · rw [look_setBox]
    cases hm : (s.look i).atCell id with
    | true => simpa using V.undef _
    | false =>
      simp only [Bool.false_eq_true, if_false]
      refine ((h.env i).mono hext (m' := m) (fun _ _ => rfl) fun b hb => ?_).lv fun l x hat hx => hlv l x (fun o e => ?_) hx
      · exact ⟨w5 b (hne (.slot i) b hb (by simp)), (h.mine (.slot i) b hb).2.2⟩
      · subst e; cases hv' : s.look i <;> rw [hv'] at hat hm <;> simp [AV.at?] at hat <;> subst hat <;> simp [AV.atCell] at hm
  · simp only [St.setBox, assoc_assocSet] at hcj
    by_cases hj : j = id
    · subst hj
      simp only [if_true, hc, Option.map_some, Option.some.injEq] at hcj
      subst hcj
      refine ⟨vs', e, ?_, w6⟩
      refine (hv.mono hext (m' := m) (fun _ _ => rfl) ?_).lv fun l x ⟨a, ha, hat⟩ _ => by rw [hp a ha] at hat; cases hat
      intro k a x b ha hx hb
      obtain ⟨u, _, _, _, h2, _⟩ := blk_boxed hv ha hb
      subst h2
      obtain ⟨off, q1, q2⟩ := cell_of_seg hX hv w6 ha hx
      rw [cellOf (.inr trivial) w6] at q2
      have hoc : OwC c' vs' off b := ⟨u, q1, by rw [q2]; exact hb⟩
      obtain ⟨p1, _, _, _, p5⟩ := ho off b hoc
      refine ⟨w5 b fun e => ?_, p5⟩
      have := p1 (.box j) ⟨⟨c, hc⟩, e⟩
      cases this
    · simp only [hj, if_false] at hcj
      obtain ⟨vs0, e0, k1, k2⟩ := h.box j cj hcj
      have hmj : m j ≠ m id := hne (.box j) _ ⟨⟨cj, hcj⟩, rfl⟩ (by simpa using hj)
      refine ⟨vs0, e0, ?_, by rw [w5 _ hmj]; exact k2⟩
      refine (k1.mono hext (m' := m) (fun _ _ => rfl) ?_).lv fun l x ⟨a, ha, hat⟩ hx => ?_
      · intro k a x b ha hx hb
        obtain ⟨u, _, _, _, h2, _⟩ := blk_boxed k1 ha hb
        subst h2
        obtain ⟨off, q1, q2⟩ := cell_of_seg hX k1 k2 ha hx
        have := h.mine (.cell j off) b ⟨cj, u, hcj, q1, by rw [q2]; exact hb⟩
        exact ⟨w5 b (hne (.cell j off) b ⟨cj, u, hcj, q1, by rw [q2]; exact hb⟩ (by simp)), this.2.2⟩
      · exact absurd hat (by rw [h.bok j cj hcj a ha]; simp)
  · rcases how l b h1 with ⟨off, rfl, k1⟩ | ⟨k1, n1⟩ <;> rcases how l' b h2 with ⟨off', rfl, k2⟩ | ⟨k2, n2⟩
    · rw [(ho off b k1).2.1 off' k2]
    · exact absurd ((ho off b k1).1 _ k2) (n2 off)
    · exact absurd ((ho off' b k2).1 _ k1) (n1 off')
    · exact h.sep _ _ _ k1 k2
  · rw [w4]
    rcases how l b h1 with ⟨off, rfl, k1⟩ | ⟨k1, n1⟩
    · exact (ho off b k1).2.2
    · exact h.mine _ _ k1
  · simp only [St.setBox, assoc_assocSet] at hcj
    by_cases hj : j = id
    · subst hj
      simp only [if_true, hc, Option.map_some, Option.some.injEq] at hcj
      subst hcj; exact hp
    · simp only [hj, if_false] at hcj; exact h.bok j cj hcj
end Go.AX
