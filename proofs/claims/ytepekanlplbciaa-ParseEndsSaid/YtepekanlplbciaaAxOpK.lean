/-
  Calls that are handed boxes.
-/
import Derived.Test.YtepekanlplbciaaAxOpJ
namespace Go.AX
open Go
variable {X : Univ} {P : Program} {cl cl' m m' : Nat → Nat} {w w' : World} {B : Base} {s s1 s2 : St X.U} {tm : Array Value} {ρ : Type} {lv : Lc → Option Value}

/-! ### boxes by other numbers -/
mutual
theorem VS.ren {f : Nat → Option Nat} (hf : ∀ j k, f j = some k → m' k = m j) {v v' : SV X.U} {c : Value} (hr : v.ren f = some v') (h : VS X cl w m v c) : VS X cl w m' v' c := by
  match h with
  | .pv h => simp only [SV.ren, Option.some.injEq] at hr; subst hr; exact .pv h
  | .ref h1 h2 => simp only [SV.ren, Option.some.injEq] at hr; subst hr; exact .ref h1 h2
  | .ptr j off =>
    simp only [SV.ren] at hr
    obtain ⟨k, hk, rfl⟩ := Option.map_eq_some_iff.1 hr
    rw [← hf j k hk]; exact .ptr k off
  | .rp (id := j) h =>
    simp only [SV.ren] at hr
    obtain ⟨k, hk, rfl⟩ := Option.map_eq_some_iff.1 hr
    exact .rp (by rw [hf j k hk]; exact h)
  | .fn h1 h2 =>
    simp only [SV.ren] at hr
    split at hr
    · rename_i e1 e2
      cases hr
      exact .fn (VSs.ren hf e1 h1) (VSs.ren hf e2 h2)
    · cases hr
theorem VSs.ren {f : Nat → Option Nat} (hf : ∀ j k, f j = some k → m' k = m j) {v v' : List (SV X.U)} {c : List Value} (hr : renS f v = some v') (h : VSs X cl w m v c) : VSs X cl w m' v' c := by
  match h with
  | .nil => simp only [renS, Option.some.injEq] at hr; subst hr; exact .nil
  | .cons h1 h2 =>
    simp only [renS] at hr
    split at hr
    · rename_i e1 e2
      cases hr
      exact .cons (VS.ren hf e1 h1) (VSs.ren hf e2 h2)
    · cases hr
end
theorem V.ren {f : Nat → Option Nat} (hf : ∀ j k, f j = some k → m' k = m j) {v v' : AV X.U} {c : Value} (hr : v.ren f = some v') (h : V X cl w m lv v c) (lv' : Lc → Option Value) : V X cl w m' lv' v' c ∧ v'.hold? = none := by
  cases h with
  | pv h => simp only [AV.ren, Option.some.injEq] at hr; subst hr; exact ⟨.pv h, rfl⟩
  | ref h1 h2 => simp only [AV.ren, Option.some.injEq] at hr; subst hr; exact ⟨.ref h1 h2, rfl⟩
  | nil => simp only [AV.ren, Option.some.injEq] at hr; subst hr; exact ⟨.nil, rfl⟩
  | ptr j off =>
    simp only [AV.ren] at hr
    obtain ⟨k, hk, rfl⟩ := Option.map_eq_some_iff.1 hr
    rw [← hf j k hk]; exact ⟨.ptr k off, rfl⟩
  | @rp j _ h =>
    simp only [AV.ren] at hr
    obtain ⟨k, hk, rfl⟩ := Option.map_eq_some_iff.1 hr
    exact ⟨.rp (by rw [hf j k hk]; exact h), rfl⟩
  | fn h1 h2 =>
    simp only [AV.ren] at hr
    split at hr
    · rename_i e1 e2
      cases hr
      exact ⟨.fn (VSs.ren hf e1 h1) (VSs.ren hf e2 h2), rfl⟩
    · cases hr
  | undef c => simp only [AV.ren, Option.some.injEq] at hr; subst hr; exact ⟨.undef _, rfl⟩
  | _ => simp [AV.ren] at hr
theorem renL_get {f : Nat → Option Nat} : ∀ {l l' : List (AV X.U)}, renL f l = some l' → l'.length = l.length ∧ ∀ (i : Nat) (v' : AV X.U), l'[i]? = some v' → ∃ v, l[i]? = some v ∧ v.ren f = some v'
  | [], l', h => by simp only [renL, Option.some.injEq] at h; subst h; exact ⟨rfl, fun i v' h => by simp at h⟩
  | v :: r, l', h => by
    simp only [renL] at h
    split at h
    · rename_i e1 e2
      cases h
      obtain ⟨h1, h2⟩ := renL_get e2
      refine ⟨by simp [h1], fun i v' hi => ?_⟩
      cases i with
      | zero => simp only [List.getElem?_cons_zero, Option.some.injEq] at hi; subst hi; exact ⟨v, rfl, e1⟩
      | succ i => exact h2 i v' (by simpa using hi)
    · cases h
theorem placeIn_get : ∀ {L : List Nat} {k j i : Nat}, placeIn L k j = some i → k ≤ i ∧ L[i - k]? = some j
  | [], _, _, _, h => by cases h
  | x :: r, k, j, i, h => by
    simp only [placeIn] at h
    split at h
    · rename_i e; cases h; exact ⟨Nat.le_refl _, by simp [e]⟩
    · obtain ⟨h1, h2⟩ := placeIn_get h
      refine ⟨by omega, ?_⟩
      rw [show i - k = (i - (k + 1)) + 1 by omega, List.getElem?_cons_succ]; exact h2
theorem dedup_nodup : ∀ (l acc : List Nat), acc.Nodup → (dedup l acc).Nodup
  | [], acc, h => h
  | i :: r, acc, h => by
    unfold dedup
    refine dedup_nodup r _ ?_
    split
    · exact h
    · rename_i hc
      rw [List.nodup_append]
      refine ⟨h, by simp, fun a ha b hb => ?_⟩
      simp only [List.mem_singleton] at hb
      subst hb
      intro e; subst e
      exact hc (by simpa using ha)
theorem boxesPv_get {box : Nat → Option (List (AV X.U))} : ∀ {L : List Nat} {q : List (List (AV X.U))}, boxesPv box L = some q → q.length = L.length ∧ ∀ (k i : Nat), L[k]? = some i → ∃ c, q[k]? = some c ∧ box i = some c ∧ c.all AV.isPO = true
  | [], q, h => by simp only [boxesPv, Option.some.injEq] at h; subst h; exact ⟨rfl, fun k i h => by simp at h⟩
  | i :: r, q, h => by
    simp only [boxesPv] at h
    split at h
    · rename_i c q' e1 e2
      split at h
      · rename_i hp
        cases h
        obtain ⟨h1, h2⟩ := boxesPv_get e2
        refine ⟨by simp [h1], fun k j hk => ?_⟩
        cases k with
        | zero => simp only [List.getElem?_cons_zero, Option.some.injEq] at hk; subst hk; exact ⟨c, rfl, e1, hp⟩
        | succ k => simpa using h2 k j (by simpa using hk)
      · cases h
    · cases h
theorem putB_says : ∀ {L : List Nat} {q : List (List (AV X.U))} {s s2 : St X.U}, putB L q s = some s2 → L.Nodup → (∀ i ∈ L, ∃ c, assoc s.hp i = some c) →
    q.length = L.length ∧ (∀ i, s2.look i = s.look i ∨ s2.look i = .undef) ∧ (∀ i, i ∉ L → assoc s2.hp i = assoc s.hp i) ∧ (∀ (k i : Nat), L[k]? = some i → assoc s2.hp i = q[k]?) ∧ ∀ i ∈ L, ∀ j, (s2.look j).atCell i = false
  | [], [], s, s2, h, _, _ => by simp only [putB, Option.some.injEq] at h; subst h; exact ⟨rfl, fun i => .inl rfl, fun i _ => rfl, fun k i h => by simp at h, fun i h => by simp at h⟩
  | [], c :: q, s, s2, h, _, _ => by simp [putB] at h
  | i :: r, [], s, s2, h, _, _ => by simp [putB] at h
  | i :: r, c :: q, s, s2, h, hn, hb => by
    simp only [putB] at h
    have hn' := List.nodup_cons.1 hn
    have hset : ∀ j, assoc (s.setBox i c).hp j = if j = i then (assoc s.hp i).map fun _ => c else assoc s.hp j := fun j => assoc_assocSet i j c s.hp
    obtain ⟨h1, h2, h3, h4, h5⟩ := putB_says h hn'.2 (fun j hj => by
      have hji : j ≠ i := fun e => hn'.1 (e ▸ hj)
      rw [hset, if_neg hji]; exact hb j (List.mem_cons_of_mem _ hj))
    refine ⟨by simp [h1], fun j => ?_, fun j hj => ?_, fun k j hk => ?_, fun p hp j => ?_⟩
    · rcases h2 j with e | e
      · rw [e, look_setBox]
        cases hc : (s.look j).atCell i with
        | true => exact .inr (by simp)
        | false => exact .inl (by simp)
      · exact .inr e
    · simp only [List.mem_cons, not_or] at hj
      rw [h3 j hj.2, hset, if_neg hj.1]
    · cases k with
      | zero =>
        simp only [List.getElem?_cons_zero, Option.some.injEq] at hk; subst hk
        obtain ⟨c0, hc0⟩ := hb i List.mem_cons_self
        rw [h3 i hn'.1, hset, if_pos rfl, hc0]; rfl
      | succ k => simpa using h4 k j (by simpa using hk)
    · rcases List.mem_cons.1 hp with rfl | hp
      · rcases h2 j with e | e
        · rw [e, look_setBox]
          cases hc : (s.look j).atCell p with
          | true => simp [AV.atCell]
          | false => simpa using hc
        · rw [e]; rfl
      · exact h5 p hp j
theorem Vs.pvAny : ∀ {c : List (AV X.U)} {vs : List Value}, c.all AV.isPv = true → Vs X cl w m lv c vs → ∀ m' lv', Vs X cl w m' lv' c vs
  | [], _, _, .nil, _, _ => .nil
  | a :: r, _, h, .cons h1 h2 h3, m', lv' => by
    simp only [List.all_cons, Bool.and_eq_true] at h
    refine .cons ?_ h2 (h3.pvAny h.2 m' lv')
    cases h1 with
    | pv h1 => exact .pv h1
    | _ => simp [AV.isPv] at h
theorem isPv_own {c : List (AV X.U)} (h : c.all AV.isPv = true) {off : Nat} {u : X.U} : segAt X c off ≠ some (.own u) := fun e => by
  have := List.all_eq_true.1 h _ (segAt_mem e)
  simp [AV.isPv] at this
/-- A box that lay there is taken up. -/
theorem Rel.addOld (h : Rel B cl m s tm w) {id : Nat} {c : List (AV X.U)} (hid : assoc s.hp id = none) (hc : c.all AV.isPv = true) (hb : BoxAt cl w m (lval m s tm w) id c)
    (hn : ∀ l, ¬ Ow m s tm w l (m id)) (hm : m id < w.heap.size ∧ (B.D (m id) ∨ B.w.heap.size ≤ m id) ∧ cl (m id) = 0) : Rel B cl m { s with hp := (id, c) :: s.hp } tm w := by
  have hhp : ∀ j, assoc ((id, c) :: s.hp) j = if id = j then some c else assoc s.hp j := fun j => rfl
  have hown : ∀ l, ({ s with hp := (id, c) :: s.hp } : St X.U).own l = s.own l := by
    intro l
    cases l with
    | slot i => rfl
    | cell j off =>
      simp only [St.own, hhp]
      by_cases e : id = j
      · subst e
        rw [if_pos rfl, hid]
        simp only
        split
        · rename_i u hu; exact absurd hu (isPv_own hc)
        · rfl
      · rw [if_neg e]
  have hlv : lval m ({ s with hp := (id, c) :: s.hp } : St X.U) tm w = lval m s tm w := by
    funext l; unfold lval; rw [hown]
  have how : ∀ l b, Ow m ({ s with hp := (id, c) :: s.hp } : St X.U) tm w l b → Ow m s tm w l b ∨ (l = .box id ∧ b = m id) := by
    intro l b ho
    cases l with
    | slot i => exact .inl ho
    | cell j off =>
      obtain ⟨c', u, h1, h2, h3⟩ := ho
      simp only [hhp] at h1
      by_cases e : id = j
      · subst e; rw [if_pos rfl] at h1; cases h1; exact absurd h2 (isPv_own hc)
      · rw [if_neg e] at h1; exact .inl ⟨c', u, h1, h2, h3⟩
    | box j =>
      obtain ⟨⟨c', h1⟩, h2⟩ := ho
      simp only [hhp] at h1
      by_cases e : id = j
      · subst e; exact .inr ⟨rfl, h2⟩
      · rw [if_neg e] at h1; exact .inl ⟨⟨c', h1⟩, h2⟩
  refine ⟨h.fr, fun i => ?_, fun j c' hj => ?_, fun l l' b h1 h2 => ?_, fun l b h1 => ?_, h.top, fun j c' hj => ?_, h.inv⟩
  · rw [hlv]; exact h.env i
  · rw [hlv]
    simp only [hhp] at hj
    by_cases e : id = j
    · subst e; rw [if_pos rfl] at hj; cases hj; exact hb
    · rw [if_neg e] at hj; exact h.box j c' hj
  · rcases how l b h1 with g1 | ⟨rfl, rfl⟩
    · rcases how l' b h2 with g2 | ⟨rfl, rfl⟩
      · exact h.sep l l' b g1 g2
      · exact absurd g1 (hn l)
    · rcases how l' _ h2 with g2 | ⟨rfl, _⟩
      · exact absurd g2 (hn l')
      · rfl
  · rcases how l b h1 with g1 | ⟨rfl, rfl⟩
    · exact h.mine l b g1
    · exact hm
  · simp only [hhp] at hj
    by_cases e : id = j
    · subst e; rw [if_pos rfl] at hj; cases hj
      intro v hv
      have := List.all_eq_true.1 hc v hv
      cases v <;> simp [AV.isPv] at this
      rfl
    · rw [if_neg e] at hj; exact h.bok j c' hj
/-- Boxes that lay there are taken up. -/
theorem Rel.addOlds : ∀ (q : List (Nat × List (AV X.U))) {s : St X.U}, Rel B cl m s tm w → (q.map (·.1)).Nodup → (∀ p ∈ q, assoc s.hp p.1 = none ∧ p.2.all AV.isPv = true ∧ (∃ vs e, Vs X cl w m (fun _ => none) p.2 vs ∧ w.heap[m p.1]? = some (.cells (flat vs).toArray e (0, 0))) ∧
      (∀ l, ¬ Ow m s tm w l (m p.1)) ∧ m p.1 < w.heap.size ∧ (B.D (m p.1) ∨ B.w.heap.size ≤ m p.1) ∧ cl (m p.1) = 0) → (∀ p ∈ q, ∀ p' ∈ q, m p.1 = m p'.1 → p.1 = p'.1) → Rel B cl m { s with hp := q ++ s.hp } tm w
  | [], s, h, _, _, _ => h
  | (id, c) :: r, s, h, hn, hp, hd => by
    simp only [List.map_cons, List.nodup_cons] at hn
    have ih := Rel.addOlds r h hn.2 (fun p hp' => hp p (List.mem_cons_of_mem _ hp')) (fun p h1 p' h2 => hd p (List.mem_cons_of_mem _ h1) p' (List.mem_cons_of_mem _ h2))
    obtain ⟨g1, g2, ⟨vs, e, g3, g4⟩, g5, g6⟩ := hp (id, c) List.mem_cons_self
    have hassoc : ∀ j, assoc (r ++ s.hp) j = none ∨ (∃ p ∈ r, p.1 = j ∧ assoc (r ++ s.hp) j = some p.2) ∨ assoc (r ++ s.hp) j = assoc s.hp j := by
      intro j
      have : ∀ r : List (Nat × List (AV X.U)), (∃ p ∈ r, p.1 = j ∧ assoc (r ++ s.hp) j = some p.2) ∨ assoc (r ++ s.hp) j = assoc s.hp j := by
        intro r
        induction r with
        | nil => exact .inr rfl
        | cons p r ih =>
          obtain ⟨k, x⟩ := p
          by_cases e : k = j
          · exact .inl ⟨(k, x), List.mem_cons_self, e, by simp [assoc, e]⟩
          · rcases ih with ⟨p, h1, h2, h3⟩ | h1
            · exact .inl ⟨p, List.mem_cons_of_mem _ h1, h2, by simp [assoc, e, h3]⟩
            · exact .inr (by simp [assoc, e, h1])
      exact .inr (this r)
    have := Rel.addOld ih (id := id) (c := c) (by
      rcases hassoc id with e | ⟨p, h1, h2, _⟩ | e
      · exact e
      · exact absurd (List.mem_map.2 ⟨p, h1, h2⟩) hn.1
      · exact e.trans g1) g2 ⟨vs, e, g3.pvAny g2 _ _, g4⟩ (fun l ho => by
        cases l with
        | slot i => exact g5 (.slot i) ho
        | cell j off =>
          obtain ⟨c', u, k1, k2, k3⟩ := ho
          rcases hassoc j with e | ⟨p, h1, h2, h3⟩ | e
          · rw [e] at k1; cases k1
          · rw [h3] at k1; cases k1
            exact isPv_own (hp p (List.mem_cons_of_mem _ h1)).2.1 k2
          · rw [e] at k1; exact g5 (.cell j off) ⟨c', u, k1, k2, k3⟩
        | box j =>
          obtain ⟨⟨c', k1⟩, k2⟩ := ho
          rcases hassoc j with e | ⟨p, h1, h2, h3⟩ | e
          · rw [e] at k1; cases k1
          · subst h2
            have := hd (id, c) List.mem_cons_self p (List.mem_cons_of_mem _ h1) k2
            exact hn.1 (List.mem_map.2 ⟨p, h1, this.symm⟩)
          · rw [e] at k1; exact g5 (.box j) ⟨⟨c', k1⟩, k2⟩) g6
    exact this
/-! The same state, told otherwise. -/
theorem Rel.weaken {s' : St X.U} (h : Rel B cl m s tm w) (hl : ∀ i, s'.look i = s.look i ∨ s'.look i = .undef) (hb : ∀ id c, assoc s'.hp id = some c → assoc s.hp id = some c) : Rel B cl m s' tm w := by
  have hown : ∀ l u, s'.own l = some u → s.own l = some u := by
    intro l u hu
    cases l with
    | slot i =>
      rw [own_slot] at hu ⊢
      rcases hl i with e | e <;> rw [e] at hu
      · exact hu
      · cases hu
    | cell id off =>
      obtain ⟨c, h1, h2⟩ := own_cell hu
      simp [St.own, hb id c h1, h2]
  have hlv : ∀ l x, lval m s' tm w l = some x → lval m s tm w l = some x := by
    intro l x hx
    obtain ⟨⟨u, hu⟩, rfl⟩ := lval_some hx
    exact lval_of (hown l u hu)
  have how : ∀ l b, Ow m s' tm w l b → Ow m s tm w l b := by
    intro l b ho
    cases l with
    | slot i =>
      simp only [Ow] at ho ⊢
      rcases hl i with e | e <;> rw [e] at ho
      · exact ho
      · simp [blk] at ho
    | cell id off => obtain ⟨c, u, h1, h2⟩ := ho; exact ⟨c, u, hb id c h1, h2⟩
    | box id => obtain ⟨⟨c, h1⟩, h2⟩ := ho; exact ⟨⟨c, hb id c h1⟩, h2⟩
  refine ⟨h.fr, fun i => ?_, fun id c hc => ?_, fun l l' b h1 h2 => h.sep l l' b (how _ _ h1) (how _ _ h2), fun l b h1 => h.mine l b (how _ _ h1), h.top, fun id c hc => h.bok id c (hb id c hc), h.inv⟩
  · rcases hl i with e | e <;> rw [e]
    · exact (h.env i).lv fun l x _ hx => hlv l x hx
    · exact .undef _
  · obtain ⟨vs, e, h1, h2⟩ := h.box id c (hb id c hc)
    exact ⟨vs, e, h1.lv fun l x _ hx => hlv l x hx, h2⟩

/-- Arguments as the callee gets them, none of them taken over. -/
theorem Vs.poAny : ∀ {c : List (AV X.U)} {vs : List Value}, c.all AV.isPO = true → Vs X cl w m lv c vs → ∀ m' lv', Vs X cl w m' lv' c vs
  | [], _, _, .nil, _, _ => .nil
  | a :: r, _, h, .cons h1 h2 h3, m', lv' => by
    simp only [List.all_cons, Bool.and_eq_true] at h
    refine .cons ?_ h2 (h3.poAny h.2 m' lv')
    cases h1 with
    | pv h1 => exact .pv h1
    | own h1 => exact .own h1
    | _ => simp [AV.isPO] at h
theorem isPO_at {c : List (AV X.U)} (h : c.all AV.isPO = true) : ∀ v ∈ c, v.at? = none := fun v hv => by
  have := List.all_eq_true.1 h v hv
  cases v <;> simp [AV.isPO] at this <;> rfl
/-- What a box's cell owns. -/
def CellB (m : Nat → Nat) (w : World) (id : Nat) (c : List (AV X.U)) (off b : Nat) : Prop :=
  ∃ u, segAt X c off = some (.own u) ∧ blk (AV.own u) ((w.cell? ⟨m id, off, none⟩).getD Go.undef) = some b
/-- Boxes that lay there are taken up, with what they own. -/
theorem Rel.addAll (h : Rel B cl m s tm w) {s' : St X.U} (Q : Nat → Option (List (AV X.U))) (he : ∀ i, s'.look i = s.look i) (hh : ∀ i, assoc s'.hp i = match Q i with | some c => some c | none => assoc s.hp i)
    (hat : ∀ i id off, (s.look i).at? = some (.cell id off) → Q id = none)
    (hb : ∀ id c, Q id = some c → c.all AV.isPO = true ∧ ∃ vs e, Vs X cl w m (fun _ => none) c vs ∧ w.heap[m id]? = some (.cells (flat vs).toArray e (0, 0)))
    (hB : ∀ id c, Q id = some c → (∀ l, ¬ Ow m s tm w l (m id)) ∧ m id < w.heap.size ∧ (B.D (m id) ∨ B.w.heap.size ≤ m id) ∧ cl (m id) = 0)
    (hC : ∀ id c off b, Q id = some c → CellB m w id c off b → (∀ l, ¬ Ow m s tm w l b) ∧ b < w.heap.size ∧ (B.D b ∨ B.w.heap.size ≤ b) ∧ cl b = 0)
    (d1 : ∀ id id' c c', Q id = some c → Q id' = some c' → m id = m id' → id = id')
    (d2 : ∀ id id' c c' off b, Q id = some c → Q id' = some c' → CellB m w id c off b → b ≠ m id')
    (d3 : ∀ id id' c c' off off' b, Q id = some c → Q id' = some c' → CellB m w id c off b → CellB m w id' c' off' b → id = id' ∧ off = off') : Rel B cl m s' tm w := by
  have how : ∀ l b, Ow m s' tm w l b → Ow m s tm w l b ∨ (∃ id c, Q id = some c ∧ l = .box id ∧ b = m id) ∨ ∃ id c off, Q id = some c ∧ l = .cell id off ∧ CellB m w id c off b := by
    intro l b ho
    cases l with
    | slot i => simp only [Ow, he] at ho; exact .inl ho
    | cell j off =>
      obtain ⟨c', u, h1, h2, h3⟩ := ho
      rw [hh] at h1
      cases hq : Q j with
      | none => rw [hq] at h1; exact .inl ⟨c', u, h1, h2, h3⟩
      | some c0 => rw [hq] at h1; simp only [Option.some.injEq] at h1; subst h1; exact .inr (.inr ⟨j, c0, off, hq, rfl, u, h2, h3⟩)
    | box j =>
      obtain ⟨⟨c', h1⟩, h2⟩ := ho
      rw [hh] at h1
      cases hq : Q j with
      | none => rw [hq] at h1; exact .inl ⟨⟨c', h1⟩, h2⟩
      | some c0 => exact .inr (.inl ⟨j, c0, hq, rfl, h2⟩)
  have hlv : ∀ l x, (∀ id off, l = .cell id off → Q id = none) → lval m s' tm w l = some x → lval m s tm w l = some x := by
    intro l x hl hx
    obtain ⟨⟨u, hu⟩, rfl⟩ := lval_some hx
    cases l with
    | slot i =>
      rw [own_slot, he, ← own_slot] at hu
      rw [lval_of hu]
    | cell id off =>
      have hq := hl id off rfl
      have hu' : s.own (.cell id off) = some u := by
        rw [own_cell', hh, hq] at hu
        rw [own_cell']; exact hu
      rw [lval_of hu']
  refine ⟨h.fr, fun i => ?_, fun j c' hj => ?_, fun l l' b h1 h2 => ?_, fun l b h1 => ?_, h.top, fun j c' hj => ?_, h.inv⟩
  · rw [he]
    exact (h.env i).lv fun l x hl hx => hlv l x (fun id off e => hat i id off (e ▸ hl)) hx
  · rw [hh] at hj
    cases hq : Q j with
    | none =>
      rw [hq] at hj
      obtain ⟨vs, e, k1, k2⟩ := h.box j c' hj
      exact ⟨vs, e, k1.lv (fun l x ⟨a, ha, hl⟩ _ => by rw [h.bok j c' hj a ha] at hl; simp at hl), k2⟩
    | some c0 =>
      rw [hq] at hj; simp only [Option.some.injEq] at hj; subst hj
      obtain ⟨g1, vs, e, g2, g3⟩ := hb j c0 hq
      exact ⟨vs, e, g2.poAny g1 _ _, g3⟩
  · rcases how l b h1 with g1 | ⟨id, c, q1, rfl, e1⟩ | ⟨id, c, off, q1, rfl, e1⟩ <;> rcases how l' b h2 with g2 | ⟨id', c', q2, rfl, e2⟩ | ⟨id', c', off', q2, rfl, e2⟩
    · exact h.sep l l' b g1 g2
    · subst e2; exact absurd g1 ((hB _ _ q2).1 l)
    · exact absurd g1 ((hC _ _ _ _ q2 e2).1 l)
    · subst e1; exact absurd g2 ((hB _ _ q1).1 l')
    · subst e1; rw [d1 _ _ _ _ q1 q2 e2]
    · exact absurd e1 (d2 _ _ _ _ _ _ q2 q1 e2)
    · exact absurd g2 ((hC _ _ _ _ q1 e1).1 l')
    · exact absurd e2 (d2 _ _ _ _ _ _ q1 q2 e1)
    · obtain ⟨rfl, rfl⟩ := d3 _ _ _ _ _ _ _ q1 q2 e1 e2; rfl
  · rcases how l b h1 with g1 | ⟨id, c, q1, rfl, rfl⟩ | ⟨id, c, off, q1, rfl, e1⟩
    · exact h.mine l b g1
    · exact (hB _ _ q1).2
    · exact (hC _ _ _ _ q1 e1).2
  · rw [hh] at hj
    cases hq : Q j with
    | none => rw [hq] at hj; exact h.bok j c' hj
    | some c0 => rw [hq] at hj; simp only [Option.some.injEq] at hj; subst hj; exact isPO_at (hb j c0 hq).1
theorem argsB_sound (hX : XOK X) {a : Act} {tk : List Nat} (hR : Rel B cl m s a.tmps w) (he : Ext cl w cl' w) : ∀ (l : List (AV X.U)) (cs : List Value) (k : Nat) (as : List (AV X.U)) (ls : List (Lc × Bool)),
    argsK X s.own tk k l = some (as, ls) → (∀ p ∈ ls, p.2 = false ∧ ∃ i, p.1 = .slot i) → cs.length = l.length → (∀ (i : Nat) (v : AV X.U) (c : Value), l[i]? = some v → cs[i]? = some c → V X cl w m (lval m s a.tmps w) v c) →
    (∀ i u, (Lc.slot i, false) ∈ ls → s.look i = .own u → VP X cl' w (.typ u) (a.tmps.getD i Go.undef)) →
    as.length = l.length ∧ ∀ (i : Nat) (v : AV X.U) (c : Value), as[i]? = some v → cs[i]? = some c → V X cl' w m (fun _ => none) v c
  | [], cs, k, as, ls, h, _, _, _, _ => by simp [argsK] at h; obtain ⟨rfl, rfl⟩ := h; exact ⟨rfl, fun i v c h => by simp at h⟩
  | v :: r, cs, k, as, ls, h, hl, hlen, hv, ht => by
    cases cs with
    | nil => simp at hlen
    | cons c cs =>
    have hv0 := hv 0 v c rfl rfl
    have rest : ∀ {as' : List (AV X.U)} {ls' : List (Lc × Bool)}, argsK X s.own tk (k + 1) r = some (as', ls') → (∀ p ∈ ls', p ∈ ls) → _ := fun {as' ls'} h2 hsub =>
      argsB_sound hX hR he r cs (k + 1) as' ls' h2 (fun p hp => hl p (hsub p hp)) (by simpa using hlen) (fun i v' c' h3 h4 => hv (i + 1) v' c' (by simpa using h3) (by simpa using h4)) (fun i u hiu => ht i u (hsub _ hiu))
    unfold argsK at h
    split at h
    · rename_i x as' ls' h1 h2
      simp only [Option.some.injEq, Prod.mk.injEq] at h; obtain ⟨rfl, rfl⟩ := h
      obtain ⟨r1, r4⟩ := rest h2 (fun p hp => hp)
      have hx : V X cl' w m (fun _ => none) x c := by
        unfold argK at h1
        split at h1
        · split at h1
          · split at h1 <;> simp at h1
          · cases h1
        · split at h1
          · cases h1
          · split at h1 <;> simp at h1
        · simp only [Option.some.injEq, Prod.mk.injEq] at h1; obtain ⟨rfl, _⟩ := h1
          cases hv0 with | pv hv0 => exact .pv (hv0.mono he)
        · simp only [Option.some.injEq, Prod.mk.injEq] at h1; obtain ⟨rfl, _⟩ := h1
          cases hv0 with | ref q1 q2 => exact .ref (q1.mono he) (q2.mono he)
        · rename_i j off
          split at h1
          · rename_i e0
            simp only [Option.some.injEq, Prod.mk.injEq] at h1; obtain ⟨rfl, _⟩ := h1
            subst e0
            cases hv0 with | ptr => exact .ptr j 0
          · cases h1
        · simp only [Option.some.injEq, Prod.mk.injEq] at h1; obtain ⟨rfl, _⟩ := h1
          cases hv0 with
          | fn q1 q2 => exact .fn (q1.mono he (m' := m) fun _ _ => rfl) (q2.mono he (m' := m) fun _ _ => rfl)
        · simp only [Option.some.injEq, Prod.mk.injEq] at h1; obtain ⟨rfl, _⟩ := h1
          cases hv0 with | nil => exact .nil
        · simp only [Option.some.injEq, Prod.mk.injEq] at h1; obtain ⟨rfl, _⟩ := h1
          exact .undef _
        · simp only [Option.some.injEq, Prod.mk.injEq] at h1; obtain ⟨rfl, _⟩ := h1
          cases hv0 with | rp q => exact .rp (q.mono he)
        · cases h1
      refine ⟨by simp [r1], fun i v' c' h3 h4 => ?_⟩
      cases i with
      | succ i => exact r4 i v' c' (by simpa using h3) (by simpa using h4)
      | zero =>
        simp only [List.getElem?_cons_zero, Option.some.injEq] at h3 h4; subst h3; subst h4
        exact hx
    · rename_i x l0 as' ls' h1 h2
      simp only [Option.some.injEq, Prod.mk.injEq] at h; obtain ⟨rfl, rfl⟩ := h
      obtain ⟨r1, r4⟩ := rest h2 (fun p hp => List.mem_cons_of_mem _ hp)
      obtain ⟨ht', i0, hi0⟩ := hl _ List.mem_cons_self
      simp only at hi0 ht'; subst hi0
      have hx : ∃ p, x = .pv p ∧ VP X cl' w p c := by
        unfold argK at h1
        split at h1
        · rename_i l1
          split at h1
          · rename_i u hu
            rw [ht'] at h1
            simp only [Bool.false_eq_true, if_false, Option.some.injEq, Prod.mk.injEq] at h1; obtain ⟨rfl, h1⟩ := h1; subst h1
            refine ⟨_, rfl, ?_⟩
            have ht0 := ht i0 u (by rw [ht']; exact List.mem_cons_self) (own_look hu)
            cases hv0 with
            | bor hv0 => rw [hv0 _ (lval_of hu)]; exact ht0
          · cases h1
        · rename_i l1 lo hi' sz
          split at h1
          · cases h1
          split at h1
          case h_2 => cases h1
          rename_i u' hs
          simp only [Option.some.injEq, Prod.mk.injEq] at h1; obtain ⟨rfl, h1⟩ := h1; subst h1
          simp only [sliceOf] at hs
          split at hs
          case h_2 => cases hs
          rename_i u hu
          split at hs
          case isFalse => cases hs
          rename_i hesz
          refine ⟨_, rfl, ?_⟩
          have ht0 := ht i0 u (by rw [ht']; exact List.mem_cons_self) (own_look hu)
          cases hv0 with
          | sub hv0 =>
            obtain ⟨ao, n, cap, e1, e2, e3, rfl⟩ := hv0 _ (lval_of hu)
            have e1 : a.tmps.getD i0 Go.undef = .slice ao n cap := e1
            rw [e1] at ht0
            rw [← hesz]
            exact cut_VP hX hs e2 e3 ht0
        · simp at h1
        · simp at h1
        · split at h1 <;> simp at h1
        · simp at h1
        · simp at h1
        · simp at h1
        · simp at h1
        · cases h1
      obtain ⟨p, rfl, hp⟩ := hx
      refine ⟨by simp [r1], fun i v' c' h3 h4 => ?_⟩
      cases i with
      | succ i => exact r4 i v' c' (by simpa using h3) (by simpa using h4)
      | zero =>
        simp only [List.getElem?_cons_zero, Option.some.injEq] at h3 h4; subst h3; subst h4
        exact .pv hp
    · cases h

theorem callB_sound (hX : XOK X) {N : Nat} {G : Ans X ρ} (hG : GOK P G) {o : Oper} {x : Operand} {args : Array Operand} {argTypes : Array TypeId} {f : FuncId} {first caps : List (SV X.U)}
    (ho : o.op = .call { callee := .value x, args, argTypes }) (hx : s.ev 0 x = .fn f first caps) (hlen : args.size = argTypes.size) {nq : Bool} {tkl : List Nat} {as : List (AV X.U)} {ls : List (Lc × Bool)}
    (hargs : argsK X s.own tkl 0 (first.map SV.av ++ ((args.toList.zip argTypes.toList).map (evA X s nq)) ++ caps.map SV.av) = some (as, ls)) {K : AV X.U → St X.U → Option ρ} {r : ρ}
    (h : callB X G s f as ls K = some r) : ∃ v s', K v s' = some r ∧ (dstOk N o v = true → OpOk P N s o v s') := by
  unfold callB at h
  split at h
  case isFalse => cases h
  rename_i hls
  split at h
  case h_2 => cases h
  rename_i s1 hs1
  split at h
  case h_2 => cases h
  rename_i as' bx has hbx
  generalize hLdef : dedup (idsL as) [] = L at has hbx h
  have hnd : L.Nodup := by rw [← hLdef]; exact dedup_nodup _ _ (by simp)
  have hlent : ∀ p ∈ ls, p.2 = false ∧ ∃ i, p.1 = .slot i := fun p hp => by
    have := List.all_eq_true.1 hls p hp
    simp only [Bool.and_eq_true, Bool.not_eq_true'] at this
    refine ⟨this.1, ?_⟩
    have h2 := this.2
    split at h2
    · rename_i i hi; exact ⟨i, hi⟩
    · cases h2
  obtain ⟨⟨fn, hf1, hf2, hf3⟩, v, bx', hK, hcon⟩ := hG f as' bx _ r h
  clear h
  split at hK
  case isFalse => cases hK
  rename_i hpv'
  split at hK
  case h_2 => cases hK
  rename_i s2 hs2
  have hv12 : (∃ p, v = .pv p) ∨ ∃ u, v = .own u := by
    split at hK
    · exact .inl ⟨_, rfl⟩
    · exact .inr ⟨_, rfl⟩
    · cases hK
  have hKv : K v s2 = some r := by rcases hv12 with ⟨_, rfl⟩ | ⟨_, rfl⟩ <;> exact hK
  refine ⟨v, s2, hKv, fun hd => ?_⟩
  intro B a w ⟨cl, m, hR, hN, hD⟩ next Q hnext
  obtain ⟨ca, cb, hfx, hl, hvv⟩ := args_av hX hx hlen (nq := nq) hR
  obtain ⟨cl1, s1', t1, t2, t3, t4, _⟩ := tellAll hX ls s cl hlent hR
  rw [t1] at hs1; cases hs1
  obtain ⟨q1, q2⟩ := argsB_sound hX hR t3 _ _ 0 as ls hargs hlent hl hvv (fun i u hi => t4 i u hi)
  obtain ⟨n1, n2⟩ := renL_get has
  obtain ⟨b1, b2⟩ := boxesPv_get hbx
  let mc : Nat → Nat := fun i => if 1000 ≤ i then m (L.getD (i - 1000) 0) else m i
  have hmc : ∀ j k, placeIn L 1000 j = some k → mc k = m j := fun j k hk => by
    obtain ⟨k1, k2⟩ := placeIn_get hk
    simp only [mc, if_pos k1, List.getD_eq_getElem?_getD, k2, Option.getD_some]
  have hmL : ∀ (k i : Nat), L[k]? = some i → mc (1000 + k) = m i := fun k i hk => by
    simp only [mc, if_pos (Nat.le_add_right 1000 k), show 1000 + k - 1000 = k by omega, List.getD_eq_getElem?_getD, hk, Option.getD_some]
  let D : Nat → Prop := fun b => ∃ i ∈ L, b = m i ∨ ∃ off, Ow m s1 a.tmps w (.cell i off) b
  have hbox1 : ∀ i ∈ L, ∃ c, assoc s1.hp i = some c ∧ c.all AV.isPO = true := fun i hi => by
    obtain ⟨k, hk⟩ := List.mem_iff_getElem?.1 hi
    obtain ⟨c, _, h2, h3⟩ := b2 k i hk
    exact ⟨c, h2, h3⟩
  have hOwL : ∀ i ∈ L, Ow m s1 a.tmps w (.box i) (m i) := fun i hi => by obtain ⟨c, h1, _⟩ := hbox1 i hi; exact ⟨⟨c, h1⟩, rfl⟩
  have hDo : ∀ b, D b → ∃ i ∈ L, ∃ l, Ow m s1 a.tmps w l b ∧ (l = .box i ∨ ∃ off, l = .cell i off) := fun b ⟨i, hi, e⟩ => by
    rcases e with e | ⟨off, e⟩
    · exact ⟨i, hi, .box i, e ▸ hOwL i hi, .inl rfl⟩
    · exact ⟨i, hi, .cell i off, e, .inr ⟨off, rfl⟩⟩
  have hDm : ∀ b, D b → b < w.heap.size ∧ (B.D b ∨ B.w.heap.size ≤ b) ∧ cl1 b = 0 := fun b hb => by
    obtain ⟨i, hi, l, hl, _⟩ := hDo b hb
    exact t2.mine _ _ hl
  have hinj : ∀ i ∈ L, ∀ j ∈ L, m i = m j → i = j := fun i hi j hj e => by
    have := t2.sep _ _ _ (hOwL i hi) (e ▸ hOwL j hj)
    cases this; rfl
  let cargs : Array Value := (ca ++ args.toList.map a.eval ++ cb).toArray
  have hcs : cargs.size = as'.length := by simp only [cargs, List.size_toArray]; omega
  have hbxa : ∀ id c, assoc (zipI 1000 bx) id = some c → ∃ k i, id = 1000 + k ∧ L[k]? = some i ∧ assoc s1.hp i = some c ∧ c.all AV.isPO = true := fun id c hc => by
    rw [assoc_zipI] at hc
    split at hc
    · have hlt : id - 1000 < bx.length := (List.getElem?_eq_some_iff.1 hc).1
      obtain ⟨i, hi⟩ : ∃ i, L[id - 1000]? = some i := ⟨_, List.getElem?_eq_getElem (by omega)⟩
      obtain ⟨c', h1, h2, h3⟩ := b2 _ _ hi
      rw [hc] at h1; cases h1
      exact ⟨id - 1000, i, by omega, hi, h2, h3⟩
    · cases hc
  have hpre : Rel ⟨w, cl1, D, mc⟩ cl1 mc ({ env := zipI 0 as', hp := zipI 1000 bx } : St X.U) cargs w := by
    have hlook : ∀ i, ({ env := zipI 0 as', hp := zipI 1000 bx } : St X.U).look i = (as'[i]?).getD .undef := fun i => by simp [St.look, assoc_zipI]
    have hent : ∀ i v' c, as'[i]? = some v' → cargs[i]? = some c → (∀ lv', V X cl1 w mc lv' v' c) ∧ v'.hold? = none := fun i v' c h1 h2 => by
      obtain ⟨v0, k1, k2⟩ := n2 i v' h1
      have hV0 := q2 i v0 c k1 (by rw [← List.getElem?_toArray]; exact h2)
      exact ⟨fun lv' => (V.ren hmc k2 hV0 lv').1, (V.ren hmc k2 hV0 (fun _ => none)).2⟩
    have how : ∀ l b, Ow mc ({ env := zipI 0 as', hp := zipI 1000 bx } : St X.U) cargs w l b → ∃ k i, L[k]? = some i ∧ ((l = .box (1000 + k) ∧ b = m i) ∨ ∃ off, l = .cell (1000 + k) off ∧ Ow m s1 a.tmps w (.cell i off) b) := by
      intro l b ho
      cases l with
      | slot i =>
        simp only [Ow, hlook] at ho
        cases hi : as'[i]? with
        | none => simp [hi, blk] at ho
        | some v' =>
          have hlt : i < cargs.size := by rw [hcs]; exact (List.getElem?_eq_some_iff.mp hi).1
          rw [hi] at ho
          exact absurd (by simpa using ho) (blk_none (c := cargs.getD i Go.undef) (hent i v' cargs[i] hi (by simp [hlt])).2 b)
      | cell id off =>
        obtain ⟨c, u, h1, h2, h3⟩ := ho
        obtain ⟨k, i, rfl, h4, h5, _⟩ := hbxa id c h1
        rw [hmL k i h4] at h3
        exact ⟨k, i, h4, .inr ⟨off, rfl, c, u, h5, h2, h3⟩⟩
      | box id =>
        obtain ⟨⟨c, h1⟩, h2⟩ := ho
        obtain ⟨k, i, rfl, h4, _, _⟩ := hbxa id c h1
        exact ⟨k, i, h4, .inl ⟨rfl, by rw [h2, hmL k i h4]⟩⟩
    refine ⟨Fr.refl _ _ _ _, fun i => ?_, fun id c hc => ?_, fun l l' b h1 h2 => ?_, fun l b h1 => ?_, fun b hb => t2.top b hb, fun id c hc => ?_, t2.invAt hX fun b hb => by obtain ⟨i, hi, l, hl, _⟩ := hDo b hb; exact ⟨l, hl⟩⟩
    · rw [hlook]
      cases hi : as'[i]? with
      | none => exact .undef _
      | some v' =>
        have hlt : i < cargs.size := by rw [hcs]; exact (List.getElem?_eq_some_iff.mp hi).1
        have hgd : cargs.getD i Go.undef = cargs[i] := by simp [Array.getD, hlt]
        rw [hgd]
        exact (hent i v' cargs[i] hi (by simp [hlt])).1 _
    · obtain ⟨k, i, rfl, h4, h5, h6⟩ := hbxa id c hc
      obtain ⟨vs, e, g1, g2⟩ := t2.box i c h5
      exact ⟨vs, e, g1.poAny h6 _ _, by rw [hmL k i h4]; exact g2⟩
    · obtain ⟨k, i, e1, g1⟩ := how l b h1
      obtain ⟨k', i', e3, g3⟩ := how l' b h2
      have hkk : i = i' → k = k' := fun e => by
        subst e
        have hlt := (List.getElem?_eq_some_iff.1 e1).1
        exact (List.getElem?_inj hlt hnd).1 (by rw [e1, e3])
      have hi := hOwL i (List.mem_of_getElem? e1)
      have hi' := hOwL i' (List.mem_of_getElem? e3)
      rcases g1 with ⟨rfl, e2⟩ | ⟨off, rfl, e2⟩ <;> rcases g3 with ⟨rfl, e4⟩ | ⟨off', rfl, e4⟩
      · rw [hkk (hinj i (List.mem_of_getElem? e1) i' (List.mem_of_getElem? e3) (by rw [← e2, e4]))]
      · have := t2.sep _ _ _ (e2 ▸ hi) e4
        cases this
      · have := t2.sep _ _ _ e2 (e4 ▸ hi')
        cases this
      · have := t2.sep _ _ _ e2 e4
        injection this with q1 q2
        rw [hkk q1, q2]
    · obtain ⟨k, i, e1, g1⟩ := how l b h1
      have hi := List.mem_of_getElem? e1
      have hDb : D b := by
        rcases g1 with ⟨_, e2⟩ | ⟨off, _, e2⟩
        · exact ⟨i, hi, .inl e2⟩
        · exact ⟨i, hi, .inr ⟨off, e2⟩⟩
      have := hDm b hDb
      exact ⟨this.1, .inl hDb, this.2.2⟩
    · obtain ⟨k, i, _, _, _, h6⟩ := hbxa id c hc
      exact isPO_at h6
  have hcall := hcon D cl1 mc w cargs hcs hpre
  have hrun : (execOp a.eval o).run P w = .ok (.enter f cargs) w := by
    have e1 : (args.map a.eval) = (args.toList.map a.eval).toArray := by apply Array.ext'; simp
    have hname : ¬ fn.name = "runtime.NumGoroutine" := by simpa using hf2
    simp only [execOp, ho, resolve, hfx, Deferred.ofValue, e1, Sem.run_bind, Sem.run_pure, Result.andThen_ok, invoke, callFunc, run_program, hf1, hf2, hf3, Bool.false_eq_true, if_false]
    simp [cargs]
  unfold Oper.wp
  rw [hrun]
  simp only [Oper.upon]
  refine hcall.mono fun e w' ⟨c, cl2, m2, he, hpost, hm2⟩ => ?_
  subst he
  simp only
  have hV : V X cl2 w' m2 (lval m2 ({ env := [(0, v)], hp := zipI 1000 bx' } : St X.U) #[c] w') v c := by
    have := hpost.env 0
    simpa [St.look, assoc, Array.getD] using this
  have hfr := hpost.fr
  have hw0 : w.heap.size ≤ w'.heap.size := hfr.size
  have hheap : ∀ b, b < w.heap.size → ¬ D b → w'.heap[b]? = w.heap[b]? ∧ cl2 b = cl1 b := fun b hb hd => hfr.block b hb hd
  obtain ⟨p1, p2, p3, p4, p5⟩ := putB_says hs2 hnd (fun i hi => by obtain ⟨c, h1, _⟩ := hbox1 i hi; exact ⟨c, h1⟩)
  have hm2L : ∀ (k i : Nat), L[k]? = some i → m2 (1000 + k) = m i := fun k i hk => by
    rcases hm2 with e | e
    · have : L.length = 0 := by rw [← b1, e]; rfl
      have := (List.getElem?_eq_some_iff.1 hk).1
      omega
    · rw [e (1000 + k) (by omega), hmL k i hk]
  have hboxc : ∀ (k i : Nat), L[k]? = some i → ∃ c1, bx'[k]? = some c1 ∧ c1.all AV.isPO = true ∧ Ow m2 ({ env := [(0, v)], hp := zipI 1000 bx' } : St X.U) #[c] w' (.box (1000 + k)) (m i) ∧
      ∃ vs e, Vs X cl2 w' m (fun _ => none) c1 vs ∧ w'.heap[m i]? = some (.cells (flat vs).toArray e (0, 0)) := fun k i hk => by
    have hlt := (List.getElem?_eq_some_iff.1 hk).1
    obtain ⟨c1, hc1⟩ : ∃ c1, bx'[k]? = some c1 := ⟨_, List.getElem?_eq_getElem (by omega)⟩
    have ha : assoc (zipI 1000 bx') (1000 + k) = some c1 := by rw [assoc_zipI, if_pos (by omega), show 1000 + k - 1000 = k by omega]; exact hc1
    have hp1 := List.all_eq_true.1 hpv' c1 (List.mem_of_getElem? hc1)
    obtain ⟨vs, e, g1, g2⟩ := hpost.box (1000 + k) c1 ha
    rw [hm2L k i hk] at g2
    exact ⟨c1, hc1, hp1, ⟨⟨c1, ha⟩, (hm2L k i hk).symm⟩, vs, e, g1.poAny hp1 _ _, g2⟩
  have hOwC : ∀ i ∈ L, ∃ id, Ow m2 ({ env := [(0, v)], hp := zipI 1000 bx' } : St X.U) #[c] w' (.box id) (m i) := fun i hi => by
    obtain ⟨k, hk⟩ := List.mem_iff_getElem?.1 hi
    have hlt := (List.getElem?_eq_some_iff.1 hk).1
    obtain ⟨c1, hc1⟩ : ∃ c1, bx'[k]? = some c1 := ⟨_, List.getElem?_eq_getElem (by omega)⟩
    exact ⟨1000 + k, ⟨⟨c1, by rw [assoc_zipI, if_pos (by omega), show 1000 + k - 1000 = k by omega]; exact hc1⟩, (hm2L k i hk).symm⟩⟩
  -- the caller's state without the boxes that were handed in
  let s0 : St X.U := { env := s2.env, hp := s1.hp.filter fun p => !L.contains p.1 }
  have hs0a : ∀ i c, assoc s0.hp i = some c → assoc s1.hp i = some c ∧ i ∉ L := by
    intro i c hc
    have : ∀ l : List (Nat × List (AV X.U)), assoc (l.filter fun p => !L.contains p.1) i = some c → assoc l i = some c ∧ i ∉ L := by
      intro l
      induction l with
      | nil => intro h; simp [assoc] at h
      | cons p r ih =>
        obtain ⟨j, y⟩ := p
        intro h
        by_cases hj : L.contains j = true
        · rw [List.filter_cons_of_neg (by simpa using hj)] at h
          obtain ⟨h1, h2⟩ := ih h
          have hji : ¬ j = i := fun e => h2 (by subst e; simpa using hj)
          exact ⟨by simp only [assoc, if_neg hji]; exact h1, h2⟩
        · rw [List.filter_cons_of_pos (by simpa using hj)] at h
          by_cases hji : j = i
          · subst hji
            simp only [assoc, if_true] at h ⊢
            exact ⟨h, by simpa using hj⟩
          · simp only [assoc, if_neg hji] at h ⊢
            exact ih h
    exact this s1.hp hc
  have hs0n : ∀ i ∈ L, assoc s0.hp i = none := fun i hi => by
    cases hq : assoc s0.hp i with
    | none => rfl
    | some c => exact absurd hi (hs0a i c hq).2
  have hs0s : ∀ i, i ∉ L → assoc s0.hp i = assoc s1.hp i := by
    intro i hi
    have : ∀ l : List (Nat × List (AV X.U)), assoc (l.filter fun p => !L.contains p.1) i = assoc l i := by
      intro l
      induction l with
      | nil => rfl
      | cons p r ih =>
        obtain ⟨j, y⟩ := p
        by_cases hj : L.contains j = true
        · rw [List.filter_cons_of_neg (by simpa using hj), ih]
          have hji : ¬ j = i := fun e => hi (by subst e; simpa using hj)
          simp only [assoc, if_neg hji]
        · rw [List.filter_cons_of_pos (by simpa using hj)]
          simp only [assoc, ih]
    exact this s1.hp
  have r0 : Rel B cl1 m s0 a.tmps w := t2.weaken (fun i => p2 i) fun i c hc => (hs0a i c hc).1
  have hs01 : ∀ l b, Ow m s0 a.tmps w l b → Ow m s1 a.tmps w l b := by
    intro l b ho
    cases l with
    | slot j =>
      simp only [Ow] at ho ⊢
      rcases p2 j with e | e
      · rw [show s0.look j = s1.look j from e] at ho; exact ho
      · rw [show s0.look j = .undef from e] at ho; simp [blk] at ho
    | cell j off => obtain ⟨c', u, h1, h2⟩ := ho; exact ⟨c', u, (hs0a j c' h1).1, h2⟩
    | box j => obtain ⟨⟨c', h1⟩, h2⟩ := ho; exact ⟨⟨c', (hs0a j c' h1).1⟩, h2⟩
  have hnotD : ∀ l b, Ow m s0 a.tmps w l b → ¬ D b := by
    intro l b ho hd
    obtain ⟨i, hi, l2, hl2, hl3⟩ := hDo b hd
    have := t2.sep _ _ _ (hs01 l b ho) hl2
    subst this
    rcases hl3 with rfl | ⟨off, rfl⟩
    · obtain ⟨⟨c', h1⟩, _⟩ := ho
      rw [hs0n i hi] at h1; cases h1
    · obtain ⟨c', u, h1, _⟩ := ho
      rw [hs0n i hi] at h1; cases h1
  have r1 : Rel B cl2 m s0 a.tmps w' := by
    refine r0.world hX.wpos ⟨hfr.os.trans r0.fr.os, hfr.tape.trans r0.fr.tape, hfr.output.trans r0.fr.output, Nat.le_trans r0.fr.size hw0, fun b hb hd => ?_⟩ (Ext.of fun b h1 hv => ?_) hw0 (fun l b hb => ?_) hpost.top
    · have hlt : b < w.heap.size := Nat.lt_of_lt_of_le hb r0.fr.size
      have hnd' : ¬ D b := fun hD' => by
        rcases (hDm b hD').2.1 with k | k
        · exact hd k
        · omega
      obtain ⟨k1, k2⟩ := hheap b hlt hnd'
      obtain ⟨k3, k4⟩ := r0.fr.block b hb hd
      exact ⟨k1.trans k3, k2.trans k4⟩
    · obtain ⟨v, hv⟩ := hv
      have hlt := (Array.getElem?_eq_some_iff.mp hv).1
      have hnd' : ¬ D b := fun hD' => by have := (hDm b hD').2.2; omega
      obtain ⟨k1, k2⟩ := hheap b hlt hnd'
      exact ⟨k1, by rw [k2]; exact Nat.le_refl _⟩
    · have hm' := r0.mine l b hb
      obtain ⟨k1, k2⟩ := hheap b hm'.1 (hnotD l b hb)
      exact ⟨k1, by rw [k2]; exact hm'.2.2⟩
  -- what is owned was owned before
  have how0 : ∀ l b, Ow m s0 a.tmps w' l b → Ow m s0 a.tmps w l b := by
    intro l b ho
    cases l with
    | slot j => exact ho
    | cell j off =>
      obtain ⟨c', u, h1, h2, h3⟩ := ho
      refine ⟨c', u, h1, h2, ?_⟩
      have hm' := r0.mine (.box j) _ ⟨⟨c', h1⟩, rfl⟩
      rw [cell?_of_heap (hheap _ hm'.1 (hnotD (.box j) _ ⟨⟨c', h1⟩, rfl⟩)).1] at h3; exact h3
    | box j => exact ho
  have hno0 : ∀ b, (D b ∨ w.heap.size ≤ b) → ∀ l, ¬ Ow m s0 a.tmps w' l b := fun b hb l ho => by
    have ho' := how0 l b ho
    rcases hb with hb | hb
    · exact hnotD l b ho' hb
    · have := (r0.mine l b ho').1; omega
  let Q : Nat → Option (List (AV X.U)) := fun i => if i ∈ L then assoc s2.hp i else none
  have hQ : ∀ i c, Q i = some c → ∃ k, L[k]? = some i ∧ bx'[k]? = some c ∧ i ∈ L := fun i c h => by
    simp only [Q] at h
    split at h
    · rename_i hi
      obtain ⟨k, hk⟩ := List.mem_iff_getElem?.1 hi
      exact ⟨k, hk, by rw [← p4 k i hk]; exact h, hi⟩
    · cases h
  have hkk : ∀ (k k' i : Nat), L[k]? = some i → L[k']? = some i → k = k' := fun k k' i h1 h2 => by
    have hlt := (List.getElem?_eq_some_iff.1 h1).1
    exact (List.getElem?_inj hlt hnd).1 (by rw [h1, h2])
  have hcb : ∀ (k i : Nat) (c1 : List (AV X.U)) (off b : Nat), L[k]? = some i → bx'[k]? = some c1 → CellB m w' i c1 off b → Ow m2 ({ env := [(0, v)], hp := zipI 1000 bx' } : St X.U) #[c] w' (.cell (1000 + k) off) b := by
    intro k i c1 off b h1 h2 ⟨u, q1, q2⟩
    refine ⟨c1, u, ?_, q1, by rw [hm2L k i h1]; exact q2⟩
    rw [assoc_zipI, if_pos (by omega), show 1000 + k - 1000 = k by omega]; exact h2
  have hbb : ∀ (k i : Nat) (c1 : List (AV X.U)), L[k]? = some i → bx'[k]? = some c1 → Ow m2 ({ env := [(0, v)], hp := zipI 1000 bx' } : St X.U) #[c] w' (.box (1000 + k)) (m i) := fun k i c1 h1 h2 =>
    ⟨⟨c1, by rw [assoc_zipI, if_pos (by omega), show 1000 + k - 1000 = k by omega]; exact h2⟩, (hm2L k i h1).symm⟩
  have hms : ∀ l b, Ow m2 ({ env := [(0, v)], hp := zipI 1000 bx' } : St X.U) #[c] w' l b → b < w'.heap.size ∧ (D b ∨ w.heap.size ≤ b) ∧ (B.D b ∨ B.w.heap.size ≤ b) ∧ cl2 b = 0 := fun l b ho => by
    obtain ⟨k1, k2, k3⟩ := hpost.mine l b ho
    refine ⟨k1, k2, ?_, k3⟩
    rcases k2 with k2 | k2
    · exact (hDm b k2).2.1
    · exact .inr (Nat.le_trans hR.fr.size k2)
  have r3 : Rel B cl2 m s2 a.tmps w' := by
    refine r1.addAll Q (fun i => rfl) (fun i => ?_) (fun i id off hl => ?_) (fun id c1 hq => ?_) (fun id c1 hq => ?_) (fun id c1 off b hq hcb1 => ?_) (fun id id' c1 c1' hq hq' e => ?_) (fun id id' c1 c1' off b hq hq' h1 => ?_) (fun id id' c1 c1' off off' b hq hq' h1 h2 => ?_)
    · simp only [Q]
      by_cases hi : i ∈ L
      · rw [if_pos hi]
        obtain ⟨k, hk⟩ := List.mem_iff_getElem?.1 hi
        obtain ⟨c1, hc1, _⟩ := hboxc k i hk
        rw [p4 k i hk, hc1]
      · rw [if_neg hi, p3 i hi, hs0s i hi]
    · simp only [Q]
      by_cases hi : id ∈ L
      · have := p5 id hi i
        have hl' : (s2.look i).at? = some (.cell id off) := hl
        cases hz : s2.look i <;> rw [hz] at hl' this <;> simp [AV.at?] at hl' <;> subst hl' <;> simp [AV.atCell] at this
      · rw [if_neg hi]
    · obtain ⟨k, k1, k2, _⟩ := hQ id c1 hq
      obtain ⟨c2, g1, g2, _, vs, e, g3, g4⟩ := hboxc k id k1
      rw [k2] at g1; cases g1
      exact ⟨g2, vs, e, g3, g4⟩
    · obtain ⟨k, k1, k2, hi⟩ := hQ id c1 hq
      obtain ⟨j1, j2, j3, j4⟩ := hms _ _ (hbb k id c1 k1 k2)
      exact ⟨hno0 _ j2, j1, j3, j4⟩
    · obtain ⟨k, k1, k2, hi⟩ := hQ id c1 hq
      obtain ⟨j1, j2, j3, j4⟩ := hms _ _ (hcb k id c1 off b k1 k2 hcb1)
      exact ⟨hno0 _ j2, j1, j3, j4⟩
    · obtain ⟨_, _, _, hi⟩ := hQ id c1 hq
      obtain ⟨_, _, _, hi'⟩ := hQ id' c1' hq'
      exact hinj _ hi _ hi' e
    · obtain ⟨k, k1, k2, _⟩ := hQ id c1 hq
      obtain ⟨k', k1', k2', _⟩ := hQ id' c1' hq'
      intro e
      have := hpost.sep _ _ _ (hcb k id c1 off b k1 k2 h1) (e ▸ hbb k' id' c1' k1' k2')
      cases this
    · obtain ⟨k, k1, k2, _⟩ := hQ id c1 hq
      obtain ⟨k', k1', k2', _⟩ := hQ id' c1' hq'
      have := hpost.sep _ _ _ (hcb k id c1 off b k1 k2 h1) (hcb k' id' c1' off' b k1' k2' h2)
      injection this with q1 q2
      have : k = k' := by omega
      subst this
      rw [k1] at k1'; cases k1'
      exact ⟨rfl, q2⟩
  have hVf : V X cl2 w' m (lval m s2 a.tmps w') v c := by
    rcases hv12 with ⟨p, rfl⟩ | ⟨u, rfl⟩
    · cases hV with | pv h => exact .pv h
    · cases hV with | own h => exact .own h
  refine hnext _ _ (Good.put r3 hN hD hd hVf fun b hb => ?_)
  have hsl : Ow m2 ({ env := [(0, v)], hp := zipI 1000 bx' } : St X.U) #[c] w' (.slot 0) b := by simp only [Ow, St.look, assoc]; simpa [Array.getD] using hb
  obtain ⟨j1, j2, j3, j4⟩ := hms _ _ hsl
  refine ⟨fun l hl => ?_, j1, j3, j4⟩
  have hs2s0 : ∀ l b, Ow m s2 a.tmps w' l b → Ow m s0 a.tmps w' l b ∨ ∃ k l', Ow m2 ({ env := [(0, v)], hp := zipI 1000 bx' } : St X.U) #[c] w' l' b ∧ (l' = .box (1000 + k) ∨ ∃ off, l' = .cell (1000 + k) off) := by
    intro l b ho
    cases l with
    | slot j => exact .inl ho
    | cell j off =>
      obtain ⟨c', u, h1, h2, h3⟩ := ho
      by_cases hi : j ∈ L
      · obtain ⟨k, hk⟩ := List.mem_iff_getElem?.1 hi
        rw [p4 k j hk] at h1
        exact .inr ⟨k, _, hcb k j c' off b hk h1 ⟨u, h2, h3⟩, .inr ⟨off, rfl⟩⟩
      · rw [p3 j hi] at h1
        exact .inl ⟨c', u, by rw [hs0s j hi]; exact h1, h2, h3⟩
    | box j =>
      obtain ⟨⟨c', h1⟩, h2⟩ := ho
      by_cases hi : j ∈ L
      · obtain ⟨k, hk⟩ := List.mem_iff_getElem?.1 hi
        rw [p4 k j hk] at h1
        exact .inr ⟨k, _, h2 ▸ hbb k j c' hk h1, .inl rfl⟩
      · rw [p3 j hi] at h1
        exact .inl ⟨⟨c', by rw [hs0s j hi]; exact h1⟩, h2⟩
  rcases hs2s0 l b hl with h | ⟨k, l', h, hl'⟩
  · exact hno0 b j2 l h
  · have := hpost.sep _ _ _ hsl h
    subst this
    rcases hl' with h | ⟨_, h⟩ <;> cases h
theorem callX_sound (hX : XOK X) {N : Nat} {G : Ans X ρ} {tk : Takes} (hG : GOK P G) {o : Oper} {x : Operand} {args : Array Operand} {argTypes : Array TypeId} {f : FuncId} {first caps : List (SV X.U)}
    (ho : o.op = .call { callee := .value x, args, argTypes }) (hx : s.ev 0 x = .fn f first caps) (hlen : args.size = argTypes.size) {K : AV X.U → St X.U → Option ρ} {r : ρ}
    {nq : Bool} (h : callX X G tk s f (first.map SV.av ++ ((args.toList.zip argTypes.toList).map (evA X s nq)) ++ caps.map SV.av) K = some r) :
    ∃ v s', K v s' = some r ∧ (dstOk N o v = true → OpOk P N s o v s') := by
  unfold callX at h
  split at h
  case h_2 => cases h
  rename_i as ls hargs
  cases hi : (idsL as).isEmpty with
  | true => rw [hi, cond_true] at h; exact callK_sound hX hG ho hx hlen h
  | false => rw [hi, cond_false] at h; exact callB_sound hX hG ho hx hlen hargs h
theorem storeK_inv {t : TypeId} {x : Operand} {id off i sz n : Nat} {K : List (AV X.U) → Option ρ} {r : ρ} (h : storeK X s t x id off i sz n K = some r) : ∃ c2, storeA X s t x id off i sz n = some c2 ∧ K c2 = some r := by
  unfold storeK at h
  unfold storeA
  split at h
  case h_2 => cases h
  rename_i c hc
  split at h
  case h_2 => cases h
  rename_i u hseg
  split at h
  case h_2 => cases h
  rename_i len get v hview hy
  split at h
  case isFalse => cases h
  rename_i hi
  split at h
  case isFalse => cases h
  rename_i hi2
  split at h
  case isFalse => cases h
  rename_i hi3
  split at h
  case h_2 => cases h
  rename_i u' hu
  split at h
  case h_2 => cases h
  rename_i c2 hc2
  split at h
  case isFalse => cases h
  rename_i hi4
  refine ⟨c2, ?_, h⟩
  rw [if_pos hi, if_pos hi2, if_pos hi3, if_pos hi4]
/-- A part of an array in a box gets a value. -/
theorem storeA_sound (hX : XOK X) (hT : TOK P X) {N : Nat} {o : Oper} {t : TypeId} {x y : Operand} {id off i sz n : Nat} {td : TD} {bb : Nat} {c2 : List (AV X.U)} (ho : o.op = .store t x y) (hev : s.ev 0 x = .aptr id off i sz)
    (hty : X.ty t = some ⟨td, n, bb⟩) (h : storeA X s t y id off i sz n = some c2) (hd : dstOk N o (AV.pv (U := X.U) (.tup [])) = true) : OpOk P N s o (.pv (.tup [])) (s.setBox id c2) := by
  unfold storeA at h
  split at h
  case h_2 => cases h
  rename_i c hc
  split at h
  case h_2 => cases h
  rename_i u hseg
  split at h
  case h_2 => cases h
  rename_i len get v hview hy
  split at h
  case isFalse => cases h
  rename_i hi
  split at h
  case isFalse => cases h
  rename_i hi2
  split at h
  case isFalse => cases h
  rename_i hcond
  obtain ⟨⟨hesz, hn⟩, hplain, hw⟩ := hcond
  split at h
  case h_2 => cases h
  rename_i u' hset
  split at h
  case h_2 => cases h
  rename_i c2' hput
  split at h
  case isFalse => cases h
  rename_i hpv
  cases h
  obtain ⟨a1, a2, get', a3, a4, a5⟩ := hX.setA _ _ _ _ _ _ hset hview hi hi2
  intro B a w ⟨cl, m, hR, hN, hD⟩ next Q hnext
  obtain ⟨vs, e, h1, h2⟩ := hR.box id c hc
  have hvy := evV hX hR t y
  rw [hy] at hvy
  obtain ⟨cn, g1, g2⟩ := segs_plain hvy hplain
  have hsz : (a.eval y).cells.size = sz := by rw [← Array.length_toList, g2, g1.size, hw]
  have hocy : oc (a.eval y) sz := ⟨hsz, fun q hq => by rw [g2] at hq; exact g1.oc q hq⟩
  obtain ⟨ca, cx, cb, rfl, k1, k2, k3⟩ := h1.seg hseg
  have hx := evV hX hR 0 x
  rw [hev] at hx
  have hxe : a.eval x = .pointer (some ⟨m id, off + i * sz, none⟩) := by
    generalize a.eval x = z at hx
    cases hx; rfl
  cases k1 with
  | pv k1 =>
  cases k1 with
  | seg q1 _ => rw [hview] at q1; cases q1
  | sl q1 _ _ _ _ _ => rw [hview] at q1; cases q1
  | @arr _ n' get0 ws q1 q2 q3 q4 q5 =>
  rw [hview] at q1; cases q1
  have hlt : i < ws.length := by omega
  rw [hesz] at q4 q5
  have hfl := flat_len q4
  have hset' : (∀ z ∈ ws.set i (a.eval y), oc z sz) := fun z hz => by
    rcases List.mem_or_eq_of_mem_set hz with hz | hz
    · exact q4 z hz
    · rw [hz]; exact hocy
  cases hvy with
  | pv hvp =>
  have hnewV : VP X cl w (.typ u') (.agg (flat (ws.set i (a.eval y))).toArray) := by
    refine .arr a3 (by rw [List.length_set, q2]) (fun j hj => ?_) (by rw [a2, hesz]; exact hset') (by rw [a1, q5, a2, hesz])
    rw [List.length_set] at hj
    by_cases e : j = i
    · subst e; rw [List.getElem_set_self, a4]; exact hvp
    · rw [List.getElem_set_ne (fun h => e h.symm), a5 j (by omega) e]; exact q3 j hj
  have hflat := flat_set (vs := ws) (i := i) (c := a.eval y) q4 hlt hocy
  have hnewlen : (flat (ws.set i (a.eval y))).length = X.width u := by rw [flat_len hset', List.length_set, q2, q5]
  have hwid : (AV.pv (PV.typ u') : AV X.U).segW X = X.width u := by simp only [AV.segW, PV.segW, a3, a1]
  have hnewVs : Vs X cl w m (lval m s a.tmps w) [AV.pv (.typ u')] [.agg (flat (ws.set i (a.eval y))).toArray] := by
    refine .cons (.pv hnewV) ⟨?_, fun q hq => ?_⟩ .nil
    · rw [hwid]; simp only [Value.cells, List.size_toArray]; exact hnewlen
    · simp only [Value.cells] at hq
      exact flat_oc hset' q (by simpa using hq)
  obtain ⟨ca', cm, cb', e1, p2, p3, p4, p5⟩ := h1.putSpan hnewVs hput
  have hcxl : (flat ws).length = X.width u := by rw [hfl, q2, q5]
  -- the same place
  have hsp : flat ca' = flat ca ∧ flat cm = flat ws ∧ flat cb' = flat cb := by
    have e2 := congrArg flat e1
    rw [flat_append, flat_cons, flat_append, flat_append] at e2
    have e3 : flat ca' = flat ca := by
      have := congrArg (List.take off) e2
      rw [List.take_append_of_le_length (by omega), List.take_append_of_le_length (by omega), List.take_of_length_le (by omega), List.take_of_length_le (by omega)] at this
      exact this.symm
    rw [e3] at e2
    have e4 := List.append_cancel_left e2
    have e5 : flat cm = flat ws := by
      have := congrArg (List.take (X.width u)) e4
      have hv1 : (Value.agg (flat ws).toArray).cells.toList = flat ws := by simp [Value.cells]
      rw [hv1] at this
      rw [List.take_append_of_le_length (by omega), List.take_append_of_le_length (by omega), List.take_of_length_le (by omega), List.take_of_length_le (by omega)] at this
      exact this.symm
    have hv1 : (Value.agg (flat ws).toArray).cells.toList = flat ws := by simp [Value.cells]
    rw [hv1, e5] at e4
    exact ⟨e3, e5, (List.append_cancel_left e4).symm⟩
  have hrow0 : flat (ca ++ (Value.agg (flat ws).toArray) :: cb) = flat ca ++ (flat ws ++ flat cb) := by rw [flat_append, flat_cons]; simp [Value.cells]
  have hrow1 : flat (ca' ++ ([Value.agg (flat (ws.set i (a.eval y))).toArray] ++ cb')) = flat ca ++ (flat (ws.set i (a.eval y)) ++ flat cb) := by
    rw [flat_append, flat_append, hsp.1, hsp.2.2]; simp [flat, Value.cells]
  have hisz : i * sz + sz ≤ (flat ws).length := by rw [hfl]; have := Nat.mul_le_mul_right sz (show i + 1 ≤ ws.length by omega); rw [Nat.add_mul] at this; omega
  have hst := run_storeCells_at P (m id) (off + i * sz) e (a.eval y).cells.toList 0 (flat (ca ++ (Value.agg (flat ws).toArray) :: cb)).toArray w h2 (by
      rw [hrow0]; simp only [List.size_toArray, List.length_append, Array.length_toList, hsz]; omega) (fun q hq => hocy.2 q hq)
  have hnew : ((flat (ca ++ (Value.agg (flat ws).toArray) :: cb)).toArray.toList.take (off + i * sz + 0) ++ (a.eval y).cells.toList ++ (flat (ca ++ (Value.agg (flat ws).toArray) :: cb)).toArray.toList.drop (off + i * sz + 0 + (a.eval y).cells.toList.length)).toArray
      = (flat (ca' ++ ([Value.agg (flat (ws.set i (a.eval y))).toArray] ++ cb'))).toArray := by
    congr 1
    rw [hrow1, hflat]
    simp only [List.toList_toArray, hrow0, Nat.add_zero, Array.length_toList, hsz]
    rw [List.take_append, List.take_of_length_le (l := flat ca) (by omega), show off + i * sz - (flat ca).length = i * sz by omega, List.take_append_of_le_length (by omega)]
    rw [List.drop_append, List.drop_of_length_le (l := flat ca) (by omega), List.nil_append, show off + i * sz + sz - (flat ca).length = i * sz + sz by omega, List.drop_append_of_le_length (by omega)]
    simp only [List.append_assoc]
  rw [hnew] at hst
  obtain ⟨info, d, i1, i2, _⟩ := hT.ty t _ hty
  have hsv : (Instr.storeAt t (a.eval x) (a.eval y)).run P w = .ok () (w.setRow (m id) (flat (ca' ++ ([Value.agg (flat (ws.set i (a.eval y))).toArray] ++ cb'))).toArray) := by
    simp only [Instr.storeAt, hxe, Instr.sureAddr, Sem.run_bind, Sem.run_pure, Result.andThen_ok, storeVar, sizeOf, typeInfo, run_program, i1, i2, hsz, hn, ne_eq, not_true_eq_false, if_false, hst]
  have hR' : Rel B cl m (s.setBox id c2) a.tmps (w.setRow (m id) (flat (ca' ++ ([Value.agg (flat (ws.set i (a.eval y))).toArray] ++ cb'))).toArray) := by
    refine hR.setBox hX.wpos hc h2 p2 (fun z hz => ?_) rfl rfl rfl ?_ (fun b hb => ?_) (setRow_heap w (m id) _ _ e (0, 0) h2) (fun off' b hob => ?_)
    · have := List.all_eq_true.1 hpv z hz
      cases z <;> simp [AV.isPv] at this
      rfl
    · simp [World.setRow]
    · simp only [World.setRow, Array.getElem?_modify]
      rw [if_neg (by omega)]
    · obtain ⟨u2, q1', _⟩ := hob
      exact absurd q1' (isPv_own hpv)
  exact wp_of_skip (w' := w.setRow (m id) (flat (ca' ++ ([Value.agg (flat (ws.set i (a.eval y))).toArray] ++ cb'))).toArray) (by simp [execOp, ho, hsv]) (hnext _ _ (Good.put hR' hN hD hd (.pv (.tup .nil)) fun b hb => by simp [blk] at hb))
end Go.AX
