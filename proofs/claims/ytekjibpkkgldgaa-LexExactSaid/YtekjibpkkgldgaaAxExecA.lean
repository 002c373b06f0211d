/-
  Operations and regions: what the reckoning machine answers is what the program does.
-/
import Derived.Test.YtekjibpkkgldgaaAxOpJ
import Derived.ScopeJumps
namespace Go.AX
open Go
variable {X : Univ} {P : Program} {cl cl' m : Nat → Nat} {w w' : World} {B : Base} {s s' : St X.U} {tm : Array Value} {ρ : Type} {N : Nat} {a : Act}

theorem opK_sound (hX : XOK X) (hT : TOK P X) {G : Ans X ρ} {tk : Takes} (hG : GOK P G) {o : Oper} {K : AV X.U → St X.U → Option ρ} {r : ρ} (h : opK X G tk s o K = some r) :
    ∃ v s', K v s' = some r ∧ (dstOk N o v = true → OpOk P N s o v s') := by
  have val : valK X ⟨s.ev, s.own, assoc s.hp⟩ o (fun v => K v s) = some r → ∃ v s', K v s' = some r ∧ (dstOk N o v = true → OpOk P N s o v s') := fun h => by
    obtain ⟨v, h1, h2, h3⟩ := valK_sound hX hT h
    exact ⟨v, s, h1, fun hd => opOk_val h3 h2 hd⟩
  have own : ownK X ⟨s.ev, s.own, assoc s.hp⟩ tk o (fun v e => K v (s.eff e)) = some r → ∃ v s', K v s' = some r ∧ (dstOk N o v = true → OpOk P N s o v s') := fun h => by
    obtain ⟨v, e, h1, _, _, h3⟩ := ownK_sound hX hT h
    exact ⟨v, _, h1, h3⟩
  unfold opK at h
  split at h
  · rename_i e hop
    split at h
    · rename_i d z ti hd0 hz _
      exact ⟨_, _, h, fun hd => alloc_sound hX hT hop hd0 hz hd⟩
    · cases h
  · rename_i e x hop
    split at h
    · rename_i d _ n _ hd0 hty
      simp only at h
      split at h
      case isFalse => cases h
      rename_i hp
      simp only [Bool.and_eq_true, Bool.not_eq_true'] at hp
      split at h
      case isFalse => cases h
      exact ⟨_, _, h, fun hd => box_sound hX hop hd0 hp.1 hp.2 hd⟩
    · cases h
  · rename_i t x y hop
    split at h
    · rename_i id off _ n _ hev hty
      split at h
      case h_2 => cases h
      rename_i c hc
      split at h
      case isFalse => cases h
      rename_i hp
      split at h
      case h_2 => cases h
      rename_i c2 hs
      exact ⟨_, _, h, fun hd => store_sound hX hT hop hev hty hc hp hs hd⟩
    · exact own h
    · cases h
  · rename_i x args argTypes hop
    split at h
    case h_2 => cases h
    rename_i f first caps hx
    split at h
    case isTrue => cases h
    rename_i hlen
    exact callK_sound hX hG hop hx (by simpa using hlen) h
  · rename_i i hop
    split at h
    · rename_i u q hl
      exact ⟨_, _, h, fun hd => moveTup_sound hX.wpos hop hl hd⟩
    · exact val h
  · rename_i i hop
    split at h
    · rename_i u q hl
      exact ⟨_, _, h, fun hd => extractTup_sound hX.wpos hop hl hd⟩
    · exact val h
  · cases hi : isOwn X o with
    | true => rw [hi, cond_true] at h; exact own h
    | false => rw [hi, cond_false] at h; exact val h

/-! The same state, told otherwise. -/
theorem Rel.weaken (h : Rel B cl m s tm w) (hl : ∀ i, s'.look i = s.look i ∨ s'.look i = .undef) (hb : ∀ id c, assoc s'.hp id = some c → assoc s.hp id = some c) : Rel B cl m s' tm w := by
  have hown : ∀ l u, s'.own l = some u → s.own l = some u := by
    intro l u hu
    cases l with
    | slot i =>
      rw [own_slot] at hu ⊢
      rcases hl i with e | e <;> rw [e] at hu
      · exact hu
      · cases hu
    | cell id off =>
      obtain ⟨c, h1, h2⟩ := own_cell hu
      simp [St.own, hb id c h1, h2]
  have hlv : ∀ l x, lval m s' tm w l = some x → lval m s tm w l = some x := by
    intro l x hx
    obtain ⟨⟨u, hu⟩, rfl⟩ := lval_some hx
    exact lval_of (hown l u hu)
  have how : ∀ l b, Ow m s' tm w l b → Ow m s tm w l b := by
    intro l b ho
    cases l with
    | slot i =>
      simp only [Ow] at ho ⊢
      rcases hl i with e | e <;> rw [e] at ho
      · exact ho
      · simp [blk] at ho
    | cell id off => obtain ⟨c, u, h1, h2⟩ := ho; exact ⟨c, u, hb id c h1, h2⟩
    | box id => obtain ⟨⟨c, h1⟩, h2⟩ := ho; exact ⟨⟨c, hb id c h1⟩, h2⟩
  refine ⟨h.fr, fun i => ?_, fun id c hc => ?_, fun l l' b h1 h2 => h.sep l l' b (how _ _ h1) (how _ _ h2), fun l b h1 => h.mine l b (how _ _ h1), h.top, fun id c hc => h.bok id c (hb id c hc), h.inv⟩
  · rcases hl i with e | e <;> rw [e]
    · exact (h.env i).lv fun l x _ hx => hlv l x hx
    · exact .undef _
  · obtain ⟨vs, e, h1, h2⟩ := h.box id c (hb id c hc)
    exact ⟨vs, e, h1.lv fun l x _ hx => hlv l x hx, h2⟩

theorem Good.weaken (h : Good B N s a w) (hl : ∀ i, s'.look i = s.look i ∨ s'.look i = .undef) (hb : ∀ id c, assoc s'.hp id = some c → assoc s.hp id = some c) : Good B N s' a w := by
  obtain ⟨cl, m, h1, h2, h3⟩ := h
  exact ⟨cl, m, h1.weaken hl hb, h2, h3⟩

theorem look_lit {d : Nat} {b : Bool} (h : s.look d = .pv (.bool b)) (i : Nat) : (s.lit d b).look i = s.look i := by
  simp only [St.look, St.lit, assoc_assocSet]
  by_cases hi : i = d
  · subst hi
    simp only [if_true]
    cases ha : assoc s.env i with
    | none => simp [St.look, ha] at h
    | some v => simp [St.look, ha] at h; simp [h]
  · simp [hi]
theorem Good.lit (h : Good B N s a w) {d : Nat} {b : Bool} (hd : s.look d = .pv (.bool b)) : Good B N (s.lit d b) a w := h.weaken (fun i => .inl (look_lit hd i)) (fun _ _ h => h)

theorem assoc_map (L : List Nat) (f : Nat → AV X.U) (i : Nat) : assoc (L.map fun i => (i, f i)) i = if i ∈ L then some (f i) else none := by
  induction L with
  | nil => rfl
  | cons j r ih =>
    simp only [List.map_cons, assoc, ih, List.mem_cons]
    by_cases h : j = i
    · simp [h]
    · have : ¬ i = j := fun e => h e.symm
      simp [h, this]
theorem assoc_filter {α : Type} (p : Nat → Bool) : ∀ (l : List (Nat × α)) (i : Nat) (v : α), assoc (l.filter fun q => p q.1) i = some v → assoc l i = some v
  | [], i, v, h => by simp [assoc] at h
  | (j, x) :: r, i, v, h => by
    by_cases hj : j = i
    · subst hj
      by_cases hp : p j = true
      · simpa [List.filter_cons, hp, assoc] using h
      · -- another row of that key would be hidden
        exfalso
        have : ∀ l : List (Nat × α), assoc (l.filter fun q => p q.1) j = none := by
          intro l
          induction l with
          | nil => rfl
          | cons q l ih =>
            by_cases hq : p q.1 = true
            · have : ¬ q.1 = j := fun e => hp (e ▸ hq)
              simp [List.filter_cons, hq, assoc, this, ih]
            · simp [List.filter_cons, hq, ih]
        rw [this] at h; cases h
    · by_cases hp : p j = true
      · simp only [List.filter_cons, hp, if_true, assoc, hj, if_false] at h ⊢
        exact assoc_filter p r i v h
      · simp only [List.filter_cons, hp, Bool.false_eq_true, if_false, assoc, hj] at h ⊢
        exact assoc_filter p r i v h
theorem assoc_append {α : Type} : ∀ (a b : List (Nat × α)) (i : Nat) (v : α), assoc (a ++ b) i = some v → assoc a i = some v ∨ assoc b i = some v
  | [], b, i, v, h => .inr h
  | (j, x) :: r, b, i, v, h => by
    simp only [List.cons_append, assoc] at h ⊢
    by_cases hj : j = i
    · simp only [hj, if_true] at h ⊢; exact .inl h
    · simp only [hj, if_false] at h ⊢; exact assoc_append r b i v h
theorem assoc_filterMap (hp : List (Nat × List (AV X.U))) : ∀ (L : List Nat) (i : Nat) (v : List (AV X.U)), assoc (L.filterMap fun id => (assoc hp id).map fun c => (id, c)) i = some v → assoc hp i = some v
  | [], i, v, h => by cases h
  | j :: r, i, v, h => by
    cases hj : assoc hp j with
    | none => simp only [List.filterMap_cons, hj, Option.map_none] at h; exact assoc_filterMap hp r i v h
    | some c =>
      simp only [List.filterMap_cons, hj, Option.map_some, assoc] at h
      split at h
      · rename_i e; subst e; rw [hj]; exact h
      · exact assoc_filterMap hp r i v h
theorem Good.keep (h : Good B N s a w) (L Bx : List Nat) : Good B N (s.keep L Bx) a w := by
  refine h.weaken (fun i => ?_) (fun id c hc => ?_)
  · simp only [St.look, St.keep, assoc_map]
    by_cases hi : i ∈ L
    · left; simp [hi, St.look]
    · right; simp [hi]
  · simp only [St.keep] at hc
    rcases assoc_append _ _ _ _ hc with h | h
    · exact assoc_filterMap _ _ _ _ h
    · exact assoc_filter (fun q => decide (1000 ≤ q)) s.hp id c h
theorem Good.at (h : Good B N s a w) (live boxes : Nat → List Nat) (id : Option Nat) : Good B N (s.at live boxes id) a w := by
  cases id with
  | none => exact h
  | some i => exact h.keep _ _

/-! A region. -/
theorem yielded_of (h : Good B N s a w) {ops : Array Oper} {j d : Nat} {b : Bool} (hj : guardSlot ops j = some d) (hd : s.look d = .pv (.bool b)) : yielded ops a.tmps j = some b := by
  obtain ⟨cl, m, hR, _⟩ := h
  have := hR.env d
  rw [hd] at this
  have hv := bool_inv this
  have hlt : d < a.tmps.size := by
    by_cases h : d < a.tmps.size
    · exact h
    · simp [Array.getD, h, Go.undef] at hv
  have hg : a.tmps[d]? = some (.bool b) := by simp [Array.getD, hlt] at hv; simp [hlt, hv]
  unfold guardSlot at hj
  simp [yielded, hj, hg]
theorem yielded_none (h : Good B N s a w) {ops : Array Oper} {j d : Nat} (hj : guardSlot ops j = some d) (hd : s.look d = .pv (.tup [])) : yielded ops a.tmps j = none := by
  obtain ⟨cl, m, hR, _⟩ := h
  have := hR.env d
  rw [hd] at this
  unfold guardSlot at hj
  simp only [yielded, hj, Option.bind_some]
  generalize hc : a.tmps.getD d Go.undef = c at this
  cases this with
  | pv this =>
    cases this with
    | tup this =>
      cases this
      by_cases hlt : d < a.tmps.size
      · have hc' : a.tmps[d]? = some (.tuple [].toArray) := by simp [Array.getD, hlt] at hc; simp [hlt, hc]
        rw [hc']
      · simp [Array.getElem?_eq_none (Nat.le_of_not_lt hlt)]

theorem skip_good (h : Good B N s a w) {o : Oper} (hd : dstOk N o (skipAV X.U) = true) : Good B N (s.put o.dst (skipAV X.U)) (a.put o.dst Go.undef) w := by
  obtain ⟨cl, m, hR, hN, hD⟩ := h
  exact Good.put hR hN hD hd (.pv (.tup .nil)) fun b hb => by simp [skipAV, blk] at hb

theorem runK_sound (hX : XOK X) (hT : TOK P X) {G : Ans X ρ} {tk : Takes} (hG : GOK P G) {ops : Array Oper} {K : St X.U → Option ρ} {r : ρ} {Q : Exit → Act → World → Prop}
    (hQ : ∀ s a w, K s = some r → Good B N s a w → Q .normal a w) : ∀ (rest pre : List Oper) (s : St X.U) (a : Act) (w : World), ops.toList = pre ++ rest → runK X G tk N ops rest s K = some r → Good B N s a w →
      wpOps P ops Q (List.range' pre.length rest.length) a w
  | [], pre, s, a, w, _, h, hg => hQ _ _ _ h hg
  | o :: rest, pre, s, a, w, hops, h, hg => by
    have hget : ops[pre.length]? = some o := by
      rw [← Array.getElem?_toList, hops, List.getElem?_append_right (Nat.le_refl _)]; simp
    have hrec : ∀ s a w, runK X G tk N ops rest s K = some r → Good B N s a w → wpOps P ops Q (List.range' (pre.length + 1) rest.length) a w := fun s a w h1 h2 => by
      have := runK_sound hX hT hG hQ rest (pre ++ [o]) s a w (by rw [hops, List.append_assoc]; rfl) h1 h2
      simpa using this
    have hgo : ∀ s, Good B N s a w → opK X G tk s o (fun v s' => if dstOk N o v then runK X G tk N ops rest (s'.put o.dst v) K else none) = some r → o.wp P a w (wpOps P ops Q (List.range' (pre.length + 1) rest.length)) Q := by
      intro s hg h
      obtain ⟨v, s', h1, h2⟩ := opK_sound (N := N) hX hT hG h
      split at h1
      case isFalse => cases h1
      rename_i hd
      exact h2 hd B a w hg _ _ fun a' w' hg' => hrec _ _ _ h1 hg'
    have hskip : ∀ s, Good B N s a w → (if dstOk N o (skipAV X.U) then runK X G tk N ops rest (s.put o.dst (skipAV X.U)) K else none) = some r → wpOps P ops Q (List.range' (pre.length + 1) rest.length) (a.put o.dst Go.undef) w := by
      intro s hg h
      split at h
      case isFalse => cases h
      rename_i hd
      exact hrec _ _ _ h (skip_good hg hd)
    rw [List.length_cons, List.range'_succ]
    simp only [wpOps, hget]
    unfold runK at h
    simp only at h
    split at h
    · rename_i hgd
      rw [if_pos (by simp [Region.wanted, hgd])]
      exact .inl (hgo s hg h)
    · rename_i j want hgd
      split at h
      case h_2 => cases h
      rename_i d hd
      split at h
      · rename_i b hb
        have hy := yielded_of hg hd hb
        cases b with
        | true =>
          simp only [cond_true] at h
          cases want with
          | true => rw [if_pos (by simp [Region.wanted, hgd, hy])]; exact .inl (hgo _ (hg.lit hb) h)
          | false => rw [if_neg (by simp [Region.wanted, hgd, hy])]; exact hskip _ (hg.lit hb) h
        | false =>
          simp only [cond_false] at h
          cases want with
          | false => rw [if_pos (by simp [Region.wanted, hgd, hy])]; exact .inl (hgo _ (hg.lit hb) h)
          | true => rw [if_neg (by simp [Region.wanted, hgd, hy])]; exact hskip _ (hg.lit hb) h
      · rename_i hb
        have hy := yielded_none hg hd hb
        rw [if_neg (by simp [Region.wanted, hgd, hy])]
        exact hskip _ hg h
      · cases h

end Go.AX
