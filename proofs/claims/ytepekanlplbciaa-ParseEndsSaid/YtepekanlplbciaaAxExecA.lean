/-
  Operations and regions: what the reckoning machine answers is what the program does.
-/
import Derived.Test.YtepekanlplbciaaAxOpK
import Derived.ScopeJumps
import Derived.Lib.SliceRun
namespace Go.AX
open Go
variable {X : Univ} {P : Program} {cl cl' m : Nat → Nat} {w w' : World} {B : Base} {s s' : St X.U} {tm : Array Value} {ρ : Type} {N : Nat} {a : Act}

/-! A box told to all for good. -/
theorem assoc_drop (s : St X.U) (id i : Nat) : assoc (s.drop id).hp i = if i = id then none else assoc s.hp i := by
  unfold St.drop
  simp only
  generalize s.hp = l
  induction l with
  | nil => simp [assoc]
  | cons p r ih =>
    obtain ⟨j, c⟩ := p
    by_cases hj : j = id
    · subst hj
      rw [List.filter_cons_of_neg (by simp), ih]
      by_cases hi : i = j
      · rw [if_pos hi, if_pos hi]
      · rw [if_neg hi, if_neg hi]; simp only [assoc]; rw [if_neg fun e => hi e.symm]
    · rw [List.filter_cons_of_pos (by simp [hj])]
      simp only [assoc, ih]
      by_cases hi : j = i
      · subst hi; rw [if_pos rfl, if_pos rfl, if_neg hj]
      · rw [if_neg hi, if_neg hi]
theorem Rel.freeze (hX : ∀ u, 0 < X.width u) (h : Rel B cl m s tm w) {id : Nat} {v : PV X.U} (hc : assoc s.hp id = some [.pv v]) :
    ∃ cl', Rel B cl' m (s.drop id) tm w ∧ Ext cl w cl' w ∧ ∃ c, VP X cl' w v c ∧ MemAt cl' w ⟨m id, 0, none⟩ c.cells.toList := by
  obtain ⟨vs, e, h1, h2⟩ := h.box id _ hc
  cases h1 with
  | cons h1 hoc h3 =>
  rename_i c vs
  cases h3
  cases h1 with
  | pv h1 =>
  have hm := h.mine (.box id) (m id) ⟨⟨_, hc⟩, rfl⟩
  have hw : Rel B cl m (s.drop id) tm w := h.weaken (fun i => .inl rfl) fun id' c' h' => by
    rw [assoc_drop] at h'
    split at h'
    · cases h'
    · exact h'
  have hne : ∀ l b, Ow m (s.drop id) tm w l b → b ≠ m id := by
    intro l b ho e
    subst e
    have ho' : Ow m s tm w l (m id) := by
      cases l with
      | slot i => exact ho
      | cell j off =>
        obtain ⟨c', u, q1, q2⟩ := ho
        rw [assoc_drop] at q1
        split at q1
        · cases q1
        · exact ⟨c', u, q1, q2⟩
      | box j =>
        obtain ⟨⟨c', q1⟩, q2⟩ := ho
        rw [assoc_drop] at q1
        split at q1
        · cases q1
        · exact ⟨⟨c', q1⟩, q2⟩
    have := h.sep _ _ _ ho' (show Ow m s tm w (.box id) (m id) from ⟨⟨_, hc⟩, rfl⟩)
    subst this
    obtain ⟨⟨c', q1⟩, _⟩ := ho
    rw [assoc_drop, if_pos rfl] at q1
    cases q1
  let cl' : Nat → Nat := fun b => if b = m id then c.cells.size else cl b
  have hext : Ext cl w cl' w := Ext.of fun b g1 _ => by
    have : b ≠ m id := fun e => by subst e; have := hm.2.2; omega
    exact ⟨rfl, by simp only [cl', if_neg this]; exact Nat.le_refl _⟩
  refine ⟨cl', hw.world hX ⟨h.fr.os, h.fr.tape, h.fr.output, h.fr.size, fun b hb hd => ?_⟩ hext (Nat.le_refl _) (fun l b ho => ⟨rfl, ?_⟩) (fun b hb => ?_), hext, c, h1.mono hext, rfl, fun j y hj => ?_⟩
  · have : b ≠ m id := fun e => by subst e; rcases hm.2.1 with k | k; exact hd k; omega
    refine ⟨(h.fr.block b hb hd).1, ?_⟩
    simp only [cl', if_neg this]; exact (h.fr.block b hb hd).2
  · simp only [cl', if_neg (hne l b ho)]; exact (hw.mine l b ho).2.2
  · have : b ≠ m id := fun e => by subst e; have := hm.1; omega
    simp only [cl', if_neg this]; exact h.top b hb
  · have hlt : j < c.cells.size := by have := (List.getElem?_eq_some_iff.mp hj).1; simpa using this
    refine ⟨by simp only [cl', if_pos rfl]; omega, ?_⟩
    show w.cell? ⟨m id, 0 + j, none⟩ = some y
    rw [box_cells h2, Nat.zero_add, flat_cons, flat_nil, List.append_nil]; exact hj
theorem freezeK_sound (hX : ∀ u, 0 < X.width u) : ∀ (l : List (SV X.U)) {l' : List (SV X.U)} {cs : List Value} {s s' : St X.U} {cl : Nat → Nat}, freezeK X s l = some (l', s') → Rel B cl m s tm w → VSs X cl w m l cs →
    ∃ cl', Rel B cl' m s' tm w ∧ Ext cl w cl' w ∧ VSs X cl' w m l' cs
  | [], l', cs, s, s', cl, h, hR, hv => by
    simp only [freezeK, Option.some.injEq, Prod.mk.injEq] at h
    obtain ⟨rfl, rfl⟩ := h
    exact ⟨cl, hR, Ext.refl _ _, hv⟩
  | x :: r, l', cs, s, s', cl, h, hR, hv => by
    cases hv with
    | cons h1 h2 =>
    unfold freezeK at h
    split at h
    · rename_i e; cases e
    · rename_i id r' e
      obtain ⟨rfl, rfl⟩ := List.cons.inj e
      split at h
      case h_2 => cases h
      rename_i v hc
      split at h
      case h_2 => cases h
      rename_i l2 s2 hf
      cases h
      obtain ⟨cl1, g1, g2, c, g3, g4⟩ := hR.freeze hX hc
      obtain ⟨cl2, k1, k2, k3⟩ := freezeK_sound hX r hf g1 (h2.mono g2 (m' := m) fun _ _ => rfl)
      refine ⟨cl2, k1, g2.trans k2, .cons ?_ k3⟩
      cases h1
      exact .ref (g3.mono k2) (g4.mono k2)
    · rename_i x' r' hx e
      obtain ⟨rfl, rfl⟩ := List.cons.inj e
      split at h
      case h_2 => cases h
      rename_i l2 s2 hf
      cases h
      obtain ⟨cl2, k1, k2, k3⟩ := freezeK_sound hX r hf hR h2
      exact ⟨cl2, k1, k2, .cons (h1.mono k2 (m' := m) fun _ _ => rfl) k3⟩
theorem makeFuncZ_sound (hX : XOK X) {o : Oper} {f : FuncId} {first caps : Array Operand} {p q q' : List (SV X.U)} (ho : o.op = .makeFunc (.func f) first caps) (hp : toSVs (first.toList.map (s.ev 0)) = some p) (hq : toSVs (caps.toList.map (s.ev 0)) = some q)
    (hf : freezeK X s q = some (q', s')) (hd : dstOk N o (AV.fn (U := X.U) f p q') = true) : OpOk P N s o (.fn f p q') s' := by
  intro B a w ⟨cl, m, hR, hN, hD⟩ next Q hnext
  obtain ⟨cl', g1, g2, g3⟩ := freezeK_sound hX.wpos q hf hR (toSVs_sound hX hR hq)
  have hv := V.fn (lv := lval m s' a.tmps w) (f := f) ((toSVs_sound hX hR hp).mono g2 (m' := m) fun _ _ => rfl) g3
  have e1 : (first.toList.map a.eval).toArray = first.map a.eval := by apply Array.ext'; simp
  have e2 : (caps.toList.map a.eval).toArray = caps.map a.eval := by apply Array.ext'; simp
  rw [e1, e2] at hv
  exact wp_of_run (c := .func (.func f) (first.map a.eval) (caps.map a.eval)) (w' := w) (by simp [execOp, ho, Instr.makeFunc]) (hnext _ _ (Good.put g1 hN hD hd hv fun b hb => by simp [blk] at hb))
/-- A function value of which nothing is known. -/
theorem makeFuncU_sound {o : Oper} {f : FuncId} {first caps : Array Operand} (ho : o.op = .makeFunc (.func f) first caps) (hd : dstOk N o (AV.undef (U := X.U)) = true) : OpOk P N s o .undef s := by
  intro B a w ⟨cl, m, hR, hN, hD⟩ next Q hnext
  exact wp_of_run (c := .func (.func f) (first.map a.eval) (caps.map a.eval)) (w' := w) (by simp [execOp, ho, Instr.makeFunc]) (hnext _ _ (Good.put hR hN hD hd (.undef _) fun b hb => by simp [blk] at hb))

theorem opK_sound (hX : XOK X) (hT : TOK P X) {G : Ans X ρ} {tk : Takes} (hG : GOK P G) {o : Oper} {K : AV X.U → St X.U → Option ρ} {r : ρ} (h : opK X G tk s o K = some r) :
    ∃ v s', K v s' = some r ∧ (dstOk N o v = true → OpOk P N s o v s') := by
  have val : valK X ⟨s.ev, s.own, assoc s.hp⟩ o (fun v => K v s) = some r → ∃ v s', K v s' = some r ∧ (dstOk N o v = true → OpOk P N s o v s') := fun h => by
    obtain ⟨v, h1, h2, h3⟩ := valK_sound hX hT h
    exact ⟨v, s, h1, fun hd => opOk_val h3 h2 hd⟩
  have own : ownK X ⟨s.ev, s.own, assoc s.hp⟩ tk o (fun v e => K v (s.eff e)) = some r → ∃ v s', K v s' = some r ∧ (dstOk N o v = true → OpOk P N s o v s') := fun h => by
    obtain ⟨v, e, h1, _, _, h3⟩ := ownK_sound hX hT h
    exact ⟨v, _, h1, h3⟩
  unfold opK at h
  split at h
  · rename_i e hop
    split at h
    · rename_i d z ti hd0 hz _
      exact ⟨_, _, h, fun hd => alloc_sound hX hT hop hd0 hz hd⟩
    · cases h
  · rename_i e x hop
    split at h
    · rename_i d _ n _ hd0 hty
      simp only at h
      split at h
      case isFalse => cases h
      rename_i hp
      simp only [Bool.and_eq_true, Bool.not_eq_true'] at hp
      split at h
      case isFalse => cases h
      exact ⟨_, _, h, fun hd => box_sound hX hop hd0 hp.1 hp.2 hd⟩
    · cases h
  · rename_i t x y hop
    split at h
    · rename_i id off _ n _ hev hty
      split at h
      case h_2 => cases h
      rename_i c hc
      split at h
      case isFalse => cases h
      rename_i hp
      split at h
      case h_2 => cases h
      rename_i c2 hs
      exact ⟨_, _, h, fun hd => store_sound hX hT hop hev hty hc hp hs hd⟩
    · exact own h
    · rename_i id off i sz _ n _ hev hty
      obtain ⟨c2, hsa, h⟩ := storeK_inv h
      exact ⟨_, _, h, fun hd => storeA_sound hX hT hop hev hty hsa hd⟩
    · cases h
  · rename_i x args argTypes hop
    split at h
    case h_2 => cases h
    rename_i f first caps hx
    split at h
    case isTrue => cases h
    rename_i hlen
    exact callX_sound hX hG hop hx (by simpa using hlen) h
  · rename_i i hop
    split at h
    · rename_i u q hl
      exact ⟨_, _, h, fun hd => moveTup_sound hX.wpos hop hl hd⟩
    · exact val h
  · rename_i i hop
    split at h
    · rename_i u q hl
      exact ⟨_, _, h, fun hd => extractTup_sound hX.wpos hop hl hd⟩
    · exact val h
  · rename_i f first caps hop
    cases hz : frozen tk o.dst with
    | false => rw [hz, cond_false] at h; exact val h
    | true =>
      rw [hz, cond_true] at h
      split at h
      case h_2 => cases h
      rename_i p q hp hq
      split at h
      · rename_i q' s' hf
        exact ⟨_, _, h, fun hd => makeFuncZ_sound hX hop hp hq hf hd⟩
      · exact ⟨_, _, h, fun hd => makeFuncU_sound hop hd⟩
  · cases hi : isOwn X o with
    | true => rw [hi, cond_true] at h; exact own h
    | false => rw [hi, cond_false] at h; exact val h

/-- Whether a slice is nil. -/
theorem nilQ_sound (hX : XOK X) (hT : TOK P X) {o : Oper} {n : Nat} {e : Bool} (h : nilQ X s o = some (n, e)) (hg : Good B N s a w) (hd : ∀ b, dstOk N o (AV.pv (U := X.U) (.bool b)) = true) :
    ∃ b, (b = true → n = 0) ∧ ∀ (next : Act → World → Prop) (Q : Exit → Act → World → Prop), (∀ a' w', Good B N (s.put o.dst (.pv (.bool (bif e then b else !b)))) a' w' → next a' w') → o.wp P a w next Q := by
  obtain ⟨cl, m, hR, hN, hD⟩ := hg
  have key : ∀ {t x : _} {te : TypeId} {b1 b2 : Nat} {u : X.U} {get : Nat → PV X.U}, X.ty t = some ⟨.slice te, b1, b2⟩ → s.ev t x = .pv (.typ u) → X.view u = .sl n get →
      ∃ ao cap, a.eval x = .slice ao n cap ∧ (ao = none → n = 0) ∧ P.underlying t = some (.slice te) := by
    intro t x te b1 b2 u get hty hev hu
    have hv := evV hX hR t x
    rw [hev] at hv
    cases hv with
    | pv hv =>
      obtain ⟨ao, cap, vs, e1, h2, h3, h4, h5, h6⟩ := sl_inv hv hu
      refine ⟨ao, cap, e1, fun e => ?_, slice_ty hT hty⟩
      rcases h6 with h6 | ⟨ad, h7, _⟩
      · rw [← h2, h6]; rfl
      · rw [e] at h7; cases h7
  unfold nilQ at h
  split at h
  · rename_i t x yt hop
    split at h
    case h_2 => cases h
    rename_i te b1 b2 u hty hev
    split at h
    case h_2 => cases h
    rename_i get hu
    cases h
    obtain ⟨ao, cap, e1, e2, e3⟩ := key hty hev hu
    refine ⟨ao.isNone, fun hb => e2 (by cases ao <;> simp_all), fun next Q hnext => wp_of_run (c := .bool ao.isNone) (w' := w) ?_ (hnext _ _ (Good.put hR hN hD (hd _) (.pv (.bool _)) fun b hb => by simp [blk] at hb))⟩
    have hc0 : a.eval (.const (.slice none 0 0)) = .slice none 0 0 := rfl
    simp only [execOp, hop, Sem.run_bind, e1, hc0]
    rw [eqGuard_plain _ _ _ _ _ _ (fun l => by simp) (by simp)]
    simp only [Result.andThen_ok, Lib.run_eql_slice_nil w t te ao _ cap 0 0 e3]
    rfl
  · rename_i t x yt hop
    split at h
    case h_2 => cases h
    rename_i te b1 b2 u hty hev
    split at h
    case h_2 => cases h
    rename_i get hu
    cases h
    obtain ⟨ao, cap, e1, e2, e3⟩ := key hty hev hu
    refine ⟨ao.isNone, fun hb => e2 (by cases ao <;> simp_all), fun next Q hnext => wp_of_run (c := .bool (!ao.isNone)) (w' := w) ?_ (hnext _ _ (Good.put hR hN hD (hd _) (.pv (.bool _)) fun b hb => by simp [blk] at hb))⟩
    have hq : (Go.binOp .neq t (.slice ao n cap) (.slice none 0 0)).run P w = .ok (.bool (!ao.isNone)) w := by
      simp only [Go.binOp]
      simp [Go.Op.equal, Go.Op.maxDepth, Lib.run_equalIn_slice_nil w 9999 t te ao _ cap 0 0 e3]
    have hc0 : a.eval (.const (.slice none 0 0)) = .slice none 0 0 := rfl
    simp only [execOp, hop, Sem.run_bind, e1, hc0]
    rw [eqGuard_plain _ _ _ _ _ _ (fun l => by simp) (by simp)]
    simp only [Result.andThen_ok, hq]
    rfl
  · cases h
theorem Good.weaken (h : Good B N s a w) (hl : ∀ i, s'.look i = s.look i ∨ s'.look i = .undef) (hb : ∀ id c, assoc s'.hp id = some c → assoc s.hp id = some c) : Good B N s' a w := by
  obtain ⟨cl, m, h1, h2, h3⟩ := h
  exact ⟨cl, m, h1.weaken hl hb, h2, h3⟩

theorem look_lit {d : Nat} {b : Bool} (h : s.look d = .pv (.bool b)) (i : Nat) : (s.lit d b).look i = s.look i := by
  simp only [St.look, St.lit, assoc_assocSet]
  by_cases hi : i = d
  · subst hi
    simp only [if_true]
    cases ha : assoc s.env i with
    | none => simp [St.look, ha] at h
    | some v => simp [St.look, ha] at h; simp [h]
  · simp [hi]
theorem Good.lit (h : Good B N s a w) {d : Nat} {b : Bool} (hd : s.look d = .pv (.bool b)) : Good B N (s.lit d b) a w := h.weaken (fun i => .inl (look_lit hd i)) (fun _ _ h => h)

theorem assoc_map (L : List Nat) (f : Nat → AV X.U) (i : Nat) : assoc (L.map fun i => (i, f i)) i = if i ∈ L then some (f i) else none := by
  induction L with
  | nil => rfl
  | cons j r ih =>
    simp only [List.map_cons, assoc, ih, List.mem_cons]
    by_cases h : j = i
    · simp [h]
    · have : ¬ i = j := fun e => h e.symm
      simp [h, this]
theorem assoc_filter {α : Type} (p : Nat → Bool) : ∀ (l : List (Nat × α)) (i : Nat) (v : α), assoc (l.filter fun q => p q.1) i = some v → assoc l i = some v
  | [], i, v, h => by simp [assoc] at h
  | (j, x) :: r, i, v, h => by
    by_cases hj : j = i
    · subst hj
      by_cases hp : p j = true
      · simpa [List.filter_cons, hp, assoc] using h
      · -- another row of that key would be hidden
        exfalso
        have : ∀ l : List (Nat × α), assoc (l.filter fun q => p q.1) j = none := by
          intro l
          induction l with
          | nil => rfl
          | cons q l ih =>
            by_cases hq : p q.1 = true
            · have : ¬ q.1 = j := fun e => hp (e ▸ hq)
              simp [List.filter_cons, hq, assoc, this, ih]
            · simp [List.filter_cons, hq, ih]
        rw [this] at h; cases h
    · by_cases hp : p j = true
      · simp only [List.filter_cons, hp, if_true, assoc, hj, if_false] at h ⊢
        exact assoc_filter p r i v h
      · simp only [List.filter_cons, hp, Bool.false_eq_true, if_false, assoc, hj] at h ⊢
        exact assoc_filter p r i v h
theorem assoc_append {α : Type} : ∀ (a b : List (Nat × α)) (i : Nat) (v : α), assoc (a ++ b) i = some v → assoc a i = some v ∨ assoc b i = some v
  | [], b, i, v, h => .inr h
  | (j, x) :: r, b, i, v, h => by
    simp only [List.cons_append, assoc] at h ⊢
    by_cases hj : j = i
    · simp only [hj, if_true] at h ⊢; exact .inl h
    · simp only [hj, if_false] at h ⊢; exact assoc_append r b i v h
theorem assoc_filterMap (hp : List (Nat × List (AV X.U))) : ∀ (L : List Nat) (i : Nat) (v : List (AV X.U)), assoc (L.filterMap fun id => (assoc hp id).map fun c => (id, c)) i = some v → assoc hp i = some v
  | [], i, v, h => by cases h
  | j :: r, i, v, h => by
    cases hj : assoc hp j with
    | none => simp only [List.filterMap_cons, hj, Option.map_none] at h; exact assoc_filterMap hp r i v h
    | some c =>
      simp only [List.filterMap_cons, hj, Option.map_some, assoc] at h
      split at h
      · rename_i e; subst e; rw [hj]; exact h
      · exact assoc_filterMap hp r i v h
theorem Good.keep (h : Good B N s a w) (L Bx : List Nat) : Good B N (s.keep L Bx) a w := by
  refine h.weaken (fun i => ?_) (fun id c hc => ?_)
  · simp only [St.look, St.keep, assoc_map]
    by_cases hi : i ∈ L
    · left; simp [hi, St.look]
    · right; simp [hi]
  · simp only [St.keep] at hc
    rcases assoc_append _ _ _ _ hc with h | h
    · exact assoc_filterMap _ _ _ _ h
    · exact assoc_filter (fun q => decide (1000 ≤ q)) s.hp id c h
theorem Good.at (h : Good B N s a w) (live boxes : Nat → List Nat) (id : Option Nat) : Good B N (s.at live boxes id) a w := by
  cases id with
  | none => exact h
  | some i => exact h.keep _ _

/-! A region. -/
theorem yielded_of (h : Good B N s a w) {ops : Array Oper} {j d : Nat} {b : Bool} (hj : guardSlot ops j = some d) (hd : s.look d = .pv (.bool b)) : yielded ops a.tmps j = some b := by
  obtain ⟨cl, m, hR, _⟩ := h
  have := hR.env d
  rw [hd] at this
  have hv := bool_inv this
  have hlt : d < a.tmps.size := by
    by_cases h : d < a.tmps.size
    · exact h
    · simp [Array.getD, h, Go.undef] at hv
  have hg : a.tmps[d]? = some (.bool b) := by simp [Array.getD, hlt] at hv; simp [hlt, hv]
  unfold guardSlot at hj
  simp [yielded, hj, hg]
theorem yielded_none (h : Good B N s a w) {ops : Array Oper} {j d : Nat} (hj : guardSlot ops j = some d) (hd : s.look d = .pv (.tup [])) : yielded ops a.tmps j = none := by
  obtain ⟨cl, m, hR, _⟩ := h
  have := hR.env d
  rw [hd] at this
  unfold guardSlot at hj
  simp only [yielded, hj, Option.bind_some]
  generalize hc : a.tmps.getD d Go.undef = c at this
  cases this with
  | pv this =>
    cases this with
    | tup this =>
      cases this
      by_cases hlt : d < a.tmps.size
      · have hc' : a.tmps[d]? = some (.tuple [].toArray) := by simp [Array.getD, hlt] at hc; simp [hlt, hc]
        rw [hc']
      · simp [Array.getElem?_eq_none (Nat.le_of_not_lt hlt)]

theorem skip_good (h : Good B N s a w) {o : Oper} (hd : dstOk N o (skipAV X.U) = true) : Good B N (s.put o.dst (skipAV X.U)) (a.put o.dst Go.undef) w := by
  obtain ⟨cl, m, hR, hN, hD⟩ := h
  exact Good.put hR hN hD hd (.pv (.tup .nil)) fun b hb => by simp [skipAV, blk] at hb

theorem assoc_mapV {α β : Type} (f : α → β) : ∀ (l : List (Nat × α)) (i : Nat), assoc (l.map fun p => (p.1, f p.2)) i = (assoc l i).map f
  | [], _ => rfl
  | (j, v) :: r, i => by
    simp only [List.map_cons, assoc]
    by_cases h : j = i
    · simp [h]
    · simp only [h, if_false]; exact assoc_mapV f r i
/-- Some that are lent a row are told instead what it is. -/
theorem Rel.retell {s' : St X.U} (h : Rel B cl m s tm w) (hp : s'.hp = s.hp) (hl : ∀ i, s'.look i = s.look i ∨ ∃ l v, s.look i = .bor l ∧ s'.look i = .pv v ∧ VP X cl w v (tm.getD i Go.undef)) : Rel B cl m s' tm w := by
  have hown : ∀ l, s'.own l = s.own l := by
    intro l
    cases l with
    | slot i =>
      simp only [St.own]
      rcases hl i with e | ⟨l, v, e1, e2, _⟩
      · rw [e]
      · rw [e1, e2]
    | cell id off => simp only [St.own, hp]
  have hlv : lval m s' tm w = lval m s tm w := by
    funext l
    unfold lval
    rw [hown]
  have how : ∀ l b, Ow m s' tm w l b ↔ Ow m s tm w l b := by
    intro l b
    cases l with
    | slot i =>
      simp only [Ow]
      rcases hl i with e | ⟨l, v, e1, e2, _⟩
      · rw [e]
      · rw [e1, e2]; simp [blk]
    | cell id off => simp only [Ow, hp]
    | box id => simp only [Ow, hp]
  refine ⟨h.fr, fun i => ?_, fun id c hc => ?_, fun l l' b h1 h2 => h.sep l l' b ((how _ _).1 h1) ((how _ _).1 h2), fun l b h1 => h.mine l b ((how _ _).1 h1), h.top, fun id c hc => h.bok id c (by rw [← hp]; exact hc), h.inv⟩
  · rw [hlv]
    rcases hl i with e | ⟨l, v, _, e2, hv⟩
    · rw [e]; exact h.env i
    · rw [e2]; exact .pv hv
  · rw [hlv]
    exact h.box id c (by rw [← hp]; exact hc)
theorem preTell_good (hX : XOK X) {o : Oper} {j : Nat} {u : X.U} (h : preTell X s o = some (some (j, u))) (hg : Good B N s a w) : Good B N (s.tellTo X j u) a w := by
  obtain ⟨cl, m, hR, hN⟩ := hg
  have key : ∀ {e : TypeId} {l : List (Nat × Operand)}, tellK X ⟨s.ev, s.own, assoc s.hp⟩ e l = some (some (j, u)) → Good B N (s.tellTo X j u) a w := fun {e l} hk => by
    have hu : s.own (.slot j) = some u := by
      unfold tellK at hk
      split at hk
      · rename_i i _
        cases hu : s.own (.slot i) with
        | none => simp only [hu] at hk; cases hk
        | some q =>
          simp only [hu, Option.map_some, Option.some.injEq, Prod.mk.injEq] at hk
          obtain ⟨rfl, rfl⟩ := hk
          exact hu
      · cases hk
    obtain ⟨cl', h1, h2, h3⟩ := hR.tellS hX (own_look hu)
    refine ⟨cl', m, h1.retell rfl fun i => ?_, hN⟩
    have e1 : (s.tellTo X j u).look i = ((assoc (s.setSlot j (.pv (.typ u))).env i).map (borTo X j u)).getD .undef := by
      simp only [St.look, St.tellTo, assoc_mapV]
    have e2 : (s.setSlot j (.pv (.typ u))).look i = (assoc (s.setSlot j (.pv (.typ u))).env i).getD .undef := rfl
    have e3 := look_setSlot (own_look hu) (.pv (.typ u)) i
    cases ha : assoc (s.setSlot j (.pv (.typ u))).env i with
    | none => rw [ha] at e1 e2; exact .inl (by rw [e1, e2]; rfl)
    | some v =>
      rw [ha] at e1 e2
      simp only [Option.map_some, Option.getD_some] at e1 e2
      rw [e1, e2]
      unfold borTo
      split
      · rename_i k
        by_cases hk : k = j
        · subst hk
          rw [if_pos rfl]
          refine .inr ⟨_, _, rfl, rfl, ?_⟩
          have hi : ¬ i = k := by
            intro e
            subst e
            rw [if_pos rfl, e2] at e3
            cases e3
          rw [if_neg hi, e2] at e3
          have hv := hR.env i
          rw [← e3] at hv
          cases hv with
          | bor hv => rw [hv _ (lval_of hu)]; exact h3
        · rw [if_neg hk]; exact .inl rfl
      · exact .inl rfl
  unfold preTell at h
  split at h
  · exact key h
  · split at h
    · exact key h
    · cases h
  · cases h
/-- A row of one's own goes from its slot into a box's cell. -/
theorem storeOwn_sound (hX : XOK X) (hT : TOK P X) {o : Oper} {i id : Nat} {c2 : List (AV X.U)} (h : ownStore X s o = some (i, id, c2)) (hd : dstOk N o (AV.pv (U := X.U) (.tup [])) = true) :
    OpOk P N s o (.pv (.tup [])) ((s.setSlot i .undef).setBox id c2) := by
  obtain ⟨t, x, y, td, bb, off, u, c, ho, hev, hy, hty, hu, hc, hs⟩ : ∃ t x y td bb off u c, o.op = .store t x y ∧ s.ev 0 x = .ptr id off ∧ s.ev t y = .bor (.slot i) ∧ X.ty t = some ⟨td, 1, bb⟩ ∧ s.look i = .own u ∧ assoc s.hp id = some c ∧ putSpan X c off 1 [.own u] = some c2 := by
    unfold ownStore at h
    split at h
    case h_2 => cases h
    rename_i t x y ho
    split at h
    case h_2 => cases h
    rename_i td bb hev hy hty
    split at h
    case h_2 => cases h
    rename_i u c hu hc
    split at h
    · obtain ⟨c', h1, h2⟩ := Option.map_eq_some_iff.1 h
      cases h2
      exact ⟨t, x, y, _, _, _, u, c, ho, hev, hy, hty, hu, hc, h1⟩
    · obtain ⟨c', h1, h2⟩ := Option.map_eq_some_iff.1 h
      cases h2
      exact ⟨t, x, y, _, _, _, u, c, ho, hev, hy, hty, hu, hc, h1⟩
    · cases h
  intro B a w ⟨cl, m, hR, hN, hD⟩ next Q hnext
  have hval : a.eval y = a.tmps.getD i Go.undef := by
    have hye := evV hX hR t y
    rw [hy] at hye
    cases hye with
    | bor h => exact h _ (lval_of (by rw [own_slot, hu]; rfl))
  have hown := hR.env i
  rw [hu, ← hval] at hown
  have hRw : Rel B cl m (s.setSlot i .undef) a.tmps w := hR.weaken (fun j => by
    rw [look_setSlot hu]
    by_cases hj : j = i
    · rw [if_pos hj]; exact .inr rfl
    · rw [if_neg hj]; exact .inl rfl) (fun id c hc => hc)
  obtain ⟨vs, e, h1, h2⟩ := hRw.box id c hc
  have g1 : Vs X cl w m (lval m (s.setSlot i .undef) a.tmps w) [AV.own u] [a.eval y] := by
    refine .cons ?_ ?_ .nil
    · generalize a.eval y = z at hown
      cases hown with
      | own h => exact .own h
    · generalize a.eval y = z at hown
      cases hown with
      | own h => exact ⟨rfl, fun x hx => by simp [Value.cells] at hx; subst hx; rfl⟩
  have hcells : (a.eval y).cells = #[a.eval y] := by
    generalize a.eval y = z at hown
    cases hown with
    | own h => rfl
  obtain ⟨ca, cm, cb, rfl, k1, k2, k3, k4⟩ := h1.putSpan g1 hs
  have g2 : flat [a.eval y] = (a.eval y).cells.toList := by simp [flat]
  obtain ⟨info, d, i1, i2, _⟩ := hT.ty t _ hty
  have hx := evV hX hR 0 x
  rw [hev] at hx
  have hxe : a.eval x = .pointer (some ⟨m id, off, none⟩) := by
    generalize a.eval x = z at hx
    cases hx; rfl
  have hst := run_storeCells_at P (m id) off e (flat [a.eval y]) 0 (flat (ca ++ (cm ++ cb))).toArray w h2 (by simp [flat_append, ← k2, k3, k4]) (fun v hv => g1.oc v hv)
  have hnew : ((flat (ca ++ (cm ++ cb))).toArray.toList.take (off + 0) ++ flat [a.eval y] ++ (flat (ca ++ (cm ++ cb))).toArray.toList.drop (off + 0 + (flat [a.eval y]).length)).toArray = (flat (ca ++ ([a.eval y] ++ cb))).toArray := by
    congr 1
    simp only [List.toList_toArray, Nat.add_zero, flat_append, ← k2, k4, ← k3, List.append_assoc]
    simp [List.drop_append]
  rw [hnew] at hst
  have hsv : (Instr.storeAt t (a.eval x) (a.eval y)).run P w = .ok () (w.setRow (m id) (flat (ca ++ ([a.eval y] ++ cb))).toArray) := by
    have hsz : (a.eval y).cells.size = 1 := by rw [hcells]; rfl
    simp only [Instr.storeAt, hxe, Instr.sureAddr, Sem.run_bind, Sem.run_pure, Result.andThen_ok, storeVar, sizeOf, typeInfo, run_program, i1, i2, hsz, ne_eq, not_true_eq_false, if_false, ← g2, hst]
  have hR' : Rel B cl m ((s.setSlot i .undef).setBox id c2) a.tmps (w.setRow (m id) (flat (ca ++ ([a.eval y] ++ cb))).toArray) := by
    have hpre : ∃ a' r l' b', takeW X c off = some (a', r) ∧ takeW X r 1 = some (l', b') ∧ c2 = a' ++ ([AV.own u] ++ b') := by
      unfold Go.AX.putSpan at hs
      split at hs
      · rename_i a' r q1
        split at hs
        · rename_i l' b' q2
          split at hs
          · cases hs; exact ⟨a', r, l', b', q1, q2, rfl⟩
          · cases hs
        · cases hs
      · cases hs
    -- what a cell owns: an old one, or the new one
    have hcase : ∀ off' b, OwC c2 (ca ++ ([a.eval y] ++ cb)) off' b → (Ow m (s.setSlot i .undef) a.tmps w (.cell id off') b) ∨ (off' = off ∧ Ow m s a.tmps w (.slot i) b) := by
      intro off' b ⟨u', q1, q2⟩
      rcases segAt_putSpan hX.wpos hs q1 with ⟨q3, q4⟩ | ⟨q3, q4⟩
      · left
        have hsame : (flat (ca ++ ([a.eval y] ++ cb)))[off']? = (flat (ca ++ (cm ++ cb)))[off']? := same_off k4 k3 (by rw [k2]; exact q4)
        rw [hsame] at q2
        exact (ow_cell hRw hc h2).mpr ⟨u', q3, q2⟩
      · right
        have hz : off' - off = 0 := by
          rcases Nat.eq_zero_or_pos (off' - off) with h0 | h0
          · exact h0
          · obtain ⟨n, hn⟩ : ∃ n, off' - off = n + 1 := ⟨off' - off - 1, by omega⟩
            rw [hn] at q4
            simp [segAt, AV.segW] at q4
        have ho' : off' = off := by omega
        refine ⟨ho', ?_⟩
        rw [hz] at q4
        simp only [segAt, Option.some.injEq, AV.own.injEq] at q4
        subst q4
        have hat : (flat (ca ++ ([a.eval y] ++ cb)))[off']? = some (a.eval y) := by
          rw [flat_append, List.getElem?_append_right (by omega), flat_append, g2, hcells, k2, ho', Nat.sub_self]; rfl
        rw [hat] at q2
        simp only [Ow, hu, ← hval]
        exact q2
    have hnone : ∀ b, Ow m s a.tmps w (.slot i) b → ∀ l, ¬ Ow m (s.setSlot i .undef) a.tmps w l b := by
      intro b hb l hl
      have hl' : Ow m s a.tmps w l b := by
        cases l with
        | slot j =>
          simp only [Ow, look_setSlot hu] at hl ⊢
          by_cases hj : j = i
          · rw [if_pos hj] at hl; simp [blk] at hl
          · rw [if_neg hj] at hl; exact hl
        | cell j o => exact hl
        | box j => exact hl
      have := hR.sep _ _ _ hl' hb
      subst this
      simp only [Ow, look_setSlot hu, if_true] at hl
      simp [blk] at hl
    refine hRw.setBox hX.wpos hc h2 k1 (fun v hv => ?_) rfl rfl rfl ?_ (fun b hb => ?_) (setRow_heap w (m id) _ _ e (0, 0) h2) ?_
    · obtain ⟨a', r, l', b', q1, q2, rfl⟩ := hpre
      obtain ⟨rfl, _⟩ := takeW_eq q1
      obtain ⟨rfl, _⟩ := takeW_eq q2
      have hb := hR.bok id _ hc
      simp only [List.mem_append] at hv
      rcases hv with hv | hv | hv
      · exact hb v (by simp [hv])
      · rw [List.mem_singleton.1 hv]; rfl
      · exact hb v (by simp [hv])
    · simp [World.setRow]
    · simp only [World.setRow, Array.getElem?_modify]
      rw [if_neg (by omega)]
    · intro off' b hob
      rcases hcase off' b hob with how | ⟨rfl, hsl⟩
      · refine ⟨fun l hl => hRw.sep _ _ _ hl how, fun off2 h2' => ?_, hRw.mine _ _ how⟩
        rcases hcase off2 b h2' with how2 | ⟨_, hsl⟩
        · have := hRw.sep _ _ _ how2 how
          cases this; rfl
        · exact absurd how (hnone b hsl _)
      · refine ⟨fun l hl => absurd hl (hnone b hsl l), fun off2 h2' => ?_, hR.mine _ _ hsl⟩
        rcases hcase off2 b h2' with how2 | ⟨h3, _⟩
        · exact absurd how2 (hnone b hsl _)
        · exact h3
  exact wp_of_skip (w' := w.setRow (m id) (flat (ca ++ ([a.eval y] ++ cb))).toArray) (by simp [execOp, ho, hsv]) (hnext _ _ (Good.put hR' hN hD hd (.pv (.tup .nil)) fun b hb => by simp [blk] at hb))
/-- What a box's cell owns is taken into the slot that reads it. -/
theorem Rel.takeCell (hX : XOK X) {tm : Array Value} (hR : Rel B cl m s tm w) {i id off : Nat} {u : X.U} {c c2 : List (AV X.U)} (hl : s.look i = .bor (.cell id off)) (hu : s.own (.cell id off) = some u) (hc : assoc s.hp id = some c) (hs : putSpan X c off 1 [.undef] = some c2) :
    Rel B cl m ((s.setBox id c2).put (some i) (.own u)) tm w := by
  have hval : tm.getD i Go.undef = (w.cell? ⟨m id, off, none⟩).getD Go.undef := by
    have hi := hR.env i
    rw [hl] at hi
    cases hi with
    | bor h => exact h _ (lval_of hu)
  obtain ⟨c', hc', hseg⟩ := own_cell hu
  rw [hc] at hc'; cases hc'
  obtain ⟨vs, e, h1, h2⟩ := hR.box id c hc
  obtain ⟨ca, cx, cb, rfl, v1, v2, v3⟩ := h1.seg hseg
  have hcx : cx.cells = #[cx] := by cases v1; rfl
  have hcell : w.cell? ⟨m id, off, none⟩ = some cx := by
    rw [cellOf (.inr trivial) h2, flat_append, flat_cons, List.getElem?_append_right (by omega), hcx, v3, Nat.sub_self]; rfl
  rw [hcell] at hval
  have hval' : tm.getD i Go.undef = cx := hval
  have hii : i < tm.size := by
    rcases Nat.lt_or_ge i tm.size with h | h
    · exact h
    · exfalso
      rw [Array.getD_eq_getD_getElem?, Array.getElem?_eq_none h] at hval'
      simp only [Option.getD_none] at hval'
      rw [← hval'] at v1
      cases v1
  have g1 : Vs X cl w m (lval m s tm w) [AV.undef] [cx] := .cons (.undef _) ⟨by rw [hcx]; rfl, v2.2⟩ .nil
  obtain ⟨ca', cm, cb', e1, k1, k2, k3, k4⟩ := h1.putSpan g1 hs
  have hat : (flat (ca ++ cx :: cb))[off]? = some cx := by
    rw [flat_append, flat_cons, List.getElem?_append_right (by omega), hcx, v3, Nat.sub_self]; rfl
  have hflat : flat (ca' ++ ([cx] ++ cb')) = flat (ca ++ cx :: cb) := by
    obtain ⟨z, hz⟩ := List.length_eq_one_iff.1 k3
    rw [e1, flat_append, flat_append, hz, List.getElem?_append_right (by omega), k2, Nat.sub_self] at hat
    simp only [List.cons_append, List.getElem?_cons_zero, Option.some.injEq] at hat
    subst hat
    rw [e1, flat_append, flat_append, flat_append, flat_append, hz]
    simp [flat, hcx]
  have hcase : ∀ off' b, OwC c2 (ca' ++ ([cx] ++ cb')) off' b → Ow m s tm w (.cell id off') b ∧ off' ≠ off := by
    intro off' b ⟨u', q1, q2⟩
    rw [hflat] at q2
    rcases segAt_putSpan hX.wpos hs q1 with ⟨q3, q4⟩ | ⟨q3, q4⟩
    · exact ⟨(ow_cell hR hc h2).mpr ⟨u', q3, q2⟩, by omega⟩
    · have := segAt_mem q4
      simp at this
  have hbok : ∀ v ∈ c2, v.at? = none := by
    have hb := hR.bok id _ hc
    unfold Go.AX.putSpan at hs
    split at hs
    · rename_i a' r q1
      split at hs
      · rename_i l' b' q2
        split at hs
        · cases hs
          obtain ⟨rfl, _⟩ := takeW_eq q1
          obtain ⟨rfl, _⟩ := takeW_eq q2
          intro v hv
          simp only [List.mem_append] at hv
          rcases hv with hv | hv | hv
          · exact hb v (by simp [hv])
          · rw [List.mem_singleton.1 hv]; rfl
          · exact hb v (by simp [hv])
        · cases hs
      · cases hs
    · cases hs
  have hR1 : Rel B cl m (s.setBox id c2) tm w := by
    refine hR.setBox hX.wpos hc h2 k1 hbok rfl rfl rfl rfl (fun _ _ => rfl) (by rw [hflat]; exact h2) fun off' b hob => ?_
    obtain ⟨g, _⟩ := hcase off' b hob
    refine ⟨fun l hl => hR.sep _ _ _ hl g, fun off2 h2' => ?_, hR.mine _ _ g⟩
    have := hR.sep _ _ _ (hcase off2 b h2').1 g
    cases this; rfl
  have hnot : ∀ b, blk (AV.own u) cx = some b → Ow m s tm w (.cell id off) b ∧ ∀ l, ¬ Ow m (s.setBox id c2) tm w l b := by
    intro b hb
    have hown : Ow m s tm w (.cell id off) b := ⟨c, u, hc, hseg, by rw [hcell]; exact hb⟩
    refine ⟨hown, fun l hl => ?_⟩
    cases l with
    | slot j =>
      simp only [Ow, look_setBox] at hl
      by_cases hm : (s.look j).atCell id = true
      · simp [hm, blk] at hl
      · have hl' : Ow m s tm w (.slot j) b := by simpa [Ow, hm] using hl
        have := hR.sep _ _ _ hl' hown
        cases this
    | cell j off' =>
      obtain ⟨c0, u0, g1', g2', g3'⟩ := hl
      simp only [St.setBox, assoc_assocSet] at g1'
      by_cases hj : j = id
      · subst hj
        simp only [if_true, hc, Option.map_some, Option.some.injEq] at g1'
        subst g1'
        have hoc : OwC c2 (ca' ++ ([cx] ++ cb')) off' b := ⟨u0, g2', by rw [hflat]; rw [cellOf (.inr trivial) h2] at g3'; exact g3'⟩
        obtain ⟨g, hne⟩ := hcase off' b hoc
        have := hR.sep _ _ _ g hown
        cases this; exact hne rfl
      · simp only [hj, if_false] at g1'
        have := hR.sep _ _ _ (show Ow m s tm w (.cell j off') b from ⟨c0, u0, g1', g2', g3'⟩) hown
        cases this; exact hj rfl
    | box j =>
      obtain ⟨⟨c0, g1'⟩, g2'⟩ := hl
      simp only [St.setBox, assoc_assocSet] at g1'
      have hb' : Ow m s tm w (.box j) b := by
        refine ⟨?_, g2'⟩
        by_cases hj : j = id
        · subst hj; exact ⟨c, hc⟩
        · simp only [hj, if_false] at g1'; exact ⟨c0, g1'⟩
      have := hR.sep _ _ _ hb' hown
      cases this
  have hput := hR1.put (d := i) (v := AV.own u) (c := cx) hii (by cases v1 with | own h => exact .own h) rfl fun b hb => by
    obtain ⟨g1', g2'⟩ := hnot b hb
    exact ⟨fun l hl => absurd hl (g2' l), hR.mine _ _ g1'⟩
  have htm : tm.setIfInBounds i cx = tm := by
    apply Array.ext
    · simp
    · intro j hj1 hj2
      by_cases hj : i = j
      · subst hj
        rw [Array.getD_eq_getD_getElem?, Array.getElem?_eq_getElem hii] at hval'
        simp only [Option.getD_some] at hval'
        rw [Array.getElem_setIfInBounds_self, hval']
      · rw [Array.getElem_setIfInBounds_ne _ hj]
  rw [htm] at hput
  exact hput
/-- A row of one's own is taken out of a box's cell into the slot that reads it. -/
theorem preTake_good (hX : XOK X) {o : Oper} {i id : Nat} {u : X.U} {c2 : List (AV X.U)} (h : preTake X s o = some (i, id, u, c2)) (hg : Good B N s a w) : Good B N ((s.setBox id c2).put (some i) (.own u)) a w := by
  obtain ⟨off, c, hl, hu, hc, hs⟩ : ∃ off c, s.look i = .bor (.cell id off) ∧ s.own (.cell id off) = some u ∧ assoc s.hp id = some c ∧ putSpan X c off 1 [.undef] = some c2 := by
    unfold preTake at h
    split at h
    case h_2 => cases h
    split at h
    case h_2 => cases h
    split at h
    case h_2 => cases h
    rename_i hlk
    split at h
    case h_2 => cases h
    rename_i hu hc
    obtain ⟨c', h1, h2⟩ := Option.map_eq_some_iff.1 h
    cases h2
    exact ⟨_, _, hlk, hu, hc, h1⟩
  obtain ⟨cl, m, hR, hN, hD⟩ := hg
  exact ⟨cl, m, hR.takeCell hX hl hu hc hs, hN, hD⟩
/-- What a box's cell owns is told, where it stands. -/
theorem cellTell_good (hX : XOK X) {tk : Takes} {o : Oper} {i id : Nat} {u : X.U} {c1 c2 : List (AV X.U)} (h : cellTell X tk s o = some (i, id, u, c1, c2)) (hg : Good B N s a w) :
    Good B N ((((s.setBox id c1).put (some i) (.own u)).put (some i) (.pv (.typ u))).setBox id c2) a w := by
  obtain ⟨off, c, hl, hu, hc, hs, hs2, hpv⟩ : ∃ off c, s.look i = .bor (.cell id off) ∧ s.own (.cell id off) = some u ∧ assoc s.hp id = some c ∧ putSpan X c off 1 [.undef] = some c1 ∧ putSpan X c1 off 1 [.pv (.typ u)] = some c2 ∧ c2.all AV.isPv = true := by
    unfold cellTell at h
    split at h
    case h_2 => cases h
    split at h
    case h_2 => cases h
    split at h
    case isFalse => cases h
    split at h
    case h_2 => cases h
    rename_i hlk
    split at h
    case h_2 => cases h
    rename_i hu hc
    split at h
    case h_2 => cases h
    rename_i q1
    split at h
    case h_2 => cases h
    rename_i q2
    split at h
    case isFalse => cases h
    rename_i q3
    cases h
    exact ⟨_, _, hlk, hu, hc, q1, q2, q3⟩
  obtain ⟨cl, m, hR, hN, hD⟩ := hg
  have hval : a.tmps.getD i Go.undef = (w.cell? ⟨m id, off, none⟩).getD Go.undef := by
    have hi := hR.env i
    rw [hl] at hi
    cases hi with
    | bor h => exact h _ (lval_of hu)
  have hR1 := hR.takeCell hX hl hu hc hs
  obtain ⟨cl', hR2, hext, hVP⟩ := hR1.tell hX (i := i) (u := u) (by rw [look_put, if_pos rfl])
  refine ⟨cl', m, ?_, hN, hD⟩
  have hc1 : assoc (((s.setBox id c1).put (some i) (.own u)).put (some i) (.pv (.typ u))).hp id = some c1 := by
    rw [put_hp, put_hp]
    simp only [St.setBox, assoc_assocSet, if_true, hc, Option.map_some]
  obtain ⟨vs, e, h1, h2⟩ := hR2.box id c1 hc1
  have hv := hR1.env i
  rw [show ((s.setBox id c1).put (some i) (.own u)).look i = .own u by rw [look_put, if_pos rfl]] at hv
  generalize hcx : a.tmps.getD i Go.undef = cx at hval hVP hv
  have hcc : cx.cells = #[cx] ∧ oc cx ((AV.pv (.typ u) : AV X.U).segW X) := by
    cases hv with
    | own ho =>
      obtain ⟨_, get, hview, _⟩ := ho
      have hw : (AV.pv (.typ u) : AV X.U).segW X = 1 := by simp only [AV.segW, PV.segW, hview]
      rw [hw]
      exact ⟨rfl, rfl, fun x hx => by simp [Value.cells] at hx; subst hx; rfl⟩
  have hcell : (flat vs)[off]? = some cx := by
    rw [cellOf (.inr trivial) h2] at hval
    cases hq : (flat vs)[off]? with
    | none => rw [hq] at hval; subst hval; cases hv
    | some y => rw [hq] at hval; rw [hval]; rfl
  have g1 : Vs X cl' w m (lval m (((s.setBox id c1).put (some i) (.own u)).put (some i) (.pv (.typ u))) a.tmps w) [AV.pv (.typ u)] [cx] := .cons (.pv hVP) hcc.2 .nil
  obtain ⟨ca, cm, cb, rfl, k1, k2, k3, k4⟩ := h1.putSpan g1 hs2
  have hflat : flat (ca ++ ([cx] ++ cb)) = flat (ca ++ (cm ++ cb)) := by
    obtain ⟨z, hz⟩ := List.length_eq_one_iff.1 k3
    rw [flat_append, flat_append, hz, List.getElem?_append_right (by omega), k2, Nat.sub_self] at hcell
    simp only [List.cons_append, List.getElem?_cons_zero, Option.some.injEq] at hcell
    subst hcell
    rw [flat_append, flat_append, flat_append, flat_append, hz]
    simp [flat, hcc.1]
  refine hR2.setBox hX.wpos hc1 h2 k1 (fun v hv => ?_) rfl rfl rfl rfl (fun _ _ => rfl) (by rw [hflat]; exact h2) fun off' b hob => ?_
  · have := List.all_eq_true.1 hpv v hv
    cases v <;> first | rfl | cases this
  · obtain ⟨u', q1, _⟩ := hob
    exact absurd q1 (isPv_own hpv)
theorem places_ex (hT : TOK P X) {t : TypeId} {fs : List (Nat × TypeId)} {n b : Nat} (hty : X.ty t = some ⟨.struct fs, n, b⟩) {fa : Array Field} (g6 : fa.toList.map (fun f => (f.offset, f.type)) = fs) :
    ∃ places, fa.toList.mapM (fun f => (P.info? f.type).map fun i => (f.offset, i.size)) = some places := (places_at hT hty g6).imp fun _ h => h.1
theorem zeroK_sound (hX : XOK X) (hT : TOK P X) {o : Oper} {v : AV X.U} {s' : St X.U} (h : zeroK X s o = some (v, s')) (hd : dstOk N o v = true) : OpOk P N s o v s' := by
  unfold zeroK at h
  split at h
  · rename_i t parts ho
    split at h
    case h_2 => cases h
    rename_i fs n b z hp hty hz
    split at h
    case isFalse => cases h
    cases h
    intro B a w ⟨cl, m, hR, hN, hD⟩ next Q hnext
    obtain ⟨info, zv, vs, h1, h2, h3, h4, _⟩ := hT.zero t z hz
    have hzc : zv.cells = (flat vs).toArray := by apply Array.ext'; simpa using h3
    obtain ⟨info', d, g1, g2, g3, g4, fa, rfl, g6, g7⟩ := hT.ty t _ hty
    rw [h1] at g1; cases g1
    obtain ⟨places, p1⟩ := places_ex hT hty g6
    obtain rfl : parts = #[] := by apply Array.ext'; simpa using hp
    have hrun : (Instr.build t ((#[] : Array (Nat × Operand)).map fun (i, x) => (i, a.eval x))).run P w = .ok (.agg (flat vs).toArray) w := by
      refine run_build w t _ (flat vs).toArray ?_
      simp only [Program.built, h1, g4, h2, p1, hzc]
      simp [Instr.fill]
    refine wp_of_run (c := .agg (flat vs).toArray) (w' := w) ?_ (hnext _ _ (Good.put hR hN hD hd (.zer ((hT.zval t _).2 ⟨info, zv, h1, h2, by rw [hzc]; rfl⟩)) fun b hb => by simp [blk] at hb))
    simp only [execOp, ho, Sem.run_bind, hrun, Result.andThen_ok, Sem.run_pure]
  · rename_i e x ho
    split at h
    case h_2 => cases h
    rename_i t d z hx hdst hz
    split at h
    case isFalse => cases h
    rename_i ht
    subst ht
    cases h
    intro B a w ⟨cl, m, hR, hN, hD⟩ next Q hnext
    obtain ⟨info, zv, vs, h1, h2, h3, h4, h5⟩ := hT.zero t z hz
    have hzc : zv.cells = (flat vs).toArray := by apply Array.ext'; simpa using h3
    have hxv := evV hX hR t x
    rw [hx] at hxv
    have hxc : (a.eval x).cells = (flat vs).toArray := by
      generalize a.eval x = c at hxv
      cases hxv with
      | zer hz' =>
        obtain ⟨info', v', k1, k2, k3⟩ := (hT.zval t c).1 hz'
        rw [h1] at k1; cases k1
        rw [h2] at k2; cases k2
        rw [k3, hzc]
    have hR' := hR.addBox hX.wpos (d := d) (e := t) (h4 cl w m _) (fun v hv => by rcases (h5 v hv).1 with h | ⟨u, rfl⟩; exact (plain_own h).2; rfl) (fun off u b hs => zero_noblk w h4 hs b) (fun v hv => (h5 v hv).2 d)
    refine wp_of_run (c := .pointer (some ⟨w.heap.size, 0, none⟩)) (w' := World.pushO w (.cells (flat vs).toArray t (0, 0))) ?_ (hnext _ _ (Good.put hR' hN (mb_upd hD (dst_lt hd hdst)) hd ?_ fun b hb => by simp [blk] at hb))
    · simp [execOp, ho, Instr.box, newVar, newRow, hxc, World.pushO]
    · have := V.ptr (X := X) (cl := cl) (w := World.pushO w (.cells (flat vs).toArray t (0, 0))) (m := upd m d w.heap.size) (lv := lval (upd m d w.heap.size) (s.addBox d z) a.tmps (World.pushO w (.cells (flat vs).toArray t (0, 0)))) d 0
      rw [upd_same] at this; exact this
  · cases h
/-- A row of texts of which the first one is left out. -/
theorem holeK_sound (hX : XOK X) (hT : TOK P X) {o : Oper} {u : X.U} (h : holeK X s o = some u) (hd : dstOk N o (AV.own u) = true) : OpOk P N s o (.own u) s := by
  unfold holeK at h
  split at h
  case h_2 => cases h
  rename_i t n parts ho
  split at h
  case h_2 => cases h
  rename_i e b1 b2 hty
  split at h
  case h_2 => cases h
  rename_i td b3 z l hte hz hl
  split at h
  case isFalse => cases h
  rename_i hn
  split at h
  case h_2 => cases h
  rename_i u' hu
  split at h
  case isFalse => cases h
  rename_i hel
  cases h
  intro B a w ⟨cl, m, hR, hN, hD⟩ next Q hnext
  have hel2 : ∀ v ∈ l, (AV.pv v).plain = true ∧ segsW X ((AV.pv v).segs X) = 1 := fun v hv => by
    have := List.all_eq_true.mp hel.2 v hv
    simpa using this
  obtain ⟨i1, zv, vz, q1, q2, q3, q4, _⟩ := hT.zero e _ hz
  obtain ⟨info, d, g1, g2, g3, g4, g5⟩ := hT.ty e _ hte
  rw [q1] at g1; cases g1
  simp only at g2
  have hzc : zv.cells.toList = [Value.string z] := by
    rw [q3]
    have := q4 (fun _ => 0) w (fun b => b) (fun _ => none)
    cases this with
    | cons k1 k2 k3 =>
      cases k3
      cases k1 with
      | pv k1 => cases k1; rfl
  have hzc' : zv.cells = #[Value.string z] := by apply Array.ext'; rw [hzc]
  obtain ⟨get, hview, hget⟩ := hX.lit t _ u hu
  obtain ⟨vs, j1, j2, j3⟩ := litElems_sound (place := fun i => some (i * 1, 1)) (cl := cl) (w := w) (a := a) (fun t x v hv => by have := evV hX hR t x; rw [hv] at this; cases this with | pv h => exact h) (fun _ => rfl) parts.toList 1 l hl hel2
  have hlim : ¬ n * 1 > 2 ^ 24 := by omega
  have hcells : ∀ zc : Array Value, zc = #[Value.string z] → Instr.fill (fun i => some (i * 1, 1)) ((Array.range (n * 1)).map (zc[· % zc.size]!)) (parts.toList.map fun p => (p.1, a.eval p.2)) = some (flat (Value.string z :: vs)).toArray := by
    intro zc hzc
    subst hzc
    rw [j3 _ (by simp; omega)]
    congr 2
    rw [flat_cons]
    congr 1
    obtain ⟨n', rfl⟩ : ∃ k, n = k + 1 := ⟨n - 1, by omega⟩
    simp [Value.cells, Array.toList_range, List.range_succ_eq_map]
  have hrun : (execOp a.eval o).run P w = .ok (.value (.slice (some ⟨w.heap.size, 0, none⟩) n n)) (World.pushO w (.cells (flat (Value.string z :: vs)).toArray e (0, 0))) := by
    have hparts : (parts.map fun x => (x.1, a.eval x.2)).toList = parts.toList.map fun p => (p.1, a.eval p.2) := by simp
    have h0 : ¬ n * 1 = 0 := by omega
    simp only [execOp, ho, Instr.buildSlice, Sem.run_bind, run_underlying (slice_ty hT hty), Result.andThen_ok, sizeOf, typeInfo, run_program, q1, g2, Sem.run_pure, if_neg hlim, if_neg h0, hparts, zeroValue, q2]
    rw [hcells _ hzc']
    simp [newRow, World.pushO]
  have hocs : ∀ v ∈ Value.string z :: vs, oc v 1 := by
    intro v hv
    rcases List.mem_cons.1 hv with rfl | hv
    · exact oc_one rfl rfl
    · obtain ⟨i, hi, rfl⟩ := List.getElem_of_mem hv
      exact (j2 i hi (by omega)).2
  have hlen : (flat (Value.string z :: vs)).length = n := by
    rw [flat_len hocs, List.length_cons, j1]; omega
  refine wp_of_run hrun (hnext _ _ ?_)
  have hown : OwnAt X cl (World.pushO w (.cells (flat (Value.string z :: vs)).toArray e (0, 0))) u (some ⟨w.heap.size, 0, none⟩) n n := by
    refine ⟨Value.string z :: vs, get, by rw [hview]; congr 1; simp; omega, by rw [List.length_cons, j1]; omega, fun i hi => ?_, fun v hv => by rw [hel.1]; exact hocs v hv, Nat.le_refl _,
      .inr ⟨_, _, _, _, rfl, rfl, hR.top _ (Nat.le_refl _), heap_push_new _ _, by rw [hel.1]; simp [hlen], fun j _ h => by simp at h, fun j c hj => by simpa using hj⟩⟩
    have hi' : i < (PV.str z :: l).length := by simp at hi ⊢; omega
    rw [← hget i hi']
    cases i with
    | zero => exact .str z
    | succ i => exact ((j2 i (by simpa using hi) (by simpa using hi')).1).mono (Ext.push _ _ _)
  exact fresh_good (w' := World.pushO w (.cells (flat (Value.string z :: vs)).toArray e (0, 0))) hX.wpos hR hN hD rfl rfl rfl rfl hd hown
/-- A box that holds a pointer for good. -/
theorem rpBox_sound (hX : XOK X) {tk : Takes} {o : Oper} {id : Nat} (h : rpBox X tk s o = some id) (hd : dstOk N o (AV.rp (U := X.U) id) = true) : OpOk P N s o (.rp id) s := by
  unfold rpBox at h
  split at h
  case h_2 => cases h
  rename_i e x d ho hdst
  split at h
  case isFalse => cases h
  split at h
  case h_2 => cases h
  rename_i id' b1 b2 hev hty
  cases h
  intro B a w ⟨cl, m, hR, hN, hD⟩ next Q hnext
  have hv := evV hX hR e x
  rw [hev] at hv
  generalize hc0 : a.eval x = c0 at hv
  cases hv with
  | ptr =>
    let cl' : Nat → Nat := fun b => if b = w.heap.size then 1 else cl b
    let w' : World := World.pushO w (.cells #[Value.pointer (some ⟨m id, 0, none⟩)] e (0, 0))
    have hlt : ∀ b, b < w.heap.size → cl' b = cl b := fun b hb => by simp only [cl']; rw [if_neg (by omega)]
    have hsz : w'.heap.size = w.heap.size + 1 := size_push _ _
    have hext : Ext cl w cl' w' := Ext.of fun b _ ⟨v, hv⟩ => by
      have hb := (Array.getElem?_eq_some_iff.mp hv).1
      exact ⟨heap_push _ _ _ hb, by rw [hlt b hb]; exact Nat.le_refl _⟩
    have hR' : Rel B cl' m s a.tmps w' := by
      refine hR.world hX.wpos ⟨hR.fr.os, hR.fr.tape, hR.fr.output, Nat.le_trans hR.fr.size (by omega), fun b hb hdd => ?_⟩ hext (by omega) (fun l b hb => ?_) (fun b hb => ?_)
      · have hb2 : b < w.heap.size := Nat.lt_of_lt_of_le hb hR.fr.size
        exact ⟨(heap_push _ _ _ hb2).trans (hR.fr.block b hb hdd).1, (hlt b hb2).trans (hR.fr.block b hb hdd).2⟩
      · have hm := hR.mine l b hb
        exact ⟨heap_push _ _ _ hm.1, (hlt b hm.1).trans hm.2.2⟩
      · simp only [cl']; rw [if_neg (by omega)]; exact hR.top b (by omega)
    refine wp_of_run (c := .pointer (some ⟨w.heap.size, 0, none⟩)) (w' := w') ?_ (hnext _ _ (Good.put hR' hN hD hd (.rp ⟨rfl, fun j v hj => ?_⟩) fun b hb => by simp [blk] at hb))
    · simp [execOp, ho, Instr.box, newVar, newRow, hc0, World.pushO, Value.cells, w']
    · cases j with
      | succ j => simp at hj
      | zero =>
        simp only [List.getElem?_cons_zero, Option.some.injEq] at hj
        subst hj
        refine ⟨by simp only [cl']; simp, ?_⟩
        simp [World.cell?, w', heap_push_new]
/-- A row that is told when it is made. -/
theorem birth_sound (hX : XOK X) (hT : TOK P X) {tk : Takes} {o : Oper} {u : X.U} (h : birth X tk s o = some u) (hd : dstOk N o (AV.pv (U := X.U) (.typ u)) = true) : OpOk P N s o (.pv (.typ u)) s := by
  unfold birth at h
  split at h
  case h_2 => cases h
  rename_i t n parts d ho hdst
  split at h
  case isFalse => cases h
  split at h
  case h_2 => cases h
  rename_i u' hk
  cases h
  obtain ⟨v, e, h1, _, _, h4⟩ := ownK_sound (N := N) hX hT hk
  cases h1
  have hd' : dstOk N o (AV.own u) = true := by
    unfold dstOk at hd ⊢
    rw [hdst] at hd ⊢
    exact hd
  intro B a w hg next Q hnext
  refine h4 hd' B a w hg next Q fun a' w' hg' => hnext a' w' ?_
  obtain ⟨cl, m, hR, hN, hD⟩ := hg'
  rw [hdst] at hR ⊢
  have hlk : (St.put (St.eff s .none) (some d) (.own u)).look d = .own u := by rw [look_put, if_pos rfl]
  obtain ⟨cl', k1, _, _⟩ := hR.tell hX hlk
  refine ⟨cl', m, ?_, hN, hD⟩
  have e : ((St.put (St.eff s .none) (some d) (.own u)).put (some d) (.pv (.typ u))) = s.put (some d) (.pv (.typ u)) := by
    simp only [St.put, St.eff]
    congr 2
    have : ∀ l : List (Nat × AV X.U), killSlot d (killSlot d l) = killSlot d l := by
      intro l
      induction l with
      | nil => rfl
      | cons p r ih =>
        obtain ⟨j, v⟩ := p
        by_cases hj : j = d
        · simp [killSlot, hj, ih]
        · simp only [killSlot, hj, if_false, ih]
          congr 2
          by_cases hv : v.atSlot d = true
          · rw [if_pos hv, if_neg (by simp [AV.atSlot])]
          · rw [if_neg hv, if_neg hv]
    rw [show killSlot d ((d, AV.own u) :: killSlot d s.env) = killSlot d (killSlot d s.env) by simp [killSlot], this]
  rw [← e]; exact k1
theorem toOpt_z {lv : Lc → Option Value} : ∀ {l : List (AV X.U)} {os : List (Option (PV X.U))} {vs : List Value}, toOpt l = some os → Vs X cl w m lv l vs → Vz X cl w os vs
  | [], os, vs, h, hv => by cases h; cases hv; exact .nil
  | v :: r, os, vs, h, hv => by
    cases hv with
    | cons h1 h2 h3 =>
      cases v with
      | pv v =>
        obtain ⟨q, h4, rfl⟩ := Option.map_eq_some_iff.1 h
        cases h1 with
        | pv h1 => exact .cons h1 h2 (toOpt_z h4 h3)
      | nil =>
        obtain ⟨q, h4, rfl⟩ := Option.map_eq_some_iff.1 h
        cases h1
        exact .none (toOpt_z h4 h3)
      | _ => cases h
/-- A struct built of which the rows left out are nil. -/
theorem nilBuild_sound (hX : XOK X) (hT : TOK P X) {tk : Takes} {o : Oper} {v : AV X.U} (h : nilBuild X tk s o = some v) (hd : dstOk N o v = true) : OpOk P N s o v s := by
  unfold nilBuild at h
  split at h
  case h_2 => cases h
  rename_i t parts d ho hdst
  split at h
  case isFalse => cases h
  split at h
  case h_2 => cases h
  rename_i fs n b z hty hz
  split at h
  case h_2 => cases h
  rename_i l hl
  obtain ⟨os, hos, rfl⟩ := Option.map_eq_some_iff.1 h
  intro B a w ⟨cl, m, hR, hN, hD⟩ next Q hnext
  obtain ⟨info, zv, vs0, h1, h2, h3, _, _⟩ := hT.zero t z hz
  obtain ⟨vs, j1, j2⟩ := hT.zeroN t z hz info zv h1 h2
  have hzc : zv.cells = (flat vs).toArray := by apply Array.ext'; simpa using j1
  obtain ⟨info', d', g1, g2, g3, g4, fa, rfl, g6, g7⟩ := hT.ty t _ hty
  rw [h1] at g1; cases g1
  have hev : ∀ t x, V X cl w m (lval m s a.tmps w) (s.ev t x) (a.eval x) := fun t x => evV hX hR t x
  obtain ⟨places, p1, p2⟩ := places_at hT hty g6
  obtain ⟨vl, f1, f2⟩ := fillK_sound (lv := lval m s a.tmps w) hX hT hev (fun i => places.toArray[i]?) p2 parts.toList _ l vs (j2 _ _ _ _) hl
  have hrun : (Instr.build t (parts.map fun (i, x) => (i, a.eval x))).run P w = .ok (.agg (flat vl).toArray) w := by
    refine run_build w t _ (flat vl).toArray ?_
    simp only [Program.built, h1, g4, h2, p1, hzc]
    have e : (parts.map fun x => (x.1, a.eval x.2)).toList = parts.toList.map fun p => (p.1, a.eval p.2) := by simp
    simp only [e]
    exact f2
  refine wp_of_run (c := .agg (flat vl).toArray) (w' := w) ?_ (hnext _ _ (Good.put hR hN hD hd (.zl (toOpt_z hos f1) rfl) fun b hb => by simp [blk] at hb))
  simp only [execOp, ho, Sem.run_bind, hrun, Result.andThen_ok, Sem.run_pure]
theorem ownAt_says {offs : List Nat} {lv : Lc → Option Value} : ∀ {os : List (Option (PV X.U))} {z c : List (AV X.U)} {k : Nat} {vs : List Value}, ownAt X offs k os z = some c → Vz X cl w os vs →
    Vs X cl w m lv c vs ∧ (∀ v ∈ c, v.at? = none) ∧ ∀ off u, segAt X c off = some (.own u) → (flat vs)[off]? = some (.slice none 0 0)
  | [], [], c, k, vs, h, hv => by
    simp only [ownAt, Option.some.injEq] at h; subst h; cases hv
    exact ⟨.nil, (fun v hv' => by simp at hv'), (fun off u h' => by simp [segAt] at h')⟩
  | [], _ :: _, c, k, vs, h, hv => by simp [ownAt] at h
  | some v :: r, [], c, k, vs, h, hv => by simp [ownAt] at h
  | none :: r, [], c, k, vs, h, hv => by simp [ownAt] at h
  | some v :: r, y :: q, c, k, vs, h, hv => by
    simp only [ownAt] at h
    obtain ⟨c', h1, rfl⟩ := Option.map_eq_some_iff.1 h
    cases hv with
    | cons g1 g2 g3 =>
      obtain ⟨k1, k2, k3⟩ := ownAt_says h1 g3
      refine ⟨.cons (.pv g1) g2 k1, fun v hv => ?_, fun off u hs => ?_⟩
      · rcases List.mem_cons.1 hv with rfl | hv
        · rfl
        · exact k2 v hv
      · cases off with
        | zero => simp [segAt] at hs
        | succ n =>
          simp only [segAt] at hs
          split at hs
          case isFalse => cases hs
          rename_i hle
          have hle' : v.segW X ≤ n + 1 := hle
          have := k3 _ u hs
          rw [flat_cons, List.getElem?_append_right (by rw [Array.length_toList, g2.1]; exact hle'), Array.length_toList, g2.1]
          exact this
  | none :: r, y :: q, c, k, vs, h, hv => by
    unfold ownAt at h
    split at h
    · rename_i e _; cases e
    · rename_i e _; cases e
    · rename_i kk _ _ r' u q' e1 e2
      cases e1; cases e2
      split at h
      case h_2 => cases h
      rename_i get hview
      obtain ⟨c', h1, rfl⟩ := Option.map_eq_some_iff.1 h
      cases hv with
      | @none _ ws g3 =>
        obtain ⟨k1, k2, k3⟩ := ownAt_says h1 g3
        have hoc : oc (Value.slice none 0 0) 1 := ⟨rfl, fun x hx => by simp [Value.cells] at hx; subst hx; rfl⟩
        have htail : ∀ (a : AV X.U), a.segW X = 1 → (a = .own u ∨ a = .pv (.typ u)) → ∀ off u', segAt X (a :: c') off = some (.own u') → (flat (Value.slice none 0 0 :: ws))[off]? = some (.slice none 0 0) := fun a ha _ off u' hs => by
          cases off with
          | zero => rfl
          | succ n =>
            simp only [segAt, ha] at hs
            split at hs
            case isFalse => cases hs
            have := k3 _ u' hs
            rw [flat_cons, List.getElem?_append_right (by simp [Value.cells])]
            simpa [Value.cells] using this
        have hall : ∀ e : AV X.U, (e = .own u ∨ e = .pv (.typ u)) → Vs X cl w m lv (e :: c') (.slice none 0 0 :: ws) ∧ (∀ v ∈ e :: c', v.at? = none) ∧ ∀ off u', segAt X (e :: c') off = some (.own u') → (flat (.slice none 0 0 :: ws))[off]? = some (.slice none 0 0) := by
          intro e he
          rcases he with rfl | rfl
          · refine ⟨.cons (.own ⟨[], get, hview, rfl, fun i h => by simp at h, fun v h => by simp at h, Nat.le_refl _, .inl ⟨rfl, rfl⟩⟩) hoc k1, fun v hv => ?_, htail _ rfl (.inl rfl)⟩
            rcases List.mem_cons.1 hv with rfl | hv
            · rfl
            · exact k2 v hv
          · have hw : (AV.pv (.typ u) : AV X.U).segW X = 1 := by simp only [AV.segW, PV.segW, hview]
            refine ⟨.cons (.pv (.sl (vs := []) hview rfl (fun i h => by simp at h) (Nat.le_refl _) (fun v h => by cases h) (.inl rfl))) (by rw [hw]; exact hoc) k1, fun v hv => ?_, htail _ hw (.inr rfl)⟩
            rcases List.mem_cons.1 hv with rfl | hv
            · rfl
            · exact k2 v hv
        refine hall _ ?_
        split
        · exact .inl rfl
        · exact .inr rfl
    · cases h
/-- Such a struct is stored into a box. -/
theorem nilStore_sound (hX : XOK X) (hT : TOK P X) {tk : Takes} {o : Oper} {id : Nat} {c2 : List (AV X.U)} (h : nilStore X tk s o = some (id, c2)) (hd : dstOk N o (AV.pv (U := X.U) (.tup [])) = true) : OpOk P N s o (.pv (.tup [])) (s.setBox id c2) := by
  unfold nilStore at h
  split at h
  case h_2 => cases h
  rename_i t x y ho
  split at h
  case h_2 => cases h
  rename_i id' os td n bb z hev hy hty hz
  split at h
  case h_2 => cases h
  rename_i c c' hc hoa
  split at h
  case isFalse => cases h
  rename_i hcond
  cases h
  obtain ⟨hpv, hw1, hw2⟩ := hcond
  intro B a w ⟨cl, m, hR, hN, hD⟩ next Q hnext
  obtain ⟨vs, e, h1, h2⟩ := hR.box id c hc
  have hye := evV hX hR t y
  rw [hy] at hye
  obtain ⟨cn, g1, g2⟩ : ∃ cn, Vz X cl w os cn ∧ (a.eval y).cells = (flat cn).toArray := by
    generalize a.eval y = q at hye
    cases hye with
    | zl q1 q2 => exact ⟨_, q1, q2⟩
  obtain ⟨k1, k2, k3⟩ := ownAt_says (m := m) (lv := lval m s a.tmps w) hoa g1
  obtain ⟨info, d, i1, i2, _⟩ := hT.ty t _ hty
  have hx := evV hX hR 0 x
  rw [hev] at hx
  have hxe : a.eval x = .pointer (some ⟨m id, 0, none⟩) := by
    generalize a.eval x = z at hx
    cases hx; rfl
  have hl1 : (flat vs).length = n := by rw [h1.size, hw1]
  have hl2 : (flat cn).length = n := by rw [k1.size, hw2]
  have hst := run_storeCells_at P (m id) 0 e (flat cn) 0 (flat vs).toArray w h2 (by simp; omega) (fun v hv => k1.oc v hv)
  have hnew : ((flat vs).toArray.toList.take (0 + 0) ++ flat cn ++ (flat vs).toArray.toList.drop (0 + 0 + (flat cn).length)).toArray = (flat cn).toArray := by
    congr 1
    simp only [List.toList_toArray, Nat.add_zero, Nat.zero_add, List.take_zero, List.nil_append]
    rw [List.drop_eq_nil_of_le (by omega), List.append_nil]
  rw [hnew] at hst
  have hsv : (Instr.storeAt t (a.eval x) (a.eval y)).run P w = .ok () (w.setRow (m id) (flat cn).toArray) := by
    have hsz : (a.eval y).cells.size = n := by rw [g2]; simpa using hl2
    have hcl : (a.eval y).cells.toList = flat cn := by rw [g2]
    simp only [Instr.storeAt, hxe, Instr.sureAddr, Sem.run_bind, Sem.run_pure, Result.andThen_ok, storeVar, sizeOf, typeInfo, run_program, i1, i2, hsz, ne_eq, not_true_eq_false, if_false, hcl, hst]
  have hR' : Rel B cl m (s.setBox id c2) a.tmps (w.setRow (m id) (flat cn).toArray) := by
    refine hR.setBox hX.wpos hc h2 k1 k2 rfl rfl rfl ?_ (fun b hb => ?_) (setRow_heap w (m id) _ _ e (0, 0) h2) ?_
    · simp [World.setRow]
    · simp only [World.setRow, Array.getElem?_modify]
      rw [if_neg (by omega)]
    · intro off b ⟨u, q1, q2⟩
      rw [k3 off u q1] at q2
      simp [blk] at q2
  exact wp_of_skip (w' := w.setRow (m id) (flat cn).toArray) (by simp [execOp, ho, hsv]) (hnext _ _ (Good.put hR' hN hD hd (.pv (.tup .nil)) fun b hb => by simp [blk] at hb))
theorem preK_sound (hX : XOK X) (hT : TOK P X) {tk : Takes} {o : Oper} {v : AV X.U} {s' : St X.U} (h : preK X tk s o = some (v, s')) (hd : dstOk N o v = true) : OpOk P N s o v s' := by
  unfold preK at h
  split at h
  · rename_i id hq; cases h; exact rpBox_sound hX hq hd
  split at h
  · rename_i u hq; cases h; exact birth_sound hX hT hq hd
  split at h
  · rename_i u hq; cases h; exact holeK_sound hX hT hq hd
  split at h
  · rename_i v1 hq; cases h; exact nilBuild_sound hX hT hq hd
  split at h
  · rename_i id c' hq; cases h; exact nilStore_sound hX hT hq hd
  · exact zeroK_sound hX hT h hd
theorem runK_sound (hX : XOK X) (hT : TOK P X) {G : Ans X ρ} {tk : Takes} (hG : GOK P G) {ops : Array Oper} {K : St X.U → Option ρ} {r : ρ} {Q : Exit → Act → World → Prop}
    (hQ : ∀ s a w, K s = some r → Good B N s a w → Q .normal a w) : ∀ (rest pre : List Oper) (s : St X.U) (a : Act) (w : World), ops.toList = pre ++ rest → runK X G tk N ops rest s K = some r → Good B N s a w →
      wpOps P ops Q (List.range' pre.length rest.length) a w
  | [], pre, s, a, w, _, h, hg => hQ _ _ _ h hg
  | o :: rest, pre, s, a, w, hops, h, hg => by
    have hget : ops[pre.length]? = some o := by
      rw [← Array.getElem?_toList, hops, List.getElem?_append_right (Nat.le_refl _)]; simp
    have hrec : ∀ s a w, runK X G tk N ops rest s K = some r → Good B N s a w → wpOps P ops Q (List.range' (pre.length + 1) rest.length) a w := fun s a w h1 h2 => by
      have := runK_sound hX hT hG hQ rest (pre ++ [o]) s a w (by rw [hops, List.append_assoc]; rfl) h1 h2
      simpa using this
    have hgo0 : ∀ s, Good B N s a w → opT0 X G tk s o (fun v s' => if dstOk N o v then runK X G tk N ops rest (s'.put o.dst v) K else none) = some r → o.wp P a w (wpOps P ops Q (List.range' (pre.length + 1) rest.length)) Q := by
      intro s hg h
      unfold opT0 at h
      split at h
      · rename_i n e hq
        obtain ⟨g1, g2⟩ := nilT_inv h
        have hd : ∀ b, dstOk N o (AV.pv (U := X.U) (.bool b)) = true := fun b => by
          simp only at g1
          split at g1
          · rename_i hd; revert hd; unfold dstOk; cases o.dst <;> simp [AV.atSlot]
          · cases g1
        obtain ⟨b, k1, k2⟩ := nilQ_sound hX hT hq hg hd
        refine k2 _ _ fun a' w' hg' => ?_
        cases b with
        | true => have := g2 (k1 rfl); simp only [hd, if_true] at this; exact hrec _ _ _ this hg'
        | false => simp only [hd, if_true] at g1; exact hrec _ _ _ g1 hg'
      obtain ⟨v, s', h1, h2⟩ := opK_sound (N := N) hX hT hG h
      split at h1
      case isFalse => cases h1
      rename_i hd
      exact h2 hd B a w hg _ _ fun a' w' hg' => hrec _ _ _ h1 hg'
    have hgo : ∀ s, Good B N s a w → opT X G tk s o (fun v s' => if dstOk N o v then runK X G tk N ops rest (s'.put o.dst v) K else none) = some r → o.wp P a w (wpOps P ops Q (List.range' (pre.length + 1) rest.length)) Q := by
      intro s hg h
      unfold opT at h
      split at h
      · rename_i v s1 hz
        dsimp only at h
        split at h
        case isFalse => cases h
        rename_i hd
        exact preK_sound hX hT hz hd B a w hg _ _ fun a' w' hg' => hrec _ _ _ h hg'
      split at h
      · rename_i i id c' hp
        dsimp only at h
        split at h
        case isFalse => cases h
        rename_i hd
        exact storeOwn_sound hX hT hp hd B a w hg _ _ fun a' w' hg' => hrec _ _ _ h hg'
      split at h
      · rename_i i id u c1 c2 hp
        exact hgo0 _ (cellTell_good hX hp hg) h
      split at h
      · rename_i i id u c' hp
        exact hgo0 _ (preTake_good hX hp hg) h
      split at h
      · rename_i j u hp
        exact hgo0 _ (preTell_good hX hp hg) h
      · exact hgo0 _ hg h
    have hskip : ∀ s, Good B N s a w → (if dstOk N o (skipAV X.U) then runK X G tk N ops rest (s.put o.dst (skipAV X.U)) K else none) = some r → wpOps P ops Q (List.range' (pre.length + 1) rest.length) (a.put o.dst Go.undef) w := by
      intro s hg h
      split at h
      case isFalse => cases h
      rename_i hd
      exact hrec _ _ _ h (skip_good hg hd)
    rw [List.length_cons, List.range'_succ]
    simp only [wpOps, hget]
    unfold runK at h
    simp only at h
    split at h
    · rename_i hgd
      rw [if_pos (by simp [Region.wanted, hgd])]
      exact .inl (hgo s hg h)
    · rename_i j want hgd
      split at h
      case h_2 => cases h
      rename_i d hd
      split at h
      · rename_i b hb
        have hy := yielded_of hg hd hb
        cases b with
        | true =>
          simp only [cond_true] at h
          cases want with
          | true => rw [if_pos (by simp [Region.wanted, hgd, hy])]; exact .inl (hgo _ (hg.lit hb) h)
          | false => rw [if_neg (by simp [Region.wanted, hgd, hy])]; exact hskip _ (hg.lit hb) h
        | false =>
          simp only [cond_false] at h
          cases want with
          | false => rw [if_pos (by simp [Region.wanted, hgd, hy])]; exact .inl (hgo _ (hg.lit hb) h)
          | true => rw [if_neg (by simp [Region.wanted, hgd, hy])]; exact hskip _ (hg.lit hb) h
      · rename_i hb
        have hy := yielded_none hg hd hb
        rw [if_neg (by simp [Region.wanted, hgd, hy])]
        exact hskip _ hg h
      · cases h

end Go.AX
