/-
  Rows of one's own: made, appended to, written, handed on.
-/
import Derived.Test.YtepekanlplbciaaAxOpH
import Derived.Laws.AppendOwn
import Derived.Laws.MakeOwn
import Derived.Laws.IdiomStrings
namespace Go.AX
open Go
variable {X : Univ} {P : Program} {cl cl' m : Nat → Nat} {w w' : World} {B : Base} {s s1 : St X.U} {tm : Array Value} {ρ : Type} {lv : Lc → Option Value}

theorem flat_len {sz : Nat} : ∀ {q : List Value}, (∀ v ∈ q, oc v sz) → (flat q).length = q.length * sz
  | [], _ => by simp [flat]
  | c :: r, h => by
    rw [flat_cons, List.length_append, flat_len (fun v hv => h v (List.mem_cons_of_mem _ hv)), Array.length_toList, (h c List.mem_cons_self).1, List.length_cons, Nat.add_mul]; omega
theorem flat_oc {sz : Nat} : ∀ {q : List Value}, (∀ v ∈ q, oc v sz) → ∀ x ∈ flat q, x.oneCell' = true
  | [], _, x, h => by cases h
  | c :: r, h, x, hx => by
    rw [flat_cons, List.mem_append] at hx
    rcases hx with hx | hx
    · exact (h c List.mem_cons_self).2 x hx
    · exact flat_oc (fun v hv => h v (List.mem_cons_of_mem _ hv)) x hx

theorem look_setSlot {i : Nat} {u : X.U} (hu : s.look i = .own u) (v : AV X.U) (j : Nat) : (s.setSlot i v).look j = if j = i then v else s.look j := by
  simp only [St.look, St.setSlot, assoc_assocSet]
  by_cases h : j = i
  · subst h
    simp only [if_true]
    cases ha : assoc s.env j with
    | none => simp [St.look, ha] at hu
    | some x => rfl
  · simp [h]

/-- What a slot owned is changed in place, or gone; all else stands. -/
theorem Rel.alterG (hX : ∀ u, 0 < X.width u) (h : Rel B cl m s tm w) {i : Nat} {v : AV X.U} (hlk : ∀ j, (s.setSlot i v).look j = if j = i then v else s.look j) (hvo : v.own? = none ∨ ∃ u, s.look i = .own u) (hv : V X cl' w' m (fun _ => none) v (tm.getD i Go.undef)) (hva : v.at? = none)
    (hvb : ∀ b, blk v (tm.getD i Go.undef) = some b → Ow m s tm w (.slot i) b ∧ cl' b = 0) (hf : Fr B cl' w') (e : Ext cl w cl' w') (hs : w.heap.size ≤ w'.heap.size)
    (ho : ∀ l b, l ≠ .slot i → Ow m s tm w l b → w'.heap[b]? = w.heap[b]? ∧ cl' b = 0) (ht : ∀ b, w'.heap.size ≤ b → cl' b = 0) : Rel B cl' m (s.setSlot i v) tm w' := by
  have hbox : ∀ id c, assoc s.hp id = some c → w'.heap[m id]? = w.heap[m id]? := fun id c hc => (ho (.box id) _ (by simp) ⟨⟨c, hc⟩, rfl⟩).1
  have hlv : ∀ l x, lval m (s.setSlot i v) tm w' l = some x → lval m s tm w l = some x := by
    intro l x hx
    obtain ⟨⟨u', hu'⟩, rfl⟩ := lval_some hx
    cases l with
    | slot j =>
      have : ∃ u2, s.own (.slot j) = some u2 := by
        rw [own_slot, hlk] at hu'
        by_cases hj : j = i
        · subst hj
          rcases hvo with hvo | ⟨u, hu⟩
          · rw [if_pos rfl, hvo] at hu'; cases hu'
          · exact ⟨u, by rw [own_slot, hu]; rfl⟩
        · rw [if_neg hj] at hu'; exact ⟨u', by rw [own_slot]; exact hu'⟩
      obtain ⟨u2, h2⟩ := this
      rw [lval_of h2]; rfl
    | cell id off =>
      have h2 : s.own (.cell id off) = some u' := hu'
      rw [lval_of h2]
      obtain ⟨c, hc, _⟩ := own_cell h2
      rw [cval_cell_eq (hbox id c hc)]
  have how : ∀ l b, Ow m (s.setSlot i v) tm w' l b → Ow m s tm w l b := by
    intro l b h1
    cases l with
    | slot j =>
      simp only [Ow, hlk] at h1
      by_cases hj : j = i
      · subst hj; rw [if_pos rfl] at h1; exact (hvb b h1).1
      · rw [if_neg hj] at h1; exact h1
    | cell id off =>
      obtain ⟨c, u', hc, hs', hb⟩ := h1
      refine ⟨c, u', hc, hs', ?_⟩
      rw [← cell?_of_heap (hbox id c hc)]; exact hb
    | box id => exact h1
  refine ⟨hf, fun j => ?_, fun id c hc => ?_, fun l l' b h1 h2 => h.sep l l' b (how _ _ h1) (how _ _ h2), fun l b h1 => ?_, ht, h.bok, h.inv⟩
  · rw [hlk]
    by_cases hj : j = i
    · subst hj; rw [if_pos rfl]
      exact hv.lv fun l x hl _ => by rw [hva] at hl; cases hl
    · rw [if_neg hj]
      exact ((h.env j).mono e (m' := m) (fun _ _ => rfl) fun b hb => ho (.slot j) b (by simpa using hj) hb).lv fun l x _ hx => hlv l x hx
  · obtain ⟨vs, el, h1, h2⟩ := h.box id c hc
    refine ⟨vs, el, (h1.mono e (m' := m) (fun _ _ => rfl) ?_).lv (fun l x _ hx => hlv l x hx), by rw [hbox id c hc]; exact h2⟩
    intro j a x b ha hx hb
    cases a with
    | own u' =>
      obtain ⟨off, k1, k2⟩ := cell_of_seg hX h1 h2 ha hx
      exact ho (.cell id off) b (by simp) ⟨c, u', hc, k1, by rw [k2]; exact hb⟩
    | otup o cs => exact absurd ha (h1.no_otup j)
    | _ => simp [blk] at hb
  · obtain ⟨k1, k2, k3⟩ := h.mine l b (how _ _ h1)
    refine ⟨Nat.lt_of_lt_of_le k1 hs, k2, ?_⟩
    by_cases hl : l = .slot i
    · subst hl
      simp only [Ow, hlk, if_true] at h1
      exact (hvb b h1).2
    · exact (ho l b hl (how _ _ h1)).2

theorem Rel.alter (hX : ∀ u, 0 < X.width u) (h : Rel B cl m s tm w) {i : Nat} {u : X.U} (hu : s.look i = .own u) {v : AV X.U} (hv : V X cl' w' m (fun _ => none) v (tm.getD i Go.undef)) (hva : v.at? = none)
    (hvb : ∀ b, blk v (tm.getD i Go.undef) = some b → Ow m s tm w (.slot i) b ∧ cl' b = 0) (hf : Fr B cl' w') (e : Ext cl w cl' w') (hs : w.heap.size ≤ w'.heap.size)
    (ho : ∀ l b, l ≠ .slot i → Ow m s tm w l b → w'.heap[b]? = w.heap[b]? ∧ cl' b = 0) (ht : ∀ b, w'.heap.size ≤ b → cl' b = 0) : Rel B cl' m (s.setSlot i v) tm w' :=
  h.alterG hX (look_setSlot hu v) (.inr ⟨u, hu⟩) hv hva hvb hf e hs ho ht

/-- It is gone from its slot; its block may be changed. -/
theorem Rel.take (hX : ∀ u, 0 < X.width u) (h : Rel B cl m s tm w) {i : Nat} {u : X.U} (hu : s.look i = .own u) (w1 : w'.os = w.os) (w2 : w'.tape = w.tape) (w3 : w'.output = w.output) (w4 : w.heap.size ≤ w'.heap.size)
    (w5 : ∀ b, b < w.heap.size → ¬ Ow m s tm w (.slot i) b → w'.heap[b]? = w.heap[b]?) : Rel B cl m (s.setSlot i .undef) tm w' := by
  refine h.alter hX hu (.undef _) rfl (fun b hb => by simp [blk] at hb) ⟨w1.trans h.fr.os, w2.trans h.fr.tape, w3.trans h.fr.output, Nat.le_trans h.fr.size w4, fun b hb hd => ?_⟩ (Ext.of fun b h1 hv => ⟨?_, Nat.le_refl _⟩) w4 (fun l b hl hb => ?_) fun b hb => h.top b (Nat.le_trans w4 hb)
  · rw [w5 b (Nat.lt_of_lt_of_le hb h.fr.size) fun ho => ?_]
    · exact h.fr.block b hb hd
    · rcases (h.mine _ _ ho).2.1 with k | k
      · exact hd k
      · omega
  · obtain ⟨v, hv⟩ := hv
    exact w5 b (Array.getElem?_eq_some_iff.mp hv).1 fun ho => by have := (h.mine _ _ ho).2.2; omega
  · have hm := h.mine l b hb
    exact ⟨w5 b hm.1 fun ho => hl (h.sep _ _ _ hb ho), hm.2.2⟩
theorem take_ow (hX : ∀ u, 0 < X.width u) (h : Rel B cl m s tm w) {i : Nat} {u : X.U} (hu : s.look i = .own u) (w4 : w.heap.size ≤ w'.heap.size)
    (w5 : ∀ b, b < w.heap.size → ¬ Ow m s tm w (.slot i) b → w'.heap[b]? = w.heap[b]?) {l : OL} {b : Nat} (ho : Ow m (s.setSlot i .undef) tm w' l b) : Ow m s tm w l b ∧ l ≠ .slot i := by
  cases l with
  | slot j =>
    simp only [Ow, look_setSlot hu] at ho
    by_cases hj : j = i
    · rw [if_pos hj] at ho; simp [blk] at ho
    · rw [if_neg hj] at ho; exact ⟨ho, by simpa using hj⟩
  | cell id off =>
    obtain ⟨c, u', hc, hs, hb⟩ := ho
    refine ⟨⟨c, u', hc, hs, ?_⟩, by simp⟩
    have hm := h.mine (.box id) _ ⟨⟨c, hc⟩, rfl⟩
    rw [cell?_of_heap (w5 _ hm.1 fun ho => by cases h.sep (.box id) (.slot i) _ ⟨⟨c, hc⟩, rfl⟩ ho)] at hb; exact hb
  | box id => exact ⟨ho, by simp⟩

/-- A greater world. -/
theorem Rel.grow (hX : ∀ u, 0 < X.width u) (h : Rel B cl m s tm w) (w1 : w'.os = w.os) (w2 : w'.tape = w.tape) (w3 : w'.output = w.output) (w4 : w.heap.size ≤ w'.heap.size) (w5 : ∀ b, b < w.heap.size → w'.heap[b]? = w.heap[b]?) :
    Rel B cl m s tm w' :=
  h.world hX ⟨w1.trans h.fr.os, w2.trans h.fr.tape, w3.trans h.fr.output, Nat.le_trans h.fr.size w4, fun b hb hd => by rw [w5 b (Nat.lt_of_lt_of_le hb h.fr.size)]; exact h.fr.block b hb hd⟩
    (Ext.of fun b _ ⟨_, hv⟩ => ⟨w5 b (Array.getElem?_eq_some_iff.mp hv).1, Nat.le_refl _⟩) w4 (fun l b hb => ⟨w5 b (h.mine l b hb).1, (h.mine l b hb).2.2⟩) fun b hb => h.top b (Nat.le_trans w4 hb)
theorem grow_ow (h : Rel B cl m s tm w) (w5 : ∀ b, b < w.heap.size → w'.heap[b]? = w.heap[b]?) {l : OL} {b : Nat} (ho : Ow m s tm w' l b) : Ow m s tm w l b := by
  cases l with
  | slot i => exact ho
  | cell id off =>
    obtain ⟨c, u, h1, h2, h3⟩ := ho
    refine ⟨c, u, h1, h2, ?_⟩
    rw [cell?_of_heap (w5 _ (h.mine (.box id) _ ⟨⟨c, h1⟩, rfl⟩).1)] at h3; exact h3
  | box id => exact ho

/-- A new row: its block stands behind all. -/
theorem fresh_good (hX : ∀ u, 0 < X.width u) {N : Nat} {a : Act} {o : Oper} (hR : Rel B cl m s a.tmps w) (hN : a.tmps.size = N) (hD : a.defers = [] ∧ (N ≤ 1000 → ∀ i, 1000 ≤ i → m i = B.mb i)) (w1 : w'.os = w.os) (w2 : w'.tape = w.tape) (w3 : w'.output = w.output) {ob : Obj} (wh : w'.heap = w.heap.push ob)
    {u : X.U} {n cap : Nat} (hd : dstOk N o (AV.own u) = true) (ho : OwnAt X cl w' u (some ⟨w.heap.size, 0, none⟩) n cap) : Good B N (s.put o.dst (.own u)) (a.put o.dst (.slice (some ⟨w.heap.size, 0, none⟩) n cap)) w' := by
  have w5 : ∀ b, b < w.heap.size → w'.heap[b]? = w.heap[b]? := fun b hb => by rw [wh, Array.getElem?_push, if_neg (by omega)]
  have hsz : w'.heap.size = w.heap.size + 1 := by rw [wh]; simp
  refine Good.put (hR.grow hX w1 w2 w3 (by omega) w5) hN hD hd (.own ho) fun b hb => ?_
  simp only [blk, Option.some.injEq] at hb; subst hb
  exact ⟨fun l hl => by have := (hR.mine l _ (grow_ow hR w5 hl)).1; omega, by omega, .inr hR.fr.size, hR.top _ (Nat.le_refl _)⟩

theorem assignOwn2_sound (hX : ∀ u, 0 < X.width u) {N : Nat} {o : Oper} {i j : Nat} {u : X.U} (ho : o.op = .assign (.tmp i)) (hi : s.rd i = .bor (.slot j)) (hu : s.own (.slot j) = some u) (hd : dstOk N o (AV.own u) = true) :
    OpOk P N s o (.own u) (s.setSlot j .undef) := by
  intro B a w ⟨cl, m, hR, hN, hD⟩ next Q hnext
  have hlu := own_look hu
  have hv := rdV hR i
  rw [hi] at hv
  cases hv with
  | bor hv =>
    have hc := hv _ (lval_of hu)
    have hown := hR.env j
    rw [hlu] at hown
    simp only [cval] at hc
    refine wp_of_run (c := a.tmps.getD i Go.undef) (w' := w) (by simp [execOp, ho, Act.eval]) (hnext _ _ (Good.put (hR.take hX hlu rfl rfl rfl (Nat.le_refl _) (fun _ _ _ => rfl)) hN hD hd ?_ fun b hb => ?_))
    · rw [hc]; exact hown.lv fun l x hl _ => by simp [AV.at?] at hl
    · rw [hc] at hb
      have hob : Ow m s a.tmps w (.slot j) b := by simp only [Ow, hlu]; exact hb
      refine ⟨fun l hl => ?_, hR.mine _ _ hob⟩
      obtain ⟨h1, h2⟩ := take_ow hX hR hlu (Nat.le_refl _) (fun _ _ _ => rfl) hl
      exact h2 (hR.sep _ _ _ h1 hob)

/-! A tuple whose first part one owns. -/
theorem look_setSlot' {i : Nat} (hne : s.look i ≠ .undef) (v : AV X.U) (j : Nat) : (s.setSlot i v).look j = if j = i then v else s.look j := by
  simp only [St.look, St.setSlot, assoc_assocSet]
  by_cases h : j = i
  · subst h
    simp only [if_true]
    cases ha : assoc s.env j with
    | none => simp [St.look, ha] at hne
    | some x => rfl
  · simp [h]
theorem let_go (hX : ∀ u, 0 < X.width u) (hR : Rel B cl m s tm w) {i : Nat} {v : AV X.U} (hne : s.look i ≠ .undef) (hv : V X cl w m (fun _ => none) v (tm.getD i Go.undef)) (hva : v.at? = none) (hvo : v.own? = none) (hvb : ∀ b, blk v (tm.getD i Go.undef) ≠ some b) :
    Rel B cl m (s.setSlot i v) tm w ∧ ∀ l b, Ow m (s.setSlot i v) tm w l b → Ow m s tm w l b ∧ l ≠ .slot i := by
  have hlk := look_setSlot' hne v
  refine ⟨hR.alterG hX hlk (.inl hvo) hv hva (fun b hb => absurd hb (hvb b)) hR.fr (Ext.refl _ _) (Nat.le_refl _) (fun l b _ hb => ⟨rfl, (hR.mine l b hb).2.2⟩) hR.top, fun l b ho => ?_⟩
  cases l with
  | slot j =>
    simp only [Ow, hlk] at ho
    by_cases hj : j = i
    · subst hj; rw [if_pos rfl] at ho; exact absurd ho (hvb b)
    · rw [if_neg hj] at ho; exact ⟨ho, by simpa using hj⟩
  | cell id off => exact ⟨ho, by simp⟩
  | box id => exact ⟨ho, by simp⟩
/-- What a slot owns is told; the slot stands where it stood. -/
theorem Rel.tellS (hX : XOK X) (h : Rel B cl m s tm w) {i : Nat} {u : X.U} (hu : s.look i = .own u) :
    ∃ cl', Rel B cl' m (s.setSlot i (.pv (.typ u))) tm w ∧ Ext cl w cl' w ∧ VP X cl' w (.typ u) (tm.getD i Go.undef) := by
  obtain ⟨cl', h1, h2, h3⟩ := h.tell hX hu
  refine ⟨cl', h.alter hX.wpos hu (.pv h3) rfl (fun b hb => by simp [blk] at hb) h1.fr h2 (Nat.le_refl _) (fun l b hl hb => ⟨rfl, ?_⟩) h1.top, h2, h3⟩
  refine (h1.mine l b ?_).2.2
  cases l with
  | slot j =>
    have hj : j ≠ i := fun e => hl (by rw [e])
    simp only [Ow] at hb ⊢
    have : s.look j = .undef ∨ (s.look j).own?.isSome = true ∨ (s.look j).at? = none := by
      cases hlj : s.look j <;> rw [hlj] at hb <;> simp [blk] at hb <;> first | exact .inr (.inl rfl) | exact .inr (.inr rfl)
    rcases this with e | e
    · rw [e] at hb; simp [blk] at hb
    · rw [put_look_ne hj e]; exact hb
  | cell id off => exact hb
  | box id => exact hb
theorem tellK_sound (hX : XOK X) {e : TypeId} {parts : List (Nat × Operand)} {tl : Option (Nat × X.U)} (h : tellK X ⟨s.ev, s.own, assoc s.hp⟩ e parts = some tl) {B : Base} {cl m : Nat → Nat} {a : Act} {w : World} (hR : Rel B cl m s a.tmps w) :
    ∃ cl', Rel B cl' m (s.eff (tellEff X tl)) a.tmps w ∧ ∀ t x v, toldEv X tl s.ev t x = .pv v → VP X cl' w v (a.eval x) := by
  unfold tellK at h
  split at h
  · rename_i j _
    cases hu : s.own (.slot j) with
    | none => simp only [hu] at h; cases h
    | some u =>
      simp only [hu, Option.map_some, Option.some.injEq] at h; subst h
      obtain ⟨cl', h1, h2, h3⟩ := hR.tellS hX (own_look hu)
      refine ⟨cl', h1, fun t x v hx => ?_⟩
      have hv := evV hX hR t x
      simp only [toldEv] at hx
      split at hx
      · rename_i i hb
        split at hx
        · rename_i e; subst e
          cases hx
          rw [hb] at hv
          cases hv with
          | bor hv => rw [hv _ (lval_of hu)]; exact h3
        · cases hx
      · rw [hx] at hv
        cases hv with
        | pv hv => exact hv.mono h2
  · cases h
    refine ⟨cl, hR, fun t x v hx => ?_⟩
    have hv := evV hX hR t x
    rw [show s.ev t x = .pv v from hx] at hv
    cases hv with
    | pv hv => exact hv
theorem moveTup_sound (hX : ∀ u, 0 < X.width u) {N : Nat} {o : Oper} {i : Nat} {u : X.U} {q : List (PV X.U)} (ho : o.op = .move (.tmp i)) (hi : s.look i = .otup (some u) q) (hd : dstOk N o (AV.otup (some u) q) = true) :
    OpOk P N s o (.otup (some u) q) (s.setSlot i .undef) := by
  intro B a w ⟨cl, m, hR, hN, hD⟩ next Q hnext
  have hv := hR.env i
  rw [hi] at hv
  obtain ⟨g1, g2⟩ := let_go hX hR (i := i) (v := .undef) (by rw [hi]; simp) (.undef _) rfl rfl (fun b hb => by simp [blk] at hb)
  refine wp_of_run (c := a.tmps.getD i Go.undef) (w' := w) (by simp [execOp, ho, Act.eval]) (hnext _ _ (Good.put g1 hN hD hd (hv.lv fun l x hl _ => by simp [AV.at?] at hl) fun b hb => ?_))
  have hob : Ow m s a.tmps w (.slot i) b := by simp only [Ow, hi]; exact hb
  refine ⟨fun l hl => ?_, hR.mine _ _ hob⟩
  obtain ⟨h1, h2⟩ := g2 l b hl
  exact h2 (hR.sep _ _ _ h1 hob)
theorem extractTup_sound (hX : ∀ u, 0 < X.width u) {N : Nat} {o : Oper} {i : Nat} {u : X.U} {q : List (PV X.U)} (ho : o.op = .extract (.tmp i) 0) (hi : s.look i = .otup (some u) q) (hd : dstOk N o (AV.own u) = true) :
    OpOk P N s o (.own u) (s.setSlot i (.otup none q)) := by
  intro B a w ⟨cl, m, hR, hN, hD⟩ next Q hnext
  have hv := hR.env i
  rw [hi] at hv
  generalize hc : a.tmps.getD i Go.undef = c at hv
  cases hv with
  | otup h1 h2 =>
  rename_i c0 vs
  obtain ⟨ad, n, cap, rfl, hown⟩ := h2 u rfl
  obtain ⟨g1, g2⟩ := let_go hX hR (i := i) (v := .otup none q) (by rw [hi]; simp) (by rw [hc]; exact .otup h1 fun u hu => by cases hu) rfl rfl (fun b hb => by simp [blk] at hb)
  refine wp_of_run (c := .slice ad n cap) (w' := w) (by simp [execOp, ho, Act.eval, hc, Instr.extract]) (hnext _ _ (Good.put g1 hN hD hd (.own hown) fun b hb => ?_))
  have hob : Ow m s a.tmps w (.slot i) b := by
    simp only [Ow, hi, hc]
    cases ad with
    | none => simp [blk] at hb
    | some ad => simpa [blk] using hb
  refine ⟨fun l hl => ?_, hR.mine _ _ hob⟩
  obtain ⟨k1, k2⟩ := g2 l b hl
  exact k2 (hR.sep _ _ _ k1 hob)

theorem assignNil_sound (hX : XOK X) {N : Nat} {o : Oper} {u : X.U} (ho : o.op = .assign (.const (.slice none 0 0))) (hu : X.nil o.type = some u) (hd : dstOk N o (AV.own u) = true) : OpOk P N s o (.own u) s := by
  intro B a w ⟨cl, m, hR, hN, hD⟩ next Q hnext
  obtain ⟨get, hg⟩ := hX.nil _ _ hu
  refine wp_of_run (c := .slice none 0 0) (w' := w) (by simp [execOp, ho, Act.eval]) (hnext _ _ (Good.put hR hN hD hd (.own ⟨[], get, hg, rfl, (fun i h => nomatch h), (fun v h => nomatch h), Nat.le_refl _, .inl ⟨rfl, rfl⟩⟩) fun b hb => by simp [blk] at hb))

theorem run_storeCells_fz (P : Program) (g o : Nat) (t : TypeId) (fz : Nat × Nat) : ∀ (vs : List Value) (i : Nat) (cur : Array Value) (w : World), w.heap[g]? = some (.cells cur t fz) → o + i + vs.length ≤ cur.size → (∀ j, j < o + i + vs.length → ¬ (fz.1 ≤ j ∧ j < fz.2)) → (∀ v ∈ vs, v.oneCell' = true) →
    (storeCells ⟨g, o, none⟩ vs i).run P w = .ok () (w.setRow g (cur.toList.take (o + i) ++ vs ++ cur.toList.drop (o + i + vs.length)).toArray)
  | [], i, cur, w, hg, _, _, _ => by
    simp only [storeCells, List.append_nil, List.length_nil, Nat.add_zero, List.take_append_drop, Array.toArray_toList]
    rw [setRow_self w g cur t fz hg]
    rfl
  | v :: rest, i, cur, w, hg, hl, hf, h1 => by
    have hi : o + i < cur.size := by simp at hl; omega
    have hadd : (⟨g, o, none⟩ : Addr).add i = ⟨g, o + i, none⟩ := by unfold Addr.add; split <;> simp_all
    have hcell : w.cell? ⟨g, o + i, none⟩ = some cur[o + i] := by simp [World.cell?, hg, hi]
    have hfro : w.frozen? ⟨g, o + i, none⟩ = false := by
      have := hf (o + i) (by simp)
      simp only [World.frozen?, hg]
      simpa using this
    have hst : (store ((⟨g, o, none⟩ : Addr).add i) v).run P w = .ok () (w.setRow g (cur.setIfInBounds (o + i) v)) := by
      rw [hadd, run_store P w _ v _ (h1 v (by simp)), hcell]
      simp [hfro, setCell_eq_setRow w g (o + i) cur t fz v hg]
    have ih := run_storeCells_fz P g o t fz rest (i + 1) (cur.setIfInBounds (o + i) v) (w.setRow g (cur.setIfInBounds (o + i) v)) (setRow_heap w g cur _ t _ hg) (by simp at hl ⊢; omega) (fun j hj => hf j (by simp at hj ⊢; omega)) (fun x hx => h1 x (by simp [hx]))
    simp only [storeCells, Sem.run_bind, hst, Result.andThen_ok, ih, setRow_setRow]
    congr 3
    have e := list_seg_step cur.toList (o + i) v rest (by simp at hl ⊢; omega)
    simpa [Array.toList_setIfInBounds, Nat.add_assoc] using e

theorem Ext.setRow {g : Nat} {arr : Array Value} (hc : cl g = 0) : Ext cl w cl (w.setRow g arr) := Ext.of fun b h1 _ => ⟨by
  by_cases hb : b = g
  · subst hb; omega
  · exact setRow_other w g b arr hb, Nat.le_refl _⟩
theorem size_setRow (w : World) (g : Nat) (arr : Array Value) : (w.setRow g arr).heap.size = w.heap.size := by simp [World.setRow]

/-- What a slot owns is written in place. -/
theorem Rel.write (hX : ∀ u, 0 < X.width u) (hR : Rel B cl m s tm w) {j : Nat} {u u' : X.U} (hlu : s.look j = .own u) {ad : Addr} {n cap : Nat} (hh : tm.getD j Go.undef = .slice (some ad) n cap) {arr : Array Value}
    (hown : OwnAt X cl (w.setRow ad.block arr) u' (some ad) n cap) : Rel B cl m (s.setSlot j (.own u')) tm (w.setRow ad.block arr) := by
  have how : Ow m s tm w (.slot j) ad.block := by simp [Ow, hlu, hh, blk]
  have hm := hR.mine _ _ how
  refine hR.alter hX hlu (by rw [hh]; exact .own hown) rfl (fun b hb => ?_) ⟨hR.fr.os, hR.fr.tape, hR.fr.output, by rw [size_setRow]; exact hR.fr.size, fun b hb hd => ?_⟩ (Ext.setRow hm.2.2) (by rw [size_setRow]; omega) (fun l b hl hb => ?_) fun b hb => hR.top b (by rw [size_setRow] at hb; exact hb)
  · rw [hh] at hb; simp only [blk, Option.some.injEq] at hb; subst hb; exact ⟨how, hm.2.2⟩
  · have hne : b ≠ ad.block := fun e => by subst e; rcases hm.2.1 with k | k; exact hd k; omega
    rw [setRow_other _ _ _ _ hne]; exact hR.fr.block b hb hd
  · have hne : b ≠ ad.block := fun e => hl (hR.sep _ _ _ hb (e ▸ how))
    exact ⟨setRow_other _ _ _ _ hne, (hR.mine l b hb).2.2⟩

theorem flat_set {sz : Nat} : ∀ {vs : List Value} {i : Nat} {c : Value}, (∀ v ∈ vs, oc v sz) → i < vs.length → oc c sz → flat (vs.set i c) = (flat vs).take (i * sz) ++ (c.cells.toList ++ (flat vs).drop (i * sz + sz))
  | [], i, c, _, h, _ => by simp at h
  | x :: r, 0, c, ho, _, hc => by
    have hx := (ho x List.mem_cons_self).1
    simp only [List.set_cons_zero, flat_cons, Nat.zero_mul, List.take_zero, List.nil_append, Nat.zero_add]
    rw [List.drop_append, List.drop_of_length_le (by simp [hx])]
    simp [hx]
  | x :: r, i + 1, c, ho, h, hc => by
    have hx := (ho x List.mem_cons_self).1
    have ih := flat_set (i := i) (fun v hv => ho v (List.mem_cons_of_mem _ hv)) (by simpa using h) hc
    have e1 : (i + 1) * sz = sz + i * sz := by rw [Nat.add_mul]; omega
    simp only [List.set_cons_succ, flat_cons, ih, e1]
    rw [List.take_append, List.take_of_length_le (l := x.cells.toList) (by rw [Array.length_toList, hx]; omega), List.drop_append, List.drop_of_length_le (l := x.cells.toList) (by rw [Array.length_toList, hx]; omega)]
    simp only [Array.length_toList, hx, List.nil_append, List.append_assoc]
    rw [show sz + i * sz - sz = i * sz by omega, show sz + i * sz + sz - sz = i * sz + sz by omega]

/-- Cells written into an array. -/
theorem splice_get {A : List Value} {o k : Nat} {new : List Value} (hk : o + new.length ≤ A.length) (j : Nat) : (A.take o ++ new ++ A.drop (o + new.length))[j]? = if j < o then A[j]? else if j < o + new.length then new[j - o]? else A[j]? := by
  have ho : o ≤ A.length := by omega
  by_cases h1 : j < o
  · rw [if_pos h1, List.append_assoc, List.getElem?_append_left (by simp; omega), List.getElem?_take, if_pos h1]
  · rw [if_neg h1]
    by_cases h2 : j < o + new.length
    · rw [if_pos h2, List.append_assoc, List.getElem?_append_right (by simp; omega), List.getElem?_append_left (by simp; omega)]
      simp [Nat.min_eq_left ho]
    · rw [if_neg h2, List.getElem?_append_right (by simp; omega), List.getElem?_drop]
      congr 1
      simp [Nat.min_eq_left ho]; omega

theorem storeE_sound (hX : XOK X) (hT : TOK P X) {N : Nat} {o : Oper} {t : TypeId} {x y : Operand} {j i sz n bb len : Nat} {td : TD} {u u' : X.U} {v : PV X.U} {get : Nat → PV X.U} (ho : o.op = .store t x y) (hev : s.ev 0 x = .eptr (.slot j) i sz)
    (hty : X.ty t = some ⟨td, n, bb⟩) (hy : s.ev t y = .pv v) (hu : s.own (.slot j) = some u) (hview : X.view u = .sl len get) (hi : i < len)
    (hc : ((AV.pv v).plain && segsW X ((AV.pv v).segs X) == sz && n == sz && X.esz u == sz) = true) (hset : X.set u i v = some u') (hd : dstOk N o (AV.pv (U := X.U) (.tup [])) = true) :
    OpOk P N s o (.pv (.tup [])) (s.setSlot j (.own u')) := by
  simp only [Bool.and_eq_true, beq_iff_eq] at hc
  obtain ⟨⟨⟨hp, hw⟩, hn⟩, hez⟩ := hc
  intro B a w ⟨cl, m, hR, hN, hD⟩ next Q hnext
  have hlu := own_look hu
  have hx := evV hX hR 0 x
  rw [hev] at hx
  have hyv := evV hX hR t y
  rw [hy] at hyv
  generalize hcy : a.eval y = cy at hyv
  generalize hcx : a.eval x = cx at hx
  cases hx with
  | eptr hx =>
  obtain ⟨ad, n0, cap, e0, hin, rfl⟩ := hx _ (lval_of hu)
  have e1 : a.tmps.getD j Go.undef = .slice (some ad) n0 cap := e0
  have hown := hR.env j
  rw [hlu, e1] at hown
  cases hown with
  | own hown =>
  cases hyv with
  | pv hyv =>
  obtain ⟨vs1, g1, g2⟩ := segs_agg hyv hp
  have hsz : cy.cells.size = sz := by rw [← Array.length_toList, g2, ← hw]; exact (VPs.Vs (m := m) (lv := fun _ => none) g1).size
  have hoc : oc cy sz := ⟨hsz, fun z hz => by rw [g2] at hz; exact (VPs.Vs (m := m) (lv := fun _ => none) g1).oc z hz⟩
  obtain ⟨vs, get', q1, q2, q3, q4, q5, q6⟩ := hown
  rw [hview] at q1; cases q1
  rcases q6 with ⟨h, _⟩ | ⟨ad', arr, el, fz, ha, hsp, hcl, hh, hl, hf, hcs⟩
  · cases h
  cases ha
  rw [hez] at q4 hl hf
  have hfl := flat_len q4
  have hcap : (i + 1) * sz ≤ cap * sz := Nat.mul_le_mul_right _ (by omega)
  rw [Nat.add_mul, Nat.one_mul] at hcap
  have hcl2 : cy.cells.toList.length = sz := by simpa using hsz
  have hst := run_storeCells_fz P ad.block (ad.off + i * sz) el fz cy.cells.toList 0 arr w hh (by rw [hcl2]; omega) (fun k hk => hf k (by rw [hcl2] at hk; omega)) (fun z hz => hoc.2 z hz)
  simp only [Nat.add_zero] at hst
  generalize harr : (arr.toList.take (ad.off + i * sz) ++ cy.cells.toList ++ arr.toList.drop (ad.off + i * sz + cy.cells.toList.length)).toArray = arr' at hst
  have hget : ∀ k, arr'[k]? = if k < ad.off + i * sz then arr[k]? else if k < ad.off + i * sz + sz then cy.cells.toList[k - (ad.off + i * sz)]? else arr[k]? := fun k => by
    rw [← harr, List.getElem?_toArray, splice_get (k := 0) (by simp [hsz]; omega), hcl2]; simp
  have hsz' : arr'.size = arr.size := by rw [← harr]; simp; omega
  obtain ⟨info, d, i1, i2, _⟩ := hT.ty t _ hty
  have hrun : (execOp a.eval o).run P w = .ok .skip (w.setRow ad.block arr') := by
    have : (Instr.storeAt t (a.eval x) (a.eval y)).run P w = .ok () (w.setRow ad.block arr') := by
      simp only [Instr.storeAt, hcx, hcy, Instr.sureAddr, Sem.run_bind, Sem.run_pure, Result.andThen_ok, storeVar, sizeOf, typeInfo, run_program, i1, i2, hsz, hn, ne_eq, not_true_eq_false, if_false, addr_add hsp, hst]
    simp [execOp, ho, this]
  refine wp_of_skip hrun (hnext _ _ (Good.put (hR.write hX.wpos hlu e1 ?_) hN hD hd (.pv (.tup .nil)) fun b hb => by simp [blk] at hb))
  obtain ⟨k1, get', k2, k3, k4⟩ := hX.set _ _ _ _ _ _ hset hview (by omega)
  have hext : Ext cl w cl (w.setRow ad.block arr') := Ext.setRow hcl
  refine ⟨vs.set i cy, get', k2, by simpa using q2, fun q hq => ?_, fun z hz => ?_, q5, .inr ⟨ad, arr', el, fz, rfl, hsp, hcl, setRow_heap w _ _ _ _ _ hh, by rw [k1, hez, hsz']; exact hl, fun k hk => hf k (by rw [k1, hez] at hk; exact hk), fun k c hk => ?_⟩⟩
  · have hq' : q < vs.length := by simpa using hq
    rw [List.getElem_set]
    by_cases hqi : i = q
    · subst hqi; rw [if_pos rfl, k3]; exact hyv.mono hext
    · rw [if_neg hqi, k4 q (by omega) (fun e => hqi e.symm)]; exact (q3 q hq').mono hext
  · rw [k1, hez]
    rcases List.mem_or_eq_of_mem_set hz with h | h
    · exact q4 z h
    · rw [h]; exact hoc
  · rw [flat_set q4 (by omega) hoc] at hk
    have hle : i * sz + sz ≤ (flat vs).length := by rw [hfl, q2]; have : (i + 1) * sz ≤ len * sz := Nat.mul_le_mul_right _ (by omega); rw [Nat.add_mul, Nat.one_mul] at this; exact this
    have hk' := splice_get (A := flat vs) (o := i * sz) (k := 0) (new := cy.cells.toList) (by rw [hcl2]; exact hle) k
    rw [hcl2, List.append_assoc] at hk'
    rw [hk'] at hk
    rw [hget]
    by_cases h1 : k < i * sz
    · rw [if_pos h1] at hk; rw [if_pos (by omega)]; exact hcs _ _ hk
    · rw [if_neg h1] at hk; rw [if_neg (by omega)]
      by_cases h2 : k < i * sz + sz
      · rw [if_pos h2] at hk; rw [if_pos (by omega), show ad.off + k - (ad.off + i * sz) = k - i * sz by omega]; exact hk
      · rw [if_neg h2] at hk; rw [if_neg (by omega)]; exact hcs _ _ hk

/-! Appending. -/
theorem run_app_room (w w' : World) (t t' ty e : TypeId) (i : TypeInfo) (d : TypeDesc) (ht : P.underlying t = some (.slice e)) (ht' : P.underlying t' = some d) (hd : ∀ k, d ≠ .int k) (hi : P.info? e = some i) (base : Option Addr) (n cap k : Nat) (x : Value) (news : Array Value)
    (hl : (Builtin.lenOf x).run P w = .ok k w) (hf : (Builtin.firstCells i.size k x).run P w = .ok news w) (hroom : n + k ≤ cap) (hst : ∀ a, base = some a → (storeCells (a.add (n * i.size)) news.toList).run P w = .ok () w') (hn : base = none → w' = w) :
    (Builtin.append_ #[t, t'] ty #[.slice base n cap, x]).run P w = .ok (.slice base (n + k) cap) w' := by
  have hz : ∀ {α : Type} (A B : α), (match d with | .int _ => A | _ => B) = B := fun A B => by cases d <;> first | rfl | exact absurd rfl (hd _)
  cases base with
  | none =>
    have := hn rfl; subst this
    simp [Builtin.append_, run_underlying ht, run_underlying ht', sizeOf, typeInfo, hi, hz, hl, hf, hroom]
  | some a =>
    have := hst a rfl
    simp [Builtin.append_, run_underlying ht, run_underlying ht', sizeOf, typeInfo, hi, hz, hl, hf, hroom, this]

theorem run_app_grow (w : World) (t t' ty e : TypeId) (i : TypeInfo) (z : Value) (d : TypeDesc) (ht : P.underlying t = some (.slice e)) (ht' : P.underlying t' = some d) (hd : ∀ k, d ≠ .int k) (hi : P.info? e = some i) (hz0 : i.zero = some z) (base : Option Addr) (n cap k : Nat) (x : Value) (olds news : Array Value)
    (hl : (Builtin.lenOf x).run P w = .ok k w) (hf : (Builtin.firstCells i.size k x).run P w.drew = .ok news w.drew) (hfo : (Builtin.firstCells i.size n (.slice base n cap)).run P w.drew = .ok olds w.drew) (hg : cap < n + k)
    (h63 : ((n + k : Nat) : Int) ≤ 9223372036854775807) (hfit : Builtin.nextslicecap (n + k) cap * i.bytes ≤ 281474976710656) :
    (Builtin.append_ #[t, t'] ty #[.slice base n cap, x]).run P w =
      .ok (.slice (some ⟨w.heap.size, 0, none⟩) (n + k) (grownCap w (n + k) cap e)) (w.drew.alloc (.cells (olds ++ news ++ Builtin.zeroCells z.cells (grownCap w (n + k) cap e - (n + k))) e)) := by
  have hz : ∀ {α : Type} (A B : α), (match d with | .int _ => A | _ => B) = B := fun A B => by cases d <;> first | rfl | exact absurd rfl (hd _)
  have hn : ¬ (n + k ≤ cap) := by omega
  have h63' : ¬ (9223372036854775807 < ((n : Int) + (k : Int))) := by omega
  have h48' : ¬ (281474976710656 < Builtin.nextslicecap (n + k) cap * i.bytes) := by omega
  simp [Builtin.append_, run_underlying ht, run_underlying ht', sizeOf, typeInfo, zeroValue, hi, hz0, hz, hl, hn, h63', h48', Question.forced, hf, hfo, newRow, grownCap]

theorem more_cells (hX : XOK X) (hT : TOK P X) {a : Act} (hR : Rel B cl m s a.tmps w) {t' : TypeId} {y : Operand} {ef : Eff X.U} {v : X.U} {k : Nat} {get : Nat → PV X.U} (h : appMore X ⟨s.ev, s.own, assoc s.hp⟩ t' y ef = some v) (hview : X.view v = .sl k get) :
    ∃ d vs, P.underlying t' = some d ∧ (∀ q, d ≠ .int q) ∧ (Builtin.lenOf (a.eval y)).run P w = .ok k w ∧ (∀ w0 : World, w0.heap = w.heap → (Builtin.firstCells (X.esz v) k (a.eval y)).run P w0 = .ok (flat vs).toArray w0) ∧
      vs.length = k ∧ (∀ i (h : i < vs.length), VP X cl w (get i) vs[i]) ∧ ∀ v' ∈ vs, oc v' (X.esz v) := by
  unfold appMore at h
  have hsl : ∀ {e : TypeId} {b1 b2 : Nat}, X.ty t' = some ⟨.slice e, b1, b2⟩ → sliceOf X s.own (s.ev t' y) = some v → ∃ d vs, P.underlying t' = some d ∧ (∀ q, d ≠ .int q) ∧ (Builtin.lenOf (a.eval y)).run P w = .ok k w ∧ (∀ w0 : World, w0.heap = w.heap → (Builtin.firstCells (X.esz v) k (a.eval y)).run P w0 = .ok (flat vs).toArray w0) ∧
      vs.length = k ∧ (∀ i (h : i < vs.length), VP X cl w (get i) vs[i]) ∧ ∀ v' ∈ vs, oc v' (X.esz v) := by
    intro e b1 b2 hty hs
    obtain ⟨ao, cap, vs, e1, e2, e3, e4, e5, e6⟩ := slice_cells hX hR hs hview
    refine ⟨_, vs, slice_ty hT hty, by simp, by rw [e1]; simp [Builtin.lenOf], fun w0 hw0 => ?_, e2, e3, e5⟩
    rw [e1]
    cases ao with
    | none =>
      rcases e6 with e6 | ⟨ad, h, _⟩
      · subst e6; simp [Builtin.firstCells, flat]
      · cases h
    | some ad =>
      refine run_firstCells_some w0 _ k ad _ cap (flat vs) (by rw [flat_len e5, e2]) fun j c hj => ?_
      rcases e6 with e6 | ⟨ad', h, hsp, hc⟩
      · subst e6; simp [flat] at hj
      · cases h
        rw [addr_add hsp, cell?_of_heap (w := w) (w' := w0) (by rw [hw0])]; exact hc j c hj
  split at h
  · rename_i s0 hty hev
    obtain ⟨h1, g, h2, h3⟩ := hX.ofStr _ _ h
    rw [hview] at h2; cases h2
    have hy := evV hX hR t' y
    simp only at hev
    rw [hev] at hy
    have hys := str_inv hy
    refine ⟨_, s0.data.toList.map fun b => .int .u8 b.toNat, str_ty hT hty, by simp, by rw [hys]; simp [Builtin.lenOf], fun w0 _ => ?_, by rw [List.length_map]; rfl, fun i hi => ?_, fun v' hv' => ?_⟩
    · rw [hys]
      have e0 : s0.data.toList.map (fun b : UInt8 => Value.int .u8 b.toNat) = (s0.data.toList.map fun b : UInt8 => (b.toNat : Int)).map (Value.int .u8) := by simp
      rw [e0, flat_map_int]
      simp [Builtin.firstCells]
      apply Array.ext'
      simp
    · have hi' : i < s0.data.toList.length := by simpa using hi
      rw [h3 i (by rw [Array.length_toList] at hi'; exact hi')]
      simp only [List.getElem_map, List.getD, List.getElem?_eq_getElem hi', Option.getD_some]
      exact .int _ _
    · obtain ⟨b, _, rfl⟩ := List.mem_map.1 hv'
      rw [h1]; exact oc_one rfl rfl
  · rename_i hty hev
    cases h
    exact hsl hty (by simp only at hev; rw [hev]; rfl)
  · rename_i j hty hev
    refine hsl hty ?_
    simp only at hev
    rw [hev]
    split at h
    · split at h
      · cases h
      · exact h
    · exact h
  · cases h

theorem append_run (hX : XOK X) (hT : TOK P X) {N : Nat} {o : Oper} {x y : Operand} {t t' e : TypeId} {ef : Eff X.U} {u v z : X.U} {n k sz bb : Nat} {get get2 : Nat → PV X.U} {td : TD} {b1 b2 : Nat} {s1 : St X.U}
    (ho : o.op = .call { callee := .builtin .append, args := #[x, y], argTypes := #[t, t'] }) (hty : X.ty t = some ⟨.slice e, b1, b2⟩) (hte : X.ty e = some ⟨td, sz, bb⟩) (hmore : appMore X ⟨s.ev, s.own, assoc s.hp⟩ t' y ef = some v)
    (hu : X.view u = .sl n get) (hv : X.view v = .sl k get2) (hb : (n + k) * bb ≤ 140737488355328) (hc : 0 < bb ∧ 0 < sz ∧ X.esz u = sz ∧ zeroW X e = some sz) (hz : X.app u v = some z) (hd : dstOk N o (AV.own z) = true)
    {a : Act} (hR : Rel B cl m s a.tmps w) (hN : a.tmps.size = N) (hD : a.defers = [] ∧ (N ≤ 1000 → ∀ i, 1000 ≤ i → m i = B.mb i)) {base : Option Addr} {cap : Nat} (hx : a.eval x = .slice base n cap) (hown : OwnAt X cl w u base n cap)
    (hrel : ∀ w' : World, w'.os = w.os → w'.tape = w.tape → w'.output = w.output → w.heap.size ≤ w'.heap.size → (∀ b, b < w.heap.size → (∀ ad, base = some ad → b ≠ ad.block) → w'.heap[b]? = w.heap[b]?) →
      Rel B cl m s1 a.tmps w' ∧ ∀ l b, Ow m s1 a.tmps w' l b → b < w.heap.size ∧ ∀ ad, base = some ad → b ≠ ad.block)
    (hmine : ∀ ad, base = some ad → ad.block < w.heap.size ∧ (B.D ad.block ∨ B.w.heap.size ≤ ad.block) ∧ cl ad.block = 0)
    (next : Act → World → Prop) (Q : Exit → Act → World → Prop) (hnext : ∀ a' w', Good B N (s1.put o.dst (.own z)) a' w' → next a' w') : o.wp P a w next Q := by
  obtain ⟨hb0, hs0, hez, hzw⟩ := hc
  obtain ⟨z1, z2, g, z3, z4, z5⟩ := hX.app _ _ _ _ _ _ _ hz hu hv
  obtain ⟨d, vs2, m1, m2, m3, m4, m5, m6, m7⟩ := more_cells hX hT hR hmore hv
  rw [z2, hez] at m4 m7
  obtain ⟨vs, get', q1, q2, q3, q4, q5, q6⟩ := hown
  rw [hu] at q1; cases q1
  rw [hez] at q4 q6
  obtain ⟨info, dd, i1, i2, i3, i4, _⟩ := hT.ty e _ hte
  simp only at i2 i3
  unfold zeroW at hzw
  cases hze : X.zero e with
  | none => rw [hze] at hzw; simp at hzw
  | some zl =>
  rw [hze] at hzw
  simp only [Option.map_some, Option.some.injEq] at hzw
  obtain ⟨info', zv, vz, j1, j2, j3, j4, _⟩ := hT.zero e _ hze
  rw [i1] at j1; cases j1
  have hzsz : zv.cells.size = sz := by rw [← Array.length_toList, j3, (j4 cl w m (fun _ => none)).size, hzw]
  have hall : ∀ x ∈ vs ++ vs2, oc x sz := fun x hx => by rcases List.mem_append.1 hx with h | h; exact q4 x h; exact m7 x h
  have hk : n + k ≤ 140737488355328 := Nat.le_trans (Nat.le_mul_of_pos_right _ hb0) hb
  have hexec : ∀ (c : Value) (w' : World), (Builtin.append_ #[t, t'] o.type #[.slice base n cap, a.eval y]).run P w = .ok c w' → (execOp a.eval o).run P w = .ok (.value c) w' := fun c w' h => by
    simp only [execOp, ho, resolve, invoke, builtin, Sem.run_bind, Sem.run_pure, Result.andThen_ok, List.map_toArray, List.map_cons, List.map_nil, hx, h]
  have hvp : ∀ (w' : World), Ext cl w cl w' → ∀ i (h : i < (vs ++ vs2).length), VP X cl w' (g i) (vs ++ vs2)[i] := fun w' he i hi => by
    by_cases h : i < vs.length
    · rw [List.getElem_append_left h, z4 i (by omega)]; exact (q3 i h).mono he
    · rw [List.getElem_append_right (by omega)]
      have hi2 : i - vs.length < vs2.length := by simp at hi; omega
      have := z5 (i - n) (by omega)
      rw [show n + (i - n) = i by omega] at this
      rw [this]
      have e : i - n = i - vs.length := by omega
      rw [e]; exact (m6 (i - vs.length) hi2).mono he
  by_cases hroom : n + k ≤ cap
  · rcases q6 with ⟨rfl, hcap⟩ | ⟨ad, arr, el, fz, rfl, hsp, hcl, hh, hl, hf, hcs⟩
    · -- nothing to nothing
      have hr := run_app_room w w t t' o.type e info d (slice_ty hT hty) m1 m2 i1 none n cap k (a.eval y) (flat vs2).toArray m3 (by rw [i2]; exact m4 w rfl) hroom (fun _ h => by cases h) (fun _ => rfl)
      refine wp_of_run (hexec _ _ hr) (hnext _ _ (Good.put (hrel w rfl rfl rfl (Nat.le_refl _) (fun _ _ _ => rfl)).1 hN hD hd (.own ⟨vs ++ vs2, g, z3, by rw [List.length_append, q2, m5], hvp w (Ext.refl _ _), ?_, hroom, .inl ⟨rfl, hcap⟩⟩) fun b hb => by simp [blk] at hb))
      rw [z1, hez]; exact hall
    · have hfl := flat_len q4
      have hfl2 := flat_len m7
      have hcap2 : (n + k) * sz ≤ cap * sz := Nat.mul_le_mul_right _ hroom
      rw [Nat.add_mul] at hcap2
      have hst := run_storeCells_fz P ad.block (ad.off + n * sz) el fz (flat vs2) 0 arr w hh (by rw [hfl2, m5]; omega) (fun q hq => hf q (by rw [hfl2, m5] at hq; omega)) (flat_oc m7)
      simp only [Nat.add_zero] at hst
      generalize harr : (arr.toList.take (ad.off + n * sz) ++ flat vs2 ++ arr.toList.drop (ad.off + n * sz + (flat vs2).length)).toArray = arr' at hst
      have hget : ∀ q, arr'[q]? = if q < ad.off + n * sz then arr[q]? else if q < ad.off + n * sz + k * sz then (flat vs2)[q - (ad.off + n * sz)]? else arr[q]? := fun q => by
        rw [← harr, List.getElem?_toArray, splice_get (k := 0) (by rw [hfl2, m5]; simp; omega), hfl2, m5]; simp
      have hsz' : arr'.size = arr.size := by rw [← harr]; simp [hfl2, m5]; omega
      have hr := run_app_room w (w.setRow ad.block arr') t t' o.type e info d (slice_ty hT hty) m1 m2 i1 (some ad) n cap k (a.eval y) (flat vs2).toArray m3 (by rw [i2]; exact m4 w rfl) hroom
        (fun a' h => by cases h; rw [i2, addr_add hsp]; simpa using hst) (fun h => by cases h)
      have hext : Ext cl w cl (w.setRow ad.block arr') := Ext.setRow hcl
      obtain ⟨r1, r2⟩ := hrel (w.setRow ad.block arr') rfl rfl rfl (by rw [size_setRow]; omega) fun b _ hne => setRow_other _ _ _ _ (hne ad rfl)
      refine wp_of_run (hexec _ _ hr) (hnext _ _ (Good.put r1 hN hD hd (.own ⟨vs ++ vs2, g, z3, by rw [List.length_append, q2, m5], hvp _ hext, by rw [z1, hez]; exact hall, hroom,
        .inr ⟨ad, arr', el, fz, rfl, hsp, hcl, setRow_heap w _ _ _ _ _ hh, by rw [z1, hez, hsz']; exact hl, fun q hq => hf q (by rw [z1, hez] at hq; exact hq), fun q c hq => ?_⟩⟩) fun b hb => ?_))
      · rw [flat_append] at hq
        rw [hget]
        by_cases h1 : q < (flat vs).length
        · rw [List.getElem?_append_left h1] at hq
          rw [if_pos (by rw [hfl, q2] at h1; omega)]; exact hcs _ _ hq
        · rw [List.getElem?_append_right (by omega)] at hq
          have := (List.getElem?_eq_some_iff.mp hq).1
          rw [hfl, q2] at h1 hq
          rw [hfl, q2, hfl2, m5] at this
          rw [if_neg (by omega), if_pos (by omega), show ad.off + q - (ad.off + n * sz) = q - n * sz by omega]; exact hq
      · simp only [blk, Option.some.injEq] at hb; subst hb
        have hm := hmine ad rfl
        exact ⟨fun l hl' => (r2 l _ hl').2 ad rfl rfl, by rw [size_setRow]; exact hm.1, hm.2⟩
  · have hold : (Builtin.firstCells info.size n (.slice base n cap)).run P w.drew = .ok (flat vs).toArray w.drew := by
      rw [i2]
      rcases q6 with ⟨rfl, hcap⟩ | ⟨ad, arr, el, fz, rfl, hsp, hcl, hh, hl, hf, hcs⟩
      · have : vs = [] := List.eq_nil_of_length_eq_zero (by omega)
        subst this
        simp [Builtin.firstCells, flat]
      · refine run_firstCells_some w.drew _ n ad _ cap (flat vs) (by rw [flat_len q4, q2]) fun q c hq => ?_
        have hdr : w.drew.heap = w.heap := rfl
        rw [addr_add hsp, cell?_of_heap (w := w) (by rw [hdr])]
        simp [World.cell?, hh, hcs q c hq]
    have hr := run_app_grow w t t' o.type e info zv d (slice_ty hT hty) m1 m2 i1 j2 base n cap k (a.eval y) (flat vs).toArray (flat vs2).toArray m3 (by rw [i2]; exact m4 w.drew rfl) hold (by omega) (by omega) (by rw [i3]; exact growslice_fits (by omega) hb)
    obtain ⟨r1, r2⟩ := hrel (w.drew.alloc (.cells ((flat vs).toArray ++ (flat vs2).toArray ++ Builtin.zeroCells zv.cells (grownCap w (n + k) cap e - (n + k))) e)) rfl rfl rfl (by simp) fun b hb _ => heap_alloc_old w.drew _ b hb
    have hge := grownCap_ge w (n + k) cap e
    have hext : Ext cl w cl (w.drew.alloc (.cells ((flat vs).toArray ++ (flat vs2).toArray ++ Builtin.zeroCells zv.cells (grownCap w (n + k) cap e - (n + k))) e)) :=
      Ext.of fun b _ ⟨_, hv⟩ => ⟨heap_alloc_old w.drew _ b (Array.getElem?_eq_some_iff.mp hv).1, Nat.le_refl _⟩
    have htop : cl w.heap.size = 0 := hR.top _ (Nat.le_refl _)
    refine wp_of_run (hexec _ _ hr) (hnext _ _ (Good.put r1 hN hD hd (.own ⟨vs ++ vs2, g, z3, by rw [List.length_append, q2, m5], hvp _ hext, by rw [z1, hez]; exact hall, hge,
      .inr ⟨_, _, _, _, rfl, rfl, htop, heap_alloc_new w.drew _, ?_, fun q _ h => by simp at h, fun q c hq => ?_⟩⟩) fun b hb => ?_))
    · rw [z1, hez]
      simp only [Array.size_append, List.size_toArray, size_zeroCells, hzsz, flat_len q4, flat_len m7, q2, m5, ← Nat.add_mul]
      rw [show n + k + (grownCap w (n + k) cap e - (n + k)) = grownCap w (n + k) cap e by omega]; simp
    · rw [flat_append] at hq
      have hlt := (List.getElem?_eq_some_iff.mp hq).1
      rw [Nat.zero_add, Array.getElem?_append_left (by simpa using hlt)]
      simpa using hq
    · simp only [blk, Option.some.injEq] at hb; subst hb
      exact ⟨fun l hl => by have := (r2 l _ hl).1; simp at this, by simp, .inr hR.fr.size, htop⟩

theorem append_sound (hX : XOK X) (hT : TOK P X) {N : Nat} {o : Oper} {x y : Operand} {t t' e : TypeId} {ef : Eff X.U} {u v z : X.U} {n k sz bb : Nat} {get get2 : Nat → PV X.U} {td : TD} {b1 b2 : Nat}
    (ho : o.op = .call { callee := .builtin .append, args := #[x, y], argTypes := #[t, t'] }) (hbase : appBase X ⟨s.ev, s.own, assoc s.hp⟩ t x = some (u, ef)) (hty : X.ty t = some ⟨.slice e, b1, b2⟩) (hte : X.ty e = some ⟨td, sz, bb⟩)
    (hmore : appMore X ⟨s.ev, s.own, assoc s.hp⟩ t' y ef = some v) (hu : X.view u = .sl n get) (hv : X.view v = .sl k get2) (hb : (n + k) * bb ≤ 140737488355328) (hc : 0 < bb ∧ 0 < sz ∧ X.esz u = sz ∧ zeroW X e = some sz) (hz : X.app u v = some z)
    (hd : dstOk N o (AV.own z) = true) : OpOk P N s o (.own z) (s.eff ef) := by
  intro B a w ⟨cl, m, hR, hN, hD⟩ next Q hnext
  unfold appBase at hbase
  split at hbase
  · cases hnil : X.nil t with
    | none => rw [hnil] at hbase; simp at hbase
    | some u0 =>
      rw [hnil] at hbase
      simp only [Option.map_some, Option.some.injEq, Prod.mk.injEq] at hbase
      obtain ⟨rfl, rfl⟩ := hbase
      obtain ⟨get0, hg⟩ := hX.nil _ _ hnil
      rw [hg] at hu; cases hu
      exact append_run hX hT ho hty hte hmore hg hv hb hc hz hd hR hN hD (base := none) (cap := 0) rfl ⟨[], _, hg, rfl, (fun i h => nomatch h), (fun v h => nomatch h), Nat.le_refl _, .inl ⟨rfl, rfl⟩⟩
        (fun w' h1 h2 h3 h4 h5 => ⟨hR.grow hX.wpos h1 h2 h3 h4 fun b hb => h5 b hb fun _ h => (nomatch h), fun l b hl => ⟨(hR.mine l b (grow_ow hR (fun b hb => h5 b hb fun _ h => (nomatch h)) hl)).1, fun _ h => nomatch h⟩⟩) (fun _ h => nomatch h) next Q hnext
  · rename_i i
    split at hbase
    case h_2 => cases hbase
    rename_i j hev
    cases hown : s.own (.slot j) with
    | none => simp only [hown] at hbase; simp at hbase
    | some u0 =>
      simp only [hown, Option.map_some, Option.some.injEq, Prod.mk.injEq] at hbase
      obtain ⟨rfl, rfl⟩ := hbase
      have hlu := own_look hown
      have hv0 := evV hX hR t (.tmp i)
      simp only at hev
      rw [hev] at hv0
      have hc0 : a.eval (.tmp i) = a.tmps.getD j Go.undef := by
        generalize a.eval (.tmp i) = c0 at hv0
        cases hv0 with
        | bor hv0 => exact hv0 _ (lval_of hown)
      have he := hR.env j
      rw [hlu] at he
      generalize hcj : a.tmps.getD j Go.undef = cj at he hc0
      cases he with
      | @own _ base n0 cap hO =>
        have hn0 : n0 = n := by obtain ⟨_, _, q1, _⟩ := hO; rw [hu] at q1; cases q1; rfl
        subst hn0
        have how : ∀ ad, base = some ad → Ow m s a.tmps w (.slot j) ad.block := fun ad had => by subst had; simp [Ow, hlu, hcj, blk]
        have hno : ∀ (w' : World), (∀ b, b < w.heap.size → (∀ ad, base = some ad → b ≠ ad.block) → w'.heap[b]? = w.heap[b]?) → ∀ b, b < w.heap.size → ¬ Ow m s a.tmps w (.slot j) b → w'.heap[b]? = w.heap[b]? :=
          fun w' h5 b hb hnb => h5 b hb fun ad had e => hnb (e ▸ how ad had)
        exact append_run (s1 := s.setSlot j .undef) hX hT ho hty hte hmore hu hv hb hc hz hd hR hN hD hc0 hO
          (fun w' h1 h2 h3 h4 h5 => ⟨hR.take hX.wpos hlu h1 h2 h3 h4 (hno w' h5), fun l b hl => by
            obtain ⟨g1, g2⟩ := take_ow hX.wpos hR hlu h4 (hno w' h5) hl
            exact ⟨(hR.mine l b g1).1, fun ad had e => g2 (hR.sep _ _ _ g1 (e ▸ how ad had))⟩⟩) (fun ad had => hR.mine _ _ (how ad had)) next Q hnext
  · cases hbase

theorem make_sound (hX : XOK X) (hT : TOK P X) {N : Nat} {o : Oper} {t e : TypeId} {l c : Operand} {k1 k2 : IntKind} {n n' : Int} {td : TD} {b b1 b2 : Nat} {u : X.U} (ho : o.op = .makeSlice t l c) (hl : s.ev 3 l = .pv (.int k1 n)) (hcc : s.ev 3 c = .pv (.int k2 n'))
    (hty : X.ty t = some ⟨.slice e, b1, b2⟩) (hte : X.ty e = some ⟨td, 1, b⟩) (hn : 0 ≤ n ∧ n ≤ n' ∧ n' * (b : Int) ≤ 140737488355328) (hb : 0 < b) (hz : X.zeros t n.toNat = some u) (hez : X.esz u = 1 ∧ zeroW X e = some 1)
    (hd : dstOk N o (AV.own u) = true) : OpOk P N s o (.own u) s := by
  intro B a w ⟨cl, m, hR, hN, hD⟩ next Q hnext
  obtain ⟨get, e', td', _, _, z, g1, g2, g3, g4, g5⟩ := hX.zeros _ _ _ hz
  rw [hty] at g1; cases g1
  obtain ⟨info, zv, vz, j1, j2, j3, j4, _⟩ := hT.zero e _ g3
  obtain ⟨info', dd, i1, i2, i3, i4, _⟩ := hT.ty e _ hte
  rw [j1] at i1; cases i1
  simp only at i2 i3
  have h4 := j4 cl w m (fun _ => none)
  have hzw := hez.2
  unfold zeroW at hzw
  rw [g3] at hzw
  simp only [Option.map_some, Option.some.injEq] at hzw
  cases h4 with
  | @cons _ c0 _ _ f1 f2 f3 =>
  cases f3
  cases f1 with
  | pv f1 =>
  have hw1 : (AV.pv z).segW X = 1 := by simpa [segsW] using hzw
  rw [hw1] at f2
  have hcells : zv.cells.toList = c0.cells.toList := by rw [j3]; simp [flat]
  have hcell1 : ∃ q, c0.cells = #[q] := by
    have := f2.1
    exact Array.size_eq_one_iff.1 this
  obtain ⟨q, hq⟩ := hcell1
  have hzc : zv.cells = #[q] := by apply Array.ext'; rw [hcells, hq]
  have el := int_inv (by have := evV hX hR 3 l; rw [hl] at this; exact this)
  have ec := int_inv (by have := evV hX hR 3 c; rw [hcc] at this; exact this)
  have hn'b : n' ≤ n' * (b : Int) := by
    have : (1 : Int) ≤ b := by omega
    have := Int.mul_le_mul_of_nonneg_left this (show (0 : Int) ≤ n' by omega)
    simpa using this
  have hr := run_make (P := P) w t e info zv (slice_ty hT hty) j1 j2 k1 k2 n n' hn.1 hn.2.1 (by rw [i3, Int.mul_comm]; omega) (by omega)
  rw [i2, Nat.mul_one] at hr
  refine wp_of_run (by simp [execOp, ho, el, ec, hr]) (hnext _ _ (fresh_good (n := n.toNat) (cap := n'.toNat) (w' := w.alloc (.cells (madeCells zv.cells n'.toNat) e)) hX.wpos hR hN hD rfl rfl rfl rfl hd ?_))
  have hext : Ext cl w cl (w.alloc (.cells (madeCells zv.cells n'.toNat) e)) := Ext.of fun b _ ⟨_, hv⟩ => ⟨heap_alloc_old w _ b (Array.getElem?_eq_some_iff.mp hv).1, Nat.le_refl _⟩
  refine ⟨List.replicate n.toNat c0, get, g4, by simp, fun i hi => ?_, fun v hv => ?_, by omega, .inr ⟨_, _, _, _, rfl, rfl, hR.top _ (Nat.le_refl _), heap_alloc_new w _, by rw [size_madeCells, hez.1]; simp, fun j _ h => by simp at h, fun j c hj => ?_⟩⟩
  · rw [g5 i (by simpa using hi)]
    simp only [List.getElem_replicate]; exact f1.mono hext
  · rw [List.eq_of_mem_replicate hv, hez.1]; exact f2
  · have hfr : ∀ k, flat (List.replicate k c0) = List.replicate k q := by
      intro k
      induction k with
      | zero => rfl
      | succ k ih => rw [List.replicate_succ, flat_cons, ih, hq]; rfl
    rw [hfr, List.getElem?_replicate] at hj
    split at hj
    · rename_i hjn
      cases hj
      have hjn' : j < n'.toNat := by omega
      simp [madeCells, hzc, hjn', Nat.mod_one]
    · cases hj

theorem toBytes_sound (hX : XOK X) (hT : TOK P X) {N : Nat} {o : Oper} {src dst e : TypeId} {x : Operand} {str : ByteArray} {b1 b2 b3 b4 b5 b6 : Nat} {u : X.U} (ho : o.op = .convert src dst x) (hx : s.ev src x = .pv (.str str)) (hs : X.ty src = some ⟨.str, b1, b2⟩)
    (hty : X.ty dst = some ⟨.slice e, b3, b4⟩) (hte : X.ty e = some ⟨.int .u8, b5, b6⟩) (hu : X.ofStr str = some u) (hd : dstOk N o (AV.own u) = true) : OpOk P N s o (.own u) s := by
  intro B a w ⟨cl, m, hR, hN, hD⟩ next Q hnext
  obtain ⟨h1, g, h2, h3⟩ := hX.ofStr _ _ hu
  have ex := str_inv (by have := evV hX hR src x; rw [hx] at this; exact this)
  have hr := run_bytes_of_string (P := P) w src dst e str (str_ty hT hs) (slice_ty hT hty) (int_ty hT hte)
  have hge := grownCap_ge w str.size 0 e
  refine wp_of_run (by simp [execOp, ho, ex, hr]) (hnext _ _ (fresh_good (n := str.size) (cap := grownCap w str.size 0 e) (w' := w.drew.alloc (.cells (bytesRow str (grownCap w str.size 0 e)) e ((bytesRow str (grownCap w str.size 0 e)).size, (bytesRow str (grownCap w str.size 0 e)).size + 1))) hX.wpos hR hN hD rfl rfl rfl rfl hd ?_))
  have hsz : (bytesRow str (grownCap w str.size 0 e)).size = grownCap w str.size 0 e := by
    have : str.data.size = str.size := rfl
    simp [bytesRow, this]; omega
  refine ⟨str.data.toList.map fun b => .int .u8 b.toNat, g, h2, by rw [List.length_map]; rfl, fun i hi => ?_, fun v hv => ?_, hge, .inr ⟨_, _, _, _, rfl, rfl, hR.top _ (Nat.le_refl _), heap_alloc_new w.drew _, by rw [hsz, h1]; simp, fun j hj h => ?_, fun j c hj => ?_⟩⟩
  · have hi' : i < str.data.toList.length := by simpa using hi
    rw [h3 i (by rw [Array.length_toList] at hi'; exact hi')]
    simp only [List.getElem_map, List.getD, List.getElem?_eq_getElem hi', Option.getD_some]
    exact .int _ _
  · obtain ⟨b, _, rfl⟩ := List.mem_map.1 hv
    rw [h1]; exact oc_one rfl rfl
  · simp only at h; rw [h1] at hj; rw [hsz] at h; simp at hj; omega
  · have e0 : str.data.toList.map (fun b : UInt8 => Value.int .u8 b.toNat) = (str.data.toList.map fun b : UInt8 => (b.toNat : Int)).map (Value.int .u8) := by simp
    rw [e0, flat_map_int] at hj
    have hlt := (List.getElem?_eq_some_iff.mp hj).1
    simp only [List.length_map, Array.length_toList] at hlt
    simp only [bytesRow, Nat.zero_add]
    rw [Array.getElem?_append_left (by simpa using hlt)]
    simpa using hj

/-! Copying. -/
theorem flat_take1 : ∀ {q : List Value} {n : Nat}, (∀ v ∈ q, oc v 1) → flat (q.take n) = (flat q).take n ∧ flat (q.drop n) = (flat q).drop n
  | [], n, _ => by simp [flat]
  | x :: r, 0, _ => by simp [flat_nil]
  | x :: r, n + 1, h => by
    have hx := (h x List.mem_cons_self).1
    obtain ⟨c, hc⟩ : ∃ c, x.cells.toList = [c] := List.length_eq_one_iff.mp (by rw [Array.length_toList]; exact hx)
    have ih := flat_take1 (q := r) (n := n) fun v hv => h v (List.mem_cons_of_mem _ hv)
    simp only [List.take_succ_cons, List.drop_succ_cons, flat_cons, hc, List.singleton_append, ih.1, ih.2, and_self]
theorem run_copy_fz (w : World) (dT sT ty elem : TypeId) (g o dLen dCap sLen : Nat) (src : Value) (el : TypeId) (fz : Nat × Nat) (cur : Array Value) (cs : List Value) (hu : P.underlying dT = some (.slice elem)) (hs : (P.info? elem).map (·.size) = some 1)
    (hl : (Builtin.lenOf src).run P w = .ok sLen w) (hn : cs.length = Nat.min sLen dLen) (hfc : (Builtin.firstCells 1 cs.length src).run P w = .ok cs.toArray w) (hg : w.heap[g]? = some (.cells cur el fz)) (hroom : o + cs.length ≤ cur.size)
    (hf : ∀ j, j < o + cs.length → ¬ (fz.1 ≤ j ∧ j < fz.2)) (h1 : ∀ v ∈ cs, v.oneCell' = true) :
    (Builtin.copy_ #[dT, sT] ty #[.slice (some ⟨g, o, none⟩) dLen dCap, src]).run P w = .ok (goInt cs.length) (w.setRow g (cur.toList.take o ++ cs ++ cur.toList.drop (o + cs.length)).toArray) := by
  have hst := run_storeCells_fz P g o el fz cs 0 cur w hg (by simpa using hroom) (by simpa using hf) h1
  simp only [Nat.add_zero] at hst
  cases hq : P.info? elem with
  | none => simp [hq] at hs
  | some i =>
    have hi : i.size = 1 := by simpa [hq] using hs
    simp [Builtin.copy_, run_underlying hu, hl, sizeOf, typeInfo, hq, hi, ← hn, hfc, hst]
theorem run_copy_zero (w : World) (dT sT ty elem : TypeId) (d : Option Addr) (dLen dCap sLen : Nat) (src : Value) (hu : P.underlying dT = some (.slice elem)) (hs : (P.info? elem).map (·.size) = some 1)
    (hl : (Builtin.lenOf src).run P w = .ok sLen w) (hn : Nat.min sLen dLen = 0) (hfc : (Builtin.firstCells 1 0 src).run P w = .ok #[] w) :
    (Builtin.copy_ #[dT, sT] ty #[.slice d dLen dCap, src]).run P w = .ok (goInt 0) w := by
  cases hq : P.info? elem with
  | none => simp [hq] at hs
  | some i =>
    have hi : i.size = 1 := by simpa [hq] using hs
    cases d <;> simp [Builtin.copy_, run_underlying hu, hl, sizeOf, typeInfo, hq, hi, hn, hfc, storeCells]
theorem copyTo_own {A : Acc X} {t : TypeId} {x : Operand} {j lo n : Nat} {u : X.U} (h : copyTo X A t x = some (j, u, lo, n)) : A.own (.slot j) = some u := by
  unfold copyTo at h
  split at h
  · split at h
    case h_2 => cases h
    rename_i hu
    split at h
    case h_2 => cases h
    cases h; exact hu
  · split at h
    case h_2 => cases h
    rename_i hu
    split at h
    case isFalse => cases h
    cases h; exact hu
  · cases h
theorem copyTo_sound (hX : XOK X) {a : Act} (hR : Rel B cl m s a.tmps w) {t : TypeId} {x : Operand} {j lo n : Nat} {u : X.U} (h : copyTo X ⟨s.ev, s.own, assoc s.hp⟩ t x = some (j, u, lo, n)) :
    s.own (.slot j) = some u ∧ ∃ base N cap get c2 cap2, a.tmps.getD j Go.undef = .slice base N cap ∧ X.view u = .sl N get ∧ OwnAt X cl w u base N cap ∧ lo + n ≤ N ∧ a.eval x = .slice c2 n cap2 ∧ ∀ ad, base = some ad → 0 < n → c2 = some (ad.add lo) := by
  unfold copyTo at h
  have hx := evV hX hR t x
  simp only at h
  generalize hc : a.eval x = c at hx
  have own_of : ∀ {j : Nat} {u : X.U}, s.own (.slot j) = some u → ∃ base N cap, a.tmps.getD j Go.undef = .slice base N cap ∧ OwnAt X cl w u base N cap := fun {j u} hu => by
    have hj := hR.env j
    rw [own_look hu] at hj
    generalize a.tmps.getD j Go.undef = c at hj
    cases hj with | own h => exact ⟨_, _, _, rfl, h⟩
  split at h
  · rename_i j' hev
    split at h
    case h_2 => cases h
    rename_i u' hu
    split at h
    case h_2 => cases h
    rename_i n' get hview
    cases h
    rw [hev] at hx
    obtain ⟨base, N, cap, e1, e2⟩ := own_of hu
    cases hx with
    | bor hx =>
    have e3 := hx _ (lval_of hu)
    have e4 : c = .slice base N cap := by rw [e3]; exact e1
    have hn : N = n := by obtain ⟨_, _, q1, _⟩ := e2; rw [hview] at q1; cases q1; rfl
    subst hn
    exact ⟨hu, base, N, cap, get, base, cap, e1, hview, e2, by omega, by rw [e4], fun ad h _ => by rw [h]; obtain ⟨b0, o0, s0⟩ := ad; cases s0 <;> rfl⟩
  · rename_i j' lo' hi sz hev
    split at h
    case h_2 => cases h
    rename_i u' hu
    split at h
    case isFalse => cases h
    rename_i hsz
    cases h
    subst hsz
    rw [hev] at hx
    obtain ⟨base, N, cap, e1, e2⟩ := own_of hu
    cases hx with
    | sub hx =>
    obtain ⟨a', n', cap', k1, k2, k3, rfl⟩ := hx _ (lval_of hu)
    have k4 : (Value.slice base N cap) = .slice a' n' cap' := by rw [← e1]; exact k1
    cases k4
    obtain ⟨vs, get, q1, q2, q3, q4, q5, q6⟩ := id e2
    refine ⟨hu, base, N, cap, get, _, _, e1, q1, e2, by omega, rfl, fun ad h hn => ?_⟩
    rw [if_neg (by omega), h, Nat.mul_one]; rfl
  · cases h
theorem copy_sound (hX : XOK X) (hT : TOK P X) {N : Nat} {o : Oper} {x y : Operand} {t t' e : TypeId} {u v u' : X.U} {j lo n k bb b1 b2 : Nat} {td : TD} {get2 : Nat → PV X.U}
    (ho : o.op = .call { callee := .builtin .copy, args := #[x, y], argTypes := #[t, t'] }) (hto : copyTo X ⟨s.ev, s.own, assoc s.hp⟩ t x = some (j, u, lo, n)) (hsl : sliceOf X s.own (s.ev t' y) = some v) (hty : X.ty t = some ⟨.slice e, b1, b2⟩) (hte : X.ty e = some ⟨td, 1, bb⟩)
    (hv : X.view v = .sl k get2) (hc : X.esz u = 1 ∧ X.esz v = 1) (hov : X.over u lo (min k n) v = some u') (hd : dstOk N o (AV.pv (U := X.U) (.int .i64 ((min k n : Nat) : Int))) = true) :
    OpOk P N s o (.pv (.int .i64 ((min k n : Nat) : Int))) (s.setSlot j (.own u')) := by
  intro B a w ⟨cl, m, hR, hN, hD⟩ next Q hnext
  obtain ⟨hu, base, NN, cap, get, c2, cap2, e1, hview, hown, hlo, hx, hc2⟩ := copyTo_sound hX hR hto
  obtain ⟨ao, scap, vs2, s1, s2, s3, s4, s5, s6⟩ := slice_cells hX hR hsl hv
  have hlu := own_look hu
  obtain ⟨hez, hez2⟩ := hc
  rw [hez2] at s5
  obtain ⟨vs, get', q1, q2, q3, q4, q5, q6⟩ := hown
  rw [hview] at q1; cases q1
  rw [hez] at q4 q6
  obtain ⟨k1, get', k2, k3, k4⟩ := hX.over _ _ _ _ _ _ _ _ _ hov hview hv (by omega) (Nat.min_le_left _ _)
  generalize hmm : min k n = mm at *
  have hm1 : mm ≤ n := by omega
  have hm2 : mm ≤ k := by omega
  obtain ⟨info, d, i1, i2, _⟩ := hT.ty e _ hte
  have hinfo : (P.info? e).map (·.size) = some 1 := by rw [i1]; simpa using i2
  have hlen : (Builtin.lenOf (a.eval y)).run P w = .ok k w := by rw [s1]; simp [Builtin.lenOf]
  have hfl2 := flat_len s5
  have hft := flat_take1 (n := mm) s5
  have hcl : ((flat vs2).take mm).length = mm := by rw [List.length_take, hfl2, s2]; omega
  have hfc : (Builtin.firstCells 1 mm (a.eval y)).run P w = .ok ((flat vs2).take mm).toArray w := by
    rw [s1]
    rcases s6 with e6 | ⟨ad, h, hsp, hcell⟩
    · subst e6
      have : mm = 0 := by simp at s2; omega
      subst this
      cases ao <;> simp [Builtin.firstCells, loadCells, loadCellsFrom]
    · subst h
      refine run_firstCells_some w _ mm ad _ scap ((flat vs2).take mm) (by rw [hcl]; omega) fun q c hq => ?_
      rw [addr_add hsp]
      rw [List.getElem?_take] at hq
      split at hq
      · exact hcell _ _ hq
      · cases hq
  have hexec : ∀ (c : Value) (w' : World), (Builtin.copy_ #[t, t'] o.type #[.slice c2 n cap2, a.eval y]).run P w = .ok c w' → (execOp a.eval o).run P w = .ok (.value c) w' := fun c w' h => by
    simp only [execOp, ho, resolve, invoke, builtin, Sem.run_bind, Sem.run_pure, Result.andThen_ok, List.map_toArray, List.map_cons, List.map_nil, hx, h]
  have hall : ∀ z ∈ vs.take lo ++ (vs2.take mm ++ vs.drop (lo + mm)), oc z 1 := fun z hz => by
    rcases List.mem_append.1 hz with h | h
    · exact q4 z (List.mem_of_mem_take h)
    · rcases List.mem_append.1 h with h | h
      · exact s5 z (List.mem_of_mem_take h)
      · exact q4 z (List.mem_of_mem_drop h)
  have hlen' : (vs.take lo ++ (vs2.take mm ++ vs.drop (lo + mm))).length = NN := by simp; omega
  have hvp : ∀ w' : World, Ext cl w cl w' → ∀ i (h : i < (vs.take lo ++ (vs2.take mm ++ vs.drop (lo + mm))).length), VP X cl w' (get' i) (vs.take lo ++ (vs2.take mm ++ vs.drop (lo + mm)))[i] := fun w' he i hi => by
    have l1 : (vs.take lo).length = lo := by rw [List.length_take]; omega
    have l2 : (vs2.take mm).length = mm := by rw [List.length_take]; omega
    by_cases h1 : i < lo
    · rw [List.getElem_append_left (by omega), k4 i (by omega) (by omega), List.getElem_take]; exact (q3 i (by omega)).mono he
    · rw [List.getElem_append_right (by omega)]
      by_cases h2 : i < lo + mm
      · rw [List.getElem_append_left (by omega), k3 i (by omega) h2, List.getElem_take]
        have := s3 (i - lo) (by omega)
        simp only [l1]; exact this.mono he
      · rw [List.getElem_append_right (by omega), k4 i (by omega) (by omega), List.getElem_drop]
        have := q3 i (by omega)
        have e : lo + mm + (i - (vs.take lo).length - (vs2.take mm).length) = i := by omega
        simp only [e]; exact this.mono he
  have hflat : flat (vs.take lo ++ (vs2.take mm ++ vs.drop (lo + mm))) = (flat vs).take lo ++ (flat vs2).take mm ++ (flat vs).drop (lo + ((flat vs2).take mm).length) := by
    rw [flat_append, flat_append, (flat_take1 q4).1, hft.1, (flat_take1 q4).2, hcl, List.append_assoc]
  by_cases h0 : mm = 0
  · subst h0
    have hr := run_copy_zero (P := P) w t t' o.type e c2 n cap2 k (a.eval y) (slice_ty hT hty) hinfo hlen hmm (by simpa using hfc)
    refine wp_of_run (hexec _ _ hr) (hnext _ _ (Good.put (?_ : Rel B cl m (s.setSlot j (.own u')) a.tmps w) hN hD hd (.pv (.int _ _)) fun b hb => by simp [blk] at hb))
    have hsame : OwnAt X cl w u' base NN cap := by
      refine ⟨vs, get', k2, q2, fun i hi => by rw [k4 i (by omega) (by omega)]; exact q3 i hi, by rw [k1, hez]; exact q4, q5, ?_⟩
      rw [k1, hez]; exact q6
    refine hR.alter hX.wpos hlu (by rw [e1]; exact .own hsame) rfl (fun b hb => ?_) hR.fr (Ext.refl _ _) (Nat.le_refl _) (fun l b _ hb => ⟨rfl, (hR.mine l b hb).2.2⟩) hR.top
    have : Ow m s a.tmps w (.slot j) b := by
      rw [e1] at hb
      simp only [Ow, hlu, e1]
      cases base with
      | none => simp [blk] at hb
      | some ad => simpa [blk] using hb
    exact ⟨this, (hR.mine _ _ this).2.2⟩
  · rcases q6 with ⟨rfl, hcap⟩ | ⟨ad, arr, el, fz, rfl, hsp, hclb, hh, hl, hf, hcs⟩
    · omega
    have hc2' := hc2 ad rfl (by omega)
    rw [Nat.mul_one] at hl
    have hfl := flat_len q4
    have hr := run_copy_fz (P := P) w t t' o.type e ad.block (ad.off + lo) n cap2 k (a.eval y) el fz arr ((flat vs2).take mm) (slice_ty hT hty) hinfo hlen (by rw [hcl]; exact hmm.symm) (by rw [hcl]; exact hfc) hh (by rw [hcl]; omega)
      (fun q hq => hf q (by rw [hcl] at hq; omega)) (fun z hz => flat_oc s5 z (List.mem_of_mem_take hz))
    have hadd : ad.add lo = ⟨ad.block, ad.off + lo, none⟩ := by rw [addr_add hsp]
    rw [← hadd, ← hc2', hcl] at hr
    generalize harr : (arr.toList.take (ad.off + lo) ++ (flat vs2).take mm ++ arr.toList.drop (ad.off + lo + mm)).toArray = arr' at hr
    have hget : ∀ q, arr'[q]? = if q < ad.off + lo then arr[q]? else if q < ad.off + lo + mm then ((flat vs2).take mm)[q - (ad.off + lo)]? else arr[q]? := fun q => by
      have := splice_get (A := arr.toList) (o := ad.off + lo) (k := 0) (new := (flat vs2).take mm) (by rw [hcl, Array.length_toList]; omega) q
      rw [hcl] at this
      rw [← harr, List.getElem?_toArray, this]; simp
    have hsz' : arr'.size = arr.size := by rw [← harr]; simp [hcl] ; omega
    have hext : Ext cl w cl (w.setRow ad.block arr') := Ext.setRow hclb
    refine wp_of_run (hexec _ _ hr) (hnext _ _ (Good.put (hR.write hX.wpos hlu e1 ?_) hN hD hd (.pv (.int _ _)) fun b hb => by simp [blk] at hb))
    refine ⟨_, get', k2, hlen', hvp _ hext, by rw [k1, hez]; exact hall, q5, .inr ⟨ad, arr', el, fz, rfl, hsp, hclb, setRow_heap w _ _ _ _ _ hh, by rw [k1, hez, hsz', Nat.mul_one]; exact hl, fun q hq => hf q (by rw [k1, hez] at hq; omega), fun q c hq => ?_⟩⟩
    rw [hflat, splice_get (A := flat vs) (o := lo) (k := 0) (new := (flat vs2).take mm) (by rw [hcl, hfl, q2]; omega), hcl] at hq
    rw [hget]
    by_cases h1 : q < lo
    · rw [if_pos h1] at hq; rw [if_pos (by omega)]; exact hcs _ _ hq
    · rw [if_neg h1] at hq; rw [if_neg (by omega)]
      by_cases h2 : q < lo + mm
      · rw [if_pos h2] at hq; rw [if_pos (by omega), show ad.off + q - (ad.off + lo) = q - lo by omega]; exact hq
      · rw [if_neg h2] at hq; rw [if_neg (by omega)]; exact hcs _ _ hq

theorem ownK_sound (hX : XOK X) (hT : TOK P X) {N : Nat} {tk : Takes} {o : Oper} {K : AV X.U → Eff X.U → Option ρ} {r : ρ} (h : ownK X ⟨s.ev, s.own, assoc s.hp⟩ tk o K = some r) :
    ∃ v e, K v e = some r ∧ (∀ id c b, e ≠ .box id c b) ∧ (∀ j v', e = .slot j v' → (∃ u, s.own (.slot j) = some u ∧ ∀ u', v' = .own u' → hdr X (.own u') = hdr X (.own u)) ∧ v'.at? = none) ∧ (dstOk N o v = true → OpOk P N s o v (s.eff e)) := by
  unfold ownK at h
  split at h
  · rename_i i hop
    simp only at h
    have hev : s.ev 0 (.tmp i) = s.rd i := rfl
    rw [hev] at h
    split at h
    · rename_i j hrd
      split at h
      case h_2 => cases h
      rename_i u hu
      exact ⟨_, _, h, fun _ _ _ => by simp, (fun _ _ h => by cases h; exact ⟨⟨_, hu, fun _ h => nomatch h⟩, rfl⟩), fun hd => assignOwn2_sound hX.wpos hop hrd hu hd⟩
    · cases h
    · rename_i v hnb1 hnb2
      refine ⟨_, _, h, fun _ _ _ => by simp, (fun _ _ h => by cases h), fun hd => opOk_val (v := s.rd i) ?_ ?_ hd⟩
      · intro B cl m a w hR
        exact ⟨a.tmps.getD i Go.undef, by simp [execOp, hop, Act.eval], rdV hR i⟩
      · unfold St.rd
        split
        · rfl
        · rfl
        · rename_i hno hno2
          cases hl : s.look i <;> first | rfl | exact absurd hl (hno _) | exact absurd hl (hno2 _ _)
  · rename_i x hnt hop
    split at h
    · split at h
      · split at h
        case h_2 => cases h
        rename_i u hu
        exact ⟨_, _, h, fun _ _ _ => by simp, (fun _ _ h => by cases h), fun hd => assignNil_sound hX hop hu hd⟩
      · cases h
    · refine ⟨_, _, h, fun _ _ _ => by simp, (fun _ _ h => by cases h), fun hd => opOk_val (v := s.ev o.type x) ?_ (ev_noown _ _) hd⟩
      intro B cl m a w hR
      exact ⟨a.eval x, by simp [execOp, hop], evV hX hR _ x⟩
  · rename_i t x y hop
    split at h
    case h_2 => cases h
    rename_i j i sz _ n _ v hx hty hy
    split at h
    case h_2 => cases h
    rename_i u hu
    split at h
    case h_2 => cases h
    rename_i len get hview
    split at h
    case isFalse => cases h
    rename_i hi
    split at h
    case isFalse => cases h
    rename_i hc
    split at h
    case h_2 => cases h
    rename_i u' hset
    exact ⟨_, _, h, fun _ _ _ => by simp, (fun _ _ h => by cases h; exact ⟨⟨_, hu, fun _ h => by cases h; obtain ⟨z1, _, z2, _⟩ := hX.set _ _ _ _ _ _ hset hview hi; simp only [hdr, hview, z2, z1]⟩, rfl⟩), fun hd => storeE_sound hX hT hop hx hty hy hu hview hi hc hset hd⟩
  · rename_i t n parts hop
    split at h
    case h_2 => cases h
    rename_i e _ _ hty
    split at h
    case h_2 => cases h
    rename_i tl htl
    split at h
    case h_2 => cases h
    rename_i _ sz _ z l hte hz hl
    split at h
    case isFalse => cases h
    rename_i hn
    split at h
    case h_2 => cases h
    rename_i u hu
    split at h
    case isFalse => cases h
    rename_i hel
    refine ⟨_, _, h, fun id c b he => ?_, fun j v' he => ?_, fun hd => buildSlice_sound hX hT (tellK_sound hX htl) hop hty hte hz hl hn hu hel hd⟩
    · cases tl <;> simp [tellEff] at he
    · cases tl with
      | none => simp [tellEff] at he
      | some p =>
        simp only [tellEff, Eff.slot.injEq] at he
        obtain ⟨rfl, rfl⟩ := he
        refine ⟨?_, rfl⟩
        unfold tellK at htl
        split at htl
        · rename_i j _
          cases hu : s.own (.slot j) with
          | none => simp only [hu] at htl; cases htl
          | some u => simp only [hu, Option.map_some, Option.some.injEq] at htl; subst htl; exact ⟨u, hu, fun _ h => nomatch h⟩
        · cases htl
  · rename_i t l c hop
    split at h
    case h_2 => cases h
    rename_i _ n _ n' e _ _ hl hc hty
    split at h
    case h_2 => cases h
    rename_i _ b hte
    split at h
    case isFalse => cases h
    rename_i hn
    split at h
    case isFalse => cases h
    rename_i hb
    split at h
    case h_2 => cases h
    rename_i u hz
    split at h
    case isFalse => cases h
    rename_i hez
    exact ⟨_, _, h, fun _ _ _ => by simp, (fun _ _ h => by cases h), fun hd => make_sound hX hT hop hl hc hty hte hn hb hz hez hd⟩
  · rename_i src dst x hop
    split at h
    case h_2 => cases h
    rename_i _ _ e _ _ str hs hty hx
    split at h
    case h_2 => cases h
    rename_i _ _ u hte hu
    exact ⟨_, _, h, fun _ _ _ => by simp, (fun _ _ h => by cases h), fun hd => toBytes_sound hX hT hop hx hs hty hte hu hd⟩
  · rename_i args argTypes hop
    split at h
    case h_2 => cases h
    rename_i x y t t' ha hat
    have ha' : args = #[x, y] := by apply Array.ext'; rw [ha]
    have hat' : argTypes = #[t, t'] := by apply Array.ext'; rw [hat]
    subst ha'; subst hat'
    split at h
    case h_2 => cases h
    rename_i u ef hbase
    split at h
    case h_2 => cases h
    rename_i v hmore
    split at h
    case h_2 => cases h
    rename_i n _ k _ e _ _ hu hv hty
    split at h
    case h_2 => cases h
    rename_i _ sz b hte
    split at h
    case isFalse => cases h
    rename_i hb
    split at h
    case isFalse => cases h
    rename_i hc
    split at h
    case h_2 => cases h
    rename_i z hz
    refine ⟨_, _, h, fun id c b he => ?_, fun j v' he => ?_, fun hd => append_sound hX hT hop hbase hty hte hmore hu hv hb hc hz hd⟩
    · unfold appBase at hbase
      split at hbase
      · cases hn : X.nil t with
        | none => rw [hn] at hbase; simp at hbase
        | some q => rw [hn] at hbase; simp only [Option.map_some, Option.some.injEq, Prod.mk.injEq] at hbase; rw [← hbase.2] at he; cases he
      · split at hbase
        · rename_i j _
          cases hn : s.own (.slot j) with
          | none => simp only [hn] at hbase; simp at hbase
          | some q => simp only [hn, Option.map_some, Option.some.injEq, Prod.mk.injEq] at hbase; rw [← hbase.2] at he; cases he
        · cases hbase
      · cases hbase
    · unfold appBase at hbase
      split at hbase
      · cases hn : X.nil t with
        | none => rw [hn] at hbase; simp at hbase
        | some q => rw [hn] at hbase; simp only [Option.map_some, Option.some.injEq, Prod.mk.injEq] at hbase; rw [← hbase.2] at he; cases he
      · split at hbase
        · rename_i j _
          cases hn : s.own (.slot j) with
          | none => simp only [hn] at hbase; simp at hbase
          | some q => simp only [hn, Option.map_some, Option.some.injEq, Prod.mk.injEq] at hbase; rw [← hbase.2] at he; cases he; exact ⟨⟨_, hn, fun _ h => nomatch h⟩, rfl⟩
        · cases hbase
      · cases hbase
  · rename_i args argTypes hop
    split at h
    case h_2 => cases h
    rename_i x y t t' ha hat
    have ha' : args = #[x, y] := by apply Array.ext'; rw [ha]
    have hat' : argTypes = #[t, t'] := by apply Array.ext'; rw [hat]
    subst ha'; subst hat'
    split at h
    case h_2 => cases h
    rename_i j u lo n hto
    split at h
    case h_2 => cases h
    rename_i v e _ _ hsl hty
    split at h
    case h_2 => cases h
    rename_i NN get k _ _ _ hview hv hte
    split at h
    case isFalse => cases h
    rename_i hc
    split at h
    case isFalse => cases h
    rename_i hle
    split at h
    case h_2 => cases h
    rename_i u' hov
    refine ⟨_, _, h, fun _ _ _ => by simp, fun j' v' he => ?_, fun hd => copy_sound hX hT hop hto hsl hty hte hv hc hov hd⟩
    cases he
    refine ⟨⟨_, copyTo_own hto, fun _ h => ?_⟩, rfl⟩
    cases h
    obtain ⟨z1, _, z2, _⟩ := hX.over _ _ _ _ _ _ _ _ _ hov hview hv (by have := Nat.min_le_right k n; omega) (Nat.min_le_left _ _)
    simp only [hdr, hview, z2, z1]
  · cases h

theorem litElems_congr {ev ev' : TypeId → Operand → AV X.U} {e : TypeId} : ∀ {parts : List (Nat × Operand)} {k : Nat}, (∀ p ∈ parts, ev' e p.2 = ev e p.2) → litElems X ev' e k parts = litElems X ev e k parts
  | [], _, _ => rfl
  | (i, x) :: r, k, h => by
    simp only [litElems]
    rw [h (i, x) List.mem_cons_self, litElems_congr fun p hp => h p (List.mem_cons_of_mem _ hp)]

theorem sliceOf_mono {own own' : Lc → Option X.U} (hown : ∀ l u, own l = some u → own' l = some u) {v : AV X.U} {u : X.U} (h : sliceOf X own v = some u) : sliceOf X own' v = some u := by
  unfold sliceOf at h ⊢
  split at h
  · exact h
  · exact hown _ _ h
  · split at h
    · rename_i hu
      rw [hown _ _ hu]; exact h
    · cases h
  · cases h
theorem tellSlot_congr {ev ev' : TypeId → Operand → AV X.U} {e : TypeId} : ∀ {l : List (Nat × Operand)}, (∀ p ∈ l, ev' e p.2 = ev e p.2) → tellSlot X ev' e l = tellSlot X ev e l
  | [], _ => rfl
  | (_, x) :: r, h => by
    simp only [tellSlot]
    rw [h (_, x) List.mem_cons_self, tellSlot_congr fun p hp => h p (List.mem_cons_of_mem _ hp)]
theorem tellK_mono {A A' : Acc X} {e : TypeId} {l : List (Nat × Operand)} {tl : Option (Nat × X.U)} (hev : ∀ p ∈ l, A'.ev e p.2 = A.ev e p.2) (hown : ∀ l u, A.own l = some u → A'.own l = some u) (h : tellK X A e l = some tl) : tellK X A' e l = some tl := by
  unfold tellK at h ⊢
  rw [tellSlot_congr hev]
  split at h
  · rename_i j _
    cases hu : A.own (.slot j) with
    | none => simp only [hu] at h; cases h
    | some u => simp only [hu] at h; simp only [hown _ _ hu]; exact h
  · exact h
/-- What an operation of one's own rows answers hangs on what it looks at alone. -/
theorem ownK_mono {A A' : Acc X} {tk : Takes} {o : Oper} {K : AV X.U → Eff X.U → Option ρ} {r : ρ} (hev : ∀ x ∈ o.op.operands.toList, ∀ t, A'.ev t x = A.ev t x) (hown : ∀ l u, A.own l = some u → A'.own l = some u) (h : ownK X A tk o K = some r) :
    ∃ v e, K v e = some r ∧ ownK X A' tk o (fun v e => some (v, e)) = some (v, e) := by
  unfold ownK at h
  split at h
  · rename_i i hop
    have hx := hev (.tmp i) (by rw [hop]; simp [Op.operands]) 0
    unfold ownK
    simp only [hop, hx]
    split at h
    · rename_i j hrd
      split at h
      case h_2 => cases h
      rename_i u hu
      exact ⟨_, _, h, by simp [hrd, hown _ _ hu]⟩
    · cases h
    · rename_i v h1 h2
      exact ⟨_, _, h, rfl⟩
  · rename_i x hnt hop
    have hx := hev x (by rw [hop]; simp [Op.operands]) o.type
    unfold ownK
    simp only [hop]
    split at h
    · rename_i hn
      split at h
      · split at h
        case h_2 => cases h
        rename_i u hu
        exact ⟨_, _, h, by simp [hn, hu]⟩
      · cases h
    · rename_i hn
      refine ⟨_, _, h, ?_⟩
      rw [if_neg hn, hx]
  · rename_i t x y hop
    have hx := hev x (by rw [hop]; simp [Op.operands]) 0
    have hy := hev y (by rw [hop]; simp [Op.operands]) t
    unfold ownK
    simp only [hop, hx, hy]
    split at h
    case h_2 => cases h
    rename_i e1 e2 e3
    split at h
    case h_2 => cases h
    rename_i u hu
    split at h
    case h_2 => cases h
    rename_i hview
    split at h
    case isFalse => cases h
    rename_i hi
    split at h
    case isFalse => cases h
    rename_i hc
    split at h
    case h_2 => cases h
    rename_i u' hset
    exact ⟨_, _, h, by simp only [e1, e2, e3, hown _ _ hu, hview]; rw [if_pos hi, if_pos hc, hset]⟩
  · rename_i t n parts hop
    have hev' : ∀ e, ∀ p ∈ parts.toList, A'.ev e p.2 = A.ev e p.2 := fun e p hp => hev p.2 (by rw [hop]; simp only [Op.operands, Array.toList_map]; exact List.mem_map.2 ⟨p, hp, rfl⟩) e
    have hl : ∀ tl e, litElems X (toldEv X tl A'.ev) e 0 parts.toList = litElems X (toldEv X tl A.ev) e 0 parts.toList := fun tl e => litElems_congr fun p hp => by
      cases tl with
      | none => exact hev' e p hp
      | some q => simp only [toldEv, hev' e p hp]
    split at h
    case h_2 => cases h
    rename_i h1
    split at h
    case h_2 => cases h
    rename_i tl htl
    have htl' := tellK_mono (hev' _) hown htl
    unfold ownK
    simp only [hop, hl]
    split at h
    case h_2 => cases h
    rename_i h2 h3 h4
    simp only [h1, htl', h2, h3, h4]
    split at h
    case isFalse => cases h
    rename_i h5
    split at h
    case h_2 => cases h
    rename_i h6
    split at h
    case isFalse => cases h
    rename_i h7
    exact ⟨_, _, h, by rw [if_pos h5]; exact if_pos h7⟩
  · rename_i t l c hop
    have hx := hev l (by rw [hop]; simp [Op.operands]) 3
    have hy := hev c (by rw [hop]; simp [Op.operands]) 3
    unfold ownK
    simp only [hop, hx, hy]
    split at h
    case h_2 => cases h
    rename_i h1 h2 h3
    split at h
    case h_2 => cases h
    rename_i h4
    split at h
    case isFalse => cases h
    rename_i h5
    split at h
    case isFalse => cases h
    rename_i h6
    split at h
    case h_2 => cases h
    rename_i h7
    split at h
    case isFalse => cases h
    rename_i h8
    exact ⟨_, _, h, by rw [if_pos h5, if_pos h6]; exact if_pos h8⟩
  · rename_i src dst x hop
    have hx := hev x (by rw [hop]; simp [Op.operands]) src
    unfold ownK
    simp only [hop, hx]
    split at h
    case h_2 => cases h
    rename_i h1 h2 h3
    split at h
    case h_2 => cases h
    rename_i h4 h5
    exact ⟨_, _, h, by simp only [h1, h2, h3, h4, h5]⟩
  · rename_i args argTypes hop
    split at h
    case h_2 => cases h
    rename_i x y t t' ha hat
    have hx := hev x (by rw [hop]; simp [Op.operands, Call.operands, ha])
    have hy := hev y (by rw [hop]; simp [Op.operands, Call.operands, ha])
    split at h
    case h_2 => cases h
    rename_i u ef hbase
    split at h
    case h_2 => cases h
    rename_i v hmore
    split at h
    case h_2 => cases h
    rename_i h1 h2 h3
    split at h
    case h_2 => cases h
    rename_i h4
    split at h
    case isFalse => cases h
    rename_i h5
    split at h
    case isFalse => cases h
    rename_i h6
    split at h
    case h_2 => cases h
    rename_i h7
    have hb' : appBase X A' t x = some (u, ef) := by
      unfold appBase at hbase ⊢
      split at hbase
      · exact hbase
      · rename_i i
        simp only [hx t]
        split at hbase
        case h_2 => cases hbase
        rename_i j hj
        cases ho : A.own (.slot j) with
        | none => rw [ho] at hbase; simp at hbase
        | some q => rw [hown _ _ ho]; rw [ho] at hbase; exact hbase
      · cases hbase
    have hm' : appMore X A' t' y ef = some v := by
      unfold appMore at hmore ⊢
      rw [hy t']
      split at hmore
      · exact hmore
      · exact hmore
      · rename_i j e1 e2
        split at hmore
        · rename_i j' _
          split at hmore
          · cases hmore
          · rename_i hne; rw [if_neg hne]; exact hown _ _ hmore
        · rename_i hns
          exact hown _ _ hmore
      · cases hmore
    refine ⟨_, _, h, ?_⟩
    unfold ownK
    simp only [hop, ha, hat, hb', hm', h1, h2, h3, h4]
    rw [if_pos h5, if_pos h6, h7]
  · rename_i args argTypes hop
    split at h
    case h_2 => cases h
    rename_i x y t t' ha hat
    have ha' : args = #[x, y] := by apply Array.ext'; rw [ha]
    have hat' : argTypes = #[t, t'] := by apply Array.ext'; rw [hat]
    subst ha'; subst hat'
    have hx := hev x (by rw [hop]; simp [Op.operands, Go.Call.operands]) t
    have hy := hev y (by rw [hop]; simp [Op.operands, Go.Call.operands]) t'
    split at h
    case h_2 => cases h
    rename_i j u lo n hto
    split at h
    case h_2 => cases h
    rename_i v e _ _ hsl hty
    split at h
    case h_2 => cases h
    rename_i NN get k _ _ _ hview hv hte
    split at h
    case isFalse => cases h
    rename_i hc
    split at h
    case isFalse => cases h
    rename_i hle
    split at h
    case h_2 => cases h
    rename_i u' hov
    refine ⟨_, _, h, ?_⟩
    unfold ownK
    have hto' : copyTo X A' t x = some (j, u, lo, n) := by
      unfold copyTo at hto ⊢
      rw [hx]
      split at hto
      · split at hto
        case h_2 => cases hto
        rename_i hu
        simp only [hown _ _ hu]; exact hto
      · split at hto
        case h_2 => cases hto
        rename_i hu
        simp only [hown _ _ hu]; exact hto
      · cases hto
    have hsl' : sliceOf X A'.own (A'.ev t' y) = some v := by rw [hy]; exact sliceOf_mono hown hsl
    simp only [hop, hto', hsl', hty, hview, hv, hte, hc, and_self, if_true, hle, hov]
  · cases h
end Go.AX
