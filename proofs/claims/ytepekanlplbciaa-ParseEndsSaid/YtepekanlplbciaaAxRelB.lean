/-
  The relation where memory grows, where a box is made or written, where what is owned is told or handed over.
-/
import Derived.Test.YtepekanlplbciaaAxLem
namespace Go.AX
open Go
variable {X : Univ} {cl cl' m m' : Nat → Nat} {w w' : World} {B : Base} {s s' : St X.U} {tm : Array Value}

theorem Fr.refl (w : World) (cl : Nat → Nat) (D : Nat → Prop) (mb : Nat → Nat) : Fr ⟨w, cl, D, mb⟩ cl w := ⟨rfl, rfl, rfl, Nat.le_refl _, fun _ _ _ => ⟨rfl, rfl⟩⟩

theorem cval_cell_eq {id off : Nat} (h : w'.heap[m id]? = w.heap[m id]?) : cval m tm w' (.cell id off) = cval m tm w (.cell id off) := by
  simp only [cval, cell?_of_heap h]

theorem own_cell {id off : Nat} {u : X.U} (h : s.own (.cell id off) = some u) : ∃ c, assoc s.hp id = some c ∧ segAt X c off = some (.own u) := by
  simp only [St.own] at h
  cases hc : assoc s.hp id with
  | none => simp [hc] at h
  | some c =>
    simp only [hc] at h
    cases hs : segAt X c off with
    | none => simp [hs] at h
    | some v => cases v <;> simp [hs] at h; subst h; exact ⟨c, rfl, hs⟩

theorem segAt_mem : ∀ {l : List (AV X.U)} {n : Nat} {v : AV X.U}, segAt X l n = some v → v ∈ l
  | [], n, _, h => by simp [segAt] at h
  | x :: r, 0, v, h => by simp only [segAt, Option.some.injEq] at h; subst h; exact List.mem_cons_self
  | x :: r, n + 1, v, h => by
    simp only [segAt] at h
    split at h
    · exact List.mem_cons_of_mem _ (segAt_mem h)
    · simp at h

/-- The j-th part of a row of parts stands at some place. -/
theorem segAt_of_get : ∀ {l : List (AV X.U)} {j : Nat} {v : AV X.U}, (∀ x ∈ l, 0 < x.segW X) → l[j]? = some v → segAt X l (segsW X (l.take j)) = some v
  | [], j, v, _, h => by simp at h
  | x :: r, 0, v, _, h => by simp only [List.getElem?_cons_zero, Option.some.injEq] at h; subst h; rfl
  | x :: r, j + 1, v, hp, h => by
    simp only [List.getElem?_cons_succ] at h
    have hx := hp x List.mem_cons_self
    have ih := segAt_of_get (fun y hy => hp y (List.mem_cons_of_mem _ hy)) h
    simp only [List.take_succ_cons, segsW]
    obtain ⟨k, hk⟩ : ∃ k, x.segW X + segsW X (List.take j r) = k + 1 := ⟨x.segW X + segsW X (List.take j r) - 1, by omega⟩
    rw [hk, segAt, if_pos (by omega)]
    have : k + 1 - x.segW X = segsW X (List.take j r) := by omega
    rw [this]; exact ih

theorem Ow.lt (h : Rel B cl m s tm w) {l : OL} {b : Nat} (ho : Ow m s tm w l b) : b < w.heap.size := (h.mine l b ho).1

theorem segW_pos (hX : ∀ u, 0 < X.width u) (v : AV X.U) : 0 < v.segW X := by
  cases v with
  | pv v => cases v with
    | typ u =>
      simp only [AV.segW, PV.segW]
      split
      · exact hX u
      · exact Nat.one_pos
    | _ => exact Nat.one_pos
  | _ => exact Nat.one_pos

theorem Vs.cut {lv : Lc → Option Value} : ∀ {v : List (AV X.U)} {c : List Value} {j : Nat} {a : AV X.U}, Vs X cl w m lv v c → v[j]? = some a →
    ∃ ca x cb, c = ca ++ x :: cb ∧ c[j]? = some x ∧ V X cl w m lv a x ∧ (flat ca).length = segsW X (v.take j)
  | _, _, _, _, .nil, h => by simp at h
  | _, _, 0, a, .cons (c := x) (cs := cs) h1 h2 h3, h => by
    simp only [List.getElem?_cons_zero, Option.some.injEq] at h; subst h
    exact ⟨[], x, cs, rfl, rfl, h1, rfl⟩
  | _, _, j + 1, a, .cons (c := x) (cs := cs) h1 h2 h3, h => by
    simp only [List.getElem?_cons_succ] at h
    obtain ⟨ca, y, cb, rfl, k1, k2, k3⟩ := h3.cut h
    exact ⟨x :: ca, y, cb, rfl, by simpa using k1, k2, by simp [flat_cons, segsW, h2.1, k3]⟩

/-- No tuple stands in a box. -/
theorem Vs.no_otup {lv : Lc → Option Value} : ∀ {v : List (AV X.U)} {c : List Value} (_ : Vs X cl w m lv v c) (j : Nat) {o : Option X.U} {cs : List (PV X.U)}, v[j]? ≠ some (.otup o cs)
  | _, _, .nil, j, o, cs, h => by simp at h
  | _, _, .cons (v := a) (c := x) h1 h2 h3, 0, o, cs, h => by
    simp only [List.getElem?_cons_zero, Option.some.injEq] at h; subst h
    cases h1 with
    | otup _ _ =>
      have := h2.2 _ (show _ ∈ (Value.tuple _).cells.toList by simp [Value.cells]; rfl)
      cases this
  | _, _, .cons h1 h2 h3, j + 1, o, cs, h => h3.no_otup j (by simpa using h)
/-- What a box owns stands at one of its cells. -/
theorem cell_of_seg (hX : ∀ u, 0 < X.width u) {lv : Lc → Option Value} {id : Nat} {v : List (AV X.U)} {c : List Value} {el : TypeId} {fz : Nat × Nat} {j : Nat} {u : X.U} {x : Value}
    (h : Vs X cl w m lv v c) (hh : w'.heap[m id]? = some (.cells (flat c).toArray el fz)) (hj : v[j]? = some (.own u)) (hx : c[j]? = some x) :
    ∃ off, segAt X v off = some (.own u) ∧ w'.cell? ⟨m id, off, none⟩ = some x := by
  obtain ⟨ca, y, cb, rfl, k1, k2, k3⟩ := h.cut hj
  rw [k1] at hx; cases hx
  refine ⟨segsW X (v.take j), segAt_of_get (fun z _ => segW_pos hX z) hj, ?_⟩
  cases k2 with
  | own _ => simp [World.cell?, hh, flat_append, flat_cons, ← k3, Value.cells]

/-- The same state in a greater world: what is told stays told, what is owned is let alone. -/
theorem Rel.world (hX : ∀ u, 0 < X.width u) (h : Rel B cl m s tm w) (hf : Fr B cl' w') (e : Ext cl w cl' w') (hs : w.heap.size ≤ w'.heap.size)
    (ho : ∀ l b, Ow m s tm w l b → w'.heap[b]? = w.heap[b]? ∧ cl' b = 0) (ht : ∀ b, w'.heap.size ≤ b → cl' b = 0) : Rel B cl' m s tm w' := by
  have hbox : ∀ id c, assoc s.hp id = some c → w'.heap[m id]? = w.heap[m id]? := fun id c hc => (ho (.box id) _ ⟨⟨c, hc⟩, rfl⟩).1
  have hlv : ∀ l x, lval m s tm w' l = some x → lval m s tm w l = some x := by
    intro l x hx
    obtain ⟨⟨u, hu⟩, rfl⟩ := lval_some hx
    rw [lval_of hu]
    cases l with
    | slot i => rfl
    | cell id off =>
      obtain ⟨c, hc, _⟩ := own_cell hu
      rw [cval_cell_eq (hbox id c hc)]
  have how : ∀ l b, Ow m s tm w' l b → Ow m s tm w l b := by
    intro l b h1
    cases l with
    | slot i => exact h1
    | cell id off =>
      obtain ⟨c, u, hc, hs, hb⟩ := h1
      refine ⟨c, u, hc, hs, ?_⟩
      rw [← cell?_of_heap (hbox id c hc)]; exact hb
    | box id => exact h1
  refine ⟨hf, fun i => ?_, fun id c hc => ?_, fun l l' b h1 h2 => h.sep l l' b (how _ _ h1) (how _ _ h2), fun l b h1 => ?_, ht, h.bok, h.inv⟩
  · exact ((h.env i).mono e (m' := m) (fun _ _ => rfl) fun b hb => ho (.slot i) b hb).lv fun l x _ hx => hlv l x hx
  · obtain ⟨vs, el, h1, h2⟩ := h.box id c hc
    refine ⟨vs, el, (h1.mono e (m' := m) (fun _ _ => rfl) ?_).lv (fun l x _ hx => hlv l x hx), by rw [hbox id c hc]; exact h2⟩
    intro j a x b ha hx hb
    cases a with
    | own u =>
      obtain ⟨off, k1, k2⟩ := cell_of_seg hX h1 h2 ha hx
      exact ho (.cell id off) b ⟨c, u, hc, k1, by rw [k2]; exact hb⟩
    | otup o cs => exact absurd ha (h1.no_otup j)
    | _ => simp [blk] at hb
  · obtain ⟨k1, k2, k3⟩ := h.mine l b (how _ _ h1)
    exact ⟨Nat.lt_of_lt_of_le k1 hs, k2, (ho l b (how _ _ h1)).2⟩

theorem assoc_killBox (id i : Nat) : ∀ env : List (Nat × AV X.U), assoc (killBox id env) i = (assoc env i).map fun v => if v.men id then .undef else v
  | [] => rfl
  | (j, v) :: r => by
    by_cases h : j = i
    · simp [killBox, assoc, h]
    · simp [killBox, assoc, h, assoc_killBox id i r]
theorem assoc_killCell (id i : Nat) : ∀ env : List (Nat × AV X.U), assoc (killCell id env) i = (assoc env i).map fun v => if v.atCell id then .undef else v
  | [] => rfl
  | (j, v) :: r => by
    by_cases h : j = i
    · simp [killCell, assoc, h]
    · simp [killCell, assoc, h, assoc_killCell id i r]
theorem assoc_killBoxH (id i : Nat) : ∀ hp : List (Nat × List (AV X.U)), assoc (killBoxH id hp) i = if i = id then none else (assoc hp i).map (killBoxC id)
  | [] => by simp [killBoxH, assoc]
  | (j, v) :: r => by
    have ih := assoc_killBoxH id i r
    unfold killBoxH
    by_cases hj : j = id
    · rw [if_pos hj, ih]
      by_cases hi : i = id
      · simp [hi]
      · have hji : ¬ j = i := fun h => hi (h ▸ hj)
        simp [hi, assoc, hji]
    · rw [if_neg hj]
      by_cases hi : i = id
      · subst hi; simp [assoc, hj, ih]
      · by_cases hji : j = i
        · simp [assoc, hji, hi]
        · simp [assoc, hji, ih, hi]
theorem getD_mapU (f : AV X.U → AV X.U) (hf : f .undef = .undef) (o : Option (AV X.U)) : (o.map f).getD .undef = f (o.getD .undef) := by
  cases o with
  | none => exact hf.symm
  | some v => rfl
theorem look_addBox (s : St X.U) (id : Nat) (c : List (AV X.U)) (i : Nat) : (s.addBox id c).look i = if (s.look i).men id then .undef else s.look i := by
  simp only [St.look, St.addBox, assoc_killBox]
  exact getD_mapU (fun v => if v.men id then .undef else v) (by simp) _
theorem look_setBox (s : St X.U) (id : Nat) (c : List (AV X.U)) (i : Nat) : (s.setBox id c).look i = if (s.look i).atCell id then .undef else s.look i := by
  simp only [St.look, St.setBox, assoc_killCell]
  exact getD_mapU (fun v => if v.atCell id then .undef else v) (by simp) _
theorem assoc_addBox (s : St X.U) (id : Nat) (c : List (AV X.U)) (i : Nat) : assoc (s.addBox id c).hp i = if i = id then some c else (assoc s.hp i).map (killBoxC id) := by
  simp only [St.addBox, assoc, assoc_killBoxH]
  by_cases h : i = id
  · simp [h]
  · have : ¬ id = i := fun e => h e.symm
    simp [h, this]
theorem assoc_assocSet {α : Type} (id i : Nat) (c : α) : ∀ l : List (Nat × α), assoc (assocSet l id c) i = if i = id then (assoc l id).map fun _ => c else assoc l i
  | [] => by simp [assocSet, assoc]
  | (j, v) :: r => by
    have ih := assoc_assocSet id i c r
    by_cases hj : j = id
    · subst hj
      by_cases hi : i = j
      · subst hi; simp [assocSet, assoc]
      · have : ¬ j = i := fun e => hi e.symm
        simp [assocSet, assoc, hi, this]
    · by_cases hi : i = id
      · subst hi; simp [assocSet, assoc, hj, ih]
      · by_cases hji : j = i
        · simp [assocSet, assoc, hj, hji, hi]
        · simp [assocSet, assoc, hj, hji, ih, hi]

theorem men_undef (v : AV X.U) (d : Nat) (h : v.men d = false) (lv lv' : Lc → Option Value) {c : Value} (hl : ∀ l x, (∀ i o, l = .cell i o → i ≠ d) → lv' l = some x → lv l = some x)
    (hv : V X cl w m lv v c) : V X cl w m lv' v c := hv.lv fun l x hat hx => hl l x (fun i o e => by
      subst e; intro hd; subst hd
      cases v <;> simp [AV.at?] at hat <;> subst hat <;> simp [AV.men] at h) hx
theorem segW_kill (v : AV X.U) (d : Nat) : (if v.men d then AV.undef else v).segW X = v.segW X := by
  cases v <;> (try rfl) <;> split <;> rfl

def upd (m : Nat → Nat) (d b : Nat) : Nat → Nat := fun i => if i = d then b else m i
theorem upd_same (m : Nat → Nat) (d b : Nat) : upd m d b d = b := by simp [upd]
theorem upd_ne (m : Nat → Nat) {d i : Nat} (b : Nat) (h : i ≠ d) : upd m d b i = m i := by simp [upd, h]

theorem segAt_killBoxC (d : Nat) : ∀ (c : List (AV X.U)) (n : Nat), segAt X (killBoxC d c) n = (segAt X c n).map fun v => if v.men d then .undef else v
  | [], n => by simp [killBoxC, segAt]
  | x :: r, 0 => by simp [killBoxC, segAt]
  | x :: r, n + 1 => by
    simp only [killBoxC, segAt, segW_kill]
    split
    · exact segAt_killBoxC d r _
    · rfl
theorem own?_men (v : AV X.U) (d : Nat) : (if v.men d then AV.undef else v).own? = v.own? := by
  cases v <;> (try rfl) <;> split <;> rfl
theorem own_cell' (s : St X.U) (id off : Nat) : s.own (.cell id off) = ((assoc s.hp id).bind fun c => (segAt X c off).bind AV.own?) := by
  simp only [St.own]
  cases assoc s.hp id with
  | none => rfl
  | some c =>
    simp only [Option.bind_some]
    cases segAt X c off with
    | none => rfl
    | some v => cases v <;> rfl
theorem Vs.kill (d : Nat) {lv : Lc → Option Value} : ∀ {v : List (AV X.U)} {c : List Value}, Vs X cl w m lv v c → Vs X cl w m lv (killBoxC d v) c
  | _, _, .nil => .nil
  | _, _, .cons (v := x) h1 h2 h3 => by
    refine .cons ?_ (by rw [segW_kill]; exact h2) (h3.kill d)
    split
    · exact .undef _
    · exact h1
theorem mem_kill {d : Nat} : ∀ {c : List (AV X.U)} {v : AV X.U}, v ∈ killBoxC d c → v = .undef ∨ (v ∈ c ∧ v.men d = false)
  | [], _, h => by simp [killBoxC] at h
  | x :: r, v, h => by
    simp only [killBoxC, List.mem_cons] at h
    rcases h with h | h
    · cases hm : x.men d with
      | true => simp [hm] at h; exact .inl h
      | false => simp [hm] at h; exact .inr ⟨by simp [h], by rw [h]; exact hm⟩
    · rcases mem_kill h with h | ⟨h, k⟩
      · exact .inl h
      · exact .inr ⟨List.mem_cons_of_mem _ h, k⟩

theorem blk_own {v : AV X.U} {c : Value} {b : Nat} (h : blk v c = some b) : (∃ u a n k, v = .own u ∧ c = .slice (some a) n k ∧ a.block = b) ∨ ∃ u cs vs a n k, v = .otup (some u) cs ∧ c = .tuple vs ∧ vs.toList.head? = some (.slice (some a) n k) ∧ a.block = b := by
  unfold blk at h
  split at h
  · simp at h; exact .inl ⟨_, _, _, _, rfl, rfl, h⟩
  · split at h
    · rename_i e
      simp at h
      exact .inr ⟨_, _, _, _, _, _, rfl, rfl, by rw [e]; rfl, h⟩
    · cases h
  · simp at h
theorem blk_boxed {lv : Lc → Option Value} {v : List (AV X.U)} {cs : List Value} (hv : Vs X cl w m lv v cs) {j : Nat} {a : AV X.U} {x : Value} {b : Nat} (ha : v[j]? = some a) (h : blk a x = some b) : ∃ u a' n k, a = .own u ∧ x = .slice (some a') n k ∧ a'.block = b := by
  rcases blk_own h with h | ⟨u, q, _, _, _, _, rfl, _⟩
  · exact h
  · exact absurd ha (hv.no_otup j)

theorem Fr.push (hf : Fr B cl w) (o : Obj) : Fr B cl (World.pushO w o) :=
  ⟨hf.os, hf.tape, hf.output, by rw [size_push]; have := hf.size; omega, fun b hb hd => ⟨by rw [heap_push _ _ _ (by have := hf.size; omega)]; exact (hf.block b hb hd).1, (hf.block b hb hd).2⟩⟩
theorem Ext.push (cl : Nat → Nat) (w : World) (o : Obj) : Ext cl w cl (World.pushO w o) :=
  Ext.of fun _ _ ⟨_, hv⟩ => ⟨heap_push _ _ _ (Array.getElem?_eq_some_iff.mp hv).1, Nat.le_refl _⟩

/-- A box is made. -/
theorem Rel.addBox (hX : ∀ u, 0 < X.width u) (h : Rel B cl m s tm w) {d : Nat} {c : List (AV X.U)} {vs : List Value} {e : TypeId} (hv : Vs X cl w m (lval m s tm w) c vs)
    (hp : ∀ v ∈ c, v.at? = none) (hb0 : ∀ off u b, segAt X c off = some (.own u) → blk (AV.own u) (((flat vs)[off]?).getD Go.undef) ≠ some b) (hn : ∀ v ∈ c, v.men d = false) :
    Rel B cl (upd m d w.heap.size) (s.addBox d c) tm (World.pushO w (.cells (flat vs).toArray e (0, 0))) := by
  have hnew : ∀ off, (World.pushO w (.cells (flat vs).toArray e (0, 0))).cell? ⟨w.heap.size, off, none⟩ = (flat vs)[off]? := fun off => by
    simp [World.cell?, heap_push_new]
  -- what is owned stays so
  have how : ∀ l b, Ow (upd m d w.heap.size) (s.addBox d c) tm (World.pushO w (.cells (flat vs).toArray e (0, 0))) l b → ((∃ i, l = .box i ∧ i = d) ∧ b = w.heap.size) ∨ Ow m s tm w l b := by
    intro l b h1
    cases l with
    | slot i =>
      refine .inr ?_
      simp only [Ow, look_addBox] at h1
      by_cases hm : (s.look i).men d = true
      · simp [hm, blk] at h1
      · simpa [Ow, hm] using h1
    | cell id off =>
      obtain ⟨c', u, hc, hs, hb⟩ := h1
      rw [assoc_addBox] at hc
      by_cases hid : id = d
      · simp only [hid, if_true, Option.some.injEq] at hc; subst hc; rw [hid, upd_same, hnew] at hb; exact absurd hb (hb0 _ _ _ hs)
      · simp only [hid, if_false, Option.map_eq_some_iff] at hc
        obtain ⟨c0, hc0, rfl⟩ := hc
        rw [segAt_killBoxC, Option.map_eq_some_iff] at hs
        obtain ⟨v0, hv0, hs⟩ := hs
        have : v0 = .own u := by
          by_cases hm : v0.men d = true
          · simp [hm] at hs
          · simpa [hm] using hs
        subst this
        refine .inr ⟨c0, u, hc0, hv0, ?_⟩
        rw [upd_ne _ _ hid] at hb
        obtain ⟨vs0, e0, _, hh⟩ := h.box id c0 hc0
        have hlt : m id < w.heap.size := (h.mine (.box id) _ ⟨⟨c0, hc0⟩, rfl⟩).1
        rw [cell?_of_heap (heap_push _ _ _ hlt)] at hb
        exact hb
    | box id =>
      obtain ⟨⟨c', hc⟩, rfl⟩ := h1
      rw [assoc_addBox] at hc
      by_cases hid : id = d
      · exact .inl ⟨⟨id, rfl, hid⟩, by rw [hid, upd_same]⟩
      · simp only [hid, if_false, Option.map_eq_some_iff] at hc
        obtain ⟨c0, hc0, _⟩ := hc
        exact .inr ⟨⟨c0, hc0⟩, upd_ne _ _ hid⟩
  have hlv : ∀ l x, (∀ i o, l = .cell i o → i ≠ d) → lval (upd m d w.heap.size) (s.addBox d c) tm (World.pushO w (.cells (flat vs).toArray e (0, 0))) l = some x → lval m s tm w l = some x := by
    intro l x hl hx
    obtain ⟨⟨u, hu⟩, rfl⟩ := lval_some hx
    cases l with
    | slot i =>
      rw [own_slot, look_addBox, own?_men, ← own_slot] at hu
      rw [lval_of hu]; rfl
    | cell id off =>
      have hid := hl id off rfl
      rw [own_cell', assoc_addBox, if_neg hid] at hu
      cases hc : assoc s.hp id with
      | none => simp [hc] at hu
      | some c0 =>
        simp only [hc, Option.map_some, Option.bind_some, segAt_killBoxC] at hu
        have hu' : s.own (.cell id off) = some u := by
          rw [own_cell', hc, Option.bind_some]
          cases hs : segAt X c0 off with
          | none => simp [hs] at hu
          | some v0 => simp only [hs, Option.map_some, Option.bind_some, own?_men] at hu; simpa using hu
        rw [lval_of hu']
        have hlt : m id < w.heap.size := (h.mine (.box id) _ ⟨⟨c0, hc⟩, rfl⟩).1
        simp only [cval, upd_ne _ _ hid, cell?_of_heap (heap_push _ _ _ hlt)]
  have hblk : ∀ b, b < w.heap.size → (World.pushO w (.cells (flat vs).toArray e (0, 0))).heap[b]? = w.heap[b]? := fun b hb => heap_push _ _ _ hb
  refine ⟨h.fr.push _, fun i => ?_, fun id c' hc => ?_, fun l l' b h1 h2 => ?_, fun l b h1 => ?_, fun b hb => h.top b (by rw [size_push] at hb; omega), fun id c' hc => ?_, h.inv⟩
  · rw [look_addBox]
    cases hm : (s.look i).men d with
    | true => simpa using V.undef _
    | false =>
      simp only [Bool.false_eq_true, if_false]
      refine men_undef _ d hm _ _ hlv ((h.env i).mono (Ext.push _ _ _) (fun id hid => upd_ne _ _ fun e => by rw [e, hm] at hid; cases hid) fun b hb => ?_)
      have := h.mine (.slot i) b hb
      exact ⟨hblk b this.1, this.2.2⟩
  · rw [assoc_addBox] at hc
    by_cases hid : id = d
    · simp only [hid, if_true, Option.some.injEq] at hc; subst hc
      refine ⟨vs, e, ?_, by rw [hid, upd_same]; exact heap_push_new _ _⟩
      refine (hv.mono (Ext.push _ _ _) (fun i ⟨a, ha, hi⟩ => upd_ne _ _ fun e => by rw [e, hn a ha] at hi; cases hi) ?_).lv fun l x ⟨a, ha, hat⟩ hx => ?_
      · intro j a x b ha hx hb
        obtain ⟨u, _, _, _, h2, _⟩ := blk_boxed hv ha hb
        subst h2
        obtain ⟨ca, y, cb, q0, k1, k2, k3⟩ := hv.cut ha
        rw [k1] at hx; cases hx
        have q2 : (flat vs)[segsW X (c.take j)]? = some x := by
          rw [q0, flat_append, flat_cons, List.getElem?_append_right (by omega), ← k3]
          cases k2 with
          | own _ => simp [Value.cells]
        exact absurd (by rw [q2]; exact hb) (hb0 _ u b (segAt_of_get (fun z _ => segW_pos hX z) ha))
      · rw [hp a ha] at hat; cases hat
    · simp only [hid, if_false, Option.map_eq_some_iff] at hc
      obtain ⟨c0, hc0, rfl⟩ := hc
      obtain ⟨vs0, e0, k1, k2⟩ := h.box id c0 hc0
      have hlt : m id < w.heap.size := (h.mine (.box id) _ ⟨⟨c0, hc0⟩, rfl⟩).1
      refine ⟨vs0, e0, ?_, by rw [upd_ne _ _ hid, hblk _ hlt]; exact k2⟩
      refine Vs.lv (lv := lval m s tm w) (Vs.mono (Ext.push _ _ _) (k1.kill d) (fun i ⟨a, ha, hi⟩ => ?_) ?_) fun l x ⟨a, ha, hat⟩ hx => ?_
      · rcases mem_kill ha with rfl | ⟨_, hm⟩
        · simp [AV.men] at hi
        · exact upd_ne _ _ fun e => by rw [e, hm] at hi; cases hi
      · intro j a x b ha hx hb
        obtain ⟨u, _, _, _, h2, _⟩ := blk_boxed (k1.kill d) ha hb
        subst h2
        obtain ⟨off, q1, q2⟩ := cell_of_seg (m := m) (id := id) hX (k1.kill d) k2 ha hx
        rw [segAt_killBoxC, Option.map_eq_some_iff] at q1
        obtain ⟨v0, hv0, q1⟩ := q1
        have : v0 = .own u := by
          by_cases hm : v0.men d = true
          · simp [hm] at q1
          · simpa [hm] using q1
        subst this
        have := h.mine (.cell id off) b ⟨c0, u, hc0, hv0, by rw [q2]; exact hb⟩
        exact ⟨hblk b this.1, this.2.2⟩
      · rcases mem_kill ha with rfl | ⟨_, hm⟩
        · simp [AV.at?] at hat
        · refine hlv l x (fun i o e => ?_) hx
          subst e; intro hd; subst hd
          cases a <;> simp [AV.at?] at hat <;> subst hat <;> simp [AV.men] at hm
  · rcases how l b h1 with ⟨⟨i, hi, hd⟩, hb⟩ | k1 <;> rcases how l' b h2 with ⟨⟨i', hi', hd'⟩, hb'⟩ | k2
    · rw [hi, hi', hd, hd']
    · have := h.mine _ _ k2; omega
    · have := h.mine _ _ k1; omega
    · exact h.sep _ _ _ k1 k2
  · rcases how l b h1 with ⟨_, rfl⟩ | h1
    · exact ⟨by rw [size_push]; omega, .inr h.fr.size, h.top _ (Nat.le_refl _)⟩
    · have := h.mine _ _ h1
      exact ⟨by rw [size_push]; omega, this.2⟩
  · rw [assoc_addBox] at hc
    by_cases hid : id = d
    · simp only [hid, if_true, Option.some.injEq] at hc; subst hc
      intro v hv; exact hp v hv
    · simp only [hid, if_false, Option.map_eq_some_iff] at hc
      obtain ⟨c0, hc0, rfl⟩ := hc
      intro v hv
      rcases mem_kill hv with rfl | ⟨hv, _⟩
      · rfl
      · exact h.bok id c0 hc0 v hv
end Go.AX
