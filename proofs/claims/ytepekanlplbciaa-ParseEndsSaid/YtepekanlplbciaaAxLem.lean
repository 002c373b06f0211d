/-
  How the relation between the reckoning machine's state and the world stands when a slot gets a value, when a box is made or written, when memory grows.
-/
import Derived.Test.YtepekanlplbciaaAxRel
namespace Go.AX
open Go
variable {X : Univ} {cl cl' m m' : Nat → Nat} {w w' : World} {B : Base} {s s' : St X.U} {tm : Array Value}

theorem assoc_killSlot (d i : Nat) : ∀ env : List (Nat × AV X.U), assoc (killSlot d env) i = if i = d then none else (assoc env i).map fun v => if v.atSlot d then .undef else v
  | [] => by simp [killSlot, assoc]
  | (j, v) :: r => by
    have ih := assoc_killSlot d i r
    unfold killSlot
    by_cases hj : j = d
    · rw [if_pos hj, ih]
      by_cases hi : i = d
      · simp [hi]
      · have hji : ¬ j = i := fun h => hi (h ▸ hj)
        simp only [hi, if_false, assoc, hji]
    · rw [if_neg hj]
      by_cases hi : i = d
      · subst hi; simp only [assoc, hj, if_false, ih, if_true]
      · by_cases hji : j = i
        · simp [assoc, hji, hi]
        · simp only [assoc, hji, if_false, ih, hi]

theorem look_put (s : St X.U) (d : Nat) (v : AV X.U) (i : Nat) : (s.put (some d) v).look i = if i = d then v else if (s.look i).atSlot d then .undef else s.look i := by
  unfold St.look St.put
  by_cases hi : i = d
  · simp [assoc, hi]
  · have : ¬ d = i := fun h => hi h.symm
    simp only [assoc, this, if_false, assoc_killSlot, hi]
    cases h : assoc s.env i with
    | none => simp [AV.atSlot]
    | some x => simp

theorem put_hp (s : St X.U) (d : Option Nat) (v : AV X.U) : (s.put d v).hp = s.hp := by cases d <;> rfl

theorem own_put_cell (s : St X.U) (d : Nat) (v : AV X.U) (id off : Nat) : (s.put (some d) v).own (.cell id off) = s.own (.cell id off) := by
  simp only [St.own, put_hp]
def AV.own? {U : Type} : AV U → Option U
  | .own u => some u
  | _ => none
/-- What a value holds as its own, if it does. -/
def AV.hold? {U : Type} : AV U → Option U
  | .own u => some u
  | .otup (some u) _ => some u
  | _ => none
theorem hold_own {v : AV X.U} (h : v.hold? = none) : v.own? = none := by cases v <;> first | rfl | (simp [AV.hold?] at h)
theorem own_slot (s : St X.U) (i : Nat) : s.own (.slot i) = (s.look i).own? := by
  simp only [St.own]; cases s.look i <;> rfl
theorem own?_kill (v : AV X.U) (d : Nat) : (if v.atSlot d then AV.undef else v).own? = v.own? := by
  cases v <;> (try rfl) <;> split <;> rfl
theorem own_put_slot (s : St X.U) (d : Nat) (v : AV X.U) (i : Nat) (hi : i ≠ d) : (s.put (some d) v).own (.slot i) = s.own (.slot i) := by
  rw [own_slot, own_slot, look_put, if_neg hi, own?_kill]


theorem V.lv {lv lv' : Lc → Option Value} {v : AV X.U} {c : Value} (h : V X cl w m lv v c) (hl : ∀ l x, v.at? = some l → lv' l = some x → lv l = some x) : V X cl w m lv' v c := by
  cases h with
  | pv h => exact .pv h
  | ptr i o => exact .ptr i o
  | aptr i o j s => exact .aptr i o j s
  | ref h1 h2 => exact .ref h1 h2
  | fn h1 h2 => exact .fn h1 h2
  | own h => exact .own h
  | otup h1 h2 => exact .otup h1 h2
  | bor h => exact .bor fun x hx => h x (hl _ _ rfl hx)
  | sub h => exact .sub fun x hx => h x (hl _ _ rfl hx)
  | eptr h => exact .eptr fun x hx => h x (hl _ _ rfl hx)
  | nil => exact .nil
  | rp h => exact .rp h
  | zer h => exact .zer h
  | zl h1 h2 => exact .zl h1 h2
  | undef c => exact .undef c

theorem Vs.lv {lv lv' : Lc → Option Value} : ∀ {v : List (AV X.U)} {c : List Value}, Vs X cl w m lv v c → (∀ l x, (∃ a ∈ v, a.at? = some l) → lv' l = some x → lv l = some x) → Vs X cl w m lv' v c
  | _, _, .nil, _ => .nil
  | _, _, .cons h1 h2 h3, hl => .cons (h1.lv fun l x ha hx => hl l x ⟨_, List.mem_cons_self, ha⟩ hx) h2 (h3.lv fun l x ⟨a, ha, hb⟩ hx => hl l x ⟨a, List.mem_cons_of_mem _ ha, hb⟩ hx)

theorem atSlot_at? {v : AV X.U} {d : Nat} (h : v.atSlot d = false) : v.at? ≠ some (.slot d) := by
  intro e
  cases v <;> simp only [AV.at?, reduceCtorEq, Option.some.injEq] at e <;> subst e <;> simp [AV.atSlot] at h

theorem lval_some {l : Lc} {x : Value} (h : lval m s tm w l = some x) : (∃ u, s.own l = some u) ∧ x = cval m tm w l := by
  unfold lval at h
  cases hu : s.own l with
  | none => simp [hu] at h
  | some u => simp [hu] at h; exact ⟨⟨u, rfl⟩, h.symm⟩
theorem lval_of {l : Lc} {u : X.U} (h : s.own l = some u) : lval m s tm w l = some (cval m tm w l) := by simp [lval, h]

theorem getD_set (tm : Array Value) (d i : Nat) (c : Value) (hd : d < tm.size) : (tm.setIfInBounds d c).getD i Go.undef = if i = d then c else tm.getD i Go.undef := by
  simp only [Array.getD_eq_getD_getElem?, Array.getElem?_setIfInBounds]
  by_cases h : d = i
  · subst h; simp [hd]
  · have : ¬ i = d := fun e => h e.symm
    simp [h, this]

theorem Ow.put {d : Nat} {v : AV X.U} {c : Value} (hd : d < tm.size) {l : OL} {b : Nat} (h : Ow m (s.put (some d) v) (tm.setIfInBounds d c) w l b) :
    (l = .slot d ∧ blk v c = some b) ∨ (l ≠ .slot d ∧ Ow m s tm w l b) := by
  cases l with
  | slot i =>
    simp only [Ow, look_put, getD_set _ _ _ _ hd] at h
    by_cases hi : i = d
    · simp only [hi, if_true] at h; exact .inl ⟨by rw [hi], h⟩
    · simp only [hi, if_false] at h
      refine .inr ⟨by simpa using hi, ?_⟩
      cases ha : (s.look i).atSlot d with
      | true => simp [ha, blk] at h
      | false => simpa [ha, Ow] using h
  | cell id off => exact .inr ⟨by simp, by simpa only [Ow, put_hp] using h⟩
  | box id => exact .inr ⟨by simp, by simpa only [Ow, put_hp] using h⟩

theorem lval_put {d : Nat} {v : AV X.U} {c : Value} (hd : d < tm.size) {l : Lc} (hl : l ≠ .slot d) : lval m (s.put (some d) v) (tm.setIfInBounds d c) w l = lval m s tm w l := by
  cases l with
  | slot i =>
    have hi : i ≠ d := fun e => hl (by rw [e])
    simp only [lval, own_put_slot _ _ _ _ hi, cval, getD_set _ _ _ _ hd, hi, if_false]
  | cell id off => simp only [lval, own_put_cell]; rfl

theorem Rel.put (h : Rel B cl m s tm w) {d : Nat} {v : AV X.U} {c : Value} (hd : d < tm.size) (hv : V X cl w m (lval m s tm w) v c) (hat : v.atSlot d = false)
    (ho : ∀ b, blk v c = some b → (∀ l, Ow m s tm w l b → l = .slot d) ∧ b < w.heap.size ∧ (B.D b ∨ B.w.heap.size ≤ b) ∧ cl b = 0) : Rel B cl m (s.put (some d) v) (tm.setIfInBounds d c) w where
  fr := h.fr
  env i := by
    have key : ∀ {v : AV X.U} {c' : Value}, V X cl w m (lval m s tm w) v c' → v.atSlot d = false → V X cl w m (lval m (s.put (some d) ‹AV X.U›) (tm.setIfInBounds d c) w) v c' := fun h ha =>
      h.lv fun l x hl hx => by rw [lval_put hd (fun e => atSlot_at? ha (e ▸ hl))] at hx; exact hx
    rw [look_put, getD_set _ _ _ _ hd]
    by_cases hi : i = d
    · simp only [hi, if_true]
      exact hv.lv fun l x hl hx => by rw [lval_put hd (fun e => atSlot_at? hat (e ▸ hl))] at hx; exact hx
    · simp only [hi, if_false]
      cases ha : (s.look i).atSlot d with
      | true => simpa using V.undef _
      | false => simpa using (h.env i).lv fun l x hl hx => by rw [lval_put hd (fun e => atSlot_at? ha (e ▸ hl))] at hx; exact hx
  box id c' hc := by
    rw [put_hp] at hc
    obtain ⟨vs, e, h1, h2⟩ := h.box id c' hc
    exact ⟨vs, e, h1.lv (fun l x ⟨a, ha, hl⟩ _ => by rw [h.bok id c' hc a ha] at hl; simp at hl), h2⟩
  sep l l' b h1 h2 := by
    rcases Ow.put hd h1 with ⟨rfl, hb⟩ | ⟨n1, o1⟩ <;> rcases Ow.put hd h2 with ⟨rfl, hb'⟩ | ⟨n2, o2⟩
    · rfl
    · exact absurd ((ho b hb).1 _ o2) n2
    · exact absurd ((ho b hb').1 _ o1) n1
    · exact h.sep _ _ _ o1 o2
  mine l b h1 := by
    rcases Ow.put hd h1 with ⟨rfl, hb⟩ | ⟨n1, o1⟩
    · exact (ho b hb).2
    · exact h.mine _ _ o1
  top := h.top
  bok id c hc := h.bok id c (by rw [put_hp] at hc; exact hc)
  inv := h.inv

/-! Memory grows. -/
def World.pushO (w : World) (o : Obj) : World := { w with heap := w.heap.push o }

theorem cell?_of_heap {w w' : World} {b off : Nat} (h : w'.heap[b]? = w.heap[b]?) : w'.cell? ⟨b, off, none⟩ = w.cell? ⟨b, off, none⟩ := by
  simp only [World.cell?, h]
theorem cell?_lt {b off : Nat} {v : Value} (h : w.cell? ⟨b, off, none⟩ = some v) : b < w.heap.size := by
  by_cases hb : b < w.heap.size
  · exact hb
  · simp [World.cell?, Array.getElem?_eq_none (Nat.le_of_not_lt hb)] at h
theorem heap_push (w : World) (o : Obj) (b : Nat) (h : b < w.heap.size) : (World.pushO w o).heap[b]? = w.heap[b]? := by
  show (w.heap.push o)[b]? = _
  rw [Array.getElem?_push, if_neg (by omega)]
theorem heap_push_new (w : World) (o : Obj) : (World.pushO w o).heap[w.heap.size]? = some o := by
  show (w.heap.push o)[w.heap.size]? = _
  simp
theorem size_push (w : World) (o : Obj) : (World.pushO w o).heap.size = w.heap.size + 1 := by
  show (w.heap.push o).size = _
  simp

theorem OwnAt.mono (e : Ext cl w cl' w') {u : X.U} {a : Option Addr} {n cap : Nat} (h : OwnAt X cl w u a n cap)
    (hb : ∀ ad, a = some ad → w'.heap[ad.block]? = w.heap[ad.block]? ∧ cl' ad.block = 0) : OwnAt X cl' w' u a n cap := by
  obtain ⟨vs, get, h1, h2, h3, h4, h5, h6⟩ := h
  refine ⟨vs, get, h1, h2, fun i hi => (h3 i hi).mono e, h4, h5, ?_⟩
  rcases h6 with h6 | ⟨ad, arr, el, fz, ha, hs, hc, hh, hl, hf, hcs⟩
  · exact .inl h6
  · obtain ⟨b1, b2⟩ := hb ad ha
    exact .inr ⟨ad, arr, el, fz, ha, hs, b2, by rw [b1]; exact hh, hl, hf, hcs⟩

mutual
theorem VS.mono (e : Ext cl w cl' w') {v : SV X.U} {c : Value} (h : VS X cl w m v c) (hm : ∀ id, v.men id = true → m' id = m id) : VS X cl' w' m' v c := by
  match h with
  | .pv h => exact .pv (h.mono e)
  | .ref h1 h2 => exact .ref (h1.mono e) (h2.mono e)
  | .ptr id off => have := hm id (by simp [SV.men]); rw [← this]; exact .ptr id off
  | .rp (id := id) h => have := hm id (by simp [SV.men]); exact .rp (by rw [this]; exact h.mono e)
  | .fn h1 h2 => exact .fn (VSs.mono e h1 fun id hi => hm id (by simp [SV.men, hi])) (VSs.mono e h2 fun id hi => hm id (by simp [SV.men, hi]))
theorem VSs.mono (e : Ext cl w cl' w') {v : List (SV X.U)} {c : List Value} (h : VSs X cl w m v c) (hm : ∀ id, menL id v = true → m' id = m id) : VSs X cl' w' m' v c := by
  match h with
  | .nil => exact .nil
  | .cons h1 h2 => exact .cons (VS.mono e h1 fun id hi => hm id (by simp [menL, hi])) (VSs.mono e h2 fun id hi => hm id (by simp [menL, hi]))
end
/-- A value stays as it is where what is told stays, its boxes stand where they stood, and what it owns is let alone. -/
theorem Vz.mono (e : Ext cl w cl' w') : ∀ {v : List (Option (PV X.U))} {c : List Value}, Vz X cl w v c → Vz X cl' w' v c
  | _, _, .nil => .nil
  | _, _, .cons h1 h2 h3 => .cons (h1.mono e) h2 (Vz.mono e h3)
  | _, _, .none h => .none (Vz.mono e h)
theorem V.mono (e : Ext cl w cl' w') {lv : Lc → Option Value} {v : AV X.U} {c : Value} (h : V X cl w m lv v c) (hm : ∀ id, v.men id = true → m' id = m id)
    (hb : ∀ b, blk v c = some b → w'.heap[b]? = w.heap[b]? ∧ cl' b = 0) : V X cl' w' m' lv v c := by
  cases h with
  | pv h => exact .pv (h.mono e)
  | ptr i o => have := hm i (by simp [AV.men]); rw [← this]; exact .ptr i o
  | aptr i o j s => have := hm i (by simp [AV.men]); rw [← this]; exact .aptr i o j s
  | ref h1 h2 => exact .ref (h1.mono e) (h2.mono e)
  | fn h1 h2 => exact .fn (h1.mono e fun id hi => hm id (by simp [AV.men, hi])) (h2.mono e fun id hi => hm id (by simp [AV.men, hi]))
  | own h => exact .own (h.mono e fun ad ha => hb _ (by rw [ha]; rfl))
  | otup h1 h2 =>
    refine .otup (h1.mono e) fun u hu => ?_
    obtain ⟨a, n, cap, rfl, h3⟩ := h2 u hu
    subst hu
    exact ⟨a, n, cap, rfl, h3.mono e fun ad ha => hb _ (by rw [ha]; rfl)⟩
  | bor h => exact .bor h
  | sub h => exact .sub h
  | eptr h => exact .eptr h
  | nil => exact .nil
  | @rp id _ h => have := hm id (by simp [AV.men]); exact .rp (by rw [this]; exact h.mono e)
  | zer h => exact .zer h
  | zl h1 h2 => exact .zl (h1.mono e) h2
  | undef c => exact .undef c
theorem Vs.mono (e : Ext cl w cl' w') {lv : Lc → Option Value} : ∀ {v : List (AV X.U)} {c : List Value}, Vs X cl w m lv v c → (∀ id, (∃ a ∈ v, a.men id = true) → m' id = m id) →
    (∀ (j : Nat) (a : AV X.U) (x : Value) (b : Nat), v[j]? = some a → c[j]? = some x → blk a x = some b → w'.heap[b]? = w.heap[b]? ∧ cl' b = 0) → Vs X cl' w' m' lv v c
  | _, _, .nil, _, _ => .nil
  | _, _, .cons h1 h2 h3, hm, hb => .cons (h1.mono e (fun id hi => hm id ⟨_, List.mem_cons_self, hi⟩) fun b hb' => hb 0 _ _ b rfl rfl hb') h2
      (h3.mono e (fun id ⟨a, ha, hi⟩ => hm id ⟨a, List.mem_cons_of_mem _ ha, hi⟩) fun j a x b ha hx hb' => hb (j + 1) a x b (by simpa using ha) (by simpa using hx) hb')

/-! Parts at their places. -/
theorem Vs.length {lv : Lc → Option Value} : ∀ {v : List (AV X.U)} {c : List Value}, Vs X cl w m lv v c → v.length = c.length
  | _, _, .nil => rfl
  | _, _, .cons _ _ h => by simp [h.length]
theorem Vs.size {lv : Lc → Option Value} : ∀ {v : List (AV X.U)} {c : List Value}, Vs X cl w m lv v c → (flat c).length = segsW X v
  | _, _, .nil => rfl
  | _, _, .cons _ h h' => by simp [flat_cons, segsW, h.1, h'.size]
theorem Vs.append {lv : Lc → Option Value} : ∀ {v v' : List (AV X.U)} {c c' : List Value}, Vs X cl w m lv v c → Vs X cl w m lv v' c' → Vs X cl w m lv (v ++ v') (c ++ c')
  | _, _, _, _, .nil, h => h
  | _, _, _, _, .cons h1 h2 h3, h => .cons h1 h2 (h3.append h)
theorem Vs.take {lv : Lc → Option Value} : ∀ {v : List (AV X.U)} {c : List Value} {n : Nat} {a b : List (AV X.U)}, Vs X cl w m lv v c → takeW X v n = some (a, b) →
    ∃ ca cb, c = ca ++ cb ∧ v = a ++ b ∧ Vs X cl w m lv a ca ∧ Vs X cl w m lv b cb ∧ (flat ca).length = n
  | v, c, 0, a, b, h, ht => by
    have : takeW X v 0 = some ([], v) := by cases v <;> rfl
    rw [this] at ht; cases ht
    exact ⟨[], c, rfl, rfl, .nil, h, rfl⟩
  | _, _, n + 1, _, _, .nil, ht => by simp [takeW] at ht
  | _, _, n + 1, a, b, .cons (v := x) (c := cx) (r := r) (cs := cr) h1 h2 h3, ht => by
    simp only [takeW] at ht
    split at ht
    · rename_i hle
      cases hr : takeW X r (n + 1 - x.segW X) with
      | none => simp [hr] at ht
      | some p =>
        obtain ⟨a', b'⟩ := p
        simp only [hr, Option.map_some, Option.some.injEq, Prod.mk.injEq] at ht
        obtain ⟨rfl, rfl⟩ := ht
        obtain ⟨ca, cb, rfl, rfl, k1, k2, k3⟩ := h3.take hr
        exact ⟨cx :: ca, cb, rfl, rfl, .cons h1 h2 k1, k2, by simp [flat_cons, h2.1, k3]; omega⟩
    · simp at ht
theorem takeW_segAt : ∀ {l : List (AV X.U)} {n : Nat} {v : AV X.U}, segAt X l n = some v → ∃ a b, takeW X l n = some (a, v :: b)
  | [], n, _, h => by simp [segAt] at h
  | x :: r, 0, v, h => by simp only [segAt, Option.some.injEq] at h; subst h; exact ⟨[], r, rfl⟩
  | x :: r, n + 1, v, h => by
    simp only [segAt] at h
    split at h
    · rename_i hle
      obtain ⟨a, b, hab⟩ := takeW_segAt h
      exact ⟨x :: a, b, by simp [takeW, hle, hab]⟩
    · simp at h
theorem Vs.seg {lv : Lc → Option Value} {v : List (AV X.U)} {c : List Value} {n : Nat} {x : AV X.U} (h : Vs X cl w m lv v c) (hs : segAt X v n = some x) :
    ∃ ca cx cb, c = ca ++ cx :: cb ∧ V X cl w m lv x cx ∧ oc cx (x.segW X) ∧ (flat ca).length = n := by
  obtain ⟨a, b, hab⟩ := takeW_segAt hs
  obtain ⟨ca, cb, rfl, _, _, k2, k3⟩ := h.take hab
  cases k2 with
  | cons h1 h2 h3 => exact ⟨ca, _, _, rfl, h1, h2, k3⟩
theorem Vs.span {lv : Lc → Option Value} {v : List (AV X.U)} {c : List Value} {off n : Nat} {l : List (AV X.U)} (h : Vs X cl w m lv v c) (hs : spanAt X v off n = some l) :
    ∃ ca cm cb, c = ca ++ (cm ++ cb) ∧ Vs X cl w m lv l cm ∧ (flat ca).length = off ∧ (flat cm).length = n := by
  unfold spanAt at hs
  cases h1 : takeW X v off with
  | none => simp [h1] at hs
  | some p =>
    obtain ⟨a, r⟩ := p
    simp only [h1] at hs
    cases h2 : takeW X r n with
    | none => simp [h2] at hs
    | some q =>
      obtain ⟨l', b⟩ := q
      simp only [h2, Option.map_some, Option.some.injEq] at hs
      subst hs
      obtain ⟨ca, cr, rfl, _, _, k2, k3⟩ := h.take h1
      obtain ⟨cm, cb, rfl, _, j1, _, j3⟩ := k2.take h2
      exact ⟨ca, cm, cb, rfl, j1, k3, j3⟩
theorem Vs.putSpan {lv : Lc → Option Value} {v : List (AV X.U)} {c : List Value} {off n : Nat} {new l : List (AV X.U)} {cn : List Value} (h : Vs X cl w m lv v c) (hn : Vs X cl w m lv new cn)
    (hs : putSpan X v off n new = some l) : ∃ ca cm cb, c = ca ++ (cm ++ cb) ∧ Vs X cl w m lv l (ca ++ (cn ++ cb)) ∧ (flat ca).length = off ∧ (flat cm).length = n ∧ (flat cn).length = n := by
  unfold Go.AX.putSpan at hs
  cases h1 : takeW X v off with
  | none => simp [h1] at hs
  | some p =>
    obtain ⟨a, r⟩ := p
    simp only [h1] at hs
    cases h2 : takeW X r n with
    | none => simp [h2] at hs
    | some q =>
      obtain ⟨l', b⟩ := q
      simp only [h2] at hs
      split at hs
      · rename_i hw
        simp only [Option.some.injEq] at hs
        subst hs
        obtain ⟨ca, cr, rfl, _, k1, k2, k3⟩ := h.take h1
        obtain ⟨cm, cb, rfl, _, _, j2, j3⟩ := k2.take h2
        exact ⟨ca, cm, cb, rfl, k1.append (hn.append j2), k3, j3, by rw [hn.size, hw]⟩
      · simp at hs
end Go.AX
