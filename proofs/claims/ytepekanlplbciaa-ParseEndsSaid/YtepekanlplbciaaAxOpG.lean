/-
  The operations that make boxes, write them, make rows of their own.
-/
import Derived.Test.YtepekanlplbciaaAxOpF
namespace Go.AX
open Go
variable {X : Univ} {P : Program} {cl m : Nat → Nat} {w : World} {B : Base} {s : St X.U} {tm : Array Value} {ρ : Type} {lv : Lc → Option Value}

/-- The state of a frame. -/
def Good (B : Base) (N : Nat) (s : St X.U) (a : Act) (w : World) : Prop := ∃ cl m, Rel B cl m s a.tmps w ∧ a.tmps.size = N ∧ a.defers = [] ∧ (N ≤ 1000 → ∀ i, 1000 ≤ i → m i = B.mb i)

/-- An operation leads from one state to another. -/
def OpOk (P : Program) (N : Nat) (s : St X.U) (o : Oper) (v : AV X.U) (s' : St X.U) : Prop :=
  ∀ (B : Base) (a : Act) (w : World), Good B N s a w → ∀ (next : Act → World → Prop) (Q : Exit → Act → World → Prop), (∀ a' w', Good B N (s'.put o.dst v) a' w' → next a' w') → o.wp P a w next Q

theorem Good.put {N : Nat} {a : Act} {o : Oper} {v : AV X.U} {c : Value} (hR : Rel B cl m s a.tmps w) (hN : a.tmps.size = N) (hD : a.defers = [] ∧ (N ≤ 1000 → ∀ i, 1000 ≤ i → m i = B.mb i)) (hd : dstOk N o v = true) (hv : V X cl w m (lval m s a.tmps w) v c)
    (ho : ∀ b, blk v c = some b → (∀ l, ¬ Ow m s a.tmps w l b) ∧ b < w.heap.size ∧ (B.D b ∨ B.w.heap.size ≤ b) ∧ cl b = 0) : Good B N (s.put o.dst v) (a.put o.dst c) w := by
  unfold dstOk at hd
  cases hdst : o.dst with
  | none => exact ⟨cl, m, by simpa [Act.put, St.put] using hR, hN, hD⟩
  | some d =>
    simp only [hdst, Bool.and_eq_true, decide_eq_true_eq, Bool.not_eq_true'] at hd
    exact ⟨cl, m, hR.put (by rw [hN]; exact hd.1) hv hd.2 fun b hb => ⟨fun l hl => absurd hl ((ho b hb).1 l), (ho b hb).2⟩, by simpa [Act.put] using hN, hD⟩

theorem blk_none {v : AV X.U} {c : Value} (h : v.hold? = none) (b : Nat) : blk v c ≠ some b := by
  intro e
  rcases blk_own e with ⟨u, _, _, _, rfl, _⟩ | ⟨u, _, _, _, _, _, rfl, _⟩ <;> simp [AV.hold?] at h

theorem opOk_val {N : Nat} {o : Oper} {v : AV X.U} (h : VOk P s o v) (hn : v.hold? = none) (hd : dstOk N o v = true) : OpOk P N s o v s := by
  intro B a w ⟨cl, m, hR, hN, hD⟩ next Q hnext
  obtain ⟨c, h1, h2⟩ := h B cl m a w hR
  unfold Oper.wp
  rw [h1]
  exact hnext _ _ (Good.put hR hN hD hd h2 fun b hb => absurd hb (blk_none hn b))

theorem wp_of_run {o : Oper} {a : Act} {next : Act → World → Prop} {Q : Exit → Act → World → Prop} {c : Value} {w' : World} (h : (execOp a.eval o).run P w = .ok (.value c) w') (hn : next (a.put o.dst c) w') :
    o.wp P a w next Q := by
  unfold Oper.wp; rw [h]; exact hn
theorem wp_of_skip {o : Oper} {a : Act} {next : Act → World → Prop} {Q : Exit → Act → World → Prop} {w' : World} (h : (execOp a.eval o).run P w = .ok .skip w') (hn : next (a.put o.dst Go.undef) w') :
    o.wp P a w next Q := by
  unfold Oper.wp; rw [h]; exact hn

theorem dst_lt {N : Nat} {o : Oper} {v : AV X.U} {d : Nat} (hd : dstOk N o v = true) (hdst : o.dst = some d) : d < N := by
  unfold dstOk at hd
  rw [hdst] at hd
  simp only [Bool.and_eq_true, decide_eq_true_eq] at hd
  exact hd.1
theorem mb_upd {N d b : Nat} {mb : Nat → Nat} {Q : Prop} (hD : Q ∧ (N ≤ 1000 → ∀ i, 1000 ≤ i → m i = mb i)) (hlt : d < N) : Q ∧ (N ≤ 1000 → ∀ i, 1000 ≤ i → upd m d b i = mb i) :=
  ⟨hD.1, fun hn i hi => by rw [upd_ne m b (by omega)]; exact hD.2 hn i hi⟩
theorem plain_own {U : Type} {v : AV U} (h : v.plain = true) : v.hold? = none ∧ v.at? = none := by cases v <;> simp [AV.plain] at h <;> exact ⟨rfl, rfl⟩
/-- A zero owns nothing. -/
theorem zero_noblk (w0 : World) {z : List (AV X.U)} {vs : List Value} (h4 : ∀ (cl : Nat → Nat) (w : World) (m : Nat → Nat) (lv : Lc → Option Value), Vs X cl w m lv z vs) {off : Nat} {u : X.U} (hs : segAt X z off = some (.own u)) (b : Nat) :
    blk (AV.own u) (((flat vs)[off]?).getD Go.undef) ≠ some b := by
  obtain ⟨ca, cx, cb, rfl, h1, h2, h3⟩ := (h4 (fun _ => 0) { w0 with heap := #[] } (fun _ => 0) (fun _ => none)).seg hs
  cases h1 with
  | own h1 =>
    rename_i a n cap
    obtain ⟨_, _, _, _, _, _, _, h1⟩ := h1
    have e : (flat (ca ++ Value.slice a n cap :: cb))[off]? = some (Value.slice a n cap) := by
      rw [flat_append, flat_cons, List.getElem?_append_right (by omega), h3, Nat.sub_self]; rfl
    rw [e]
    rcases h1 with ⟨rfl, _⟩ | ⟨ad, arr, e', fz, _, _, _, h6, _⟩
    · simp [blk]
    · simp at h6
theorem alloc_sound (hX : XOK X) (hT : TOK P X) {N : Nat} {o : Oper} {e d : Nat} (ho : o.op = .alloc e) (hdst : o.dst = some d) {z : List (AV X.U)} (hz : X.zero e = some z) (hd : dstOk N o (AV.ptr (U := X.U) d 0) = true) :
    OpOk P N s o (.ptr d 0) (s.addBox d z) := by
  intro B a w ⟨cl, m, hR, hN, hD⟩ next Q hnext
  obtain ⟨info, zv, vs, h1, h2, h3, h4, h5⟩ := hT.zero e z hz
  have hzc : zv.cells = (flat vs).toArray := by apply Array.ext'; simpa using h3
  have hR' := hR.addBox hX.wpos (d := d) (e := e) (h4 cl w m _) (fun v hv => by rcases (h5 v hv).1 with h | ⟨u, rfl⟩; exact (plain_own h).2; rfl) (fun off u b hs => zero_noblk w h4 hs b) (fun v hv => (h5 v hv).2 d)
  refine wp_of_run (c := .pointer (some ⟨w.heap.size, 0, none⟩)) (w' := World.pushO w (.cells (flat vs).toArray e (0, 0))) ?_ (hnext _ _ (Good.put hR' hN (mb_upd hD (dst_lt hd hdst)) hd ?_ fun b hb => by simp [blk] at hb))
  · simp [execOp, ho, Instr.alloc, zeroValue, typeInfo, h1, h2, newVar, newRow, hzc, World.pushO]
  · have := V.ptr (X := X) (cl := cl) (w := World.pushO w (.cells (flat vs).toArray e (0, 0))) (m := upd m d w.heap.size) (lv := lval (upd m d w.heap.size) (s.addBox d z) a.tmps (World.pushO w (.cells (flat vs).toArray e (0, 0)))) d 0
    rw [upd_same] at this; exact this

theorem segs_ok {v : AV X.U} {d : Nat} (hp : v.plain = true) (hm : v.men d = false) : ∀ x ∈ v.segs X, (x.hold? = none ∧ x.at? = none) ∧ x.men d = false := by
  intro x hx
  cases v with
  | pv p =>
    simp only [AV.segs, List.mem_map] at hx
    obtain ⟨q, hq, rfl⟩ := hx
    exact ⟨⟨rfl, rfl⟩, rfl⟩
  | ptr i o => simp only [AV.segs, List.mem_singleton] at hx; subst hx; exact ⟨⟨rfl, rfl⟩, hm⟩
  | fn f a b => simp only [AV.segs, List.mem_singleton] at hx; subst hx; exact ⟨⟨rfl, rfl⟩, hm⟩
  | _ => simp [AV.plain] at hp

theorem box_sound (hX : XOK X) {N : Nat} {o : Oper} {e d : Nat} {x : Operand} (ho : o.op = .box e x) (hdst : o.dst = some d) (hp : (s.ev e x).plain = true) (hm : (s.ev e x).men d = false)
    (hd : dstOk N o (AV.ptr (U := X.U) d 0) = true) : OpOk P N s o (.ptr d 0) (s.addBox d ((s.ev e x).segs X)) := by
  intro B a w ⟨cl, m, hR, hN, hD⟩ next Q hnext
  obtain ⟨vs, h1, h2⟩ := segs_plain (evV hX hR e x) hp
  have hzc : (a.eval x).cells = (flat vs).toArray := by apply Array.ext'; simpa using h2
  have hR' := hR.addBox hX.wpos (d := d) (e := e) h1 (fun v hv => (segs_ok hp hm v hv).1.2) (fun off u b hs => by have := (segs_ok hp hm _ (segAt_mem hs)).1.1; simp [AV.hold?] at this) (fun v hv => (segs_ok hp hm v hv).2)
  refine wp_of_run (c := .pointer (some ⟨w.heap.size, 0, none⟩)) (w' := World.pushO w (.cells (flat vs).toArray e (0, 0))) ?_ (hnext _ _ (Good.put hR' hN (mb_upd hD (dst_lt hd hdst)) hd ?_ fun b hb => by simp [blk] at hb))
  · simp [execOp, ho, Instr.box, newVar, newRow, hzc, World.pushO]
  · have := V.ptr (X := X) (cl := cl) (w := World.pushO w (.cells (flat vs).toArray e (0, 0))) (m := upd m d w.heap.size) (lv := lval (upd m d w.heap.size) (s.addBox d ((s.ev e x).segs X)) a.tmps (World.pushO w (.cells (flat vs).toArray e (0, 0)))) d 0
    rw [upd_same] at this; exact this

theorem Vs.oc : ∀ {v : List (AV X.U)} {c : List Value}, Vs X cl w m lv v c → ∀ x ∈ flat c, x.oneCell' = true
  | _, _, .nil, x, h => by cases h
  | _, _, .cons h1 h2 h3, x, h => by
    rw [flat_cons, List.mem_append] at h
    rcases h with h | h
    · exact h2.2 x h
    · exact h3.oc x h

theorem same_off {ca cn cm cb : List Value} {n i : Nat} (h1 : (flat cn).length = n) (h2 : (flat cm).length = n) (h : i < (flat ca).length ∨ (flat ca).length + n ≤ i) : (flat (ca ++ (cn ++ cb)))[i]? = (flat (ca ++ (cm ++ cb)))[i]? := by
  rw [flat_append ca, flat_append ca, flat_append cn, flat_append cm]
  rcases h with h | h
  · rw [List.getElem?_append_left h, List.getElem?_append_left h]
  · rw [List.getElem?_append_right (by omega), List.getElem?_append_right (by omega), List.getElem?_append_right (by omega), List.getElem?_append_right (by omega), h1, h2]

theorem store_sound (hX : XOK X) (hT : TOK P X) {N : Nat} {o : Oper} {t : TypeId} {x y : Operand} {id off n : Nat} {td : TD} {bb : Nat} {c c2 : List (AV X.U)} (ho : o.op = .store t x y) (hev : s.ev 0 x = .ptr id off)
    (hty : X.ty t = some ⟨td, n, bb⟩) (hc : assoc s.hp id = some c) (hp : (s.ev t y).plain = true) (hs : putSpan X c off n ((s.ev t y).segs X) = some c2) (hd : dstOk N o (AV.pv (U := X.U) (.tup [])) = true) :
    OpOk P N s o (.pv (.tup [])) (s.setBox id c2) := by
  intro B a w ⟨cl, m, hR, hN, hD⟩ next Q hnext
  obtain ⟨vs, e, h1, h2⟩ := hR.box id c hc
  obtain ⟨cn, g1, g2⟩ := segs_plain (evV hX hR t y) hp
  obtain ⟨ca, cm, cb, rfl, k1, k2, k3, k4⟩ := h1.putSpan g1 hs
  obtain ⟨info, d, i1, i2, _⟩ := hT.ty t _ hty
  have hx := evV hX hR 0 x
  rw [hev] at hx
  have hxe : a.eval x = .pointer (some ⟨m id, off, none⟩) := by
    generalize a.eval x = z at hx
    cases hx; rfl
  have hst := run_storeCells_at P (m id) off e (flat cn) 0 (flat (ca ++ (cm ++ cb))).toArray w h2 (by simp [flat_append, ← k2, k3, k4]) (fun v hv => g1.oc v hv)
  have hnew : ((flat (ca ++ (cm ++ cb))).toArray.toList.take (off + 0) ++ flat cn ++ (flat (ca ++ (cm ++ cb))).toArray.toList.drop (off + 0 + (flat cn).length)).toArray = (flat (ca ++ (cn ++ cb))).toArray := by
    congr 1
    simp only [List.toList_toArray, Nat.add_zero, flat_append, ← k2, k4, ← k3, List.append_assoc]
    simp [List.drop_append]
  rw [hnew] at hst
  have hsv : (Instr.storeAt t (a.eval x) (a.eval y)).run P w = .ok () (w.setRow (m id) (flat (ca ++ (cn ++ cb))).toArray) := by
    have hsz : (a.eval y).cells.size = n := by rw [← Array.length_toList, g2, k4]
    simp only [Instr.storeAt, hxe, Instr.sureAddr, Sem.run_bind, Sem.run_pure, Result.andThen_ok, storeVar, sizeOf, typeInfo, run_program, i1, i2, hsz, ne_eq, not_true_eq_false, if_false, g2, hst]
  have hmid := hR.mine (.box id) _ ⟨⟨c, hc⟩, rfl⟩
  have hR' : Rel B cl m (s.setBox id c2) a.tmps (w.setRow (m id) (flat (ca ++ (cn ++ cb))).toArray) := by
    refine hR.setBox hX.wpos hc h2 k1 (fun v hv => ?_) rfl rfl rfl ?_ (fun b hb => ?_) (setRow_heap w (m id) _ _ e (0, 0) h2) ?_
    · obtain ⟨a', r, l', b', q1, q2, rfl⟩ : ∃ a' r l' b', takeW X c off = some (a', r) ∧ takeW X r n = some (l', b') ∧ c2 = a' ++ ((s.ev t y).segs X ++ b') := by
        unfold Go.AX.putSpan at hs
        split at hs
        · rename_i a' r q1
          split at hs
          · rename_i l' b' q2
            split at hs
            · cases hs; exact ⟨a', r, l', b', q1, q2, rfl⟩
            · cases hs
          · cases hs
        · cases hs
      obtain ⟨rfl, _⟩ := takeW_eq q1
      obtain ⟨rfl, _⟩ := takeW_eq q2
      have hb := hR.bok id _ hc
      simp only [List.mem_append] at hv
      rcases hv with hv | hv | hv
      · exact hb v (by simp [hv])
      · have : (s.ev t y).men 0 = true ∨ (s.ev t y).men 0 = false := by cases (s.ev t y).men 0 <;> simp
        cases hy : s.ev t y with
        | pv p => rw [hy] at hv; simp only [AV.segs, List.mem_map] at hv; obtain ⟨_, _, rfl⟩ := hv; rfl
        | ptr i o => rw [hy] at hv; simp only [AV.segs, List.mem_singleton] at hv; subst hv; rfl
        | fn f a b => rw [hy] at hv; simp only [AV.segs, List.mem_singleton] at hv; subst hv; rfl
        | _ => rw [hy] at hp; simp [AV.plain] at hp
      · exact hb v (by simp [hv])
    · simp [World.setRow]
    · simp only [World.setRow, Array.getElem?_modify]
      rw [if_neg (by omega)]
    · intro off' b hob
      obtain ⟨u, q1, q2⟩ := hob
      have hold : segAt X c off' = some (.own u) ∧ (off' < off ∨ off + n ≤ off') := by
        rcases segAt_putSpan hX.wpos hs q1 with h | ⟨_, h⟩
        · exact h
        · have := segAt_mem h
          cases hy : s.ev t y with
          | pv p => rw [hy] at this; simp only [AV.segs, List.mem_map] at this; obtain ⟨_, _, h⟩ := this; cases h
          | ptr i o => rw [hy] at this; simp [AV.segs] at this
          | fn f a b => rw [hy] at this; simp [AV.segs] at this
          | _ => rw [hy] at hp; simp [AV.plain] at hp
      have hsame : (flat (ca ++ (cn ++ cb)))[off']? = (flat (ca ++ (cm ++ cb)))[off']? := same_off k4 k3 (by rw [k2]; exact hold.2)
      rw [hsame] at q2
      have how := (ow_cell hR hc h2).mpr ⟨u, hold.1, q2⟩
      refine ⟨fun l hl => hR.sep _ _ _ hl how, fun off2 ⟨u2, p1, p2⟩ => ?_, hR.mine _ _ how⟩
      have hold2 : segAt X c off2 = some (.own u2) ∧ (off2 < off ∨ off + n ≤ off2) := by
        rcases segAt_putSpan hX.wpos hs p1 with h | ⟨_, h⟩
        · exact h
        · have := segAt_mem h
          cases hy : s.ev t y with
          | pv p => rw [hy] at this; simp only [AV.segs, List.mem_map] at this; obtain ⟨_, _, h⟩ := this; cases h
          | ptr i o => rw [hy] at this; simp [AV.segs] at this
          | fn f a b => rw [hy] at this; simp [AV.segs] at this
          | _ => rw [hy] at hp; simp [AV.plain] at hp
      have hsame2 : (flat (ca ++ (cn ++ cb)))[off2]? = (flat (ca ++ (cm ++ cb)))[off2]? := same_off k4 k3 (by rw [k2]; exact hold2.2)
      rw [hsame2] at p2
      have := hR.sep _ _ _ ((ow_cell hR hc h2).mpr ⟨u2, hold2.1, p2⟩) how
      cases this; rfl
  exact wp_of_skip (w' := w.setRow (m id) (flat (ca ++ (cn ++ cb))).toArray) (by simp [execOp, ho, hsv]) (hnext _ _ (Good.put hR' hN hD hd (.pv (.tup .nil)) fun b hb => by simp [blk] at hb))

theorem litElems_sound {a : Act} {ev : TypeId → Operand → AV X.U} (hev : ∀ t x v, ev t x = .pv v → VP X cl w v (a.eval x)) {e : TypeId} {sz : Nat} {place : Nat → Option (Nat × Nat)} (hpl : ∀ i, place i = some (i * sz, sz)) :
    ∀ (parts : List (Nat × Operand)) (k : Nat) (l : List (PV X.U)), litElems X ev e k parts = some l → (∀ v ∈ l, (AV.pv v).plain = true ∧ segsW X ((AV.pv v).segs X) = sz) →
      ∃ vs : List Value, vs.length = l.length ∧ (∀ i (h : i < vs.length) (h' : i < l.length), VP X cl w l[i] vs[i] ∧ oc vs[i] sz) ∧
        ∀ cells : Array Value, cells.size = (k + l.length) * sz → Instr.fill place cells (parts.map fun p => (p.1, a.eval p.2)) = some (cells.toList.take (k * sz) ++ flat vs).toArray
  | [], k, l, h, _ => by
    simp only [litElems, Option.some.injEq] at h; subst h
    refine ⟨[], rfl, (fun i h => nomatch h), fun cells hs => ?_⟩
    simp only [List.map_nil, Instr.fill, flat_nil, List.append_nil, Option.some.injEq]
    rw [List.take_of_length_le (by simp at hs ⊢; omega)]
  | (i, x) :: r, k, l, h, hel => by
    simp only [litElems] at h
    split at h
    case isFalse => cases h
    rename_i hik; subst hik
    split at h
    case h_2 => cases h
    rename_i v hv
    cases hr : litElems X ev e (i + 1) r with
    | none => simp [hr] at h
    | some l' =>
      simp only [hr, Option.map_some, Option.some.injEq] at h; subst h
      obtain ⟨hp, hw⟩ := hel v (by simp)
      have h1 := hev e x v hv
      · obtain ⟨vs1, g1, g2⟩ := segs_agg h1 hp
        have hsz : (a.eval x).cells.size = sz := by rw [← Array.length_toList, g2, ← hw]; exact (VPs.Vs (m := fun b => b) (lv := fun _ => none) g1).size
        have hoc : oc (a.eval x) sz := ⟨hsz, fun y hy => by rw [g2] at hy; exact (VPs.Vs (m := fun b => b) (lv := fun _ => none) g1).oc y hy⟩
        obtain ⟨vs, j1, j2, j3⟩ := litElems_sound hev hpl r (i + 1) l' hr (fun v hv => hel v (by simp [hv]))
        refine ⟨a.eval x :: vs, by simp [j1], fun q hq hq' => ?_, fun cells hs => ?_⟩
        · cases q with
          | zero => exact ⟨h1, hoc⟩
          | succ q => exact j2 q (by simpa using hq) (by simpa using hq')
        · have hle : i * sz + (a.eval x).cells.size ≤ cells.size := by rw [hsz, hs, List.length_cons, Nat.add_mul, Nat.add_mul]; omega
          have hs2 : (cells.toList.take (i * sz) ++ ((a.eval x).cells.toList ++ cells.toList.drop (i * sz + (a.eval x).cells.size))).toArray.size = (i + 1 + l'.length) * sz := by
            have : i * sz ≤ cells.size := by omega
            simp [Nat.min_eq_left this, hsz, hs, Nat.add_mul]; omega
          simp only [List.map_cons, Instr.fill, hpl, hsz, ne_eq, not_true_eq_false, decide_false, Bool.false_or]
          have hle' : i * sz + sz ≤ cells.size := by rw [hsz] at hle; exact hle
          rw [if_neg (by simp only [decide_eq_true_eq]; omega)]
          have := fill_one (cells := cells) (off := i * sz) (v := a.eval x) hle
          rw [this, j3 _ hs2]
          congr 2
          have h4 : i * sz ≤ cells.toList.length := by simp; omega
          rw [flat_cons]
          simp only [List.toList_toArray]
          rw [List.take_append, List.take_take, List.take_append]
          simp only [List.length_take, Nat.min_eq_left h4, Array.length_toList, hsz]
          have e1 : (i + 1) * sz - i * sz = sz := by rw [Nat.add_mul]; omega
          have e0 : min (i * sz) cells.size = i * sz := Nat.min_eq_left (by simpa using h4)
          rw [e0, e1, Nat.min_eq_right (by rw [Nat.add_mul]; omega), Nat.sub_self, List.take_zero, List.append_nil, List.take_of_length_le (l := (a.eval x).cells.toList) (by simp [hsz]), List.append_assoc]

theorem Ow.push (hR : Rel B cl m s tm w) {ob : Obj} {l : OL} {b : Nat} (h : Ow m s tm (World.pushO w ob) l b) : Ow m s tm w l b := by
  cases l with
  | slot i => exact h
  | cell id off =>
    obtain ⟨c, u, h1, h2, h3⟩ := h
    refine ⟨c, u, h1, h2, ?_⟩
    rw [cell?_of_heap (heap_push _ _ _ (hR.mine (.box id) _ ⟨⟨c, h1⟩, rfl⟩).1)] at h3; exact h3
  | box id => exact h

theorem buildSlice_sound (hX : XOK X) (hT : TOK P X) {N : Nat} {o : Oper} {t e : TypeId} {n sz : Nat} {parts : Array (Nat × Operand)} {td : TD} {b1 b2 b3 : Nat} {l : List (PV X.U)} {z : List (AV X.U)} {u : X.U}
    {ev : TypeId → Operand → AV X.U} {s1 : St X.U} (hst : ∀ {B : Base} {cl m : Nat → Nat} {a : Act} {w : World}, Rel B cl m s a.tmps w → ∃ cl', Rel B cl' m s1 a.tmps w ∧ ∀ t x v, ev t x = .pv v → VP X cl' w v (a.eval x))
    (ho : o.op = .buildSlice t n parts) (hty : X.ty t = some ⟨.slice e, b1, b2⟩) (hte : X.ty e = some ⟨td, sz, b3⟩) (hz : X.zero e = some z) (hl : litElems X ev e 0 parts.toList = some l)
    (hn : l.length = n ∧ n * sz ≤ 4096) (hu : X.lit t l = some u) (hel : X.esz u = sz ∧ l.all (fun v => (AV.pv v).plain && segsW X ((AV.pv v).segs X) == sz) = true) (hd : dstOk N o (AV.own u) = true) :
    OpOk P N s o (.own u) s1 := by
  intro B a w ⟨cl0, m, hR0, hN, hD⟩ next Q hnext
  obtain ⟨cl, hR, hev⟩ := hst hR0
  have hel2 : ∀ v ∈ l, (AV.pv v).plain = true ∧ segsW X ((AV.pv v).segs X) = sz := fun v hv => by
    have := List.all_eq_true.mp hel.2 v hv
    simpa using this
  obtain ⟨i1, zv, vz, q1, q2, q3, _⟩ := hT.zero e z hz
  obtain ⟨info, d, g1, g2, g3, g4, g5⟩ := hT.ty e _ hte
  rw [q1] at g1; cases g1
  simp only at g2
  obtain ⟨get, hview, hget⟩ := hX.lit t l u hu
  obtain ⟨vs, j1, j2, j3⟩ := litElems_sound (place := fun i => some (i * sz, sz)) hev (fun _ => rfl) parts.toList 0 l hl hel2
  simp only [Nat.zero_mul, List.take_zero, List.nil_append, Nat.zero_add] at j3
  have hlim : ¬ n * sz > 2 ^ 24 := by have := hn.2; omega
  have hrun : (execOp a.eval o).run P w = .ok (.value (.slice (some ⟨w.heap.size, 0, none⟩) n n)) (World.pushO w (.cells (flat vs).toArray e (0, 0))) := by
    have hparts : (parts.map fun x => (x.1, a.eval x.2)).toList = parts.toList.map fun p => (p.1, a.eval p.2) := by simp
    have j4 : ∀ f : Nat → Value, Instr.fill (fun i => some (i * sz, sz)) (Array.map f (Array.range (n * sz))) (parts.toList.map fun p => (p.1, a.eval p.2)) = some (flat vs).toArray := fun f => j3 _ (by simp [hn.1])
    by_cases h0 : n * sz = 0
    · have h0' : n = 0 ∨ sz = 0 := Nat.mul_eq_zero.mp h0
      simp only [execOp, ho, Instr.buildSlice, Sem.run_bind, run_underlying (slice_ty hT hty), Result.andThen_ok, sizeOf, typeInfo, run_program, q1, g2, Sem.run_pure, if_neg hlim, if_pos h0, hparts, j4]
      simp [newRow, World.pushO]
    · simp only [execOp, ho, Instr.buildSlice, Sem.run_bind, run_underlying (slice_ty hT hty), Result.andThen_ok, sizeOf, typeInfo, run_program, q1, g2, Sem.run_pure, if_neg hlim, if_neg h0, hparts, j4, zeroValue, q2]
      simp [newRow, World.pushO]
  refine wp_of_run hrun (hnext _ _ ?_)
  have hR' : Rel B cl m s1 a.tmps (World.pushO w (.cells (flat vs).toArray e (0, 0))) :=
    hR.world hX.wpos (hR.fr.push _) (Ext.push _ _ _) (by rw [size_push]; omega) (fun l b hb => ⟨heap_push _ _ _ (hR.mine l b hb).1, (hR.mine l b hb).2.2⟩) (fun b hb => hR.top b (by rw [size_push] at hb; omega))
  have hlen : (flat vs).length = n * sz := by
    have : ∀ q : List Value, (∀ v ∈ q, oc v sz) → (flat q).length = q.length * sz := by
      intro q hq
      induction q with
      | nil => simp [flat]
      | cons c r ih => rw [flat_cons, List.length_append, ih (fun v hv => hq v (by simp [hv])), Array.length_toList, (hq c (by simp)).1, List.length_cons, Nat.add_mul]; omega
    rw [this vs (fun v hv => by obtain ⟨i, hi, rfl⟩ := List.getElem_of_mem hv; exact (j2 i hi (by omega)).2), j1, hn.1]
  have hown : OwnAt X cl (World.pushO w (.cells (flat vs).toArray e (0, 0))) u (some ⟨w.heap.size, 0, none⟩) n n := by
    refine ⟨vs, get, by rw [← hn.1]; exact hview, by rw [j1, hn.1], fun i hi => ?_, fun v hv => ?_, Nat.le_refl _, .inr ⟨_, _, _, _, rfl, rfl, hR.top _ (Nat.le_refl _), heap_push_new _ _, ?_, fun j _ h => by simp at h, fun j c hj => by simpa using hj⟩⟩
    · have := (j2 i hi (by omega)).1
      rw [hget i (by omega)] at this
      exact this.mono (Ext.push _ _ _)
    · obtain ⟨i, hi, rfl⟩ := List.getElem_of_mem hv
      rw [hel.1]; exact (j2 i hi (by omega)).2
    · rw [hel.1]; simp [hlen]
  refine Good.put hR' hN hD hd (.own hown) fun b hb => ?_
  simp only [blk, Option.some.injEq] at hb; subst hb
  exact ⟨fun l hl => by have := (hR.mine l _ (Ow.push hR hl)).1; omega, by rw [size_push]; omega, .inr hR.fr.size, hR.top _ (Nat.le_refl _)⟩
end Go.AX
