/-
  The operations that only tell a value, one by one.
-/
import Derived.Test.YtepekanlplbciaaAxOpB
namespace Go.AX
open Go
variable {X : Univ} {P : Program} {cl m : Nat → Nat} {w : World} {B : Base} {s : St X.U} {tm : Array Value} {ρ : Type} {lv : Lc → Option Value}

/-- An operation yields such a value and leaves the world alone. -/
def VOk (P : Program) (s : St X.U) (o : Oper) (v : AV X.U) : Prop :=
  ∀ (B : Base) (cl m : Nat → Nat) (a : Act) (w : World), Rel B cl m s a.tmps w → ∃ c, (execOp a.eval o).run P w = .ok (.value c) w ∧ V X cl w m (lval m s a.tmps w) v c

theorem addr_add {ad : Addr} (h : ad.spot = none) (n : Nat) : ad.add n = ⟨ad.block, ad.off + n, none⟩ := by
  unfold Addr.add
  split
  · rename_i h0; subst h0; cases ad; simp at h; simp [h]
  · simp [h]
theorem addr_eta {ad : Addr} (h : ad.spot = none) : ad = ⟨ad.block, ad.off, none⟩ := by cases ad; simp at h; simp [h]

theorem nonscalar_agg {p : PV X.U} {c : Value} (h : VP X cl w p c) (hp : (AV.pv p).plain = true) (hs : scalar X (.pv p) = false) : c = .agg c.cells := by
  cases h with
  | bool | int | str | mp => simp [scalar] at hs
  | tup h => simp [AV.plain] at hp
  | sl hu => simp [scalar, hu] at hs
  | _ => rfl

theorem mem_load {ad : Addr} {cs : List Value} (h : MemAt cl w ad cs) : (loadCells ad cs.length).run P w = .ok cs.toArray w :=
  run_loadCells_list w ad cs fun j v hv => by rw [addr_add h.1]; exact (h.2 j v hv).2
theorem MemAt.part {ad : Addr} {cs new rest : List Value} {off : Nat} (h : MemAt cl w ad cs) (he : cs.drop off = new ++ rest) : MemAt cl w ⟨ad.block, ad.off + off, none⟩ new :=
  ⟨rfl, fun j v hv => by
    have : cs[off + j]? = some v := by
      rw [← List.getElem?_drop, he, List.getElem?_append_left]
      · exact hv
      · exact (List.getElem?_eq_some_iff.mp hv).1
    have := h.2 _ _ this
    rw [← Nat.add_assoc] at this; exact this⟩

theorem load_agg (hT : TOK P X) {t : TypeId} {n : Nat} {ad : Addr} {cs : List Value} (h : isAggT X t = some (true, n)) (hm : ∀ j v, cs[j]? = some v → w.cell? (ad.add j) = some v) (hl : cs.length = n) :
    (loadVar t ad).run P w = .ok (.agg cs.toArray) w := by
  obtain ⟨h1, h2⟩ := isAggT_run hT h
  simp only [loadVar, Sem.run_bind, h1, Result.andThen_ok, if_true, h2, ← hl, run_loadCells_list w ad cs hm, Sem.run_pure]
theorem load_one (hT : TOK P X) {t : TypeId} {n : Nat} {ad : Addr} {c : Value} (h : isAggT X t = some (false, n)) (hm : w.cell? ad = some c) : (loadVar t ad).run P w = .ok c w := by
  obtain ⟨h1, h2⟩ := isAggT_run hT h
  simp [loadVar, h1, hm, Result.andThen]

theorem box_cells {id : Nat} {vs : List Value} {e : TypeId} {fz : Nat × Nat} (hh : w.heap[m id]? = some (.cells (flat vs).toArray e fz)) (off : Nat) : w.cell? ⟨m id, off, none⟩ = (flat vs)[off]? := by
  simp [World.cell?, hh]

theorem ownV {l : Lc} {u : X.U} (h : Rel B cl m s tm w) (hu : s.own l = some u) : ∃ a n cap, cval m tm w l = .slice a n cap ∧ OwnAt X cl w u a n cap := by
  cases l with
  | slot i =>
    have hl : s.look i = .own u := by
      rw [own_slot] at hu; cases h : s.look i <;> rw [h] at hu <;> simp [AV.own?] at hu; rw [hu]
    have := h.env i
    rw [hl] at this
    simp only [cval]
    generalize tm.getD i Go.undef = c at this
    cases this with
    | own h => exact ⟨_, _, _, rfl, h⟩
  | cell id off =>
    obtain ⟨c, hc, hs⟩ := own_cell hu
    obtain ⟨vs, e, h1, h2⟩ := h.box id c hc
    obtain ⟨ca, cx, cb, rfl, k1, k2, k3⟩ := h1.seg hs
    cases k1 with
    | own ho =>
      refine ⟨_, _, _, ?_, ho⟩
      simp only [cval, box_cells h2]
      simp [flat_append, flat_cons, ← k3, Value.cells]

theorem flat_row {sz : Nat} : ∀ {vs : List Value} {i : Nat} {v : Value}, (∀ v ∈ vs, oc v sz) → vs[i]? = some v → ∃ ca cb, flat vs = ca ++ (v.cells.toList ++ cb) ∧ ca.length = i * sz
  | [], i, v, _, h => by simp at h
  | x :: r, 0, v, ho, h => by
    simp only [List.getElem?_cons_zero, Option.some.injEq] at h; subst h
    exact ⟨[], flat r, rfl, by simp⟩
  | x :: r, i + 1, v, ho, h => by
    simp only [List.getElem?_cons_succ] at h
    obtain ⟨ca, cb, h1, h2⟩ := flat_row (fun v hv => ho v (List.mem_cons_of_mem _ hv)) h
    refine ⟨x.cells.toList ++ ca, cb, by rw [flat_cons, h1, List.append_assoc], ?_⟩
    rw [List.length_append, h2, Array.length_toList, (ho x List.mem_cons_self).1, Nat.add_mul]; omega

theorem own_cells {u : X.U} {a : Addr} {n cap : Nat} (h : OwnAt X cl w u (some a) n cap) {vs : List Value} {get : Nat → PV X.U} (hu : X.view u = .sl n get) {i : Nat} (hi : i < n) :
    ∃ c, VP X cl w (get i) c ∧ oc c (X.esz u) ∧ a.spot = none ∧ ∀ j x, c.cells.toList[j]? = some x → w.cell? ⟨a.block, a.off + i * X.esz u + j, none⟩ = some x := by
  obtain ⟨vs, get', h1, h2, h3, h4, h5, h6⟩ := h
  rw [hu] at h1; cases h1
  rcases h6 with ⟨h6, _⟩ | ⟨ad, arr, e, fz, ha, hs, hc, hh, hl, hf, hcs⟩
  · cases h6
  · cases ha
    have hiv : i < vs.length := by omega
    obtain ⟨ca, cb, k1, k2⟩ := flat_row h4 (List.getElem?_eq_getElem hiv)
    refine ⟨vs[i], h3 i hiv, h4 _ (List.getElem_mem hiv), hs, fun j x hx => ?_⟩
    have hjl : j < vs[i].cells.toList.length := (List.getElem?_eq_some_iff.mp hx).1
    have : (flat vs)[i * X.esz u + j]? = some x := by
      rw [k1, List.getElem?_append_right (by omega), List.getElem?_append_left (by omega)]
      rw [show i * X.esz u + j - ca.length = j by omega]; exact hx
    have := hcs _ _ this
    rw [← Nat.add_assoc] at this
    simp [World.cell?, hh, this]

theorem own_nonnil {u : X.U} {a : Option Addr} {n cap : Nat} (h : OwnAt X cl w u a n cap) {i : Nat} (hi : i < n) : ∃ ad, a = some ad := by
  obtain ⟨vs, get', h1, h2, h3, h4, h5, h6⟩ := h
  rcases h6 with ⟨_, h6⟩ | ⟨ad, _, _, _, ha, _⟩
  · omega
  · exact ⟨ad, ha⟩

theorem sl_inv {u : X.U} {n : Nat} {get : Nat → PV X.U} {c : Value} (h : VP X cl w (.typ u) c) (hu : X.view u = .sl n get) :
    ∃ a cap vs, c = .slice a n cap ∧ vs.length = n ∧ (∀ i (h : i < vs.length), VP X cl w (get i) vs[i]) ∧ n ≤ cap ∧ (∀ v ∈ vs, oc v (X.esz u)) ∧ RowAt cl w a (X.esz u) vs := by
  cases h with
  | seg h1 => rw [hu] at h1; cases h1
  | arr h1 => rw [hu] at h1; cases h1
  | sl h1 h2 h3 h4 h5 h6 => rw [hu] at h1; cases h1; exact ⟨_, _, _, rfl, h2, h3, h4, h5, h6⟩

theorem int_inv {k : IntKind} {n : Int} {c : Value} {lv : Lc → Option Value} (h : V X cl w m lv (.pv (.int k n)) c) : c = .int k n := by
  cases h with | pv h => cases h; rfl
theorem str_inv {z : ByteArray} {c : Value} {lv : Lc → Option Value} (h : V X cl w m lv (.pv (.str z)) c) : c = .string z := by
  cases h with | pv h => cases h; rfl
theorem bool_inv {b : Bool} {c : Value} {lv : Lc → Option Value} (h : V X cl w m lv (.pv (.bool b)) c) : c = .bool b := by
  cases h with | pv h => cases h; rfl

/-! Loading. -/
theorem load_sound (hX : XOK X) (hT : TOK P X) {o : Oper} {t : TypeId} {x : Operand} (ho : o.op = .load t x) {K : AV X.U → Option ρ} {r : ρ} (h : valK X ⟨s.ev, s.own, assoc s.hp⟩ o K = some r) :
    ∃ v, K v = some r ∧ v.hold? = none ∧ VOk P s o v := by
  unfold valK at h
  simp only [ho] at h
  have hrun : ∀ {a : Act} {w : World} {c : Value} {ad : Addr}, a.eval x = .pointer (some ad) → (loadVar t ad).run P w = .ok c w → (execOp a.eval o).run P w = .ok (.value c) w := by
    intro a w c ad h1 h2
    simp [execOp, ho, Instr.loadAt, h1, Instr.sureAddr, h2]
  split at h
  · -- a told element
    rename_i v hev
    split at h
    · rename_i n hag
      split at h
      case isFalse => cases h
      rename_i hpl
      simp only [Bool.and_eq_true, Bool.not_eq_true'] at hpl
      split at h
      case isFalse => cases h
      rename_i hn
      refine ⟨_, h, rfl, fun B cl m a w hR => ?_⟩
      have hv := evV hX hR 0 x
      rw [hev] at hv
      generalize hc0 : a.eval x = c0 at hv
      cases hv with
      | @ref _ c ad h1 h2 =>
        obtain ⟨vs, g1, g2⟩ := segs_agg h1 hpl.1
        refine ⟨c, hrun hc0 ?_, .pv h1⟩
        have hsz : (flat vs).length = n := by rw [← hn]; exact (VPs.Vs (m := m) (lv := fun _ => none) g1).size
        rw [load_agg hT hag (cs := c.cells.toList) (fun j v hv => by rw [addr_add h2.1]; exact (h2.2 j v hv).2) (by rw [g2, hsz]), nonscalar_agg h1 hpl.1 hpl.2]
        simp [Value.cells]
    · rename_i hag
      split at h
      case isFalse => cases h
      rename_i hsc
      refine ⟨_, h, rfl, fun B cl m a w hR => ?_⟩
      have hv := evV hX hR 0 x
      rw [hev] at hv
      generalize hc0 : a.eval x = c0 at hv
      cases hv with
      | @ref _ c ad h1 h2 =>
        have hcc := scalar_cells (m := m) (lv := fun _ => none) (.pv h1) hsc
        refine ⟨c, hrun hc0 (load_one hT hag ?_), .pv h1⟩
        have := (h2.2 0 c (by rw [hcc]; rfl)).2
        rw [Nat.add_zero] at this
        rw [addr_eta h2.1]; exact this
    · cases h
  · -- a pointer that is told
    rename_i id hev
    split at h
    case h_2 => cases h
    rename_i k hag
    refine ⟨_, h, rfl, fun B cl m a w hR => ?_⟩
    have hv := evV hX hR 0 x
    rw [hev] at hv
    generalize hc0 : a.eval x = c0 at hv
    cases hv with
    | @rp _ ad h2 =>
      refine ⟨_, hrun hc0 (load_one hT hag ?_), .ptr id 0⟩
      have := (h2.2 0 _ rfl).2
      rw [Nat.add_zero] at this
      rw [addr_eta h2.1]; exact this
  · -- a box
    rename_i id off hev
    split at h
    case h_2 => cases h
    rename_i c hc
    have hptr : ∀ {B : Base} {cl m : Nat → Nat} {a : Act} {w : World}, Rel B cl m s a.tmps w → a.eval x = .pointer (some ⟨m id, off, none⟩) := by
      intro B cl m a w hR
      have hv := evV hX hR 0 x
      rw [hev] at hv
      generalize a.eval x = c0 at hv
      cases hv; rfl
    split at h
    · rename_i n hag
      split at h
      case h_2 => cases h
      rename_i l hl
      split at h
      case h_2 => cases h
      rename_i v hm
      refine ⟨v, h, ?_, fun B cl m a w hR => ?_⟩
      · unfold mkAgg at hm
        split at hm
        · split at hm <;> (cases hm; rfl)
        · cases hm
      · obtain ⟨vs, e, h1, h2⟩ := hR.box id c hc
        obtain ⟨ca, cm, cb, rfl, k1, k2, k3⟩ := h1.span hl
        obtain ⟨q1, _⟩ := mkAgg_sound hX k1 hm
        refine ⟨_, hrun (hptr hR) (load_agg hT hag (cs := flat cm) ?_ k3), q1⟩
        intro j v hv
        rw [addr_add rfl]
        show w.cell? ⟨m id, off + j, none⟩ = _
        rw [box_cells h2, flat_append, flat_append, List.getElem?_append_right (by omega), show off + j - (flat ca).length = j by omega, List.getElem?_append_left (List.getElem?_eq_some_iff.mp hv).1]; exact hv
    · rename_i hag
      split at h
      · rename_i u hs
        refine ⟨_, h, rfl, fun B cl m a w hR => ?_⟩
        obtain ⟨vs, e, h1, h2⟩ := hR.box id c hc
        obtain ⟨ca, cx, cb, rfl, k1, k2, k3⟩ := h1.seg hs
        have hcell : w.cell? ⟨m id, off, none⟩ = some cx := by
          rw [box_cells h2]
          cases k1; simp [flat_append, flat_cons, ← k3, Value.cells]
        refine ⟨cx, hrun (hptr hR) (load_one hT hag hcell), .bor fun y hy => ?_⟩
        obtain ⟨_, rfl⟩ := lval_some hy
        simp [cval, hcell]
      · rename_i v hnv hs
        split at h
        case isFalse => cases h
        rename_i hsc
        refine ⟨v, h, ?_, fun B cl m a w hR => ?_⟩
        · cases v <;> first | rfl | exact absurd rfl (hnv _) | (simp [scalar] at hsc)
        obtain ⟨vs, e, h1, h2⟩ := hR.box id c hc
        obtain ⟨ca, cx, cb, rfl, k1, k2, k3⟩ := h1.seg hs
        refine ⟨cx, hrun (hptr hR) (load_one hT hag ?_), k1⟩
        rw [box_cells h2]
        simp [flat_append, flat_cons, ← k3, scalar_cells k1 hsc]
      · cases h
    · cases h
  · -- an element of an array in a box
    rename_i id off i sz hev
    split at h
    case h_2 => cases h
    rename_i c hc
    split at h
    case h_2 => cases h
    rename_i u hs
    split at h
    case h_2 => cases h
    rename_i n get b k hview hag
    split at h
    case isFalse => cases h
    rename_i hin
    split at h
    case isFalse => cases h
    rename_i hsz
    split at h
    case isFalse => cases h
    rename_i hpl
    simp only [Bool.and_eq_true, beq_iff_eq] at hpl
    refine ⟨_, h, rfl, fun B cl m a w hR => ?_⟩
    have hv := evV hX hR 0 x
    rw [hev] at hv
    generalize hc0 : a.eval x = c0 at hv
    cases hv with
    | aptr =>
      obtain ⟨z1, z2⟩ := hsz
      obtain ⟨vs, e, h1, h2⟩ := hR.box id c hc
      obtain ⟨ca, cx, cb, rfl, k1, k2, k3⟩ := h1.seg hs
      cases k1 with
      | pv k1 =>
        cases k1 with
        | seg q1 _ => rw [hview] at q1; cases q1
        | sl q1 _ _ _ _ _ => rw [hview] at q1; cases q1
        | @arr _ n' get' vs' q1 q2 q3 q4 q5 =>
          rw [hview] at q1; cases q1
          have hlt : i < vs'.length := by omega
          obtain ⟨p1, p2, g1, g2⟩ := flat_row (i := i) (v := vs'[i]) q4 (List.getElem?_eq_getElem hlt)
          have p0 := q3 i hlt
          have p3 := q4 _ (List.getElem_mem hlt)
          have hcell : ∀ j v, vs'[i].cells.toList[j]? = some v → w.cell? ⟨m id, off + i * sz + j, none⟩ = some v := by
            intro j v hj
            have hjl := (List.getElem?_eq_some_iff.mp hj).1
            rw [box_cells h2, flat_append, flat_cons]
            show (flat ca ++ (flat vs' ++ flat cb))[off + i * sz + j]? = some v
            rw [List.getElem?_append_right (by omega), g1, List.append_assoc, List.getElem?_append_right (by rw [g2, z1]; omega), List.append_assoc, List.getElem?_append_left (by rw [g2, z1]; omega)]
            rw [show off + i * sz + j - (flat ca).length - p1.length = j by rw [g2, z1]; omega]; exact hj
          refine ⟨vs'[i], hrun hc0 ?_, .pv p0⟩
          cases b with
          | true =>
            have hns : scalar X (.pv (get i)) = false := by have := hpl.2; revert this; cases scalar X (.pv (get i)) <;> simp
            rw [load_agg hT hag (cs := vs'[i].cells.toList) (fun j v hv => by rw [addr_add rfl]; exact hcell j v hv) (by rw [Array.length_toList, p3.1]; omega), nonscalar_agg p0 hpl.1 hns]
            simp [Value.cells]
          | false =>
            have hns : scalar X (.pv (get i)) = true := by have := hpl.2; revert this; cases scalar X (.pv (get i)) <;> simp
            have hcc := scalar_cells (m := m) (lv := fun _ => none) (.pv p0) hns
            refine load_one hT hag ?_
            have := hcell 0 vs'[i] (by rw [hcc]; rfl)
            rw [Nat.add_zero] at this; exact this
  · -- an element of what one owns
    rename_i l i sz hev
    split at h
    case h_2 => cases h
    rename_i u hu
    split at h
    case h_2 => cases h
    rename_i n get b k hview hag
    split at h
    case isFalse => cases h
    rename_i hsz
    split at h
    case isFalse => cases h
    rename_i hpl
    simp only [Bool.and_eq_true, beq_iff_eq] at hpl
    refine ⟨_, h, rfl, fun B cl m a w hR => ?_⟩
    have hv := evV hX hR 0 x
    rw [hev] at hv
    generalize hc0 : a.eval x = c0 at hv
    cases hv with
    | eptr hv =>
      obtain ⟨ad, n', cap, e1, e2, rfl⟩ := hv _ (lval_of hu)
      obtain ⟨a', n2, cap2, e3, e4⟩ := ownV hR hu
      rw [e1] at e3; cases e3
      have e4' := e4
      obtain ⟨vs, get', q1, _⟩ := e4'
      rw [hview] at q1; cases q1
      obtain ⟨c, p1, p2, p3, p4⟩ := own_cells e4 (vs := []) hview e2
      rw [addr_add p3] at hc0
      refine ⟨c, hrun hc0 ?_, .pv p1⟩
      obtain ⟨z1, z2⟩ := hsz
      cases b with
      | true =>
        have hns : scalar X (.pv (get i)) = false := by have := hpl.2; revert this; cases scalar X (.pv (get i)) <;> simp
        rw [load_agg hT hag (cs := c.cells.toList) (fun j v hv => by rw [addr_add rfl, ← z1]; exact p4 j v hv) (by rw [Array.length_toList, p2.1]; omega), nonscalar_agg p1 hpl.1 hns]
        simp [Value.cells]
      | false =>
        have hns : scalar X (.pv (get i)) = true := by have := hpl.2; revert this; cases scalar X (.pv (get i)) <;> simp
        have hcc := scalar_cells (m := m) (lv := fun _ => none) (.pv p1) hns
        refine load_one hT hag ?_
        have := p4 0 c (by rw [hcc]; rfl)
        rw [Nat.add_zero, z1] at this; exact this
  · cases h
end Go.AX
