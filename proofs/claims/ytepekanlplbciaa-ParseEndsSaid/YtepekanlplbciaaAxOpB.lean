/-
  Parts of values, structs that are built, what is loaded.
-/
import Derived.Test.YtepekanlplbciaaAxOpA
import Derived.Laws.Tables
import Derived.Laws.Cells
namespace Go.AX
open Go
variable {X : Univ} {P : Program} {cl m : Nat → Nat} {w : World} {B : Base} {s : St X.U} {tm : Array Value} {ρ : Type} {lv : Lc → Option Value}

theorem oc_one {c : Value} (h : c.cells = #[c]) (h1 : c.oneCell' = true) : oc c 1 := ⟨by rw [h]; rfl, fun x hx => by rw [h] at hx; simp at hx; rw [hx]; exact h1⟩

theorem VPs.Vs : ∀ {cs : List (PV X.U)} {vs : List Value}, VPs X cl w cs vs → Go.AX.Vs X cl w m lv (cs.map .pv) vs
  | _, _, .nil => .nil
  | _, _, .cons h1 h2 h3 => .cons (.pv h1) h2 (VPs.Vs h3)
theorem Vs.pvs : ∀ {l : List (AV X.U)} {vs : List Value} {cs : List (PV X.U)}, Vs X cl w m lv l vs → Go.AX.pvs l = some cs → VPs X cl w cs vs
  | [], _, _, .nil, h => by simp [Go.AX.pvs] at h; subst h; exact .nil
  | v :: r, _, _, .cons h1 h2 h3, h => by
    cases v <;> simp only [Go.AX.pvs, reduceCtorEq, Option.map_eq_some_iff] at h
    obtain ⟨cs', h4, rfl⟩ := h
    cases h1 with
    | pv h1 => exact .cons h1 h2 (h3.pvs h4)

theorem VPs.get : ∀ {cs : List (PV X.U)} {vs : List Value}, VPs X cl w cs vs → vs.length = cs.length ∧ ∀ i (h : i < vs.length) (h' : i < cs.length), VP X cl w cs[i] vs[i] ∧ oc vs[i] (cs[i].segW X)
  | _, _, .nil => ⟨rfl, fun i h => by cases h⟩
  | _, _, .cons h1 h2 h3 => ⟨by simp [h3.get.1], fun i h h' => by
    cases i with
    | zero => exact ⟨h1, h2⟩
    | succ i => exact h3.get.2 i _ _⟩

theorem segs_agg {p : PV X.U} {c : Value} (h : VP X cl w p c) (hp : (AV.pv p).plain = true) : ∃ vs, VPs X cl w (p.segs X) vs ∧ c.cells.toList = flat vs := by
  cases h with
  | bool b => exact ⟨[.bool b], .cons (.bool b) (oc_one rfl rfl) .nil, rfl⟩
  | int k n => exact ⟨[.int k n], .cons (.int k n) (oc_one rfl rfl) .nil, rfl⟩
  | str s => exact ⟨[.string s], .cons (.str s) (oc_one rfl rfl) .nil, rfl⟩
  | mp h1 h2 h3 => exact ⟨[_], .cons (.mp h1 h2 h3) (oc_one rfl rfl) .nil, rfl⟩
  | agg h => exact ⟨_, h, rfl⟩
  | tup h => simp [AV.plain] at hp
  | seg hu h => refine ⟨_, ?_, rfl⟩; simp only [PV.segs, hu]; exact h
  | @arr u n get vs hu hn h ho hw =>
    refine ⟨[.agg (flat vs).toArray], ?_, by simp [flat, Value.cells]⟩
    simp only [PV.segs, hu]
    refine .cons (.arr hu hn h ho hw) ?_ .nil
    simp only [PV.segW, hu]
    have hlen : ∀ (l : List Value), (∀ v ∈ l, oc v (X.esz u)) → (flat l).length = l.length * X.esz u := by
      intro l hl
      induction l with
      | nil => simp [flat]
      | cons a r ih => rw [flat_cons, List.length_append, ih (fun v hv => hl v (by simp [hv])), Array.length_toList, (hl a (by simp)).1, List.length_cons]; rw [Nat.add_mul]; omega
    refine ⟨by simp [Value.cells, hlen vs ho, hw, hn], fun x hx => ?_⟩
    simp only [Value.cells, flat, List.mem_flatMap] at hx
    obtain ⟨v, hv, hx⟩ := hx
    exact (ho v hv).2 x hx
  | sl hu hn h hc ho hr =>
    refine ⟨[.slice _ _ _], ?_, rfl⟩
    simp only [PV.segs, hu]
    refine .cons (.sl hu hn h hc ho hr) ?_ .nil
    simp only [PV.segW, hu]
    exact oc_one rfl rfl
theorem segs_plain {v : AV X.U} {c : Value} (h : V X cl w m lv v c) (hp : v.plain = true) : ∃ vs, Vs X cl w m lv (v.segs X) vs ∧ c.cells.toList = flat vs := by
  cases h with
  | pv h => obtain ⟨vs, h1, h2⟩ := segs_agg h hp; exact ⟨vs, h1.Vs, h2⟩
  | ptr i o => exact ⟨[_], .cons (.ptr i o) (oc_one rfl rfl) .nil, rfl⟩
  | fn h1 h2 => exact ⟨[_], .cons (.fn h1 h2) (oc_one rfl rfl) .nil, rfl⟩
  | _ => simp [AV.plain] at hp

theorem pack_sound (hX : XOK X) {t : TypeId} {cs : List (PV X.U)} {vs : List Value} {v : PV X.U} (h : VPs X cl w cs vs) (hp : X.pack t cs = some v) : VP X cl w v (.agg (flat vs).toArray) := by
  rcases hX.pack t cs v hp with ⟨u, rfl, hu⟩ | ⟨u, n, get, rfl, hu, hn, hg, hw⟩ | ⟨u, n, get, rfl, hu, rfl⟩
  · exact .seg hu h
  · have hget := h.get
    refine .arr hu (by rw [hget.1, hn]) (fun i hi => ?_) (fun x hx => ?_) hw
    · have := (hget.2 i hi (by omega)).1
      rw [(hg i (by omega)).1] at this; exact this
    · obtain ⟨i, hi, rfl⟩ := List.getElem_of_mem hx
      have := (hget.2 i hi (by omega)).2
      rw [(hg i (by omega)).2] at this; exact this
  · cases h with
    | cons h1 h2 h3 =>
      cases h3
      have e : ∀ c : Value, VP X cl w (.typ u) c → (.agg (flat [c]).toArray : Value) = c := by
        intro c hc
        cases hc with
        | seg q _ => rw [hu] at q; cases q
        | sl q _ _ _ _ _ => rw [hu] at q; cases q
        | arr q _ _ _ _ => simp [flat, Value.cells]
      rw [e _ h1]; exact h1
theorem mkAgg_sound (hX : XOK X) {t : TypeId} {l : List (AV X.U)} {vs : List Value} {v : AV X.U} (h : Vs X cl w m lv l vs) (hm : mkAgg X t l = some v) : V X cl w m lv v (.agg (flat vs).toArray) ∧ v.hold? = none := by
  unfold mkAgg at hm
  cases hp : pvs l with
  | none => simp [hp] at hm
  | some cs =>
    simp only [hp] at hm
    have hv := h.pvs hp
    cases hq : X.pack t cs with
    | none => simp only [hq, Option.some.injEq] at hm; subst hm; exact ⟨.pv (.agg hv), rfl⟩
    | some p => simp only [hq, Option.some.injEq] at hm; subst hm; exact ⟨.pv (pack_sound hX hv hq), rfl⟩

theorem isAggT_run (hT : TOK P X) {t : TypeId} {b : Bool} {n : Nat} (h : isAggT X t = some (b, n)) : (∀ w, (isAgg t).run P w = .ok b w) ∧ (∀ w, (sizeOf t).run P w = .ok n w) := by
  unfold isAggT at h
  cases hty : X.ty t with
  | none => simp [hty] at h
  | some ti =>
    obtain ⟨info, d, h1, h2, h3, h4, h5⟩ := hT.ty t ti hty
    have hs : ∀ w, (sizeOf t).run P w = .ok ti.size w := fun w => by simp [sizeOf, typeInfo, h1, h2]
    obtain ⟨td, sz, by'⟩ := ti
    cases td <;> simp only [hty, Option.some.injEq, Prod.mk.injEq] at h <;> obtain ⟨rfl, rfl⟩ := h <;> refine ⟨fun w => ?_, hs⟩ <;> simp only [tdOf] at h5
    case struct => obtain ⟨fa, rfl, _⟩ := h5; simp [isAgg, run_underlying h4]
    case other => cases d <;> simp_all [isAgg, run_underlying h4]
    all_goals (subst h5; simp [isAgg, run_underlying h4])

theorem scalar_cells {v : AV X.U} {c : Value} (h : V X cl w m lv v c) (hs : scalar X v = true) : c.cells = #[c] := by
  cases h with
  | pv h =>
    cases h with
    | agg h => simp [scalar] at hs
    | tup h => simp [scalar] at hs
    | seg hu h => simp [scalar, hu] at hs
    | arr hu _ _ _ _ => simp [scalar, hu] at hs
    | _ => rfl
  | bor h => simp [scalar] at hs
  | sub h => simp [scalar] at hs
  | eptr h => simp [scalar] at hs
  | zer h => simp [scalar] at hs
  | zl h1 h2 => simp [scalar] at hs
  | undef => simp [scalar] at hs
  | _ => rfl

theorem partK_sound (hX : XOK X) (hT : TOK P X) {l : List (AV X.U)} {vs : List Value} {t : TypeId} {off : Nat} {v : AV X.U} (h : Vs X cl w m lv l vs) (hp : partK X l t off = some v)
    (hno : ∀ x ∈ l, x.hold? = none) : ∃ c, (part t (flat vs).toArray off).run P w = .ok c w ∧ V X cl w m lv v c ∧ v.hold? = none ∧
      (∃ rest, (flat vs).drop off = c.cells.toList ++ rest) := by
  unfold partK at hp
  cases hag : isAggT X t with
  | none => simp [hag] at hp
  | some p =>
    obtain ⟨b, n⟩ := p
    obtain ⟨h1, h2⟩ := isAggT_run hT hag
    cases b with
    | true =>
      simp only [hag, Option.bind_eq_some_iff] at hp
      obtain ⟨l', hl, hm⟩ := hp
      obtain ⟨ca, cm, cb, rfl, k1, k2, k3⟩ := h.span hl
      obtain ⟨g1, g2⟩ := mkAgg_sound hX k1 hm
      refine ⟨.agg (flat cm).toArray, ?_, g1, g2, flat cb, ?_⟩
      · simp only [part, Sem.run_bind, h1, Result.andThen_ok, if_true, h2, Sem.run_pure]
        congr 2
        simp only [flat_append, List.extract_toArray]
        congr 1
        simp [← k2, ← k3]
      · simp [flat_append, ← k2, Value.cells]
    | false =>
      simp only [hag] at hp
      cases hs : segAt X l off with
      | none => simp [hs] at hp
      | some x =>
      simp only [hs] at hp
      split at hp
      case isFalse => simp at hp
      rename_i hsc
      simp only [Option.some.injEq] at hp; subst hp
      obtain ⟨ca, cx, cb, rfl, k1, k2, k3⟩ := h.seg hs
      refine ⟨cx, ?_, k1, hno _ (segAt_mem hs), flat cb, ?_⟩
      · simp only [part, Sem.run_bind, h1, Result.andThen_ok, Bool.false_eq_true, if_false]
        have : (flat (ca ++ cx :: cb)).toArray[off]? = some cx := by
          simp [flat_append, flat_cons, ← k3, scalar_cells k1 hsc]
        rw [this]; rfl
      · simp [flat_append, flat_cons, ← k3]

/-! Structs that are built. -/
theorem foldl_set (off : Nat) : ∀ (new : List Value) (k : Nat) (cells : Array Value), off + k + new.length ≤ cells.size →
    ((new.zipIdx k).foldl (fun cs (p : Value × Nat) => cs.setIfInBounds (off + p.2) p.1) cells).toList = cells.toList.take (off + k) ++ (new ++ cells.toList.drop (off + k + new.length))
  | [], k, cells, h => by simp
  | v :: r, k, cells, h => by
    simp only [List.zipIdx_cons, List.foldl_cons]
    rw [foldl_set off r (k + 1) _ (by simp at h ⊢; omega)]
    simp only [List.length_cons] at h
    have hlt : off + k < cells.toList.length := by simp; omega
    simp only [Array.toList_setIfInBounds]
    rw [show off + (k + 1) = off + k + 1 by omega, List.take_set, List.drop_set]
    rw [if_pos (by omega)]
    rw [List.take_succ_eq_append_getElem hlt, List.set_append]
    simp only [List.length_take, Nat.min_eq_left (Nat.le_of_lt hlt), Nat.lt_irrefl, if_false, Nat.sub_self, List.set_cons_zero, List.length_cons]
    simp [Nat.add_assoc, Nat.add_comm 1]

theorem fill_one {cells : Array Value} {off : Nat} {v : Value} (h : off + v.cells.size ≤ cells.size) :
    (v.cells.zipIdx.foldl (fun cs (p : Value × Nat) => cs.setIfInBounds (off + p.2) p.1) cells) = (cells.toList.take off ++ (v.cells.toList ++ cells.toList.drop (off + v.cells.size))).toArray := by
  apply Array.ext'
  have := foldl_set off v.cells.toList 0 cells (by simpa using h)
  rw [← Array.foldl_toList, Array.toList_zipIdx]
  simpa using this

theorem fillK_sound (hX : XOK X) (hT : TOK P X) {t : TypeId} {ev : TypeId → Operand → AV X.U} {a : Act} (hev : ∀ t x, V X cl w m lv (ev t x) (a.eval x)) (place : Nat → Option (Nat × Nat))
    (hpl : ∀ i off pt n bb td, offOf X t i = some off → partTy X t i = some pt → X.ty pt = some ⟨td, n, bb⟩ → place i = some (off, n)) :
    ∀ (parts : List (Nat × Operand)) (z l : List (AV X.U)) (vz : List Value), Vs X cl w m lv z vz → fillK X t ev parts z = some l →
      ∃ vl, Vs X cl w m lv l vl ∧ Instr.fill place (flat vz).toArray (parts.map fun p => (p.1, a.eval p.2)) = some (flat vl).toArray
  | [], z, l, vz, h, hf => by simp only [fillK, Option.some.injEq] at hf; subst hf; exact ⟨vz, h, rfl⟩
  | (i, x) :: r, z, l, vz, h, hf => by
    simp only [fillK] at hf
    split at hf
    case h_2 => simp at hf
    rename_i off pt h1 h2
    split at hf
    case h_2 => simp at hf
    rename_i td n bb h3
    split at hf
    case isFalse => simp at hf
    rename_i hpln
    split at hf
    case h_2 => simp at hf
    rename_i l' hl'
    obtain ⟨cn, g1, g2⟩ := segs_plain (hev pt x) hpln
    obtain ⟨ca, cm, cb, rfl, k1, k2, k3, k4⟩ := h.putSpan g1 hl'
    obtain ⟨vl, j1, j2⟩ := fillK_sound hX hT hev place hpl r l' l _ k1 hf
    refine ⟨vl, j1, ?_⟩
    have hsz : (a.eval x).cells.size = n := by rw [← Array.length_toList, g2, k4]
    simp only [List.map_cons, Instr.fill, hpl i off pt n bb td h1 h2 h3, hsz, ne_eq, not_true_eq_false, decide_false, Bool.false_or]
    have hle : off + n ≤ (flat (ca ++ (cm ++ cb))).toArray.size := by simp [flat_append, ← k2, ← k3]
    rw [if_neg (by simpa using hle), fill_one (by rw [hsz]; exact hle)]
    have : (flat (ca ++ (cn ++ cb))) = (flat (ca ++ (cm ++ cb))).take off ++ ((a.eval x).cells.toList ++ (flat (ca ++ (cm ++ cb))).drop (off + (a.eval x).cells.size)) := by
      rw [hsz, g2, flat_append, flat_append, flat_append, flat_append, ← k2, ← k3]
      simp [List.drop_append]
    rw [this] at j2
    exact j2

theorem places_at (hT : TOK P X) {t : TypeId} {fs : List (Nat × TypeId)} {n b : Nat} (hty : X.ty t = some ⟨.struct fs, n, b⟩) {fa : Array Field} (g6 : fa.toList.map (fun f => (f.offset, f.type)) = fs) :
    ∃ places, fa.toList.mapM (fun f => (P.info? f.type).map fun i => (f.offset, i.size)) = some places ∧
      ∀ i off pt n bb td, offOf X t i = some off → partTy X t i = some pt → X.ty pt = some ⟨td, n, bb⟩ → places.toArray[i]? = some (off, n) := by
  have hall := (hT.eq t fs n b hty).2.2
  rw [← g6] at hall
  have key : ∀ (fl : List Field), (∀ p ∈ fl.map fun f => (f.offset, f.type), ∃ ti, X.ty p.2 = some ti ∧ ti.size ≠ 0) → ∃ places, fl.mapM (fun f => (P.info? f.type).map fun i => (f.offset, i.size)) = some places ∧
      ∀ (i off : Nat) (pt : TypeId) (n bb : Nat) (td : TD), ((fl.map fun f => (f.offset, f.type))[i]?).map (fun q : Nat × TypeId => q.1) = some off → ((fl.map fun f => (f.offset, f.type))[i]?).map (fun q : Nat × TypeId => q.2) = some pt → X.ty pt = some ⟨td, n, bb⟩ → places[i]? = some (off, n) := by
    intro fl
    induction fl with
    | nil => intro _; exact ⟨[], rfl, fun i off pt n bb td h => by simp at h⟩
    | cons f fl ih =>
      intro hall
      obtain ⟨ti, q1, q2⟩ := hall (f.offset, f.type) (by simp)
      obtain ⟨inf, d, q3, q4, q5, q6, q7⟩ := hT.ty _ _ q1
      obtain ⟨places, p1, p2⟩ := ih (fun p hp => hall p (by simp only [List.map_cons, List.mem_cons]; exact .inr hp))
      refine ⟨(f.offset, inf.size) :: places, ?_, ?_⟩
      · simp only [List.mapM_cons, q3, Option.map_some, p1]; rfl
      · intro i off pt n bb td e1 e2 e3
        cases i with
        | zero =>
          simp only [List.map_cons, List.getElem?_cons_zero, Option.map_some, Option.some.injEq] at e1 e2
          subst e1; subst e2
          rw [q1] at e3; cases e3
          simp [q4]
        | succ i =>
          simp only [List.map_cons, List.getElem?_cons_succ] at e1 e2
          simpa using p2 i off pt n bb td e1 e2 e3
  obtain ⟨places, p1, p2⟩ := key fa.toList hall
  refine ⟨places, p1, fun i off pt n' bb td e1 e2 e3 => ?_⟩
  have := p2 i off pt n' bb td (by simpa [offOf, hty, ← g6] using e1) (by simpa [partTy, hty, ← g6] using e2) e3
  simpa using this
theorem build_sound (hX : XOK X) (hT : TOK P X) {t : TypeId} {ev : TypeId → Operand → AV X.U} {a : Act} (hev : ∀ t x, V X cl w m lv (ev t x) (a.eval x)) {parts : Array (Nat × Operand)} {z l : List (AV X.U)} {v : AV X.U}
    (hz : X.zero t = some z) (hf : fillK X t ev parts.toList z = some l) (hm : mkAgg X t l = some v) (hs : (∃ fs n b, X.ty t = some ⟨.struct fs, n, b⟩) ∨ ∃ k e n b, X.ty t = some ⟨.array k e, n, b⟩) :
    ∃ c, (Instr.build t (parts.map fun (i, x) => (i, a.eval x))).run P w = .ok c w ∧ V X cl w m lv v c ∧ v.hold? = none := by
  obtain ⟨info, zv, vs, h1, h2, h3, h4, _⟩ := hT.zero t z hz
  have hzc : zv.cells = (flat vs).toArray := by apply Array.ext'; simpa using h3
  rcases hs with ⟨fs, n, b, hty⟩ | ⟨k, e, n, b, hty⟩
  · obtain ⟨info', d, g1, g2, g3, g4, fa, rfl, g6, g7⟩ := hT.ty t _ hty
    rw [h1] at g1; cases g1
    obtain ⟨places, p1, p2⟩ := places_at hT hty g6
    obtain ⟨vl, j1, j2⟩ := fillK_sound hX hT hev (fun i => places.toArray[i]?) p2 parts.toList z l vs (h4 _ _ _ _) hf
    obtain ⟨q1, q2⟩ := mkAgg_sound hX j1 hm
    refine ⟨_, run_build w t _ (flat vl).toArray ?_, q1, q2⟩
    simp only [Program.built, h1, g4, h2, p1, hzc]
    simpa using j2
  · obtain ⟨info', d, g1, g2, g3, g4, rfl⟩ := hT.ty t _ hty
    rw [h1] at g1; cases g1
    · obtain ⟨ti, he, _⟩ := hT.arr t k e n b hty
      obtain ⟨ie, d', q1, q2, q3, q4, q5⟩ := hT.ty e ti he
      obtain ⟨vl, j1, j2⟩ := fillK_sound hX hT hev (fun i => some (i * ie.size, ie.size)) (by
        intro i off pt n' bb td e1 e2 e3
        simp only [offOf, hty] at e1
        simp only [partTy, hty, Option.some.injEq] at e2; subst e2
        obtain ⟨td', sz', b'⟩ := ti
        rw [he] at e3 e1; cases e3
        simp only [Option.some.injEq] at e1
        simp [← e1, q2]) parts.toList z l vs (h4 _ _ _ _) hf
      obtain ⟨r1, r2⟩ := mkAgg_sound hX j1 hm
      refine ⟨_, run_build w t _ (flat vl).toArray ?_, r1, r2⟩
      simp only [Program.built, h1, g4, h2, q1, hzc]
      simpa using j2
end Go.AX
