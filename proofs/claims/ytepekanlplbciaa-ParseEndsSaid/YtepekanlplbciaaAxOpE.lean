/-
  The operations that only tell a value: elements, parts of texts and slices, comparisons, conversions, lengths.
-/
import Derived.Test.YtepekanlplbciaaAxOpD
namespace Go.AX
open Go
variable {X : Univ} {P : Program} {cl m : Nat → Nat} {w : World} {B : Base} {s : St X.U} {tm : Array Value} {ρ : Type} {lv : Lc → Option Value}

theorem str_ty (hT : TOK P X) {t : TypeId} {n b : Nat} (h : X.ty t = some ⟨.str, n, b⟩) : P.underlying t = some .string := by
  obtain ⟨_, d, _, _, _, h4, h5⟩ := hT.ty t _ h
  simp only [tdOf] at h5; subst h5; exact h4
theorem int_ty (hT : TOK P X) {t : TypeId} {k : IntKind} {n b : Nat} (h : X.ty t = some ⟨.int k, n, b⟩) : P.underlying t = some (.int k) := by
  obtain ⟨_, d, _, _, _, h4, h5⟩ := hT.ty t _ h
  simp only [tdOf] at h5; subst h5; exact h4
theorem slice_ty (hT : TOK P X) {t e : TypeId} {n b : Nat} (h : X.ty t = some ⟨.slice e, n, b⟩) : P.underlying t = some (.slice e) := by
  obtain ⟨_, d, _, _, _, h4, h5⟩ := hT.ty t _ h
  simp only [tdOf] at h5; subst h5; exact h4

theorem index_sound (hX : XOK X) (hT : TOK P X) {o : Oper} {t : TypeId} {x i : Operand} (ho : o.op = .index t x i) {K : AV X.U → Option ρ} {r : ρ}
    (h : valK X ⟨s.ev, s.own, assoc s.hp⟩ o K = some r) : Tells P s o K r := by
  unfold valK at h
  simp only [ho] at h
  split at h
  case h_2 => cases h
  rename_i k n hi
  have hiv : ∀ {B : Base} {cl m : Nat → Nat} {a : Act} {w : World}, Rel B cl m s a.tmps w → a.eval i = .int k n := fun hR => by
    have := evV hX hR 3 i; rw [hi] at this; exact int_inv this
  split at h
  · rename_i _ _ z hty hev
    split at h
    case isFalse => cases h
    rename_i hn
    refine ⟨_, h, rfl, fun B cl m a w hR => ?_⟩
    have hv := evV hX hR t x
    rw [hev] at hv
    have hc0 := str_inv hv
    have hlt : n.toNat < z.size := by omega
    have hlt' : n.toNat < z.data.toList.length := by simpa using hlt
    have hget : z[n.toNat]? = some (z.data.toList.getD n.toNat 0) := by
      rw [getElem?_pos z n.toNat hlt, List.getD, List.getElem?_eq_getElem hlt']; rfl
    refine ⟨.int .u8 ((z.data.toList.getD n.toNat 0).toNat : Int), ?_, .pv (.int _ _)⟩
    simp only [execOp, ho, hc0, hiv hR, Instr.index, asIntOf, Sem.run_bind, Sem.run_pure, Result.andThen_ok, run_underlying (str_ty hT hty), hn.1, if_true, hget]
  · rename_i len e _ _ u hty hev
    split at h
    case h_2 => cases h
    rename_i len' get b' k' hu hag
    split at h
    case isFalse => cases h
    rename_i hn
    split at h
    case isFalse => cases h
    rename_i hlen
    split at h
    case isFalse => cases h
    rename_i hpl
    simp only [Bool.and_eq_true, beq_iff_eq] at hpl
    obtain ⟨rfl, hk⟩ := hlen
    refine ⟨_, h, rfl, fun B cl m a w hR => ?_⟩
    have hv := evV hX hR t x
    rw [hev] at hv
    generalize hc0 : a.eval x = c0 at hv
    obtain ⟨_, d, _, _, _, g4, g5⟩ := hT.ty t _ hty
    simp only [tdOf] at g5; subst g5
    cases hv with
    | pv h1 =>
      cases h1 with
      | seg q => rw [hu] at q; cases q
      | sl q => rw [hu] at q; cases q
      | @arr _ n2 get2 vs q1 q2 q3 q4 q5 =>
        rw [hu] at q1; cases q1
        have hlt : n.toNat < vs.length := by omega
        obtain ⟨ca, cb, j1, j2⟩ := flat_row q4 (List.getElem?_eq_getElem hlt)
        obtain ⟨r1, r2⟩ := isAggT_run hT hag
        refine ⟨vs[n.toNat], ?_, .pv (q3 _ hlt)⟩
        have hel := q3 _ hlt
        have hoc := q4 _ (List.getElem_mem hlt)
        have hpart : (part e (flat vs).toArray (n.toNat * X.esz u)).run P w = .ok vs[n.toNat] w := by
          cases b' with
          | true =>
            have hns : scalar X (.pv (get n.toNat)) = false := by have := hpl.2; revert this; cases scalar X (.pv (get n.toNat)) <;> simp
            rw [nonscalar_agg hel hpl.1 hns]
            simp only [part, Sem.run_bind, r1, Result.andThen_ok, if_true, r2, Sem.run_pure]
            have hk2 : k' = vs[n.toNat].cells.toList.length := by rw [Array.length_toList, hoc.1, hk]
            rw [← j2, hk2, j1, List.extract_toArray]
            congr 2
            apply Array.ext'
            simp
          | false =>
            have hns : scalar X (.pv (get n.toNat)) = true := by have := hpl.2; revert this; cases scalar X (.pv (get n.toNat)) <;> simp
            have hcc := scalar_cells (m := m) (lv := fun _ => none) (.pv hel) hns
            simp only [part, Sem.run_bind, r1, Result.andThen_ok, Bool.false_eq_true, if_false]
            have : (flat vs).toArray[n.toNat * X.esz u]? = some vs[n.toNat] := by
              rw [j1, List.getElem?_toArray, List.getElem?_append_right (by omega), j2, Nat.sub_self, hcc]; rfl
            rw [this]; rfl
        simp only [execOp, ho, hc0, hiv hR, Instr.index, asIntOf, Sem.run_bind, Sem.run_pure, Result.andThen_ok, run_underlying g4, hn.1, hn.2, and_self, if_true, r2, hk, hpart]
  · cases h

theorem bound_run {a : Act} (hX : XOK X) (hR : Rel B cl m s a.tmps w) {d : Nat} {x : Option Operand} {l : Int} (h : boundK X s.ev d x = some l) :
    (x = none ∧ l = d) ∨ ∃ y k, x = some y ∧ a.eval y = .int k l := by
  cases x with
  | none => simp [boundK] at h; exact .inl ⟨rfl, h.symm⟩
  | some y =>
    simp only [boundK] at h
    split at h
    · rename_i k n hev
      simp only [Option.some.injEq] at h; subst h
      have := evV hX hR 3 y; rw [hev] at this
      exact .inr ⟨y, k, rfl, int_inv this⟩
    · cases h

theorem sliceBounds_run {isS : Bool} {len cap : Nat} {lo hi : Option Value} {l h : Int} (hl : (lo = none ∧ l = 0) ∨ ∃ k, lo = some (.int k l)) (hh : (hi = none ∧ h = len) ∨ ∃ k, hi = some (.int k h))
    (h1 : 0 ≤ l) (h2 : l ≤ h) (h3 : h ≤ (cap : Int)) : (Instr.sliceBounds isS len cap lo hi none).run P w = .ok (l.toNat, h.toNat, cap) w := by
  have hh0 : 0 ≤ h := by omega
  have hm : max h 0 = h := by omega
  rcases hl with ⟨rfl, rfl⟩ | ⟨k, rfl⟩ <;> rcases hh with ⟨rfl, rfl⟩ | ⟨k', rfl⟩ <;>
    simp [Instr.sliceBounds, Instr.sliceBound, asIntOf, h1, h3, hh0, hm, h2]

theorem slice_sound (hX : XOK X) (hT : TOK P X) {o : Oper} {t : TypeId} {x : Operand} {lo hi mx : Option Operand} (ho : o.op = .slice t x lo hi mx) {K : AV X.U → Option ρ} {r : ρ}
    (h : valK X ⟨s.ev, s.own, assoc s.hp⟩ o K = some r) : Tells P s o K r := by
  unfold valK at h
  simp only [ho] at h
  split at h
  case h_1 => cases h
  have hb : ∀ {a : Act} {B : Base} {cl m : Nat → Nat} {w : World} {d : Nat} {x : Option Operand} {l : Int}, Rel B cl m s a.tmps w → boundK X s.ev d x = some l → (x.map a.eval = none ∧ l = d) ∨ ∃ k, x.map a.eval = some (.int k l) := by
    intro a B cl m w d x l hR hx
    rcases bound_run hX hR hx with ⟨rfl, rfl⟩ | ⟨y, k, rfl, hy⟩
    · exact .inl ⟨rfl, rfl⟩
    · exact .inr ⟨k, by simp [hy]⟩
  split at h
  · rename_i _ _ z hty hev
    split at h
    case h_2 => cases h
    rename_i l hh hl hhi
    split at h
    case isFalse => cases h
    rename_i hn
    refine ⟨_, h, rfl, fun B cl m a w hR => ?_⟩
    have hv := evV hX hR t x
    rw [hev] at hv
    have hc0 := str_inv hv
    refine ⟨.string (z.extract l.toNat hh.toNat), ?_, .pv (.str _)⟩
    have hbd := sliceBounds_run (P := P) (w := w) (isS := false) (hb hR hl) (hb hR hhi) hn.1 hn.2.1 hn.2.2
    simp [execOp, ho, hc0, Instr.sliceAt, Instr.slice, run_underlying (str_ty hT hty), hbd]
  · rename_i u hev
    split at h
    case h_2 => cases h
    rename_i n get hu
    split at h
    case h_2 => cases h
    rename_i l hh hl hhi
    split at h
    case isFalse => cases h
    rename_i hel
    split at h
    case isFalse => cases h
    rename_i hn
    split at h
    case h_2 => cases h
    rename_i u' hcut
    obtain ⟨e, inf, g1, g2, g3⟩ := elemOk_inv hT hel
    obtain ⟨c1, get', c2, c3⟩ := hX.cut u _ _ u' n get hcut hu (by omega) (by omega)
    refine ⟨_, h, rfl, fun B cl m a w hR => ?_⟩
    have hv := evV hX hR t x
    rw [hev] at hv
    generalize hc0 : a.eval x = c0 at hv
    cases hv with
    | pv h1 =>
      obtain ⟨ao, cap, vs, rfl, h2, h3, h4, h5, h6⟩ := sl_inv h1 hu
      have hbd := sliceBounds_run (P := P) (w := w) (isS := true) (cap := cap) (hb hR hl) (hb hR hhi) hn.1 hn.2.1 (by omega)
      refine ⟨.slice (if cap = l.toNat then ao else ao.map (·.add (l.toNat * X.esz u))) (hh.toNat - l.toNat) (cap - l.toNat), ?_, .pv (.sl (vs := (vs.drop l.toNat).take (hh.toNat - l.toNat)) c2 (by simp; omega) ?_ (by omega) ?_ ?_)⟩
      · simp [execOp, ho, hc0, Instr.sliceAt, Instr.slice, run_underlying g1, hbd, sizeOf, typeInfo, g2, g3]
      · intro i hi'
        have hi2 : i < hh.toNat - l.toNat := by simp at hi'; omega
        rw [c3 i hi2]
        have : ((vs.drop l.toNat).take (hh.toNat - l.toNat))[i] = vs[l.toNat + i]'(by simp at hi'; omega) := by simp
        rw [this]; exact h3 _ _
      · intro v hv
        rw [c1]; exact h5 v (List.mem_of_mem_drop (List.mem_of_mem_take hv))
      · rw [c1]
        rcases h6 with h6 | ⟨ad, rfl, hs, h6⟩
        · exact .inl (by rw [h6]; simp)
        · by_cases he : (vs.drop l.toNat).take (hh.toNat - l.toNat) = []
          · exact .inl he
          · have hlt : l.toNat < cap := by
              have : 0 < ((vs.drop l.toNat).take (hh.toNat - l.toNat)).length := List.length_pos_iff.mpr he
              simp at this; omega
            refine .inr ⟨⟨ad.block, ad.off + l.toNat * X.esz u, none⟩, ?_, rfl, fun i v hv => ?_⟩
            · rw [if_neg (by omega)]; simp [addr_add hs]
            · have : vs[l.toNat + i]? = some v := by
                rw [List.getElem?_take] at hv
                split at hv
                · rw [List.getElem?_drop] at hv; exact hv
                · cases hv
              have := h6 _ v this
              rw [Nat.add_mul, ← Nat.add_assoc] at this
              exact this
  · rename_i c hev
    split at h
    case h_2 => cases h
    rename_i u hou
    split at h
    case h_2 => cases h
    rename_i n get hu
    split at h
    case h_2 => cases h
    rename_i l hh hl hhi
    split at h
    case isFalse => cases h
    rename_i hel
    split at h
    case isFalse => cases h
    rename_i hn
    obtain ⟨e, inf, g1, g2, g3⟩ := elemOk_inv hT hel
    refine ⟨_, h, rfl, fun B cl m a w hR => ?_⟩
    have hv := evV hX hR t x
    rw [hev] at hv
    generalize hc0 : a.eval x = c0 at hv
    cases hv with
    | bor hv =>
      have := hv _ (lval_of hou); subst this
      obtain ⟨ao, n', cap, e1, e2⟩ := ownV hR hou
      obtain ⟨vs, get', q1, q2, q3, q4, q5, _⟩ := e2
      rw [hu] at q1; cases q1
      have hbd := sliceBounds_run (P := P) (w := w) (isS := true) (cap := cap) (hb hR hl) (hb hR hhi) hn.1 hn.2.1 (by omega)
      refine ⟨.slice (if cap = l.toNat then ao else ao.map (·.add (l.toNat * X.esz u))) (hh.toNat - l.toNat) (cap - l.toNat), ?_, .sub fun y hy => ?_⟩
      · rw [e1] at hc0
        simp [execOp, ho, hc0, Instr.sliceAt, Instr.slice, run_underlying g1, hbd, sizeOf, typeInfo, g2, g3]
      · rw [lval_of hou] at hy; cases hy
        exact ⟨ao, _, cap, e1, by omega, by omega, rfl⟩
  · cases h
end Go.AX
