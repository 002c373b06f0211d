/-
  The operations that only tell a value, the rest of them.
-/
import Derived.Test.YtepekanlplbciaaAxOpC
namespace Go.AX
open Go
variable {X : Univ} {P : Program} {cl m : Nat → Nat} {w : World} {B : Base} {s : St X.U} {tm : Array Value} {ρ : Type} {lv : Lc → Option Value}

/-- What is shown of each of them. -/
def Tells (P : Program) (s : St X.U) (o : Oper) (K : AV X.U → Option ρ) (r : ρ) : Prop := ∃ v, K v = some r ∧ v.hold? = none ∧ VOk P s o v

theorem move_sound (hX : XOK X) {o : Oper} {x : Operand} (ho : o.op = .move x ∨ o.op = .assign x) {K : AV X.U → Option ρ} {r : ρ} (h : K (s.ev o.type x) = some r) : Tells P s o K r :=
  ⟨_, h, ev_noown _ _, fun B cl m a w hR => ⟨a.eval x, by rcases ho with ho | ho <;> simp [execOp, ho], evV hX hR _ _⟩⟩

theorem pick_sound (hX : XOK X) {o : Oper} {c x y : Operand} (ho : o.op = .pick c x y) {K : AV X.U → Option ρ} {r : ρ} (h : valK X ⟨s.ev, s.own, assoc s.hp⟩ o K = some r) : Tells P s o K r := by
  unfold valK at h
  simp only [ho] at h
  split at h
  case h_2 => cases h
  rename_i t hev
  have hc : ∀ {B : Base} {cl m : Nat → Nat} {a : Act} {w : World}, Rel B cl m s a.tmps w → a.eval c = .bool t := fun hR => by
    have := evV hX hR 0 c; rw [hev] at this; exact bool_inv this
  cases t with
  | true => exact ⟨_, h, ev_noown _ _, fun B cl m a w hR => ⟨a.eval x, by simp [execOp, ho, hc hR, asBool], evV hX hR _ _⟩⟩
  | false => exact ⟨_, h, ev_noown _ _, fun B cl m a w hR => ⟨a.eval y, by simp [execOp, ho, hc hR, asBool], evV hX hR _ _⟩⟩

theorem buildOp_sound (hX : XOK X) (hT : TOK P X) {o : Oper} {t : TypeId} {parts : Array (Nat × Operand)} (ho : o.op = .build t parts) {K : AV X.U → Option ρ} {r : ρ}
    (h : valK X ⟨s.ev, s.own, assoc s.hp⟩ o K = some r) : Tells P s o K r := by
  unfold valK at h
  simp only [ho] at h
  split at h
  case h_2 => cases h
  rename_i z hz
  split at h
  case h_2 => cases h
  rename_i l hl
  split at h
  case h_2 => cases h
  rename_i v hm
  split at h
  case isFalse => cases h
  rename_i hs
  refine ⟨v, h, ?_, fun B cl m a w hR => ?_⟩
  · unfold mkAgg at hm
    split at hm
    · split at hm <;> (cases hm; rfl)
    · cases hm
  · have hs' : (∃ fs n b, X.ty t = some ⟨.struct fs, n, b⟩) ∨ ∃ k e n b, X.ty t = some ⟨.array k e, n, b⟩ := by
      unfold aggTy at hs
      split at hs
      · rename_i h1; exact .inl ⟨_, _, _, h1⟩
      · rename_i h1; exact .inr ⟨_, _, _, _, h1⟩
      · cases hs
    obtain ⟨c, h1, h2, _⟩ := build_sound (lv := lval m s a.tmps w) hX hT (fun t x => evV hX hR t x) hz hl hm hs'
    exact ⟨c, by simp [execOp, ho, h1], h2⟩

theorem offOf_field (hT : TOK P X) {t : TypeId} {f off : Nat} {fs : List (Nat × TypeId)} {n b : Nat} (hty : X.ty t = some ⟨.struct fs, n, b⟩) (h : offOf X t f = some off) :
    ∃ (fa : Array Field) (g : Field), P.underlying t = some (.struct fa) ∧ fa[f]? = some g ∧ g.offset = off ∧ partTy X t f = some g.type ∧ ∃ i, P.info? g.type = some i ∧ i.size ≠ 0 := by
  obtain ⟨info, d, h1, h2, h3, h4, fa, rfl, h5, h6⟩ := hT.ty t _ hty
  simp only [offOf, hty, ← h5, List.getElem?_map, Option.map_map, Option.map_eq_some_iff] at h
  obtain ⟨g, hg, hoff⟩ := h
  have hfa : fa[f]? = some g := by simpa using hg
  refine ⟨fa, g, h4, hfa, hoff, ?_, ?_⟩
  · simp only [partTy, hty, ← h5, List.getElem?_map, hg, Option.map_some]
  · have := (hT.eq t fs n b hty).2.2 (g.offset, g.type) (by rw [← h5]; exact List.mem_map.mpr ⟨g, List.mem_of_getElem? hg, rfl⟩)
    obtain ⟨ti, q1, q2⟩ := this
    obtain ⟨i, _, q3, q4, _⟩ := hT.ty _ _ q1
    exact ⟨i, q3, by rw [q4]; exact q2⟩

theorem run_fieldAt (hT : TOK P X) {t : TypeId} {f off : Nat} {fs : List (Nat × TypeId)} {n b : Nat} (hty : X.ty t = some ⟨.struct fs, n, b⟩) (h : offOf X t f = some off) (ad : Addr) :
    (Instr.fieldAt t (.pointer (some ad)) f).run P w = .ok (.pointer (some (ad.add off))) w := by
  obtain ⟨fa, g, h1, h2, h3, h4, i, h5, h6⟩ := offOf_field hT hty h
  simp [Instr.fieldAt, run_underlying h1, h2, Instr.sureAddr, fieldPlace, sizeOf, typeInfo, h5, h6, h3]

theorem fieldAddr_sound (hX : XOK X) (hT : TOK P X) {o : Oper} {t : TypeId} {x : Operand} {f : Nat} (ho : o.op = .fieldAddr t x f) {K : AV X.U → Option ρ} {r : ρ}
    (h : valK X ⟨s.ev, s.own, assoc s.hp⟩ o K = some r) : Tells P s o K r := by
  unfold valK at h
  simp only [ho] at h
  split at h
  case h_2 => cases h
  rename_i off hoff
  split at h
  case h_2 => cases h
  rename_i fs n b hty
  split at h
  · rename_i id o' hev
    refine ⟨_, h, rfl, fun B cl m a w hR => ?_⟩
    have hv := evV hX hR 0 x
    rw [hev] at hv
    generalize hc0 : a.eval x = c0 at hv
    cases hv
    refine ⟨.pointer (some (Addr.add ⟨m id, o', none⟩ off)), by simp [execOp, ho, hc0, run_fieldAt hT hty hoff], ?_⟩
    rw [addr_add rfl]; exact .ptr id (o' + off)
  · rename_i v hev
    split at h
    case h_2 => cases h
    rename_i ft hft
    split at h
    case isFalse => cases h
    rename_i hpl
    split at h
    case h_2 => cases h
    rename_i p hp
    refine ⟨_, h, rfl, fun B cl m a w hR => ?_⟩
    have hv := evV hX hR 0 x
    rw [hev] at hv
    generalize hc0 : a.eval x = c0 at hv
    cases hv with
    | @ref _ c ad h1 h2 =>
      obtain ⟨vs, g1, g2⟩ := segs_agg h1 hpl
      obtain ⟨c', q1, q2, q3, rest, q4⟩ := partK_sound (P := P) (m := m) (lv := fun _ => none) (v := .pv p) hX hT (VPs.Vs g1) hp (fun y hy => by
        simp only [List.mem_map] at hy; obtain ⟨_, _, rfl⟩ := hy; rfl)
      cases q2 with
      | pv q2 =>
        refine ⟨.pointer (some (ad.add off)), by simp [execOp, ho, hc0, run_fieldAt hT hty hoff], ?_⟩
        rw [addr_add h2.1]
        exact .ref q2 (h2.part (by rw [g2]; exact q4))
  · cases h

theorem field_sound (hX : XOK X) (hT : TOK P X) {o : Oper} {t : TypeId} {x : Operand} {f : Nat} (ho : o.op = .field t x f) {K : AV X.U → Option ρ} {r : ρ}
    (h : valK X ⟨s.ev, s.own, assoc s.hp⟩ o K = some r) : Tells P s o K r := by
  unfold valK at h
  simp only [ho] at h
  split at h
  case h_2 => cases h
  rename_i off ft hoff hft
  split at h
  case h_2 => cases h
  rename_i fs n b hty
  split at h
  case h_2 => cases h
  rename_i q hev
  split at h
  case isFalse => cases h
  rename_i hpl
  simp only [Bool.and_eq_true, Bool.not_eq_true'] at hpl
  split at h
  case h_2 => cases h
  rename_i v hp
  have hno : v.hold? = none := by
    unfold partK at hp
    split at hp
    · simp only [Option.bind_eq_some_iff] at hp
      obtain ⟨l, _, hm⟩ := hp
      unfold mkAgg at hm
      split at hm
      · split at hm <;> (cases hm; rfl)
      · cases hm
    · split at hp
      · split at hp
        · rename_i y hy _; cases hp
          have := segAt_mem hy
          simp only [AV.segs, List.mem_map] at this
          obtain ⟨_, _, rfl⟩ := this; rfl
        · cases hp
      · cases hp
    · cases hp
  refine ⟨v, h, hno, fun B cl m a w hR => ?_⟩
  have hv := evV hX hR t x
  rw [hev] at hv
  generalize hc0 : a.eval x = c0 at hv
  cases hv with
  | pv h1 =>
    obtain ⟨vs, g1, g2⟩ := segs_agg h1 hpl.1
    have hag := nonscalar_agg h1 hpl.1 hpl.2
    obtain ⟨fa, g, e1, e2, e3, e4, _⟩ := offOf_field hT hty hoff
    rw [hft] at e4; cases e4
    obtain ⟨c', q1, q2, _⟩ := partK_sound (P := P) (m := m) (lv := lval m s a.tmps w) hX hT (VPs.Vs g1) hp (fun y hy => by
      simp only [List.mem_map] at hy; obtain ⟨_, _, rfl⟩ := hy; rfl)
    have hcells : c0.cells = (flat vs).toArray := by apply Array.ext'; simpa using g2
    refine ⟨c', ?_, q2⟩
    rw [hag] at hc0
    simp only [execOp, ho, hc0, Instr.field, Sem.run_bind, run_underlying e1, e2, e3, asAgg, Sem.run_pure, Result.andThen_ok, hcells, q1]

theorem elemOk_inv (hT : TOK P X) {t : TypeId} {u : X.U} (h : elemOk X t u = true) : ∃ e i, P.underlying t = some (.slice e) ∧ P.info? e = some i ∧ i.size = X.esz u := by
  unfold elemOk at h
  split at h
  · rename_i e _ _ hty
    split at h
    · rename_i n _ he
      obtain ⟨info, d, h1, h2, h3, h4, h5⟩ := hT.ty t _ hty
      simp only [tdOf] at h5; subst h5
      obtain ⟨i, d', g1, g2, _⟩ := hT.ty e _ he
      exact ⟨e, i, h4, g1, by rw [g2]; simpa using h⟩
    · cases h
  · cases h

theorem indexAddr_sound (hX : XOK X) (hT : TOK P X) {o : Oper} {t : TypeId} {x i : Operand} (ho : o.op = .indexAddr t x i) {K : AV X.U → Option ρ} {r : ρ}
    (h : valK X ⟨s.ev, s.own, assoc s.hp⟩ o K = some r) : Tells P s o K r := by
  unfold valK at h
  simp only [ho] at h
  split at h
  case h_2 => cases h
  rename_i k n hi
  have hiv : ∀ {B : Base} {cl m : Nat → Nat} {a : Act} {w : World}, Rel B cl m s a.tmps w → a.eval i = .int k n := fun hR => by
    have := evV hX hR 3 i; rw [hi] at this; exact int_inv this
  split at h
  · rename_i u hev
    split at h
    case h_2 => cases h
    rename_i len get hu
    split at h
    case isFalse => cases h
    rename_i hel
    split at h
    case isFalse => cases h
    rename_i hn
    refine ⟨_, h, rfl, fun B cl m a w hR => ?_⟩
    have hv := evV hX hR t x
    rw [hev] at hv
    generalize hc0 : a.eval x = c0 at hv
    cases hv with
    | pv h1 =>
      obtain ⟨ao, cap, vs, rfl, h2, h3, h4, h5, h6⟩ := sl_inv h1 hu
      obtain ⟨e, inf, g1, g2, g3⟩ := elemOk_inv hT hel
      have hlt : n.toNat < vs.length := by omega
      rcases h6 with h6 | ⟨ad, rfl, hs, h6⟩
      · rw [h6] at hlt; simp at hlt
      · have hm := h6 n.toNat _ (List.getElem?_eq_getElem hlt)
        refine ⟨.pointer (some ⟨ad.block, ad.off + n.toNat * X.esz u, none⟩), ?_, .ref (h3 _ hlt) hm⟩
        simp [execOp, ho, hc0, hiv hR, Instr.indexAt, run_underlying g1, asIntOf, hn, sizeOf, typeInfo, g2, g3, addr_add hs]
  · rename_i l hev
    split at h
    case h_2 => cases h
    rename_i u hou
    split at h
    case h_2 => cases h
    rename_i len get hu
    split at h
    case isFalse => cases h
    rename_i hel
    split at h
    case isFalse => cases h
    rename_i hn
    refine ⟨_, h, rfl, fun B cl m a w hR => ?_⟩
    have hv := evV hX hR t x
    rw [hev] at hv
    generalize hc0 : a.eval x = c0 at hv
    cases hv with
    | bor hv =>
      have := hv _ (lval_of hou); subst this
      obtain ⟨ao, n', cap, e1, e2⟩ := ownV hR hou
      have e2' := e2
      obtain ⟨vs, get', q1, q2, _⟩ := e2'
      rw [hu] at q1; cases q1
      obtain ⟨e, inf, g1, g2, g3⟩ := elemOk_inv hT hel
      obtain ⟨ad, rfl⟩ := own_nonnil e2 (i := n.toNat) (by omega)
      refine ⟨.pointer (some (ad.add (n.toNat * X.esz u))), ?_, .eptr fun y hy => ?_⟩
      · rw [e1] at hc0
        simp [execOp, ho, hc0, hiv hR, Instr.indexAt, run_underlying g1, asIntOf, hn, sizeOf, typeInfo, g2, g3]
      · rw [lval_of hou] at hy; cases hy
        exact ⟨ad, _, cap, e1, by omega, rfl⟩
  · rename_i id off hev
    split at h
    case h_2 => cases h
    rename_i len e _ _ hty
    split at h
    case h_2 => cases h
    rename_i sz _ he
    split at h
    case isFalse => cases h
    rename_i hn
    have hgo : ∀ {B : Base} {cl m : Nat → Nat} {a : Act} {w : World}, Rel B cl m s a.tmps w → (execOp a.eval o).run P w = .ok (.value (.pointer (some ⟨m id, off + n.toNat * sz, none⟩))) w := by
      intro B cl m a w hR
      have hv := evV hX hR t x
      rw [hev] at hv
      generalize hc0 : a.eval x = c0 at hv
      cases hv with
      | ptr =>
        obtain ⟨info, d, h1, h2, h3, h4, h5⟩ := hT.ty t _ hty
        simp only [tdOf] at h5; subst h5
        obtain ⟨i', d', g1, g2, _⟩ := hT.ty e _ he
        simp [execOp, ho, hc0, hiv hR, Instr.indexAt, run_underlying h4, asIntOf, Instr.sureAddr, hn, sizeOf, typeInfo, g1, g2, addr_add]
    split at h
    · exact ⟨_, h, rfl, fun B cl m a w hR => ⟨_, hgo hR, .aptr id off _ sz⟩⟩
    · exact ⟨_, h, rfl, fun B cl m a w hR => ⟨_, hgo hR, .ptr id _⟩⟩
  · cases h
end Go.AX
