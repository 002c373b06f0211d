/-
  The operations that only tell a value: arithmetic, comparisons, conversions, results' parts, lengths.
-/
import Derived.Test.YtepekanlplbciaaAxOpE
namespace Go.AX
open Go
variable {X : Univ} {P : Program} {cl m : Nat → Nat} {w : World} {B : Base} {s : St X.U} {tm : Array Value} {ρ : Type} {lv : Lc → Option Value}

theorem eqGuard_aggs (hT : TOK P X) {op : BinOp} {t : TypeId} {x y : Operand} {a b : Array Value} {fs : List (Nat × TypeId)} {n k : Nat} (hty : X.ty t = some ⟨.struct fs, n, k⟩) :
    (eqGuard op t x y (.agg a) (.agg b)).run P w = .ok () w := by
  have := (hT.eq t _ _ _ hty).2.1
  unfold eqGuard
  cases op <;> simp [this]

theorem binOp_sound (hX : XOK X) (hT : TOK P X) {o : Oper} {op : BinOp} {t yt : TypeId} {x y : Operand} (ho : o.op = .binOp op t x y yt) {K : AV X.U → Option ρ} {r : ρ}
    (h : valK X ⟨s.ev, s.own, assoc s.hp⟩ o K = some r) : Tells P s o K r := by
  unfold valK at h
  simp only [ho] at h
  split at h
  case h_2 => cases h
  rename_i p q hp hq
  have hpq : ∀ {B : Base} {cl m : Nat → Nat} {a : Act} {w : World}, Rel B cl m s a.tmps w → VP X cl w p (a.eval x) ∧ VP X cl w q (a.eval y) := fun hR => by
    have h1 := evV hX hR t x; have h2 := evV hX hR t y
    rw [hp] at h1; rw [hq] at h2
    cases h1 with | pv h1 => cases h2 with | pv h2 => exact ⟨h1, h2⟩
  split at h
  · rename_i fs n b hty
    split at h
    case h_2 => cases h
    rename_i ks hks
    split at h
    case isFalse => cases h
    rename_i hk
    simp only [Bool.and_eq_true, Bool.not_eq_true'] at hk
    obtain ⟨⟨⟨⟨⟨hk1, hk2⟩, hk3⟩, hk4⟩, hk5⟩, hk6⟩ := hk
    have hmain : ∀ {e : Bool}, eqs X (p.segs X) (q.segs X) = some e → ∀ {B : Base} {cl m : Nat → Nat} {a : Act} {w : World}, Rel B cl m s a.tmps w →
        (Go.Op.equal t (a.eval x) (a.eval y)).run P w = .ok e w ∧ (∃ l, a.eval x = .agg l) ∧ ∃ l, a.eval y = .agg l := by
      intro e he B cl m a w hR
      obtain ⟨h1, h2⟩ := hpq hR
      obtain ⟨va, g1, g2⟩ := segs_agg h1 hk3
      obtain ⟨vb, g3, g4⟩ := segs_agg h2 hk4
      have ea := nonscalar_agg h1 hk3 hk5
      have eb := nonscalar_agg h2 hk4 hk6
      obtain ⟨s1, f1⟩ := g1.sc hk1
      obtain ⟨s2, f2⟩ := g3.sc hk2
      have e' := eqs_sound g1 g3 hk1 hk2 he
      refine ⟨?_, ⟨_, ea⟩, ⟨_, eb⟩⟩
      have := flatTy_eq (P := P) (w := w) hT 5 9999 t ks va vb true hks s1 s2 (by omega) ⟨fun _ => rfl, fun _ => ⟨_, _, _, hty⟩⟩
      simp only [valOf, if_true] at this
      rw [e', ← this]
      have c1 : (a.eval x).cells = va.toArray := by apply Array.ext'; rw [g2, f1]
      have c2 : (a.eval y).cells = vb.toArray := by apply Array.ext'; rw [g4, f2]
      rw [ea, eb, c1, c2]; rfl
    split at h
    · rename_i e he
      refine ⟨_, h, rfl, fun B cl m a w hR => ⟨.bool e, ?_, .pv (.bool _)⟩⟩
      obtain ⟨g1, ⟨l1, g2⟩, ⟨l2, g3⟩⟩ := hmain he hR
      rw [g2, g3] at g1
      simp [execOp, ho, g2, g3, eqGuard_aggs hT hty, Go.binOp, g1]
    · rename_i e he
      refine ⟨_, h, rfl, fun B cl m a w hR => ⟨.bool (!e), ?_, .pv (.bool _)⟩⟩
      obtain ⟨g1, ⟨l1, g2⟩, ⟨l2, g3⟩⟩ := hmain he hR
      rw [g2, g3] at g1
      simp [execOp, ho, g2, g3, eqGuard_aggs hT hty, Go.binOp, g1]
    · cases h
  · rename_i ti hnb hty
    have hbool : ∀ z, p = .bool z → ti.td = .bool := by
      intro z hz; subst hz
      cases htd : ti.td <;> simp [htd] at h
      rfl
    have hb : binK X op p q (bigK X y K) = some r := by
      cases p with
      | bool b => have := hbool b rfl; rw [this] at h; simpa using h
      | _ => simpa using h
    obtain ⟨info, d, h1, h2, h3, h4, h5⟩ := hT.ty t ti hty
    obtain ⟨v, k1, k2⟩ := binK_sound (P := P) op t d h4 p q x y (bigK X y K) r (fun z hz => by have := hbool z hz; rw [this] at h5; simpa [tdOf] using h5) hb
    rw [bigK_eq] at k1
    refine ⟨.pv v, k1, rfl, fun B cl m a w hR => ?_⟩
    obtain ⟨c, g1, g2⟩ := k2 cl w _ _ (hpq hR).1 (hpq hR).2
    exact ⟨c, by simp only [execOp, ho, Sem.run_bind, g2]; rfl, .pv g1⟩
  · cases h

theorem unOp_sound (hX : XOK X) (hT : TOK P X) {o : Oper} {op : UnOp} {t : TypeId} {x : Operand} (ho : o.op = .unOp op t x) {K : AV X.U → Option ρ} {r : ρ}
    (h : valK X ⟨s.ev, s.own, assoc s.hp⟩ o K = some r) : Tells P s o K r := by
  unfold valK at h
  simp only [ho] at h
  split at h
  · rename_i b hev
    refine ⟨_, h, rfl, fun B cl m a w hR => ⟨.bool (!b), ?_, .pv (.bool _)⟩⟩
    have := evV hX hR t x; rw [hev] at this
    simp [execOp, ho, bool_inv this, Op.unary]
  · rename_i k n hev
    refine ⟨_, h, rfl, fun B cl m a w hR => ⟨.int k (k.wrap (0 - n)), ?_, .pv (.int _ _)⟩⟩
    have := evV hX hR t x; rw [hev] at this
    simp [execOp, ho, int_inv this, Op.unary, Op.intArith]
  · rename_i k n hev
    refine ⟨_, h, rfl, fun B cl m a w hR => ⟨_, ?_, .pv (.int _ _)⟩⟩
    have := evV hX hR t x; rw [hev] at this
    simp [execOp, ho, int_inv this, Op.unary, Op.intBits]
  · cases h

theorem flat_at {sz : Nat} : ∀ {vs : List Value} {j : Nat} {c : Value}, (∀ v ∈ vs, oc v sz) → (flat vs)[j]? = some c → ∃ i v k, vs[i]? = some v ∧ v.cells.toList[k]? = some c ∧ j = i * sz + k
  | [], j, c, _, h => by simp [flat] at h
  | x :: r, j, c, ho, h => by
    have hx := (ho x List.mem_cons_self).1
    rw [flat_cons] at h
    by_cases hj : j < sz
    · rw [List.getElem?_append_left (by simpa [hx] using hj)] at h
      exact ⟨0, x, j, rfl, h, by simp⟩
    · rw [List.getElem?_append_right (by simp [hx]; omega)] at h
      obtain ⟨i, v, k, h1, h2, h3⟩ := flat_at (fun v hv => ho v (List.mem_cons_of_mem _ hv)) h
      refine ⟨i + 1, v, k, by simpa using h1, h2, ?_⟩
      simp only [Array.length_toList, hx] at h3
      rw [Nat.add_mul]; omega

/-- A slice's value and its cells, whoever owns it. -/
theorem slice_cells (hX : XOK X) {a : Act} (hR : Rel B cl m s a.tmps w) {t : TypeId} {x : Operand} {u : X.U} {n : Nat} {get : Nat → PV X.U} (hs : sliceOf X s.own (s.ev t x) = some u) (hu : X.view u = .sl n get) :
    ∃ ao cap vs, a.eval x = .slice ao n cap ∧ vs.length = n ∧ (∀ i (h : i < vs.length), VP X cl w (get i) vs[i]) ∧ n ≤ cap ∧ (∀ v ∈ vs, oc v (X.esz u)) ∧
      (vs = [] ∨ ∃ ad, ao = some ad ∧ ad.spot = none ∧ ∀ j c, (flat vs)[j]? = some c → w.cell? ⟨ad.block, ad.off + j, none⟩ = some c) := by
  have hv := evV hX hR t x
  generalize s.ev t x = v at hs hv
  generalize a.eval x = c0 at hv
  unfold sliceOf at hs
  split at hs
  · cases hs
    cases hv with
    | pv hv =>
      obtain ⟨ao, cap, vs, rfl, h2, h3, h4, h5, h6⟩ := sl_inv hv hu
      refine ⟨ao, cap, vs, rfl, h2, h3, h4, h5, ?_⟩
      rcases h6 with h6 | ⟨ad, ha, hsp, h6⟩
      · exact .inl h6
      · refine .inr ⟨ad, ha, hsp, fun j c hj => ?_⟩
        obtain ⟨i, v, k, g1, g2, rfl⟩ := flat_at h5 hj
        have := ((h6 i v g1).2 k c g2).2
        rw [← Nat.add_assoc]; exact this
  · rename_i l
    cases hv with
    | bor hv =>
      have := hv _ (lval_of hs); subst this
      obtain ⟨ao, n', cap, e1, e2⟩ := ownV hR hs
      obtain ⟨vs, get', q1, q2, q3, q4, q5, q6⟩ := e2
      rw [hu] at q1; cases q1
      refine ⟨ao, cap, vs, e1, q2, q3, q5, q4, ?_⟩
      rcases q6 with ⟨_, hc⟩ | ⟨ad, arr, el, fz, ha, hsp, _, hh, _, _, hcs⟩
      · exact .inl (List.eq_nil_of_length_eq_zero (by omega))
      · exact .inr ⟨ad, ha, hsp, fun j c hj => by simp [World.cell?, hh, hcs j c hj]⟩
  · rename_i l lo hi sz
    split at hs
    case h_2 => cases hs
    rename_i u0 hu0
    split at hs
    case isFalse => cases hs
    rename_i hsz
    cases hv with
    | sub hv =>
      obtain ⟨a0, n0, cap0, e0, hlo, hhi, rfl⟩ := hv _ (lval_of hu0)
      obtain ⟨ao, n', cap, e1, e2⟩ := ownV hR hu0
      rw [e0] at e1; cases e1
      obtain ⟨vs, get', q1, q2, q3, q4, q5, q6⟩ := e2
      obtain ⟨k1, g, k2, k3⟩ := hX.cut _ _ _ _ _ _ hs q1 hlo hhi
      rw [hu] at k2; cases k2
      have hlen : ((vs.drop lo).take (hi - lo)).length = hi - lo := by simp; omega
      refine ⟨_, _, (vs.drop lo).take (hi - lo), rfl, hlen, fun i hi' => ?_, by omega, fun v hv => ?_, ?_⟩
      · rw [k3 i (by omega)]
        have : ((vs.drop lo).take (hi - lo))[i] = vs[lo + i]'(by omega) := by simp
        rw [this]; exact q3 _ _
      · rw [k1]; exact q4 v (List.mem_of_mem_drop (List.mem_of_mem_take hv))
      · rcases q6 with ⟨_, hc⟩ | ⟨ad, arr, el, fz, rfl, hsp, _, hh, _, _, hcs⟩
        · exact .inl (List.eq_nil_of_length_eq_zero (by omega))
        · by_cases hcl : cap0 = lo
          · exact .inl (List.eq_nil_of_length_eq_zero (by omega))
          · refine .inr ⟨ad.add (lo * sz), by rw [if_neg hcl]; rfl, by rw [addr_add hsp], fun j c hj => ?_⟩
            rw [addr_add hsp]
            have hsub : ∀ v ∈ (vs.drop lo).take (hi - lo), oc v (X.esz u0) := fun v hv => q4 v (List.mem_of_mem_drop (List.mem_of_mem_take hv))
            obtain ⟨i, v, k, g1, g2, rfl⟩ := flat_at hsub hj
            have hi' : i < hi - lo := by have := (List.getElem?_eq_some_iff.mp g1).1; omega
            have g3 : vs[lo + i]? = some v := by
              rw [List.getElem?_take, if_pos hi', List.getElem?_drop] at g1; exact g1
            obtain ⟨ca, cb, f1, f2⟩ := flat_row q4 g3
            have hkl := (List.getElem?_eq_some_iff.mp g2).1
            have f3 : (flat vs)[(lo + i) * X.esz u0 + k]? = some c := by
              rw [f1, List.getElem?_append_right (by omega), List.getElem?_append_left (by omega), show (lo + i) * X.esz u0 + k - ca.length = k by omega]; exact g2
            have := hcs _ _ f3
            rw [← hsz]
            show w.cell? ⟨ad.block, ad.off + lo * X.esz u0 + (i * X.esz u0 + k), none⟩ = some c
            rw [show ad.off + lo * X.esz u0 + (i * X.esz u0 + k) = ad.off + ((lo + i) * X.esz u0 + k) by rw [Nat.add_mul]; omega]
            simp [World.cell?, hh, this]
  · cases hs

theorem flat_map_int {k : IntKind} : ∀ ns : List Int, flat (ns.map (Value.int k)) = ns.map (Value.int k)
  | [] => rfl
  | n :: r => by rw [List.map_cons, flat_cons, flat_map_int r]; rfl
theorem flat_ints {get : Nat → PV X.U} {ns : List Int} : ∀ {vs : List Value}, vs.length = ns.length → (∀ i (h : i < vs.length), VP X cl w (get i) vs[i]) → (∀ i, i < ns.length → get i = .int .u8 (ns.getD i 0)) → vs = ns.map (Value.int .u8) := by
  intro vs hl h hg
  apply List.ext_getElem
  · simpa using hl
  · intro i h1 h2
    have := h i h1
    rw [hg i (by omega)] at this
    have e : vs[i] = .int .u8 (ns.getD i 0) := by
      generalize vs[i] = z at this
      cases this; rfl
    rw [e]
    simp [List.getD, List.getElem?_eq_getElem (show i < ns.length by omega)]

theorem convert_sound (hX : XOK X) (hT : TOK P X) {o : Oper} {src dst : TypeId} {x : Operand} (ho : o.op = .convert src dst x) {K : AV X.U → Option ρ} {r : ρ}
    (h : valK X ⟨s.ev, s.own, assoc s.hp⟩ o K = some r) : Tells P s o K r := by
  unfold valK at h
  simp only [ho] at h
  split at h
  · rename_i _ _ k _ _ k' n h1 h2 hev
    refine ⟨_, h, rfl, fun B cl m a w hR => ⟨_, ?_, .pv (.int _ _)⟩⟩
    have := evV hX hR src x; rw [hev] at this
    simp [execOp, ho, int_inv this, Go.convert, run_underlying (int_ty hT h1), run_underlying (int_ty hT h2), Conv.intToInt]
  · rename_i h1 h2 hev
    refine ⟨_, h, rfl, fun B cl m a w hR => ⟨_, ?_, .pv (.str _)⟩⟩
    have := evV hX hR src x; rw [hev] at this
    simp [execOp, ho, str_inv this, Go.convert, run_underlying (str_ty hT h1), run_underlying (str_ty hT h2)]
  · rename_i e _ _ _ _ h1 h2
    split at h
    case h_2 => cases h
    rename_i _ _ u he hs
    split at h
    case h_2 => cases h
    rename_i str hstr
    refine ⟨_, h, rfl, fun B cl m a w hR => ⟨_, ?_, .pv (.str _)⟩⟩
    obtain ⟨hez, get, ns, hview, hget, rfl⟩ := hX.toStr _ _ hstr
    obtain ⟨ao, cap, vs, e1, e2, e3, e4, e5, e6⟩ := slice_cells hX hR hs hview
    have hvs := flat_ints e2 e3 hget
    have hr : (convert src dst (a.eval x)).run P w = .ok (.string (strOfNums ns)) w := by
      rw [e1]
      rcases e6 with e6 | ⟨ad, rfl, hsp, hc⟩
      · have hns : ns = [] := List.eq_nil_of_length_eq_zero (by rw [← e2, e6]; rfl)
        subst hns
        rw [run_convert_bytes_string w src dst e _ _ _ (slice_ty hT h1) (int_ty hT he) (str_ty hT h2)]
        cases ao with
        | none => simp [Conv.bytesToString]; rfl
        | some ad => simp [Conv.bytesToString, loadCells, loadCellsFrom]; rfl
      · rw [addr_eta hsp]
        refine run_convert_bytes_arg w src e (slice_ty hT h1) (int_ty hT he) ad.block ad.off _ cap ns rfl (fun i hi => ?_) dst (str_ty hT h2)
        refine hc i _ ?_
        have hfl : flat vs = vs := by rw [hvs]; exact flat_map_int ns
        rw [hfl, hvs]
        simp [List.getD, List.getElem?_eq_getElem hi]
    simp [execOp, ho, hr]
  · cases h

theorem VPt.get : ∀ {cs : List (PV X.U)} {vs : List Value}, VPt X cl w cs vs → ∀ {i : Nat} {v : PV X.U}, cs[i]? = some v → ∃ c, vs[i]? = some c ∧ VP X cl w v c
  | _, _, .nil, i, v, h => by simp at h
  | _, _, .cons h1 h2, 0, v, h => by simp only [List.getElem?_cons_zero, Option.some.injEq] at h; subst h; exact ⟨_, rfl, h1⟩
  | _, _, .cons h1 h2, i + 1, v, h => by simp only [List.getElem?_cons_succ] at h ⊢; exact h2.get h

theorem extract_sound (hX : XOK X) {o : Oper} {x : Operand} {i : Nat} (ho : o.op = .extract x i) {K : AV X.U → Option ρ} {r : ρ}
    (h : valK X ⟨s.ev, s.own, assoc s.hp⟩ o K = some r) : Tells P s o K r := by
  unfold valK at h
  simp only [ho] at h
  split at h
  · rename_i cs hev
    split at h
    case h_2 => cases h
    rename_i v hv
    refine ⟨_, h, rfl, fun B cl m a w hR => ?_⟩
    have h1 := evV hX hR 0 x; rw [hev] at h1
    generalize hc0 : a.eval x = c0 at h1
    cases h1 with
    | pv h1 =>
      cases h1 with
      | tup h1 =>
        obtain ⟨c, g1, g2⟩ := h1.get hv
        exact ⟨c, by simp [execOp, ho, hc0, Instr.extract, g1], .pv g2⟩
  · rename_i o' cs hev
    cases i with
    | zero => cases h
    | succ j =>
    simp only at h
    split at h
    case h_2 => cases h
    rename_i v hv
    refine ⟨_, h, rfl, fun B cl m a w hR => ?_⟩
    have h1 := evV hX hR 0 x; rw [hev] at h1
    generalize hc0 : a.eval x = c0 at h1
    cases h1 with
    | otup h1 _ =>
      obtain ⟨c, g1, g2⟩ := h1.get hv
      exact ⟨c, by simp [execOp, ho, hc0, Instr.extract, g1], .pv g2⟩
  · cases h

theorem nilCheck_sound (hX : XOK X) {o : Oper} {x : Operand} (ho : o.op = .nilCheck x) {K : AV X.U → Option ρ} {r : ρ}
    (h : valK X ⟨s.ev, s.own, assoc s.hp⟩ o K = some r) : Tells P s o K r := by
  unfold valK at h
  simp only [ho] at h
  split at h
  · rename_i id off hev
    refine ⟨_, h, rfl, fun B cl m a w hR => ?_⟩
    have h1 := evV hX hR 0 x; rw [hev] at h1
    generalize hc0 : a.eval x = c0 at h1
    have h2 := h1
    cases h1
    exact ⟨_, by simp [execOp, ho, hc0], h2⟩
  · rename_i v hev
    refine ⟨_, h, rfl, fun B cl m a w hR => ?_⟩
    have h1 := evV hX hR 0 x; rw [hev] at h1
    generalize hc0 : a.eval x = c0 at h1
    have h2 := h1
    cases h1
    exact ⟨_, by simp [execOp, ho, hc0], h2⟩
  · rename_i f fs cs hev
    refine ⟨_, h, rfl, fun B cl m a w hR => ?_⟩
    have h1 := evV hX hR 0 x; rw [hev] at h1
    generalize hc0 : a.eval x = c0 at h1
    have h2 := h1
    cases h1
    exact ⟨_, by simp [execOp, ho, hc0], h2⟩
  · cases h

theorem toSVs_sound {a : Act} (hX : XOK X) (hR : Rel B cl m s a.tmps w) : ∀ {l : List Operand} {vs : List (SV X.U)}, toSVs (l.map (s.ev 0)) = some vs → VSs X cl w m vs (l.map a.eval)
  | [], vs, h => by simp [toSVs] at h; subst h; exact .nil
  | x :: r, vs, h => by
    simp only [List.map_cons, toSVs] at h
    split at h
    · rename_i p q hp hq
      simp only [Option.some.injEq] at h; subst h
      refine .cons ?_ (toSVs_sound hX hR hq)
      have h1 := evV hX hR 0 x
      cases hv : s.ev 0 x <;> rw [hv] at hp h1 <;> simp [AV.toSV] at hp <;> subst hp <;> generalize a.eval x = c at h1
      · cases h1 with | pv h1 => exact .pv h1
      · cases h1; exact .ptr _ _
      · cases h1 with | ref h1 h2 => exact .ref h1 h2
      · cases h1 with | fn h1 h2 => exact .fn h1 h2
      · cases h1 with | rp h1 => exact .rp h1
    · cases h

theorem makeFunc_sound (hX : XOK X) {o : Oper} {f : FuncId} {first caps : Array Operand} (ho : o.op = .makeFunc (.func f) first caps) {K : AV X.U → Option ρ} {r : ρ}
    (h : valK X ⟨s.ev, s.own, assoc s.hp⟩ o K = some r) : Tells P s o K r := by
  unfold valK at h
  simp only [ho] at h
  split at h
  · rename_i p q hp hq
    refine ⟨_, h, rfl, fun B cl m a w hR => ⟨.func (.func f) (first.map a.eval) (caps.map a.eval), by simp [execOp, ho, Instr.makeFunc], ?_⟩⟩
    have := V.fn (lv := lval m s a.tmps w) (f := f) (toSVs_sound hX hR hp) (toSVs_sound hX hR hq)
    have e1 : (first.toList.map a.eval).toArray = first.map a.eval := by apply Array.ext'; simp
    have e2 : (caps.toList.map a.eval).toArray = caps.map a.eval := by apply Array.ext'; simp
    rw [e1, e2] at this; exact this
  · cases h

theorem arr1 {args : Array Operand} {x : Operand} (h : args.toList = [x]) : args = #[x] := by apply Array.ext'; simpa using h
theorem arr2 {args : Array Operand} {x y : Operand} (h : args.toList = [x, y]) : args = #[x, y] := by apply Array.ext'; simpa using h
theorem arrT {args : Array TypeId} {l : List TypeId} (h : args.toList = l) : args = l.toArray := by apply Array.ext'; simpa using h

theorem len_sound (hX : XOK X) (hT : TOK P X) {o : Oper} {args : Array Operand} {argTypes : Array TypeId} (ho : o.op = .call { callee := .builtin .len, args, argTypes }) {K : AV X.U → Option ρ} {r : ρ}
    (h : valK X ⟨s.ev, s.own, assoc s.hp⟩ o K = some r) : Tells P s o K r := by
  unfold valK at h
  simp only [ho] at h
  split at h
  case h_2 => cases h
  rename_i x t hargs htys
  have e1 := arr1 hargs
  have e2 := arrT htys
  split at h
  case h_2 => cases h
  rename_i n hn
  refine ⟨_, h, rfl, fun B cl m a w hR => ⟨.int .i64 n, ?_, .pv (.int _ _)⟩⟩
  have h1 := evV hX hR t x
  have hgo : ∀ c, a.eval x = c → (Builtin.len_ #[t] o.type #[c]).run P w = .ok (.int .i64 n) w → (execOp a.eval o).run P w = .ok (.value (.int .i64 n)) w := by
    intro c hc hr
    simp [execOp, ho, e1, e2, resolve, invoke, Go.builtin, hc, hr]
  unfold lenK at hn
  split at hn
  · rename_i z hev
    split at hn
    · rename_i hty
      simp only [Option.some.injEq] at hn; subst hn
      rw [hev] at h1
      refine hgo _ (str_inv h1) ?_
      simp [Builtin.len_, run_underlying (str_ty hT hty), goInt]
    · cases hn
  · rename_i u hev
    split at hn
    · rename_i n' get hu
      split at hn
      · rename_i e sz b hty
        simp only [Option.some.injEq] at hn; subst hn
        rw [hev] at h1
        generalize hc0 : a.eval x = c0 at h1
        cases h1 with
        | pv h1 =>
          obtain ⟨ao, cap, vs, rfl, _⟩ := sl_inv h1 hu
          refine hgo _ hc0 ?_
          simp [Builtin.len_, run_underlying (slice_ty hT hty), goInt]
      · cases hn
    · cases hn
  · rename_i l hev
    split at hn
    case h_2 => cases hn
    rename_i u hou
    split at hn
    · rename_i n' get hu
      split at hn
      · rename_i e sz b hty
        simp only [Option.some.injEq] at hn; subst hn
        rw [hev] at h1
        generalize hc0 : a.eval x = c0 at h1
        cases h1 with
        | bor h1 =>
          have := h1 _ (lval_of hou); subst this
          obtain ⟨ao, n2, cap, e3, e4⟩ := ownV hR hou
          obtain ⟨vs, get', q1, _⟩ := e4
          rw [hu] at q1; cases q1
          refine hgo _ hc0 ?_
          rw [e3]
          simp [Builtin.len_, run_underlying (slice_ty hT hty), goInt]
      · cases hn
    · cases hn
  · cases hn

theorem minmax_sound (hX : XOK X) {o : Oper} {args : Array Operand} {argTypes : Array TypeId} (ho : o.op = .call { callee := .builtin .min, args, argTypes } ∨ o.op = .call { callee := .builtin .max, args, argTypes })
    {K : AV X.U → Option ρ} {r : ρ} (h : valK X ⟨s.ev, s.own, assoc s.hp⟩ o K = some r) : Tells P s o K r := by
  unfold valK at h
  rcases ho with ho | ho
  all_goals
    simp only [ho] at h
    split at h
    case h_2 => cases h
    rename_i x y t t' hargs htys
    have e1 := arr2 hargs
    split at h
    case h_2 => cases h
    rename_i k n k' n' hp hq
    refine ⟨_, h, rfl, fun B cl m a w hR => ⟨_, ?_, .pv (.int _ _)⟩⟩
    have h1 := evV hX hR t x; have h2 := evV hX hR t' y
    rw [hp] at h1; rw [hq] at h2
    simp [execOp, ho, e1, resolve, invoke, Go.builtin, int_inv h1, int_inv h2, Builtin.min_, Builtin.max_, Builtin.min2, Builtin.max2]

/-! What stands in a map. -/
theorem findNow_lit (s : ByteArray) : ∀ (ents : List MapEntry) (es : List (ByteArray × Int)) (i : Nat), ents.map (fun e => (e.key, e.val)) = es.map (fun p => (Value.string p.1, Value.int .i64 p.2)) →
    ∃ q, Instr.findNow .string (.string s) ents i = some q ∧ ((q = none ∧ lookL es s = 0) ∨ ∃ j, q = some (j, .int .i64 (lookL es s)))
  | [], [], i, _ => ⟨none, rfl, .inl ⟨rfl, rfl⟩⟩
  | [], _ :: _, i, h => by simp at h
  | _ :: _, [], i, h => by simp at h
  | e :: ents, (k, v) :: es, i, h => by
    simp only [List.map_cons, List.cons.injEq, Prod.mk.injEq] at h
    obtain ⟨⟨h1, h2⟩, h3⟩ := h
    obtain ⟨q, g1, g2⟩ := findNow_lit s ents es (i + 1) h3
    unfold Instr.findNow
    rw [h1]
    simp only [Instr.sameNow]
    unfold lookL
    rw [← beq_toListBytes]
    cases s == k with
    | true => exact ⟨_, rfl, .inr ⟨i, by rw [h2]; rfl⟩⟩
    | false => exact ⟨q, g1, g2⟩
theorem lookup_sound (hX : XOK X) (hT : TOK P X) {o : Oper} {t : TypeId} {x y : Operand} (ho : o.op = .lookup t x y false) {K : AV X.U → Option ρ} {r : ρ}
    (h : valK X ⟨s.ev, s.own, assoc s.hp⟩ o K = some r) : Tells P s o K r := by
  unfold valK at h
  simp only [ho] at h
  split at h
  case h_2 => cases h
  rename_i kt et b1 b2 es z hty hx hy
  split at h
  case h_2 => cases h
  rename_i b3 b4 hk
  refine ⟨_, h, rfl, fun B cl m a w hR => ?_⟩
  have h1 := evV hX hR 0 x; rw [hx] at h1
  have h2 := evV hX hR 0 y; rw [hy] at h2
  have h2' := str_inv h2
  generalize hc0 : a.eval x = c0 at h1
  cases h1 with
  | pv h1 =>
    cases h1 with
    | @mp _ b ents ck g1 g2 g3 =>
      obtain ⟨info, d, i1, i2, i3, i4, i5⟩ := hT.ty t _ hty
      have i5' : d = .map kt et := i5
      subst i5'
      obtain ⟨q, f1, f2⟩ := findNow_lit z ents.toList es 0 g3
      obtain ⟨zi, j1, j2⟩ := hT.mapz t _ _ _ _ hty
      have hzero : (zeroValue et).run P w = .ok (.int .i64 0) w := by
        simp [zeroValue, typeInfo, run_program, j1, j2, Result.andThen]
      have hk' : P.underlying kt = some .string := str_ty hT hk
      have hck : (Instr.checkKey ents.isEmpty 10000 kt (.string z)).run P w = .ok () w := by
        unfold Instr.checkKey
        simp only [Sem.run_bind, run_underlying hk', Result.andThen]
        rfl
      have hfk : (Instr.findKey kt (.string z) ents.toList).run P w = .ok q w := by
        simp [Instr.findKey, run_underlying hk', Result.andThen, f1]
      have hg : (getObj b).run P w = .ok (.map ents ck) w := by simp [getObj, Sem.run, g2]
      refine ⟨.int .i64 (lookL es z), ?_, .pv (.int _ _)⟩
      simp only [execOp, ho, hc0, h2', Instr.lookup, Sem.run_bind, run_underlying i4, Result.andThen_ok, hg, hck, hfk, Sem.run_pure]
      rcases f2 with ⟨rfl, f2⟩ | ⟨j, rfl⟩
      · simp [hzero, f2]
      · simp
theorem valK_sound (hX : XOK X) (hT : TOK P X) {o : Oper} {K : AV X.U → Option ρ} {r : ρ} (h : valK X ⟨s.ev, s.own, assoc s.hp⟩ o K = some r) : Tells P s o K r := by
  cases ho : o.op with
  | move x => unfold valK at h; simp only [ho] at h; exact move_sound hX (.inl ho) h
  | assign x => unfold valK at h; simp only [ho] at h; exact move_sound hX (.inr ho) h
  | pick c a b => exact pick_sound hX ho h
  | build t p => exact buildOp_sound hX hT ho h
  | load t a => exact load_sound hX hT ho h
  | fieldAddr t a f => exact fieldAddr_sound hX hT ho h
  | field t a f => exact field_sound hX hT ho h
  | indexAddr t a i => exact indexAddr_sound hX hT ho h
  | index t a i => exact index_sound hX hT ho h
  | slice t x lo hi mx => exact slice_sound hX hT ho h
  | binOp op t x y yt => exact binOp_sound hX hT ho h
  | unOp op t x => exact unOp_sound hX hT ho h
  | convert src dst x => exact convert_sound hX hT ho h
  | extract x i => exact extract_sound hX ho h
  | lookup t x y b =>
    cases b with
    | false => exact lookup_sound hX hT ho h
    | true => unfold valK at h; simp only [ho] at h; cases h
  | nilCheck x => exact nilCheck_sound hX ho h
  | makeFunc fn first caps =>
    cases fn with
    | func f => exact makeFunc_sound hX ho h
    | _ => unfold valK at h; simp only [ho] at h; cases h
  | call c =>
    obtain ⟨callee, args, argTypes⟩ := c
    cases callee with
    | builtin b =>
      cases b with
      | len => exact len_sound hX hT ho h
      | min => exact minmax_sound hX (.inl ho) h
      | max => exact minmax_sound hX (.inr ho) h
      | _ => unfold valK at h; simp only [ho] at h; cases h
    | _ => unfold valK at h; simp only [ho] at h; cases h
  | _ => unfold valK at h; simp only [ho] at h; cases h
end Go.AX
