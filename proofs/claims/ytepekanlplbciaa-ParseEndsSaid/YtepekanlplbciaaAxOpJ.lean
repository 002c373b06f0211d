/-
  Calls: arguments that are lent, that are taken over.
-/
import Derived.Test.YtepekanlplbciaaAxOpI
namespace Go.AX
open Go
variable {X : Univ} {P : Program} {cl cl' m : Nat → Nat} {w w' : World} {B : Base} {s s1 : St X.U} {tm : Array Value} {ρ : Type} {lv : Lc → Option Value}

/-- A part of a told row. -/
theorem cut_VP (hX : XOK X) {u u' : X.U} {lo hi n cap : Nat} {ao : Option Addr} (hcut : X.cut u lo hi = some u') (h1 : lo ≤ hi) (h2 : hi ≤ n) (h : VP X cl w (.typ u) (.slice ao n cap)) :
    VP X cl w (.typ u') (.slice (if cap = lo then ao else ao.map (·.add (lo * X.esz u))) (hi - lo) (cap - lo)) := by
  cases h with
  | @sl _ _ _ get vs _ hu hn h3 h4 h5 h6 =>
  obtain ⟨c1, get', c2, c3⟩ := hX.cut u _ _ u' n get hcut hu h1 h2
  refine .sl (vs := (vs.drop lo).take (hi - lo)) c2 (by simp; omega) ?_ (by omega) ?_ ?_
  · intro i hi'
    have hi2 : i < hi - lo := by simp at hi'; omega
    rw [c3 i hi2]
    have : ((vs.drop lo).take (hi - lo))[i] = vs[lo + i]'(by simp at hi'; omega) := by simp
    rw [this]; exact h3 _ _
  · intro v hv
    rw [c1]; exact h5 v (List.mem_of_mem_drop (List.mem_of_mem_take hv))
  · rw [c1]
    rcases h6 with h6 | ⟨ad, rfl, hs, h6⟩
    · exact .inl (by rw [h6]; simp)
    · by_cases he : (vs.drop lo).take (hi - lo) = []
      · exact .inl he
      · have hlt : lo < cap := by
          have : 0 < ((vs.drop lo).take (hi - lo)).length := List.length_pos_iff.mpr he
          simp at this; omega
        refine .inr ⟨⟨ad.block, ad.off + lo * X.esz u, none⟩, ?_, rfl, fun i v hv => ?_⟩
        · rw [if_neg (by omega)]; simp [addr_add hs]
        · have : vs[lo + i]? = some v := by
            rw [List.getElem?_take] at hv
            split at hv
            · rw [List.getElem?_drop] at hv; exact hv
            · cases hv
          have := h6 _ v this
          rw [Nat.add_mul, ← Nat.add_assoc] at this
          exact this

/-- Arguments as the callee gets them, what is lent being told. -/
theorem args_sound (hX : XOK X) {a : Act} {tk : List Nat} (hR : Rel B cl m s a.tmps w) (he : Ext cl w cl' w) : ∀ (l : List (AV X.U)) (cs : List Value) (k : Nat) (as : List (AV X.U)) (ls : List (Lc × Bool)),
    argsK X s.own tk k l = some (as, ls) → (∀ p ∈ ls, ∃ i, p.1 = .slot i) → idsL as = [] → cs.length = l.length → (∀ (i : Nat) (v : AV X.U) (c : Value), l[i]? = some v → cs[i]? = some c → V X cl w m (lval m s a.tmps w) v c) →
    (∀ i u, (Lc.slot i, false) ∈ ls → s.look i = .own u → VP X cl' w (.typ u) (a.tmps.getD i Go.undef)) →
    as.length = l.length ∧ (as.filter fun v => v.hold?.isSome).length = (ls.filter (·.2)).length ∧ (∀ p ∈ ls, ∃ u, s.own p.1 = some u) ∧ ∀ (i : Nat) (v : AV X.U) (c : Value), as[i]? = some v → cs[i]? = some c →
      (v.hold? = none ∧ ∀ m' lv', V X cl' w m' lv' v c) ∨ ∃ u j, v = .own u ∧ c = a.tmps.getD j Go.undef ∧ s.look j = .own u ∧ (Lc.slot j, true) ∈ ls
  | [], cs, k, as, ls, h, _, _, _, _, _ => by simp [argsK] at h; obtain ⟨rfl, rfl⟩ := h; exact ⟨rfl, rfl, by simp, fun i v c h => by simp at h⟩
  | v :: r, cs, k, as, ls, h, hl, hi, hlen, hv, ht => by
    cases cs with
    | nil => simp at hlen
    | cons c cs =>
    have hv0 := hv 0 v c rfl rfl
    -- the others
    have rest : ∀ {as' : List (AV X.U)} {ls' : List (Lc × Bool)}, argsK X s.own tk (k + 1) r = some (as', ls') → (∀ p ∈ ls', p ∈ ls) → idsL as' = [] → _ := fun {as' ls'} h2 hsub hi' =>
      args_sound hX hR he r cs (k + 1) as' ls' h2 (fun p hp => hl p (hsub p hp)) hi' (by simpa using hlen) (fun i v' c' h3 h4 => hv (i + 1) v' c' (by simpa using h3) (by simpa using h4)) (fun i u hiu => ht i u (hsub _ hiu))
    unfold argsK at h
    split at h
    · rename_i x as' ls' h1 h2
      simp only [Option.some.injEq, Prod.mk.injEq] at h; obtain ⟨rfl, rfl⟩ := h
      simp only [idsL, List.append_eq_nil_iff] at hi
      obtain ⟨r1, r2, r3, r4⟩ := rest h2 (fun p hp => hp) hi.2
      have hx : x.hold? = none ∧ ∀ m' lv', V X cl' w m' lv' x c := by
        unfold argK at h1
        split at h1
        · split at h1
          · split at h1 <;> simp at h1
          · cases h1
        · split at h1
          · cases h1
          · split at h1 <;> simp at h1
        · simp only [Option.some.injEq, Prod.mk.injEq] at h1; obtain ⟨rfl, _⟩ := h1
          cases hv0 with | pv hv0 => exact ⟨rfl, fun _ _ => .pv (hv0.mono he)⟩
        · simp only [Option.some.injEq, Prod.mk.injEq] at h1; obtain ⟨rfl, _⟩ := h1
          cases hv0 with | ref q1 q2 => exact ⟨rfl, fun _ _ => .ref (q1.mono he) (q2.mono he)⟩
        · split at h1
          · simp only [Option.some.injEq, Prod.mk.injEq] at h1; obtain ⟨rfl, _⟩ := h1
            simp [AV.ids] at hi
          · cases h1
        · simp only [Option.some.injEq, Prod.mk.injEq] at h1; obtain ⟨rfl, _⟩ := h1
          simp only [AV.ids, List.append_eq_nil_iff] at hi
          cases hv0 with
          | fn q1 q2 => exact ⟨rfl, fun m' _ => .fn ((q1.mono he (m' := m) fun _ _ => rfl).noids hi.1.1 m') ((q2.mono he (m' := m) fun _ _ => rfl).noids hi.1.2 m')⟩
        · simp only [Option.some.injEq, Prod.mk.injEq] at h1; obtain ⟨rfl, _⟩ := h1
          cases hv0 with | nil => exact ⟨rfl, fun _ _ => .nil⟩
        · simp only [Option.some.injEq, Prod.mk.injEq] at h1; obtain ⟨rfl, _⟩ := h1
          exact ⟨rfl, fun _ _ => .undef _⟩
        · simp only [Option.some.injEq, Prod.mk.injEq] at h1; obtain ⟨rfl, _⟩ := h1
          simp [AV.ids] at hi
        · cases h1
      refine ⟨by simp [r1], by simp [hx.1, r2], r3, fun i v' c' h3 h4 => ?_⟩
      cases i with
      | succ i => exact r4 i v' c' (by simpa using h3) (by simpa using h4)
      | zero =>
        simp only [List.getElem?_cons_zero, Option.some.injEq] at h3 h4; subst h3; subst h4
        exact .inl hx
    · rename_i x l0 as' ls' h1 h2
      simp only [Option.some.injEq, Prod.mk.injEq] at h; obtain ⟨rfl, rfl⟩ := h
      simp only [idsL, List.append_eq_nil_iff] at hi
      obtain ⟨r1, r2, r3, r4⟩ := rest h2 (fun p hp => List.mem_cons_of_mem _ hp) hi.2
      obtain ⟨i0, hi0⟩ := hl _ List.mem_cons_self
      simp only at hi0; subst hi0
      have hb : ∃ u, s.own (.slot i0) = some u ∧ ((tk.contains k = true ∧ x = .own u ∧ c = a.tmps.getD i0 Go.undef) ∨ (tk.contains k = false ∧ ∃ p, x = .pv p ∧ VP X cl' w p c)) := by
        unfold argK at h1
        split at h1
        · rename_i l1
          split at h1
          · rename_i u hu
            have hc : l1 = .slot i0 → c = a.tmps.getD i0 Go.undef := fun e => by
              subst e
              cases hv0 with
              | bor hv0 => exact hv0 _ (lval_of hu)
            split at h1
            · rename_i ht'
              simp only [Option.some.injEq, Prod.mk.injEq] at h1; obtain ⟨rfl, h1⟩ := h1; subst h1
              exact ⟨u, hu, .inl ⟨ht', rfl, hc rfl⟩⟩
            · rename_i ht'
              simp only [Option.some.injEq, Prod.mk.injEq] at h1; obtain ⟨rfl, h1⟩ := h1; subst h1
              simp only [Bool.not_eq_true] at ht'
              exact ⟨u, hu, .inr ⟨ht', _, rfl, by rw [hc rfl]; exact ht i0 u (by rw [ht']; exact List.mem_cons_self) (own_look hu)⟩⟩
          · cases h1
        · rename_i l1 lo hi' sz
          split at h1
          · cases h1
          rename_i ht'
          simp only [Bool.not_eq_true] at ht'
          split at h1
          case h_2 => cases h1
          rename_i u' hs
          simp only [Option.some.injEq, Prod.mk.injEq] at h1; obtain ⟨rfl, h1⟩ := h1; subst h1
          simp only [sliceOf] at hs
          split at hs
          case h_2 => cases hs
          rename_i u hu
          split at hs
          case isFalse => cases hs
          rename_i hesz
          refine ⟨u, hu, .inr ⟨ht', _, rfl, ?_⟩⟩
          have ht0 := ht i0 u (by rw [ht']; exact List.mem_cons_self) (own_look hu)
          cases hv0 with
          | sub hv0 =>
            obtain ⟨ao, n, cap, e1, e2, e3, rfl⟩ := hv0 _ (lval_of hu)
            have e1 : a.tmps.getD i0 Go.undef = .slice ao n cap := e1
            rw [e1] at ht0
            rw [← hesz]
            exact cut_VP hX hs e2 e3 ht0
        · simp at h1
        · simp at h1
        · split at h1 <;> simp at h1
        · simp at h1
        · simp at h1
        · simp at h1
        · simp at h1
        · cases h1
      obtain ⟨u, hu, hx⟩ := hb
      refine ⟨by simp [r1], ?_, fun p hp => ?_, fun i v' c' h3 h4 => ?_⟩
      · clear h1 hl ht
        rcases hx with ⟨e, rfl, _⟩ | ⟨e, p, rfl, _⟩ <;> rw [e]
        · rw [List.filter_cons_of_pos (by rfl), List.filter_cons_of_pos (by rfl), List.length_cons, List.length_cons, r2]
        · rw [List.filter_cons_of_neg (by simp [AV.hold?]), List.filter_cons_of_neg (by simp), r2]
      · rcases List.mem_cons.1 hp with rfl | hp
        · exact ⟨u, hu⟩
        · exact r3 p hp
      · cases i with
        | succ i =>
          rcases r4 i v' c' (by simpa using h3) (by simpa using h4) with g | ⟨u', j, g1, g2, g3, g4⟩
          · exact .inl g
          · exact .inr ⟨u', j, g1, g2, g3, List.mem_cons_of_mem _ g4⟩
        | zero =>
          simp only [List.getElem?_cons_zero, Option.some.injEq] at h3 h4; subst h3; subst h4
          rcases hx with ⟨ht', rfl, hc⟩ | ⟨ht', p, rfl, hp⟩
          · exact .inr ⟨u, i0, rfl, hc, own_look hu, by rw [ht']; exact List.mem_cons_self⟩
          · exact .inl ⟨rfl, fun _ _ => .pv hp⟩
    · cases h

/-- What is taken over is gone from its slot; its block may be changed. -/
theorem takeOne_rel (hX : ∀ u, 0 < X.width u) (h : Rel B cl m s tm w) {ls : List (Lc × Bool)} (hls : takenOk ls = true) (hTo : ∀ j, (Lc.slot j, true) ∈ ls → ∃ u, s.look j = .own u) (w1 : w'.os = w.os) (w2 : w'.tape = w.tape) (w3 : w'.output = w.output) (w4 : w.heap.size ≤ w'.heap.size)
    (w5 : ∀ b, b < w.heap.size → (∀ j, (Lc.slot j, true) ∈ ls → ¬ Ow m s tm w (.slot j) b) → w'.heap[b]? = w.heap[b]?) :
    Rel B cl m (takeOne X s ls) tm w' ∧ ∀ l b, Ow m (takeOne X s ls) tm w' l b → Ow m s tm w l b ∧ ∀ j, (Lc.slot j, true) ∈ ls → l ≠ .slot j := by
  simp only [takenOk, Bool.and_eq_true, decide_eq_true_eq, List.all_eq_true] at hls
  obtain ⟨hone, hall⟩ := hls
  unfold takeOne
  cases hf : ls.filter (·.2) with
  | nil =>
    have hno : ∀ j, (Lc.slot j, true) ∉ ls := fun j hj => by
      have : (Lc.slot j, true) ∈ ls.filter (·.2) := List.mem_filter.2 ⟨hj, rfl⟩
      rw [hf] at this; cases this
    have w5' : ∀ b, b < w.heap.size → w'.heap[b]? = w.heap[b]? := fun b hb => w5 b hb fun j hj => absurd hj (hno j)
    exact ⟨h.grow hX w1 w2 w3 w4 w5', fun l b hl => ⟨grow_ow h w5' hl, fun j hj => absurd hj (hno j)⟩⟩
  | cons p r =>
    have hp : p ∈ ls.filter (·.2) := by rw [hf]; exact List.mem_cons_self
    obtain ⟨hp1, hp2⟩ := List.mem_filter.1 hp
    have hr : r = [] := by
      rw [hf] at hone
      exact List.eq_nil_of_length_eq_zero (by simp at hone; simp [hone])
    obtain ⟨l0, b0⟩ := p
    simp only at hp2; subst hp2
    have hsl := (hall _ hp1).1
    cases l0 with
    | cell id off => simp at hsl
    | slot j0 =>
      simp only
      have hu := hTo j0 hp1
      obtain ⟨u, hu⟩ := hu
      have honly : ∀ j, (Lc.slot j, true) ∈ ls → j = j0 := fun j hj => by
        have : (Lc.slot j, true) ∈ ls.filter (·.2) := List.mem_filter.2 ⟨hj, rfl⟩
        rw [hf, hr] at this
        simp at this; exact this
      have w5' : ∀ b, b < w.heap.size → ¬ Ow m s tm w (.slot j0) b → w'.heap[b]? = w.heap[b]? := fun b hb hn => w5 b hb fun j hj => by rw [honly j hj]; exact hn
      refine ⟨h.take hX hu w1 w2 w3 w4 w5', fun l b hl => ?_⟩
      obtain ⟨g1, g2⟩ := take_ow hX h hu w4 w5' hl
      exact ⟨g1, fun j hj => by rw [honly j hj]; exact g2⟩

theorem filter_one {α : Type} {p : α → Bool} : ∀ {l : List α} {i j : Nat} {x y : α}, (l.filter p).length ≤ 1 → l[i]? = some x → l[j]? = some y → p x = true → p y = true → i = j
  | [], i, j, x, y, _, h, _, _, _ => by simp at h
  | z :: r, 0, 0, _, _, _, _, _, _, _ => rfl
  | z :: r, 0, j + 1, x, y, h, hx, hy, px, py => by
    simp only [List.getElem?_cons_zero, Option.some.injEq, List.getElem?_cons_succ] at hx hy; subst hx
    have : y ∈ r.filter p := List.mem_filter.2 ⟨List.mem_of_getElem? hy, py⟩
    have := List.length_pos_of_mem this
    rw [List.filter_cons_of_pos px, List.length_cons] at h; omega
  | z :: r, i + 1, 0, x, y, h, hx, hy, px, py => by
    simp only [List.getElem?_cons_zero, Option.some.injEq, List.getElem?_cons_succ] at hx hy; subst hy
    have : x ∈ r.filter p := List.mem_filter.2 ⟨List.mem_of_getElem? hx, px⟩
    have := List.length_pos_of_mem this
    rw [List.filter_cons_of_pos py, List.length_cons] at h; omega
  | z :: r, i + 1, j + 1, x, y, h, hx, hy, px, py => by
    simp only [List.getElem?_cons_succ] at hx hy
    have hr : (r.filter p).length ≤ 1 := by
      by_cases hz : p z = true
      · rw [List.filter_cons_of_pos hz, List.length_cons] at h; omega
      · rw [List.filter_cons_of_neg hz] at h; exact h
    rw [filter_one hr hx hy px py]

theorem evAV (hX : XOK X) {a : Act} (h : Rel B cl m s a.tmps w) (q : Bool) (p : Operand × TypeId) : V X cl w m (lval m s a.tmps w) (evA X s q p) (a.eval p.1) := by
  unfold evA
  split
  · rename_i e; rw [e]; exact .nil
  · exact evV hX h p.2 p.1
theorem evA_false : evA X s false = fun p => s.ev p.2 p.1 := by
  funext p
  unfold evA
  split
  · rename_i h _; cases h
  · rfl
/-- The arguments as they stand. -/
theorem args_av (hX : XOK X) {x : Operand} {args : Array Operand} {argTypes : Array TypeId} {f : FuncId} {first caps : List (SV X.U)} (hx : s.ev 0 x = .fn f first caps) (hlen : args.size = argTypes.size) {nq : Bool} {a : Act} (hR : Rel B cl m s a.tmps w) :
    ∃ ca cb : List Value, a.eval x = .func (.func f) ca.toArray cb.toArray ∧
      ((ca ++ args.toList.map a.eval ++ cb).length = (first.map SV.av ++ ((args.toList.zip argTypes.toList).map (evA X s nq)) ++ caps.map SV.av).length) ∧
      ∀ (i : Nat) (q : AV X.U) (c : Value), (first.map SV.av ++ ((args.toList.zip argTypes.toList).map (evA X s nq)) ++ caps.map SV.av)[i]? = some q → (ca ++ args.toList.map a.eval ++ cb)[i]? = some c → V X cl w m (lval m s a.tmps w) q c := by
  have h1 := evV hX hR 0 x
  rw [hx] at h1
  generalize hc0 : a.eval x = c0 at h1
  cases h1 with
  | @fn _ _ _ ca cb h1 h2 =>
    have hVs : ∀ {l : List (SV X.U)} {c : List Value}, VSs X cl w m l c → c.length = l.length ∧ ∀ (i : Nat) (q : AV X.U) (y : Value), (l.map SV.av)[i]? = some q → c[i]? = some y → V X cl w m (lval m s a.tmps w) q y := by
      intro l
      induction l with
      | nil => intro c h; cases h; exact ⟨rfl, fun i q y h => by simp at h⟩
      | cons z l ih =>
        intro c h
        cases h with
        | cons g1 g2 =>
          obtain ⟨e1, e2⟩ := ih g2
          refine ⟨by simp [e1], fun i q y e3 e4 => ?_⟩
          cases i with
          | zero =>
            simp only [List.map_cons, List.getElem?_cons_zero, Option.some.injEq] at e3 e4; subst e3; subst e4
            cases g1 with
            | pv g => exact .pv g
            | ref g g' => exact .ref g g'
            | ptr i o => exact .ptr i o
            | fn g g' => exact .fn g g'
            | rp g => exact .rp g
          | succ i => exact e2 i q y (by simpa using e3) (by simpa using e4)
    obtain ⟨l1, v1⟩ := hVs h1
    obtain ⟨l2, v2⟩ := hVs h2
    have hmid : ∀ (xs : List Operand) (ts : List TypeId), xs.length = ts.length → (xs.map a.eval).length = ((xs.zip ts).map (evA X s nq)).length ∧
        ∀ (i : Nat) (q : AV X.U) (y : Value), ((xs.zip ts).map (evA X s nq))[i]? = some q → (xs.map a.eval)[i]? = some y → V X cl w m (lval m s a.tmps w) q y := by
      intro xs
      induction xs with
      | nil => intro ts _; cases ts <;> exact ⟨rfl, fun i q y h => by simp at h⟩
      | cons z xs ih =>
        intro ts hts
        cases ts with
        | nil => simp at hts
        | cons t ts =>
          obtain ⟨e1, e2⟩ := ih ts (by simpa using hts)
          refine ⟨by simp at e1 ⊢; omega, fun i q y e3 e4 => ?_⟩
          cases i with
          | zero =>
            simp only [List.zip_cons_cons, List.map_cons, List.getElem?_cons_zero, Option.some.injEq] at e3 e4; subst e3; subst e4
            exact evAV hX hR nq (z, t)
          | succ i => exact e2 i q y (by simpa using e3) (by simpa using e4)
    obtain ⟨l3, v3⟩ := hmid args.toList argTypes.toList (by simpa using hlen)
    refine ⟨ca, cb, rfl, by simp only [List.length_append, List.length_map, l1, l2] at l3 ⊢; omega, fun i q c e1 e2 => ?_⟩
    rw [List.append_assoc] at e1 e2
    by_cases hi : i < ca.length
    · rw [List.getElem?_append_left (by simpa [l1] using hi)] at e1
      rw [List.getElem?_append_left hi] at e2
      exact v1 i q c e1 e2
    · rw [List.getElem?_append_right (by simp [← l1]; omega)] at e1
      rw [List.getElem?_append_right (by omega)] at e2
      simp only [List.length_map, ← l1] at e1
      by_cases hj : i - ca.length < (args.toList.map a.eval).length
      · rw [List.getElem?_append_left (by omega)] at e1
        rw [List.getElem?_append_left hj] at e2
        exact v3 _ q c e1 e2
      · rw [List.getElem?_append_right (by omega)] at e1
        rw [List.getElem?_append_right (by omega)] at e2
        rw [l3] at e2
        exact v2 _ q c e1 e2
theorem callK_sound (hX : XOK X) {N : Nat} {G : Ans X ρ} {tk : Takes} (hG : GOK P G) {o : Oper} {x : Operand} {args : Array Operand} {argTypes : Array TypeId} {f : FuncId} {first caps : List (SV X.U)}
    (ho : o.op = .call { callee := .value x, args, argTypes }) (hx : s.ev 0 x = .fn f first caps) (hlen : args.size = argTypes.size) {K : AV X.U → St X.U → Option ρ} {r : ρ}
    {nq : Bool} (h : callK X G tk s f (first.map SV.av ++ ((args.toList.zip argTypes.toList).map (evA X s nq)) ++ caps.map SV.av) K = some r) :
    ∃ v s', K v s' = some r ∧ (dstOk N o v = true → OpOk P N s o v s') := by
  unfold callK at h
  split at h
  case h_2 => cases h
  rename_i as ls hargs
  split at h
  case isFalse => cases h
  rename_i hls
  simp only [Bool.and_eq_true, List.isEmpty_iff] at hls
  obtain ⟨hids, hls⟩ := hls
  have hls0 := hls
  simp only [takenOk, Bool.and_eq_true, decide_eq_true_eq, List.all_eq_true] at hls0
  obtain ⟨hone, hall⟩ := hls0
  have hsl : ∀ p ∈ ls, ∃ i, p.1 = .slot i := fun p hp => by
    have h2 := (hall p hp).1
    split at h2
    · rename_i i hi; exact ⟨i, hi⟩
    · cases h2
  obtain ⟨⟨fn, hf1, hf2, hf3⟩, v, bx', hK, hcon⟩ := hG f as [] _ r h
  clear h
  split at hK
  case h_2 => cases hK
  rename_i s1 hs1
  have hav : ∀ {B : Base} {cl m : Nat → Nat} {a : Act} {w : World}, Rel B cl m s a.tmps w → ∃ ca cb : List Value, a.eval x = .func (.func f) ca.toArray cb.toArray ∧
      ((ca ++ args.toList.map a.eval ++ cb).length = (first.map SV.av ++ ((args.toList.zip argTypes.toList).map (evA X s nq)) ++ caps.map SV.av).length) ∧
      ∀ (i : Nat) (q : AV X.U) (c : Value), (first.map SV.av ++ ((args.toList.zip argTypes.toList).map (evA X s nq)) ++ caps.map SV.av)[i]? = some q → (ca ++ args.toList.map a.eval ++ cb)[i]? = some c → V X cl w m (lval m s a.tmps w) q c := fun hR => args_av hX hx hlen hR
  have hv12 : (∃ p, v = .pv p ∧ K (.pv p) (takeOne X s1 ls) = some r) ∨ (∃ u, v = .own u ∧ K (.own u) (takeOne X s1 ls) = some r) ∨ ∃ u q, v = .otup (some u) q ∧ K (.otup (some u) q) (takeOne X s1 ls) = some r := by
    split at hK
    · exact .inl ⟨_, rfl, hK⟩
    · exact .inr (.inl ⟨_, rfl, hK⟩)
    · exact .inr (.inr ⟨_, _, rfl, hK⟩)
    · cases hK
  have hKv : K v (takeOne X s1 ls) = some r := by rcases hv12 with ⟨_, rfl, h⟩ | ⟨_, rfl, h⟩ | ⟨_, _, rfl, h⟩ <;> exact h
  refine ⟨v, _, hKv, fun hd => ?_⟩
  intro B a w ⟨cl, m, hR, hN, hD⟩ next Q hnext
  obtain ⟨ca, cb, hfx, hl, hvv⟩ := hav hR
  have hlent : ∀ p ∈ ls.filter (!·.2), p.2 = false ∧ ∃ i, p.1 = .slot i := fun p hp => by
    obtain ⟨h1, h2⟩ := List.mem_filter.1 hp
    exact ⟨by simpa using h2, hsl p h1⟩
  obtain ⟨cl1, s2, t1, t2, t3, t4, t5⟩ := tellAll hX (ls.filter (!·.2)) s cl hlent hR
  obtain ⟨q1, q3, q4, q2⟩ := args_sound hX hR t3 _ _ 0 as ls hargs hsl hids hl hvv (fun i u hi => t4 i u (List.mem_filter.2 ⟨hi, rfl⟩))
  -- what is taken over
  have hT : ∀ j, (Lc.slot j, true) ∈ ls → ∃ u, s.look j = .own u ∧ s2.look j = .own u := fun j hj => by
    obtain ⟨u, hu⟩ := q4 _ hj
    have hlu := own_look hu
    refine ⟨u, hlu, t5 j u (fun hm => ?_) hlu⟩
    have h1 := (List.mem_filter.1 hm).1
    have := (hall _ h1).2
    simp only [Bool.false_or, List.all_eq_true, decide_eq_true_eq] at this
    exact this (Lc.slot j, true) (List.mem_filter.2 ⟨hj, rfl⟩) rfl
  have hTow : ∀ j b, (Lc.slot j, true) ∈ ls → (Ow m s a.tmps w (.slot j) b ↔ Ow m s2 a.tmps w (.slot j) b) := fun j b hj => by
    obtain ⟨u, h1, h2⟩ := hT j hj
    simp only [Ow, h1, h2]
  let D : Nat → Prop := fun b => ∃ j, (Lc.slot j, true) ∈ ls ∧ Ow m s2 a.tmps w (.slot j) b
  let cargs : Array Value := (ca ++ args.toList.map a.eval ++ cb).toArray
  have hcs : cargs.size = as.length := by simp only [cargs, List.size_toArray]; omega
  have hpre : Rel ⟨w, cl1, D, m⟩ cl1 m ({ env := zipI 0 as, hp := zipI 1000 [] } : St X.U) cargs w := by
    have hlook : ∀ i, ({ env := zipI 0 as, hp := zipI 1000 [] } : St X.U).look i = (as[i]?).getD .undef := fun i => by simp [St.look, assoc_zipI]
    have hent : ∀ i v c, as[i]? = some v → cargs[i]? = some c → (v.hold? = none ∧ ∀ m' lv', V X cl1 w m' lv' v c) ∨ ∃ u j, v = .own u ∧ c = a.tmps.getD j Go.undef ∧ s.look j = .own u ∧ (Lc.slot j, true) ∈ ls := fun i v c h1 h2 => q2 i v c h1 (by simpa [cargs] using h2)
    have how : ∀ l b, Ow m ({ env := zipI 0 as, hp := zipI 1000 [] } : St X.U) cargs w l b → ∃ i u j, l = .slot i ∧ as[i]? = some (.own u) ∧ (Lc.slot j, true) ∈ ls ∧ Ow m s2 a.tmps w (.slot j) b := by
      intro l b ho
      cases l with
      | slot i =>
        simp only [Ow, hlook] at ho
        cases hi : as[i]? with
        | none => simp [hi, blk] at ho
        | some v =>
          have hlt : i < cargs.size := by rw [hcs]; exact (List.getElem?_eq_some_iff.mp hi).1
          have hgd : cargs.getD i Go.undef = cargs[i] := by simp [Array.getD, hlt]
          rw [hi, hgd] at ho
          rcases hent i v cargs[i] hi (by simp [hlt]) with g | ⟨u, j, g1, g2, g3, g4⟩
          · exact absurd (by simpa using ho) (blk_none (c := cargs[i]) g.1 b)
          · refine ⟨i, u, j, rfl, by rw [hi, g1], g4, ?_⟩
            obtain ⟨u', h1, h2⟩ := hT j g4
            rw [g3] at h1; cases h1
            simp only [Ow, h2]
            rw [g1, g2] at ho; simpa using ho
      | cell id off => obtain ⟨c, u, h1, _⟩ := ho; simp [zipI, assoc] at h1
      | box id => obtain ⟨⟨c, h1⟩, _⟩ := ho; simp [zipI, assoc] at h1
    refine ⟨Fr.refl _ _ _ _, fun i => ?_, fun id c hc => by simp [zipI, assoc] at hc, fun l l' b h1 h2 => ?_, fun l b h1 => ?_, fun b hb => t2.top b hb, fun id c hc => by simp [zipI, assoc] at hc, t2.invAt hX fun b ⟨j, _, h⟩ => ⟨_, h⟩⟩
    · rw [hlook]
      cases hi : as[i]? with
      | none => exact .undef _
      | some v =>
        have hlt : i < cargs.size := by rw [hcs]; exact (List.getElem?_eq_some_iff.mp hi).1
        have hgd : cargs.getD i Go.undef = cargs[i] := by simp [Array.getD, hlt]
        rw [hgd]
        rcases hent i v cargs[i] hi (by simp [hlt]) with g | ⟨u, j, g1, g2, g3, g4⟩
        · exact g.2 _ _
        · obtain ⟨u', h1, h2⟩ := hT j g4
          rw [g3] at h1; cases h1
          have he := t2.env j
          rw [h2] at he
          rw [g1, g2]
          exact he.lv fun l x hl _ => by simp [AV.at?] at hl
    · obtain ⟨i, u, j, rfl, e1, _, _⟩ := how l b h1
      obtain ⟨i', u', j', rfl, e2, _, _⟩ := how l' b h2
      rw [filter_one (p := fun v : AV X.U => v.hold?.isSome) (l := as) (by rw [q3]; exact hone) e1 e2 rfl rfl]
    · obtain ⟨i, u, j, rfl, e1, e2, e3⟩ := how l b h1
      have hm := t2.mine _ _ e3
      exact ⟨hm.1, .inl ⟨j, e2, e3⟩, hm.2.2⟩
  have hcall := hcon D cl1 m w cargs hcs hpre
  have hrun : (execOp a.eval o).run P w = .ok (.enter f cargs) w := by
    have e1 : (args.map a.eval) = (args.toList.map a.eval).toArray := by apply Array.ext'; simp
    have hname : ¬ fn.name = "runtime.NumGoroutine" := by simpa using hf2
    simp only [execOp, ho, resolve, hfx, Deferred.ofValue, e1, Sem.run_bind, Sem.run_pure, Result.andThen_ok, invoke, callFunc, run_program, hf1, hf2, hf3, Bool.false_eq_true, if_false]
    simp [cargs]
  unfold Oper.wp
  rw [hrun]
  simp only [Oper.upon]
  refine hcall.mono fun e w' ⟨c, cl2, m2, he, hpost, _⟩ => ?_
  subst he
  simp only
  have hV : V X cl2 w' m2 (lval m2 ({ env := [(0, v)], hp := zipI 1000 bx' } : St X.U) #[c] w') v c := by
    have := hpost.env 0
    simpa [St.look, assoc, Array.getD] using this
  have hfr := hpost.fr
  have hw0 : w.heap.size ≤ w'.heap.size := hfr.size
  have hheap : ∀ b, b < w.heap.size → ¬ D b → w'.heap[b]? = w.heap[b]? ∧ cl2 b = cl1 b := fun b hb hd => hfr.block b hb hd
  have hblk : ∀ b, blk v c = some b → (D b ∨ w.heap.size ≤ b) ∧ b < w'.heap.size ∧ cl2 b = 0 := fun b hb => by
    have := hpost.mine (.slot 0) b (by simp only [Ow, St.look, assoc]; simpa [Array.getD] using hb)
    exact ⟨this.2.1, this.1, this.2.2⟩
  cases hfl : v.flat with
  | true =>
    -- nothing of what is lent lives on
    have hs1' : s1 = s := by
      rw [hfl] at hs1
      have := turnAll_false (ls.filter (!·.2)) s fun p hp => (hlent p hp).1
      simp only [Bool.not_true] at hs1
      rw [this] at hs1; cases hs1; rfl
    subst hs1'
    let cl3 : Nat → Nat := fun b => if b < w.heap.size then cl b else cl2 b
    obtain ⟨g1, g2⟩ := takeOne_rel hX.wpos hR hls (fun j hj => by obtain ⟨u, h1, _⟩ := hT j hj; exact ⟨u, h1⟩) hfr.os hfr.tape hfr.output hw0
      (fun b hb hn => (hheap b hb fun ⟨j, h1, h2⟩ => hn j h1 ((hTow j b h1).2 h2)).1)
    have hR3 : Rel B cl3 m (takeOne X s1 ls) a.tmps w' := by
      refine g1.world hX.wpos ⟨g1.fr.os, g1.fr.tape, g1.fr.output, g1.fr.size, fun b hb hd => ?_⟩ (Ext.of fun b h1 _ => ⟨rfl, ?_⟩) (Nat.le_refl _) (fun l b hb => ⟨rfl, ?_⟩) (fun b hb => ?_)
      · have hlt : b < w.heap.size := Nat.lt_of_lt_of_le hb hR.fr.size
        refine ⟨(g1.fr.block b hb hd).1, ?_⟩
        simp only [cl3, hlt, if_true]; exact (g1.fr.block b hb hd).2
      · simp only [cl3]
        by_cases hlt : b < w.heap.size
        · rw [if_pos hlt]; exact Nat.le_refl _
        · have := hR.top b (by omega); omega
      · have := hR.mine l b (g2 l b hb).1
        simp only [cl3, this.1, if_true]; exact this.2.2
      · simp only [cl3]; rw [if_neg (by omega)]; exact hpost.top b hb
    have hVf : V X cl3 w' m (lval m (takeOne X s1 ls) a.tmps w') v c := by
      rcases hv12 with ⟨p, rfl, _⟩ | ⟨u, rfl, _⟩ | ⟨u, q, rfl, _⟩
      · cases hV with | pv h => exact .pv (flat_any h (by simpa [AV.flat] using hfl))
      · simp [AV.flat] at hfl
      · simp [AV.flat] at hfl
    exact hnext _ _ (Good.put hR3 hN hD hd hVf fun b hb => by
      rcases hv12 with ⟨p, rfl, _⟩ | ⟨u, rfl, _⟩ | ⟨u, q, rfl, _⟩
      · simp [blk] at hb
      · simp [AV.flat] at hfl
      · simp [AV.flat] at hfl)
  | false =>
    have hs1' : s1 = s2 := by
      rw [hfl] at hs1
      simp only [Bool.not_false] at hs1
      rw [t1] at hs1; cases hs1; rfl
    subst hs1'
    obtain ⟨g1, g2⟩ := takeOne_rel hX.wpos t2 hls (fun j hj => by obtain ⟨u, _, h1⟩ := hT j hj; exact ⟨u, h1⟩) hfr.os hfr.tape hfr.output hw0 (fun b hb hn => (hheap b hb fun ⟨j, h1, h2⟩ => hn j h1 h2).1)
    have hR3 : Rel B cl2 m (takeOne X s1 ls) a.tmps w' := by
      refine g1.world hX.wpos ⟨g1.fr.os, g1.fr.tape, g1.fr.output, g1.fr.size, fun b hb hd => ⟨(g1.fr.block b hb hd).1, ?_⟩⟩ (Ext.of fun b h1 _ => ⟨rfl, ?_⟩) (Nat.le_refl _) (fun l b hb => ⟨rfl, ?_⟩) hpost.top
      · have hlt : b < w.heap.size := Nat.lt_of_lt_of_le hb t2.fr.size
        rw [(hheap b hlt fun ⟨j, h1, h2⟩ => ?_).2]
        · exact (t2.fr.block b hb hd).2
        · rcases (t2.mine _ _ h2).2.1 with k | k
          · exact hd k
          · omega
      · by_cases hlt : b < w.heap.size
        · by_cases hDb : D b
          · obtain ⟨j, h3, h4⟩ := hDb
            have := (t2.mine _ _ h4).2.2; omega
          · rw [(hheap b hlt hDb).2]; exact Nat.le_refl _
        · have := t2.top b (by omega); omega
      · obtain ⟨k1, k2⟩ := g2 l b hb
        have hm := t2.mine l b k1
        rw [(hheap b hm.1 fun ⟨j, h1, h2⟩ => k2 j h1 (t2.sep _ _ _ k1 h2)).2]; exact hm.2.2
    have hVf : V X cl2 w' m (lval m (takeOne X s1 ls) a.tmps w') v c := by
      rcases hv12 with ⟨p, rfl, _⟩ | ⟨u, rfl, _⟩ | ⟨u, q, rfl, _⟩
      · cases hV with | pv h => exact .pv h
      · cases hV with | own h => exact .own h
      · cases hV with | otup h1 h2 => exact .otup h1 h2
    refine hnext _ _ (Good.put hR3 hN hD hd hVf fun b hb => ?_)
    obtain ⟨k1, k2, k3⟩ := hblk b hb
    refine ⟨fun l hl => ?_, k2, ?_, k3⟩
    · obtain ⟨j1, j2⟩ := g2 l b hl
      rcases k1 with ⟨j, h1, h2⟩ | k1
      · exact j2 j h1 (t2.sep _ _ _ j1 h2)
      · have := (t2.mine l b j1).1; omega
    · rcases k1 with ⟨j, h1, h2⟩ | k1
      · exact (t2.mine _ _ h2).2.1
      · exact .inr (Nat.le_trans hR.fr.size k1)
end Go.AX
