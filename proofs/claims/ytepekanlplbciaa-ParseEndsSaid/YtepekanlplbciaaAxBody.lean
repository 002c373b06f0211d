/-
  A function's answer by the reckoning machine is its answer in the program.
-/
import Derived.Test.YtepekanlplbciaaAxExec
namespace Go.AX
open Go
variable {X : Univ} {P : Program} {cl cl' m : Nat → Nat} {w w' : World} {B : Base} {s s' : St X.U} {tm : Array Value} {ρ : Type} {N : Nat} {a : Act}

theorem Rel.result (h : Rel B cl m s tm w) {v : AV X.U} {c : Value} {b : List (List (AV X.U))} (hv : ∀ lv, V X cl w m lv v c) (hb : ∀ id c, assoc (zipI 1000 b) id = some c → assoc s.hp id = some c)
    (ho : ∀ k, blk v c = some k → ∃ i, Ow m s tm w (.slot i) k) : Rel B cl m ({ env := [(0, v)], hp := zipI 1000 b } : St X.U) #[c] w := by
  have hlook : ∀ i, ({ env := [(0, v)], hp := zipI 1000 b } : St X.U).look i = if i = 0 then v else .undef := fun i => by
    simp only [St.look, assoc]
    by_cases hi : i = 0
    · simp [hi]
    · have : ¬ 0 = i := fun e => hi e.symm
      simp [hi, this]
  have how : ∀ l k, Ow m ({ env := [(0, v)], hp := zipI 1000 b } : St X.U) #[c] w l k → (l = .slot 0 ∧ blk v c = some k) ∨ ((∀ i, l ≠ .slot i) ∧ Ow m s tm w l k) := by
    intro l k h1
    cases l with
    | slot i =>
      simp only [Ow, hlook] at h1
      by_cases hi : i = 0
      · subst hi; exact .inl ⟨rfl, by simpa [Array.getD] using h1⟩
      · simp [hi, blk] at h1
    | cell id off =>
      obtain ⟨c', u, h2, h3⟩ := h1
      exact .inr ⟨by simp, c', u, hb _ _ h2, h3⟩
    | box id => obtain ⟨⟨c', h2⟩, h3⟩ := h1; exact .inr ⟨by simp, ⟨c', hb _ _ h2⟩, h3⟩
  have hlv : ∀ l x, (∀ i, l ≠ .slot i) → lval m ({ env := [(0, v)], hp := zipI 1000 b } : St X.U) #[c] w l = some x → lval m s tm w l = some x := by
    intro l x hl hx
    obtain ⟨⟨u, hu⟩, rfl⟩ := lval_some hx
    cases l with
    | slot i => exact absurd rfl (hl i)
    | cell id off =>
      obtain ⟨c', h1, h2⟩ := own_cell hu
      have : s.own (.cell id off) = some u := by simp [St.own, hb _ _ h1, h2]
      rw [lval_of this]; rfl
  refine ⟨h.fr, fun i => ?_, fun id c' hc => ?_, fun l l' k h1 h2 => ?_, fun l k h1 => ?_, h.top, fun id c' hc => h.bok id c' (hb _ _ hc), h.inv⟩
  · rw [hlook]
    by_cases hi : i = 0
    · subst hi; simpa [Array.getD] using hv _
    · simp only [hi, if_false]; exact .undef _
  · obtain ⟨vs, e, h1, h2⟩ := h.box id c' (hb _ _ hc)
    exact ⟨vs, e, h1.lv (fun l x ⟨a, ha, hat⟩ hx => by rw [h.bok id c' (hb _ _ hc) a ha] at hat; cases hat), h2⟩
  · rcases how l k h1 with ⟨rfl, g1⟩ | ⟨n1, g1⟩ <;> rcases how l' k h2 with ⟨rfl, g2⟩ | ⟨n2, g2⟩
    · rfl
    · obtain ⟨i, hi⟩ := ho k g1
      exact absurd (h.sep _ _ _ g2 hi) (n2 i)
    · obtain ⟨i, hi⟩ := ho k g2
      exact absurd (h.sep _ _ _ g1 hi) (n1 i)
    · exact h.sep _ _ _ g1 g2
  · rcases how l k h1 with ⟨rfl, g1⟩ | ⟨n1, g1⟩
    · obtain ⟨i, hi⟩ := ho k g1; exact h.mine _ _ hi
    · exact h.mine _ _ g1

/-- One result, as it is read. -/
def resRun (tm : Array Value) : ResultVar → Sem Value
  | .tmp t => pure (tm.getD t Go.undef)
  | .cell a t => do loadVar t (← asAddr (tm.getD a Go.undef))
theorem results_eq (fn : Func) (tm : Array Value) : results fn tm = (do let vs ← fn.results.mapM (resRun tm); pure (if h : vs.size = 1 then vs[0] else .tuple vs)) := by
  unfold results
  congr 1
def resVal (P : Program) (tm : Array Value) (w : World) (x : ResultVar) (c : Value) : Prop := (resRun tm x).run P w = .ok c w

theorem resOne_sound (hX : XOK X) (hT : TOK P X) (h : Rel B cl m s tm w) {x : ResultVar} {v : AV X.U} (hv : resOne X s x = some v) :
    ∃ c, resVal P tm w x c ∧ (∀ lv, V X cl w m lv v c) ∧ (∀ k, blk v c = some k → ∃ i, Ow m s tm w (.slot i) k) ∧ ((∃ p, v = .pv p) ∨ ∃ t u, x = .tmp t ∧ s.look t = .own u ∧ v = .own u ∧ c = tm.getD t Go.undef) := by
  cases x with
  | tmp t =>
    simp only [resOne] at hv
    have he := h.env t
    split at hv
    · rename_i p hp
      cases hv
      rw [hp] at he
      refine ⟨tm.getD t Go.undef, rfl, fun lv => ?_, fun k hk => by simp [blk] at hk, .inl ⟨p, rfl⟩⟩
      cases he with | pv he => exact .pv he
    · rename_i u hu
      cases hv
      rw [hu] at he
      refine ⟨tm.getD t Go.undef, rfl, fun lv => ?_, fun k hk => ⟨t, by simp only [Ow, hu]; exact hk⟩, .inr ⟨t, u, rfl, hu, rfl, rfl⟩⟩
      generalize tm.getD t Go.undef = c at he
      cases he with | own he => exact .own he
    · cases hv
  | cell a t =>
    simp only [resOne] at hv
    have he := h.env a
    split at hv
    case h_2 => cases hv
    rename_i id off hp
    rw [hp] at he
    split at hv
    case h_2 => cases hv
    rename_i c0 hc0
    obtain ⟨vs, e, h1, h2⟩ := h.box id c0 hc0
    have hrun : ∀ c, (loadVar t ⟨m id, off, none⟩).run P w = .ok c w → resVal P tm w (.cell a t) c := by
      intro c hc
      generalize hg : tm.getD a Go.undef = z at he
      cases he
      simp only [resVal, resRun, hg, asAddr, Sem.run_bind, Sem.run_pure, Result.andThen_ok, hc]
    split at hv
    · rename_i n hag
      simp only [Option.bind_eq_some_iff] at hv
      obtain ⟨l, hl, hm⟩ := hv
      obtain ⟨ca, cm, cb, rfl, k1, k2, k3⟩ := h1.span hl
      have hq := fun lv => (mkAgg_sound (lv := lv) hX (k1.lv (lv' := lv) fun l x ⟨y, hy, hat⟩ _ => by
        have hm2 : y ∈ c0 := by
          unfold spanAt at hl
          split at hl
          · rename_i a' r q1
            cases q2 : takeW X r n with
            | none => simp [q2] at hl
            | some p =>
              obtain ⟨l', b'⟩ := p
              simp only [q2, Option.map_some, Option.some.injEq] at hl; subst hl
              rw [(takeW_eq q1).1, (takeW_eq q2).1]; simp [hy]
          · cases hl
        rw [h.bok id c0 hc0 y hm2] at hat; cases hat) hm).1
      have hpv : ∃ p, v = .pv p := by
        unfold mkAgg at hm
        split at hm
        · split at hm <;> (cases hm; exact ⟨_, rfl⟩)
        · cases hm
      refine ⟨.agg (flat cm).toArray, hrun _ (load_agg hT hag (cs := flat cm) ?_ k3), hq, fun k hk => by obtain ⟨p, rfl⟩ := hpv; simp [blk] at hk, .inl hpv⟩
      intro j y hy
      rw [addr_add rfl]
      show w.cell? ⟨m id, off + j, none⟩ = _
      rw [box_cells h2, flat_append, flat_append, List.getElem?_append_right (by omega), show off + j - (flat ca).length = j by omega, List.getElem?_append_left (List.getElem?_eq_some_iff.mp hy).1]; exact hy
    · rename_i hag
      split at hv
      · rename_i p hs
        split at hv
        case isFalse => cases hv
        rename_i hsc
        cases hv
        obtain ⟨ca, cx, cb, rfl, k1, k2, k3⟩ := h1.seg hs
        refine ⟨cx, hrun _ (load_one hT hag ?_), fun lv => ?_, fun k hk => by simp [blk] at hk, .inl ⟨p, rfl⟩⟩
        · rw [box_cells h2]
          simp [flat_append, flat_cons, ← k3, scalar_cells k1 hsc]
        · cases k1 with | pv k1 => exact .pv k1
      · cases hv
    · cases hv

theorem resK_sound (hX : XOK X) (hT : TOK P X) (h : Rel B cl m s tm w) : ∀ {xs : List ResultVar} {l : List (AV X.U)}, resK X s xs = some l →
    ∃ cs : List Value, cs.length = l.length ∧ (xs.mapM (resRun tm)).run P w = .ok cs w ∧
      ∀ (i : Nat) (v : AV X.U) (c : Value), l[i]? = some v → cs[i]? = some c → (∀ lv, V X cl w m lv v c) ∧ (∀ k, blk v c = some k → ∃ i, Ow m s tm w (.slot i) k) ∧
        ((∃ p, v = .pv p) ∨ ∃ t u, .tmp t ∈ xs ∧ s.look t = .own u ∧ v = .own u ∧ c = tm.getD t Go.undef)
  | [], l, hl => by simp only [resK, Option.some.injEq] at hl; subst hl; exact ⟨[], rfl, by simp, fun i v c h => by simp at h⟩
  | x :: r, l, hl => by
    simp only [resK] at hl
    split at hl
    case h_2 => cases hl
    rename_i v l' hv hr
    cases hl
    obtain ⟨c, g1, g2, g3, g4⟩ := resOne_sound hX hT h hv
    obtain ⟨cs, k1, k2, k3⟩ := resK_sound hX hT h hr
    refine ⟨c :: cs, by simp [k1], ?_, fun i v' c' h1 h2 => ?_⟩
    · simp only [resVal] at g1
      simp only [List.mapM_cons, Sem.run_bind, g1, Result.andThen_ok, k2, Sem.run_pure]
    · cases i with
      | zero =>
        simp only [List.getElem?_cons_zero, Option.some.injEq] at h1 h2; subst h1; subst h2
        refine ⟨g2, g3, ?_⟩
        rcases g4 with g4 | ⟨t, u, rfl, e⟩
        · exact .inl g4
        · exact .inr ⟨t, u, by simp, e⟩
      | succ i =>
        obtain ⟨j1, j2, j3⟩ := k3 i v' c' (by simpa using h1) (by simpa using h2)
        refine ⟨j1, j2, ?_⟩
        rcases j3 with j3 | ⟨t, u, hm, e⟩
        · exact .inl j3
        · exact .inr ⟨t, u, List.mem_cons_of_mem _ hm, e⟩

theorem backBoxes_sound : ∀ (n k : Nat) (b : List (List (AV X.U))), backBoxes X s k n = some b → ∀ id c, assoc (zipI k b) id = some c → assoc s.hp id = some c
  | 0, k, b, h, id, c, hc => by simp only [backBoxes, Option.some.injEq] at h; subst h; simp [zipI, assoc] at hc
  | n + 1, k, b, h, id, c, hc => by
    simp only [backBoxes] at h
    split at h
    case h_2 => cases h
    rename_i c0 r h0 hr
    cases h
    simp only [zipI, assoc] at hc
    split at hc
    · rename_i e; subst e; rw [h0]; exact hc
    · exact backBoxes_sound n (k + 1) r hr id c hc

theorem pvs_vpt : ∀ {l : List (AV X.U)} {q : List (PV X.U)} {cs : List Value}, pvs l = some q → cs.length = l.length → (∀ (i : Nat) (v : AV X.U) (c : Value), l[i]? = some v → cs[i]? = some c → ∀ lv, V X cl w m lv v c) → VPt X cl w q cs
  | [], q, cs, h, hl, _ => by
    cases h
    cases cs with
    | nil => exact .nil
    | cons _ _ => simp at hl
  | a :: l, q, cs, h, hl, hv => by
    cases cs with
    | nil => simp at hl
    | cons c cs =>
    cases a with
    | pv p =>
      simp only [pvs, Option.map_eq_some_iff] at h
      obtain ⟨q', h1, rfl⟩ := h
      have h0 := hv 0 (.pv p) c rfl rfl fun _ => none
      cases h0 with
      | pv h0 => exact .cons h0 (pvs_vpt h1 (by simpa using hl) fun i v c h2 h3 => hv (i + 1) v c (by simpa using h2) (by simpa using h3))
    | _ => simp [pvs] at h

theorem backBoxes_says : ∀ {n k : Nat} {b : List (List (AV X.U))}, backBoxes X s k n = some b → b.length = n ∧ ∀ (j : Nat) (c : List (AV X.U)), b[j]? = some c → assoc s.hp (k + j) = some c
  | 0, k, b, h => by simp only [backBoxes, Option.some.injEq] at h; subst h; exact ⟨rfl, fun j c h => by simp at h⟩
  | n + 1, k, b, h => by
    simp only [backBoxes] at h
    split at h
    · rename_i c r e1 e2
      cases h
      obtain ⟨h1, h2⟩ := backBoxes_says e2
      refine ⟨by simp [h1], fun j c' hj => ?_⟩
      cases j with
      | zero => simp only [List.getElem?_cons_zero, Option.some.injEq] at hj; subst hj; exact e1
      | succ j => have := h2 j c' (by simpa using hj); rwa [show k + 1 + j = k + (j + 1) by omega] at this
    · cases h
theorem turnAll_hp : ∀ (ls : List (Lc × Bool)) (s s1 : St X.U) (q : Bool), turnAll X s ls q = some s1 → s1.hp = s.hp
  | [], s, s1, q, h => by simp only [turnAll, Option.some.injEq] at h; rw [h]
  | (l, true) :: r, s, s1, q, h => by
    simp only [turnAll] at h
    split at h
    · rename_i s' e
      rw [turnAll_hp r s' s1 q h]
      cases l with
      | slot i => simp only [St.turn, Option.some.injEq] at e; rw [← e]; exact put_hp _ _ _
      | cell i o => simp [St.turn] at e
    · cases h
  | (l, false) :: r, s, s1, true, h => by
    simp only [turnAll] at h
    split at h
    · split at h
      · rename_i s' e
        rw [turnAll_hp r s' s1 true h]
        cases l with
        | slot i => simp only [St.turn, Option.some.injEq] at e; rw [← e]; exact put_hp _ _ _
        | cell i o => simp [St.turn] at e
      · cases h
    · exact turnAll_hp r s s1 true h
  | (l, false) :: r, s, s1, false, h => by
    simp only [turnAll] at h
    exact turnAll_hp r s s1 false h
theorem con_of_bodyB (hX : XOK X) (hT : TOK P X) {f : FuncId} {fn : Func} {code : Code} (hf : P.funcs[f]? = some fn) (hb : fn.body = some code) {G : Ans X ρ} (hG : GOK P G) {c : Cfg X ρ} (hN : c.n = fn.ntmps) (hC : COK c G code)
    {args : List (AV X.U)} (hargs : args.length ≤ fn.ntmps) {bx : List (List (AV X.U))} (hbx : bx = [] ∨ fn.ntmps ≤ 1000) {dec : AV X.U → List (List (AV X.U)) → Option ρ} {enc : ρ → AV X.U} {encb : ρ → List (List (AV X.U))} (hdec : ∀ v b r, b.length = bx.length → dec v b = some r → v = enc r ∧ b = encb r) {r : ρ}
    (h : bodyK X c G fn args bx dec = some r) : Con P f args bx (enc r) (encb r) := by
  intro D cl m w cargs hcs hR
  refine calls_of_wp hf hb ?_
  unfold bodyK at h
  simp only [hb] at h
  have hsz : (cargs ++ Array.replicate (fn.ntmps - cargs.size) Go.undef).size = fn.ntmps := by simp; omega
  have hR0 : Rel ⟨w, cl, D, m⟩ cl m ({ env := zipI 0 args, hp := zipI 1000 bx } : St X.U) (cargs ++ Array.replicate (fn.ntmps - cargs.size) Go.undef) w := by
    have hget : ∀ i, (cargs ++ Array.replicate (fn.ntmps - cargs.size) Go.undef).getD i Go.undef = cargs.getD i Go.undef := fun i => by
      simp only [Array.getD_eq_getD_getElem?, Array.getElem?_append]
      split
      · rfl
      · rename_i hi
        simp only [Array.getElem?_replicate, Array.getElem?_eq_none (Nat.le_of_not_lt hi)]
        split <;> rfl
    have hcv : ∀ l, cval m (cargs ++ Array.replicate (fn.ntmps - cargs.size) Go.undef) w l = cval m cargs w l := fun l => by
      cases l with
      | slot i => exact hget i
      | cell id off => rfl
    have hlv : lval m ({ env := zipI 0 args, hp := zipI 1000 bx } : St X.U) (cargs ++ Array.replicate (fn.ntmps - cargs.size) Go.undef) w = lval m ({ env := zipI 0 args, hp := zipI 1000 bx } : St X.U) cargs w := by
      funext l; simp only [lval, hcv]
    have how : ∀ l b, Ow m ({ env := zipI 0 args, hp := zipI 1000 bx } : St X.U) (cargs ++ Array.replicate (fn.ntmps - cargs.size) Go.undef) w l b ↔ Ow m ({ env := zipI 0 args, hp := zipI 1000 bx } : St X.U) cargs w l b := fun l b => by
      cases l with
      | slot i => simp only [Ow, hget]
      | cell id off => exact Iff.rfl
      | box id => exact Iff.rfl
    exact ⟨hR.fr, fun i => by rw [hlv, hget]; exact hR.env i, fun id c hc => by rw [hlv]; exact hR.box id c hc, fun l l' b h1 h2 => hR.sep l l' b ((how _ _).mp h1) ((how _ _).mp h2), fun l b h1 => hR.mine l b ((how _ _).mp h1), hR.top, hR.bok, hR.inv⟩
  have hg0 : Good ⟨w, cl, D, m⟩ fn.ntmps ({ env := zipI 0 args, hp := zipI 1000 bx } : St X.U) { tmps := cargs ++ Array.replicate (fn.ntmps - cargs.size) Go.undef, defers := [] } w := ⟨cl, m, hR0, hsz, rfl, fun _ _ _ => rfl⟩
  have hex := (exec_sound (P := P) (N := fn.ntmps) hX hT hG hN hC code (fun _ h => h) (fun _ h => h) (fun _ h => h)).1 _ _ _ r _ w h hg0
  have fin : ∀ (s : St X.U) (a' : Act) (w' : World), (match resK X s fn.results.toList, backBoxes X s 1000 bx.length with
      | some [v], some b => dec v b
      | some l, some b => match (if (c.tk 1000001).isEmpty then none else tupOf X l) with
        | some v => dec v b
        | none => (match mkTup X (l.map (told X)) with | some v => dec v b | none => none)
      | _, _ => none) = some r → Good ⟨w, cl, D, m⟩ fn.ntmps s a' w' → a'.defers = [] ∧ ∃ v, (results fn a'.tmps).run P w' = .ok v w' ∧
        (fun e w' => ∃ c cl' m', e = Ending.returned c ∧ Rel ⟨w, cl, D, m⟩ cl' m' ({ env := [(0, enc r)], hp := zipI 1000 (encb r) } : St X.U) #[c] w' ∧ (bx = [] ∨ ∀ i, 1000 ≤ i → m' i = m i)) (.returned v) w' := by
    intro s a' w' hs ⟨cl', m', hR', _, hD'⟩
    refine ⟨hD'.1, ?_⟩
    have hmb : bx = [] ∨ ∀ i, 1000 ≤ i → m' i = m i := hbx.imp id fun hn => hD'.2 hn
    have hnob : ∀ b, backBoxes X s 1000 bx.length = some b → b.length = bx.length ∧ ∀ id c, assoc (zipI 1000 b) id = some c → assoc s.hp id = some c := fun b hb => by
      obtain ⟨g1, g2⟩ := backBoxes_says hb
      refine ⟨g1, fun id c hc => ?_⟩
      rw [assoc_zipI] at hc
      split at hc
      · have := g2 _ _ hc
        rwa [show 1000 + (id - 1000) = id by omega] at this
      · cases hc
    split at hs
    · rename_i v b hres hbk
      obtain ⟨cs, k1, k2, k3⟩ := resK_sound hX hT hR' hres
      obtain ⟨c, rfl⟩ : ∃ c, cs = [c] := by
        cases cs with
        | nil => simp at k1
        | cons c r => cases r with
          | nil => exact ⟨c, rfl⟩
          | cons _ _ => simp at k1
      obtain ⟨j1, j2, _⟩ := k3 0 v c rfl rfl
      obtain ⟨he, heb⟩ := hdec v b r (hnob b hbk).1 hs
      refine ⟨c, ?_, c, cl', m', rfl, ?_, hmb⟩
      · rw [results_eq]
        simp only [Array.mapM_eq_mapM_toList, Sem.run_bind, Sem.run_map, k2, Result.andThen_ok]
        rfl
      · rw [← he, ← heb]; exact hR'.result j1 (hnob b hbk).2 j2
    · rename_i l b hone hres hbk
      have many : ∀ (cs : List Value), cs.length = l.length → (fn.results.toList.mapM (resRun a'.tmps)).run P w' = .ok cs w' → (results fn a'.tmps).run P w' = .ok (.tuple cs.toArray) w' := fun cs k1 k2 => by
        rw [results_eq]
        simp only [Array.mapM_eq_mapM_toList, Sem.run_bind, Sem.run_map, k2, Result.andThen_ok]
        have hne : cs.toArray.size ≠ 1 := by
          intro e
          have : l.length = 1 := by rw [← k1]; simpa using e
          obtain ⟨z, rfl⟩ : ∃ z, l = [z] := by
            cases l with
            | nil => simp at this
            | cons z r => cases r with
              | nil => exact ⟨z, rfl⟩
              | cons _ _ => simp at this
          exact hone z rfl
        rw [dif_neg hne]; rfl
      split at hs
      · rename_i v hv
        split at hv
        · cases hv
        obtain ⟨cs, k1, k2, k3⟩ := resK_sound hX hT hR' hres
        obtain ⟨he, heb⟩ := hdec v b r (hnob b hbk).1 hs
        unfold tupOf at hv
        split at hv
        case h_2 => cases hv
        rename_i u l'
        obtain ⟨q, hq, rfl⟩ := Option.map_eq_some_iff.1 hv
        cases cs with
        | nil => simp at k1
        | cons c0 cs =>
        obtain ⟨j1, j2, _⟩ := k3 0 (.own u) c0 rfl rfl
        have hvt : VPt X cl' w' q cs := pvs_vpt hq (by simpa using k1) fun i v c h1 h2 => (k3 (i + 1) v c (by simpa using h1) (by simpa using h2)).1
        have hV : ∀ lv, V X cl' w' m' lv (.otup (some u) q) (.tuple (c0 :: cs).toArray) := fun lv => .otup hvt fun u' hu' => by
          cases hu'
          cases j1 fun _ => none with | own h => exact ⟨_, _, _, rfl, h⟩
        refine ⟨.tuple (c0 :: cs).toArray, many _ k1 k2, .tuple (c0 :: cs).toArray, cl', m', rfl, ?_, hmb⟩
        rw [← he, ← heb]
        refine hR'.result hV (hnob b hbk).2 fun k hk => j2 k ?_
        obtain ⟨ad, n, cap, rfl⟩ : ∃ ad n cap, c0 = .slice ad n cap := by cases j1 fun _ => none with | own h => exact ⟨_, _, _, rfl⟩
        cases ad with
        | none => simp [blk] at hk
        | some ad => simpa [blk] using hk
      split at hs
      case h_2 => cases hs
      rename_i v hv
      obtain ⟨cs, k1, k2, k3⟩ := resK_sound hX hT hR' hres
      obtain ⟨he, heb⟩ := hdec v b r (hnob b hbk).1 hs
      obtain ⟨cl2, s1, t1, t2, t3, t4, _⟩ := tellAll hX ((fn.results.toList.filterMap fun x => match x with | .tmp t => some (Lc.slot t, false) | _ => none)) s cl' (fun p hp => by
        simp only [List.mem_filterMap] at hp
        obtain ⟨x, _, hx⟩ := hp
        cases x with
        | tmp t => cases hx; exact ⟨rfl, t, rfl⟩
        | cell a t => cases hx) hR'
      have hvt : VPt X cl2 w' ((l.map (told X)).filterMap fun v => match v with | .pv p => some p | _ => none) cs ∧ v = .pv (.tup ((l.map (told X)).filterMap fun v => match v with | .pv p => some p | _ => none)) := by
        have hall : ∀ (i : Nat) (v : AV X.U) (c : Value), l[i]? = some v → cs[i]? = some c → ∃ p, told X v = .pv p ∧ VP X cl2 w' p c := by
          intro i v c h1 h2
          obtain ⟨j1, j2, j3⟩ := k3 i v c h1 h2
          rcases j3 with ⟨p, rfl⟩ | ⟨t, u, hm, hl, rfl, rfl⟩
          · refine ⟨p, rfl, ?_⟩
            cases j1 fun _ => none with | pv j1 => exact j1.mono t3
          · exact ⟨.typ u, rfl, t4 t u (by simp only [List.mem_filterMap]; exact ⟨.tmp t, hm, rfl⟩) hl⟩
        clear hres hone k2 k3 t1 t4
        have key : ∀ (l : List (AV X.U)) (cs : List Value), cs.length = l.length → (∀ (i : Nat) (v : AV X.U) (c : Value), l[i]? = some v → cs[i]? = some c → ∃ p, told X v = .pv p ∧ VP X cl2 w' p c) →
            VPt X cl2 w' ((l.map (told X)).filterMap fun v => match v with | .pv p => some p | _ => none) cs ∧ pvs (l.map (told X)) = some ((l.map (told X)).filterMap fun v => match v with | .pv p => some p | _ => none) := by
          intro l
          induction l with
          | nil => intro cs h1 _; cases cs with
            | nil => exact ⟨.nil, rfl⟩
            | cons _ _ => simp at h1
          | cons a l ih =>
            intro cs h1 h2
            cases cs with
            | nil => simp at h1
            | cons c cs =>
              obtain ⟨p, hp1, hp2⟩ := h2 0 a c rfl rfl
              obtain ⟨g1, g2⟩ := ih cs (by simpa using h1) (fun i v c h3 h4 => h2 (i + 1) v c (by simpa using h3) (by simpa using h4))
              simp only [List.map_cons, hp1, List.filterMap_cons]
              exact ⟨.cons hp2 g1, by simp [pvs, g2]⟩
        obtain ⟨g1, g2⟩ := key l cs k1 hall
        refine ⟨g1, ?_⟩
        unfold mkTup at hv
        rw [g2] at hv
        cases hv; rfl
      obtain ⟨g1, g2⟩ := hvt
      have hV : ∀ lv, V X cl2 w' m' lv v (.tuple cs.toArray) := fun lv => by rw [g2]; exact .pv (.tup g1)
      refine ⟨.tuple cs.toArray, ?_, .tuple cs.toArray, cl2, m', rfl, ?_, hmb⟩
      · exact many _ k1 k2
      · rw [← he, ← heb]
        exact t2.result hV (fun id c hc => by rw [turnAll_hp _ _ _ _ t1]; exact (hnob b hbk).2 id c hc) (fun k hk => by rw [g2] at hk; simp [blk] at hk)
    · cases hs
  refine wp_mono hex fun e a' w' hq => ?_
  cases e with
  | normal => obtain ⟨s, h1, h2⟩ := hq; exact fin s a' w' h1 h2
  | ret => obtain ⟨s, h1, h2⟩ := hq; exact fin s a' w' h1 h2
  | exit id => obtain ⟨s, h1, h2⟩ := hq; cases h1
  | goto l => obtain ⟨s, h1, h2⟩ := hq; cases h1
  | panic ch => exact hq.elim
  | outgrown => exact hq.elim
theorem con_of_body (hX : XOK X) (hT : TOK P X) {f : FuncId} {fn : Func} {code : Code} (hf : P.funcs[f]? = some fn) (hb : fn.body = some code) {G : Ans X ρ} (hG : GOK P G) {c : Cfg X ρ} (hN : c.n = fn.ntmps) (hC : COK c G code)
    {args : List (AV X.U)} (hargs : args.length ≤ fn.ntmps) {dec : AV X.U → List (List (AV X.U)) → Option ρ} {enc : ρ → AV X.U} (hdec : ∀ v b r, dec v b = some r → v = enc r) {r : ρ}
    (h : bodyK X c G fn args [] dec = some r) : Con P f args [] (enc r) [] :=
  con_of_bodyB hX hT hf hb hG hN hC hargs (bx := []) (.inl rfl) (encb := fun _ => []) (fun v b r hl h => ⟨hdec v b r h, List.eq_nil_of_length_eq_zero hl⟩) h
end Go.AX
