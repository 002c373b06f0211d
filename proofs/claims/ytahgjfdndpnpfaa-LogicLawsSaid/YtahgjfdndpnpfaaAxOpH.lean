/-
  What is owned and handed on, told, lent to a callee; calls.
-/
import Derived.Test.YtahgjfdndpnpfaaAxOpG
namespace Go.AX
open Go
variable {X : Univ} {P : Program} {cl cl' m : Nat → Nat} {w w' : World} {B : Base} {s s1 : St X.U} {tm : Array Value} {ρ : Type} {lv : Lc → Option Value}

theorem setGetD (tm : Array Value) (i : Nat) : tm.setIfInBounds i (tm.getD i Go.undef) = tm := by
  apply Array.ext'
  by_cases h : i < tm.size
  · have e : tm.getD i Go.undef = tm.toList[i]'(by simpa using h) := by simp [Array.getD, h]
    rw [e, Array.toList_setIfInBounds, List.set_getElem_self]
  · rw [Array.toList_setIfInBounds, List.set_eq_of_length_le (by simp; omega)]

theorem own_look {i : Nat} {u : X.U} (h : s.own (.slot i) = some u) : s.look i = .own u := by
  rw [own_slot] at h; cases hl : s.look i <;> rw [hl] at h <;> simp [AV.own?] at h; rw [h]

theorem own_lt (h : Rel B cl m s tm w) {i : Nat} {u : X.U} (hu : s.look i = .own u) : i < tm.size := by
  by_cases hi : i < tm.size
  · exact hi
  · have := h.env i
    rw [hu] at this
    simp only [Array.getD, hi, dif_neg, not_false_eq_true] at this
    cases this

/-- What a slot owned is gone from it. -/
theorem Rel.drop (h : Rel B cl m s tm w) {i : Nat} {u : X.U} (hu : s.look i = .own u) : Rel B cl m (s.put (some i) .undef) tm w := by
  have := h.put (d := i) (v := .undef) (c := tm.getD i Go.undef) (own_lt h hu) (.undef _) rfl (fun b hb => by simp [blk] at hb)
  rwa [setGetD] at this

theorem drop_ow (h : Rel B cl m s tm w) {i : Nat} {u : X.U} (hu : s.look i = .own u) {l : OL} {b : Nat} (ho : Ow m (s.put (some i) .undef) tm w l b) : Ow m s tm w l b ∧ l ≠ .slot i := by
  have hs : tm = tm.setIfInBounds i (tm.getD i Go.undef) := (setGetD tm i).symm
  rw [hs] at ho
  rcases Ow.put (own_lt h hu) ho with ⟨_, hb⟩ | ⟨hn, ho⟩
  · simp [blk] at hb
  · exact ⟨ho, hn⟩

theorem assignOwn_sound {N : Nat} {o : Oper} {i : Nat} {u : X.U} (ho : o.op = .assign (.tmp i)) (hu : s.look i = .own u) (hd : dstOk N o (AV.own u) = true) : OpOk P N s o (.own u) (s.put (some i) .undef) := by
  intro B a w ⟨cl, m, hR, hN, hD⟩ next Q hnext
  have hv := hR.env i
  rw [hu] at hv
  refine wp_of_run (c := a.tmps.getD i Go.undef) (w' := w) (by simp [execOp, ho, Act.eval]) (hnext _ _ (Good.put (hR.drop hu) hN hD hd (hv.lv fun l x hl _ => by simp [AV.at?] at hl) fun b hb => ?_))
  have hown : Ow m s a.tmps w (.slot i) b := by simp only [Ow, hu]; exact hb
  refine ⟨fun l hl => ?_, hR.mine _ _ hown⟩
  obtain ⟨h1, h2⟩ := drop_ow hR hu hl
  exact h2 (hR.sep _ _ _ h1 hown)

noncomputable def raise (w : World) (cl : Nat → Nat) (a : Option Addr) : Nat → Nat := fun b =>
  match a with
  | some ad => if b = ad.block then (match w.heap[b]? with | some (.cells arr _ _) => arr.size | _ => 0) else cl b
  | none => cl b

theorem own_told {u : X.U} {a : Option Addr} {n cap : Nat} (h : OwnAt X cl w u a n cap) (e : Ext cl w cl' w) (hr : ∀ ad arr el fz, a = some ad → w.heap[ad.block]? = some (.cells arr el fz) → cl' ad.block = arr.size) :
    VP X cl' w (.typ u) (.slice a n cap) := by
  obtain ⟨vs, get, h1, h2, h3, h4, h5, h6⟩ := h
  refine .sl h1 h2 (fun i hi => (h3 i hi).mono e) h5 h4 ?_
  rcases h6 with ⟨_, hc⟩ | ⟨ad, arr, el, fz, ha, hs, hc, hh, hl, hf, hcs⟩
  · exact .inl (List.eq_nil_of_length_eq_zero (by omega))
  · refine .inr ⟨ad, ha, hs, fun i v hv => ⟨rfl, fun j x hx => ?_⟩⟩
    obtain ⟨ca, cb, k1, k2⟩ := flat_row h4 hv
    have hil : i < vs.length := (List.getElem?_eq_some_iff.mp hv).1
    have hjl : j < v.cells.toList.length := (List.getElem?_eq_some_iff.mp hx).1
    have hj2 : j < X.esz u := by rw [← (h4 v (List.mem_of_getElem? hv)).1]; simpa using hjl
    have hfl : (flat vs)[i * X.esz u + j]? = some x := by
      rw [k1, List.getElem?_append_right (by omega), List.getElem?_append_left (by omega), show i * X.esz u + j - ca.length = j by omega]; exact hx
    have := hcs _ _ hfl
    rw [← Nat.add_assoc] at this
    have hlt : ad.off + i * X.esz u + j < arr.size := (Array.getElem?_eq_some_iff.mp this).1
    refine ⟨?_, by simp [World.cell?, hh, this]⟩
    rw [hr ad arr el fz ha hh]; exact hlt

/-- What a slot owns is told. -/
theorem Rel.tell (hX : XOK X) (h : Rel B cl m s tm w) {i : Nat} {u : X.U} (hu : s.look i = .own u) :
    ∃ cl', Rel B cl' m (s.put (some i) (.pv (.typ u))) tm w ∧ Ext cl w cl' w ∧ VP X cl' w (.typ u) (tm.getD i Go.undef) := by
  have hv := h.env i
  rw [hu] at hv
  generalize hc0 : tm.getD i Go.undef = c0 at hv
  cases hv with
  | @own _ a n cap hown =>
    have hex : Ext cl w (raise w cl a) w := by
      intro b off v h1 h2
      refine ⟨?_, h2⟩
      unfold raise
      cases a with
      | none => exact h1
      | some ad =>
        by_cases hb : b = ad.block
        · subst hb
          have := (h.mine (.slot i) ad.block (by simp [Ow, hu, hc0, blk])).2.2
          omega
        · simp only [hb, if_false]; exact h1
    have hVP : VP X (raise w cl a) w (.typ u) (.slice a n cap) := own_told hown hex fun ad arr el fz ha hh => by simp [raise, ha, hh]
    have h1 := h.drop hu
    have h2 : Rel B (raise w cl a) m (s.put (some i) .undef) tm w := by
      refine h1.world hX.wpos ?_ hex (Nat.le_refl _) (fun l b hb => ⟨rfl, ?_⟩) (fun b hb => ?_)
      · refine ⟨h.fr.os, h.fr.tape, h.fr.output, h.fr.size, fun b hb hd => ⟨(h.fr.block b hb hd).1, ?_⟩⟩
        rw [← (h.fr.block b hb hd).2]
        unfold raise
        cases a with
        | none => rfl
        | some ad =>
          have := (h.mine (.slot i) ad.block (by simp [Ow, hu, hc0, blk])).2.1
          have hne : b ≠ ad.block := fun e => by rw [e] at hb hd; rcases this with k | k; exact hd k; omega
          simp [hne]
      · have := drop_ow h hu hb
        have hz := (h.mine _ _ this.1).2.2
        unfold raise
        cases a with
        | none => exact hz
        | some ad =>
          have hne : b ≠ ad.block := fun e => this.2 (h.sep _ _ _ this.1 (by simp [Ow, hu, hc0, blk, e]))
          simp [hne, hz]
      · unfold raise
        cases a with
        | none => exact h.top b hb
        | some ad =>
          have := (h.mine (.slot i) ad.block (by simp [Ow, hu, hc0, blk])).1
          simp [show b ≠ ad.block by omega, h.top b hb]
    have h3 := h2.put (d := i) (v := .pv (.typ u)) (c := tm.getD i Go.undef) (own_lt h hu) (by rw [hc0]; exact .pv hVP) rfl (fun b hb => by simp [blk] at hb)
    rw [setGetD] at h3
    refine ⟨raise w cl a, ?_, hex, hVP⟩
    have e : ((s.put (some i) .undef).put (some i) (.pv (.typ u))) = s.put (some i) (.pv (.typ u)) := by
      simp only [St.put]
      congr 2
      have : ∀ l : List (Nat × AV X.U), killSlot i (killSlot i l) = killSlot i l := by
        intro l
        induction l with
        | nil => rfl
        | cons p r ih =>
          obtain ⟨j, v⟩ := p
          by_cases hj : j = i
          · simp [killSlot, hj, ih]
          · simp only [killSlot, hj, if_false, ih]
            congr 2
            cases hv : v.atSlot i with
            | true => simp [AV.atSlot]
            | false => simp [hv]
      simp [killSlot, this]
    rw [e] at h3; exact h3

theorem put_look_ne {j i : Nat} {v : AV X.U} (h : j ≠ i) (hv : (s.look j).own?.isSome = true ∨ (s.look j).at? = none) : (s.put (some i) v).look j = s.look j := by
  rw [look_put, if_neg h]
  cases hl : s.look j <;> rw [hl] at hv <;> simp [AV.own?, AV.at?] at hv <;> rfl

/-- All that is lent is told. -/
theorem tellAll (hX : XOK X) : ∀ (ls : List (Lc × Bool)) (s : St X.U) (cl : Nat → Nat), (∀ p ∈ ls, p.2 = false ∧ ∃ i, p.1 = .slot i) → Rel B cl m s tm w →
    ∃ cl' s1, turnAll X s ls true = some s1 ∧ Rel B cl' m s1 tm w ∧ Ext cl w cl' w ∧ (∀ i u, (Lc.slot i, false) ∈ ls → s.look i = .own u → VP X cl' w (.typ u) (tm.getD i Go.undef))
  | [], s, cl, _, h => ⟨cl, s, rfl, h, Ext.refl _ _, fun i u hi => by cases hi⟩
  | (l, q) :: r, s, cl, hl, h => by
    obtain ⟨hq, i, hi⟩ := hl (l, q) (by simp)
    simp only at hq hi; subst hq; subst hi
    cases hu : s.own (.slot i) with
    | none =>
      obtain ⟨cl', s1, h1, h2, h3, h4⟩ := tellAll hX r s cl (fun p hp => hl p (by simp [hp])) h
      refine ⟨cl', s1, by simp [turnAll, hu, h1], h2, h3, fun j u hj hlj => ?_⟩
      simp only [List.mem_cons, Prod.mk.injEq, Lc.slot.injEq, and_true] at hj
      rcases hj with rfl | hj
      · rw [own_slot, hlj] at hu; cases hu
      · exact h4 j u hj hlj
    | some u =>
      have hlu := own_look hu
      obtain ⟨c1, g1, g2, g3⟩ := h.tell hX hlu
      obtain ⟨cl', s1, h1, h2, h3, h4⟩ := tellAll hX r _ c1 (fun p hp => hl p (by simp [hp])) g1
      refine ⟨cl', s1, by simp [turnAll, hu, St.turn, h1], h2, g2.trans h3, fun j v hj hlj => ?_⟩
      by_cases hji : j = i
      · subst hji; rw [hlu] at hlj; cases hlj; exact g3.mono h3
      · simp only [List.mem_cons, Prod.mk.injEq, Lc.slot.injEq, and_true, hji, false_or] at hj
        exact h4 j v hj (by rw [put_look_ne hji (.inl (by rw [hlj]; rfl))]; exact hlj)

theorem turnAll_false : ∀ (ls : List (Lc × Bool)) (s : St X.U), (∀ p ∈ ls, p.2 = false) → turnAll X s ls false = some s
  | [], s, _ => rfl
  | (l, q) :: r, s, h => by
    have := h (l, q) (by simp); simp only at this; subst this
    simp only [turnAll]; exact turnAll_false r s fun p hp => h p (by simp [hp])

/-! Calls. -/
/-- What a function answers: arguments, boxes; its value, the boxes behind the call. -/
def Con (P : Program) (f : FuncId) (args : List (AV X.U)) (bx : List (List (AV X.U))) (v : AV X.U) (bx' : List (List (AV X.U))) : Prop :=
  ∀ (D : Nat → Prop) (cl m : Nat → Nat) (w : World) (cargs : Array Value), cargs.size = args.length → Rel ⟨w, cl, D⟩ cl m { env := zipI 0 args, hp := zipI 1000 bx } cargs w →
    Calls P f cargs w fun e w' => ∃ c cl' m', e = .returned c ∧ Rel ⟨w, cl, D⟩ cl' m' ({ env := [(0, v)], hp := zipI 1000 bx' } : St X.U) #[c] w' ∧ (bx = [] ∨ ∀ i, 1000 ≤ i → m' i = m i)

/-- The function is there. -/
def There (P : Program) (f : FuncId) : Prop := ∃ fn, P.funcs[f]? = some fn ∧ (fn.name == "runtime.NumGoroutine") = false ∧ fn.body.isNone = false

def GOK (P : Program) (G : Ans X ρ) : Prop :=
  ∀ f args bx K r, G f args bx K = some r → There P f ∧ ∃ v bx', K v bx' = some r ∧ Con P f args bx v bx'

theorem assoc_zipI {α : Type} : ∀ (l : List α) (k i : Nat), assoc (zipI k l) i = if k ≤ i then l[i - k]? else none
  | [], k, i => by simp [zipI, assoc]
  | x :: r, k, i => by
    simp only [zipI, assoc]
    by_cases h : k = i
    · simp [h]
    · rw [if_neg h, assoc_zipI r (k + 1) i]
      by_cases h2 : k + 1 ≤ i
      · rw [if_pos h2, if_pos (by omega), show i - k = (i - (k + 1)) + 1 by omega, List.getElem?_cons_succ]
      · rw [if_neg h2, if_neg (by omega)]

theorem flat_any {v : PV X.U} {c : Value} (h : VP X cl w v c) (hf : v.flat = true) : VP X cl' w' v c := by
  have key : ∀ (q : PV X.U) (x : Value), q.flat1 = true → VP X cl w q x → VP X cl' w' q x := by
    intro q x hq hx
    cases hx <;> simp [PV.flat1] at hq
    · exact .bool _
    · exact .int _ _
    · exact .str _
  cases h with
  | bool b => exact .bool b
  | int k n => exact .int k n
  | str s => exact .str s
  | @agg cs vs h =>
    simp only [PV.flat] at hf
    refine .agg ?_
    induction cs generalizing vs with
    | nil => cases h; exact .nil
    | cons a r ih => cases h with | cons h1 h2 h3 => simp only [List.all_cons, Bool.and_eq_true] at hf; exact .cons (key _ _ hf.1 h1) h2 (ih h3 hf.2)
  | @tup cs vs h =>
    simp only [PV.flat] at hf
    refine .tup ?_
    induction cs generalizing vs with
    | nil => cases h; exact .nil
    | cons a r ih => cases h with | cons h1 h3 => simp only [List.all_cons, Bool.and_eq_true] at hf; exact .cons (key _ _ hf.1 h1) (ih h3 hf.2)
  | seg => simp [PV.flat, PV.flat1] at hf
  | arr => simp [PV.flat, PV.flat1] at hf
  | sl => simp [PV.flat, PV.flat1] at hf

theorem VSs.noids : ∀ {l : List (SV X.U)} {c : List Value}, VSs X cl w m l c → idsS l = [] → ∀ m', VSs X cl w m' l c := by
  have both : (∀ (v : SV X.U) (c : Value), VS X cl w m v c → v.ids = [] → ∀ m', VS X cl w m' v c) := by
    intro v c h hi m'
    refine h.mono (Ext.refl _ _) fun id hid => ?_
    exfalso
    have : ∀ v : SV X.U, v.men id = true → v.ids ≠ [] := by
      intro v
      refine SV.rec (motive_1 := fun v => v.men id = true → v.ids ≠ []) (motive_2 := fun l => menL id l = true → idsS l ≠ []) ?_ ?_ ?_ ?_ ?_ v
      · intro v h; simp [SV.men] at h
      · intro a b _; simp [SV.ids]
      · intro f a b iha ihb h
        simp only [SV.men, Bool.or_eq_true] at h
        simp only [SV.ids, ne_eq, List.append_eq_nil_iff, not_and]
        rcases h with h | h
        · intro e; exact absurd e (iha h)
        · intro _; exact ihb h
      · intro h; simp [menL] at h
      · intro a r iha ihr h
        simp only [menL, Bool.or_eq_true] at h
        simp only [idsS, ne_eq, List.append_eq_nil_iff, not_and]
        rcases h with h | h
        · intro e; exact absurd e (iha h)
        · intro _; exact ihr h
    exact this v hid hi
  intro l c h hi m'
  induction l generalizing c with
  | nil => cases h; exact .nil
  | cons a r ih =>
    simp only [idsS, List.append_eq_nil_iff] at hi
    cases h with
    | cons h1 h2 => exact .cons (both _ _ h1 hi.1 m') (ih h2 hi.2)

/-- Arguments as the callee gets them, what is lent being told. -/
theorem args_sound (hX : XOK X) {a : Act} {tk : List Nat} (hR : Rel B cl m s a.tmps w) (he : Ext cl w cl' w) : ∀ (l : List (AV X.U)) (cs : List Value) (k : Nat) (as : List (AV X.U)) (ls : List (Lc × Bool)),
    argsK X s.own tk k l = some (as, ls) → (∀ p ∈ ls, p.2 = false ∧ ∃ i, p.1 = .slot i) → idsL as = [] → cs.length = l.length → (∀ (i : Nat) (v : AV X.U) (c : Value), l[i]? = some v → cs[i]? = some c → V X cl w m (lval m s a.tmps w) v c) →
    (∀ i u, (Lc.slot i, false) ∈ ls → s.look i = .own u → VP X cl' w (.typ u) (a.tmps.getD i Go.undef)) →
    as.length = l.length ∧ ∀ (i : Nat) (v : AV X.U) (c : Value), as[i]? = some v → cs[i]? = some c → ∀ m' lv', V X cl' w m' lv' v c ∧ v.own? = none
  | [], cs, k, as, ls, h, _, _, _, _, _ => by simp [argsK] at h; obtain ⟨rfl, rfl⟩ := h; exact ⟨rfl, fun i v c h => by simp at h⟩
  | v :: r, cs, k, as, ls, h, hl, hi, hlen, hv, ht => by
    cases cs with
    | nil => simp at hlen
    | cons c cs =>
    have hv0 := hv 0 v c rfl rfl
    have one : ∀ {x : AV X.U} {o : Option Lc} {as' : List (AV X.U)} {ls' : List (Lc × Bool)}, argK X s.own (tk.contains k) v = some (x, o) → argsK X s.own tk (k + 1) r = some (as', ls') →
        as = x :: as' → ((o = none ∧ ls = ls') ∨ ∃ l, o = some l ∧ ls = (l, tk.contains k) :: ls') →
        as.length = (v :: r).length ∧ ∀ (i : Nat) (v' : AV X.U) (c' : Value), as[i]? = some v' → (c :: cs)[i]? = some c' → ∀ m' lv', V X cl' w m' lv' v' c' ∧ v'.own? = none := by
      intro x o as' ls' h1 h2 has hls
      subst has
      simp only [idsL, List.append_eq_nil_iff] at hi
      have hsub : ∀ p ∈ ls', p ∈ ls := by
        rcases hls with ⟨_, rfl⟩ | ⟨l, _, rfl⟩ <;> intro p hp
        · exact hp
        · exact List.mem_cons_of_mem _ hp
      have hrec := args_sound hX hR he r cs (k + 1) as' ls' h2 (fun p hp => hl p (hsub p hp)) hi.2 (by simpa using hlen) (fun i v' c' h3 h4 => hv (i + 1) v' c' (by simpa using h3) (by simpa using h4))
        (fun i u hiu => ht i u (hsub _ hiu))
      refine ⟨by simp [hrec.1], fun i v' c' h3 h4 m' lv' => ?_⟩
      cases i with
      | succ i => exact hrec.2 i v' c' (by simpa using h3) (by simpa using h4) m' lv'
      | zero =>
        simp only [List.getElem?_cons_zero, Option.some.injEq] at h3 h4; subst h3; subst h4
        unfold argK at h1
        split at h1
        · -- bor
          rename_i l0
          split at h1
          case h_2 => cases h1
          rename_i u hu
          have htk : tk.contains k = false := by
            rcases hls with ⟨rfl, _⟩ | ⟨l, rfl, rfl⟩
            · split at h1 <;> simp at h1
            · exact (hl _ List.mem_cons_self).1
          simp only [htk, Bool.false_eq_true, if_false, Option.some.injEq, Prod.mk.injEq] at h1
          obtain ⟨rfl, rfl⟩ := h1
          rcases hls with ⟨h', _⟩ | ⟨l, h', rfl⟩
          · cases h'
          · cases h'
            obtain ⟨_, i0, hi0⟩ := hl (l0, tk.contains k) List.mem_cons_self
            simp only at hi0; subst hi0
            cases hv0 with
            | bor hv0 =>
              have := hv0 _ (lval_of hu); subst this
              exact ⟨.pv (ht i0 u (by rw [htk]; simp) (own_look hu)), rfl⟩
        · cases h1
        · simp only [Option.some.injEq, Prod.mk.injEq] at h1; obtain ⟨rfl, _⟩ := h1
          cases hv0 with | pv hv0 => exact ⟨.pv (hv0.mono he), rfl⟩
        · split at h1
          · simp only [Option.some.injEq, Prod.mk.injEq] at h1; obtain ⟨rfl, _⟩ := h1
            simp [AV.ids] at hi
          · cases h1
        · simp only [Option.some.injEq, Prod.mk.injEq] at h1; obtain ⟨rfl, _⟩ := h1
          simp only [AV.ids, List.append_eq_nil_iff] at hi
          cases hv0 with
          | fn q1 q2 => exact ⟨.fn ((q1.mono he (m' := m) fun _ _ => rfl).noids hi.1.1 m') ((q2.mono he (m' := m) fun _ _ => rfl).noids hi.1.2 m'), rfl⟩
        · cases h1
    unfold argsK at h
    split at h
    · rename_i a0 as' ls' h1 h2
      simp only [Option.some.injEq, Prod.mk.injEq] at h; obtain ⟨rfl, rfl⟩ := h
      exact one h1 h2 rfl (.inl ⟨rfl, rfl⟩)
    · rename_i a0 l0 as' ls' h1 h2
      simp only [Option.some.injEq, Prod.mk.injEq] at h; obtain ⟨rfl, rfl⟩ := h
      exact one h1 h2 rfl (.inr ⟨l0, rfl, rfl⟩)
    · cases h

theorem callK_sound (hX : XOK X) {N : Nat} {G : Ans X ρ} {tk : Takes} (hG : GOK P G) {o : Oper} {x : Operand} {args : Array Operand} {argTypes : Array TypeId} {f : FuncId} {first caps : List (SV X.U)}
    (ho : o.op = .call { callee := .value x, args, argTypes }) (hx : s.ev 0 x = .fn f first caps) (hlen : args.size = argTypes.size) {K : AV X.U → St X.U → Option ρ} {r : ρ}
    (h : callK X G tk s f (first.map SV.av ++ ((args.toList.zip argTypes.toList).map fun p => s.ev p.2 p.1) ++ caps.map SV.av) K = some r) :
    ∃ v s', K v s' = some r ∧ (dstOk N o v = true → OpOk P N s o v s') := by
  unfold callK at h
  split at h
  case h_2 => cases h
  rename_i as ls hargs
  split at h
  case isFalse => cases h
  rename_i hls
  simp only [Bool.and_eq_true, List.isEmpty_iff, List.all_eq_true] at hls
  obtain ⟨hids, hls⟩ := hls
  have hls' : ∀ p ∈ ls, p.2 = false ∧ ∃ i, p.1 = .slot i := fun p hp => by
    have := hls p hp
    simp only [Bool.not_eq_true'] at this
    refine ⟨this.1, ?_⟩
    have h2 := this.2
    split at h2
    · rename_i i hi; exact ⟨i, hi⟩
    · cases h2
  obtain ⟨⟨fn, hf1, hf2, hf3⟩, v, bx', hK, hcon⟩ := hG f as [] _ r h
  clear h
  split at hK
  case h_2 => cases hK
  rename_i s1 hs1
  -- the arguments as they stand
  have hav : ∀ {B : Base} {cl m : Nat → Nat} {a : Act} {w : World}, Rel B cl m s a.tmps w → ∃ ca cb : List Value, a.eval x = .func (.func f) ca.toArray cb.toArray ∧
      ((ca ++ args.toList.map a.eval ++ cb).length = (first.map SV.av ++ ((args.toList.zip argTypes.toList).map fun p => s.ev p.2 p.1) ++ caps.map SV.av).length) ∧
      ∀ (i : Nat) (q : AV X.U) (c : Value), (first.map SV.av ++ ((args.toList.zip argTypes.toList).map fun p => s.ev p.2 p.1) ++ caps.map SV.av)[i]? = some q → (ca ++ args.toList.map a.eval ++ cb)[i]? = some c → V X cl w m (lval m s a.tmps w) q c := by
    intro B cl m a w hR
    have h1 := evV hX hR 0 x
    rw [hx] at h1
    generalize hc0 : a.eval x = c0 at h1
    cases h1 with
    | @fn _ _ _ ca cb h1 h2 =>
      have hVs : ∀ {l : List (SV X.U)} {c : List Value}, VSs X cl w m l c → c.length = l.length ∧ ∀ (i : Nat) (q : AV X.U) (y : Value), (l.map SV.av)[i]? = some q → c[i]? = some y → V X cl w m (lval m s a.tmps w) q y := by
        intro l
        induction l with
        | nil => intro c h; cases h; exact ⟨rfl, fun i q y h => by simp at h⟩
        | cons z l ih =>
          intro c h
          cases h with
          | cons g1 g2 =>
            obtain ⟨e1, e2⟩ := ih g2
            refine ⟨by simp [e1], fun i q y e3 e4 => ?_⟩
            cases i with
            | zero =>
              simp only [List.map_cons, List.getElem?_cons_zero, Option.some.injEq] at e3 e4; subst e3; subst e4
              cases g1 with
              | pv g => exact .pv g
              | ptr i o => exact .ptr i o
              | fn g g' => exact .fn g g'
            | succ i => exact e2 i q y (by simpa using e3) (by simpa using e4)
      obtain ⟨l1, v1⟩ := hVs h1
      obtain ⟨l2, v2⟩ := hVs h2
      have hmid : ∀ (xs : List Operand) (ts : List TypeId), xs.length = ts.length → (xs.map a.eval).length = ((xs.zip ts).map fun p => s.ev p.2 p.1).length ∧
          ∀ (i : Nat) (q : AV X.U) (y : Value), ((xs.zip ts).map fun p => s.ev p.2 p.1)[i]? = some q → (xs.map a.eval)[i]? = some y → V X cl w m (lval m s a.tmps w) q y := by
        intro xs
        induction xs with
        | nil => intro ts _; cases ts <;> exact ⟨rfl, fun i q y h => by simp at h⟩
        | cons z xs ih =>
          intro ts hts
          cases ts with
          | nil => simp at hts
          | cons t ts =>
            obtain ⟨e1, e2⟩ := ih ts (by simpa using hts)
            refine ⟨by simp at e1 ⊢; omega, fun i q y e3 e4 => ?_⟩
            cases i with
            | zero =>
              simp only [List.zip_cons_cons, List.map_cons, List.getElem?_cons_zero, Option.some.injEq] at e3 e4; subst e3; subst e4
              exact evV hX hR t z
            | succ i => exact e2 i q y (by simpa using e3) (by simpa using e4)
      obtain ⟨l3, v3⟩ := hmid args.toList argTypes.toList (by simpa using hlen)
      refine ⟨ca, cb, rfl, by simp only [List.length_append, List.length_map, l1, l2] at l3 ⊢; omega, fun i q c e1 e2 => ?_⟩
      rw [List.append_assoc] at e1 e2
      by_cases hi : i < ca.length
      · rw [List.getElem?_append_left (by simpa [l1] using hi)] at e1
        rw [List.getElem?_append_left hi] at e2
        exact v1 i q c e1 e2
      · rw [List.getElem?_append_right (by simp [← l1]; omega)] at e1
        rw [List.getElem?_append_right (by omega)] at e2
        simp only [List.length_map, ← l1] at e1
        by_cases hj : i - ca.length < (args.toList.map a.eval).length
        · rw [List.getElem?_append_left (by omega)] at e1
          rw [List.getElem?_append_left hj] at e2
          exact v3 _ q c e1 e2
        · rw [List.getElem?_append_right (by omega)] at e1
          rw [List.getElem?_append_right (by omega)] at e2
          rw [l3] at e2
          exact v2 _ q c e1 e2
  have hv12 : (∃ p, v = .pv p ∧ K (.pv p) s1 = some r) ∨ ∃ u, v = .own u ∧ K (.own u) s1 = some r := by
    split at hK
    · exact .inl ⟨_, rfl, hK⟩
    · exact .inr ⟨_, rfl, hK⟩
    · cases hK
  have hKv : K v s1 = some r := by rcases hv12 with ⟨_, rfl, h⟩ | ⟨_, rfl, h⟩ <;> exact h
  refine ⟨v, s1, hKv, fun hd => ?_⟩
  intro B a w ⟨cl, m, hR, hN, hD⟩ next Q hnext
  obtain ⟨ca, cb, hfx, hl, hvv⟩ := hav hR
  obtain ⟨cl1, s2, t1, t2, t3, t4⟩ := tellAll hX ls s cl hls' hR
  obtain ⟨q1, q2⟩ := args_sound hX hR t3 _ _ 0 as ls hargs hls' hids hl hvv t4
  let cargs : Array Value := (ca ++ args.toList.map a.eval ++ cb).toArray
  have hcs : cargs.size = as.length := by simp only [cargs, List.size_toArray]; omega
  have hpre : Rel ⟨w, cl1, fun _ => False⟩ cl1 m ({ env := zipI 0 as, hp := zipI 1000 [] } : St X.U) cargs w := by
    have hlook : ∀ i, ({ env := zipI 0 as, hp := zipI 1000 [] } : St X.U).look i = (as[i]?).getD .undef := fun i => by simp [St.look, assoc_zipI]
    have hent : ∀ i v c, as[i]? = some v → cargs[i]? = some c → ∀ m' lv', V X cl1 w m' lv' v c ∧ v.own? = none := fun i v c h1 h2 => q2 i v c h1 (by simpa [cargs] using h2)
    have hno : ∀ l b, ¬ Ow m ({ env := zipI 0 as, hp := zipI 1000 [] } : St X.U) cargs w l b := by
      intro l b ho
      cases l with
      | slot i =>
        simp only [Ow, hlook] at ho
        cases hi : as[i]? with
        | none => simp [hi, blk] at ho
        | some v =>
          have hlt : i < cargs.size := by rw [hcs]; exact (List.getElem?_eq_some_iff.mp hi).1
          have := (hent i v cargs[i] hi (by simp [hlt]) m (fun _ => none)).2
          rw [hi] at ho
          exact blk_none (c := cargs.getD i Go.undef) this b (by simpa using ho)
      | cell id off => obtain ⟨c, u, h1, _⟩ := ho; simp [zipI, assoc] at h1
      | box id => obtain ⟨⟨c, h1⟩, _⟩ := ho; simp [zipI, assoc] at h1
    refine ⟨Fr.refl _ _ _, fun i => ?_, fun id c hc => by simp [zipI, assoc] at hc, fun l l' b h1 _ => absurd h1 (hno l b), fun l b h1 => absurd h1 (hno l b), fun b hb => t2.top b hb, fun id c hc => by simp [zipI, assoc] at hc⟩
    rw [hlook]
    cases hi : as[i]? with
    | none => exact .undef _
    | some v =>
      have hlt : i < cargs.size := by rw [hcs]; exact (List.getElem?_eq_some_iff.mp hi).1
      have := (hent i v cargs[i] hi (by simp [hlt]) m (lval m ({ env := zipI 0 as, hp := zipI 1000 [] } : St X.U) cargs w)).1
      simpa [Array.getD, hlt] using this
  have hcall := hcon (fun _ => False) cl1 m w cargs hcs hpre
  have hrun : (execOp a.eval o).run P w = .ok (.enter f cargs) w := by
    have e1 : (args.map a.eval) = (args.toList.map a.eval).toArray := by apply Array.ext'; simp
    have hname : ¬ fn.name = "runtime.NumGoroutine" := by simpa using hf2
    simp only [execOp, ho, resolve, hfx, Deferred.ofValue, e1, Sem.run_bind, Sem.run_pure, Result.andThen_ok, invoke, callFunc, run_program, hf1, hf2, hf3, Bool.false_eq_true, if_false]
    simp [cargs]
  unfold Oper.wp
  rw [hrun]
  simp only [Oper.upon]
  refine hcall.mono fun e w' ⟨c, cl2, m2, he, hpost, _⟩ => ?_
  subst he
  simp only
  have hV : V X cl2 w' m2 (lval m2 ({ env := [(0, v)], hp := zipI 1000 bx' } : St X.U) #[c] w') v c := by
    have := hpost.env 0
    simpa [St.look, assoc, Array.getD] using this
  have hfr := hpost.fr
  have hw0 : w.heap.size ≤ w'.heap.size := hfr.size
  have hheap : ∀ b, b < w.heap.size → w'.heap[b]? = w.heap[b]? ∧ cl2 b = cl1 b := fun b hb => hfr.block b hb (fun h => h)
  have hblk : ∀ b, blk v c = some b → w.heap.size ≤ b ∧ b < w'.heap.size ∧ cl2 b = 0 := fun b hb => by
    have := hpost.mine (.slot 0) b (by simp only [Ow, St.look, assoc]; simpa [Array.getD] using hb)
    refine ⟨?_, this.1, this.2.2⟩
    rcases this.2.1 with h | h
    · exact h.elim
    · exact h
  cases hfl : v.flat with
  | true =>
    -- nothing of what is lent lives on
    have hs1' : s1 = s := by
      rw [hfl] at hs1
      have := turnAll_false ls s fun p hp => (hls' p hp).1
      simp only [Bool.not_true] at hs1
      rw [this] at hs1; cases hs1; rfl
    subst hs1'
    let cl3 : Nat → Nat := fun b => if b < w.heap.size then cl b else cl2 b
    have hR3 : Rel B cl3 m s1 a.tmps w' := by
      refine hR.world hX.wpos ⟨hfr.os.trans hR.fr.os, hfr.tape.trans hR.fr.tape, hfr.output.trans hR.fr.output, Nat.le_trans hR.fr.size hw0, fun b hb hd => ?_⟩ (fun b off y h1 h2 => ?_) hw0 (fun l b hb => ?_) (fun b hb => ?_)
      · have hlt : b < w.heap.size := Nat.lt_of_lt_of_le hb hR.fr.size
        exact ⟨(hheap b hlt).1.trans (hR.fr.block b hb hd).1, by simp only [cl3, hlt, if_true]; exact (hR.fr.block b hb hd).2⟩
      · have hlt := cell?_lt h2
        exact ⟨by simp only [cl3, hlt, if_true]; exact h1, by rw [cell?_of_heap (hheap b hlt).1]; exact h2⟩
      · have := hR.mine l b hb
        exact ⟨(hheap b this.1).1, by simp only [cl3, this.1, if_true]; exact this.2.2⟩
      · simp only [cl3]; rw [if_neg (by omega)]; exact hpost.top b hb
    have hVf : V X cl3 w' m (lval m s1 a.tmps w') v c := by
      rcases hv12 with ⟨p, rfl, _⟩ | ⟨u, rfl, _⟩
      · cases hV with | pv h => exact .pv (flat_any h (by simpa [AV.flat] using hfl))
      · simp [AV.flat] at hfl
    exact hnext _ _ (Good.put hR3 hN hD hd hVf fun b hb => by
      rcases hv12 with ⟨p, rfl, _⟩ | ⟨u, rfl, _⟩
      · simp [blk] at hb
      · simp [AV.flat] at hfl)
  | false =>
    have hs1' : s1 = s2 := by
      rw [hfl] at hs1
      simp only [Bool.not_false] at hs1
      rw [t1] at hs1; cases hs1; rfl
    subst hs1'
    have hR3 : Rel B cl2 m s1 a.tmps w' := by
      refine t2.world hX.wpos ⟨hfr.os.trans t2.fr.os, hfr.tape.trans t2.fr.tape, hfr.output.trans t2.fr.output, Nat.le_trans t2.fr.size hw0, fun b hb hd => ?_⟩ (fun b off y h1 h2 => ?_) hw0 (fun l b hb => ?_) hpost.top
      · have hlt : b < w.heap.size := Nat.lt_of_lt_of_le hb t2.fr.size
        exact ⟨(hheap b hlt).1.trans (t2.fr.block b hb hd).1, (hheap b hlt).2.trans (t2.fr.block b hb hd).2⟩
      · have hlt := cell?_lt h2
        exact ⟨by rw [(hheap b hlt).2]; exact h1, by rw [cell?_of_heap (hheap b hlt).1]; exact h2⟩
      · have := t2.mine l b hb
        exact ⟨(hheap b this.1).1, by rw [(hheap b this.1).2]; exact this.2.2⟩
    have hVf : V X cl2 w' m (lval m s1 a.tmps w') v c := by
      rcases hv12 with ⟨p, rfl, _⟩ | ⟨u, rfl, _⟩
      · cases hV with | pv h => exact .pv h
      · cases hV with | own h => exact .own h
    refine hnext _ _ (Good.put hR3 hN hD hd hVf fun b hb => ?_)
    obtain ⟨g1, g2, g3⟩ := hblk b hb
    have hmine : ∀ l, ¬ Ow m s1 a.tmps w' l b := fun l hl => by
      have hl' : Ow m s1 a.tmps w l b := by
        cases l with
        | slot i => exact hl
        | cell id off =>
          obtain ⟨c', u, e1, e2, e3⟩ := hl
          refine ⟨c', u, e1, e2, ?_⟩
          rw [cell?_of_heap (hheap _ (t2.mine (.box id) _ ⟨⟨c', e1⟩, rfl⟩).1).1] at e3; exact e3
        | box id => exact hl
      have := (t2.mine l b hl').1; omega
    exact ⟨hmine, g2, .inr (Nat.le_trans hR.fr.size g1), g3⟩
end Go.AX
