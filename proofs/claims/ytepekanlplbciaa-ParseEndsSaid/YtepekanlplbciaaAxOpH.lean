/-
  What is owned and handed on, told, lent to a callee; calls.
-/
import Derived.Test.YtepekanlplbciaaAxOpG
namespace Go.AX
open Go
variable {X : Univ} {P : Program} {cl cl' m : Nat → Nat} {w w' : World} {B : Base} {s s1 : St X.U} {tm : Array Value} {ρ : Type} {lv : Lc → Option Value}

theorem setGetD (tm : Array Value) (i : Nat) : tm.setIfInBounds i (tm.getD i Go.undef) = tm := by
  apply Array.ext'
  by_cases h : i < tm.size
  · have e : tm.getD i Go.undef = tm.toList[i]'(by simpa using h) := by simp [Array.getD, h]
    rw [e, Array.toList_setIfInBounds, List.set_getElem_self]
  · rw [Array.toList_setIfInBounds, List.set_eq_of_length_le (by simp; omega)]

theorem own_look {i : Nat} {u : X.U} (h : s.own (.slot i) = some u) : s.look i = .own u := by
  rw [own_slot] at h; cases hl : s.look i <;> rw [hl] at h <;> simp [AV.own?] at h; rw [h]

theorem own_lt (h : Rel B cl m s tm w) {i : Nat} {u : X.U} (hu : s.look i = .own u) : i < tm.size := by
  by_cases hi : i < tm.size
  · exact hi
  · have := h.env i
    rw [hu] at this
    simp only [Array.getD, hi, dif_neg, not_false_eq_true] at this
    cases this

/-- What a slot owned is gone from it. -/
theorem Rel.drop (h : Rel B cl m s tm w) {i : Nat} {u : X.U} (hu : s.look i = .own u) : Rel B cl m (s.put (some i) .undef) tm w := by
  have := h.put (d := i) (v := .undef) (c := tm.getD i Go.undef) (own_lt h hu) (.undef _) rfl (fun b hb => by simp [blk] at hb)
  rwa [setGetD] at this

theorem drop_ow (h : Rel B cl m s tm w) {i : Nat} {u : X.U} (hu : s.look i = .own u) {l : OL} {b : Nat} (ho : Ow m (s.put (some i) .undef) tm w l b) : Ow m s tm w l b ∧ l ≠ .slot i := by
  have hs : tm = tm.setIfInBounds i (tm.getD i Go.undef) := (setGetD tm i).symm
  rw [hs] at ho
  rcases Ow.put (own_lt h hu) ho with ⟨_, hb⟩ | ⟨hn, ho⟩
  · simp [blk] at hb
  · exact ⟨ho, hn⟩

theorem assignOwn_sound {N : Nat} {o : Oper} {i : Nat} {u : X.U} (ho : o.op = .assign (.tmp i)) (hu : s.look i = .own u) (hd : dstOk N o (AV.own u) = true) : OpOk P N s o (.own u) (s.put (some i) .undef) := by
  intro B a w ⟨cl, m, hR, hN, hD⟩ next Q hnext
  have hv := hR.env i
  rw [hu] at hv
  refine wp_of_run (c := a.tmps.getD i Go.undef) (w' := w) (by simp [execOp, ho, Act.eval]) (hnext _ _ (Good.put (hR.drop hu) hN hD hd (hv.lv fun l x hl _ => by simp [AV.at?] at hl) fun b hb => ?_))
  have hown : Ow m s a.tmps w (.slot i) b := by simp only [Ow, hu]; exact hb
  refine ⟨fun l hl => ?_, hR.mine _ _ hown⟩
  obtain ⟨h1, h2⟩ := drop_ow hR hu hl
  exact h2 (hR.sep _ _ _ h1 hown)

noncomputable def raise (w : World) (cl : Nat → Nat) (a : Option Addr) : Nat → Nat := fun b =>
  match a with
  | some ad => if b = ad.block then (match w.heap[b]? with | some (.cells arr _ _) => arr.size | _ => 0) else cl b
  | none => cl b

theorem own_told {u : X.U} {a : Option Addr} {n cap : Nat} (h : OwnAt X cl w u a n cap) (e : Ext cl w cl' w) (hr : ∀ ad arr el fz, a = some ad → w.heap[ad.block]? = some (.cells arr el fz) → cl' ad.block = arr.size) :
    VP X cl' w (.typ u) (.slice a n cap) := by
  obtain ⟨vs, get, h1, h2, h3, h4, h5, h6⟩ := h
  refine .sl h1 h2 (fun i hi => (h3 i hi).mono e) h5 h4 ?_
  rcases h6 with ⟨_, hc⟩ | ⟨ad, arr, el, fz, ha, hs, hc, hh, hl, hf, hcs⟩
  · exact .inl (List.eq_nil_of_length_eq_zero (by omega))
  · refine .inr ⟨ad, ha, hs, fun i v hv => ⟨rfl, fun j x hx => ?_⟩⟩
    obtain ⟨ca, cb, k1, k2⟩ := flat_row h4 hv
    have hil : i < vs.length := (List.getElem?_eq_some_iff.mp hv).1
    have hjl : j < v.cells.toList.length := (List.getElem?_eq_some_iff.mp hx).1
    have hj2 : j < X.esz u := by rw [← (h4 v (List.mem_of_getElem? hv)).1]; simpa using hjl
    have hfl : (flat vs)[i * X.esz u + j]? = some x := by
      rw [k1, List.getElem?_append_right (by omega), List.getElem?_append_left (by omega), show i * X.esz u + j - ca.length = j by omega]; exact hx
    have := hcs _ _ hfl
    rw [← Nat.add_assoc] at this
    have hlt : ad.off + i * X.esz u + j < arr.size := (Array.getElem?_eq_some_iff.mp this).1
    refine ⟨?_, by simp [World.cell?, hh, this]⟩
    rw [hr ad arr el fz ha hh]; exact hlt

/-- What a slot owns is told. -/
theorem Rel.tell (hX : XOK X) (h : Rel B cl m s tm w) {i : Nat} {u : X.U} (hu : s.look i = .own u) :
    ∃ cl', Rel B cl' m (s.put (some i) (.pv (.typ u))) tm w ∧ Ext cl w cl' w ∧ VP X cl' w (.typ u) (tm.getD i Go.undef) := by
  have hv := h.env i
  rw [hu] at hv
  generalize hc0 : tm.getD i Go.undef = c0 at hv
  cases hv with
  | @own _ a n cap hown =>
    have hex : Ext cl w (raise w cl a) w := by
      refine Ext.of fun b h1 _ => ⟨rfl, ?_⟩
      unfold raise
      cases a with
      | none => exact Nat.le_refl _
      | some ad =>
        by_cases hb : b = ad.block
        · subst hb
          have := (h.mine (.slot i) ad.block (by simp [Ow, hu, hc0, blk])).2.2
          omega
        · simp only [hb, if_false]; exact Nat.le_refl _
    have hVP : VP X (raise w cl a) w (.typ u) (.slice a n cap) := own_told hown hex fun ad arr el fz ha hh => by simp [raise, ha, hh]
    have h1 := h.drop hu
    have h2 : Rel B (raise w cl a) m (s.put (some i) .undef) tm w := by
      refine h1.world hX.wpos ?_ hex (Nat.le_refl _) (fun l b hb => ⟨rfl, ?_⟩) (fun b hb => ?_)
      · refine ⟨h.fr.os, h.fr.tape, h.fr.output, h.fr.size, fun b hb hd => ⟨(h.fr.block b hb hd).1, ?_⟩⟩
        rw [← (h.fr.block b hb hd).2]
        unfold raise
        cases a with
        | none => rfl
        | some ad =>
          have := (h.mine (.slot i) ad.block (by simp [Ow, hu, hc0, blk])).2.1
          have hne : b ≠ ad.block := fun e => by rw [e] at hb hd; rcases this with k | k; exact hd k; omega
          simp [hne]
      · have := drop_ow h hu hb
        have hz := (h.mine _ _ this.1).2.2
        unfold raise
        cases a with
        | none => exact hz
        | some ad =>
          have hne : b ≠ ad.block := fun e => this.2 (h.sep _ _ _ this.1 (by simp [Ow, hu, hc0, blk, e]))
          simp [hne, hz]
      · unfold raise
        cases a with
        | none => exact h.top b hb
        | some ad =>
          have := (h.mine (.slot i) ad.block (by simp [Ow, hu, hc0, blk])).1
          simp [show b ≠ ad.block by omega, h.top b hb]
    have h3 := h2.put (d := i) (v := .pv (.typ u)) (c := tm.getD i Go.undef) (own_lt h hu) (by rw [hc0]; exact .pv hVP) rfl (fun b hb => by simp [blk] at hb)
    rw [setGetD] at h3
    refine ⟨raise w cl a, ?_, hex, hVP⟩
    have e : ((s.put (some i) .undef).put (some i) (.pv (.typ u))) = s.put (some i) (.pv (.typ u)) := by
      simp only [St.put]
      congr 2
      have : ∀ l : List (Nat × AV X.U), killSlot i (killSlot i l) = killSlot i l := by
        intro l
        induction l with
        | nil => rfl
        | cons p r ih =>
          obtain ⟨j, v⟩ := p
          by_cases hj : j = i
          · simp [killSlot, hj, ih]
          · simp only [killSlot, hj, if_false, ih]
            congr 2
            cases hv : v.atSlot i with
            | true => simp [AV.atSlot]
            | false => simp [hv]
      simp [killSlot, this]
    rw [e] at h3; exact h3

theorem put_look_ne {j i : Nat} {v : AV X.U} (h : j ≠ i) (hv : (s.look j).own?.isSome = true ∨ (s.look j).at? = none) : (s.put (some i) v).look j = s.look j := by
  rw [look_put, if_neg h]
  cases hl : s.look j <;> rw [hl] at hv <;> simp [AV.own?, AV.at?] at hv <;> rfl

/-- All that is lent is told. -/
theorem tellAll (hX : XOK X) : ∀ (ls : List (Lc × Bool)) (s : St X.U) (cl : Nat → Nat), (∀ p ∈ ls, p.2 = false ∧ ∃ i, p.1 = .slot i) → Rel B cl m s tm w →
    ∃ cl' s1, turnAll X s ls true = some s1 ∧ Rel B cl' m s1 tm w ∧ Ext cl w cl' w ∧ (∀ i u, (Lc.slot i, false) ∈ ls → s.look i = .own u → VP X cl' w (.typ u) (tm.getD i Go.undef)) ∧
      ∀ i u, (Lc.slot i, false) ∉ ls → s.look i = .own u → s1.look i = .own u
  | [], s, cl, _, h => ⟨cl, s, rfl, h, Ext.refl _ _, (fun i u hi => by cases hi), fun i u _ h => h⟩
  | (l, q) :: r, s, cl, hl, h => by
    obtain ⟨hq, i, hi⟩ := hl (l, q) (by simp)
    simp only at hq hi; subst hq; subst hi
    cases hu : s.own (.slot i) with
    | none =>
      obtain ⟨cl', s1, h1, h2, h3, h4, h5⟩ := tellAll hX r s cl (fun p hp => hl p (by simp [hp])) h
      refine ⟨cl', s1, by simp [turnAll, hu, h1], h2, h3, fun j u hj hlj => ?_, fun j u hj hlj => h5 j u (fun hm => hj (List.mem_cons_of_mem _ hm)) hlj⟩
      simp only [List.mem_cons, Prod.mk.injEq, Lc.slot.injEq, and_true] at hj
      rcases hj with rfl | hj
      · rw [own_slot, hlj] at hu; cases hu
      · exact h4 j u hj hlj
    | some u =>
      have hlu := own_look hu
      obtain ⟨c1, g1, g2, g3⟩ := h.tell hX hlu
      obtain ⟨cl', s1, h1, h2, h3, h4, h5⟩ := tellAll hX r _ c1 (fun p hp => hl p (by simp [hp])) g1
      refine ⟨cl', s1, by simp [turnAll, hu, St.turn, h1], h2, g2.trans h3, fun j v hj hlj => ?_, fun j v hj hlj => ?_⟩
      case refine_2 =>
        have hji : j ≠ i := fun e => hj (by rw [e]; exact List.mem_cons_self)
        exact h5 j v (fun hm => hj (List.mem_cons_of_mem _ hm)) (by rw [put_look_ne hji (.inl (by rw [hlj]; rfl))]; exact hlj)
      by_cases hji : j = i
      · subst hji; rw [hlu] at hlj; cases hlj; exact g3.mono h3
      · simp only [List.mem_cons, Prod.mk.injEq, Lc.slot.injEq, and_true, hji, false_or] at hj
        exact h4 j v hj (by rw [put_look_ne hji (.inl (by rw [hlj]; rfl))]; exact hlj)

theorem turnAll_false : ∀ (ls : List (Lc × Bool)) (s : St X.U), (∀ p ∈ ls, p.2 = false) → turnAll X s ls false = some s
  | [], s, _ => rfl
  | (l, q) :: r, s, h => by
    have := h (l, q) (by simp); simp only at this; subst this
    simp only [turnAll]; exact turnAll_false r s fun p hp => h p (by simp [hp])

/-! Calls. -/
/-- What a function answers: arguments, boxes; its value, the boxes behind the call. -/
def Con (P : Program) (f : FuncId) (args : List (AV X.U)) (bx : List (List (AV X.U))) (v : AV X.U) (bx' : List (List (AV X.U))) : Prop :=
  ∀ (D : Nat → Prop) (cl m : Nat → Nat) (w : World) (cargs : Array Value), cargs.size = args.length → Rel ⟨w, cl, D, m⟩ cl m { env := zipI 0 args, hp := zipI 1000 bx } cargs w →
    Calls P f cargs w fun e w' => ∃ c cl' m', e = .returned c ∧ Rel ⟨w, cl, D, m⟩ cl' m' ({ env := [(0, v)], hp := zipI 1000 bx' } : St X.U) #[c] w' ∧ (bx = [] ∨ ∀ i, 1000 ≤ i → m' i = m i)

/-- The function is there. -/
def There (P : Program) (f : FuncId) : Prop := ∃ fn, P.funcs[f]? = some fn ∧ (fn.name == "runtime.NumGoroutine") = false ∧ fn.body.isNone = false

def GOK (P : Program) (G : Ans X ρ) : Prop :=
  ∀ f args bx K r, G f args bx K = some r → There P f ∧ ∃ v bx', K v bx' = some r ∧ Con P f args bx v bx'

theorem assoc_zipI {α : Type} : ∀ (l : List α) (k i : Nat), assoc (zipI k l) i = if k ≤ i then l[i - k]? else none
  | [], k, i => by simp [zipI, assoc]
  | x :: r, k, i => by
    simp only [zipI, assoc]
    by_cases h : k = i
    · simp [h]
    · rw [if_neg h, assoc_zipI r (k + 1) i]
      by_cases h2 : k + 1 ≤ i
      · rw [if_pos h2, if_pos (by omega), show i - k = (i - (k + 1)) + 1 by omega, List.getElem?_cons_succ]
      · rw [if_neg h2, if_neg (by omega)]

theorem flat_any {v : PV X.U} {c : Value} (h : VP X cl w v c) (hf : v.flat = true) : VP X cl' w' v c := by
  have key : ∀ (q : PV X.U) (x : Value), q.flat1 = true → VP X cl w q x → VP X cl' w' q x := by
    intro q x hq hx
    cases hx <;> simp [PV.flat1] at hq
    · exact .bool _
    · exact .int _ _
    · exact .str _
  cases h with
  | bool b => exact .bool b
  | int k n => exact .int k n
  | str s => exact .str s
  | @agg cs vs h =>
    simp only [PV.flat] at hf
    refine .agg ?_
    induction cs generalizing vs with
    | nil => cases h; exact .nil
    | cons a r ih => cases h with | cons h1 h2 h3 => simp only [List.all_cons, Bool.and_eq_true] at hf; exact .cons (key _ _ hf.1 h1) h2 (ih h3 hf.2)
  | @tup cs vs h =>
    simp only [PV.flat] at hf
    refine .tup ?_
    induction cs generalizing vs with
    | nil => cases h; exact .nil
    | cons a r ih => cases h with | cons h1 h3 => simp only [List.all_cons, Bool.and_eq_true] at hf; exact .cons (key _ _ hf.1 h1) (ih h3 hf.2)
  | seg => simp [PV.flat, PV.flat1] at hf
  | arr => simp [PV.flat, PV.flat1] at hf
  | sl => simp [PV.flat, PV.flat1] at hf
  | mp => simp [PV.flat, PV.flat1] at hf

theorem VSs.noids : ∀ {l : List (SV X.U)} {c : List Value}, VSs X cl w m l c → idsS l = [] → ∀ m', VSs X cl w m' l c := by
  have both : (∀ (v : SV X.U) (c : Value), VS X cl w m v c → v.ids = [] → ∀ m', VS X cl w m' v c) := by
    intro v c h hi m'
    refine h.mono (Ext.refl _ _) fun id hid => ?_
    exfalso
    have : ∀ v : SV X.U, v.men id = true → v.ids ≠ [] := by
      intro v
      refine SV.rec (motive_1 := fun v => v.men id = true → v.ids ≠ []) (motive_2 := fun l => menL id l = true → idsS l ≠ []) ?_ ?_ ?_ ?_ ?_ ?_ ?_ v
      · intro v h; simp [SV.men] at h
      · intro v h; simp [SV.men] at h
      · intro a b _; simp [SV.ids]
      · intro f a b iha ihb h
        simp only [SV.men, Bool.or_eq_true] at h
        simp only [SV.ids, ne_eq, List.append_eq_nil_iff, not_and]
        rcases h with h | h
        · intro e; exact absurd e (iha h)
        · intro _; exact ihb h
      · intro a _; simp [SV.ids]
      · intro h; simp [menL] at h
      · intro a r iha ihr h
        simp only [menL, Bool.or_eq_true] at h
        simp only [idsS, ne_eq, List.append_eq_nil_iff, not_and]
        rcases h with h | h
        · intro e; exact absurd e (iha h)
        · intro _; exact ihr h
    exact this v hid hi
  intro l c h hi m'
  induction l generalizing c with
  | nil => cases h; exact .nil
  | cons a r ih =>
    simp only [idsS, List.append_eq_nil_iff] at hi
    cases h with
    | cons h1 h2 => exact .cons (both _ _ h1 hi.1 m') (ih h2 hi.2)

end Go.AX
