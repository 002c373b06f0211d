/-
  A region that draws its order: whatever order is drawn, the answer is that of the text's order.
-/
import Derived.Test.YtepekanlplbciaaAxExecA
namespace Go.AX
open Go
variable {X : Univ} {P : Program} {cl cl' m : Nat → Nat} {w w' : World} {B : Base} {s s' : St X.U} {tm : Array Value} {ρ : Type} {N : Nat} {a : Act}

theorem assoc_filter_eq {α : Type} (p : Nat → Bool) : ∀ (l : List (Nat × α)) (i : Nat), assoc (l.filter fun q => p q.1) i = if p i then assoc l i else none
  | [], i => by simp [assoc]
  | (j, x) :: r, i => by
    have ih := assoc_filter_eq p r i
    by_cases hj : j = i
    · subst hj
      by_cases hp : p j = true
      · simp [List.filter_cons, hp, assoc]
      · simp only [List.filter_cons, hp, Bool.false_eq_true, if_false]
        rw [ih]; simp [hp]
    · by_cases hp : p j = true
      · simp only [List.filter_cons, hp, if_true, assoc, hj, if_false]; exact ih
      · simp only [List.filter_cons, hp, Bool.false_eq_true, if_false, assoc, hj]; exact ih

theorem look_sub (s : St X.U) (L : List Nat) (i : Nat) : (s.sub L).look i = if i ∈ L then s.look i else .undef := by
  simp only [St.look, St.sub, assoc_map]
  by_cases h : i ∈ L <;> simp [h, St.look]
theorem hp_sub (s : St X.U) (L : List Nat) (id : Nat) : assoc (s.sub L).hp id = if (boxesOf s L).contains id then assoc s.hp id else none := by
  simp only [St.sub]
  exact assoc_filter_eq (fun i => (boxesOf s L).contains i) s.hp id

/-- As far as an operation looks, two states are the same. -/
structure Same (L : List Nat) (s s' : St X.U) : Prop where
  look : ∀ i ∈ L, s'.look i = s.look i
  box : ∀ id ∈ boxesOf s L, assoc s'.hp id = assoc s.hp id

theorem boxesOf_same {L : List Nat} (h : ∀ i ∈ L, s'.look i = s.look i) : boxesOf s' L = boxesOf s L := by
  unfold boxesOf
  rw [List.flatMap_def, List.flatMap_def]
  congr 1
  exact List.map_congr_left fun i hi => by rw [h i hi]

theorem Same.refl (L : List Nat) (s : St X.U) : Same L s s := ⟨fun _ _ => rfl, fun _ _ => rfl⟩
theorem Same.sub {L : List Nat} (h : Same L s s') : (∀ i, (s'.sub L).look i = (s.sub L).look i) ∧ ∀ id, assoc (s'.sub L).hp id = assoc (s.sub L).hp id := by
  refine ⟨fun i => ?_, fun id => ?_⟩
  · rw [look_sub, look_sub]
    by_cases hi : i ∈ L <;> simp [hi]
    exact h.look i hi
  · rw [hp_sub, hp_sub, boxesOf_same h.look]
    by_cases hi : (boxesOf s L).contains id = true
    · rw [if_pos hi, if_pos hi]; exact h.box id (by simpa using hi)
    · rw [if_neg hi, if_neg hi]

/-- States that are looked at alike. -/
theorem ev_congr (h : ∀ i, s'.look i = s.look i) : s'.ev = s.ev := by
  funext t x
  cases x with
  | tmp i => simp only [St.ev, St.rd, h]
  | _ => rfl
theorem own_congr (h : ∀ i, s'.look i = s.look i) (hb : ∀ id, assoc s'.hp id = assoc s.hp id) : s'.own = s.own := by
  funext l
  cases l with
  | slot i => simp only [St.own, h]
  | cell id off => simp only [St.own, hb]

theorem mem_needs {ops : Array Oper} {o : Oper} {i : Nat} (hx : Operand.tmp i ∈ o.op.operands.toList) : i ∈ needs ops o := by
  unfold needs
  exact List.mem_append_left _ (List.mem_flatMap.mpr ⟨_, hx, by simp [slotOf]⟩)
theorem ev_sub {L : List Nat} {o : Oper} {x : Operand} (hL : ∀ i, Operand.tmp i ∈ o.op.operands.toList → i ∈ L) (hx : x ∈ o.op.operands.toList) (t : TypeId) : (s.sub L).ev t x = s.ev t x := by
  cases x with
  | tmp i => simp only [St.ev, St.rd, look_sub, hL i hx, if_true]
  | _ => rfl

theorem Good.sub (h : Good B N s a w) (L : List Nat) : Good B N (s.sub L) a w :=
  h.weaken (fun i => by rw [look_sub]; by_cases h : i ∈ L <;> simp [h]) (fun id c hc => by rw [hp_sub] at hc; split at hc <;> simp_all)
theorem Rel.sub (h : Rel B cl m s tm w) (L : List Nat) : Rel B cl m (s.sub L) tm w :=
  h.weaken (fun i => by rw [look_sub]; by_cases h : i ∈ L <;> simp [h]) (fun id c hc => by rw [hp_sub] at hc; split at hc <;> simp_all)

theorem refs_same {L : List Nat} (h : ∀ i ∈ L, s'.look i = s.look i) : refs s' L = refs s L := by
  unfold refs
  induction L with
  | nil => rfl
  | cons i r ih =>
    simp only [List.filterMap_cons, h i List.mem_cons_self]
    rw [ih fun j hj => h j (List.mem_cons_of_mem _ hj)]
theorem mem_need {ops : Array Oper} {o : Oper} {i : Nat} (hx : Operand.tmp i ∈ o.op.operands.toList) : i ∈ need s ops o := List.mem_append_left _ (mem_needs hx)
theorem need_same {ops : Array Oper} {o : Oper} (h : ∀ i ∈ needs ops o, s'.look i = s.look i) : need s' ops o = need s ops o := by unfold need; rw [refs_same h]

theorem argsK_mono {own own' : Lc → Option X.U} (hm : ∀ l u, own l = some u → own' l = some u) {tk : List Nat} : ∀ {l : List (AV X.U)} {k : Nat} {r : List (AV X.U) × List (Lc × Bool)}, argsK X own tk k l = some r → argsK X own' tk k l = some r
  | [], k, r, h => by simpa [argsK] using h
  | v :: q, k, r, h => by
    have h1 : ∀ {x : AV X.U × Option Lc}, argK X own (tk.contains k) v = some x → argK X own' (tk.contains k) v = some x := by
      intro x hx
      cases v <;> simp only [argK] at hx ⊢ <;> (try exact hx)
      · split at hx
        · rename_i u hu; rw [hm _ _ hu]; exact hx
        · cases hx
      · split at hx
        · cases hx
        · rename_i ht
          rw [if_neg ht]
          split at hx
          · rename_i u hu; rw [sliceOf_mono hm hu]; exact hx
          · cases hx
    unfold argsK at h
    split at h
    · rename_i a as ls ha hr
      unfold argsK
      rw [h1 ha, argsK_mono hm hr]; exact h
    · rename_i a l as ls ha hr
      unfold argsK
      rw [h1 ha, argsK_mono hm hr]; exact h
    · cases h

/-! Headers. -/
theorem hdr_inv {v v' : AV X.U} (h : hdr X v' = hdr X v) (hn : v.own? = none) : v' = v := by
  have h1 : hdr X v = .av v := by cases v <;> first | rfl | (simp [AV.own?] at hn)
  rw [h1] at h
  cases v' with
  | own u =>
    unfold hdr at h
    simp only at h
    split at h
    · cases h
    · cases h; simp [AV.own?] at hn
  | _ => simpa [hdr] using h
theorem hdr_own {u : X.U} {v' : AV X.U} (h : hdr X v' = hdr X (.own u)) : ∃ u', v' = .own u' := by
  cases v' with
  | own u' => exact ⟨u', rfl⟩
  | _ => unfold hdr at h; simp only at h; split at h <;> cases h
theorem hdr_at {v v' : AV X.U} (h : hdr X v' = hdr X v) : v'.at? = v.at? ∧ v'.reads = v.reads := by
  cases hv : v.own? with
  | none => rw [hdr_inv h hv]; exact ⟨rfl, rfl⟩
  | some u =>
    cases v <;> simp [AV.own?] at hv
    obtain ⟨u', rfl⟩ := hdr_own h
    exact ⟨rfl, rfl⟩
theorem hdr_view {u u' : X.U} {n : Nat} {get : Nat → PV X.U} (h : hdr X (.own u') = hdr X (.own u)) (hu : X.view u = .sl n get) : X.esz u' = X.esz u ∧ ∃ get', X.view u' = .sl n get' := by
  unfold hdr at h
  simp only [hu] at h
  split at h
  · rename_i n' get' hv
    simp only [Cn.ow.injEq] at h
    obtain ⟨rfl, h2⟩ := h
    exact ⟨h2, get', hv⟩
  · cases h

/-- As far as a row's length is looked at, two states are the same. -/
structure SameH (q : Bool) (L : List Nat) (s s' : St X.U) : Prop where
  hd : ∀ i ∈ L, hdr X (s'.look i) = hdr X (s.look i)
  box : q = false → ∀ id ∈ boxesOf s L, assoc s'.hp id = assoc s.hp id
def SameO (D : List Nat) (o : Oper) (L : List Nat) (s s' : St X.U) : Prop := (hdOf D o = true ∧ SameH (ptOf D o) L s s') ∨ (hdOf D o = false ∧ Same L s s')
theorem Same.toH {q : Bool} {L : List Nat} (h : Same L s s') : SameH q L s s' := ⟨fun i hi => by rw [h.look i hi], fun _ => h.box⟩
theorem ptOf_hd {D : List Nat} {o : Oper} (h : hdOf D o = false) : ptOf D o = false := by
  unfold ptOf
  rw [h, Bool.and_false]
theorem hdOf_hd {D : List Nat} {o : Oper} (h : hdOf D o = true) : isHd o = true ∧ ptOf D o = isPt o := by
  refine ⟨?_, by unfold ptOf; rw [h, Bool.and_true]⟩
  unfold hdOf at h
  simp only [Bool.and_eq_true] at h
  exact h.1
theorem SameO.toH {D : List Nat} {o : Oper} {L : List Nat} (h : SameO D o L s s') : SameH (ptOf D o) L s s' := by
  rcases h with ⟨_, h⟩ | ⟨_, h⟩
  · exact h
  · exact h.toH
theorem Same.toO {D : List Nat} {o : Oper} {L : List Nat} (h : Same L s s') : SameO D o L s s' := by
  cases hi : hdOf D o with
  | true => exact .inl ⟨hi, h.toH⟩
  | false => exact .inr ⟨hi, h⟩
theorem boxesOf_hd {L : List Nat} (h : ∀ i ∈ L, hdr X (s'.look i) = hdr X (s.look i)) : boxesOf s' L = boxesOf s L := by
  unfold boxesOf
  rw [List.flatMap_def, List.flatMap_def]
  congr 1
  exact List.map_congr_left fun i hi => (hdr_at (h i hi)).2
theorem refs_hd {L : List Nat} (h : ∀ i ∈ L, hdr X (s'.look i) = hdr X (s.look i)) : refs s' L = refs s L := by
  unfold refs
  induction L with
  | nil => rfl
  | cons i r ih =>
    simp only [List.filterMap_cons, (hdr_at (h i List.mem_cons_self)).1]
    rw [ih fun j hj => h j (List.mem_cons_of_mem _ hj)]

theorem valK_hd {A A' : Acc X} {o : Oper} {K : AV X.U → Option ρ} {r : ρ} (hi : isHd o = true) (hev : ∀ x ∈ o.op.operands.toList, ∀ t, A'.ev t x = A.ev t x) (hown : isPt o = false → ∀ l u, A.own l = some u → ∃ u', A'.own l = some u' ∧ hdr X (.own u') = hdr X (.own u))
    (hbox : isPt o = false → ∀ x ∈ o.op.operands.toList, ∀ t id off, A.ev t x = .ptr id off → A'.box id = A.box id) (h : valK X A o K = some r) : ∃ v, K v = some r ∧ valK X A' o some = some v := by
  unfold isHd at hi
  split at hi
  · rename_i x hop
    have hx := hev x (by rw [hop]; simp [Op.operands]) o.type
    unfold valK at h ⊢
    simp only [hop] at h ⊢
    exact ⟨_, h, by rw [hx]⟩
  · rename_i t a i hop
    have ha := hev a (by rw [hop]; simp [Op.operands]) t
    have hii := hev i (by rw [hop]; simp [Op.operands]) 3
    unfold valK at h ⊢
    simp only [hop, ha, hii] at h ⊢
    split at h
    case h_2 => cases h
    rename_i k n e1
    split at h
    · rename_i u e2
      split at h
      case h_2 => cases h
      rename_i e3
      split at h
      case isFalse => cases h
      rename_i e4
      split at h
      case isFalse => cases h
      rename_i e5
      exact ⟨_, h, by rw [if_pos e4, if_pos e5]⟩
    · rename_i l e2
      split at h
      case h_2 => cases h
      rename_i u e3
      split at h
      case h_2 => cases h
      rename_i len get e4
      split at h
      case isFalse => cases h
      rename_i e5
      split at h
      case isFalse => cases h
      rename_i e6
      obtain ⟨u', f1, f2⟩ := hown (by unfold isPt; rw [hop]) _ _ e3
      obtain ⟨f3, get', f4⟩ := hdr_view f2 e4
      refine ⟨_, h, ?_⟩
      simp only [e1, e2, f1, f4]
      rw [if_pos (by unfold elemOk at e5 ⊢; rw [f3]; exact e5), if_pos e6, f3]
    · rename_i id off e2
      have hb := hbox (by unfold isPt; rw [hop]) a (by rw [hop]; simp [Op.operands]) t id off e2
      split at h
      case h_2 => cases h
      rename_i e3
      split at h
      case h_2 => cases h
      rename_i e4
      split at h
      case isFalse => cases h
      rename_i e5
      simp only [e1, e2, e3, e4, hb]
      rw [if_pos e5]
      split at h
      · exact ⟨_, h, rfl⟩
      · exact ⟨_, h, rfl⟩
    · cases h
  · rename_i x hop
    have hx := hev x (by rw [hop]; simp [Op.operands]) 0
    unfold valK at h ⊢
    simp only [hop, hx] at h ⊢
    split at h
    · exact ⟨_, h, rfl⟩
    · exact ⟨_, h, rfl⟩
    · exact ⟨_, h, rfl⟩
    · cases h
  · rename_i t x f hop
    have hx := hev x (by rw [hop]; simp [Op.operands]) 0
    unfold valK at h ⊢
    simp only [hop, hx] at h ⊢
    split at h
    case h_2 => cases h
    rename_i off e1
    split at h
    case h_2 => cases h
    rename_i e2
    split at h
    · exact ⟨_, h, rfl⟩
    · rename_i v e3
      split at h
      case h_2 => cases h
      rename_i ft e4
      split at h
      case isFalse => cases h
      rename_i e5
      split at h
      case h_2 => cases h
      rename_i p e6
      exact ⟨_, h, by simp only [e4, if_pos e5, e6]⟩
    · cases h
  · cases hi

theorem storeA_mono {t : TypeId} {x : Operand} {id off i sz n : Nat} {c2 : List (AV X.U)} (hev : s'.ev t x = s.ev t x) (hhp : ∀ c, assoc s.hp id = some c → assoc s'.hp id = some c) (h : storeA X s t x id off i sz n = some c2) : storeA X s' t x id off i sz n = some c2 := by
  unfold storeA at h ⊢
  rw [hev]
  split at h
  case h_2 => cases h
  rename_i c hc
  rw [hhp c hc]
  exact h
theorem storeA_box {t : TypeId} {x : Operand} {id off i sz n : Nat} {c2 : List (AV X.U)} (h : storeA X s t x id off i sz n = some c2) : ∃ c, assoc s.hp id = some c := by
  unfold storeA at h
  split at h
  case h_2 => cases h
  rename_i c hc
  exact ⟨c, hc⟩
theorem moveOwn_sound (hX : ∀ u, 0 < X.width u) {N : Nat} {o : Oper} {i : Nat} {u : X.U} (ho : o.op = .move (.tmp i)) (hlu : s.look i = .own u) (hd : dstOk N o (AV.own u) = true) :
    OpOk P N s o (.own u) (s.setSlot i .undef) := by
  intro B a w ⟨cl, m, hR, hN, hD⟩ next Q hnext
  have hown := hR.env i
  rw [hlu] at hown
  refine wp_of_run (c := a.tmps.getD i Go.undef) (w' := w) (by simp [execOp, ho, Act.eval]) (hnext _ _ (Good.put (hR.take hX hlu rfl rfl rfl (Nat.le_refl _) (fun _ _ _ => rfl)) hN hD hd ?_ fun b hb => ?_))
  · exact hown.lv fun l x hl _ => by simp [AV.at?] at hl
  · have hob : Ow m s a.tmps w (.slot i) b := by simp only [Ow, hlu]; exact hb
    refine ⟨fun l hl => ?_, hR.mine _ _ hob⟩
    obtain ⟨h1, h2⟩ := take_ow hX hR hlu (Nat.le_refl _) (fun _ _ _ => rfl) hl
    exact h2 (hR.sep _ _ _ h1 hob)
theorem dK_full (hX : XOK X) (hT : TOK P X) {G : Ans X ρ} {tk : Takes} (hG : GOK P G) {L D : List Nat} {o : Oper} (hL : ∀ i, Operand.tmp i ∈ o.op.operands.toList → i ∈ L) {K : AV X.U → Eff X.U → Option ρ} {r : ρ} (h : dK X G tk D (s.sub L) o K = some r) :
    ∃ v e, K v e = some r ∧ (dOk N D o v = true → ∀ s' : St X.U, Same L s s' → OpOk P N s' o v (s'.eff e)) ∧ (∀ id c, e = .box id c true → o.dst = some id ∧ ((∃ y, o.op = .alloc y) ∨ ∃ y x, o.op = .box y x)) ∧
      (∀ id c, e = .box id c false → ∀ s' : St X.U, Same L s s' → ∃ c0, assoc s'.hp id = some c0) ∧
      (∀ i v', e = .slot i v' → v'.at? = none ∧ ∀ s' : St X.U, Same L s s' → ∃ u, s'.look i = .own u ∧ ∀ u', v' = .own u' → hdr X (.own u') = hdr X (.own u)) := by
  have dd : ∀ {v : AV X.U}, dOk N D o v = true → dstOk N o v = true ∧ v.okAt D = true := fun hd => by
    simp only [dOk, Bool.and_eq_true] at hd; exact hd
  have back : ∀ {s' : St X.U}, Same L s s' → (s'.sub L).ev = (s.sub L).ev ∧ (s'.sub L).own = (s.sub L).own ∧ (assoc (s'.sub L).hp = assoc (s.sub L).hp) :=
    fun hs => ⟨ev_congr hs.sub.1, own_congr hs.sub.1 hs.sub.2, funext hs.sub.2⟩
  have hev : ∀ {s' : St X.U}, Same L s s' → ∀ x ∈ o.op.operands.toList, ∀ t, s'.ev t x = (s.sub L).ev t x := fun {s'} hs x hx t => by
    rw [← ev_sub (s := s') hL hx, (back hs).1]
  have hbx : ∀ {s' : St X.U}, Same L s s' → ∀ id c, assoc (s.sub L).hp id = some c → assoc s'.hp id = some c := fun {s'} hs id c hc => by
    rw [← (back hs).2.2, hp_sub] at hc
    split at hc
    · exact hc
    · cases hc
  have hval : ∀ (hv : valK X ⟨(s.sub L).ev, (s.sub L).own, assoc (s.sub L).hp⟩ o (fun v => if (s.sub L).seen X v then K v .none else none) = some r),
      ∃ v e, K v e = some r ∧ (dOk N D o v = true → ∀ s' : St X.U, Same L s s' → OpOk P N s' o v (s'.eff e)) ∧ (∀ id c, e = .box id c true → o.dst = some id ∧ ((∃ y, o.op = .alloc y) ∨ ∃ y x, o.op = .box y x)) ∧
      (∀ id c, e = .box id c false → ∀ s' : St X.U, Same L s s' → ∃ c0, assoc s'.hp id = some c0) ∧
      (∀ i v', e = .slot i v' → v'.at? = none ∧ ∀ s' : St X.U, Same L s s' → ∃ u, s'.look i = .own u ∧ ∀ u', v' = .own u' → hdr X (.own u') = hdr X (.own u)) := by
    intro hv
    obtain ⟨v, h1, h2, h3⟩ := valK_sound hX hT hv
    simp only at h1
    split at h1
    case isFalse => cases h1
    rename_i hseen
    refine ⟨v, .none, h1, fun hd s' hs => opOk_val (v := v) ?_ h2 (dd hd).1, (fun _ _ h => by cases h), (fun _ _ h => by cases h), fun _ _ h => by cases h⟩
    intro B cl m a w hR
    obtain ⟨c, g1, g2⟩ := h3 B cl m a w (hR.weaken (fun i => by
        rw [look_sub]
        by_cases hi : i ∈ L
        · rw [if_pos hi, hs.look i hi]; exact .inl rfl
        · rw [if_neg hi]; exact .inr rfl) (fun id c hc => hbx hs id c hc))
    refine ⟨c, g1, g2.lv fun l x hl hx => ?_⟩
    unfold St.seen at hseen
    rw [hl] at hseen
    simp only [Option.isSome_iff_exists] at hseen
    obtain ⟨u, hu⟩ := hseen
    rw [lval_of hu]
    obtain ⟨_, rfl⟩ := lval_some hx
    rfl
  have hown : ∀ (ho : ownK X ⟨(s.sub L).ev, (s.sub L).own, assoc (s.sub L).hp⟩ tk o K = some r),
      ∃ v e, K v e = some r ∧ (dOk N D o v = true → ∀ s' : St X.U, Same L s s' → OpOk P N s' o v (s'.eff e)) ∧ (∀ id c, e = .box id c true → o.dst = some id ∧ ((∃ y, o.op = .alloc y) ∨ ∃ y x, o.op = .box y x)) ∧
      (∀ id c, e = .box id c false → ∀ s' : St X.U, Same L s s' → ∃ c0, assoc s'.hp id = some c0) ∧
      (∀ i v', e = .slot i v' → v'.at? = none ∧ ∀ s' : St X.U, Same L s s' → ∃ u, s'.look i = .own u ∧ ∀ u', v' = .own u' → hdr X (.own u') = hdr X (.own u)) := by
    intro ho
    have hmono : ∀ {s' : St X.U}, Same L s s' → ∀ l u, (s.sub L).own l = some u → s'.own l = some u := by
      intro s' hs l u hu
      cases l with
      | slot i =>
        rw [own_slot, look_sub] at hu
        by_cases hi : i ∈ L
        · rw [if_pos hi] at hu; rw [own_slot, hs.look i hi]; exact hu
        · rw [if_neg hi] at hu; cases hu
      | cell id off =>
        obtain ⟨c, h1, h2⟩ := own_cell hu
        simp [St.own, hbx hs id c h1, h2]
    have key : ∀ s' : St X.U, Same L s s' → ∃ v e, K v e = some r ∧ ownK X ⟨s'.ev, s'.own, assoc s'.hp⟩ tk o (fun v e => some (v, e)) = some (v, e) := fun s' hs =>
      ownK_mono (A := ⟨(s.sub L).ev, (s.sub L).own, assoc (s.sub L).hp⟩) (A' := ⟨s'.ev, s'.own, assoc s'.hp⟩) (hev hs) (hmono hs) ho
    obtain ⟨v0, e0, g1, g2⟩ := ownK_mono (A := ⟨(s.sub L).ev, (s.sub L).own, assoc (s.sub L).hp⟩) (A' := ⟨(s.sub L).ev, (s.sub L).own, assoc (s.sub L).hp⟩) (fun _ _ _ => rfl) (fun _ _ h => h) ho
    have at' : ∀ s' : St X.U, Same L s s' → ownK X ⟨s'.ev, s'.own, assoc s'.hp⟩ tk o (fun v e => some (v, e)) = some (v0, e0) := fun s' hs => by
      obtain ⟨v, e, k1, k2⟩ := ownK_mono (A := ⟨(s.sub L).ev, (s.sub L).own, assoc (s.sub L).hp⟩) (A' := ⟨s'.ev, s'.own, assoc s'.hp⟩) (hev hs) (hmono hs) g2
      cases k1; exact k2
    refine ⟨v0, e0, g1, fun hd s' hs => ?_, fun id c he => ?_, fun id c he => ?_, fun i v' he => ⟨?_, fun s' hs => ?_⟩⟩
    · obtain ⟨v, e, k1, _, _, k4⟩ := ownK_sound (N := N) hX hT (at' s' hs)
      cases k1; exact k4 (dd hd).1
    · obtain ⟨v, e, k1, k2, _⟩ := ownK_sound (N := N) hX hT g2
      cases k1; exact absurd he (k2 _ _ _)
    · obtain ⟨v, e, k1, k2, _⟩ := ownK_sound (N := N) hX hT g2
      cases k1; exact absurd he (k2 _ _ _)
    · obtain ⟨v, e, k1, _, k3, _⟩ := ownK_sound (N := N) hX hT g2
      cases k1; exact (k3 _ _ he).2
    · obtain ⟨v, e, k1, _, k3, _⟩ := ownK_sound (N := N) hX hT (at' s' hs)
      cases k1
      obtain ⟨⟨u, hu, hh⟩, _⟩ := k3 _ _ he
      exact ⟨u, own_look hu, hh⟩
  unfold dK at h
  split at h
  · rename_i i hop
    cases hDi : D.contains i with
    | false => rw [hDi, cond_false] at h; exact hval h
    | true =>
      rw [hDi, cond_true] at h
      split at h
      · rename_i u hu
        rw [look_sub] at hu
        have hi : i ∈ L := hL i (by rw [hop]; simp [Op.operands])
        rw [if_pos hi] at hu
        exact ⟨_, _, h, fun hd s' hs => moveOwn_sound hX.wpos hop (by rw [hs.look i hi]; exact hu) (dd hd).1, (fun _ _ he => by cases he), (fun _ _ he => by cases he),
          fun j v' he => by cases he; exact ⟨rfl, fun s' hs => ⟨u, by rw [hs.look i hi]; exact hu, fun _ h => by cases h⟩⟩⟩
      · exact hval h
  · rename_i t n parts hop
    split at h
    · rename_i u hb
      have hmono : ∀ {s' : St X.U}, Same L s s' → ∀ l u, (s.sub L).own l = some u → s'.own l = some u := by
        intro s' hs l u hu
        cases l with
        | slot i =>
          rw [own_slot, look_sub] at hu
          by_cases hi : i ∈ L
          · rw [if_pos hi] at hu; rw [own_slot, hs.look i hi]; exact hu
          · rw [if_neg hi] at hu; cases hu
        | cell id off =>
          obtain ⟨c, h1, h2⟩ := own_cell hu
          simp [St.own, hbx hs id c h1, h2]
      have at' : ∀ s' : St X.U, Same L s s' → birth X tk s' o = some u := fun s' hs => by
        unfold birth at hb ⊢
        split at hb
        case h_2 => cases hb
        rename_i d hop' hdst
        split at hb
        case isFalse => cases hb
        rename_i hc
        split at hb
        case h_2 => cases hb
        rename_i u' hk
        cases hb
        obtain ⟨v, e, k1, k2⟩ := ownK_mono (A := ⟨(s.sub L).ev, (s.sub L).own, assoc (s.sub L).hp⟩) (A' := ⟨s'.ev, s'.own, assoc s'.hp⟩) (hev hs) (hmono hs) hk
        cases k1
        simp only [hc, if_true, k2]
      exact ⟨_, _, h, fun hd s' hs => birth_sound hX hT (at' s' hs) (dd hd).1, (fun _ _ he => by cases he), (fun _ _ he => by cases he), fun _ _ he => by cases he⟩
    · exact hown h
  · rename_i e hop
    split at h
    case h_2 => cases h
    rename_i d z _ hd hz _
    refine ⟨_, _, h, fun hd' s' _ => alloc_sound hX hT hop hd hz (dd hd').1, fun id c he => ?_, (fun _ _ he => by cases he), fun _ _ he => by cases he⟩
    cases he; exact ⟨hd, .inl ⟨_, hop⟩⟩
  · rename_i e x hop
    split at h
    case h_2 => cases h
    rename_i d _ n _ hd _
    split at h
    case isFalse => cases h
    rename_i hp
    simp only [Bool.and_eq_true, Bool.not_eq_true'] at hp
    split at h
    case isFalse => cases h
    have hx : x ∈ o.op.operands.toList := by rw [hop]; simp [Op.operands]
    refine ⟨_, _, h, fun hd' s' hs => ?_, fun id c he => ?_, (fun _ _ he => by cases he), fun _ _ he => by cases he⟩
    · simp only [St.eff]
      rw [← hev hs x hx]
      rw [← hev hs x hx] at hp
      exact box_sound hX hop hd hp.1 hp.2 (dd hd').1
    · cases he; exact ⟨hd, .inr ⟨_, _, hop⟩⟩
  · rename_i t x y hop
    split at h
    case h_2 => exact hown h
    case h_4 => cases h
    case h_3 =>
      rename_i id off i sz _ n _ hev0 hty
      obtain ⟨c2, hsa, h⟩ := storeK_inv h
      have hx : x ∈ o.op.operands.toList := by rw [hop]; simp [Op.operands]
      have hy : y ∈ o.op.operands.toList := by rw [hop]; simp [Op.operands]
      refine ⟨_, _, h, fun hd' s' hs => ?_, (fun id c he => by cases he), (fun id' c' he s' hs => ?_), fun _ _ he => by cases he⟩
      · exact storeA_sound hX hT hop (by rw [hev hs x hx]; exact hev0) hty (storeA_mono (hev hs y hy t) (fun c hc => hbx hs _ _ hc) hsa) (dd hd').1
      · cases he
        obtain ⟨c, hc⟩ := storeA_box hsa
        exact ⟨c, hbx hs _ _ hc⟩
    rename_i id off _ n _ hev0 hty
    split at h
    case h_2 => cases h
    rename_i c hc
    split at h
    case isFalse => cases h
    rename_i hp
    split at h
    case h_2 => cases h
    rename_i c2 hs2
    have hx : x ∈ o.op.operands.toList := by rw [hop]; simp [Op.operands]
    have hy : y ∈ o.op.operands.toList := by rw [hop]; simp [Op.operands]
    refine ⟨_, _, h, fun hd' s' hs => ?_, (fun id c he => by cases he), (fun id' c' he s' hs => ?_), fun _ _ he => by cases he⟩
    · rw [← hev hs x hx] at hev0
      rw [← hev hs y hy] at hp hs2
      exact store_sound hX hT hop hev0 hty (hbx hs _ _ hc) hp hs2 (dd hd').1
    · cases he; exact ⟨c, hbx hs _ _ hc⟩
  · rename_i x args argTypes hop
    split at h
    case h_2 => cases h
    rename_i f first caps hx
    split at h
    case isTrue => cases h
    rename_i hlen
    unfold callXD at h
    split at h
    case h_2 => cases h
    rename_i as0 ls0 hargs0
    have hB : callBD X G (s.sub L) f as0 ls0 K = some r → ∃ v e, K v e = some r ∧ (dOk N D o v = true → ∀ s' : St X.U, Same L s s' → OpOk P N s' o v (s'.eff e)) ∧ (∀ id c, e = .box id c true → o.dst = some id ∧ ((∃ y, o.op = .alloc y) ∨ ∃ y x, o.op = .box y x)) ∧
      (∀ id c, e = .box id c false → ∀ s' : St X.U, Same L s s' → ∃ c0, assoc s'.hp id = some c0) ∧
      (∀ i v', e = .slot i v' → v'.at? = none ∧ ∀ s' : St X.U, Same L s s' → ∃ u, s'.look i = .own u ∧ ∀ u', v' = .own u' → hdr X (.own u') = hdr X (.own u)) := by
      intro h
      unfold callBD at h
      split at h
      case h_2 => cases h
      rename_i id hdd _
      split at h
      case h_2 => cases h
      rename_i as' c hren hc
      split at h
      case isFalse => cases h
      rename_i hcp
      have hxo : x ∈ o.op.operands.toList := by rw [hop]; simp [Op.operands, Call.operands]
      have hao : ∀ y ∈ args.toList, y ∈ o.op.operands.toList := fun y hy => by rw [hop]; simp only [Op.operands, Call.operands, Array.toList_append, List.mem_append]; exact .inr hy
      obtain ⟨hth, v, bx', hK, hcon⟩ := hG f as' [c] _ r h
      split at hK
      case h_2 => cases hK
      rename_i c'
      split at hK
      case isFalse => cases hK
      rename_i hcp'
      have hv12 : ((∃ p, v = .pv p) ∨ ∃ u, v = .own u) ∧ K v (.box id c' false) = some r := by
        split at hK
        · exact ⟨.inl ⟨_, rfl⟩, hK⟩
        · exact ⟨.inr ⟨_, rfl⟩, hK⟩
        · cases hK
      refine ⟨v, _, hv12.2, fun hd s' hs => ?_, (fun _ _ h => by cases h), (fun id' c0 he s' hs => by cases he; exact ⟨c, hbx hs _ _ hc⟩), fun _ _ h => by cases h⟩
      have hmono : ∀ l u, (s.sub L).own l = some u → s'.own l = some u := by
        intro l u hu
        cases l with
        | slot i =>
          rw [own_slot, look_sub] at hu
          by_cases hi : i ∈ L
          · rw [if_pos hi] at hu; rw [own_slot, hs.look i hi]; exact hu
          · rw [if_neg hi] at hu; cases hu
        | cell id off =>
          obtain ⟨c, h1, h2⟩ := own_cell hu
          simp [St.own, hbx hs id c h1, h2]
      classical
      let G0 : Ans X (AV X.U × St X.U) := fun f' args' bx K' => if f' = f ∧ args' = as' ∧ bx = [c] then K' v [c'] else none
      have hG0 : GOK P G0 := by
        intro f' args' bx K' r' h'
        simp only [G0] at h'
        split at h'
        · rename_i he
          obtain ⟨rfl, rfl, rfl⟩ := he
          exact ⟨hth, v, [c'], h', hcon⟩
        · cases h'
      have hxe : s'.ev 0 x = .fn f first caps := by rw [hev hs x hxo]; exact hx
      have hev' : ((args.toList.zip argTypes.toList).map fun p => s'.ev p.2 p.1) = ((args.toList.zip argTypes.toList).map fun p => (s.sub L).ev p.2 p.1) :=
        List.map_congr_left fun p hp => hev hs p.1 (hao p.1 (List.of_mem_zip hp).1) p.2
      have hargs' : argsK X s'.own (tk f) 0 (first.map SV.av ++ ((args.toList.zip argTypes.toList).map (evA X s' false)) ++ caps.map SV.av) = some (as0, []) := by
        rw [evA_false, hev']; exact argsK_mono hmono hargs0
      have hcall : callB X G0 s' f as0 [] (fun v s => some (v, s)) = some (v, s'.setBox id c') := by
        unfold callB
        have hpo : ∀ l : List (AV X.U), l.all AV.isPv = true → l.all AV.isPO = true := fun l hl => List.all_eq_true.2 fun z hz => by
          have := List.all_eq_true.1 hl z hz
          cases z <;> simp [AV.isPv] at this <;> rfl
        have hcp := hpo _ hcp
        have hcp' := hpo _ hcp'
        simp only [List.all_nil, if_true, turnAll, hdd, hren, boxesPv, hbx hs _ _ hc, hcp, G0, and_self, List.all_cons, hcp', Bool.and_self, putB]
        rcases hv12.1 with ⟨p, rfl⟩ | ⟨u, rfl⟩ <;> rfl
      obtain ⟨v2, s2, h3, h4⟩ := callB_sound (N := N) hX hG0 hop hxe (by simpa using hlen) hargs' hcall
      cases h3
      exact h4 (dd hd).1
    by_cases hie : (idsL as0).isEmpty = true
    case neg =>
      rw [Bool.not_eq_true] at hie
      rw [hie, cond_false] at h
      exact hB h
    rw [hie, cond_true] at h
    unfold callD at h
    split at h
    case h_2 => cases h
    rename_i as ls hargs
    split at h
    case isFalse => cases h
    rename_i hids
    -- what G answers
    have hxo : x ∈ o.op.operands.toList := by rw [hop]; simp [Op.operands, Call.operands]
    have hao : ∀ y ∈ args.toList, y ∈ o.op.operands.toList := fun y hy => by rw [hop]; simp only [Op.operands, Call.operands, Array.toList_append, List.mem_append]; exact .inr hy
    simp only [Bool.and_eq_true, List.all_eq_true, Bool.not_eq_true'] at hids
    obtain ⟨hids, hlent⟩ := hids
    obtain ⟨hth, v, bx', hK, hcon⟩ := hG f as [] _ r h
    have hv12 : ((∃ p, v = .pv p) ∨ ∃ u, v = .own u) ∧ (ls.isEmpty || v.flat) = true ∧ K v .none = some r := by
      cases hc : (ls.isEmpty || v.flat) with
      | false => rw [hc, cond_false] at hK; cases hK
      | true =>
        rw [hc, cond_true] at hK
        split at hK
        · exact ⟨.inl ⟨_, rfl⟩, rfl, hK⟩
        · exact ⟨.inr ⟨_, rfl⟩, rfl, hK⟩
        · cases hK
    refine ⟨v, .none, hv12.2.2, fun hd s' hs => ?_, (fun _ _ h => by cases h), (fun _ _ h => by cases h), fun _ _ h => by cases h⟩
    have hmono : ∀ l u, (s.sub L).own l = some u → s'.own l = some u := by
      intro l u hu
      cases l with
      | slot i =>
        rw [own_slot, look_sub] at hu
        by_cases hi : i ∈ L
        · rw [if_pos hi] at hu; rw [own_slot, hs.look i hi]; exact hu
        · rw [if_neg hi] at hu; cases hu
      | cell id off =>
        obtain ⟨c, h1, h2⟩ := own_cell hu
        simp [St.own, hbx hs id c h1, h2]
    have hno : ls.filter (·.2) = [] := List.filter_eq_nil_iff.2 fun p hp => by rw [(hlent p hp).1]; simp
    have hfull : ls.filter (!·.2) = ls := List.filter_eq_self.2 fun p hp => by rw [(hlent p hp).1]; rfl
    have htk : takenOk ls = true := by
      simp only [takenOk, hno, List.length_nil, Bool.and_eq_true, List.all_eq_true, List.all_nil, Bool.or_true, and_true, decide_eq_true_eq]
      exact ⟨by omega, fun p hp => (hlent p hp).2⟩
    have hturn : turnAll X s' ls (!v.flat) = some s' := by
      have h2 := hv12.2.1
      cases hfl : v.flat with
      | true => exact turnAll_false ls s' fun p hp => (hlent p hp).1
      | false =>
        rw [hfl] at h2
        simp only [Bool.or_false, List.isEmpty_iff] at h2
        rw [h2]; rfl
    have hone : takeOne X s' ls = s' := by unfold takeOne; rw [hno]
    -- an answerer that answers just this
    classical
    let G0 : Ans X (AV X.U × St X.U) := fun f' args' bx K' => if f' = f ∧ args' = as ∧ bx = [] then K' v bx' else none
    have hG0 : GOK P G0 := by
      intro f' args' bx K' r' h'
      simp only [G0] at h'
      split at h'
      · rename_i he
        obtain ⟨rfl, rfl, rfl⟩ := he
        exact ⟨hth, v, bx', h', hcon⟩
      · cases h'
    have hxe : s'.ev 0 x = .fn f first caps := by rw [hev hs x hxo]; exact hx
    have hcall : callK X G0 tk s' f (first.map SV.av ++ ((args.toList.zip argTypes.toList).map fun p => s'.ev p.2 p.1) ++ caps.map SV.av) (fun v s => some (v, s)) = some (v, s') := by
      have hev' : ((args.toList.zip argTypes.toList).map fun p => s'.ev p.2 p.1) = ((args.toList.zip argTypes.toList).map fun p => (s.sub L).ev p.2 p.1) :=
        List.map_congr_left fun p hp => hev hs p.1 (hao p.1 (List.of_mem_zip hp).1) p.2
      unfold callK
      rw [hev', argsK_mono hmono hargs]
      simp only [hids, htk, Bool.true_and, if_true, hfull, G0, and_self, hturn, hone]
      rcases hv12.1 with ⟨p, rfl⟩ | ⟨u, rfl⟩ <;> rfl
    rw [← evA_false] at hcall
    obtain ⟨v2, s2, h3, h4⟩ := callK_sound (N := N) hX hG0 hop hxe (by simpa using hlen) hcall
    cases h3
    exact h4 (dd hd).1
  · cases hi : isOwn X o with
    | true => rw [hi, cond_true] at h; exact hown h
    | false => rw [hi, cond_false] at h; exact hval h

theorem dK_sound (hX : XOK X) (hT : TOK P X) {G : Ans X ρ} {tk : Takes} (hG : GOK P G) {L D : List Nat} {o : Oper} (hL : ∀ i, Operand.tmp i ∈ o.op.operands.toList → i ∈ L) {K : AV X.U → Eff X.U → Option ρ} {r : ρ} (h : dK X G tk D (s.sub L) o K = some r) :
    ∃ v e, K v e = some r ∧ (dOk N D o v = true → ∀ s' : St X.U, SameO D o L s s' → OpOk P N s' o v (s'.eff e)) ∧ (∀ id c, e = .box id c true → o.dst = some id ∧ ((∃ y, o.op = .alloc y) ∨ ∃ y x, o.op = .box y x)) ∧
      (∀ id c, e = .box id c false → ∀ s' : St X.U, SameO D o L s s' → ∃ c0, assoc s'.hp id = some c0) ∧
      (∀ i v', e = .slot i v' → v'.at? = none ∧ ∀ s' : St X.U, SameO D o L s s' → ∃ u, s'.look i = .own u ∧ ∀ u', v' = .own u' → hdr X (.own u') = hdr X (.own u)) := by
  cases hIs : hdOf D o with
  | false =>
    have hS : ∀ {s' : St X.U}, SameO D o L s s' → Same L s s' := fun h => by
      rcases h with ⟨h, _⟩ | ⟨_, h⟩
      · rw [hIs] at h; cases h
      · exact h
    obtain ⟨v, e, h1, h2, h3, h4, h5⟩ := dK_full (N := N) (D := D) hX hT hG hL h
    exact ⟨v, e, h1, fun hd s' hs => h2 hd s' (hS hs), h3, fun id c he s' hs => h4 id c he s' (hS hs), fun i v' he => ⟨(h5 i v' he).1, fun s' hs => (h5 i v' he).2 s' (hS hs)⟩⟩
  | true =>
    obtain ⟨hIs', hpt'⟩ := hdOf_hd hIs
    have hv : valK X ⟨(s.sub L).ev, (s.sub L).own, assoc (s.sub L).hp⟩ o (fun v => if (s.sub L).seen X v then K v .none else none) = some r := by
      have hI := hIs'
      unfold isHd at hI
      split at hI
      · rename_i x hop
        have hIo : isOwn X o = false := by unfold isOwn; rw [hop]
        unfold dK at h
        cases x with
        | tmp i =>
          have hDi : D.contains i = false := by
            have := hIs
            unfold hdOf at this
            rw [hop] at this
            simp only [Bool.and_eq_true, Bool.not_eq_true'] at this
            exact this.2
          simp only [hop, hDi, cond_false] at h; exact h
        | _ => simp only [hop, hIo, cond_false] at h; exact h
      · rename_i t a i hop
        have hIo : isOwn X o = false := by unfold isOwn; rw [hop]
        unfold dK at h
        simp only [hop, hIo, cond_false] at h; exact h
      · rename_i x hop
        have hIo : isOwn X o = false := by unfold isOwn; rw [hop]
        unfold dK at h
        simp only [hop, hIo, cond_false] at h; exact h
      · rename_i t x f hop
        have hIo : isOwn X o = false := by unfold isOwn; rw [hop]
        unfold dK at h
        simp only [hop, hIo, cond_false] at h; exact h
      · cases hI
    have hev : ∀ {s' : St X.U}, SameH (ptOf D o) L s s' → ∀ x ∈ o.op.operands.toList, ∀ t, s'.ev t x = (s.sub L).ev t x := fun {s'} hs x hx t => by
      rw [ev_sub hL hx]
      cases x with
      | tmp i =>
        have hh := hs.hd i (hL i hx)
        simp only [St.ev, St.rd]
        cases hi : s.look i with
        | own u => rw [hi] at hh; obtain ⟨u', hu'⟩ := hdr_own hh; rw [hu']
        | _ => rw [hi] at hh; rw [hdr_inv hh rfl]
      | _ => rfl
    have hown : ∀ {s' : St X.U}, SameH (ptOf D o) L s s' → ptOf D o = false → ∀ l u, (s.sub L).own l = some u → ∃ u', s'.own l = some u' ∧ hdr X (.own u') = hdr X (.own u) := fun {s'} hs hpt l u hu => by
      cases l with
      | slot i =>
        rw [own_slot, look_sub] at hu
        by_cases hi : i ∈ L
        · rw [if_pos hi, ← own_slot] at hu
          have hlu := own_look hu
          have hh := hs.hd i hi
          rw [hlu] at hh
          obtain ⟨u', hu'⟩ := hdr_own hh
          rw [hu'] at hh
          exact ⟨u', by rw [own_slot, hu']; rfl, hh⟩
        · rw [if_neg hi] at hu; cases hu
      | cell id off =>
        obtain ⟨c, h1, h2⟩ := own_cell hu
        rw [hp_sub] at h1
        split at h1
        · rename_i hc
          have : assoc s'.hp id = some c := by rw [hs.box hpt id (by simpa using hc)]; exact h1
          exact ⟨u, by simp [St.own, this, h2], rfl⟩
        · cases h1
    have hbox : ∀ {s' : St X.U}, SameH (ptOf D o) L s s' → ptOf D o = false → ∀ x ∈ o.op.operands.toList, ∀ t id off, (s.sub L).ev t x = .ptr id off → assoc s'.hp id = assoc (s.sub L).hp id := fun {s'} hs hpt x hx t id off he => by
      rw [ev_sub hL hx] at he
      cases x with
      | tmp i =>
        have hl : s.look i = .ptr id off := by
          simp only [St.ev, St.rd] at he
          cases hi : s.look i <;> rw [hi] at he <;> simp at he
          rw [he.1, he.2]
        have hm : id ∈ boxesOf s L := List.mem_flatMap.2 ⟨i, hL i hx, by rw [hl]; simp [AV.reads]⟩
        rw [hp_sub, if_pos (by simpa using hm), hs.box hpt id hm]
      | const v => simp only [St.ev, constAV] at he; split at he <;> (try cases he); split at he <;> cases he
      | func f => simp [St.ev] at he
      | global g => simp [St.ev] at he
    have hsub : SameH (ptOf D o) L s (s.sub L) := by
      refine ⟨fun i hi => by rw [look_sub, if_pos hi], fun _ id hid => by rw [hp_sub, if_pos (by simpa using hid)]⟩
    obtain ⟨v, h1, h2⟩ := valK_hd (A' := ⟨(s.sub L).ev, (s.sub L).own, assoc (s.sub L).hp⟩) hIs' (fun _ _ _ => rfl) (fun _ l u h => ⟨u, h, rfl⟩) (fun _ _ _ _ _ _ _ => rfl) hv
    have at' : ∀ s' : St X.U, SameH (ptOf D o) L s s' → valK X ⟨s'.ev, s'.own, assoc s'.hp⟩ o some = some v := fun s' hs => by
      obtain ⟨v', k1, k2⟩ := valK_hd (A' := ⟨s'.ev, s'.own, assoc s'.hp⟩) hIs' (hev hs) (fun hp => hown hs (hpt'.trans hp)) (fun hp => hbox hs (hpt'.trans hp)) h2
      cases k1; exact k2
    split at h1
    case isFalse => cases h1
    refine ⟨v, .none, h1, fun hd s' hs => ?_, (fun _ _ h => by cases h), (fun _ _ h => by cases h), fun _ _ h => by cases h⟩
    obtain ⟨v', k1, k2, k3⟩ := valK_sound hX hT (at' s' hs.toH)
    cases k1
    simp only [dOk, Bool.and_eq_true] at hd
    exact opOk_val k3 k2 hd.1

/-- What stands at a place. -/
def St.get (s : St X.U) : Loc → Cn X.U
  | .slot i => hdr X (s.look i)
  | .cont i => .av (s.look i)
  | .box id => .bx (assoc s.hp id)
def assocL {U : Type} : List (Loc × Cn U) → Loc → Option (Cn U)
  | [], _ => none
  | (j, v) :: r, i => if j = i then some v else assocL r i
theorem assocL_none {U : Type} {l : List (Loc × Cn U)} {i : Loc} : assocL l i = none ↔ i ∉ l.map (·.1) := by
  induction l with
  | nil => simp [assocL]
  | cons p r ih =>
    obtain ⟨j, v⟩ := p
    simp only [assocL, List.map_cons, List.mem_cons, not_or]
    by_cases h : j = i
    · simp [h]
    · have : ¬ i = j := fun e => h e.symm
      simp [h, this, ih]
theorem assocL_mem {U : Type} {l : List (Loc × Cn U)} {i : Loc} {c : Cn U} (h : assocL l i = some c) : (i, c) ∈ l := by
  induction l with
  | nil => cases h
  | cons p r ih =>
    obtain ⟨j, v⟩ := p
    simp only [assocL] at h
    split at h
    · rename_i e; cases h; subst e; simp
    · exact List.mem_cons_of_mem _ (ih h)

/-- What each operation looks at, what it changes. -/
structure Tr (X : Univ) where
  v : Nat → AV X.U
  e : Nat → Eff X.U
  w : Nat → List (Loc × Cn X.U)
  r : Nat → List Loc

/-- The last one that was listed has written what stands there. -/
def Reads (S : St X.U) (t : Tr X) (L : Nat → Prop) (s : St X.U) : Prop :=
  ∀ l, (∀ j c, L j → assocL (t.w j) l = some c → (∀ k, L k → j < k → assocL (t.w k) l = none) → s.get l = c) ∧ ((∀ j, L j → assocL (t.w j) l = none) → s.get l = S.get l)

def edgesOk (ops : Array Oper) (o : Oper) (j : Nat) : Prop := ∃ e ∈ o.after.toList, e.on = j ∧ edgeB e = true
def Closed (ops : Array Oper) (L : Nat → Prop) : Prop := ∀ (k : Nat) (q : Oper), ops[k]? = some q → L k → ∀ e ∈ q.after.toList, edgeB e = true → L e.on
/-- What touches the same place stands in order. -/
def Apart (ops : Array Oper) (t : Tr X) (M : Nat) : Prop :=
  ∀ (j k : Nat) (q : Oper), j < k → k < M → ops[k]? = some q → ∀ l, ((assocL (t.w j) l ≠ none ∧ (l ∈ t.r k ∨ assocL (t.w k) l ≠ none)) ∨ (assocL (t.w k) l ≠ none ∧ l ∈ t.r j)) → edgesOk ops q j

theorem exists_max {p : Nat → Prop} : ∀ (n : Nat), (∃ j, j < n ∧ p j) → ∃ j, j < n ∧ p j ∧ ∀ k, j < k → k < n → ¬ p k
  | 0, ⟨j, h, _⟩ => absurd h (Nat.not_lt_zero j)
  | n + 1, h => by
    by_cases hn : p n
    · exact ⟨n, Nat.lt_succ_self n, hn, fun k h1 h2 => by omega⟩
    · obtain ⟨j, hj, hp⟩ := h
      have : j < n := by
        rcases Nat.lt_or_ge j n with h | h
        · exact h
        · have : j = n := by omega
          exact absurd (this ▸ hp) hn
      obtain ⟨i, h1, h2, h3⟩ := exists_max n ⟨j, this, hp⟩
      refine ⟨i, by omega, h2, fun k h4 h5 => ?_⟩
      by_cases hk : k = n
      · rw [hk]; exact hn
      · exact h3 k h4 (by omega)

theorem Reads.step {ops : Array Oper} {S : St X.U} {t : Tr X} {L : Nat → Prop} (h : Reads S t L s) {M : Nat} (hMs : M ≤ ops.size) (hM : ∀ k, L k → k < M) (hA : Apart ops t M) (hcl : Closed ops L) {j : Nat} (hj : ¬ L j)
    (hup : ∀ l, s'.get l = match assocL (t.w j) l with | some c => c | none => s.get l) : Reads S t (fun k => L k ∨ k = j) s' := by
  intro l
  refine ⟨fun k c hk hw hlast => ?_, fun hno => ?_⟩
  · rw [hup l]
    by_cases hkj : k = j
    · subst hkj; rw [hw]
    · have hk := hk.resolve_right hkj
      cases hwj : assocL (t.w j) l with
      | none => exact (h l).1 k c hk hw fun k' h1 h2 => hlast k' (.inl h1) h2
      | some c' =>
        exfalso
        rcases Nat.lt_trichotomy k j with hlt' | he | hgt
        · have := hlast j (.inr rfl) hlt'; rw [hwj] at this; cases this
        · exact hkj he
        · have hkM := hM k hk
          have hkO : k < ops.size := by omega
          obtain ⟨e, h1, h2, h3⟩ := hA j k ops[k] hgt hkM (by simp [hkO]) l (.inl ⟨by simp [hwj], .inr (by simp [hw])⟩)
          exact hj (h2 ▸ hcl k ops[k] (by simp [hkO]) hk e h1 h3)
  · rw [hup l, hno j (.inr rfl)]
    exact (h l).2 fun k hk => hno k (.inl hk)

/-- Whatever stands listed: what an operation looks at is as it is in the text's order. -/
theorem Reads.same {ops : Array Oper} {S : St X.U} {t : Tr X} {L' : Nat → Prop} {j : Nat} {o : Oper} (ho : ops[j]? = some o) (h : Reads S t (· < j) s) (h' : Reads S t L' s') (hM : ∀ k, L' k → k < ops.size) (hA : Apart ops t ops.size)
    (hcl : Closed ops L') (hdep : ∀ e ∈ o.after.toList, edgeB e = true → L' e.on) (hj : ¬ L' j) : ∀ l ∈ t.r j, s'.get l = s.get l := by
  intro l hl
  have hjlt := (Array.getElem?_eq_some_iff.1 ho).1
  have hin : ∀ k, k < j → assocL (t.w k) l ≠ none → L' k := fun k hk hw => by
    obtain ⟨e, h1, h2, h3⟩ := hA k j o hk hjlt ho l (.inl ⟨hw, .inl hl⟩)
    exact h2 ▸ hdep e h1 h3
  have hout : ∀ k, L' k → assocL (t.w k) l ≠ none → k < j := fun k hk hw => by
    rcases Nat.lt_trichotomy k j with hlt | he | hgt
    · exact hlt
    · exact absurd (he ▸ hk) hj
    · exfalso
      have hkM := hM k hk
      obtain ⟨e, h1, h2, h3⟩ := hA j k ops[k] hgt hkM (by simp [hkM]) l (.inr ⟨hw, hl⟩)
      exact hj (h2 ▸ hcl k ops[k] (by simp [hkM]) hk e h1 h3)
  by_cases hx : ∃ k, k < j ∧ assocL (t.w k) l ≠ none
  · obtain ⟨k, h1, h2, h3⟩ := exists_max j hx
    cases hw : assocL (t.w k) l with
    | none => exact absurd hw h2
    | some c =>
      rw [(h l).1 k c h1 hw fun k' h4 h5 => by
        by_cases hn : assocL (t.w k') l = none
        · exact hn
        · exact absurd hn (h3 k' h5 h4)]
      exact (h' l).1 k c (hin k h1 h2) hw fun k' h4 h5 => by
        by_cases hn : assocL (t.w k') l = none
        · exact hn
        · exact absurd hn (h3 k' h5 (hout k' h4 hn))
  · have hnone : ∀ k, k < j → assocL (t.w k) l = none := fun k hk => by
      by_cases hn : assocL (t.w k) l = none
      · exact hn
      · exact absurd ⟨k, hk, hn⟩ hx
    rw [(h l).2 hnone]
    exact (h' l).2 fun k hk => by
      by_cases hn : assocL (t.w k) l = none
      · exact hn
      · exact absurd (hnone k (hout k hk hn)) hn

theorem Reads.unique {S : St X.U} {t : Tr X} {L L' : Nat → Prop} {M : Nat} (h : Reads S t L s) (h' : Reads S t L' s') (hL : ∀ k, L k ↔ L' k) (hM : ∀ k, L k → k < M) (l : Loc) : s.get l = s'.get l := by
  by_cases hx : ∃ k, k < M ∧ (L k ∧ assocL (t.w k) l ≠ none)
  · obtain ⟨k, h1, ⟨h2, h3⟩, h4⟩ := exists_max M hx
    cases hw : assocL (t.w k) l with
    | none => exact absurd hw h3
    | some c =>
      have later : ∀ k', L k' → k < k' → assocL (t.w k') l = none := fun k' h5 h6 => by
        by_cases hn : assocL (t.w k') l = none
        · exact hn
        · exact absurd ⟨h5, hn⟩ (h4 k' h6 (hM k' h5))
      rw [(h l).1 k c h2 hw later, (h' l).1 k c ((hL k).1 h2) hw fun k' h5 h6 => later k' ((hL k').2 h5) h6]
  · have hnone : ∀ k, L k → assocL (t.w k) l = none := fun k hk => by
      by_cases hn : assocL (t.w k) l = none
      · exact hn
      · exact absurd ⟨k, hM k hk, hk, hn⟩ hx
    rw [(h l).2 hnone, (h' l).2 fun k hk => hnone k ((hL k).2 hk)]

/-- A property of all that stands anywhere. -/
theorem Reads.all {S : St X.U} {t : Tr X} {L : Nat → Prop} {M : Nat} (h : Reads S t L s) (hM : ∀ k, L k → k < M) {p : Loc → Cn X.U → Prop} (hS : ∀ l, p l (S.get l)) (hw : ∀ j, L j → ∀ l c, (l, c) ∈ t.w j → p l c) (l : Loc) : p l (s.get l) := by
  by_cases hx : ∃ k, k < M ∧ (L k ∧ assocL (t.w k) l ≠ none)
  · obtain ⟨k, h1, ⟨h2, h3⟩, h4⟩ := exists_max M hx
    cases hc : assocL (t.w k) l with
    | none => exact absurd hc h3
    | some c =>
      rw [(h l).1 k c h2 hc fun k' h5 h6 => by
        by_cases hn : assocL (t.w k') l = none
        · exact hn
        · exact absurd ⟨h5, hn⟩ (h4 k' h6 (hM k' h5))]
      exact hw k h2 l c (assocL_mem hc)
  · rw [(h l).2 fun k hk => by
      by_cases hn : assocL (t.w k) l = none
      · exact hn
      · exact absurd ⟨k, hM k hk, hk, hn⟩ hx]
    exact hS l

/-! One step's state. -/
def cnAt {U : Type} (D : List Nat) : Loc → Cn U → Prop
  | _, .av v => v.okAt D = true
  | _, .ow _ _ => True
  | _, .bx _ => True
theorem okAt_none {D : List Nat} {v : AV X.U} (h : v.at? = none) : v.okAt D = true := by unfold AV.okAt; rw [h]
theorem at_of_slot {v : AV X.U} {d : Nat} (h : v.atSlot d = true) : v.at? = some (.slot d) := by
  cases v with
  | bor l => cases l with
    | slot j => simp only [AV.atSlot, beq_iff_eq] at h; subst h; rfl
    | cell a b => simp [AV.atSlot] at h
  | sub l lo hi sz => cases l with
    | slot j => simp only [AV.atSlot, beq_iff_eq] at h; subst h; rfl
    | cell a b => simp [AV.atSlot] at h
  | eptr l i sz => cases l with
    | slot j => simp only [AV.atSlot, beq_iff_eq] at h; subst h; rfl
    | cell a b => simp [AV.atSlot] at h
  | _ => simp [AV.atSlot] at h
theorem at_of_cell {v : AV X.U} {d : Nat} (h : v.atCell d = true) : ∃ o, v.at? = some (.cell d o) := by
  cases v with
  | bor l => cases l with
    | cell a b => simp only [AV.atCell, beq_iff_eq] at h; subst h; exact ⟨_, rfl⟩
    | slot j => simp [AV.atCell] at h
  | sub l lo hi sz => cases l with
    | cell a b => simp only [AV.atCell, beq_iff_eq] at h; subst h; exact ⟨_, rfl⟩
    | slot j => simp [AV.atCell] at h
  | eptr l i sz => cases l with
    | cell a b => simp only [AV.atCell, beq_iff_eq] at h; subst h; exact ⟨_, rfl⟩
    | slot j => simp [AV.atCell] at h
  | _ => simp [AV.atCell] at h
theorem atSlot_of_at {D : List Nat} {v : AV X.U} (h : v.okAt D = true) {d : Nat} (hd : d ∈ D) : v.atSlot d = false := by
  cases hs : v.atSlot d with
  | false => rfl
  | true => unfold AV.okAt at h; rw [at_of_slot hs] at h; simp [hd] at h
theorem atCell_of_at {D : List Nat} {v : AV X.U} (h : v.okAt D = true) (d : Nat) : v.atCell d = false := by
  cases hs : v.atCell d with
  | false => rfl
  | true => obtain ⟨o, ho⟩ := at_of_cell hs; unfold AV.okAt at h; rw [ho] at h; simp at h

theorem killBoxC_free {d : Nat} : ∀ {c : List (AV X.U)}, (∀ v ∈ c, v.men d = false) → killBoxC d c = c
  | [], _ => rfl
  | v :: r, h => by
    simp only [killBoxC, h v (by simp), Bool.false_eq_true, if_false]
    rw [killBoxC_free fun v hv => h v (List.mem_cons_of_mem _ hv)]

theorem hdr_some {v : AV X.U} (h : v.own? = none) : hdr X v = .av v := by cases v <;> first | rfl | (simp [AV.own?] at h)
theorem cnAt_hdr {D : List Nat} {l : Loc} {v : AV X.U} (h : v.okAt D = true) : cnAt D l (hdr X v) := by
  cases v with
  | own u => simp only [hdr]; split <;> exact (by first | trivial | rfl)
  | _ => exact h
theorem cnFree_hdr {d : Nat} {l : Loc} {v : AV X.U} (h : v.men d = false) : cnFree d l (hdr X v) = true := by
  cases v with
  | own u => simp only [hdr]; split <;> rfl
  | _ => simp only [hdr, cnFree]; simp [h]
theorem get_step {D : List Nat} (hat : ∀ l, cnAt D l (s.get l)) {o : Oper} (hdst : ∀ d, o.dst = some d → d ∈ D) {v : AV X.U} {e : Eff X.U} (hnew : ∀ id c, e = .box id c true → ∀ l, cnFree id l (s.get l) = true) (hold : ∀ id c, e = .box id c false → ∃ c0, assoc s.hp id = some c0)
    (hslot : ∀ i v', e = .slot i v' → v'.at? = none ∧ ∃ u, s.look i = .own u ∧ ∀ u', v' = .own u' → hdr X (.own u') = hdr X (.own u)) (l : Loc) :
    ((s.eff e).put o.dst v).get l = match assocL (dstW X o v e) l with | some c => c | none => s.get l := by
  have hatL : ∀ i, (s.look i).okAt D = true := fun i => by have := hat (.cont i); simpa only [cnAt, St.get] using this
  have hlook : ∀ i, (s.eff e).look i = match e with | .slot j v' => if i = j then v' else s.look i | _ => s.look i := by
    intro i
    cases e with
    | none => rfl
    | slot j v' => obtain ⟨_, u, hu, _⟩ := hslot j v' rfl; exact look_setSlot hu v' i
    | box id c new =>
      cases new with
      | true =>
        simp only [St.eff, look_addBox]
        have := hnew id c rfl (.cont i)
        simp only [cnFree, St.get, Bool.not_eq_true'] at this
        simp [this]
      | false =>
        simp only [St.eff, look_setBox]
        simp [atCell_of_at (hatL i)]
  have hbox : ∀ id', assoc (s.eff e).hp id' = match e with | .box id c _ => if id' = id then some c else assoc s.hp id' | _ => assoc s.hp id' := by
    intro id'
    cases e with
    | none => rfl
    | slot j v' => rfl
    | box id c new =>
      cases new with
      | true =>
        simp only [St.eff, assoc_addBox]
        by_cases hi : id' = id
        · simp [hi]
        · simp only [hi, if_false]
          have := hnew id c rfl (.box id')
          simp only [St.get] at this
          cases ha : assoc s.hp id' with
          | none => rfl
          | some c0 =>
            rw [ha] at this
            simp only [cnFree, Bool.and_eq_true, List.all_eq_true, Bool.not_eq_true'] at this
            simp [killBoxC_free this.2]
      | false =>
        simp only [St.eff, St.setBox, assoc_assocSet]
        by_cases hi : id' = id
        · obtain ⟨c0, hc0⟩ := hold id c rfl
          simp [hi, hc0]
        · simp [hi]
  have hput : ∀ i d, o.dst = some d → i ≠ d → (if ((s.eff e).look i).atSlot d then AV.undef else (s.eff e).look i) = (s.eff e).look i := fun i d hd hid => by
    have hdD := hdst d hd
    have hok : ((s.eff e).look i).atSlot d = false := by
      rw [hlook]
      cases e with
      | slot j v' =>
        by_cases hij : i = j
        · simp only [hij, if_true]
          have := (hslot j v' rfl).1
          cases v' <;> simp_all [AV.atSlot, AV.at?]
        · simp only [hij, if_false]; exact atSlot_of_at (hatL i) hdD
      | none => exact atSlot_of_at (hatL i) hdD
      | box _ _ _ => exact atSlot_of_at (hatL i) hdD
    simp [hok]
  have hfin : ∀ i, ((s.eff e).put o.dst v).look i = if o.dst = some i then v else (s.eff e).look i := fun i => by
    cases hd : o.dst with
    | none => simp [St.put]
    | some d =>
      rw [look_put]
      by_cases hi : i = d
      · simp [hi]
      · have : ¬ d = i := fun e => hi e.symm
        rw [if_neg hi, hput i d hd hi]; simp [this]
  have hdW : ∀ l, assocL (dstW X o v e) l = match o.dst with | some d => if l = .slot d then some (hdr X v) else if l = .cont d then some (.av v) else assocL e.W l | none => assocL e.W l := fun l => by
    unfold dstW
    cases o.dst with
    | none => simp
    | some d =>
      simp only [List.cons_append, List.nil_append, assocL]
      by_cases h1 : Loc.slot d = l
      · subst h1; simp
      · have h1' : ¬ l = .slot d := fun e => h1 e.symm
        simp only [h1, if_false, h1']
        by_cases h2 : Loc.cont d = l
        · subst h2; simp
        · have h2' : ¬ l = .cont d := fun e => h2 e.symm
          simp only [h2, if_false, h2']
  rw [hdW]
  cases l with
  | slot i =>
    have hg : ((s.eff e).put o.dst v).get (.slot i) = hdr X (((s.eff e).put o.dst v).look i) := rfl
    rw [hg, hfin]
    have hrest : (match assocL e.W (.slot i) with | some c => c | none => s.get (.slot i)) = hdr X ((s.eff e).look i) := by
      rw [hlook]
      cases e with
      | none => rfl
      | box _ _ _ => simp [Eff.W, assocL, St.get]
      | slot j v' =>
        obtain ⟨_, u, hu, hh⟩ := hslot j v' rfl
        by_cases hij : i = j
        · subst hij
          cases v' with
          | own u' => simp only [Eff.W, assocL, reduceCtorEq, if_false, if_true, St.get]; rw [hu, hh u' rfl]
          | _ => simp [Eff.W, assocL, hdr]
        · have hji : ¬ j = i := fun e => hij e.symm
          cases v' <;> simp [Eff.W, assocL, hij, hji, St.get]
    cases hd : o.dst with
    | none => simp only [reduceCtorEq, if_false]; exact hrest.symm
    | some d =>
      by_cases hi : i = d
      · subst hi; simp
      · have : ¬ d = i := fun e => hi e.symm
        simp only [Option.some.injEq, this, if_false, Loc.slot.injEq, hi, reduceCtorEq]; exact hrest.symm
  | cont i =>
    have hg : ((s.eff e).put o.dst v).get (.cont i) = .av (((s.eff e).put o.dst v).look i) := rfl
    rw [hg, hfin]
    have hrest : (match assocL e.W (.cont i) with | some c => c | none => s.get (.cont i)) = .av ((s.eff e).look i) := by
      rw [hlook]
      cases e with
      | none => rfl
      | box _ _ _ => simp [Eff.W, assocL, St.get]
      | slot j v' =>
        by_cases hij : i = j
        · subst hij
          cases v' <;> simp [Eff.W, assocL]
        · have hji : ¬ j = i := fun e => hij e.symm
          cases v' <;> simp [Eff.W, assocL, hij, hji, St.get]
    cases hd : o.dst with
    | none => simp only [reduceCtorEq, if_false]; exact hrest.symm
    | some d =>
      by_cases hi : i = d
      · subst hi; simp
      · have : ¬ d = i := fun e => hi e.symm
        simp only [Option.some.injEq, this, if_false, Loc.cont.injEq, hi, reduceCtorEq]; exact hrest.symm
  | box id' =>
    have hg : ((s.eff e).put o.dst v).get (.box id') = .bx (assoc (s.eff e).hp id') := by simp only [St.get, put_hp]
    rw [hg]
    have hrest : (match assocL e.W (.box id') with | some c => c | none => s.get (.box id')) = .bx (assoc (s.eff e).hp id') := by
      rw [hbox]
      cases e with
      | none => rfl
      | slot j v' => cases v' <;> simp [Eff.W, assocL, St.get]
      | box id c new =>
        by_cases hi : id' = id
        · subst hi; simp [Eff.W, assocL]
        · have hne : ¬ id = id' := fun e => hi e.symm
          simp [Eff.W, assocL, hi, hne, St.get]
    cases hd : o.dst with
    | none => exact hrest.symm
    | some d => simp only [reduceCtorEq, if_false]; exact hrest.symm

theorem Reads.congr {S : St X.U} {t t' : Tr X} {L : Nat → Prop} (h : Reads S t L s) (ht : ∀ j, L j → t'.w j = t.w j) : Reads S t' L s := by
  intro l
  refine ⟨fun j c hj hw hl => (h l).1 j c hj (by rw [← ht j hj]; exact hw) fun k h1 h2 => by rw [← ht k h1]; exact hl k h1 h2, fun hn => (h l).2 fun j hj => by rw [← ht j hj]; exact hn j hj⟩
theorem Reads.ofGet {S : St X.U} {t : Tr X} {L : Nat → Prop} (h : Reads S t L s) (hg : ∀ l, s'.get l = s.get l) : Reads S t L s' := by
  intro l
  rw [hg l]; exact h l
theorem Reads.iff {S : St X.U} {t : Tr X} {L L' : Nat → Prop} (h : Reads S t L s) (hL : ∀ k, L k ↔ L' k) : Reads S t L' s := by
  intro l
  refine ⟨fun j c hj hw hl => (h l).1 j c ((hL j).2 hj) hw fun k h1 h2 => hl k ((hL k).1 h1) h2, fun hn => (h l).2 fun j hj => hn j ((hL j).1 hj)⟩

/-- One operation of a region, carried out or passed over. -/
def DStep (P : Program) (N : Nat) (ops : Array Oper) (s : St X.U) (o : Oper) (v : AV X.U) (e : Eff X.U) : Prop :=
  ∀ (B : Base) (a : Act) (w : World), Good B N s a w → ∀ (next : Act → World → Prop) (Q : Exit → Act → World → Prop), (∀ a' w', Good B N ((s.eff e).put o.dst v) a' w' → next a' w') →
    if Region.wanted o (yielded ops a.tmps) then o.wp P a w next Q else next (a.put o.dst Go.undef) w

structure Fact (P : Program) (N : Nat) (ops : Array Oper) (S : St X.U) (t : Tr X) (j : Nat) (o : Oper) : Prop where
  at' : ∀ l c, (l, c) ∈ t.w j → cnAt (dsts ops) l c
  men : ∀ p ∈ allocs ops, p.1 = j ∨ edgesOk ops o p.1 ∨ ∀ l c, (l, c) ∈ t.w j → cnFree p.2 l c = true
  apart : ∀ i, i < j → ∀ l, ((assocL (t.w i) l ≠ none ∧ (l ∈ t.r j ∨ assocL (t.w j) l ≠ none)) ∨ (assocL (t.w j) l ≠ none ∧ l ∈ t.r i)) → edgesOk ops o i
  wr : t.w j = dstW X o (t.v j) (t.e j)
  new : ∀ id c, t.e j = .box id c true → (j, id) ∈ allocs ops
  step : ∃ sj : St X.U, Reads S t (· < j) sj ∧ t.r j = rdOf X sj ops o ∧ ∀ s' : St X.U, SameO (dsts ops) o (need sj ops o) sj s' → (∀ id c, t.e j = .box id c false → ∃ c0, assoc s'.hp id = some c0) ∧ (∀ i v', t.e j = .slot i v' → v'.at? = none ∧ ∃ u, s'.look i = .own u ∧ ∀ u', v' = .own u' → hdr X (.own u') = hdr X (.own u)) ∧ DStep P N ops s' o (t.v j) (t.e j)

theorem Fact.congr {ops : Array Oper} {S : St X.U} {t t' : Tr X} {j : Nat} {o : Oper} (h : Fact P N ops S t j o) (hv : t'.v j = t.v j) (he : t'.e j = t.e j) (hw : ∀ i, i ≤ j → t'.w i = t.w i) (hr : ∀ i, i ≤ j → t'.r i = t.r i) : Fact P N ops S t' j o := by
  obtain ⟨h1, h2, h3, h4, h5, sj, h6, h7, h8⟩ := h
  refine ⟨by rw [hw j (Nat.le_refl j)]; exact h1, by rw [hw j (Nat.le_refl j)]; exact h2, fun i hi l => ?_, by rw [hw j (Nat.le_refl j), hv, he]; exact h4, by rw [he]; exact h5, sj, h6.congr fun i hi => hw i (Nat.le_of_lt hi), by rw [hr j (Nat.le_refl j)]; exact h7, by rw [hv, he]; exact h8⟩
  rw [hw j (Nat.le_refl j), hw i (Nat.le_of_lt hi), hr j (Nat.le_refl j), hr i (Nat.le_of_lt hi)]; exact h3 i hi l

theorem mem_zipI {α : Type} : ∀ {l : List α} {k j : Nat} {x : α}, l[j]? = some x → (k + j, x) ∈ zipI k l
  | [], _, _, _, h => by simp at h
  | y :: r, k, 0, x, h => by simp at h; subst h; simp [zipI]
  | y :: r, k, j + 1, x, h => by
    simp only [List.getElem?_cons_succ] at h
    have := mem_zipI (k := k + 1) h
    simp only [zipI, List.mem_cons]
    right
    have e : k + 1 + j = k + (j + 1) := by omega
    rw [e] at this; exact this
theorem mem_zip_ops {ops : Array Oper} {j : Nat} {o : Oper} (ho : ops[j]? = some o) : (j, o) ∈ zipI 0 ops.toList := by
  have := mem_zipI (k := 0) (l := ops.toList) (j := j) (x := o) (by simpa using ho)
  simpa using this
theorem alloc_mem {ops : Array Oper} {j : Nat} {o : Oper} {d : Nat} (ho : ops[j]? = some o) (hd : o.dst = some d) (h : (∃ y, o.op = .alloc y) ∨ ∃ y x, o.op = .box y x) : (j, d) ∈ allocs ops := by
  unfold allocs
  rw [List.mem_filterMap]
  refine ⟨(j, o), mem_zip_ops ho, ?_⟩
  rcases h with ⟨y, h⟩ | ⟨y, x, h⟩ <;> simp [h, hd]

def EdgeDown (ops : Array Oper) : Prop := ∀ (j : Nat) (o : Oper), ops[j]? = some o → ∀ e ∈ o.after.toList, edgeB e = true → e.on < j
theorem freeOf_spec {ops : Array Oper} (h : freeOf ops = true) : EdgeDown ops := by
  intro j o ho e he hb
  simp only [freeOf, List.all_eq_true] at h
  have := h _ (mem_zip_ops ho) e he
  simp only [edgeOk, hb, Bool.not_true, Bool.false_or, decide_eq_true_eq] at this
  exact this

theorem dst_mem {ops : Array Oper} {j : Nat} {o : Oper} (ho : ops[j]? = some o) (d : Nat) (hd : o.dst = some d) : d ∈ dsts ops := by
  unfold dsts
  rw [List.mem_filterMap]
  exact ⟨o, by rw [← Array.getElem?_toList] at ho; exact List.mem_of_getElem? ho, hd⟩
theorem depends_iff {ops : Array Oper} {o : Oper} {j : Nat} : dependsOn o j = true ↔ edgesOk ops o j := by
  simp only [dependsOn, List.any_eq_true, Bool.and_eq_true, beq_iff_eq, edgesOk]

theorem okD_spec {ops : Array Oper} {k : Nat} {o : Oper} {rd : List Loc} {w : List (Loc × Cn X.U)} {past : Past} (h : okD X ops k o rd w past = true) :
    (∀ j r W, (j, r, W) ∈ past → ∀ l, ((l ∈ W ∧ (l ∈ rd ∨ assocL w l ≠ none)) ∨ (assocL w l ≠ none ∧ l ∈ r)) → edgesOk ops o j) ∧ ∀ p ∈ allocs ops, p.1 = k ∨ edgesOk ops o p.1 ∨ ∀ l c, (l, c) ∈ w → cnFree p.2 l c = true := by
  simp only [okD, Bool.and_eq_true, List.all_eq_true, Bool.or_eq_true] at h
  obtain ⟨h1, h2⟩ := h
  refine ⟨fun j r W hm l hl => ?_, fun p hp => ?_⟩
  · have hnn : ∀ l, assocL w l ≠ none → l ∈ w.map (·.1) := fun l hl => by
      by_cases hq : l ∈ w.map (·.1)
      · exact hq
      · exact absurd (assocL_none.2 hq) hl
    rcases h1 _ hm with h | ⟨ha, hb⟩
    · exact depends_iff.1 h
    · exfalso
      rcases hl with ⟨g1, g2⟩ | ⟨g1, g2⟩
      · have := ha l g1
        simp only [Bool.and_eq_true, Bool.not_eq_true', List.contains_eq_mem, decide_eq_false_iff_not] at this
        rcases g2 with g2 | g2
        · exact this.1 g2
        · exact this.2 (hnn l g2)
      · have := hb l g2
        simp only [Bool.not_eq_true', List.contains_eq_mem, decide_eq_false_iff_not] at this
        exact this (hnn l g1)
  · rcases h2 p hp with (h | h) | h
    · exact .inl (by simpa using h)
    · exact .inr (.inl (depends_iff.1 h))
    · exact .inr (.inr fun l c hm => h (l, c) hm)

theorem look_guard {ops : Array Oper} {o : Oper} {j : Nat} {want : Bool} {d : Nat} (hg : o.guard = some (j, want)) (hd : guardSlot ops j = some d) : d ∈ need s ops o := by
  refine List.mem_append_left _ ?_
  unfold needs
  rw [hg]
  exact List.mem_append_right _ (by simp [hd])

theorem get_lit {d : Nat} {b : Bool} (h : s.look d = .pv (.bool b)) (l : Loc) : (s.lit d b).get l = s.get l := by
  cases l with
  | slot i => simp only [St.get, look_lit h]
  | cont i => simp only [St.get, look_lit h]
  | box id => rfl
theorem Same.lit {L : List Nat} {d : Nat} {b : Bool} (h : s.look d = .pv (.bool b)) (hs : Same L s s') : Same L (s.lit d b) s' := by
  have hl := look_lit h
  refine ⟨fun i hi => by rw [hl]; exact hs.look i hi, fun id hid => hs.box id ?_⟩
  rw [boxesOf_same (s := s) (fun i _ => hl i)] at hid; exact hid
theorem rdOf_congr {ops : Array Oper} {o : Oper} (h : ∀ i, s'.look i = s.look i) : rdOf X s' ops o = rdOf X s ops o := by
  unfold rdOf
  rw [need_same fun i _ => h i, boxesOf_same fun i _ => h i]
theorem SameO.of_get {ops : Array Oper} {o : Oper} (h : ∀ l ∈ rdOf X s ops o, s'.get l = s.get l) : SameO (dsts ops) o (need s ops o) s s' := by
  have hb : ptOf (dsts ops) o = false → ∀ id ∈ boxesOf s (need s ops o), assoc s'.hp id = assoc s.hp id := fun hpt id hid => by
    have := h (.box id) (List.mem_append_right _ (List.mem_append_right _ (by rw [hpt, cond_false]; exact List.mem_map.2 ⟨id, hid, rfl⟩)))
    simpa [St.get] using this
  cases hi : hdOf (dsts ops) o with
  | true => exact .inl ⟨hi, fun i hi' => by have := h (.slot i) (List.mem_append_left _ (List.mem_map.2 ⟨i, hi', rfl⟩)); simpa [St.get] using this, hb⟩
  | false =>
    refine .inr ⟨hi, fun i hi' => ?_, hb (ptOf_hd hi)⟩
    have := h (.cont i) (List.mem_append_right _ (List.mem_append_left _ (by rw [hi, cond_false]; exact List.mem_map.2 ⟨i, hi', rfl⟩)))
    simpa [St.get] using this
theorem SameO.lit {D : List Nat} {o : Oper} {L : List Nat} {d : Nat} {b : Bool} (h : s.look d = .pv (.bool b)) (hs : SameO D o L s s') : SameO D o L (s.lit d b) s' := by
  have hl := look_lit h
  rcases hs with ⟨h1, h2⟩ | ⟨h1, h2⟩
  · refine .inl ⟨h1, fun i hi => by rw [hl]; exact h2.hd i hi, fun hpt id hid => h2.box hpt id ?_⟩
    rw [boxesOf_same (s := s) (fun i _ => hl i)] at hid; exact hid
  · exact .inr ⟨h1, h2.lit h⟩
theorem SameO.bool {D : List Nat} {o : Oper} {L : List Nat} (hs : SameO D o L s s') {d : Nat} (hd : d ∈ L) {v : AV X.U} (hn : v.own? = none) (h : s.look d = v) : s'.look d = v := by
  have := hs.toH.hd d hd
  rw [h] at this
  exact hdr_inv this hn

/-- The text's order: what each operation does, and that it does so wherever what it looks at is the same. -/
theorem runD_trace (hX : XOK X) (hT : TOK P X) {G : Ans X ρ} {tk : Takes} (hG : GOK P G) {ops : Array Oper} (hf : EdgeDown ops) {S : St X.U} (hS : ∀ l, cnAt (dsts ops) l (S.get l)) (hA : ∀ p ∈ allocs ops, ∀ l, cnFree p.2 l (S.get l) = true) {K : St X.U → Option ρ} {r : ρ} :
    ∀ (rest pre : List Oper) (past : Past) (t0 : Tr X) (s : St X.U), ops.toList = pre ++ rest → (∀ j, j < pre.length → (j, t0.r j, (t0.w j).map (·.1)) ∈ past) → (∀ (j : Nat) (o : Oper), j < pre.length → ops[j]? = some o → Fact P N ops S t0 j o) →
      Reads S t0 (· < pre.length) s → runD X G tk N ops pre.length past rest s K = some r →
      ∃ (t : Tr X) (sf : St X.U), K sf = some r ∧ Reads S t (· < ops.size) sf ∧ ∀ (j : Nat) (o : Oper), ops[j]? = some o → Fact P N ops S t j o
  | [], pre, past, t0, s, hops, hp, hF, hr, h => by
    have hsz : ops.size = pre.length := by rw [← Array.length_toList, hops]; simp
    refine ⟨t0, s, h, by rw [hsz]; exact hr, fun j o ho => hF j o ?_ ho⟩
    have := (Array.getElem?_eq_some_iff.1 ho).1
    omega
  | o :: rest, pre, past, t0, s, hops, hp, hF, hr, h => by
    have hget : ops[pre.length]? = some o := by
      rw [← Array.getElem?_toList, hops, List.getElem?_append_right (Nat.le_refl _)]; simp
    have hplt := (Array.getElem?_eq_some_iff.1 hget).1
    have hgetj : ∀ k, k < pre.length → ∃ q, ops[k]? = some q := fun k hk => ⟨ops[k]'(by omega), by simp [show k < ops.size by omega]⟩
    have hatS : ∀ l, cnAt (dsts ops) l (s.get l) := hr.all (M := pre.length) (fun _ h => h) (p := cnAt (dsts ops)) hS fun j hj l c hm => by
      obtain ⟨q, hq⟩ := hgetj j hj
      exact (hF j q hj hq).at' l c hm
    have hmenS : ∀ d, (pre.length, d) ∈ allocs ops → ∀ l, cnFree d l (s.get l) = true := fun d hd => hr.all (M := pre.length) (fun _ h => h) (p := fun l c => cnFree d l c = true) (hA _ hd) fun j hj l c hm => by
      obtain ⟨q, hq⟩ := hgetj j hj
      rcases (hF j q hj hq).men _ hd with he | ⟨e, h1, h2, h3⟩ | hfree
      · simp only at he; omega
      · have := hf j q hq e h1 h3
        simp only at h2; omega
      · exact hfree l c hm
    -- from a value on
    have hgo : ∀ (v : AV X.U) (e : Eff X.U) (s1 : St X.U), (∀ l, s1.get l = s.get l) → (∀ i, s1.look i = s.look i) →
        (if dOk N (dsts ops) o v && okD X ops pre.length o (rdOf X s1 ops o) (dstW X o v e) past then runD X G tk N ops (pre.length + 1) ((pre.length, rdOf X s1 ops o, (dstW X o v e).map (·.1)) :: past) rest ((s1.eff e).put o.dst v) K else none) = some r →
        (∀ id c, e = .box id c true → (pre.length, id) ∈ allocs ops) → (∀ id c, e = .box id c false → ∀ s' : St X.U, SameO (dsts ops) o (need s ops o) s s' → ∃ c0, assoc s'.hp id = some c0) →
        (∀ i v', e = .slot i v' → v'.at? = none ∧ ∀ s' : St X.U, SameO (dsts ops) o (need s ops o) s s' → ∃ u, s'.look i = .own u ∧ ∀ u', v' = .own u' → hdr X (.own u') = hdr X (.own u)) →
        (dOk N (dsts ops) o v = true → ∀ s' : St X.U, SameO (dsts ops) o (need s ops o) s s' → DStep P N ops s' o v e) →
        ∃ (t : Tr X) (sf : St X.U), K sf = some r ∧ Reads S t (· < ops.size) sf ∧ ∀ (j : Nat) (o : Oper), ops[j]? = some o → Fact P N ops S t j o := by
      intro v e s1 hs1 hl1 h hnew hold hslot hstep
      have hn1 : need s1 ops o = need s ops o := need_same fun i _ => hl1 i
      split at h
      case isFalse => cases h
      rename_i hok
      simp only [Bool.and_eq_true] at hok
      obtain ⟨hd, hok⟩ := hok
      obtain ⟨hok1, hok2⟩ := okD_spec hok
      have hv : v.okAt (dsts ops) = true := by simp only [dOk, Bool.and_eq_true] at hd; exact hd.2
      have hself : SameO (dsts ops) o (need s ops o) s s1 := Same.toO ⟨fun i _ => hl1 i, fun id _ => by have := hs1 (.box id); simpa [St.get] using this⟩
      let t1 : Tr X := ⟨fun j => if j = pre.length then v else t0.v j, fun j => if j = pre.length then e else t0.e j, fun j => if j = pre.length then dstW X o v e else t0.w j, fun j => if j = pre.length then rdOf X s1 ops o else t0.r j⟩
      have tlt : ∀ j, j < pre.length → t1.v j = t0.v j ∧ t1.e j = t0.e j ∧ t1.w j = t0.w j ∧ t1.r j = t0.r j := fun j hj => by
        have : ¬ j = pre.length := by omega
        simp [t1, this]
      have teq : t1.v pre.length = v ∧ t1.e pre.length = e ∧ t1.w pre.length = dstW X o v e ∧ t1.r pre.length = rdOf X s1 ops o := by simp [t1]
      have hF1 : ∀ (j : Nat) (q : Oper), j < pre.length → ops[j]? = some q → Fact P N ops S t1 j q := fun j q hj hq =>
        (hF j q hj hq).congr (tlt j hj).1 (tlt j hj).2.1 (fun i hi => (tlt i (by omega)).2.2.1) fun i hi => (tlt i (by omega)).2.2.2
      have hr1 : Reads S t1 (· < pre.length) s1 := (hr.congr (t' := t1) fun j hj => (tlt j hj).2.2.1).ofGet hs1
      have hAp : Apart ops t1 pre.length := fun j k q hjk hk hq l hl => (hF1 k q hk hq).apart j hjk l hl
      have hcl : Closed ops (· < pre.length) := fun k q hq hk e he hb => by
        have := hf k q hq e he hb
        show e.on < pre.length
        have hk' : k < pre.length := hk
        omega
      have hr2 := hr1.step (s' := (s1.eff e).put o.dst v) (Nat.le_of_lt hplt) (fun _ h => h) hAp hcl (j := pre.length) (Nat.lt_irrefl _) fun l => by
        rw [teq.2.2.1]
        exact get_step (D := dsts ops) (s := s1) (fun l => by rw [hs1]; exact hatS l) (dst_mem hget) (fun id c he l => by rw [hs1]; exact hmenS id (hnew id c he) l) (fun id c he => hold id c he s1 hself) (fun i v' he => ⟨(hslot i v' he).1, (hslot i v' he).2 s1 hself⟩) l
      have hfact : Fact P N ops S t1 pre.length o := by
        refine ⟨fun l c hm => ?_, fun p hp => ?_, fun i hi l hl => ?_, by rw [teq.2.2.1, teq.1, teq.2.1], by rw [teq.2.1]; exact hnew, s1, hr1, teq.2.2.2, fun s' hs' => ?_⟩
        · rw [teq.2.2.1] at hm
          simp only [dstW, List.mem_append] at hm
          rcases hm with hm | hm
          · cases hdst : o.dst with
            | none => simp [hdst] at hm
            | some d =>
              simp only [hdst, List.mem_cons, List.not_mem_nil, or_false, Prod.mk.injEq] at hm
              rcases hm with ⟨rfl, rfl⟩ | ⟨rfl, rfl⟩
              · exact cnAt_hdr hv
              · exact hv
          · cases e with
            | none => simp [Eff.W] at hm
            | box id c new => simp only [Eff.W, List.mem_singleton, Prod.mk.injEq] at hm; obtain ⟨rfl, rfl⟩ := hm; exact trivial
            | slot i v' =>
              have hok := okAt_none (D := dsts ops) (hslot i v' rfl).1
              cases v' with
              | own u' => simp only [Eff.W, List.mem_cons, List.not_mem_nil, or_false, Prod.mk.injEq] at hm; obtain ⟨rfl, rfl⟩ := hm; exact hok
              | _ => simp only [Eff.W, List.mem_cons, List.not_mem_nil, or_false, Prod.mk.injEq] at hm; rcases hm with ⟨rfl, rfl⟩ | ⟨rfl, rfl⟩ <;> exact hok
        · rw [teq.2.2.1]; exact hok2 p hp
        · rw [teq.2.2.1, teq.2.2.2, (tlt i hi).2.2.1, (tlt i hi).2.2.2] at hl
          refine hok1 i _ _ (hp i hi) l ?_
          have hnn : ∀ {w : List (Loc × Cn X.U)} {l : Loc}, assocL w l ≠ none → l ∈ w.map (·.1) := fun {w l} hl => by
            by_cases hq : l ∈ w.map (·.1)
            · exact hq
            · exact absurd (assocL_none.2 hq) hl
          rcases hl with ⟨g1, g2⟩ | ⟨g1, g2⟩
          · exact .inl ⟨hnn g1, g2⟩
          · exact .inr ⟨g1, g2⟩
        · rw [teq.1, teq.2.1]
          have hs2 : SameO (dsts ops) o (need s ops o) s s' := by
            rw [hn1] at hs'
            have hbx : ∀ id, id ∈ boxesOf s (need s ops o) → ∀ q : Option (List (AV X.U)), q = assoc s1.hp id → q = assoc s.hp id := fun id _ q hq => by
              have h2 := hs1 (.box id)
              simp only [St.get, Cn.bx.injEq] at h2
              rw [hq, h2]
            rcases hs' with ⟨g1, g2⟩ | ⟨g1, g2⟩
            · exact .inl ⟨g1, fun i hi => by rw [g2.hd i hi, hl1 i], fun hpt id hid => hbx id hid _ (g2.box hpt id (by rw [boxesOf_same (s := s) fun i _ => hl1 i]; exact hid))⟩
            · exact .inr ⟨g1, fun i hi => (g2.look i hi).trans (hl1 i), fun id hid => hbx id hid _ (g2.box id (by rw [boxesOf_same (s := s) fun i _ => hl1 i]; exact hid))⟩
          exact ⟨fun id c he => hold id c he s' hs2, fun i v' he => ⟨(hslot i v' he).1, (hslot i v' he).2 s' hs2⟩, hstep hd s' hs2⟩
      refine runD_trace hX hT hG hf hS hA rest (pre ++ [o]) ((pre.length, rdOf X s1 ops o, (dstW X o v e).map (·.1)) :: past) t1 ((s1.eff e).put o.dst v) (by rw [hops, List.append_assoc]; rfl) ?_ ?_ ?_ (by simpa using h)
      · intro j hj
        simp only [List.length_append, List.length_singleton] at hj
        by_cases hjp : j = pre.length
        · subst hjp; rw [teq.2.2.1, teq.2.2.2]; exact List.mem_cons_self
        · have hj' : j < pre.length := by omega
          rw [(tlt j hj').2.2.1, (tlt j hj').2.2.2]; exact List.mem_cons_of_mem _ (hp j hj')
      · intro j q hj hq
        simp only [List.length_append, List.length_singleton] at hj
        by_cases hjp : j = pre.length
        · subst hjp; rw [hget] at hq; cases hq; exact hfact
        · exact hF1 j q (by omega) hq
      · exact hr2.iff fun k => by simp only [List.length_append, List.length_singleton]; omega
    have hval : ∀ s1 : St X.U, (∀ l, s1.get l = s.get l) → (∀ i, s1.look i = s.look i) → (∀ s' : St X.U, SameO (dsts ops) o (need s ops o) s s' → SameO (dsts ops) o (need s1 ops o) s1 s') →
        dK X G tk (dsts ops) (s1.sub (need s1 ops o)) o (fun v e => if dOk N (dsts ops) o v && okD X ops pre.length o (rdOf X s1 ops o) (dstW X o v e) past then runD X G tk N ops (pre.length + 1) ((pre.length, rdOf X s1 ops o, (dstW X o v e).map (·.1)) :: past) rest ((s1.eff e).put o.dst v) K else none) = some r →
        (∀ s' : St X.U, SameO (dsts ops) o (need s ops o) s s' → ∀ (B : Base) (a : Act) (w : World), Good B N s' a w → Region.wanted o (yielded ops a.tmps) = true) →
        ∃ (t : Tr X) (sf : St X.U), K sf = some r ∧ Reads S t (· < ops.size) sf ∧ ∀ (j : Nat) (o : Oper), ops[j]? = some o → Fact P N ops S t j o := by
      intro s1 hs1 hl1 hsm h hw
      obtain ⟨v, e, h1, h2, h3, h4, h5⟩ := dK_sound (N := N) (D := dsts ops) hX hT hG (fun i hi => mem_need hi) h
      refine hgo v e s1 hs1 hl1 h1 (fun id c he => alloc_mem hget (h3 id c he).1 (h3 id c he).2) (fun id c he s' hs' => h4 id c he s' (hsm s' hs')) (fun i v' he => ⟨(h5 i v' he).1, fun s' hs' => (h5 i v' he).2 s' (hsm s' hs')⟩) fun hd s' hs' B a w hg next Q hn => ?_
      rw [if_pos (hw s' hs' B a w hg)]
      exact h2 hd s' (hsm s' hs') B a w hg next Q hn
    have hskip : ∀ s1 : St X.U, (∀ l, s1.get l = s.get l) → (∀ i, s1.look i = s.look i) →
        (if dOk N (dsts ops) o (skipAV X.U) && okD X ops pre.length o (rdOf X s1 ops o) (dstW X o (skipAV X.U) .none) past then runD X G tk N ops (pre.length + 1) ((pre.length, rdOf X s1 ops o, (dstW X o (skipAV X.U) (.none)).map (·.1)) :: past) rest ((s1.eff .none).put o.dst (skipAV X.U)) K else none) = some r →
        (∀ s' : St X.U, SameO (dsts ops) o (need s ops o) s s' → ∀ (B : Base) (a : Act) (w : World), Good B N s' a w → Region.wanted o (yielded ops a.tmps) = false) →
        ∃ (t : Tr X) (sf : St X.U), K sf = some r ∧ Reads S t (· < ops.size) sf ∧ ∀ (j : Nat) (o : Oper), ops[j]? = some o → Fact P N ops S t j o := by
      intro s1 hs1 hl1 h hw
      refine hgo _ _ s1 hs1 hl1 h (fun _ _ he => by cases he) (fun _ _ he => by cases he) (fun _ _ he => by cases he) fun hd s' hs' B a w hg next Q hn => ?_
      rw [if_neg (by rw [hw s' hs' B a w hg]; simp)]
      simp only [dOk, Bool.and_eq_true] at hd
      exact hn _ _ (skip_good hg hd.1)
    unfold runD at h
    simp only at h
    split at h
    · rename_i hgd
      exact hval s (fun _ => rfl) (fun _ => rfl) (fun _ h => h) h fun s' _ B a w _ => by simp [Region.wanted, hgd]
    · rename_i j want hgd
      split at h
      case h_2 => cases h
      rename_i d hd
      have hdn := look_guard (s := s) hgd hd
      split at h
      · rename_i b hb
        have hy : ∀ s' : St X.U, SameO (dsts ops) o (need s ops o) s s' → ∀ (B : Base) (a : Act) (w : World), Good B N s' a w → yielded ops a.tmps j = some b := fun s' hs' B a w hg =>
          yielded_of hg hd (hs'.bool hdn rfl hb)
        cases b with
        | true =>
          simp only [cond_true] at h
          cases want with
          | true => exact hval (s.lit d true) (get_lit hb) (look_lit hb) (fun s' hs' => by rw [need_same fun i _ => look_lit hb i]; exact hs'.lit hb) h fun s' hs' B a w hg => by simp [Region.wanted, hgd, hy s' hs' B a w hg]
          | false => exact hskip (s.lit d true) (get_lit hb) (look_lit hb) h fun s' hs' B a w hg => by simp [Region.wanted, hgd, hy s' hs' B a w hg]
        | false =>
          simp only [cond_false] at h
          cases want with
          | false => exact hval (s.lit d false) (get_lit hb) (look_lit hb) (fun s' hs' => by rw [need_same fun i _ => look_lit hb i]; exact hs'.lit hb) h fun s' hs' B a w hg => by simp [Region.wanted, hgd, hy s' hs' B a w hg]
          | true => exact hskip (s.lit d false) (get_lit hb) (look_lit hb) h fun s' hs' B a w hg => by simp [Region.wanted, hgd, hy s' hs' B a w hg]
      · rename_i hb
        exact hskip s (fun _ => rfl) (fun _ => rfl) h fun s' hs' B a w hg => by
          simp [Region.wanted, hgd, yielded_none hg hd (hs'.bool hdn rfl hb)]
      · cases h

theorem bound_of {ops : Array Oper} {o : Oper} {e : Edge} (h : Region.binds .any e = true) : edgeB e = true := by
  unfold Region.binds at h
  unfold edgeB
  cases hg : e.ground <;> simp_all
theorem binds_of {e : Edge} (h : edgeB e = true) : Region.binds .any e = true := by
  unfold edgeB at h
  unfold Region.binds
  cases hg : e.ground <;> simp_all

theorem any_sound {ops : Array Oper} (hf : EdgeDown ops) {S : St X.U} (hS : ∀ l, cnAt (dsts ops) l (S.get l)) (hA : ∀ p ∈ allocs ops, ∀ l, cnFree p.2 l (S.get l) = true) {t : Tr X} {sf : St X.U} (hsf : Reads S t (· < ops.size) sf) {Q : Exit → Act → World → Prop} (hQ : ∀ a w, Good B N sf a w → Q .normal a w)
    (hF : ∀ (j : Nat) (o : Oper), ops[j]? = some o → Fact P N ops S t j o) :
    ∀ (fuel : Nat) (listed : Array Bool) (s : St X.U) (a : Act) (w : World), listed.size = ops.size → listed.toList.count false = fuel →
      Closed ops (fun k => listed.getD k false = true) → Reads S t (fun k => listed.getD k false = true) s → Good B N s a w → wpAny P .any ops Q fuel listed a w := by
  have hAp : Apart ops t ops.size := fun j k q hjk _ hq l hl => (hF k q hq).apart j hjk l hl
  have hMk : ∀ (listed : Array Bool), listed.size = ops.size → ∀ k, listed.getD k false = true → k < ops.size := fun listed hsz k hk => by
    by_cases h : k < listed.size
    · omega
    · simp [Array.getD, h] at hk
  have done : ∀ (listed : Array Bool) (s : St X.U) (a : Act) (w : World), listed.size = ops.size → (∀ j, j < ops.size → listed.getD j false = true) →
      Reads S t (fun k => listed.getD k false = true) s → Good B N s a w → Q .normal a w := by
    intro listed s a w hsz hall hr hg
    have hu := hr.unique hsf (M := ops.size) (fun k => ⟨fun h => hMk listed hsz k h, fun h => hall k h⟩) (hMk listed hsz)
    refine hQ a w (hg.weaken (fun i => .inl ?_) fun id c hc => ?_)
    · have := hu (.cont i); simp only [St.get, Cn.av.injEq] at this; exact this.symm
    · have := hu (.box id); simp only [St.get, Cn.bx.injEq] at this; rw [this]; exact hc
  have getD_tf : ∀ (listed : Array Bool) (j : Nat), listed.size = ops.size → j < ops.size → (listed.getD j true = false ↔ ¬ listed.getD j false = true) := by
    intro listed j hsz hlt
    have : j < listed.size := by omega
    simp [Array.getD, this]
  intro fuel
  induction fuel with
  | zero =>
    intro listed s a w hsz hcnt hcl hr hg
    have hall : ∀ j, j < ops.size → listed.getD j false = true := by
      intro j hj
      have hj' : j < listed.size := by omega
      have := List.count_eq_zero.1 hcnt
      have hmem : listed[j] ∈ listed.toList := by simp
      simp only [Array.getD, hj', dif_pos, Array.getInternal_eq_getElem]
      cases hb : listed[j] with
      | true => rfl
      | false => rw [hb] at hmem; exact absurd hmem this
    refine ⟨?_, done listed s a w hsz hall hr hg⟩
    rw [List.eq_nil_iff_forall_not_mem]
    intro i hi
    obtain ⟨h0, o, ho, _⟩ := mem_ready.1 hi
    have hlt := (Array.getElem?_eq_some_iff.1 ho).1
    exact (getD_tf listed i hsz hlt).1 h0 (hall i hlt)
  | succ fuel ih =>
    intro listed s a w hsz hcnt hcl hr hg
    refine ⟨fun hnil => ?_, fun i hi => ?_⟩
    · -- the first that is not listed is ready
      exfalso
      have hex : ∃ j, j < ops.size ∧ ¬ listed.getD j false = true := by
        have hpos : false ∈ listed.toList := List.count_pos_iff.1 (by omega)
        obtain ⟨j, hj, hb⟩ := List.getElem_of_mem hpos
        have hj' : j < listed.size := by simpa using hj
        refine ⟨j, by omega, ?_⟩
        simp only [Array.getElem_toList] at hb
        simp [Array.getD, hj', hb]
      obtain ⟨n, ⟨hn1, hn2⟩, hmin⟩ : ∃ n, (n < ops.size ∧ ¬ listed.getD n false = true) ∧ ∀ k, k < n → ¬ (k < ops.size ∧ ¬ listed.getD k false = true) := by
        obtain ⟨j, hj⟩ := hex
        induction j using Nat.strongRecOn with
        | ind j ihj =>
          by_cases h : ∃ k, k < j ∧ (k < ops.size ∧ ¬ listed.getD k false = true)
          · obtain ⟨k, hk1, hk2⟩ := h; exact ihj k hk1 hk2
          · exact ⟨j, hj, fun k hk hk2 => h ⟨k, hk, hk2⟩⟩
      have hget : ops[n]? = some ops[n] := by simp [hn1]
      have : n ∈ Region.ready .any ops listed := by
        rw [mem_ready]
        refine ⟨(getD_tf listed n hsz hn1).2 hn2, _, hget, fun e he hb => ?_⟩
        have := hf n _ hget e (by simpa using he) (bound_of (ops := ops) (o := ops[n]) hb)
        by_cases hl : listed.getD e.on false = true
        · exact hl
        · exact absurd ⟨by omega, hl⟩ (hmin e.on this)
      rw [hnil] at this
      cases this
    · obtain ⟨h0, o, ho, hall⟩ := mem_ready.1 hi
      have hlt := (Array.getElem?_eq_some_iff.1 ho).1
      have hnl := (getD_tf listed i hsz hlt).1 h0
      have hdep : ∀ e ∈ o.after.toList, edgeB e = true → listed.getD e.on false = true := fun e he hb => hall e (by simpa using he) (binds_of hb)
      obtain ⟨f1, f2, f3, f4, f5, sj, hsj, hrd, hds⟩ := hF i o ho
      have hsame : SameO (dsts ops) o (need sj ops o) sj s := .of_get (by rw [← hrd]; exact hsj.same ho hr (hMk listed hsz) hAp hcl hdep hnl)
      have hatS : ∀ l, cnAt (dsts ops) l (s.get l) := hr.all (hMk listed hsz) (p := cnAt (dsts ops)) hS fun j hj l c hm => (hF j (ops[j]'(hMk listed hsz j hj)) (by simp [hMk listed hsz j hj])).at' l c hm
      have hmenS : ∀ d, (i, d) ∈ allocs ops → ∀ l, cnFree d l (s.get l) = true := fun d hd => hr.all (hMk listed hsz) (p := fun l c => cnFree d l c = true) (hA _ hd) fun j hj l c hm => by
        have hjO := hMk listed hsz j hj
        have hq : ops[j]? = some (ops[j]'hjO) := by simp [hjO]
        rcases (hF j _ hq).men _ hd with he | ⟨e, h1, h2, h3⟩ | hfree
        · simp only at he; exact absurd (he ▸ hj) hnl
        · have := hcl j _ hq hj e h1 h3
          simp only at h2; rw [h2] at this; exact absurd this hnl
        · exact hfree l c hm
      have hput := hr.step (s' := (s.eff (t.e i)).put o.dst (t.v i)) (Nat.le_refl _) (hMk listed hsz) hAp hcl hnl fun l => by
        rw [f4]
        exact get_step hatS (dst_mem ho) (fun id c he l => hmenS id (f5 id c he) l) (fun id c he => (hds s hsame).1 id c he) (hds s hsame).2.1 l
      have hin : ∀ k, (listed.setIfInBounds i true).getD k false = true ↔ (listed.getD k false = true ∨ k = i) := by
        intro k
        by_cases hki : k = i
        · subst hki
          have : k < listed.size := by omega
          simp [Array.getD, this]
        · rw [getD_set_ne false (Ne.symm hki)]; simp [hki]
      have hnext : ∀ a' w', Good B N ((s.eff (t.e i)).put o.dst (t.v i)) a' w' → wpAny P .any ops Q fuel (listed.setIfInBounds i true) a' w' := by
        intro a' w' hg'
        refine ih _ _ a' w' (by simpa using hsz) ?_ ?_ (hput.iff fun k => (hin k).symm) hg'
        · have hlt' : i < listed.toList.length := by simp; omega
          rw [Array.toList_setIfInBounds, List.count_set hlt', hcnt]
          have hlt2 : i < listed.size := by omega
          have : listed[i] = false := by simpa [Array.getD, hlt2] using hnl
          simp [this]
        · intro k q hq hk e he hb
          rw [hin] at hk ⊢
          rcases hk with hk | hk
          · exact .inl (hcl k q hq hk e he hb)
          · subst hk; rw [ho] at hq; cases hq; exact .inl (hdep e he hb)
      have hd := (hds s hsame).2.2 B a w hg (wpAny P .any ops Q fuel (listed.setIfInBounds i true)) Q hnext
      unfold wpOp
      simp only [ho]
      split
      · rename_i hw; rw [if_pos hw] at hd; exact .inl hd
      · rename_i hw; rw [if_neg hw] at hd; exact hd

theorem Good.drawn (hX : XOK X) (h : Good B N s a w) : Good B N s a { w with drawn := w.drawn + 1 } := by
  obtain ⟨cl, m, hR, h2, h3⟩ := h
  exact ⟨cl, m, hR.world (w' := { w with drawn := w.drawn + 1 }) hX.wpos ⟨hR.fr.os, hR.fr.tape, hR.fr.output, hR.fr.size, hR.fr.block⟩ (Ext.of fun _ _ _ => ⟨rfl, Nat.le_refl _⟩) (Nat.le_refl _) (fun l b hb => ⟨rfl, (hR.mine l b hb).2.2⟩) hR.top, h2, h3⟩

theorem assoc_mem {α : Type} : ∀ {l : List (Nat × α)} {i : Nat} {v : α}, assoc l i = some v → (i, v) ∈ l
  | [], i, v, h => by cases h
  | (j, x) :: r, i, v, h => by
    by_cases hj : j = i
    · subst hj; simp [assoc] at h; subst h; simp
    · simp only [assoc, hj, if_false] at h; exact List.mem_cons_of_mem _ (assoc_mem h)

theorem draw_sound (hX : XOK X) (hT : TOK P X) {G : Ans X ρ} {tk : Takes} (hG : GOK P G) {id : Nat} {ops : Array Oper} {K : St X.U → Option ρ} {r : ρ} {Q : Exit → Act → World → Prop}
    (hQ : ∀ s a w, K s = some r → Good B N s a w → Q .normal a w) (hok : drawOk ops s = true) (h : runD X G tk N ops 0 [] ops.toList s K = some r) (hg : Good B N s a w) : (Code.region id ops true).wp P Q a w := by
  simp only [drawOk, Bool.and_eq_true, List.all_eq_true] at hok
  obtain ⟨⟨hf, hno⟩, hal⟩ := hok
  have hf := freeOf_spec hf
  have hSi : ∀ i, (s.look i).okAt (dsts ops) = true := fun i => by
    simp only [St.look]
    cases ha : assoc s.env i with
    | none => rfl
    | some v =>
      simp only [noAt, List.all_eq_true] at hno
      exact hno _ (assoc_mem ha)
  have hS : ∀ l, cnAt (dsts ops) l (s.get l) := by
    intro l
    cases l with
    | box id => exact trivial
    | slot i => exact cnAt_hdr (hSi i)
    | cont i => exact hSi i
  have hA : ∀ p ∈ allocs ops, ∀ l, cnFree p.2 l (s.get l) = true := by
    intro p hp l
    obtain ⟨h1, h2⟩ := hal p hp
    have hi : ∀ i, (s.look i).men p.2 = false := fun i => by
      simp only [St.look]
      cases ha : assoc s.env i with
      | none => rfl
      | some v => have := h1 _ (assoc_mem ha); simpa [cnFree] using this
    cases l with
    | slot i => exact cnFree_hdr (hi i)
    | cont i => simp [St.get, cnFree, hi i]
    | box id =>
      simp only [St.get]
      cases ha : assoc s.hp id with
      | none => rfl
      | some c => exact h2 _ (assoc_mem ha)
  have hr0 : Reads s (⟨fun _ => skipAV X.U, fun _ => .none, fun _ => [], fun _ => []⟩ : Tr X) (· < ([] : List Oper).length) s := fun l => ⟨fun j c hj => absurd hj (by simp), fun _ => rfl⟩
  obtain ⟨t, sf, h3, h4, h5⟩ := runD_trace (N := N) hX hT hG hf hS hA ops.toList [] [] _ s rfl (fun j hj => absurd hj (by simp)) (fun j o hj => absurd hj (by simp)) hr0 h
  refine wp_region_any hT.mixed (any_sound hf hS hA h4 (fun a w hg => hQ _ _ _ h3 hg) h5 _ _ s a _ (by simp) (by simp) ?_ ?_ (hg.drawn hX))
  · intro k q hq hk
    simp only [Array.getD, Array.size_replicate] at hk
    split at hk <;> simp at hk
  · intro l
    refine ⟨fun j c hj => ?_, fun _ => rfl⟩
    simp only [Array.getD, Array.size_replicate] at hj
    split at hj <;> simp at hj
end Go.AX
