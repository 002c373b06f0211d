/-
  Layer 2: values: what the printed functions come to.
-/
import Derived.Test.YtaodnkhpiiepiaaLib
import Derived.Laws.Strings
import Derived.Test.YtaodnkhpiiepiaaKx0
import Derived.Test.YtaodnkhpiiepiaaKx2
import Derived.Test.YtaodnkhpiiepiaaKx3
import Derived.Test.YtaodnkhpiiepiaaKx4
namespace Go.Proofs.Ytaodnkhpiiepiaa.K
open Go Go.RowKit Go.Proofs.YtaodnkhpiiepiaaW.PrintWords Go.Proofs.YtaodnkhpiiepiaaW.PrintLast Go.Proofs.YtaodnkhpiiepiaaG
set_option linter.unusedVariables false
set_option linter.unusedSimpArgs false

/-! ### texts -/
/-- Two rows of bytes: which one is the lesser one. -/
def tcmp : List UInt8 → List UInt8 → Int
  | [], [] => 0
  | [], _ :: _ => -1
  | _ :: _, [] => 1
  | a :: x, b :: y => if a < b then -1 else if b < a then 1 else tcmp x y
def sgn (a b : Int) : Int := if a < b then -1 else if b < a then 1 else 0

theorem tcmp_refl : ∀ x, tcmp x x = 0
  | [] => rfl
  | a :: x => by simp [tcmp, UInt8.lt_irrefl, tcmp_refl x]
theorem u8_tri (a b : UInt8) : a < b ∨ a = b ∨ b < a := by
  rcases Nat.lt_trichotomy a.toNat b.toNat with h | h | h
  · exact .inl (UInt8.lt_iff_toNat_lt.2 h)
  · exact .inr (.inl (UInt8.toNat_inj.1 h))
  · exact .inr (.inr (UInt8.lt_iff_toNat_lt.2 h))
theorem u8_asymm {a b : UInt8} (h : a < b) : ¬ b < a := fun h' => by
  have h1 := UInt8.lt_iff_toNat_lt.1 h; have h2 := UInt8.lt_iff_toNat_lt.1 h'; omega
theorem tcmp_cases : ∀ x y, tcmp x y = -1 ∨ tcmp x y = 0 ∨ tcmp x y = 1
  | [], [] => .inr (.inl rfl)
  | [], _ :: _ => .inl rfl
  | _ :: _, [] => .inr (.inr rfl)
  | a :: x, b :: y => by
    simp only [tcmp]
    split
    · exact .inl rfl
    · split
      · exact .inr (.inr rfl)
      · exact tcmp_cases x y
theorem tcmp_eq : ∀ x y, tcmp x y = 0 → x = y
  | [], [], _ => rfl
  | [], _ :: _, h => by simp [tcmp] at h
  | _ :: _, [], h => by simp [tcmp] at h
  | a :: x, b :: y, h => by
    simp only [tcmp] at h
    split at h
    · omega
    · split at h
      · omega
      · rw [tcmp_eq x y h]
        rcases u8_tri a b with h1 | h1 | h1
        · contradiction
        · rw [h1]
        · contradiction
theorem tcmp_neg : ∀ x y, tcmp y x = - tcmp x y
  | [], [] => rfl
  | [], _ :: _ => rfl
  | _ :: _, [] => rfl
  | a :: x, b :: y => by
    simp only [tcmp]
    by_cases h1 : a < b
    · rw [if_pos h1, if_neg (u8_asymm h1), if_pos h1]; rfl
    · by_cases h2 : b < a
      · rw [if_pos h2, if_neg h1, if_pos h2]
      · rw [if_neg h1, if_neg h2, if_neg h1, if_neg h2]; exact tcmp_neg x y
theorem u8_trans {a b c : UInt8} (h : a < b) (h' : b < c) : a < c := by
  have h1 := UInt8.lt_iff_toNat_lt.1 h; have h2 := UInt8.lt_iff_toNat_lt.1 h'; exact UInt8.lt_iff_toNat_lt.2 (by omega)
/-- What is below another one is below what that is below; and so where one of both is the same. -/
theorem tcmp_trans : ∀ x y z, tcmp x y ≤ 0 → tcmp y z ≤ 0 → tcmp x z ≤ 0 ∧ (tcmp x y < 0 ∨ tcmp y z < 0 → tcmp x z < 0)
  | [], [], [], _, _ => by simp [tcmp]
  | [], [], _ :: _, _, _ => by simp [tcmp]
  | [], _ :: _, [], _, h => by simp [tcmp] at h
  | [], _ :: _, _ :: _, _, _ => by simp [tcmp]
  | _ :: _, [], _, h, _ => by simp [tcmp] at h
  | _ :: _, _ :: _, [], _, h => by simp [tcmp] at h
  | a :: x, b :: y, c :: z, h1, h2 => by
    have ih := tcmp_trans x y z
    simp only [tcmp] at h1 h2 ⊢
    rcases u8_tri a b with hab | hab | hab
    · rcases u8_tri b c with hbc | hbc | hbc
      · rw [if_pos (u8_trans hab hbc)]; simp
      · subst hbc; rw [if_pos hab]; simp
      · rw [if_neg (u8_asymm hbc), if_pos hbc] at h2; omega
    · subst hab
      rw [if_neg (UInt8.lt_irrefl _), if_neg (UInt8.lt_irrefl _)] at h1
      rcases u8_tri a c with hbc | hbc | hbc
      · rw [if_pos hbc]; simp
      · subst hbc
        rw [if_neg (UInt8.lt_irrefl _), if_neg (UInt8.lt_irrefl _)] at h2
        simp only [UInt8.lt_irrefl, if_false]
        exact ih h1 h2
      · rw [if_neg (u8_asymm hbc), if_pos hbc] at h2; omega
    · rw [if_neg (u8_asymm hab), if_pos hab] at h1; omega
theorem less_tcmp : ∀ x y, Op.bytesLess x y = decide (tcmp x y = -1)
  | [], [] => by simp [Op.bytesLess, tcmp]
  | [], _ :: _ => by simp [Op.bytesLess, tcmp]
  | _ :: _, [] => by simp [Op.bytesLess, tcmp]
  | a :: x, b :: y => by
    simp only [Op.bytesLess, tcmp, less_tcmp x y]
    rcases u8_tri a b with h | h | h
    · simp [h]
    · subst h; simp [UInt8.lt_irrefl]
    · have h1 := u8_asymm h
      have h2 : ¬ a = b := fun e => by subst e; exact UInt8.lt_irrefl _ h
      simp [h, h1, h2]

/-- A text's bytes. -/
def by_ (s : ByteArray) : List UInt8 := s.data.toList
theorem by_length (s : ByteArray) : (by_ s).length = s.size := by simp [by_]
theorem by_toList (s : ByteArray) : s.toList = by_ s := ByteArray.toList_eq s
theorem by_inj {a b : ByteArray} (h : by_ a = by_ b) : a = b := by
  cases a; cases b; unfold by_ at h; congr; exact Array.toList_inj.1 h
theorem bt_get (s : ByteArray) (i : Nat) (h : i < (by_ s).length) : bt s i = ((by_ s)[i].toNat : Int) := by
  have hs : i < s.size := by rw [← by_length]; exact h
  unfold bt
  have : ((i : Nat) : Int).toNat = i := by omega
  simp only [this, hs, dif_pos]
  rfl
theorem empty_iff (s : ByteArray) : (s.toList == ([] : List UInt8)) = decide (s.size = 0) := by
  rw [by_toList]
  have := by_length s
  cases h : by_ s with
  | nil => rw [h, List.length_nil] at this; rw [decide_eq_true this.symm]; rfl
  | cons a l => rw [h, List.length_cons] at this; rw [decide_eq_false (by omega)]; rfl

/-! ### the printed ones -/
theorem sign_eq (a b : Int) : value_sign.f a b = some (sgn a b) := by
  unfold value_sign.f sgn
  split
  · rfl
  · split <;> rfl
theorem text_loop {a b : ByteArray} (ha : a.size ≤ 140737488351232) (hb : b.size ≤ 140737488351232) : ∀ (d i : Nat), i + d = a.size → i ≤ b.size → ((by_ a).take i = (by_ b).take i) →
    Ev (fun k => value_text.l0 k a b i) (tcmp ((by_ a).drop i) ((by_ b).drop i)) := by
  have la := by_length a
  have lb := by_length b
  have tail : ∀ i : Nat, i ≤ a.size → i ≤ b.size → (i = a.size ∨ i = b.size) → Ev (fun k => value_text.j1 k a b i false) (tcmp ((by_ a).drop i) ((by_ b).drop i)) := by
    intro i h1 h2 h3
    refine Ev.step (fun k => by rw [value_text.j1]) ?_
    refine Ev.ifn (by decide) (Ev.const (sign_eq _ _) (Ev.ret ?_))
    rcases Nat.lt_trichotomy a.size b.size with h | h | h
    · have : i = a.size := by omega
      rw [show (by_ a).drop i = [] from List.drop_eq_nil_of_le (by omega)]
      rw [List.drop_eq_getElem_cons (l := by_ b) (i := i) (by omega)]
      simp [tcmp, sgn]; omega
    · rw [show (by_ a).drop i = [] from List.drop_eq_nil_of_le (by omega), show (by_ b).drop i = [] from List.drop_eq_nil_of_le (by omega)]
      simp [tcmp, sgn]; omega
    · have : i = b.size := by omega
      rw [show (by_ b).drop i = [] from List.drop_eq_nil_of_le (by omega)]
      rw [List.drop_eq_getElem_cons (l := by_ a) (i := i) (by omega)]
      simp [tcmp, sgn]; omega
  intro d
  induction d with
  | zero =>
    intro i h1 h2 h3
    refine Ev.step (fun k => by rw [value_text.l0]) ?_
    exact Ev.ifn (by omega) (tail i (by omega) h2 (.inl (by omega)))
  | succ d ih =>
    intro i h1 h2 h3
    refine Ev.step (fun k => by rw [value_text.l0]) ?_
    refine Ev.ifp (by omega) ?_
    by_cases hb' : (i : Int) < (b.size : Int)
    case neg =>
      rw [decide_eq_false hb']
      exact tail i (by omega) h2 (.inr (by omega))
    rw [decide_eq_true hb']
    refine Ev.step (fun k => by rw [value_text.j1]) ?_
    refine Ev.ifp rfl (Ev.ifp (by omega) (Ev.ifp (by omega) (Ev.ifp (by omega) ?_)))
    have e1 : wrap64 ((i : Int) + 1) = ((i + 1 : Nat) : Int) := by rw [w64 (by omega) (by omega)]; omega
    have hai : i < (by_ a).length := by omega
    have hbi : i < (by_ b).length := by omega
    rw [bt_get a i hai, bt_get b i hbi, e1]
    rw [List.drop_eq_getElem_cons hai, List.drop_eq_getElem_cons hbi]
    have ra := UInt8.toNat_lt (by_ a)[i]; have rb := UInt8.toNat_lt (by_ b)[i]
    by_cases he : ((by_ a)[i].toNat : Int) = ((by_ b)[i].toNat : Int)
    · refine Ev.ifp he ?_
      have he' : (by_ a)[i] = (by_ b)[i] := UInt8.toNat_inj.1 (by omega)
      refine Ev.cast ?_ (ih (i + 1) (by omega) (by omega) ?_)
      · simp only [tcmp, he', UInt8.lt_irrefl, if_false]
      · rw [List.take_succ_eq_append_getElem hai, List.take_succ_eq_append_getElem hbi, h3, he']
    · refine Ev.ifn he (Ev.const (sign_eq _ _) (Ev.ret ?_))
      rw [w64 (by omega) (by omega), w64 (by omega) (by omega)]
      simp only [tcmp, sgn]
      by_cases h1 : (by_ a)[i] < (by_ b)[i]
      · have := UInt8.lt_iff_toNat_lt.1 h1
        rw [if_pos h1, if_pos (by omega)]
      · by_cases h2 : (by_ b)[i] < (by_ a)[i]
        · have := UInt8.lt_iff_toNat_lt.1 h2
          rw [if_neg h1, if_pos h2, if_neg (by omega), if_pos (by omega)]
        · rcases u8_tri (by_ a)[i] (by_ b)[i] with h | h | h
          · contradiction
          · rw [h] at he; omega
          · contradiction
theorem text_ev (a b : ByteArray) (ha : a.size ≤ 140737488351232) (hb : b.size ≤ 140737488351232) : Ev (fun k => value_text.f k a b) (tcmp (by_ a) (by_ b)) := by
  refine Ev.congr (fun k => by rw [value_text.f]) ?_
  have := text_loop ha hb a.size 0 (by omega) (by omega) rfl
  simpa using this
theorem rtext_eq (a b : ByteArray) : cadastreref0_Cmp.f a b = some (tcmp (by_ a) (by_ b)) := by
  unfold cadastreref0_Cmp.f
  rw [by_toList, by_toList, less_tcmp, less_tcmp, tcmp_neg (by_ a)]
  rcases tcmp_cases (by_ a) (by_ b) with h | h | h <;> rw [h] <;> simp

/-- Is this a value? -/
def good (v : S24) : Bool :=
  if v.f0 = 0 then decide (v.f1 = 0) && decide (v.f2.size = 0) else if v.f0 = 1 then decide (v.f2.size = 0) else if v.f0 = 2 ∨ v.f0 = 3 then decide (v.f1 = 0) && decide (v.f2.size ≤ 4096) else false
theorem good_eq (k n : Int) (s : ByteArray) : value_Good.f k n s = some (good ⟨k, n, s⟩) := by
  unfold value_Good.f good
  simp only [empty_iff]
  by_cases h0 : k = 0
  · subst h0; simp; rfl
  rw [if_neg h0, if_neg h0]
  by_cases h1 : k = 1
  · subst h1; simp
  rw [if_neg h1, if_neg h1]
  by_cases h2 : k = 2
  · subst h2; by_cases hn : n = 0 <;> simp [hn]; omega
  rw [if_neg h2]
  by_cases h3 : k = 3
  · subst h3; by_cases hn : n = 0 <;> simp [hn]; omega
  rw [if_neg h3, if_neg (by omega)]
theorem may_eq (k n : Int) (s : ByteArray) : cadastreref2_May.f k n s = some (good ⟨k, n, s⟩) := good_eq k n s
theorem good_says {v : S24} (h : good v = true) : (v.f0 = 0 ∧ v.f1 = 0 ∧ v.f2.size = 0) ∨ (v.f0 = 1 ∧ v.f2.size = 0) ∨ ((v.f0 = 2 ∨ v.f0 = 3) ∧ v.f1 = 0 ∧ v.f2.size ≤ 4096) := by
  unfold good at h
  split at h
  · simp only [Bool.and_eq_true, decide_eq_true_eq] at h; exact .inl ⟨by assumption, h.1, h.2⟩
  · split at h
    · simp only [decide_eq_true_eq] at h; exact .inr (.inl ⟨by assumption, h⟩)
    · split at h
      · simp only [Bool.and_eq_true, decide_eq_true_eq] at h; exact .inr (.inr ⟨by assumption, h.1, h.2⟩)
      · cases h

/-- Two values: which one is the lesser one. -/
def vcmp (a b : S24) : Int := if a.f0 = b.f0 then (if a.f0 = 1 then sgn a.f1 b.f1 else tcmp (by_ a.f2) (by_ b.f2)) else sgn a.f0 b.f0
theorem order_ev (a b : S24) (ha : a.f2.size ≤ 140737488351232) (hb : b.f2.size ≤ 140737488351232) : Ev (fun k => value_Order.f k a.f0 a.f1 a.f2 b.f0 b.f1 b.f2) (vcmp a b) := by
  refine Ev.congr (fun k => by rw [value_Order.f]) ?_
  unfold vcmp
  by_cases h : a.f0 = b.f0
  · rw [if_pos h]
    refine Ev.ifp h ?_
    by_cases h1 : a.f0 = 1
    · rw [if_pos h1]
      exact Ev.ifp h1 (Ev.const (sign_eq _ _) (Ev.ret rfl))
    · rw [if_neg h1]
      exact Ev.ifn h1 (Ev.bind (text_ev _ _ ha hb) (Ev.ret rfl))
  · rw [if_neg h]
    exact Ev.ifn h (Ev.const (sign_eq _ _) (Ev.ret rfl))
theorem size_nil {s : ByteArray} (h : s.size = 0) : by_ s = [] := List.eq_nil_of_length_eq_zero (by rw [by_length]; exact h)
theorem rcmp_ev (a b : S24) (ha : good a = true) (hb : good b = true) : Ev (fun k => cadastreref2_Cmp.f k a.f0 a.f1 a.f2 b.f0 b.f1 b.f2) (vcmp a b) := by
  have ja : ∀ x y : S24, Ev (fun k => cadastreref2_Cmp.j0 k true x.f0 x.f1 x.f2 y.f0 y.f1 y.f2) (-1) := fun x y => by
    refine Ev.step (fun k => by rw [cadastreref2_Cmp.j0]) ?_
    exact Ev.ifp rfl (Ev.ret rfl)
  have jb : ∀ x y : S24, Ev (fun k => cadastreref2_Cmp.j0 k false x.f0 x.f1 x.f2 y.f0 y.f1 y.f2) (if x.f0 > y.f0 then 1 else if x.f1 > y.f1 then 1 else tcmp (by_ x.f2) (by_ y.f2)) := fun x y => by
    refine Ev.step (fun k => by rw [cadastreref2_Cmp.j0]) ?_
    refine Ev.ifn (by decide) ?_
    by_cases h1 : x.f0 > y.f0
    · exact Ev.ifp h1 (Ev.ret (by rw [if_pos h1]))
    refine Ev.ifn h1 ?_
    by_cases h2 : x.f1 > y.f1
    · exact Ev.ifp h2 (Ev.ret (by rw [if_neg h1, if_pos h2]))
    exact Ev.ifn h2 (Ev.const (rtext_eq _ _) (Ev.ret (by rw [if_neg h1, if_neg h2])))
  have ga := good_says ha; have gb := good_says hb
  refine Ev.congr (fun k => by rw [cadastreref2_Cmp.f]) ?_
  unfold vcmp sgn
  by_cases h : a.f0 = b.f0
  · rw [if_pos h]
    refine Ev.ifn (by omega) (Ev.ifp h ?_)
    by_cases hl : a.f1 < b.f1
    · rw [decide_eq_true hl]
      refine Ev.cast ?_ (ja a b)
      rw [if_pos (by omega), if_pos hl]
    · rw [decide_eq_false hl]
      refine Ev.cast ?_ (jb a b)
      rw [if_neg (by omega)]
      by_cases h1 : a.f0 = 1
      · rw [if_pos h1, if_neg hl]
        have s1 : a.f2.size = 0 := by omega
        have s2 : b.f2.size = 0 := by omega
        rw [size_nil s1, size_nil s2]; rfl
      · rw [if_neg h1, if_neg (by omega)]
  · rw [if_neg h]
    by_cases hlt : a.f0 < b.f0
    · refine Ev.ifp hlt (Ev.cast ?_ (ja a b))
      rw [if_pos hlt]
    · refine Ev.ifn hlt (Ev.ifn h (Ev.cast ?_ (jb a b)))
      rw [if_neg hlt, if_pos (by omega), if_pos (by omega)]

theorem sgn_neg (a b : Int) : sgn b a = - sgn a b := by unfold sgn; split <;> split <;> (try split) <;> omega
theorem vcmp_neg (a b : S24) : vcmp b a = - vcmp a b := by
  unfold vcmp
  by_cases h : a.f0 = b.f0
  · rw [if_pos h, if_pos h.symm]
    by_cases h1 : a.f0 = 1
    · rw [if_pos h1, if_pos (by omega), sgn_neg]
    · rw [if_neg h1, if_neg (by omega), tcmp_neg]
  · rw [if_neg h, if_neg (fun e => h e.symm), sgn_neg]
theorem vcmp_refl (a : S24) : vcmp a a = 0 := by unfold vcmp sgn; simp [tcmp_refl]
theorem vcmp_cases (a b : S24) : vcmp a b = -1 ∨ vcmp a b = 0 ∨ vcmp a b = 1 := by
  unfold vcmp sgn
  have := tcmp_cases (by_ a.f2) (by_ b.f2)
  repeat' split
  all_goals first | exact this | simp
theorem S24_ext {a b : S24} (h0 : a.f0 = b.f0) (h1 : a.f1 = b.f1) (h2 : a.f2 = b.f2) : a = b := by cases a; cases b; simp_all
theorem vcmp_eq {a b : S24} (ha : good a = true) (hb : good b = true) (h : vcmp a b = 0) : a = b := by
  have ga := good_says ha; have gb := good_says hb
  unfold vcmp sgn at h
  by_cases h0 : a.f0 = b.f0
  · rw [if_pos h0] at h
    by_cases h1 : a.f0 = 1
    · rw [if_pos h1] at h
      have hn : a.f1 = b.f1 := by
        split at h
        · omega
        · split at h <;> omega
      refine S24_ext h0 hn (by_inj ?_)
      rw [size_nil (s := a.f2) (by omega), size_nil (s := b.f2) (by omega)]
    · rw [if_neg h1] at h
      exact S24_ext h0 (by omega) (by_inj (tcmp_eq _ _ h))
  · rw [if_neg h0] at h
    split at h
    · omega
    · split at h <;> omega
theorem sgn_trans (a b c : Int) (h1 : sgn a b ≤ 0) (h2 : sgn b c ≤ 0) : sgn a c ≤ 0 ∧ (sgn a b < 0 ∨ sgn b c < 0 → sgn a c < 0) := by
  unfold sgn at *
  repeat' split at h1
  all_goals repeat' split at h2
  all_goals repeat' split
  all_goals omega
theorem vcmp_trans (a b c : S24) (h1 : vcmp a b ≤ 0) (h2 : vcmp b c ≤ 0) : vcmp a c ≤ 0 ∧ (vcmp a b < 0 ∨ vcmp b c < 0 → vcmp a c < 0) := by
  unfold vcmp at *
  by_cases hab : a.f0 = b.f0
  · rw [if_pos hab] at h1
    by_cases hbc : b.f0 = c.f0
    · rw [if_pos hbc] at h2
      rw [if_pos hab, if_pos hbc, if_pos (hab.trans hbc)]
      by_cases ha1 : a.f0 = 1
      · have hb1 : b.f0 = 1 := by omega
        simp only [if_pos ha1, if_pos hb1] at h1 h2 ⊢
        exact sgn_trans _ _ _ h1 h2
      · have hb1 : ¬ b.f0 = 1 := by omega
        simp only [if_neg ha1, if_neg hb1] at h1 h2 ⊢
        exact tcmp_trans _ _ _ h1 h2
    · rw [if_neg hbc] at h2
      rw [if_pos hab, if_neg hbc, if_neg (by omega), hab]
      have : sgn b.f0 c.f0 < 0 := by unfold sgn at h2 ⊢; split at h2 <;> (try split at h2) <;> (repeat' split) <;> omega
      exact ⟨h2, fun _ => this⟩
  · rw [if_neg hab] at h1
    have hl : a.f0 < b.f0 := by unfold sgn at h1; split at h1 <;> (try split at h1) <;> omega
    have hle : b.f0 ≤ c.f0 := by
      by_cases hbc : b.f0 = c.f0
      · omega
      · rw [if_neg hbc] at h2; unfold sgn at h2; split at h2 <;> (try split at h2) <;> omega
    rw [if_neg hab, if_neg (show ¬ a.f0 = c.f0 by omega)]
    have e : sgn a.f0 c.f0 = -1 := by unfold sgn; rw [if_pos (by omega)]
    rw [e]; exact ⟨by decide, fun _ => by decide⟩

theorem rd_T24_two (a b : S24) : rd_T24 [a, b] 0 = a ∧ rd_T24 [a, b] 1 = b := ⟨rfl, rfl⟩
theorem all_loop (l : List S24) (hn : l.length ≤ 9223372036854775807) : ∀ (d i : Nat), i + d = l.length → Ev (fun k => value_All.l0 k l i) ((l.drop i).all good)
  | 0, i, h => by
    refine Ev.step (fun k => by rw [value_All.l0]) ?_
    refine Ev.ifp (by omega) (Ev.ret ?_)
    rw [List.drop_eq_nil_of_le (by omega)]; rfl
  | d + 1, i, h => by
    have hi : i < l.length := by omega
    refine Ev.step (fun k => by rw [value_All.l0]) ?_
    refine Ev.ifn (by omega) (Ev.ifp (by omega) (Ev.ifp (by omega) ?_))
    have e1 : wrap64 ((i : Int) + 1) = ((i + 1 : Nat) : Int) := by rw [w64 (by omega) (by omega)]; omega
    have er : rd_T24 l i = l[i] := by
      unfold rd_T24; simp [hi]
    rw [e1, er, List.drop_eq_getElem_cons hi, List.all_cons]
    refine Ev.const (good_eq _ _ _) ?_
    have eg : (⟨l[i].f0, l[i].f1, l[i].f2⟩ : S24) = l[i] := rfl
    rw [eg]
    cases hg : good l[i]
    · exact Ev.ifn (by decide) (Ev.ret (by simp))
    · refine Ev.ifp rfl ?_
      rw [Bool.true_and]
      exact all_loop l hn d (i + 1) (by omega)
theorem all_ev (l : List S24) (hn : l.length ≤ 9223372036854775807) : Ev (fun k => value_All.f k l) (l.all good) := by
  refine Ev.congr (fun k => by rw [value_All.f]) ?_
  have := all_loop l hn l.length 0 (by omega)
  simpa using this
theorem all_two (a b : S24) : Ev (fun k => value_All.f k [(⟨a.f0, a.f1, a.f2⟩ : S24), (⟨b.f0, b.f1, b.f2⟩ : S24)]) (good a && good b) := by
  have := all_ev [a, b] (by simp)
  simpa using this

/-- What Cmp tells. -/
def cmpR (a b : S24) : Int × Int := if good a && good b then (vcmp a b, 0) else (0, 1)
theorem cmpR_good {a b : S24} (ha : good a = true) (hb : good b = true) : cmpR a b = (vcmp a b, 0) := by unfold cmpR; rw [ha, hb]; rfl
theorem cmpR_bad {a b : S24} (h : ¬ (good a = true ∧ good b = true)) : cmpR a b = (0, 1) := by
  unfold cmpR
  rw [if_neg (by simpa using h)]
end Go.Proofs.Ytaodnkhpiiepiaa.K
