/-
  Layer 2: how two values stand to each other: what the printed functions come to.
-/
import Derived.Test.YtnoeedkbadoogaaDoorEAr
import Derived.Test.YtnoeedkbadoogaaDoorAxTxt
namespace Go.Proofs.YtnoeedkbadoogaaDoor.E
open Go Go.AX
theorem sign_eq (k : Nat) (a b : Int) : value_sign k a b = some (sgn a b) := by
  unfold value_sign sgn
  simp only [bif_ite, decide_eq_true_eq]
  split
  · rfl
  · by_cases h : b < a
    · rw [if_pos h, if_pos h]
    · rw [if_neg h, if_neg h]
theorem text_j3 {ρ : Type} (k : Nat) (kg kn : ByteArray → ByteArray → Int → Option ρ) (a b : ByteArray) (i : Nat) (ha : i < (by_ a).length) (hb : i < (by_ b).length) (hs : a.size ≤ 9223372036854775807) :
    value_text_j3 k kg kn a b i = if (by_ a)[i] = (by_ b)[i] then kn a b ((i + 1 : Nat) : Int) else kg a b i := by
  have la := by_length a
  have lb := by_length b
  unfold value_text_j3
  rw [chk_pos (by omega), chk_pos (by omega), w64n (by omega), Int.toNat_natCast, rd_by a i ha, rd_by b i hb]
  by_cases h : (by_ a)[i] = (by_ b)[i]
  · simp [h]
  · have : ((by_ a)[i].toNat : Int) ≠ ((by_ b)[i].toNat : Int) := fun e => h (UInt8.toNat_inj.1 (by omega))
    rw [show (((by_ a)[i].toNat : Int) != ((by_ b)[i].toNat : Int)) = true from bne_iff_ne.2 this, if_neg h]; rfl
theorem text_loop {ρ : Type} (k : Nat) (kg : ByteArray → ByteArray → Int → Option ρ) (ke : ByteArray → ByteArray → Option ρ) (F : Int → Option ρ) (a b : ByteArray) (hs : a.size ≤ 9223372036854775807)
    (hg : ∀ (i : Nat) (ha : i < (by_ a).length) (hb : i < (by_ b).length), (by_ a)[i] ≠ (by_ b)[i] → kg a b i = F (if (by_ a)[i] < (by_ b)[i] then -1 else 1)) (he : ke a b = F (sgn a.size b.size)) :
    ∀ (d i n : Nat), i + d = a.size → i ≤ b.size → d < n → value_text_l2 k kg ke n a b i = F (tcmp ((by_ a).drop i) ((by_ b).drop i))
  | d, i, n + 1, hi, hib, hn => by
    have la := by_length a
    have lb := by_length b
    simp only [value_text_l2, value_text_l2_b]
    by_cases h1 : i < a.size
    case neg =>
      rw [show decide ((i : Int) < (a.size : Int)) = false by simp; omega, cond_false, he]
      congr 1
      rw [show (by_ a).drop i = [] from List.drop_eq_nil_of_le (by omega)]
      by_cases h : i < b.size
      · rw [List.drop_eq_getElem_cons (l := by_ b) (i := i) (by omega)]
        simp [tcmp, sgn]; omega
      · rw [show (by_ b).drop i = [] from List.drop_eq_nil_of_le (by omega)]
        simp [tcmp, sgn]; omega
    rw [show decide ((i : Int) < (a.size : Int)) = true by simp; omega, cond_true]
    by_cases h2 : i < b.size
    case neg =>
      rw [show decide ((i : Int) < (b.size : Int)) = false by simp; omega, cond_false, he]
      congr 1
      rw [show (by_ b).drop i = [] from List.drop_eq_nil_of_le (by omega), List.drop_eq_getElem_cons (l := by_ a) (i := i) (by omega)]
      simp [tcmp, sgn]; omega
    rw [show decide ((i : Int) < (b.size : Int)) = true by simp; omega, cond_true, text_j3 k _ _ a b i (by omega) (by omega) hs]
    have hai : i < (by_ a).length := by omega
    have hbi : i < (by_ b).length := by omega
    rw [List.drop_eq_getElem_cons hai, List.drop_eq_getElem_cons hbi]
    by_cases h : (by_ a)[i] = (by_ b)[i]
    · rw [if_pos h]
      match d, hi, hn with
      | d + 1, hi, hn =>
        rw [text_loop k kg ke F a b hs hg he d (i + 1) n (by omega) (by omega) (by omega)]
        simp only [tcmp, h, UInt8.lt_irrefl, if_false]
      | 0, hi, _ => omega
    · rw [if_neg h, hg i hai hbi h]
      simp only [tcmp]
      by_cases h3 : (by_ a)[i] < (by_ b)[i]
      · simp only [h3, if_true]
      · have h4 : (by_ b)[i] < (by_ a)[i] := by
          rcases u8_tri (by_ a)[i] (by_ b)[i] with h5 | h5 | h5
          · contradiction
          · contradiction
          · exact h5
        simp only [h3, h4, if_true, if_false]
theorem otext_eq (k : Nat) (a b : ByteArray) (hs : a.size ≤ 9223372036854775807) (hk : a.size < k) : value_text k a b = some (tcmp (by_ a) (by_ b)) := by
  have la := by_length a
  have lb := by_length b
  unfold value_text
  refine Eq.trans (text_loop k _ _ some a b hs (fun i ha hb hne => ?_) ?_ a.size 0 k (by omega) (by omega) (by omega)) (by simp)
  · have ra := UInt8.toNat_lt (by_ a)[i]; have rb := UInt8.toNat_lt (by_ b)[i]
    rw [chk_pos (by omega), chk_pos (by omega), Int.toNat_natCast, rd_by a i ha, rd_by b i hb, sign_eq, some_bind, w64 (by omega) (by omega), w64 (by omega) (by omega)]
    have hne' : (by_ a)[i].toNat ≠ (by_ b)[i].toNat := fun e => hne (UInt8.toNat_inj.1 e)
    unfold sgn
    by_cases h : (by_ a)[i] < (by_ b)[i]
    · have := UInt8.lt_iff_toNat_lt.1 h
      rw [if_pos h, if_pos (by omega)]
    · have : ¬ (by_ a)[i].toNat < (by_ b)[i].toNat := fun e => h (UInt8.lt_iff_toNat_lt.2 e)
      rw [if_neg h, if_neg (by omega), if_pos (by omega)]
  · simp only [sign_eq, some_bind]
theorem good_says {v : S23} (h : good v = true) : (v.f0 = 0 ∧ v.f1 = 0 ∧ v.f2.size = 0) ∨ (v.f0 = 1 ∧ v.f2.size = 0) ∨ ((v.f0 = 2 ∨ v.f0 = 3) ∧ v.f1 = 0 ∧ v.f2.size ≤ 4096) := by
  unfold good at h
  split at h
  · simp only [Bool.and_eq_true, decide_eq_true_eq] at h; exact .inl ⟨by assumption, h.1, h.2⟩
  · split at h
    · simp only [decide_eq_true_eq] at h; exact .inr (.inl ⟨by assumption, h⟩)
    · split at h
      · simp only [Bool.and_eq_true, decide_eq_true_eq] at h; exact .inr (.inr ⟨by assumption, h.1, h.2⟩)
      · cases h
/-- Two values: which one is the lesser one. -/
def vcmp (a b : S23) : Int := if a.f0 = b.f0 then (if a.f0 = 1 then sgn a.f1 b.f1 else tcmp (by_ a.f2) (by_ b.f2)) else sgn a.f0 b.f0
theorem order_eq (k : Nat) (a b : S23) (hs : a.f2.size ≤ 9223372036854775807) (hk : a.f2.size < k) : value_Order k a b = some (vcmp a b) := by
  unfold value_Order vcmp
  simp only [bif_ite, bne_iff_ne, ne_eq, beq_iff_eq, sign_eq, some_bind, otext_eq k a.f2 b.f2 hs hk]
  by_cases h : a.f0 = b.f0
  · by_cases h1 : a.f0 = 1
    · rw [if_neg (fun e => e h), if_pos h1, if_pos h, if_pos h1]
    · rw [if_neg (fun e => e h), if_neg h1, if_pos h, if_neg h1]
  · rw [if_pos h, if_neg h]
theorem vcmp_neg (a b : S23) : vcmp b a = - vcmp a b := by
  unfold vcmp
  by_cases h : a.f0 = b.f0
  · rw [if_pos h, if_pos h.symm]
    by_cases h1 : a.f0 = 1
    · rw [if_pos h1, if_pos (by omega), sgn_neg]
    · rw [if_neg h1, if_neg (by omega), tcmp_neg]
  · rw [if_neg h, if_neg (fun e => h e.symm), sgn_neg]
theorem vcmp_refl (a : S23) : vcmp a a = 0 := by unfold vcmp sgn; simp [tcmp_refl]
theorem vcmp_cases (a b : S23) : vcmp a b = -1 ∨ vcmp a b = 0 ∨ vcmp a b = 1 := by
  unfold vcmp sgn
  have := tcmp_cases (by_ a.f2) (by_ b.f2)
  repeat' split
  all_goals first | exact this | simp
theorem S23_ext {a b : S23} (h0 : a.f0 = b.f0) (h1 : a.f1 = b.f1) (h2 : a.f2 = b.f2) : a = b := by cases a; cases b; simp_all
theorem vcmp_eq {a b : S23} (ha : good a = true) (hb : good b = true) (h : vcmp a b = 0) : a = b := by
  have ga := good_says ha; have gb := good_says hb
  unfold vcmp sgn at h
  by_cases h0 : a.f0 = b.f0
  · rw [if_pos h0] at h
    by_cases h1 : a.f0 = 1
    · rw [if_pos h1] at h
      have hn : a.f1 = b.f1 := by
        split at h
        · omega
        · split at h <;> omega
      refine S23_ext h0 hn (by_inj ?_)
      rw [size_nil (s := a.f2) (by omega), size_nil (s := b.f2) (by omega)]
    · rw [if_neg h1] at h
      exact S23_ext h0 (by omega) (by_inj (tcmp_eq _ _ h))
  · rw [if_neg h0] at h
    split at h
    · omega
    · split at h <;> omega
theorem vcmp_trans (a b c : S23) (h1 : vcmp a b ≤ 0) (h2 : vcmp b c ≤ 0) : vcmp a c ≤ 0 ∧ (vcmp a b < 0 ∨ vcmp b c < 0 → vcmp a c < 0) := by
  unfold vcmp at *
  by_cases hab : a.f0 = b.f0
  · rw [if_pos hab] at h1
    by_cases hbc : b.f0 = c.f0
    · rw [if_pos hbc] at h2
      rw [if_pos hab, if_pos hbc, if_pos (hab.trans hbc)]
      by_cases ha1 : a.f0 = 1
      · have hb1 : b.f0 = 1 := by omega
        simp only [if_pos ha1, if_pos hb1] at h1 h2 ⊢
        exact sgn_trans _ _ _ h1 h2
      · have hb1 : ¬ b.f0 = 1 := by omega
        simp only [if_neg ha1, if_neg hb1] at h1 h2 ⊢
        exact tcmp_trans _ _ _ h1 h2
    · rw [if_neg hbc] at h2
      rw [if_pos hab, if_neg hbc, if_neg (by omega), hab]
      have : sgn b.f0 c.f0 < 0 := by unfold sgn at h2 ⊢; split at h2 <;> (try split at h2) <;> (repeat' split) <;> omega
      exact ⟨h2, fun _ => this⟩
  · rw [if_neg hab] at h1
    have hl : a.f0 < b.f0 := by unfold sgn at h1; split at h1 <;> (try split at h1) <;> omega
    have hle : b.f0 ≤ c.f0 := by
      by_cases hbc : b.f0 = c.f0
      · omega
      · rw [if_neg hbc] at h2; unfold sgn at h2; split at h2 <;> (try split at h2) <;> omega
    rw [if_neg hab, if_neg (show ¬ a.f0 = c.f0 by omega)]
    have e : sgn a.f0 c.f0 = -1 := by unfold sgn; rw [if_pos (by omega)]
    rw [e]; exact ⟨by decide, fun _ => by decide⟩

end Go.Proofs.YtnoeedkbadoogaaDoor.E
