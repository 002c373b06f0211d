/-
  Layer 6: the printed functions that decode come to the reading by the page.
-/
import Derived.Test.YtekjibpkkgldgaaRDec
namespace Go.Proofs.Ytekjibpkkgldgaa.R
open Go Go.AX

theorem dropl (b : List Int) (m : Nat) : ((b.drop ((m : Int)).toNat).take ((b.length : Int).toNat - ((m : Int)).toNat)) = b.drop m := by
  simp only [Int.toNat_natCast, drop_all]
theorem gs_le {l : List Int} (hl : IsB l) : 0 ≤ (gs l 9 0).1 ∧ ∃ m : Nat, (gs l 9 0).2.1 = m ∧ m ≤ l.length := by
  by_cases h : (gs l 9 0).2.2 = 0
  · obtain ⟨n, m, e, h1, h2, h3, h4, h5⟩ := gs_ok hl h
    rw [e]; exact ⟨h4, m, rfl, h2⟩
  · rw [gs_bad hl h]; exact ⟨by decide, 0, rfl, by omega⟩

theorem decR_bad {b : List Int} (h : ¬ ((gs b 9 0).2.2 = 0 ∧ (gs b 9 0).1 ≤ 17)) : decR b = ([], 1) := by
  have hp : parse b = none := by unfold parse; exact if_neg h
  unfold decR
  rw [hp]
  split <;> rfl
theorem eqb_ne (k : Nat) (a b : List Int) (hn : b.length ≤ 9223372036854775807) (hk : b.length < k) (h : a ≠ b) : cadastreref0_EqBytes k a b = some false := by
  by_cases hl : a.length = b.length
  · rw [eqb k a b (by omega) (by omega), decide_eq_false h]
  · unfold cadastreref0_EqBytes
    rw [show ((a.length : Int) != (b.length : Int)) = true by simp; omega, cond_true]

/-! ### the program -/
section
variable {ρ : Type} (k : Nat) (hk : 40 ≤ k)
include hk
theorem dec_l8 (kgoto : Option ρ) (kexit : List S44 → List Int → List Int → Option ρ) (l4 : List S44) (N : Nat) (hN : N ≤ 1000) : ∀ (d i n : Nat) (ts r : List Int), i + d = N → d < n → ts.length = i → IsB r → r.length ≤ 140737488351232 →
    record_Decode_l8 k kgoto kexit n l4 ts r (N : Int) (i : Int) = (readT d r).elim kgoto (fun p => kexit l4 (ts ++ p.1) p.2)
  | 0, i, n + 1, ts, r, hi, _, _, _, _ => by
    simp only [record_Decode_l8, record_Decode_l8_b]
    rw [decide_eq_false (by omega), cond_false]
    simp [readT]
  | d + 1, i, n + 1, ts, r, hi, hn, ht, hr, hl => by
    simp only [record_Decode_l8, record_Decode_l8_b, readT]
    rw [decide_eq_true (by omega), cond_true, get_eq k (by omega) hr (by omega), some_bind]
    by_cases h : (gs r 9 0).2.2 = 0
    · obtain ⟨_, m, hm, hle⟩ := gs_le hr
      rw [show ((gs r 9 0).2.2 != 0) = false by simp [h], cond_false, if_pos h, chk_pos (by simp only [List.length_cons, List.length_nil]; omega), hm, chk_pos (by omega), dropl, Int.toNat_natCast,
        show IntKind.u64.wrap ((i : Int) + 1) = ((i + 1 : Nat) : Int) by rw [wrap_u64]; omega,
        dec_l8 kgoto kexit l4 N hN d (i + 1) n _ _ (by omega) (by omega) (by simp [ht]) (isB_drop hr m) (by simp; omega)]
      cases readT d (r.drop m) with
      | none => rfl
      | some p => simp
    · rw [show ((gs r 9 0).2.2 != 0) = true by simp [h], cond_true, if_neg h]; rfl
theorem dec_l15 (kgoto : Option ρ) (kexit : List S44 → List Int → Option ρ) (ts : List Int) (hN : ts.length ≤ 1000) (hts : ∀ t ∈ ts, 0 ≤ t ∧ t < 18446744073709551616) : ∀ (d i n : Nat) (l : List S44) (r : List Int), i + d = ts.length → d < n → l.length = i → IsB r → r.length ≤ 140737488351232 →
    record_Decode_l15 k kgoto kexit n l ts r (ts.length : Int) (i : Int) = (readV takev (ts.drop i) r).elim kgoto (fun p => kexit (l ++ p.1) p.2)
  | 0, i, n + 1, l, r, hi, _, _, _, _ => by
    simp only [record_Decode_l15, record_Decode_l15_b]
    rw [decide_eq_false (by omega), cond_false, List.drop_eq_nil_of_le (by omega)]
    simp [readV]
  | d + 1, i, n + 1, l, r, hi, hn, ht, hr, hl => by
    have htt := hts _ (getD_mem (d := 0) (show i < ts.length by omega))
    obtain ⟨x, e, hx1, hx2⟩ := take_eq k (by omega) htt.1 htt.2 hr hl
    simp only [record_Decode_l15, record_Decode_l15_b]
    rw [decide_eq_true (by omega), cond_true, chk_pos (by omega), Int.toNat_natCast, e, some_bind, List.drop_eq_getElem_cons (show i < ts.length by omega), ← getD_get ts i 0 (by omega)]
    simp only [readV]
    cases hq : takev (ts.getD i 0) r with
    | none => rw [hx2 hq]; rfl
    | some p =>
      obtain ⟨h1, h2, h3, h4, h5⟩ := takev_says htt.1 hr (v := p.1) (r' := p.2) hq
      have hlen : p.2.length ≤ r.length := by rw [h2, List.length_append]; omega
      rw [hx1 p hq, some_bind]
      simp only [Bool.not_true, cond_false]
      rw [chk_pos (by simp only [List.length_cons, List.length_nil]; omega), w64n (by omega), dec_l15 kgoto kexit ts hN hts d (i + 1) n _ _ (by omega) (by omega) (by simp [ht]) h5 (by omega)]
      cases readV takev (ts.drop (i + 1)) p.2 with
      | none => rfl
      | some q => simp
theorem dec_eq {b : List Int} (hb : IsB b) (hl : b.length ≤ 140737488351232) : record_Decode k b = some (decR b) := by
  unfold record_Decode
  obtain ⟨h0, m, hm, hle⟩ := gs_le hb
  rw [get_eq k (by omega) hb (by omega), some_bind]
  by_cases h : (gs b 9 0).2.2 = 0
  · rw [show ((gs b 9 0).2.2 != 0) = false by simp [h], cond_false]
    by_cases h17 : (gs b 9 0).1 ≤ 17
    · rw [decide_eq_false (by omega), cond_false, bigd]
      by_cases hs : 16384 < b.length
      · rw [decide_eq_true (by omega), cond_true]
        unfold decR; rw [if_pos hs]
      · rw [decide_eq_false (by omega), cond_false]
        have hd : decR b = match parse b with | some (l, []) => (l, 0) | _ => ([], 1) := by unfold decR; exact if_neg hs
        unfold record_Decode_j6
        rw [hm, chk_pos (by omega), dropl]
        obtain ⟨N, hN⟩ : ∃ N : Nat, (gs b 9 0).1 = N := ⟨(gs b 9 0).1.toNat, by omega⟩
        have hpar : parse b = (readT N (b.drop m)).bind fun p => readV takev p.1 p.2 := by
          unfold parse; rw [if_pos ⟨h, h17⟩, hm, hN]; simp only [Int.toNat_natCast]
        rw [hN]
        refine Eq.trans (dec_l8 k hk _ _ [] N (by omega) N 0 k [] (b.drop m) (by omega) (by omega) rfl (isB_drop hb m) (by simp; omega)) ?_
        rw [hd, hpar]
        cases hq : readT N (b.drop m) with
        | none => rfl
        | some p =>
          obtain ⟨g1, g2, g3, g4⟩ := readT_says N (b.drop m) p.1 p.2 (isB_drop hb m) hq
          have hlen : p.2.length ≤ b.length := by
            have := congrArg List.length g1
            rw [List.length_append, List.length_drop] at this; omega
          simp only [Option.elim_some, List.nil_append, some_bind]
          refine Eq.trans (dec_l15 k hk _ _ p.1 (by omega) g3 p.1.length 0 k [] p.2 (by omega) (by omega) rfl g4 (by omega)) ?_
          rw [List.drop_zero]
          cases readV takev p.1 p.2 with
          | none => rfl
          | some q =>
            obtain ⟨l, r⟩ := q
            cases r with
            | nil => rfl
            | cons y ys =>
              simp only [Option.elim_some, List.nil_append]
              rw [show (((y :: ys).length : Int) == 0) = false by simp only [List.length_cons, beq_eq_false_iff_ne]; omega, cond_false]
    · rw [decide_eq_true (by omega), cond_true, decR_bad (fun c => h17 c.2)]
  · rw [show ((gs b 9 0).2.2 != 0) = true by simp [h], cond_true, decR_bad (fun c => h c.1)]
end

/-! ### the page -/
theorem readV_mono : ∀ (ts r : List Int) (p : List S44 × List Int), readV takev ts r = some p → readV val ts r = some p
  | [], r, p, h => h
  | t :: ts, r, p, h => by
    simp only [readV] at h ⊢
    cases hq : takev t r with
    | none => rw [hq] at h; cases h
    | some q =>
      rw [hq, some_bind] at h
      have hv : val t r = some q := by
        unfold takev at hq
        cases hv : val t r with
        | none => rw [hv] at hq; cases hq
        | some z =>
          rw [hv, some_bind] at hq
          split at hq
          · exact hq
          · cases hq
      rw [hv, some_bind]
      cases hz : readV takev ts q.2 with
      | none => rw [hz] at h; cases h
      | some z => rw [hz] at h; rw [readV_mono ts q.2 z hz]; exact h
section
variable {ρ : Type} (k : Nat) (hk : 40 ≤ k)
include hk
theorem rdec_l6 (kret : List S44 → Bool → Option ρ) (kexit : List Int → Int → List Int → Option ρ) (N : Nat) (hN : N ≤ 1000) {b : List Int} (hb : IsB b) (hl : b.length ≤ 140737488351232) : ∀ (d i n m : Nat) (ts : List Int), i + d = N → d < n → ts.length = i → m ≤ b.length →
    (readT d (b.drop m) = none ∧ cadastreref6_Decode_l6 k kret kexit n b (N : Int) (m : Int) ts (i : Int) = kret [] false) ∨
    ∃ us m', m' ≤ b.length ∧ readT d (b.drop m) = some (us, b.drop m') ∧ cadastreref6_Decode_l6 k kret kexit n b (N : Int) (m : Int) ts (i : Int) = kexit b (m' : Int) (ts ++ us)
  | 0, i, n + 1, m, ts, hi, _, _, hm => by
    refine .inr ⟨[], m, hm, rfl, ?_⟩
    simp only [cadastreref6_Decode_l6, cadastreref6_Decode_l6_b]
    rw [decide_eq_false (by omega), cond_false, List.append_nil]
  | d + 1, i, n + 1, m, ts, hi, hn, ht, hm => by
    have hbd := isB_drop hb m
    simp only [cadastreref6_Decode_l6, cadastreref6_Decode_l6_b, readT]
    rw [decide_eq_true (by omega), cond_true, chk_pos (by omega), dropl, rget_eq k hk hbd (by simp; omega), some_bind]
    by_cases h : (gs (b.drop m) 9 0).2.2 = 0
    · obtain ⟨t, j, e, h1, h2, h3, h4, h5⟩ := gs_ok hbd h
      rw [e]
      simp only [List.length_drop] at h2
      rw [show ((two (t, (j : Int), 0)).2 == 0) = false by simp only [two, beq_eq_false_iff_ne]; omega, cond_false, if_pos rfl, chk_pos (by simp only [List.length_cons, List.length_nil]; omega)]
      simp only [two, Int.toNat_natCast, List.drop_drop]
      rw [show IntKind.u64.wrap ((i : Int) + 1) = ((i + 1 : Nat) : Int) by rw [wrap_u64]; omega, w64 (by omega) (by omega), show (m : Int) + (j : Int) = ((m + j : Nat) : Int) by omega]
      rcases rdec_l6 kret kexit N hN hb hl d (i + 1) n (m + j) (ts ++ [t]) (by omega) (by omega) (by simp [ht]) (by omega) with ⟨g1, g2⟩ | ⟨us, m', g0, g1, g2⟩
      · rw [g1, g2]; exact .inl ⟨rfl, rfl⟩
      · rw [g1, g2]; exact .inr ⟨t :: us, m', g0, rfl, by simp⟩
    · rw [gs_bad hbd h]
      exact .inl ⟨if_neg (by decide), rfl⟩
theorem rdec_l15 (kret : List S44 → Bool → Option ρ) (kexit : List Int → Int → List S44 → Option ρ) (ts : List Int) (hN : ts.length ≤ 1000) (hts : ∀ t ∈ ts, 0 ≤ t ∧ t < 18446744073709551616) {b : List Int} (hb : IsB b) (hl : b.length ≤ 140737488351232) : ∀ (d i n m : Nat) (l : List S44), i + d = ts.length → d < n → l.length = i → m ≤ b.length → 
    (readV val (ts.drop i) (b.drop m) = none ∧ cadastreref6_Decode_l15 k kret kexit n b (m : Int) ts l (i : Int) = kret [] false) ∨
    ∃ us m', m' ≤ b.length ∧ us.length = d ∧ us.all good = true ∧ (∀ v ∈ us, vok v) ∧ readV val (ts.drop i) (b.drop m) = some (us, b.drop m') ∧ cadastreref6_Decode_l15 k kret kexit n b (m : Int) ts l (i : Int) = kexit b (m' : Int) (l ++ us)
  | 0, i, n + 1, m, l, hi, _, _, hm => by
    refine .inr ⟨[], m, hm, rfl, rfl, by simp, by rw [List.drop_eq_nil_of_le (by omega)]; rfl, ?_⟩
    simp only [cadastreref6_Decode_l15, cadastreref6_Decode_l15_b]
    rw [decide_eq_false (by omega), cond_false, List.append_nil]
  | d + 1, i, n + 1, m, l, hi, hn, ht, hm => by
    have hbd := isB_drop hb m
    have htt := hts _ (getD_mem (d := 0) (show i < ts.length by omega))
    simp only [cadastreref6_Decode_l15, cadastreref6_Decode_l15_b]
    rw [decide_eq_true (by omega), cond_true, chk_pos (by omega), chk_pos (by omega), dropl, Int.toNat_natCast, List.drop_eq_getElem_cons (show i < ts.length by omega), ← getD_get ts i 0 (by omega)]
    simp only [readV]
    rcases value_eq k (by omega) htt.1 htt.2 hbd (by simp; omega) with ⟨g1, x, g2, g3⟩ | ⟨v, j, g1, g2, g3⟩
    · rw [g1, g2, some_bind, g3]; exact .inl ⟨rfl, rfl⟩
    · obtain ⟨v1, v2, _, _, _⟩ := val_says htt.1 hbd g1
      rw [g1, g3, some_bind, some_bind]
      simp only [List.length_drop] at g2
      simp only [Bool.not_true, cond_false, List.drop_drop]
      rw [chk_pos (by simp only [List.length_cons, List.length_nil]; omega), w64n (by omega), w64 (by omega) (by omega), show (m : Int) + (j : Int) = ((m + j : Nat) : Int) by omega]
      rcases rdec_l15 kret kexit ts hN hts hb hl d (i + 1) n (m + j) (l ++ [v]) (by omega) (by omega) (by simp [ht]) (by omega) with ⟨g1, g2⟩ | ⟨us, m', g0, g4, g5, g6, g1, g2⟩
      · rw [g1, g2]; exact .inl ⟨rfl, rfl⟩
      · rw [g1, g2]
        refine .inr ⟨v :: us, m', g0, by simp [g4], by simp only [List.all_cons, v1, g5, Bool.and_self], ?_, rfl, by simp⟩
        intro y hy
        rcases List.mem_cons.1 hy with rfl | hy
        · exact v2
        · exact g6 y hy
theorem rdec_eq {b : List Int} (hb : IsB b) (hl : b.length ≤ 140737488351232) (hkb : 17000 ≤ k) : cadastreref6_Decode k b = some (if (decR b).2 = 0 then ((decR b).1, true) else ([], false)) := by
  unfold cadastreref6_Decode
  obtain ⟨h0, m, hm, hle⟩ := gs_le hb
  rw [rget_eq k hk hb hl, some_bind]
  by_cases h : (gs b 9 0).2.2 = 0
  · obtain ⟨t, j, e, h1, h2, h3, h4, h5⟩ := gs_ok hb h
    rw [e] at hm h0 ⊢
    rw [show ((two (t, (j : Int), 0)).2 == 0) = false by simp only [two, beq_eq_false_iff_ne]; omega, cond_false]
    by_cases h17 : t ≤ 17
    · rw [decide_eq_false (p := (two (t, (j : Int), 0)).1 > 17) (show ¬ t > 17 by omega), cond_false, bigd]
      by_cases hs : 16384 < b.length
      · rw [decide_eq_true (by omega), cond_true]
        unfold decR; rw [if_pos hs]; rfl
      · rw [decide_eq_false (by omega), cond_false]
        simp only [two]
        unfold cadastreref6_Decode_j4
        obtain ⟨N, rfl⟩ : ∃ N : Nat, t = N := ⟨t.toNat, by omega⟩
        have hpar : parse b = (readT N (b.drop j)).bind fun p => readV takev p.1 p.2 := by
          unfold parse; rw [e, if_pos ⟨rfl, h17⟩]; simp only [Int.toNat_natCast]
        have bad : parse b = none → (decR b) = ([], 1) := fun hp => by unfold decR; rw [if_neg hs, hp]
        rcases rdec_l6 k hk (fun t2 t3 => some (t2, t3)) (fun b0 at5 types6 => cadastreref6_Decode_l15 k (fun t2 t3 => some (t2, t3)) (fun b0 at5 l10 => bif (at5 != (b0.length : Int)) then some ([], false) else
            (cadastreref6_Record k l10).bind fun r => (cadastreref0_EqBytes k r b0).bind fun r => bif (!r) then some ([], false) else some (l10, true)) k b0 at5 types6 [] 0) N (by omega) hb hl N 0 k j [] (by omega) (by omega) rfl h2 with ⟨g1, g2⟩ | ⟨us, m', g0, g1, g2⟩
        · refine Eq.trans g2 ?_
          rw [bad (by rw [hpar, g1]; rfl)]; rfl
        · obtain ⟨q1, q2, q3, q4⟩ := readT_says N (b.drop j) us _ (isB_drop hb j) g1
          refine Eq.trans g2 ?_
          rw [List.nil_append]
          rcases rdec_l15 k hk (fun t2 t3 => some (t2, t3)) (fun b0 at5 l10 => bif (at5 != (b0.length : Int)) then some ([], false) else
            (cadastreref6_Record k l10).bind fun r => (cadastreref0_EqBytes k r b0).bind fun r => bif (!r) then some ([], false) else some (l10, true)) us (by omega) q3 hb hl us.length 0 k m' [] (by omega) (by omega) rfl g0 with ⟨w1, w2⟩ | ⟨l, m2, w0, w4, w5, w6, w1, w2⟩
          · refine Eq.trans w2 ?_
            rw [List.drop_zero] at w1
            rw [bad]; · rfl
            rw [hpar, g1, some_bind]
            cases hz : readV takev us (b.drop m') with
            | none => rfl
            | some z => rw [readV_mono us _ z hz] at w1; cases w1
          · refine Eq.trans w2 ?_
            rw [List.drop_zero] at w1
            rw [List.nil_append]
            have hdec : ∀ l' r', parse b = some (l', r') → l' = l ∧ r' = b.drop m2 := by
              intro l' r' hp
              rw [hpar, g1, some_bind] at hp
              have := readV_mono us _ _ hp
              rw [w1] at this; cases this; exact ⟨rfl, rfl⟩
            by_cases hm2 : m2 = b.length
            · rw [show ((m2 : Int) != (b.length : Int)) = false by simp [hm2], cond_false, rrec_eq k hk l w6 w5 (by omega) (by omega), some_bind]
              have hh := heads_length l
              have hbb := bodies_length l w5
              have hp := put_length (l.length : Int)
              have hle : (encv l).length ≤ 1000000000 := by unfold encv; rw [List.length_append, List.length_append]; omega
              by_cases heq : encv l = b
              · rw [eqb k _ _ (by omega) (by rw [heq]; omega), some_bind, decide_eq_true heq]
                have := decR_enc w5 w6 (by omega) (by rw [heq]; omega)
                rw [heq] at this
                rw [this]; rfl
              · rw [eqb_ne k _ _ (by omega) (by omega) heq, some_bind]
                have : decR b = ([], 1) := by
                  rcases decR_says hb with c | ⟨c1, c2, c3, c4, c5, c6⟩
                  · exact c
                  · have hpe := parse_enc (decR b).1 [] c3 c4 c5
                    rw [List.append_nil, ← c2] at hpe
                    rw [(hdec _ _ hpe).1] at c2
                    exact absurd c2.symm heq
                rw [this]; rfl
            · rw [show ((m2 : Int) != (b.length : Int)) = true by simp; omega, cond_true]
              have : decR b = ([], 1) := by
                rcases decR_says hb with c | ⟨c1, c2, c3, c4, c5, c6⟩
                · exact c
                · have hpe := parse_enc (decR b).1 [] c3 c4 c5
                  rw [List.append_nil, ← c2] at hpe
                  have := (hdec _ _ hpe).2
                  have := congrArg List.length this
                  simp at this; omega
              rw [this]; rfl
    · rw [decide_eq_true (p := (two (t, (j : Int), 0)).1 > 17) (show t > 17 by omega), cond_true]
      have : decR b = ([], 1) := decR_bad (by rw [e]; exact fun c => h17 c.2)
      rw [this]; rfl
  · rw [gs_bad hb h]
    have : decR b = ([], 1) := decR_bad (fun c => h c.1)
    rw [this]; rfl
end

/-! ### the laws' own helpers -/
theorem copy_l3 {ρ : Type} (k : Nat) (kexit : List Int → Option ρ) (l : List Int) (hl : l.length ≤ 140737488351232) : ∀ (d i n : Nat), i + d = l.length → d < n → cadastreref0_CopyBytes_l3 k kexit n l (l.take i) i = kexit l
  | 0, i, n + 1, hi, _ => by
    simp only [cadastreref0_CopyBytes_l3, cadastreref0_CopyBytes_l3_b]
    rw [decide_eq_false (by omega), cond_false, List.take_of_length_le (by omega)]
  | d + 1, i, n + 1, hi, hn => by
    simp only [cadastreref0_CopyBytes_l3, cadastreref0_CopyBytes_l3_b]
    rw [decide_eq_true (by omega), cond_true, chk_pos (by omega), Int.toNat_natCast, chk_pos (by simp only [List.length_take, List.length_cons, List.length_nil]; omega), w64n (by omega),
      getD_get l i 0 (by omega), show l.take i ++ [l[i]] = l.take (i + 1) by rw [List.take_succ_eq_append_getElem (by omega)]]
    exact copy_l3 k kexit l hl d (i + 1) n (by omega) (by omega)
theorem copy_eq (k : Nat) (l : List Int) (hl : l.length ≤ 140737488351232) (hk : l.length < k) : cadastreref0_CopyBytes k l = some l := by
  unfold cadastreref0_CopyBytes
  have := copy_l3 k (fun m => some m) l hl l.length 0 k (by omega) hk
  rw [List.take_zero] at this
  exact this
theorem eqv_l4 {ρ : Type} (k : Nat) (kret : Bool → Option ρ) (kexit : Option ρ) (l : List S44) (hl : l.length ≤ 1000000000000) : ∀ (d i n : Nat), i + d = l.length → d < n → cadastreref0_EqValues_l4 k kret kexit n l l i = kexit
  | 0, i, n + 1, hi, _ => by
    simp only [cadastreref0_EqValues_l4, cadastreref0_EqValues_l4_b]
    rw [decide_eq_false (by omega), cond_false]
  | d + 1, i, n + 1, hi, hn => by
    simp only [cadastreref0_EqValues_l4, cadastreref0_EqValues_l4_b]
    rw [decide_eq_true (by omega), cond_true, chk_pos (by omega), chk_pos (by omega), same_false, cond_false, w64n (by omega)]
    exact eqv_l4 k kret kexit l hl d (i + 1) n (by omega) (by omega)
theorem eqv_refl (k : Nat) (l : List S44) (hl : l.length ≤ 1000000000000) (hk : l.length < k) : cadastreref0_EqValues k l l = some true := by
  unfold cadastreref0_EqValues
  rw [show ((l.length : Int) != (l.length : Int)) = false by simp, cond_false]
  exact eqv_l4 k _ _ l hl l.length 0 k (by omega) hk
end Go.Proofs.Ytekjibpkkgldgaa.R
