/-
  Layer 6: what any bytes hold, by the program and by the page.
-/
import Derived.Test.YtekjibpkkgldgaaRDv
namespace Go.Proofs.Ytekjibpkkgldgaa.R
open Go Go.AX

def readT : Nat → List Int → Option (List Int × List Int)
  | 0, r => some ([], r)
  | n + 1, r => if (gs r 9 0).2.2 = 0 then (readT n (r.drop (gs r 9 0).2.1.toNat)).map fun p => ((gs r 9 0).1 :: p.1, p.2) else none
def readV (f : Int → List Int → Option (S44 × List Int)) : List Int → List Int → Option (List S44 × List Int)
  | [], r => some ([], r)
  | t :: ts, r => (f t r).bind fun p => (readV f ts p.2).map fun q => (p.1 :: q.1, q.2)
def parse (b : List Int) : Option (List S44 × List Int) :=
  if (gs b 9 0).2.2 = 0 ∧ (gs b 9 0).1 ≤ 17 then (readT (gs b 9 0).1.toNat (b.drop (gs b 9 0).2.1.toNat)).bind fun p => readV takev p.1 p.2 else none
/-- What bytes hold, or that they are no record. -/
def decR (b : List Int) : List S44 × Int := if 16384 < b.length then ([], 1) else match parse b with | some (l, []) => (l, 0) | _ => ([], 1)

/-! ### the reading and the bytes -/
theorem gs_ok {l : List Int} (hl : IsB l) (h : (gs l 9 0).2.2 = 0) : ∃ (n : Int) (m : Nat), gs l 9 0 = (n, (m : Int), 0) ∧ 1 ≤ m ∧ m ≤ l.length ∧ put n = l.take m ∧ 0 ≤ n ∧ n < 18446744073709551616 := by
  rcases gs_says hl 9 0 rfl (fun j hj => by omega) (by omega) (by omega) with e | ⟨n, m, e, h1, h2, _, h3, h4, h5⟩
  · rw [e] at h; simp at h
  · exact ⟨n, m, e, h1, h2, h3, h4, h5⟩
theorem gs_bad {l : List Int} (hl : IsB l) (h : ¬ (gs l 9 0).2.2 = 0) : gs l 9 0 = (0, 0, 1) := by
  rcases gs_says hl 9 0 rfl (fun j hj => by omega) (by omega) (by omega) with e | ⟨n, m, e, _⟩
  · exact e
  · rw [e] at h; exact absurd rfl h
theorem isB_drop {l : List Int} (h : IsB l) (n : Nat) : IsB (l.drop n) := fun y hy => h y (List.mem_of_mem_drop hy)
theorem readT_says : ∀ (n : Nat) (r ts r' : List Int), IsB r → readT n r = some (ts, r') → r = (ts.flatMap put) ++ r' ∧ ts.length = n ∧ (∀ t ∈ ts, 0 ≤ t ∧ t < 18446744073709551616) ∧ IsB r'
  | 0, r, ts, r', hr, h => by cases h; exact ⟨rfl, rfl, by simp, hr⟩
  | n + 1, r, ts, r', hr, h => by
    simp only [readT] at h
    split at h
    · rename_i h0
      obtain ⟨t, m, e, h1, h2, h3, h4, h5⟩ := gs_ok hr h0
      rw [e] at h
      simp only [Int.toNat_natCast] at h
      cases hq : readT n (r.drop m) with
      | none => rw [hq] at h; cases h
      | some p =>
        rw [hq] at h
        cases h
        obtain ⟨g1, g2, g3, g4⟩ := readT_says n (r.drop m) p.1 p.2 (isB_drop hr m) hq
        refine ⟨?_, by simp [g2], ?_, g4⟩
        · rw [List.flatMap_cons, h3, List.append_assoc, ← g1, List.take_append_drop]
        · intro x hx
          rcases List.mem_cons.1 hx with rfl | hx
          · exact ⟨h4, h5⟩
          · exact g3 x hx
    · cases h
theorem readT_put : ∀ (ts : List Int) (s : List Int), (∀ t ∈ ts, 0 ≤ t ∧ t < 18446744073709551616) → readT ts.length (ts.flatMap put ++ s) = some (ts, s)
  | [], s, _ => rfl
  | t :: ts, s, h => by
    have ht := h t List.mem_cons_self
    have hg := get_put t ht.1 ht.2 (ts.flatMap put ++ s)
    simp only [List.length_cons, readT]
    rw [List.flatMap_cons, List.append_assoc, hg, if_pos rfl]
    simp only [Int.toNat_natCast]
    rw [List.drop_append_of_le_length (Nat.le_refl _), List.drop_of_length_le (Nat.le_refl _), List.nil_append, readT_put ts s fun x hx => h x (List.mem_cons_of_mem _ hx)]
    rfl
theorem readV_says : ∀ (ts r : List Int) (l : List S44) (r' : List Int), (∀ t ∈ ts, 0 ≤ t ∧ t < 18446744073709551616) → IsB r → readV takev ts r = some (l, r') → r = bodies l ++ r' ∧ ts = l.map kindv ∧ l.all good = true ∧ (∀ v ∈ l, vok v) ∧ IsB r'
  | [], r, l, r', _, hr, h => by cases h; exact ⟨rfl, rfl, rfl, by simp, hr⟩
  | t :: ts, r, l, r', ht, hr, h => by
    simp only [readV] at h
    cases hq : takev t r with
    | none => rw [hq] at h; cases h
    | some p =>
      rw [hq, some_bind] at h
      obtain ⟨h1, h2, h3, h4, h5⟩ := takev_says (ht t List.mem_cons_self).1 hr (v := p.1) (r' := p.2) hq
      cases hz : readV takev ts p.2 with
      | none => rw [hz] at h; cases h
      | some q =>
        rw [hz] at h
        cases h
        obtain ⟨g1, g2, g3, g4, g5⟩ := readV_says ts p.2 q.1 q.2 (fun x hx => ht x (List.mem_cons_of_mem _ hx)) h5 hz
        refine ⟨?_, by simp [h1, g2], by simp [h3]; simpa using g3, ?_, g5⟩
        · show r = List.flatMap bodyv (p.1 :: q.1) ++ q.2
          rw [List.flatMap_cons, List.append_assoc]
          have g1' : p.2 = List.flatMap bodyv q.1 ++ q.2 := g1
          rw [← g1']; exact h2
        · intro x hx
          rcases List.mem_cons.1 hx with rfl | hx
          · exact h4
          · exact g4 x hx
theorem readV_body : ∀ (l : List S44) (s : List Int), l.all good = true → (∀ v ∈ l, vok v) → readV takev (l.map kindv) (bodies l ++ s) = some (l, s)
  | [], s, _, _ => rfl
  | v :: l, s, hg, hv => by
    simp only [List.all_cons, Bool.and_eq_true] at hg
    have e : bodies (v :: l) ++ s = bodyv v ++ (bodies l ++ s) := by
      show List.flatMap bodyv (v :: l) ++ s = _
      rw [List.flatMap_cons, List.append_assoc]; rfl
    simp only [List.map_cons, readV]
    rw [e, takev_body hg.1 (hv v List.mem_cons_self), some_bind, readV_body l s hg.2 fun x hx => hv x (List.mem_cons_of_mem _ hx)]
    rfl
theorem heads_map (l : List S44) : heads l = (l.map kindv).flatMap put := by unfold heads; rw [List.flatMap_map]
theorem encv_byte (l : List S44) (hg : l.all good = true) : IsB (encv l) := by
  intro y hy
  unfold encv at hy
  rcases List.mem_append.1 hy with h | h
  · exact put_byte _ y h
  rcases List.mem_append.1 h with h | h
  · obtain ⟨v, _, h⟩ := List.mem_flatMap.1 h
    exact put_byte _ y h
  · obtain ⟨v, _, h⟩ := List.mem_flatMap.1 h
    unfold bodyv at h
    split at h
    · exact bl_byte _ _ y h
    · exact bytesOf_byte _ y h
theorem parse_enc (l : List S44) (s : List Int) (hg : l.all good = true) (hv : ∀ v ∈ l, vok v) (h17 : l.length ≤ 17) : parse (encv l ++ s) = some (l, s) := by
  have e : encv l ++ s = put (l.length : Int) ++ (((l.map kindv).flatMap put) ++ (bodies l ++ s)) := by unfold encv; rw [heads_map]; simp [List.append_assoc]
  have hgp := get_put (l.length : Int) (by omega) (by omega) (((l.map kindv).flatMap put) ++ (bodies l ++ s))
  unfold parse
  rw [e, hgp, if_pos ⟨rfl, by simp only; omega⟩]
  simp only [Int.toNat_natCast]
  rw [List.drop_append_of_le_length (Nat.le_refl _), List.drop_of_length_le (Nat.le_refl _), List.nil_append]
  have := readT_put (l.map kindv) (bodies l ++ s) (fun t ht => by obtain ⟨v, hv', rfl⟩ := List.mem_map.1 ht; exact kindv_range v (hv v hv'))
  rw [List.length_map] at this
  rw [this, some_bind]
  exact readV_body l s hg hv
theorem parse_says {b : List Int} (hb : IsB b) {l : List S44} {r : List Int} (h : parse b = some (l, r)) : b = encv l ++ r ∧ l.all good = true ∧ (∀ v ∈ l, vok v) ∧ l.length ≤ 17 := by
  unfold parse at h
  split at h
  · rename_i h0
    obtain ⟨n, m, e, h1, h2, h3, h4, h5⟩ := gs_ok hb h0.1
    rw [e] at h h0
    simp only [Int.toNat_natCast] at h h0
    cases hq : readT n.toNat (b.drop m) with
    | none => rw [hq] at h; cases h
    | some p =>
      rw [hq, some_bind] at h
      obtain ⟨g1, g2, g3, g4⟩ := readT_says n.toNat (b.drop m) p.1 p.2 (isB_drop hb m) hq
      obtain ⟨k1, k2, k3, k4, k5⟩ := readV_says p.1 p.2 l r g3 g4 h
      have hlen : (l.length : Int) = n := by
        have : p.1.length = l.length := by rw [k2, List.length_map]
        omega
      refine ⟨?_, k3, k4, by omega⟩
      unfold encv
      rw [hlen, h3, heads_map, ← k2, List.append_assoc, List.append_assoc, ← k1, ← g1, List.take_append_drop]
  · cases h
theorem decR_enc {l : List S44} (hg : l.all good = true) (hv : ∀ v ∈ l, vok v) (h17 : l.length ≤ 17) (hs : (encv l).length ≤ 16384) : decR (encv l) = (l, 0) := by
  unfold decR
  rw [if_neg (by omega)]
  have := parse_enc l [] hg hv h17
  rw [List.append_nil] at this
  rw [this]
theorem decR_says {b : List Int} (hb : IsB b) : decR b = ([], 1) ∨ (decR b = ((decR b).1, 0) ∧ b = encv (decR b).1 ∧ (decR b).1.all good = true ∧ (∀ v ∈ (decR b).1, vok v) ∧ (decR b).1.length ≤ 17 ∧ b.length ≤ 16384) := by
  unfold decR
  by_cases hs : 16384 < b.length
  · rw [if_pos hs]; exact .inl rfl
  rw [if_neg hs]
  cases hp : parse b with
  | none => exact .inl rfl
  | some p =>
    obtain ⟨l, r⟩ := p
    cases r with
    | cons x r => exact .inl rfl
    | nil =>
      obtain ⟨h1, h2, h3, h4⟩ := parse_says hb hp
      rw [List.append_nil] at h1
      exact .inr ⟨rfl, h1, h2, h3, h4, by omega⟩
/-- A record is no beginning of another one. -/
theorem enc_prefix {l l' : List S44} (hg : l.all good = true) (hv : ∀ v ∈ l, vok v) (h17 : l.length ≤ 17) (hg' : l'.all good = true) (hv' : ∀ v ∈ l', vok v) (h17' : l'.length ≤ 17) {s : List Int} (h : encv l' ++ s = encv l) : s = [] := by
  have h1 := parse_enc l' s hg' hv' h17'
  have h2 := parse_enc l [] hg hv h17
  rw [List.append_nil, ← h, h1] at h2
  cases h2; rfl

/-! ### the printed functions -/
theorem drop_all (r : List Int) (n : Nat) : (r.drop n).take (r.length - n) = r.drop n := List.take_of_length_le (by simp)
section
variable {ρ : Type} (k : Nat)
theorem take_l17 (kexit : Int → List Int → Int → Int → S44 → Option ρ) (t : Int) (b : List Int) (n7 : Int) (v : S44) (L : List Int) (hL : IsB L) (hLl : L.length ≤ 140737488351232) : ∀ (d i j n : Nat) (x : Int), i + d = L.length → d < n → j + d ≤ 7 → -(128 * 256 ^ j) ≤ x → x < 128 * 256 ^ j →
    record_take_l17 k kexit n t b n7 x L (L.length : Int) i v = kexit t b n7 (numF x (L.drop i)) v
  | 0, i, j, n + 1, x, hi, _, _, _, _ => by
    simp only [record_take_l17, record_take_l17_b]
    rw [decide_eq_false (by omega), cond_false, List.drop_eq_nil_of_le (by omega)]; rfl
  | d + 1, i, j, n + 1, x, hi, hn, hj, h1, h2 => by
    have hp : (256 : Int) ^ j ≤ 281474976710656 := by
      have h8 : ∀ m : Fin 7, (256 : Int) ^ m.val ≤ 281474976710656 := by decide
      exact h8 ⟨j, by omega⟩
    have hc := hL _ (getD_mem (d := 0) (show i < L.length by omega))
    simp only [record_take_l17, record_take_l17_b]
    rw [decide_eq_true (by omega), cond_true, chk_pos (by omega), Int.toNat_natCast, orx (by omega) (by omega) hc.1 hc.2, w64n (by omega), take_l17 kexit t b n7 v L hL hLl d (i + 1) (j + 1) n _ (by omega) (by omega) (by omega) (by rw [Int.pow_succ]; omega) (by rw [Int.pow_succ]; omega)]
    rw [List.drop_eq_getElem_cons (show i < L.length by omega), getD_get L i 0 (by omega)]
    rfl
theorem value_l16 (kexit : Int → Int → S44 → Option ρ) (b : List Int) (hb : IsB b) (m : Nat) (hm : m ≤ b.length) (v : S44) : ∀ (d i j n : Nat) (x : Int), i + d = m → d < n → j + d ≤ 7 → -(128 * 256 ^ j) ≤ x → x < 128 * 256 ^ j → b.length ≤ 140737488351232 →
    cadastreref6_value_l16 k kexit n b m x i v = kexit m (numF x ((b.take m).drop i)) v
  | 0, i, j, n + 1, x, hi, _, _, _, _, _ => by
    simp only [cadastreref6_value_l16, cadastreref6_value_l16_b]
    rw [decide_eq_false (by omega), cond_false, List.drop_eq_nil_of_le (by rw [List.length_take]; omega)]; rfl
  | d + 1, i, j, n + 1, x, hi, hn, hj, h1, h2, hl => by
    have hp : (256 : Int) ^ j ≤ 281474976710656 := by
      have h8 : ∀ m : Fin 7, (256 : Int) ^ m.val ≤ 281474976710656 := by decide
      exact h8 ⟨j, by omega⟩
    have hc := hb _ (getD_mem (d := 0) (show i < b.length by omega))
    simp only [cadastreref6_value_l16, cadastreref6_value_l16_b]
    rw [decide_eq_true (by omega), cond_true, chk_pos (by omega), Int.toNat_natCast, orx (by omega) (by omega) hc.1 hc.2, w64n (by omega), value_l16 kexit b hb m hm v d (i + 1) (j + 1) n _ (by omega) (by omega) (by omega) (by rw [Int.pow_succ]; omega) (by rw [Int.pow_succ]; omega) hl]
    rw [List.drop_eq_getElem_cons (show i < (b.take m).length by rw [List.length_take]; omega), List.getElem_take, getD_get b i 0 (by omega)]
    rfl
end
theorem num_take {b : List Int} {m : Nat} (h : m + 1 ≤ b.length) : num (b.take (m + 1)) = numF (sx (b.getD 0 0)) ((b.drop 1).take m) := by
  cases b with
  | nil => simp at h
  | cons c cs => rfl
theorem sx_range {c : Int} (h0 : 0 ≤ c) (h1 : c < 256) : -(128 * 256 ^ 0) ≤ sx c ∧ sx c < 128 * 256 ^ 0 := by unfold sx; simp; split <;> omega
theorem take_eq (k : Nat) (hk : 20 ≤ k) {t : Int} (h0 : 0 ≤ t) (h1 : t < 18446744073709551616) {r : List Int} (hr : IsB r) (hl : r.length ≤ 140737488351232) :
    ∃ x, record_take k t r = some x ∧ (∀ p, takev t r = some p → x = (p.1, p.2, true)) ∧ (takev t r = none → x.2.2 = false) := by
  have fin : ∀ (v : S44) (n : Nat), n ≤ r.length → val t r = some (v, r.drop n) → vok v → ∃ x, record_take_j22 k (fun rest is v => some (v, rest, is)) t r (n : Int) v = some x ∧ (∀ p, takev t r = some p → x = (p.1, p.2, true)) ∧ (takev t r = none → x.2.2 = false) := by
    intro v n hn hv hvok
    unfold record_take_j22
    rw [chk_pos (by omega), kind_eq k v hvok.2.2 hvok.1 hvok.2.1, some_bind]
    simp only [Int.toNat_natCast, drop_all]
    refine ⟨_, rfl, fun p hp => ?_, fun hp => ?_⟩
    · unfold takev at hp
      rw [hv, some_bind] at hp
      split at hp
      · rename_i e; cases hp; simp at e; simp [e]
      · cases hp
    · unfold takev at hp
      rw [hv, some_bind] at hp
      split at hp
      · cases hp
      · rename_i e; simp at e; simp [e]
  have none_ : val t r = none → takev t r = none := fun h => by unfold takev; rw [h]; rfl
  unfold record_take
  by_cases t0 : t = 0
  · rw [show (t == 0) = true by simp [t0], cond_true]
    refine ⟨_, rfl, fun p hp => ?_, fun hp => ?_⟩
    · have : takev 0 r = some (vnull, r) := rfl
      rw [t0, this] at hp; cases hp; rfl
    · have : takev 0 r = some (vnull, r) := rfl
      rw [t0, this] at hp; cases hp
  rw [show (t == 0) = false by simp [t0], cond_false]
  by_cases t5 : t = 5
  · subst t5
    rw [show ((5 : Int) == 5) = true from rfl, cond_true]
    refine ⟨_, rfl, fun p hp => ?_, fun hp => ?_⟩
    · have : takev 5 r = some (vint 0, r) := rfl
      rw [this] at hp; cases hp; rfl
    · have : takev 5 r = some (vint 0, r) := rfl
      rw [this] at hp; cases hp
  rw [show (t == 5) = false by simp [t5], cond_false]
  by_cases t6 : t = 6
  · subst t6
    rw [show ((6 : Int) == 6) = true from rfl, cond_true]
    refine ⟨_, rfl, fun p hp => ?_, fun hp => ?_⟩
    · have : takev 6 r = some (vint 1, r) := rfl
      rw [this] at hp; cases hp; rfl
    · have : takev 6 r = some (vint 1, r) := rfl
      rw [this] at hp; cases hp
  rw [show (t == 6) = false by simp [t6], cond_false]
  unfold record_take_j7
  by_cases t4 : t ≤ 4
  · obtain ⟨m, hw, hm⟩ := wid_pos (show 1 ≤ t by omega) t4
    rw [decide_eq_true t4, cond_true, show record_widths k = some [0, 1, 2, 4, 8] from rfl, some_bind, chk_pos (by omega)]
    have hwid : ([0, 1, 2, 4, 8] : List Int).getD t.toNat 0 = (wid t : Int) := by
      have : t = 1 ∨ t = 2 ∨ t = 3 ∨ t = 4 := by omega
      rcases this with e | e | e | e <;> rw [e] <;> rfl
    rw [hwid]
    unfold record_take_j11
    dsimp only
    have hv : val t r = if r.length < wid t then none else some (vint (num (r.take (wid t))), r.drop (wid t)) := by unfold val; rw [if_neg t0, if_neg (by omega), if_pos t4]
    by_cases hn : r.length < wid t
    · rw [decide_eq_true (by omega), cond_true]
      rw [if_pos hn] at hv
      exact ⟨_, rfl, fun p hp => (by rw [none_ hv] at hp; cases hp), fun _ => rfl⟩
    rw [if_neg hn] at hv
    rw [decide_eq_false (by omega), cond_false, decide_eq_false (by omega), cond_false, chk_pos (by omega), chk_pos (by omega)]
    have hc := hr _ (getD_mem (d := 0) (show 0 < r.length by omega))
    have hL : (((r.drop (1 : Int).toNat).take ((wid t : Int).toNat - (1 : Int).toNat)).length) = m := by rw [List.length_take, List.length_drop, hw]; simp; omega
    have hLe : (r.drop (1 : Int).toNat).take ((wid t : Int).toNat - (1 : Int).toNat) = (r.drop 1).take m := by rw [hw]; rfl
    rw [hLe] at hL ⊢
    have hs := sx_range hc.1 hc.2
    rw [sx_eq hc.1 hc.2]
    have := take_l17 k (fun t0 b1 n7 x8 v4 => (value_Int k x8).bind fun r21 => record_take_j22 k (fun rest is v => some (v, rest, is)) t0 b1 n7 r21) t r (wid t : Int) (⟨0, 0, ByteArray.empty⟩ : S44) ((r.drop 1).take m) (fun y hy => hr y (List.mem_of_mem_drop (List.mem_of_mem_take hy))) (by omega) m 0 0 k (sx (r.getD 0 0)) (by omega) (by omega) (by omega) hs.1 hs.2
    simp only [Int.natCast_zero, List.drop_zero] at this
    rw [this, show value_Int k (numF (sx (r.getD 0 0)) ((r.drop 1).take m)) = some (vint (num (r.take (wid t)))) by rw [hw, num_take (by omega)]; rfl, some_bind]
    exact fin _ (wid t) (by omega) hv (val_says h0 hr hv).2.1
  rw [decide_eq_false t4, cond_false]
  by_cases t12 : t < 12
  · rw [decide_eq_true t12, cond_true]
    have hv : val t r = none := by unfold val; rw [if_neg t0, if_neg (by omega), if_neg t4, if_pos (.inl t12)]
    exact ⟨_, rfl, fun p hp => (by rw [none_ hv] at hp; cases hp), fun _ => rfl⟩
  rw [decide_eq_false t12, cond_false, bigd]
  by_cases tb : t > 8205
  · rw [decide_eq_true tb, cond_true]
    have hv : val t r = none := by unfold val; rw [if_neg t0, if_neg (by omega), if_neg t4, if_pos (.inr tb)]
    exact ⟨_, rfl, fun p hp => (by rw [none_ hv] at hp; cases hp), fun _ => rfl⟩
  rw [decide_eq_false tb, cond_false]
  have hn7 : IntKind.i64.wrap (Int.tdiv (IntKind.i64.wrap (IntKind.u64.wrap (t - 12))) 2) = (((t - 12) / 2).toNat : Int) := by
    rw [wrap_u64, show (t - 12) % 18446744073709551616 = t - 12 by omega, w64 (x := t - 12) (by omega) (by omega), Int.tdiv_eq_ediv_of_nonneg (by omega), w64 (by omega) (by omega)]; omega
  have hv : val t r = if r.length < ((t - 12) / 2).toNat then none else some (⟨3 - t % 2, 0, strOfNums (r.take ((t - 12) / 2).toNat)⟩, r.drop ((t - 12) / 2).toNat) := by
    unfold val; rw [if_neg t0, if_neg (by omega), if_neg t4, if_neg (by omega)]
  simp only [hn7]
  generalize ((t - 12) / 2).toNat = n at hv
  unfold record_take_j11
  dsimp only
  by_cases hn : r.length < n
  · rw [decide_eq_true (by omega), cond_true]
    rw [if_pos hn] at hv
    exact ⟨_, rfl, fun p hp => (by rw [none_ hv] at hp; cases hp), fun _ => rfl⟩
  rw [if_neg hn] at hv
  rw [decide_eq_false (by omega), cond_false, decide_eq_true (by omega), cond_true, chk_pos (by omega)]
  have hvo := (val_says h0 hr hv).2.1
  have e : IntKind.i64.wrap (3 - IntKind.i64.wrap (Int.tmod t 2)) = 3 - t % 2 := by
    rw [Int.tmod_eq_emod_of_nonneg h0, w64 (x := t % 2) (by omega) (by omega), w64 (by omega) (by omega)]
  rw [e]
  exact fin _ n (by omega) hv hvo
theorem value_eq (k : Nat) (hk : 20 ≤ k) {t : Int} (h0 : 0 ≤ t) (h1 : t < 18446744073709551616) {r : List Int} (hr : IsB r) (hl : r.length ≤ 140737488351232) :
    (val t r = none ∧ ∃ x, cadastreref6_value k t r = some x ∧ x.2.2 = false) ∨ ∃ v n, val t r = some (v, r.drop n) ∧ n ≤ r.length ∧ cadastreref6_value k t r = some (v, (n : Int), true) := by
  unfold cadastreref6_value
  by_cases t0 : t = 0
  · subst t0; exact .inr ⟨vnull, 0, rfl, by omega, rfl⟩
  rw [show (t == 0) = false by simp [t0], cond_false]
  by_cases t5 : t = 5
  · subst t5; exact .inr ⟨vint 0, 0, rfl, by omega, rfl⟩
  rw [show (t == 5) = false by simp [t5], cond_false]
  by_cases t6 : t = 6
  · subst t6; exact .inr ⟨vint 1, 0, rfl, by omega, rfl⟩
  rw [show (t == 6) = false by simp [t6], cond_false]
  unfold cadastreref6_value_j7
  by_cases t4 : t ≤ 4
  · obtain ⟨m, hw, hm⟩ := wid_pos (show 1 ≤ t by omega) t4
    have hj : ∀ X : Option (S44 × Int × Bool), (bif (t == 1) then X else bif (t == 2) then X else bif (t == 3) then X else bif (t == 4) then X else cadastreref6_value_j20 k (fun t5 t6 t4 => some (t4, t5, t6)) t r ⟨0, 0, ByteArray.empty⟩) = X := by
      intro X
      have : t = 1 ∨ t = 2 ∨ t = 3 ∨ t = 4 := by omega
      rcases this with e | e | e | e <;> subst e <;> rfl
    rw [hj]
    unfold cadastreref6_value_j11
    rw [size_eq, some_bind]
    have hv : val t r = if r.length < wid t then none else some (vint (num (r.take (wid t))), r.drop (wid t)) := by unfold val; rw [if_neg t0, if_neg (by omega), if_pos t4]
    by_cases hn : r.length < wid t
    · rw [decide_eq_true (by omega), cond_true]
      rw [if_pos hn] at hv
      exact .inl ⟨hv, _, rfl, rfl⟩
    rw [if_neg hn] at hv
    rw [decide_eq_false (by omega), cond_false, chk_pos (by omega)]
    have hc := hr _ (getD_mem (d := 0) (show 0 < r.length by omega))
    have hs := sx_range hc.1 hc.2
    rw [sx_eq hc.1 hc.2]
    have := value_l16 k (fun n7 x8 _ => (cadastreref2_Int k x8).bind fun r8 => some (r8, n7, true)) r hr (wid t) (by omega) (⟨0, 0, ByteArray.empty⟩ : S44) m 1 0 k (sx (r.getD 0 0)) (by omega) (by omega) (by omega) hs.1 hs.2 hl
    simp only [Int.natCast_one] at this
    rw [this]
    refine .inr ⟨_, wid t, hv, by omega, ?_⟩
    have e : numF (sx (r.getD 0 0)) ((r.take (wid t)).drop 1) = num (r.take (wid t)) := by
      rw [hw, num_take (by omega), List.drop_take]; rfl
    rw [e]; rfl
  have hj : ∀ X : Option (S44 × Int × Bool), (bif (t == 1) then X else bif (t == 2) then X else bif (t == 3) then X else bif (t == 4) then X else cadastreref6_value_j20 k (fun t5 t6 t4 => some (t4, t5, t6)) t r ⟨0, 0, ByteArray.empty⟩) = cadastreref6_value_j20 k (fun t5 t6 t4 => some (t4, t5, t6)) t r ⟨0, 0, ByteArray.empty⟩ := by
    intro X
    rw [show (t == 1) = false by simp; omega, show (t == 2) = false by simp; omega, show (t == 3) = false by simp; omega, show (t == 4) = false by simp; omega]; rfl
  rw [hj]
  unfold cadastreref6_value_j20
  by_cases t12 : t < 12
  · rw [decide_eq_true t12, cond_true]
    exact .inl ⟨by unfold val; rw [if_neg t0, if_neg (by omega), if_neg t4, if_pos (.inl t12)], _, rfl, rfl⟩
  rw [decide_eq_false t12, cond_false, bigd]
  by_cases tb : t > 8205
  · rw [decide_eq_true tb, cond_true]
    exact .inl ⟨by unfold val; rw [if_neg t0, if_neg (by omega), if_neg t4, if_pos (.inr tb)], _, rfl, rfl⟩
  rw [decide_eq_false tb, cond_false]
  unfold cadastreref6_value_j22
  have hn7 : IntKind.i64.wrap (Int.tdiv (IntKind.i64.wrap (IntKind.u64.wrap (t - 12))) 2) = (((t - 12) / 2).toNat : Int) := by
    rw [wrap_u64, show (t - 12) % 18446744073709551616 = t - 12 by omega, w64 (x := t - 12) (by omega) (by omega), Int.tdiv_eq_ediv_of_nonneg (by omega), w64 (by omega) (by omega)]; omega
  have hv : val t r = if r.length < ((t - 12) / 2).toNat then none else some (⟨3 - t % 2, 0, strOfNums (r.take ((t - 12) / 2).toNat)⟩, r.drop ((t - 12) / 2).toNat) := by
    unfold val; rw [if_neg t0, if_neg (by omega), if_neg t4, if_neg (by omega)]
  simp only [hn7]
  generalize ((t - 12) / 2).toNat = n at hv
  by_cases hn : r.length < n
  · rw [decide_eq_true (by omega), cond_true]
    rw [if_pos hn] at hv
    exact .inl ⟨hv, _, rfl, rfl⟩
  rw [if_neg hn] at hv
  rw [decide_eq_false (by omega), cond_false, Int.tmod_eq_emod_of_nonneg h0]
  refine .inr ⟨_, n, hv, by omega, ?_⟩
  unfold cadastreref6_value_j28
  by_cases hm : t % 2 = 1
  · rw [show (t % 2 == 1) = true by simp [hm], cond_true, chk_pos (by omega), hm]; rfl
  · rw [show (t % 2 == 1) = false by simp [hm], cond_false, chk_pos (by omega), show t % 2 = 0 by omega]; rfl
end Go.Proofs.Ytekjibpkkgldgaa.R
