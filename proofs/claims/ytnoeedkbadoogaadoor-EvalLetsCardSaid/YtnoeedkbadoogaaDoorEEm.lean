/-
  Layer 23: how high an expression is, its places, the expression without places: what the printed functions come to.
  Layers 20 to 23: names, one part of an expression, how many there are, whether an expression may be: the printed functions answer, and what their yes says.
  Layer 23: an expression's value: what the printed function comes to.
-/
import Derived.Test.YtnoeedkbadoogaaDoorEVa
import Derived.Test.YtnoeedkbadoogaaDoorEOk
import Derived.Test.YtnoeedkbadoogaaDoorELx
namespace Go.Proofs.YtnoeedkbadoogaaDoor.E
open Go Go.AX

theorem loop_all {α ρ : Type} (l : List α) (g : α → Bool) (F : Nat → Int → Option ρ) (ke kf : Option ρ) (h0 : ∀ n, F (n + 1) (l.length : Int) = ke)
    (h1 : ∀ (n i : Nat) (h : i < l.length), F (n + 1) (i : Int) = if g l[i] = true then F n ((i + 1 : Nat) : Int) else kf) :
    ∀ (d i n : Nat), i + d = l.length → d < n → F n (i : Int) = if (l.drop i).all g = true then ke else kf
  | 0, i, n + 1, hi, _ => by
    obtain rfl : i = l.length := by omega
    rw [h0, List.drop_length]; rfl
  | d + 1, i, n + 1, hi, hn => by
    rw [h1 n i (by omega), List.drop_eq_getElem_cons (by omega), List.all_cons, loop_all l g F ke kf h0 h1 d (i + 1) n (by omega) (by omega)]
    cases g l[i] <;> simp

/-- How much an expression is, all in all. -/
noncomputable def sz (t : T25) : Nat := SizeOf.sizeOf t
noncomputable def szL (l : List T25) : Nat := SizeOf.sizeOf l
theorem len_szL : ∀ l : List T25, l.length < szL l
  | [] => by simp [szL]
  | a :: r => by
    have := len_szL r
    simp only [szL, List.length_cons, List.cons.sizeOf_spec] at this ⊢
    omega
theorem szL_lt (t : T25) : szL t.s.f4 < sz t := by
  cases t
  simp only [sz, szL, T25.s, T25.mk.sizeOf_spec]
  omega
theorem sz_mem {t : T25} {l : List T25} (h : t ∈ l) : sz t < szL l := List.sizeOf_lt_of_mem h
theorem sz_child {t c : T25} (h : c ∈ t.s.f4) : sz c < sz t := Nat.lt_trans (sz_mem h) (szL_lt t)
theorem len_sz (t : T25) : t.s.f4.length < sz t := Nat.lt_trans (len_szL _) (szL_lt t)
theorem ok_child {t c : T25} (h : T25.ok t) (hc : c ∈ t.s.f4) : T25.ok c := by
  cases h with
  | mk _ h1 h2 => exact h2 c hc
theorem ok_len {t : T25} (h : T25.ok t) : t.s.f4.length * 96 ≤ 140737488351232 := by
  cases h with
  | mk _ h1 h2 => exact h1.2.2.2.2.1
theorem ok_int {t : T25} (h : T25.ok t) : inr t.s.f1.f1 = true := by
  cases h with
  | mk _ h1 h2 => exact inr_iff.2 h1.2.1.2.1

/-! ### how high -/
noncomputable def lowS : Nat → T25 → Bool
  | 0, _ => false
  | h + 1, t => t.s.f4.all (lowS h)
theorem low_it (k : Nat) : ∀ (d h : Nat) (e : S25), h < d → h ≤ 100 → T25.ok e.t → sz e.t < k → (bind_Low_R_it k d).bind_Low e (h : Int) = some (lowS h e.t)
  | d + 1, 0, e, _, _, _, _ => rfl
  | d + 1, h + 1, e, hd, hh, ho, hk => by
    have hb : (bind_Low_R_it k (d + 1)).bind_Low e ((h + 1 : Nat) : Int) = bind_Low_r k (bind_Low_R_it k d) e ((h + 1 : Nat) : Int) := rfl
    have hle := len_sz e.t
    have hol := ok_len ho
    have e4 : e.t.s.f4 = e.f4 := rfl
    rw [e4] at hle hol
    rw [hb]
    unfold bind_Low_r
    rw [beq_eq_false_iff_ne.2 (show ((h + 1 : Nat) : Int) ≠ 0 by omega), Bool.cond_false]
    have := loop_all e.f4 (lowS h) (fun n i => bind_Low_l4 k (bind_Low_R_it k d) (fun t => some t) (some true) n ((h + 1 : Nat) : Int) e.f4 (e.f4.length : Int) i) (some true) (some false)
      (fun n => by simp [bind_Low_l4, bind_Low_l4_b])
      (fun n i hi => by
        simp only [bind_Low_l4, bind_Low_l4_b]
        have hm : e.f4[i] ∈ e.t.s.f4 := List.getElem_mem hi
        have hs := sz_child hm
        rw [decide_eq_true (show (i : Int) < (e.f4.length : Int) by omega), cond_true, chk_pos (by omega), show ((i : Int)).toNat = i from rfl, getD_get e.f4 i _ hi, w64 (by omega) (by omega), show ((h + 1 : Nat) : Int) - 1 = (h : Int) by omega,
          low_it k d h e.f4[i].s (by omega) (by omega) (by rw [T25.st]; exact ok_child ho hm) (by rw [T25.st]; omega), some_bind, T25.st, w64n (by omega)]
        cases lowS h e.f4[i] <;> rfl) e.f4.length 0 k (by omega) (by omega)
    refine Eq.trans this ?_
    rw [List.drop_zero]
    show _ = some (e.f4.all (lowS h))
    cases e.f4.all (lowS h) <;> rfl

/-! ### places -/
/-- What is asked of one part. -/
def pl1 (n : Int) (e : S25) : Bool :=
  !(decide (23 ≤ e.f0 ∧ e.f0 ≤ 26)) && (e.f0 != 2 || (e.f1.f0 == 1 && (decide (e.f1.f2.size = 0) && (decide (0 ≤ e.f1.f1) && (decide (n < 0) || decide (e.f1.f1 < n))))))
noncomputable def plS (n : Int) : Nat → T25 → Bool
  | 0, _ => false
  | h + 1, t => pl1 n t.s && t.s.f4.all (plS n h)
theorem agg_eq (k : Nat) (op : Int) : print_Aggregate k op = some (decide (23 ≤ op ∧ op ≤ 26)) := by
  unfold print_Aggregate
  by_cases h : 23 ≤ op <;> simp [h]
theorem places_it (k : Nat) (n : Int) : ∀ (h d : Nat) (e : S25), h ≤ d → lowS h e.t = true → T25.ok e.t → sz e.t < k → (eval_places_R_it k d).eval_places e n = some (plS n h e.t)
  | 0, _, e, _, hl, _, _ => by cases hl
  | h + 1, d + 1, e, hd, hl, ho, hk => by
    have hb : (eval_places_R_it k (d + 1)).eval_places e n = eval_places_r k (eval_places_R_it k d) e n := rfl
    have hle := len_sz e.t
    have hol := ok_len ho
    have e4 : e.t.s.f4 = e.f4 := rfl
    rw [e4] at hle hol
    have hlc : ∀ c ∈ e.f4, lowS h c = true := List.all_eq_true.1 hl
    have hj : eval_places_j6 k (eval_places_R_it k d) (fun t => some t) n e = some (e.f4.all (plS n h)) := by
      unfold eval_places_j6
      have := loop_all e.f4 (plS n h) (fun m i => eval_places_l7 k (eval_places_R_it k d) (fun t => some t) (some true) m n e.f4 (e.f4.length : Int) i) (some true) (some false)
        (fun n => by simp [eval_places_l7, eval_places_l7_b])
        (fun m i hi => by
          simp only [eval_places_l7, eval_places_l7_b]
          have hm : e.f4[i] ∈ e.t.s.f4 := List.getElem_mem hi
          have hs := sz_child hm
          rw [decide_eq_true (show (i : Int) < (e.f4.length : Int) by omega), cond_true, chk_pos (by omega), show ((i : Int)).toNat = i from rfl, getD_get e.f4 i _ hi,
            places_it k n h d e.f4[i].s (by omega) (by rw [T25.st]; exact hlc _ hm) (by rw [T25.st]; exact ok_child ho hm) (by rw [T25.st]; omega), some_bind, T25.st, w64n (by omega)]
          cases plS n h e.f4[i] <;> rfl) e.f4.length 0 k (by omega) (by omega)
      refine Eq.trans this ?_
      rw [List.drop_zero]
      cases e.f4.all (plS n h) <;> rfl
    rw [hb]
    show _ = some (pl1 n e && e.f4.all (plS n h))
    unfold eval_places_r pl1
    rw [agg_eq, some_bind, hj, beq_bytes, size_empty_iff]
    simp only [bif_ite, beq_iff_eq, bne_iff_ne, ne_eq, decide_eq_true_eq, Bool.not_eq_true', ge_iff_le]
    by_cases h1 : 23 ≤ e.f0 ∧ e.f0 ≤ 26
    · simp [h1]
    by_cases h2 : e.f0 = 2
    case neg => simp [h1, h2]
    by_cases h3 : e.f1.f0 = 1
    case neg => simp [h2, h3]
    by_cases h4 : e.f1.f2.size = 0
    case neg => simp [h2, h3, h4]
    by_cases h5 : e.f1.f1 < 0
    · simp [h2, h3, h4, h5, show ¬ 0 ≤ e.f1.f1 by omega]
    by_cases h6 : 0 ≤ n
    · by_cases h7 : n ≤ e.f1.f1
      · simp [h2, h3, h4, h5, h6, h7, show 0 ≤ e.f1.f1 by omega, show ¬ n < 0 by omega, show ¬ e.f1.f1 < n by omega]
      · simp [h2, h3, h4, h5, h6, h7, show 0 ≤ e.f1.f1 by omega, show ¬ n < 0 by omega, show e.f1.f1 < n by omega]
    · simp [h2, h3, h4, h5, h6, show 0 ≤ e.f1.f1 by omega, show n < 0 by omega]

/-! ### without places -/
noncomputable def plainS : Nat → T25 → T25
  | 0, t => t
  | h + 1, t => .mk t.s.f0 (if t.s.f0 = 2 then vnull else t.s.f1) t.s.f2 t.s.f3 (t.s.f4.map (plainS h))
theorem clone_eq (k : Nat) (l : List T25) (h : l.length * 96 ≤ 140737488351232) : api_Expr__95 k l = some l := by
  unfold api_Expr__95
  rw [chk_pos (by omega), List.nil_append]
  unfold nilT
  by_cases h0 : l.length = 0
  · obtain rfl := List.length_eq_zero_iff.1 h0
    show both (some []) (some []) = some ([] : List T25)
    unfold both
    rw [if_pos rfl]
  · rw [if_neg h0]; rfl
theorem plain_loop (k h d : Nat) (e1 t2 : S25) (ke : List T25 → S25 → S25 → Option S25) (l : List T25) (hn : l.length ≤ 9223372036854775806)
    (hr : ∀ c ∈ l, (bind_Plain_R_it k d).bind_Plain c.s = some (plainS h c).s) :
    ∀ (m i n : Nat), i + m = l.length → m < n → bind_Plain_l5 k (bind_Plain_R_it k d) ke n ((l.take i).map (plainS h) ++ l.drop i) (l.length : Int) (i : Int) e1 t2 = ke (l.map (plainS h)) e1 t2
  | 0, i, n + 1, hi, _ => by
    obtain rfl : i = l.length := by omega
    simp [bind_Plain_l5, bind_Plain_l5_b]
  | m + 1, i, n + 1, hi, hlt => by
    have hl : i < l.length := by omega
    have hlen : ((l.take i).map (plainS h) ++ l.drop i).length = l.length := by simp; omega
    have hget : ((l.take i).map (plainS h) ++ l.drop i).getD ((i : Int)).toNat default = l[i] := by
      have hlt1 : ((l.take i).map (plainS h)).length = i := by simp; omega
      rw [show ((i : Int)).toNat = i from rfl, getD_get _ _ _ (by rw [hlen]; exact hl), List.getElem_append_right (by omega)]
      simp only [hlt1, Nat.sub_self, List.getElem_drop, Nat.add_zero]
    simp only [bind_Plain_l5, bind_Plain_l5_b]
    rw [decide_eq_true (show (i : Int) < (l.length : Int) by omega), cond_true, hlen, hget, hr _ (List.getElem_mem hl), chk_pos (by omega), some_bind, chk_pos (by omega), chk_pos (by omega), w64n (by omega), T25.st]
    have hset : ((l.take i).map (plainS h) ++ l.drop i).set ((i : Int)).toNat (plainS h l[i]) = (l.take (i + 1)).map (plainS h) ++ l.drop (i + 1) := by
      have hlt1 : ((l.take i).map (plainS h)).length = i := by simp; omega
      rw [show ((i : Int)).toNat = i from rfl, List.set_append_right _ _ (by omega), hlt1, Nat.sub_self, List.drop_eq_getElem_cons hl, List.set_cons_zero, List.take_succ_eq_append_getElem hl, List.map_append, List.append_assoc]
      rfl
    rw [hset]
    exact plain_loop k h d e1 t2 ke l hn hr m (i + 1) n (by omega) (by omega)
theorem plain_it (k : Nat) : ∀ (h d : Nat) (e : S25), h ≤ d → lowS h e.t = true → T25.ok e.t → sz e.t < k → (bind_Plain_R_it k d).bind_Plain e = some (plainS h e.t).s
  | 0, _, e, _, hl, _, _ => by cases hl
  | h + 1, d + 1, e, hd, hl, ho, hk => by
    have hb : (bind_Plain_R_it k (d + 1)).bind_Plain e = bind_Plain_r k (bind_Plain_R_it k d) e := rfl
    have hle := len_sz e.t
    have hol := ok_len ho
    have e4 : e.t.s.f4 = e.f4 := rfl
    rw [e4] at hle hol
    have hlc : ∀ c ∈ e.f4, lowS h c = true := List.all_eq_true.1 hl
    have hr : ∀ c ∈ e.f4, (bind_Plain_R_it k d).bind_Plain c.s = some (plainS h c).s := fun c hc => by
      have hm : c ∈ e.t.s.f4 := hc
      have hs := sz_child hm
      rw [plain_it k h d c.s (by omega) (by rw [T25.st]; exact hlc _ hm) (by rw [T25.st]; exact ok_child ho hm) (by rw [T25.st]; omega), T25.st]
    have hj : ∀ (v : S23) (t2 : S25), bind_Plain_j3 k (bind_Plain_R_it k d) (fun t => some t) (⟨e.f0, v, e.f2, e.f3, e.f4⟩ : S25) t2 = some ⟨e.f0, v, e.f2, e.f3, e.f4.map (plainS h)⟩ := by
      intro v t2
      unfold bind_Plain_j3
      rw [clone_eq k _ hol, some_bind]
      exact plain_loop k h d _ _ _ e.f4 (by omega) hr e.f4.length 0 k (by omega) (by omega)
    rw [hb]
    unfold bind_Plain_r
    by_cases h2 : e.f0 = 2
    · rw [beq_iff_eq.2 h2, cond_true, hj]
      unfold plainS
      have : e.t.s.f0 = 2 := h2
      rw [if_pos this]; rfl
    · rw [beq_eq_false_iff_ne.2 h2, Bool.cond_false]
      refine (hj e.f1 _).trans ?_
      unfold plainS
      have : ¬ e.t.s.f0 = 2 := h2
      rw [if_neg this]; rfl
end Go.Proofs.YtnoeedkbadoogaaDoor.E
namespace Go.Proofs.YtnoeedkbadoogaaDoor.E
open Go Go.AX

/-! ### names -/
theorem less_tot (k : Nat) (a b : ByteArray) : ∃ r, cmp_Less_string_ k a b = some r := by
  unfold cmp_Less_string_ cmp_isNaN_string_
  rw [some_bind]
  cases (!(a.toList == a.toList))
  · exact ⟨_, rfl⟩
  · rw [cond_true, some_bind]
    cases (!(!(b.toList == b.toList))) <;> exact ⟨_, rfl⟩
theorem mid_eq {i j : Nat} (h1 : i < j) (h2 : j < 4294967296) : IntKind.i64.wrap (Int.fdiv (IntKind.u64.wrap (IntKind.i64.wrap ((i : Int) + (j : Int)))) (2 ^ (min (1 : Int).toNat (IntKind.u64).bits))) = (((i + j) / 2 : Nat) : Int) := by
  have e1 : IntKind.i64.wrap ((i : Int) + (j : Int)) = ((i + j : Nat) : Int) := by rw [w64 (by omega) (by omega)]; omega
  have e2 : IntKind.u64.wrap (((i + j : Nat) : Int)) = ((i + j : Nat) : Int) := by rw [IntKind.wrap_u64]; omega
  have e3 : (2 : Int) ^ (min (1 : Int).toNat (IntKind.u64).bits) = 2 := by decide
  rw [e1, e2, e3, Int.fdiv_eq_ediv_of_nonneg _ (by omega), w64 (by omega) (by omega)]
  omega
theorem bs_loop {ρ : Type} (k : Nat) (ke : List ByteArray → ByteArray → Int → Int → Option ρ) (x : List ByteArray) (t : ByteArray) (N : Int) (hx : x.length < 4294967296) :
    ∀ (d i j n : Nat), j ≤ i + d → d < n → i ≤ j → j ≤ x.length → ∃ i' : Nat, i' ≤ x.length ∧ slices_BinarySearch_string_string__l3 k ke n x t N (i : Int) (j : Int) = ke x t N (i' : Int) := by
  intro d
  induction d with
  | zero =>
    intro i j n h1 h2 h3 h4
    obtain ⟨n, rfl⟩ : ∃ m, n = m + 1 := ⟨n - 1, by omega⟩
    refine ⟨i, by omega, ?_⟩
    simp only [slices_BinarySearch_string_string__l3, slices_BinarySearch_string_string__l3_b]
    rw [decide_eq_false (show ¬ (i : Int) < (j : Int) by omega)]; rfl
  | succ d ih =>
    intro i j n h1 h2 h3 h4
    obtain ⟨n, rfl⟩ : ∃ m, n = m + 1 := ⟨n - 1, by omega⟩
    by_cases hij : i < j
    case neg =>
      refine ⟨i, by omega, ?_⟩
      simp only [slices_BinarySearch_string_string__l3, slices_BinarySearch_string_string__l3_b]
      rw [decide_eq_false (show ¬ (i : Int) < (j : Int) by omega)]; rfl
    simp only [slices_BinarySearch_string_string__l3, slices_BinarySearch_string_string__l3_b]
    rw [decide_eq_true (show (i : Int) < (j : Int) by omega), cond_true, mid_eq hij (by omega), chk_pos (by omega)]
    obtain ⟨r, hr⟩ := less_tot k (x.getD ((((i + j) / 2 : Nat) : Int)).toNat ByteArray.empty) t
    rw [hr, some_bind, w64n (by omega)]
    cases r
    · exact ih i ((i + j) / 2) n (by omega) (by omega) (by omega) (by omega)
    · exact ih ((i + j) / 2 + 1) j n (by omega) (by omega) (by omega) (by omega)
theorem bs_tot (k : Nat) (x : List ByteArray) (t : ByteArray) (hx : x.length < k) (hx2 : x.length < 4294967296) : ∃ r, slices_BinarySearch_string_string_ k x t = some r := by
  unfold slices_BinarySearch_string_string_
  obtain ⟨i, h1, h2⟩ := bs_loop (ρ := Int × Bool) k (fun x0 t0 n6 i7 =>
    bif (decide (i7 < n6)) then
    chk (0 ≤ i7 ∧ i7 < (x0.length : Int)) <|
    bif ((x0.getD i7.toNat ByteArray.empty).toList == t0.toList) then
    some (i7, true)
    else
    chk (0 ≤ i7 ∧ i7 < (x0.length : Int)) <|
    (slices_isNaN_string_ k (x0.getD i7.toNat ByteArray.empty)).bind fun r_7 =>
    bif r_7 then
    (slices_isNaN_string_ k t0).bind fun r_8 =>
    some (i7, r_8)
    else
    some (i7, false)
    else
    some (i7, false)) x t (x.length : Int) hx2 x.length 0 x.length k (by omega) hx (by omega) (by omega)
  have h2' := h2
  rw [show ((0 : Nat) : Int) = 0 from rfl] at h2'
  rw [h2']
  by_cases hi : (i : Int) < (x.length : Int)
  case neg => rw [decide_eq_false hi]; exact ⟨_, rfl⟩
  rw [decide_eq_true hi, cond_true, chk_pos (by omega), chk_pos (by omega)]
  unfold slices_isNaN_string_
  rw [some_bind, some_bind]
  cases ((x.getD ((i : Int)).toNat ByteArray.empty).toList == t.toList)
  · cases (!((x.getD ((i : Int)).toNat ByteArray.empty).toList == (x.getD ((i : Int)).toNat ByteArray.empty).toList)) <;> exact ⟨_, rfl⟩
  · exact ⟨_, rfl⟩
theorem pname_tot (k : Nat) (s : ByteArray) (hk : 8194 < k) : ∃ b, parse_Name k s = some b := by
  unfold parse_Name parse_Keys
  rw [some_bind]
  have key : ∀ x : List ByteArray, x.length = 39 → ∃ b, ((slices_BinarySearch_string_string_ k x s).bind fun r_2 => some (!r_2.2)) = some b := fun x hx => by
    obtain ⟨r, hr⟩ := bs_tot k x s (by omega) (by omega)
    rw [hr, some_bind]
    exact ⟨_, rfl⟩
  exact key _ rfl
theorem name_tot (k : Nat) (s : ByteArray) (hk : 8194 < k) : ∃ b, print_Name k s = some b := by
  unfold print_Name
  rw [tokens_eq k s hk, some_bind]
  generalize toks (by' s) = q
  obtain ⟨b, hb⟩ := pname_tot k s hk
  rw [hb, some_bind]
  cases (q.2 == 0)
  · exact ⟨_, rfl⟩
  rw [cond_true]
  by_cases h1 : (q.1.length : Int) = 1
  case neg => rw [beq_eq_false_iff_ne.2 h1]; exact ⟨_, rfl⟩
  rw [beq_iff_eq.2 h1, cond_true, chk_pos (by omega), chk_pos (by omega)]
  cases ((q.1.getD 0 default).f0 == 1)
  · exact ⟨_, rfl⟩
  · rw [cond_true]
    cases ((q.1.getD 0 default).f1.toList == s.toList) <;> exact ⟨_, rfl⟩

/-! ### one part -/
def argsZ (op : Int) : Int := if op = 1 ∨ op = 2 ∨ op = 23 then 0 else if (3 ≤ op ∧ op ≤ 8) ∨ (24 ≤ op ∧ op ≤ 26) then 1 else if 9 ≤ op ∧ op ≤ 22 then 2 else -1
theorem args_eq (k : Nat) (op : Int) : print_args k op = some (argsZ op) := by
  unfold print_args print_args_j3 print_args_j5 argsZ
  simp only [bif_ite, beq_iff_eq, decide_eq_true_eq, ge_iff_le]
  by_cases h1 : op = 1
  · simp [h1]
  by_cases h2 : op = 2
  · simp [h2]
  by_cases h3 : op = 23
  · simp [h3]
  by_cases h4 : 3 ≤ op <;> by_cases h5 : op ≤ 8 <;> by_cases h6 : 24 ≤ op <;> by_cases h7 : op ≤ 26 <;> by_cases h8 : 9 ≤ op <;> by_cases h9 : op ≤ 22 <;> simp [h1, h2, h3, h4, h5, h6, h7, h8, h9] <;> omega
theorem one_tot (k : Nat) (hk : 8194 < k) (e : S25) : ∃ b, print_one k e = some b ∧ (b = true → (e.f4.length : Int) = argsZ e.f0 ∧ (e.f0 = 1 → good e.f1 = true)) := by
  unfold print_one
  rw [args_eq, some_bind]
  by_cases h0 : (e.f4.length : Int) = argsZ e.f0
  case neg => rw [show ((e.f4.length : Int) != argsZ e.f0) = true by simp [h0]]; exact ⟨false, rfl, by simp⟩
  rw [show ((e.f4.length : Int) != argsZ e.f0) = false by simp [h0], Bool.cond_false]
  by_cases h1 : e.f0 = 1
  · rw [beq_iff_eq.2 h1, cond_true]
    unfold print_literal
    rw [good_eq, some_bind]
    cases hg : good e.f1
    · exact ⟨false, rfl, by simp⟩
    rw [cond_true]
    have : ∀ b : Bool, ∃ c, ((some b).bind fun r_2 => bif r_2 then bif (e.f2.toList == ByteArray.empty.toList) then some (e.f3.toList == ByteArray.empty.toList) else some false else some false) = some c ∧ (c = true → (e.f4.length : Int) = argsZ e.f0 ∧ (e.f0 = 1 → true = true)) := by
      intro b
      cases b
      · exact ⟨_, rfl, fun _ => ⟨h0, fun _ => rfl⟩⟩
      · rw [some_bind, cond_true]
        cases (e.f2.toList == ByteArray.empty.toList) <;> exact ⟨_, rfl, fun _ => ⟨h0, fun _ => rfl⟩⟩
    cases (e.f1.f0 != 1)
    · exact this _
    · exact this _
  rw [beq_eq_false_iff_ne.2 h1, Bool.cond_false]
  have hn : ∀ b : Bool, b = true → (e.f4.length : Int) = argsZ e.f0 ∧ (e.f0 = 1 → good e.f1 = true) := fun _ _ => ⟨h0, fun h => absurd h h1⟩
  obtain ⟨b3, hb3⟩ := name_tot k e.f3 hk
  obtain ⟨b2, hb2⟩ := name_tot k e.f2 hk
  dsimp only
  rw [hb3, hb2, some_bind, some_bind]
  generalize ((e.f1.f0 == 0) && ((e.f1.f1 == 0) && (e.f1.f2 == ByteArray.empty))) = v
  cases (e.f0 == 2) <;> cases v <;> cases (e.f2.toList == ByteArray.empty.toList) <;> cases b3 <;> exact ⟨_, rfl, hn _⟩

/-! ### how many -/
/-- What is asked of each part. -/
def GT : Nat → T25 → Prop
  | 0, _ => False
  | h + 1, t => ((t.s.f4.length : Int) = argsZ t.s.f0 ∧ (t.s.f0 = 1 → good t.s.f1 = true)) ∧ ∀ c ∈ t.s.f4, GT h c
theorem count_loop (k d h : Nat) (kr kx : Int → Option Int) (H : Int) (l : List T25) (hn : l.length ≤ 9223372036854775806) (hH : -9223372036854775808 ≤ H - 1 ∧ H - 1 < 9223372036854775808)
    (hkr : kr (-1) = some (-1)) (hkx : ∀ n, kx n = some n) (hr : ∀ c ∈ l, ∃ r, (print_count_R_it k d).print_count c.s (H - 1) = some r ∧ (0 ≤ r → GT h c)) :
    ∀ (m i n : Nat) (s : Int), i + m = l.length → m < n → ∃ r, print_count_l5 k (print_count_R_it k d) kr kx n H s l (l.length : Int) (i : Int) = some r ∧ (0 ≤ r → ∀ c ∈ l.drop i, GT h c)
  | 0, i, n + 1, s, hi, _ => by
    obtain rfl : i = l.length := by omega
    exact ⟨s, by simp [print_count_l5, print_count_l5_b, hkx], by simp⟩
  | m + 1, i, n + 1, s, hi, hlt => by
    have hl : i < l.length := by omega
    simp only [print_count_l5, print_count_l5_b]
    obtain ⟨r, hr1, hr2⟩ := hr _ (List.getElem_mem hl)
    rw [decide_eq_true (show (i : Int) < (l.length : Int) by omega), cond_true, chk_pos (by omega), show ((i : Int)).toNat = i from rfl, getD_get l i _ hl, w64 hH.1 hH.2, hr1, some_bind, w64n (by omega)]
    by_cases h0 : r < 0
    · rw [decide_eq_true h0, cond_true, hkr]
      exact ⟨-1, rfl, by omega⟩
    · rw [decide_eq_false h0, Bool.cond_false]
      obtain ⟨q, hq1, hq2⟩ := count_loop k d h kr kx H l hn hH hkr hkx hr m (i + 1) n (IntKind.i64.wrap (s + r)) (by omega) (by omega)
      refine ⟨q, hq1, fun hp c hc => ?_⟩
      rw [List.drop_eq_getElem_cons hl] at hc
      rcases List.mem_cons.1 hc with rfl | hc
      · exact hr2 (by omega)
      · exact hq2 hp c hc
/-- All rows are shorter than this. -/
def lenB (K : Nat) : Nat → T25 → Prop
  | 0, _ => True
  | h + 1, t => (t.s.f4.length < K ∧ t.s.f4.length ≤ 9223372036854775806) ∧ ∀ c ∈ t.s.f4, lenB K h c
theorem lenB_of (K : Nat) : ∀ (h : Nat) (t : T25), sz t < K → T25.ok t → lenB K h t
  | 0, _, _, _ => trivial
  | h + 1, t, hs, ho => by
    have h1 := len_sz t
    have h2 := ok_len ho
    exact ⟨⟨by omega, by omega⟩, fun c hc => lenB_of K h c (Nat.lt_trans (sz_child hc) hs) (ok_child ho hc)⟩
theorem lenB_plain (K : Nat) : ∀ (h : Nat) (t : T25), lenB K h t → lenB K h (plainS h t)
  | 0, _, _ => trivial
  | h + 1, t, hl => by
    refine ⟨by show (t.s.f4.map (plainS h)).length < K ∧ (t.s.f4.map (plainS h)).length ≤ _; rw [List.length_map]; exact hl.1, fun c hc => ?_⟩
    have hc' : c ∈ t.s.f4.map (plainS h) := hc
    obtain ⟨q, hq, rfl⟩ := List.mem_map.1 hc'
    exact lenB_plain K h q (hl.2 q hq)
theorem count_it (k : Nat) (hk : 8194 < k) : ∀ (h d : Nat) (e : S25), h < d → h ≤ 100 → lenB k h e.t → ∃ r, (print_count_R_it k d).print_count e (h : Int) = some r ∧ (0 ≤ r → GT h e.t)
  | 0, d + 1, e, _, _, _ => ⟨-1, rfl, by omega⟩
  | h + 1, d + 1, e, hd, hh, hs => by
    have hb : (print_count_R_it k (d + 1)).print_count e ((h + 1 : Nat) : Int) = print_count_r k (print_count_R_it k d) e ((h + 1 : Nat) : Int) := rfl
    have hle : e.f4.length < k ∧ e.f4.length ≤ 9223372036854775806 := hs.1
    rw [hb]
    unfold print_count_r
    rw [beq_eq_false_iff_ne.2 (show ((h + 1 : Nat) : Int) ≠ 0 by omega), Bool.cond_false]
    obtain ⟨b, hb1, hb2⟩ := one_tot k hk e
    rw [hb1, some_bind]
    cases b
    · exact ⟨-1, rfl, by omega⟩
    unfold print_count_j3
    have hr : ∀ c ∈ e.f4, ∃ r, (print_count_R_it k d).print_count c.s (((h + 1 : Nat) : Int) - 1) = some r ∧ (0 ≤ r → GT h c) := fun c hc => by
      have hm : c ∈ e.t.s.f4 := hc
      obtain ⟨r, h1, h2⟩ := count_it k hk h d c.s (by omega) (by omega) (by rw [T25.st]; exact hs.2 c hm)
      rw [T25.st] at h2
      exact ⟨r, by rw [show ((h + 1 : Nat) : Int) - 1 = (h : Int) by omega]; exact h1, h2⟩
    obtain ⟨r, h1, h2⟩ := count_loop k d h (fun t => some t) (fun t => some t) ((h + 1 : Nat) : Int) e.f4 (by omega) (by omega) rfl (fun _ => rfl) hr e.f4.length 0 k 1 (by omega) (by omega)
    exact ⟨r, h1, fun h0 => ⟨hb2 rfl, h2 h0⟩⟩

/-! ### whether an expression may be -/
/-- What an expression is that may be: all its parts have a value. -/
def VT (n : Int) : Nat → T25 → Prop
  | 0, _ => False
  | h + 1, t => (t.s.f0 = 1 ∧ good t.s.f1 = true) ∨ (t.s.f0 = 2 ∧ 0 ≤ t.s.f1.f1 ∧ t.s.f1.f1 < n) ∨ (3 ≤ t.s.f0 ∧ t.s.f0 ≤ 8 ∧ ∃ a, t.s.f4 = [a] ∧ VT n h a) ∨ (9 ≤ t.s.f0 ∧ t.s.f0 ≤ 22 ∧ ∃ a b, t.s.f4 = [a, b] ∧ VT n h a ∧ VT n h b)
theorem vt_of (n : Int) (hn : 0 ≤ n) : ∀ (h : Nat) (t : T25), plS n h t = true → GT h (plainS h t) → VT n h t
  | 0, _, h, _ => by cases h
  | h + 1, t, hp, hg => by
    have hp' : (pl1 n t.s && t.s.f4.all (plS n h)) = true := hp
    rw [Bool.and_eq_true] at hp'
    obtain ⟨p1, p2⟩ := hp'
    have p2' := List.all_eq_true.1 p2
    have g1 : (((t.s.f4.map (plainS h)).length : Int) = argsZ t.s.f0 ∧ (t.s.f0 = 1 → good (if t.s.f0 = 2 then vnull else t.s.f1) = true)) ∧ ∀ c ∈ t.s.f4.map (plainS h), GT h c := hg
    obtain ⟨⟨g1, g2⟩, g3⟩ := g1
    rw [List.length_map] at g1
    have g3' : ∀ c ∈ t.s.f4, GT h (plainS h c) := fun c hc => g3 _ (List.mem_map.2 ⟨c, hc, rfl⟩)
    have hv : ∀ c ∈ t.s.f4, VT n h c := fun c hc => vt_of n hn h c (p2' c hc) (g3' c hc)
    by_cases h1 : t.s.f0 = 1
    · have := g2 h1
      rw [if_neg (by omega)] at this
      exact .inl ⟨h1, this⟩
    by_cases h2 : t.s.f0 = 2
    · unfold pl1 at p1
      simp only [h2, Bool.and_eq_true, bne_self_eq_false, Bool.false_or, decide_eq_true_eq, Bool.or_eq_true, show ¬ n < 0 by omega, decide_false] at p1
      exact .inr (.inl ⟨h2, p1.2.2.2.1, by simpa using p1.2.2.2.2⟩)
    have hagg : ¬ (23 ≤ t.s.f0 ∧ t.s.f0 ≤ 26) := by
      intro hc
      unfold pl1 at p1
      simp [hc] at p1
    unfold argsZ at g1
    by_cases h3 : 3 ≤ t.s.f0 ∧ t.s.f0 ≤ 8
    · rw [if_neg (by omega), if_pos (by omega)] at g1
      obtain ⟨a, ha⟩ := List.length_eq_one_iff.1 (show t.s.f4.length = 1 by omega)
      exact .inr (.inr (.inl ⟨h3.1, h3.2, a, ha, hv a (by rw [ha]; simp)⟩))
    by_cases h4 : 9 ≤ t.s.f0 ∧ t.s.f0 ≤ 22
    · rw [if_neg (by omega), if_neg (by omega), if_pos h4] at g1
      obtain ⟨a, b, hab⟩ : ∃ a b, t.s.f4 = [a, b] := by
        have hl : t.s.f4.length = 2 := by omega
        generalize t.s.f4 = q at hl
        match q, hl with
        | [a, b], _ => exact ⟨a, b, rfl⟩
      exact .inr (.inr (.inr ⟨h4.1, h4.2, a, b, hab, hv a (by rw [hab]; simp), hv b (by rw [hab]; simp)⟩))
    · rw [if_neg (by omega), if_neg (by omega), if_neg h4] at g1
      omega
theorem pgood_tot (k : Nat) (hk : 8194 < k) (e : S25) (hl : lenB k 20 e.t) : ∃ b, print_Good k e = some b ∧ (b = true → GT 20 e.t) := by
  unfold print_Good
  obtain ⟨r, h1, h2⟩ := count_it k hk 20 k e (by omega) (by omega) hl
  have h1' : print_count k e 20 = some r := h1
  rw [h1', some_bind]
  by_cases h0 : r > 0
  · rw [decide_eq_true h0]; exact ⟨_, rfl, fun _ => h2 (by omega)⟩
  · rw [decide_eq_false h0]; exact ⟨false, rfl, by simp⟩
theorem egood_tot (k : Nat) (hk : 8194 < k) (e : S25) (n : Int) (hn : 0 ≤ n) (hs : sz e.t < k) (ho : T25.ok e.t) : ∃ b, eval_Good k e n = some b ∧ (b = true → VT n 20 e.t) := by
  unfold eval_Good
  have h1 : bind_Low k e 20 = some (lowS 20 e.t) := low_it k k 20 e (by omega) (by omega) ho hs
  rw [h1, some_bind]
  cases hl : lowS 20 e.t
  · exact ⟨false, rfl, by simp⟩
  rw [cond_true]
  have h2 : eval_places k e n = some (plS n 20 e.t) := places_it k n 20 k e (by omega) hl ho hs
  rw [h2, some_bind]
  cases hp : plS n 20 e.t
  · exact ⟨false, rfl, by simp⟩
  rw [cond_true]
  have h3 : bind_Plain k e = some (plainS 20 e.t).s := plain_it k 20 k e (by omega) hl ho hs
  obtain ⟨b, h4, h5⟩ := pgood_tot k hk (plainS 20 e.t).s (by rw [T25.st]; exact lenB_plain k 20 _ (lenB_of k 20 _ hs ho))
  rw [h3, some_bind, h4, some_bind]
  rw [T25.st] at h5
  exact ⟨b, rfl, fun hb => vt_of n hn 20 _ hp (h5 hb)⟩
theorem may_tot (k : Nat) (hk : 8194 < k) (e : S25) (row : List S23) (hr : row.length ≤ 200) (hs : sz e.t < k) (ho : T25.ok e.t) : ∃ b, eval_may k e row = some b ∧ (b = true → row.all good = true ∧ VT row.length 20 e.t) := by
  unfold eval_may
  rw [all_eq k row (by omega) (by omega), some_bind]
  cases ha : row.all good
  · exact ⟨false, rfl, by simp⟩
  rw [cond_true]
  obtain ⟨b, h1, h2⟩ := egood_tot k hk e row.length (by omega) hs ho
  rw [h1, some_bind]
  exact ⟨b, rfl, fun hb => ⟨rfl, h2 hb⟩⟩
end Go.Proofs.YtnoeedkbadoogaaDoor.E
namespace Go.Proofs.YtnoeedkbadoogaaDoor.E
open Go Go.AX

theorem do_ne1 (op : Int) (a b : S23) : (doS op a b).2 ≠ 1 := by
  unfold doS
  repeat' split
  all_goals simp
theorem un_ne1 (op : Int) {v : S23} (h : gd v) : (unS op v).2 ≠ 1 := by
  unfold unS
  split
  · exact do_ne1 _ _ _
  split
  · unfold notR
    rcases tr_cases h.1 with ⟨ha, _⟩ | ⟨ha, _⟩ | ⟨ha, _⟩ | ⟨ha, _⟩ <;> rw [ha] <;> simp
  split
  · simp
  split <;> simp
theorem bin_ne1 (op : Int) (a b : S23) : (binS op a b).2 ≠ 1 := by
  unfold binS
  split
  · unfold concatS
    repeat' split
    all_goals simp
  split
  · exact do_ne1 _ _ _
  split
  · simp
  · unfold joinR
    split <;> simp
/-- What an expression comes to. -/
noncomputable def valS (row : List S23) : Nat → T25 → S23 × Int
  | 0, _ => (vnull, 0)
  | h + 1, t =>
    if t.s.f0 = 1 then (t.s.f1, 0) else if t.s.f0 = 2 then (row.getD t.s.f1.f1.toNat default, 0) else
    match t.s.f4 with
    | [a] => if (valS row h a).2 ≠ 0 then (vnull, (valS row h a).2) else unS t.s.f0 (valS row h a).1
    | [a, b] => if (valS row h a).2 ≠ 0 then (vnull, (valS row h a).2) else if (valS row h b).2 ≠ 0 then (vnull, (valS row h b).2) else binS t.s.f0 (valS row h a).1 (valS row h b).1
    | _ => (vnull, 0)
theorem un_ok (k : Nat) (op : Int) {v : S23} (h1 : 3 ≤ op) (h2 : op ≤ 8) (hv : gd v) : eval_Un k op v = some (unS op v) := un_eq k op v h1 h2 hv.1 hv.2
theorem val_it (k : Nat) (hk : 8194 < k) (row : List S23) (hrow : ∀ v ∈ row, gd v) : ∀ (h d : Nat) (e : S25), h ≤ d → VT row.length h e.t → T25.ok e.t →
    (eval_Value_R_it k d).eval_Value e row = some (valS row h e.t) ∧ gd (valS row h e.t).1 ∧ (valS row h e.t).2 ≠ 1
  | 0, _, e, _, hv, _ => by cases hv
  | h + 1, d + 1, e, hd, hv, ho => by
    have w1 : IntKind.i64.wrap ((0 : Int) + 1) = 1 := by decide
    have w2 : IntKind.i64.wrap ((1 : Int) + 1) = 2 := by decide
    have hb : (eval_Value_R_it k (d + 1)).eval_Value e row = eval_Value_r k (eval_Value_R_it k d) e row := rfl
    have e0 : e.t.s = e := rfl
    rw [hb]
    unfold eval_Value_r valS
    rw [e0]
    have hv' : (e.f0 = 1 ∧ good e.f1 = true) ∨ (e.f0 = 2 ∧ 0 ≤ e.f1.f1 ∧ e.f1.f1 < (row.length : Int)) ∨ (3 ≤ e.f0 ∧ e.f0 ≤ 8 ∧ ∃ a, e.f4 = [a] ∧ VT row.length h a) ∨ (9 ≤ e.f0 ∧ e.f0 ≤ 22 ∧ ∃ a b, e.f4 = [a, b] ∧ VT row.length h a ∧ VT row.length h b) := hv
    have hin : inr e.f1.f1 = true := ok_int ho
    have hoc : ∀ c ∈ e.f4, T25.ok c := fun c hc => ok_child ho hc
    obtain ⟨op, v, tb, nm, l⟩ := e
    dsimp only at hv' hin hoc ⊢
    rcases hv' with ⟨h1, h2⟩ | ⟨h1, h2, h3⟩ | ⟨h1, h2, a, rfl, ha⟩ | ⟨h1, h2, a, b, rfl, ha, hb'⟩
    · rw [beq_iff_eq.2 h1, cond_true, if_pos h1]
      exact ⟨rfl, ⟨h2, hin⟩, by simp⟩
    · rw [beq_eq_false_iff_ne.2 (show op ≠ 1 by omega), Bool.cond_false, beq_iff_eq.2 h1, cond_true, chk_pos ⟨h2, h3⟩, if_neg (by omega), if_pos h1]
      exact ⟨rfl, hrow _ (getD_mem (by omega)), by simp⟩
    · rw [beq_eq_false_iff_ne.2 (show op ≠ 1 by omega), Bool.cond_false, beq_eq_false_iff_ne.2 (show op ≠ 2 by omega), Bool.cond_false, if_neg (by omega), if_neg (by omega)]
      obtain ⟨r1, r2, r3⟩ := val_it k hk row hrow h d a.s (by omega) (by rw [T25.st]; exact ha) (by rw [T25.st]; exact hoc a (by simp))
      rw [T25.st] at r1 r2 r3
      obtain ⟨k1, rfl⟩ : ∃ m, k = m + 1 := ⟨k - 1, by omega⟩
      unfold eval_Value_j9
      rw [show decide ((0 : Int) < (([a] : List T25).length : Int)) = true from rfl, cond_true, chk_pos (by simp), show ([a] : List T25).getD ((0 : Int)).toNat default = a from rfl, r1, some_bind, chk_pos (by omega), chk_pos (by decide), chk_pos (by decide)]
      dsimp only
      by_cases e1 : (valS row h a).2 = 0
      case neg =>
        rw [show ((valS row h a).2 != 0) = true by simp [e1], cond_true, if_pos e1]
        exact ⟨rfl, gd_null, r3⟩
      rw [show ((valS row h a).2 != 0) = false by simp [e1], Bool.cond_false, if_neg (fun h => h e1)]
      unfold eval_Value_g1 eval_Value_g1_b eval_Value_j9
      rw [w1, show decide ((1 : Int) < (([a] : List T25).length : Int)) = false from rfl, Bool.cond_false, show (((([a] : List T25).length : Int)) == 1) = true from rfl, cond_true, chk_pos (by omega), chk_pos (by decide)]
      have hg : ((List.replicate 2 default : List S23).set ((0 : Int)).toNat (valS row h a).1).getD 0 default = (valS row h a).1 := rfl
      rw [hg, un_ok _ op h1 h2 r2, some_bind]
      exact ⟨rfl, gd_un op r2, un_ne1 op r2⟩
    · rw [beq_eq_false_iff_ne.2 (show op ≠ 1 by omega), Bool.cond_false, beq_eq_false_iff_ne.2 (show op ≠ 2 by omega), Bool.cond_false, if_neg (by omega), if_neg (by omega)]
      obtain ⟨r1, r2, r3⟩ := val_it k hk row hrow h d a.s (by omega) (by rw [T25.st]; exact ha) (by rw [T25.st]; exact hoc a (by simp))
      obtain ⟨q1, q2, q3⟩ := val_it k hk row hrow h d b.s (by omega) (by rw [T25.st]; exact hb') (by rw [T25.st]; exact hoc b (by simp))
      rw [T25.st] at r1 r2 r3 q1 q2 q3
      obtain ⟨k1, rfl⟩ : ∃ m, k = m + 2 := ⟨k - 2, by omega⟩
      unfold eval_Value_j9
      rw [show decide ((0 : Int) < (([a, b] : List T25).length : Int)) = true from rfl, cond_true, chk_pos (by simp), show ([a, b] : List T25).getD ((0 : Int)).toNat default = a from rfl, r1, some_bind, chk_pos (by omega), chk_pos (by decide), chk_pos (by decide)]
      dsimp only
      by_cases e1 : (valS row h a).2 = 0
      case neg =>
        rw [show ((valS row h a).2 != 0) = true by simp [e1], cond_true, if_pos e1]
        exact ⟨rfl, gd_null, r3⟩
      rw [show ((valS row h a).2 != 0) = false by simp [e1], Bool.cond_false, if_neg (fun h => h e1)]
      unfold eval_Value_g1 eval_Value_g1_b eval_Value_j9
      rw [w1, show decide ((1 : Int) < (([a, b] : List T25).length : Int)) = true from rfl, cond_true, chk_pos (by simp), show ([a, b] : List T25).getD ((1 : Int)).toNat default = b from rfl, q1, some_bind, chk_pos (by omega), chk_pos (by decide), chk_pos (by simp)]
      by_cases e2 : (valS row h b).2 = 0
      case neg =>
        rw [show ((valS row h b).2 != 0) = true by simp [e2], cond_true, if_pos e2]
        exact ⟨rfl, gd_null, q3⟩
      rw [show ((valS row h b).2 != 0) = false by simp [e2], Bool.cond_false, if_neg (fun h => h e2)]
      unfold eval_Value_g1 eval_Value_g1_b eval_Value_j9
      rw [w2, show decide ((2 : Int) < (([a, b] : List T25).length : Int)) = false from rfl, Bool.cond_false, show (((([a, b] : List T25).length : Int)) == 1) = false from rfl, Bool.cond_false, chk_pos (by omega), chk_pos (by decide), chk_pos (by omega), chk_pos (by decide)]
      have hg : (((List.replicate 2 default : List S23).set ((0 : Int)).toNat (valS row h a).1).set ((1 : Int)).toNat (valS row h b).1).getD 0 default = (valS row h a).1 := rfl
      have hg2 : (((List.replicate 2 default : List S23).set ((0 : Int)).toNat (valS row h a).1).set ((1 : Int)).toNat (valS row h b).1).getD 1 default = (valS row h b).1 := rfl
      rw [hg, hg2, bin_eq _ (by omega) op _ _ h1 h2 r2.1 q2.1 r2.2 q2.2, some_bind]
      exact ⟨rfl, gd_bin op r2 q2, bin_ne1 op _ _⟩
end Go.Proofs.YtnoeedkbadoogaaDoor.E
