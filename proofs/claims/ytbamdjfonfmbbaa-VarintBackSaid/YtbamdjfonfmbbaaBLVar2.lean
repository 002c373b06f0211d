/-
  Layer 1: the bytes of a number, by the program and by the page; the page's reading.
-/
import Derived.Test.YtbamdjfonfmbbaaBLVar
import Derived.Test.YtbamdjfonfmbbaaBx2
namespace Go.Proofs.Ytbamdjfonfmbbaa.B
open Go Go.RowKit Go.Proofs.YtbamdjfonfmbbaaW.PrintWords Go.Proofs.YtbamdjfonfmbbaaW.PrintLast Go.Proofs.YtbamdjfonfmbbaaW.PrintMore Go.Proofs.YtbamdjfonfmbbaaG

theorem put_l0 : ∀ (f : Nat) (n : Int) (acc : List Int), 0 ≤ n → f ≤ 8 → acc.length + f ≤ 20 → Ev (fun k => varint_Put.l0 k n acc ((8 - f : Nat) : Int)) (grp f n ++ acc.reverse)
  | 0, n, acc, h0, hf, hl => by
    refine Ev.step (fun k => by rw [varint_Put.l0]) ?_
    refine Ev.ifn (by omega) ?_
    exact Ev.bind (turn_ev acc (by omega)) (Ev.ret (by simp [grp]))
  | f + 1, n, acc, h0, hf, hl => by
    refine Ev.step (fun k => by rw [varint_Put.l0]) ?_
    refine Ev.ifp (by omega) (Ev.ifp (by omega) ?_)
    have e : wrap64 (((8 - (f + 1) : Nat) : Int) + 1) = ((8 - f : Nat) : Int) := by rw [w64 (by omega) (by omega)]; omega
    rw [e, or8_128]
    refine Ev.cast ?_ (put_l0 f (n / 128) (acc ++ [n % 128 + 128]) (by omega) (by omega) (by simp; omega))
    simp [grp]
theorem put_l1 : ∀ (f : Nat) (n : Int) (acc : List Int), 0 < n → n < 128 ^ f → acc.length + f ≤ 20 → Ev (fun k => varint_Put.l1 k n acc 128) (hi f n ++ acc.reverse)
  | 0, n, acc, h0, h1, _ => by simp at h1; omega
  | f + 1, n, acc, h0, h1, hl => by
    refine Ev.step (fun k => by rw [varint_Put.l1]) ?_
    refine Ev.ifp (by omega) (Ev.const rfl ?_)
    rw [and8_127 _ (by omega) (by omega), or8_128' _ (by omega) (by omega), show n % 256 % 128 = n % 128 by omega]
    rw [Int.pow_succ] at h1
    have hn : ¬ n = 0 := by omega
    by_cases h : n / 128 > 0
    · refine Ev.ifp h ?_
      refine Ev.cast ?_ (put_l1 f (n / 128) (acc ++ [n % 128 + 128]) h (by omega) (by simp; omega))
      simp [hi, hn]
    · refine Ev.ifn h (Ev.bind (turn_ev _ (by simp; omega)) (Ev.ret ?_))
      have hz : n / 128 = 0 := by omega
      have : hi f 0 = [] := by cases f <;> simp [hi]
      simp [hi, hn, hz, this]
theorem put_ev (n : Int) (h0 : 0 ≤ n) (h1 : n < 18446744073709551616) : Ev (fun k => varint_Put.f k n) (put n) := by
  refine Ev.congr (fun k => by rw [varint_Put.f]) ?_
  unfold put
  by_cases h : 72057594037927936 ≤ n
  · rw [if_pos h]
    refine Ev.ifp h (Ev.ifp (by simp) ?_)
    exact Ev.cast (by simp) (put_l0 8 (n / 256) ([] ++ [n % 256]) (by omega) (by omega) (by simp))
  · rw [if_neg h]
    refine Ev.ifn h ?_
    refine Ev.step (fun k => by rw [varint_Put.l1]) ?_
    refine Ev.ifp (by simp) (Ev.const rfl ?_)
    rw [and8_127 _ (by omega) (by omega), or8_0 _ (by omega) (by omega), show n % 256 % 128 = n % 128 by omega]
    by_cases hp : n / 128 > 0
    · refine Ev.ifp hp ?_
      have h9 : (128 : Int) ^ 9 = 9223372036854775808 := by decide
      exact Ev.cast (by simp) (put_l1 9 (n / 128) ([] ++ [n % 128]) hp (by rw [h9]; omega) (by simp))
    · refine Ev.ifn hp (Ev.bind (turn_ev _ (by simp)) (Ev.ret ?_))
      have hz : n / 128 = 0 := by omega
      simp [hz, hi]

theorem rput_l0 : ∀ (f : Nat) (n : Int) (acc : List Int), 0 ≤ n → n < 18446744073709551616 → f ≤ 8 → acc.length + f ≤ 20 → Ev (fun k => cadastreref1_Put.l0 k n acc ((8 - f : Nat) : Int)) (grp f n ++ acc)
  | 0, n, acc, h0, h1, hf, hl => by
    refine Ev.step (fun k => by rw [cadastreref1_Put.l0]) ?_
    exact Ev.ifn (by omega) (Ev.ret (by simp [grp]))
  | f + 1, n, acc, h0, h1, hf, hl => by
    refine Ev.step (fun k => by rw [cadastreref1_Put.l0]) ?_
    refine Ev.ifp (by omega) (Ev.const rfl (Ev.ifp (by simp; omega) ?_))
    have e : wrap64 (((8 - (f + 1) : Nat) : Int) + 1) = ((8 - f : Nat) : Int) := by rw [w64 (by omega) (by omega)]; omega
    have e2 : IntKind.u64.wrap (Int.tdiv n 128) = n / 128 := by rw [tdiv_nn h0, wrap_u64]; omega
    rw [e, e2, tmod_nn h0, or8_128, show n % 128 % 128 = n % 128 by omega]
    refine Ev.cast ?_ (rput_l0 f (n / 128) ([n % 128 + 128] ++ acc) (by omega) (by omega) (by omega) (by simp; omega))
    simp [grp]
theorem rput_l1 : ∀ (f : Nat) (n : Int) (acc : List Int), 0 ≤ n → n < 18446744073709551616 → n < 128 ^ f → acc.length + f ≤ 20 → Ev (fun k => cadastreref1_Put.l1 k n acc) (hi f n ++ acc)
  | 0, n, acc, h0, h2, h1, _ => by
    have : n = 0 := by simp at h1; omega
    refine Ev.step (fun k => by rw [cadastreref1_Put.l1]) ?_
    exact Ev.ifn (by omega) (Ev.ret (by simp [hi]))
  | f + 1, n, acc, h0, h2, h1, hl => by
    rw [Int.pow_succ] at h1
    refine Ev.step (fun k => by rw [cadastreref1_Put.l1]) ?_
    by_cases hn : n = 0
    · exact Ev.ifn (by omega) (Ev.ret (by simp [hi, hn]))
    refine Ev.ifp (by omega) (Ev.const rfl (Ev.ifp (by simp; omega) ?_))
    have e2 : IntKind.u64.wrap (Int.tdiv n 128) = n / 128 := by rw [tdiv_nn h0, wrap_u64]; omega
    rw [e2, tmod_nn h0, or8_128, show n % 128 % 128 = n % 128 by omega]
    refine Ev.cast ?_ (rput_l1 f (n / 128) ([n % 128 + 128] ++ acc) (by omega) (by omega) (by omega) (by simp; omega))
    simp [hi, hn]
theorem rput_ev (n : Int) (h0 : 0 ≤ n) (h1 : n < 18446744073709551616) : Ev (fun k => cadastreref1_Put.f k n) (put n) := by
  refine Ev.congr (fun k => by rw [cadastreref1_Put.f]) ?_
  unfold put
  by_cases h : 72057594037927936 ≤ n
  · rw [if_pos h]
    refine Ev.ifp h ?_
    exact rput_l0 8 (n / 256) [n % 256] (by omega) (by omega) (by omega) (by simp)
  · rw [if_neg h]
    refine Ev.ifn h ?_
    have e2 : IntKind.u64.wrap (Int.tdiv n 128) = n / 128 := by rw [tdiv_nn h0, wrap_u64]; omega
    have h9 : (128 : Int) ^ 9 = 9223372036854775808 := by decide
    rw [e2, tmod_nn h0, show n % 128 % 256 = n % 128 by omega]
    exact rput_l1 9 (n / 128) [n % 128] (by omega) (by omega) (by rw [h9]; omega) (by simp)

theorem put_length (n : Int) : (put n).length ≤ 10 := by
  unfold put
  split
  · simp [grp_length]
  · have := hi_length_le 9 9
    by_cases h : 0 ≤ n / 128 ∧ n / 128 < 128 ^ 9
    · have := this (n / 128) h.1 h.2; simp; omega
    · have h2 : ∀ (f : Nat) (m : Int), (hi f m).length ≤ f := by
        intro f
        induction f with
        | zero => intro m; simp [hi]
        | succ f ih => intro m; simp only [hi]; split; simp; have := ih (m / 128); simp; omega
      have := h2 9 (n / 128); simp; omega

/-- What is read: an error and nothing else; or a number, and its bytes are those that were read. -/
theorem gs_says {l : List Int} (hl : IsB l) : ∀ (f i : Nat), i + f = 9 → (∀ j : Nat, j < i → 128 ≤ rd l j) → i ≤ l.length → i < 9 →
    gs l f i = (0, 0, 1) ∨ ∃ (n : Int) (m : Nat), gs l f i = (n, (m : Int), 0) ∧ 1 ≤ m ∧ m ≤ l.length ∧ m ≤ 9 ∧ put n = l.take m ∧ 0 ≤ n ∧ n < 18446744073709551616
  | 0, i, h, _, _, h9 => by omega
  | f + 1, i, hf, hb, hi_, h9 => by
    have hd := rd_byte hl (i : Int)
    simp only [gs]
    by_cases h1 : i = l.length
    · rw [if_pos h1]; exact .inl rfl
    rw [if_neg h1]
    by_cases h8 : i = 8
    · subst h8
      have hr := V_small l 8 (by omega)
      rw [if_pos rfl]
      by_cases h : V l 8 * 256 + rd l 8 < 72057594037927936
      · rw [if_pos h]; exact .inl rfl
      · rw [if_neg h]
        have hd : 0 ≤ rd l 8 ∧ rd l 8 < 256 := hd
        exact .inr ⟨_, 9, rfl, by omega, by omega, by omega, (put_nine l hl (by omega) hb).mpr h, by omega, by omega⟩
    rw [if_neg h8]
    by_cases hb' : 128 ≤ rd l i
    · rw [if_pos hb']
      refine gs_says hl f (i + 1) (by omega) ?_ (by omega) (by omega)
      intro j hj
      by_cases hji : j = i
      · rw [hji]; exact hb'
      · exact hb j (by omega)
    rw [if_neg hb']
    by_cases hm : 1 ≤ i ∧ V l (i + 1) < 128 ^ i
    · rw [if_pos hm]; exact .inl rfl
    · rw [if_neg hm]
      have hs := V_small l (i + 1) (by omega)
      exact .inr ⟨_, i + 1, by simp, by omega, by omega, by omega, (put_short l hl i (by omega) (by omega) hb (by omega)).mpr hm, by omega, by omega⟩

theorem vwakes_ev : Ev (fun k => cadastrelaw1_wakes.f k) true := by
  refine Ev.congr (fun k => by rw [cadastrelaw1_wakes.f]) ?_
  refine Ev.bind (get_ev (l := [129, 0]) (by unfold IsB; decide) (by decide)) ?_
  have e : gs [129, 0] 9 0 = (128, 2, 0) := by decide
  rw [e]
  refine Ev.const (r := 0) (by rfl) ?_
  exact Ev.ifp rfl (Ev.ifp rfl (Ev.ret rfl))
end Go.Proofs.Ytbamdjfonfmbbaa.B
