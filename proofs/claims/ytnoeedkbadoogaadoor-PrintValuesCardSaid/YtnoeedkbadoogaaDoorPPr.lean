/-
  Layer 21: what the writer writes, a text's quotes, a blob's digits: what the printed functions come to.
  Layer 21: a value's text: what the printed functions come to.
  Layer 21: a value's text, read by hand, is the value.
  Layer 21: the page's own statement is printed as it stands.
-/
import Derived.Test.YtnoeedkbadoogaaDoorPDs
import Derived.Test.YtnoeedkbadoogaaDoorPLx
namespace Go.Proofs.YtnoeedkbadoogaaDoor.P
open Go Go.AX

theorem bytesOf_nums (s : ByteArray) : bytesOf s = nums (by_ s) := rfl
theorem bytes_txt (s : ByteArray) : strOfNums (bytesOf s) = s := by
  rw [bytesOf_nums, nums_txt]; rfl
theorem beq_by (s : ByteArray) (l : List UInt8) : (s.toList == (⟨l.toArray⟩ : ByteArray).toList) = (by_ s == l) := by
  rw [by_toList, by_toList]
  rfl
/-! ### the writer -/
/-- One token more. -/
def putStep (b : List Int) (g : Bool) (s : ByteArray) : List Int × Bool :=
  ((bif decide (b.length = 0) || (g || (by_ s == [41] || (by_ s == [46] || by_ s == [44]))) then b else b ++ [32]) ++ bytesOf s, by_ s == [40] || by_ s == [46])
def putS : List ByteArray → List Int × Bool → List Int × Bool
  | [], x => x
  | s :: r, x => putS r (putStep x.1 x.2 s)
theorem putStep_len (b : List Int) (g : Bool) (s : ByteArray) : (putStep b g s).1.length ≤ b.length + 1 + s.size := by
  unfold putStep
  have : (bytesOf s).length = s.size := by rw [bytesOf_nums, nums_len, by_length]
  cases decide (b.length = 0) || (g || (by_ s == [41] || (by_ s == [46] || by_ s == [44]))) <;> simp [this] <;> omega
theorem put_j6 {ρ : Type} (k : Nat) (kg : List ByteArray → Int → List Int → Bool → Option ρ) (l : List ByteArray) (i : Int) (s : ByteArray) (b : List Int) (g : Bool) (hb : b.length + s.size ≤ 140737488355328) :
    print_writer_put_p0_j6 k kg l i s b g = kg l i (b ++ bytesOf s) (by_ s == [40] || by_ s == [46]) := by
  unfold print_writer_put_p0_j6
  have hl : (bytesOf s).length = s.size := by rw [bytesOf_nums, nums_len, by_length]
  rw [chk_pos (by rw [hl]; omega), show (⟨#[40]⟩ : ByteArray) = ⟨[40].toArray⟩ from rfl, show (⟨#[46]⟩ : ByteArray) = ⟨[46].toArray⟩ from rfl, beq_by, beq_by]
  cases (by_ s == [40]) <;> rfl
theorem put_step {ρ : Type} (k : Nat) (kret : List Int → Bool → Option ρ) (l : List ByteArray) (i n : Nat) (b : List Int) (g : Bool) (hi : i < l.length) (hl : l.length ≤ 9223372036854775806) (hb : b.length + 1 + l[i].size ≤ 140737488355328) :
    print_writer_put_p0_g0 k kret (n + 1) l (i : Int) b g = print_writer_put_p0_g0 k kret n l ((i + 1 : Nat) : Int) (putStep b g l[i]).1 (putStep b g l[i]).2 := by
  simp only [print_writer_put_p0_g0, print_writer_put_p0_g0_b]
  unfold print_writer_put_p0_j1 print_writer_put_p0_j5
  rw [beq_eq_false_iff_ne.2 (show (i : Int) ≠ (l.length : Int) by omega), Bool.cond_false, chk_pos (by omega), show ((i : Int)).toNat = i from rfl, getD_get l i _ hi, w64n (by omega)]
  dsimp only
  rw [put_j6 k _ l _ l[i] b g (by omega), put_j6 k _ l _ l[i] (b ++ [32]) g (by simp; omega), chk_pos (by simp; omega)]
  rw [show (⟨#[41]⟩ : ByteArray) = ⟨[41].toArray⟩ from rfl, show (⟨#[46]⟩ : ByteArray) = ⟨[46].toArray⟩ from rfl, show (⟨#[44]⟩ : ByteArray) = ⟨[44].toArray⟩ from rfl, beq_by, beq_by, beq_by]
  unfold putStep
  by_cases h0 : b.length = 0
  · rw [beq_iff_eq.2 (show (b.length : Int) = 0 by omega), decide_eq_true h0]; rfl
  · rw [beq_eq_false_iff_ne.2 (show (b.length : Int) ≠ 0 by omega), decide_eq_false h0]
    cases g <;> cases (by_ l[i] == [41]) <;> cases (by_ l[i] == [46]) <;> cases (by_ l[i] == [44]) <;> rfl
theorem put_loop {ρ : Type} (k : Nat) (kret : List Int → Bool → Option ρ) (l : List ByteArray) (hl : l.length ≤ 1000) (hs : ∀ s ∈ l, s.size ≤ 100000000) :
    ∀ (d i n : Nat) (b : List Int) (g : Bool), i + d = l.length → d < n → b.length ≤ 1000000000 + i * 100000001 → print_writer_put_p0_g0 k kret n l (i : Int) b g = kret (putS (l.drop i) (b, g)).1 (putS (l.drop i) (b, g)).2
  | 0, i, n + 1, b, g, hi, _, _ => by
    obtain rfl : i = l.length := by omega
    simp only [print_writer_put_p0_g0, print_writer_put_p0_g0_b]
    unfold print_writer_put_p0_j1
    rw [beq_self_eq_true, cond_true, List.drop_length]; rfl
  | d + 1, i, n + 1, b, g, hi, hn, hb => by
    have hlt : i < l.length := by omega
    have hsz := hs _ (List.getElem_mem hlt)
    have hst := putStep_len b g l[i]
    rw [put_step k kret l i n b g hlt (by omega) (by omega), put_loop k kret l hl hs d (i + 1) n _ _ (by omega) (by omega) (by omega), List.drop_eq_getElem_cons hlt]
    rfl
theorem put_eq (k : Nat) (l : List ByteArray) (x : S51) (hl : l.length ≤ 1000) (hs : ∀ s ∈ l, s.size ≤ 100000000) (hx : x.f0.length ≤ 1000000000) (hk : l.length ≤ k) :
    print_writer_put_p0 k l x = some ((), ⟨(putS l (x.f0, x.f1)).1, (putS l (x.f0, x.f1)).2⟩) := by
  have := put_loop k (fun b g => some ((), (⟨b, g⟩ : S51))) l hl hs l.length 0 (k + 1) x.f0 x.f1 (by omega) (by omega) (by omega)
  rw [List.drop_zero] at this
  exact this
theorem put_one (k : Nat) (hk : 1 ≤ k) (s : ByteArray) (hs : s.size ≤ 100000000) : ∃ g, print_writer_put_p0 k [s] ⟨[], false⟩ = some ((), ⟨bytesOf s, g⟩) := by
  refine ⟨(putStep [] false s).2, (put_eq k [s] ⟨[], false⟩ (by simp) (by simpa using hs) (by simp) (by simpa using hk)).trans ?_⟩
  rfl

/-! ### quotes -/
def qF : List UInt8 → List UInt8
  | [] => []
  | c :: r => if c.toNat = 39 then 39 :: c :: qF r else c :: qF r
theorem qF_len : ∀ l : List UInt8, (qF l).length ≤ 2 * l.length
  | [] => by simp [qF]
  | c :: r => by
    have := qF_len r
    unfold qF
    split <;> simp <;> omega
theorem quote_loop {ρ : Type} (k : Nat) (ke : List Int → Option ρ) (s : ByteArray) (hs : s.size ≤ 9000) : ∀ (d i n : Nat) (b : List Int), i + d = s.size → d < n → b.length ≤ 1 + 2 * i →
    print_quote_l3 k ke n s b (s.size : Int) (i : Int) = ke (b ++ nums (qF ((by_ s).drop i)))
  | 0, i, n + 1, b, hi, _, _ => by
    obtain rfl : i = s.size := by omega
    simp only [print_quote_l3, print_quote_l3_b]
    rw [decide_eq_false (by omega), Bool.cond_false, ← by_length, List.drop_length]
    simp [qF, nums]
  | d + 1, i, n + 1, b, hi, hn, hb => by
    have hl : i < (by_ s).length := by rw [by_length]; omega
    simp only [print_quote_l3, print_quote_l3_b]
    rw [decide_eq_true (by omega), cond_true, chk_pos (by omega), rd_by s i hl, w64n (by omega), List.drop_eq_getElem_cons hl]
    unfold qF
    by_cases hc : (by_ s)[i].toNat = 39
    · rw [beq_iff_eq.2 (show (((by_ s)[i].toNat : Int)) = 39 by omega), cond_true, chk_pos (by simp; omega), chk_pos (by omega), chk_pos (by simp; omega), quote_loop k ke s hs d (i + 1) n _ (by omega) (by omega) (by simp; omega), if_pos hc]
      simp [nums]
    · rw [beq_eq_false_iff_ne.2 (show (((by_ s)[i].toNat : Int)) ≠ 39 by omega), Bool.cond_false, chk_pos (by omega), chk_pos (by simp; omega), quote_loop k ke s hs d (i + 1) n _ (by omega) (by omega) (by simp; omega), if_neg hc]
      simp [nums]
theorem quote_eq (k : Nat) (s : ByteArray) (hs : s.size ≤ 9000) (hk : s.size < k) : print_quote k s = some (txt (39 :: (qF (by_ s) ++ [39]))) := by
  unfold print_quote
  have := quote_loop k (fun b3 => chk ((b3.length + [39].length) * 1 ≤ 140737488355328) <| some (strOfNums (b3 ++ [39]))) s hs s.size 0 k [39] (by omega) hk (by simp)
  refine Eq.trans this ?_
  rw [List.drop_zero]
  have hq := qF_len (by_ s)
  rw [by_length] at hq
  rw [chk_pos (by simp [nums_len]; omega)]
  have e : [(39 : Int)] ++ nums (qF (by_ s)) ++ [39] = nums (39 :: (qF (by_ s) ++ [39])) := by simp [nums]
  rw [e, nums_txt]
/-! ### a blob's digits -/
theorem hex_loop {ρ : Type} (k : Nat) (ke : List Int → Option ρ) (s : ByteArray) (hs : s.size ≤ 9000) : ∀ (d i n : Nat) (b : List Int), i + d = s.size → d < n → b.length = 2 * i →
    ∃ b', b'.length = 2 * s.size ∧ print_hex_l3 k ke n s b (s.size : Int) (i : Int) = ke b'
  | 0, i, n + 1, b, hi, _, hb => by
    obtain rfl : i = s.size := by omega
    refine ⟨b, hb, ?_⟩
    simp only [print_hex_l3, print_hex_l3_b]
    rw [decide_eq_false (by omega), Bool.cond_false]
  | d + 1, i, n + 1, b, hi, hn, hb => by
    have hl : i < (by_ s).length := by rw [by_length]; omega
    simp only [print_hex_l3, print_hex_l3_b]
    rw [decide_eq_true (by omega), cond_true, chk_pos (by omega), rd_by s i hl]
    have hc := (by_ s)[i].toNat_lt
    generalize (by_ s)[i].toNat = c at hc
    have h1 : Int.fdiv (c : Int) (2 ^ (min (4 : Int).toNat (IntKind.u8).bits)) = ((c / 16 : Nat) : Int) := by
      have : (2 : Int) ^ (min (4 : Int).toNat (IntKind.u8).bits) = 16 := by decide
      rw [this, Int.fdiv_eq_ediv_of_nonneg _ (by omega)]
      omega
    have h2 : 0 ≤ IntKind.u8.wrap ((BitVec.ofInt (IntKind.u8).bits (c : Int) &&& BitVec.ofInt (IntKind.u8).bits 15).toNat : Int) ∧ IntKind.u8.wrap ((BitVec.ofInt (IntKind.u8).bits (c : Int) &&& BitVec.ofInt (IntKind.u8).bits 15).toNat : Int) < 16 := by
      have h15 : (BitVec.ofInt (IntKind.u8).bits 15).toNat = 15 := by decide
      have hle : (BitVec.ofInt (IntKind.u8).bits (c : Int) &&& BitVec.ofInt (IntKind.u8).bits 15).toNat ≤ 15 := by
        rw [BitVec.toNat_and, h15]
        exact Nat.and_le_right
      rw [IntKind.wrap_u8]
      omega
    rw [h1]
    generalize IntKind.u8.wrap ((BitVec.ofInt (IntKind.u8).bits (c : Int) &&& BitVec.ofInt (IntKind.u8).bits 15).toNat : Int) = q at h2
    have hsz : ((⟨#[48, 49, 50, 51, 52, 53, 54, 55, 56, 57, 97, 98, 99, 100, 101, 102]⟩ : ByteArray).size : Int) = 16 := rfl
    rw [chk_pos (by rw [hsz]; omega), chk_pos (by omega), chk_pos (by rw [hsz]; omega), chk_pos (by simp; omega), w64n (by omega)]
    exact hex_loop k ke s hs d (i + 1) n _ (by omega) (by omega) (by simp; omega)
theorem hex_eq (k : Nat) (s : ByteArray) (hs : s.size ≤ 9000) (hk : s.size < k) : ∃ r, print_hex k s = some r ∧ r.size = 2 * s.size := by
  unfold print_hex
  obtain ⟨b', h1, h2⟩ := hex_loop k (fun b3 => some (strOfNums b3)) s hs s.size 0 k [] (by omega) hk (by simp)
  refine ⟨_, h2, ?_⟩
  unfold strOfNums
  show (List.map _ b').toArray.size = _
  simp [h1]
end Go.Proofs.YtnoeedkbadoogaaDoor.P
namespace Go.Proofs.YtnoeedkbadoogaaDoor.P
open Go Go.AX

def argsZ (op : Int) : Int := if op = 1 ∨ op = 2 ∨ op = 23 then 0 else if (3 ≤ op ∧ op ≤ 8) ∨ (24 ≤ op ∧ op ≤ 26) then 1 else if 9 ≤ op ∧ op ≤ 22 then 2 else -1
theorem args_eq (k : Nat) (op : Int) : print_args k op = some (argsZ op) := by
  unfold print_args print_args_j3 print_args_j5 argsZ
  simp only [bif_ite, beq_iff_eq, decide_eq_true_eq, ge_iff_le]
  by_cases h1 : op = 1
  · simp [h1]
  by_cases h2 : op = 2
  · simp [h2]
  by_cases h3 : op = 23
  · simp [h3]
  by_cases h4 : 3 ≤ op <;> by_cases h5 : op ≤ 8 <;> by_cases h6 : 24 ≤ op <;> by_cases h7 : op ≤ 26 <;> by_cases h8 : 9 ≤ op <;> by_cases h9 : op ≤ 22 <;> simp [h1, h2, h3, h4, h5, h6, h7, h8, h9] <;> omega
/-- An expression that is a value. -/
def litE (v : S23) : S25 := ⟨1, v, ByteArray.empty, ByteArray.empty, []⟩
theorem lit_good (k : Nat) (hk : 3 ≤ k) (v : S23) (hg : good v = true) (h0 : ¬ v.f1 < 0) : print_Good k (litE v) = some true := by
  obtain ⟨k, rfl⟩ : ∃ m, k = m + 3 := ⟨k - 3, by omega⟩
  have h1 : print_one (k + 3) (litE v) = some true := by
    unfold print_one
    rw [args_eq, some_bind]
    have e1 : (((litE v).f4.length : Int) != argsZ (litE v).f0) = false := by
      show ((([] : List T25).length : Int) != argsZ 1) = false
      decide
    have e2 : ((litE v).f0 == 1) = true := by show ((1 : Int) == 1) = true; decide
    rw [e1, Bool.cond_false, e2, cond_true]
    unfold print_literal
    rw [good_eq, show good (litE v).f1 = true from hg, some_bind, cond_true]
    have hf : ∀ b : Bool, b = true → ((some b).bind fun r_2 => bif r_2 then bif ((litE v).f2.toList == ByteArray.empty.toList) then some ((litE v).f3.toList == ByteArray.empty.toList) else some false else some false) = some true := by
      intro b hb
      subst hb
      simp [litE]
    cases hk : ((litE v).f1.f0 != 1)
    · exact hf _ (decide_eq_true (show v.f1 ≥ 0 by omega))
    · exact hf _ rfl
  unfold print_Good
  have h2 : print_count (k + 3) (litE v) 20 = some 1 := by
    show print_count_r (k + 3) (print_count_R_it (k + 3) (k + 2)) (litE v) ((20 : Nat) : Int) = some 1
    unfold print_count_r
    rw [beq_eq_false_iff_ne.2 (show ((20 : Nat) : Int) ≠ 0 by omega), Bool.cond_false, h1, some_bind]
    rfl
  rw [h2, some_bind]
  rfl
/-- What a value's text is, and that the writer writes it. -/
theorem expr_lit (k : Nat) (hk : 10000 ≤ k) (v : S23) (hg : good v = true) (h0 : ¬ v.f1 < 0) (t : ByteArray) (hw : ∃ g, print_writer_literal_p0 k v ⟨[], false⟩ = some ((), ⟨bytesOf t, g⟩)) : print_Expr k (litE v) = some (t, 0) := by
  unfold print_Expr
  rw [lit_good k (by omega) v hg h0, some_bind, Bool.not_true, Bool.cond_false]
  unfold print_writer_expr_p0
  have e0 : (litE v).f0 = 1 := rfl
  have e1 : (litE v).f1 = v := rfl
  obtain ⟨g, hg'⟩ := hw
  rw [e0, beq_self_eq_true, cond_true, e1, hg', some_bind, some_bind]
  dsimp only
  rw [bytes_txt]
def nullT : ByteArray := ⟨#[110, 117, 108, 108]⟩
theorem lit_null (k : Nat) (hk : 10000 ≤ k) : ∃ g, print_writer_literal_p0 k vnull ⟨[], false⟩ = some ((), ⟨bytesOf nullT, g⟩) := by
  obtain ⟨g, hg⟩ := put_one k (by omega) nullT (by decide)
  refine ⟨g, ?_⟩
  have hg' : print_writer_put_p0 k [(⟨#[110, 117, 108, 108]⟩ : ByteArray)] ⟨[], false⟩ = some ((), ⟨bytesOf nullT, g⟩) := hg
  unfold print_writer_literal_p0
  show (bif ((0 : Int) == 0) then _ else _) = _
  rw [beq_self_eq_true, cond_true, hg']; rfl
theorem lit_int (k : Nat) (hk : 10000 ≤ k) (n : Int) (hn : inr n = true) : ∃ g, print_writer_literal_p0 k (vint n) ⟨[], false⟩ = some ((), ⟨bytesOf (dtxt n), g⟩) := by
  obtain ⟨g, hg⟩ := put_one k (by omega) (dtxt n) (by have := dtxt_size n hn; omega)
  refine ⟨g, ?_⟩
  unfold print_writer_literal_p0
  show (bif ((1 : Int) == 0) then _ else bif ((1 : Int) == 1) then _ else _) = _
  rw [beq_eq_false_iff_ne.2 (show (1 : Int) ≠ 0 by omega), Bool.cond_false, beq_self_eq_true, cond_true]
  have : (vint n).f1 = n := rfl
  rw [this, format_eq k n hn, some_bind, hg]; rfl
theorem lit_txt (k : Nat) (hk : 10000 ≤ k) (s : ByteArray) (hs : s.size ≤ 4096) : ∃ g, print_writer_literal_p0 k (vtxt s) ⟨[], false⟩ = some ((), ⟨bytesOf (txt (39 :: (qF (by_ s) ++ [39]))), g⟩) := by
  obtain ⟨g, hg⟩ := put_one k (by omega) (txt (39 :: (qF (by_ s) ++ [39]))) (by
    have := qF_len (by_ s)
    rw [by_length] at this
    show (39 :: (qF (by_ s) ++ [39])).toArray.size ≤ _
    simp; omega)
  refine ⟨g, ?_⟩
  unfold print_writer_literal_p0
  show (bif ((2 : Int) == 0) then _ else bif ((2 : Int) == 1) then _ else bif ((2 : Int) == 2) then _ else _) = _
  rw [beq_eq_false_iff_ne.2 (show (2 : Int) ≠ 0 by omega), Bool.cond_false, beq_eq_false_iff_ne.2 (show (2 : Int) ≠ 1 by omega), Bool.cond_false, beq_self_eq_true, cond_true]
  have : (vtxt s).f2 = s := rfl
  rw [this, quote_eq k s (by omega) (by omega), some_bind, hg]; rfl
theorem lit_blob (k : Nat) (hk : 10000 ≤ k) (s : ByteArray) (hs : s.size ≤ 4096) : ∃ r : ByteArray, r.size = 2 * s.size ∧ ∃ g, print_writer_literal_p0 k (vblob s) ⟨[], false⟩ = some ((), ⟨bytesOf (cat (cat (⟨#[120, 39]⟩ : ByteArray) r) (⟨#[39]⟩ : ByteArray)), g⟩) := by
  obtain ⟨r, h1, h2⟩ := hex_eq k s (by omega) (by omega)
  have c1 : (cat (⟨#[120, 39]⟩ : ByteArray) r).size = 2 + r.size := by rw [cat_eq, ByteArray.size_append]; rfl
  have c2 : (cat (cat (⟨#[120, 39]⟩ : ByteArray) r) (⟨#[39]⟩ : ByteArray)).size = 3 + r.size := by
    rw [cat_eq _ (⟨#[39]⟩ : ByteArray), ByteArray.size_append, c1]
    show 2 + r.size + 1 = _
    omega
  obtain ⟨g, hg⟩ := put_one k (by omega) (cat (cat (⟨#[120, 39]⟩ : ByteArray) r) (⟨#[39]⟩ : ByteArray)) (by omega)
  refine ⟨r, h2, g, ?_⟩
  unfold print_writer_literal_p0
  show (bif ((3 : Int) == 0) then _ else bif ((3 : Int) == 1) then _ else bif ((3 : Int) == 2) then _ else _) = _
  rw [beq_eq_false_iff_ne.2 (show (3 : Int) ≠ 0 by omega), Bool.cond_false, beq_eq_false_iff_ne.2 (show (3 : Int) ≠ 1 by omega), Bool.cond_false, beq_eq_false_iff_ne.2 (show (3 : Int) ≠ 2 by omega), Bool.cond_false]
  have : (vblob s).f2 = s := rfl
  rw [this, h1, some_bind, chk_pos (by rw [strFits_eq]; show ((2 + r.size : Nat) : Int) ≤ _; omega), chk_pos (by rw [strFits_eq, c1]; show ((2 + r.size + 1 : Nat) : Int) ≤ _; omega), hg]; rfl
end Go.Proofs.YtnoeedkbadoogaaDoor.P
namespace Go.Proofs.YtnoeedkbadoogaaDoor.P
open Go Go.AX

/-! ### digits -/
theorem dd_head : ∀ u : Nat, 1 ≤ u → ∃ c r, Lib.decDigits u = c :: r ∧ c.toNat ≠ 48 := by
  intro u
  induction u using Nat.strongRecOn with
  | ind u ih =>
    intro hu
    have dig : ∀ m : Nat, m < 10 → 1 ≤ m → (UInt8.ofNat (48 + m)).toNat ≠ 48 := by decide
    by_cases h : u < 10
    · exact ⟨_, _, Lib.decDigits_one h, dig u h hu⟩
    · obtain ⟨c, r, h1, h2⟩ := ih (u / 10) (by omega) (by omega)
      exact ⟨c, r ++ [UInt8.ofNat (48 + u % 10)], by rw [dd_big h, h1]; rfl, h2⟩
theorem int_loop {ρ : Type} (k : Nat) (ke : List T25 → Int → ByteArray → Int → S23 → Option ρ) (l0 : List T25) (i3 : Int) (v4 : S23) (T : List UInt8) (u : Nat) (hd : T.all isD = true) (hT : valF 0 T = u) (hu : u ≤ 9223372036854775807) (hl : T.length ≤ 100) :
    ∀ (r P : List UInt8) (n : Nat), T = P ++ r → r.length < n → valF (valF 0 P) r = u →
    cadastrelaw21_PrintValues_l18 k ke n l0 i3 (txt T) (valF 0 P : Nat) (P.length : Nat) v4 = ke l0 i3 (txt T) (u : Nat) v4
  | [], P, n + 1, hP, _, hv => by
    have hs : ((txt T).size : Int) = (P.length : Int) := by
      show ((T.toArray.size : Nat) : Int) = _
      rw [hP]; simp
    simp only [cadastrelaw21_PrintValues_l18, cadastrelaw21_PrintValues_l18_b]
    rw [decide_eq_false (by omega), Bool.cond_false]
    have : valF 0 P = u := hv
    rw [this]
  | c :: r, P, n + 1, hP, hn, hv => by
    have hs : ((txt T).size : Int) = ((P.length + 1 + r.length : Nat) : Int) := by
      show ((T.toArray.size : Nat) : Int) = _
      rw [hP]; simp; omega
    have hlen : P.length + 1 + r.length ≤ 100 := by rw [hP] at hl; simp at hl; omega
    have hc : isD c = true := by
      rw [hP, List.all_append, List.all_cons] at hd
      simp only [Bool.and_eq_true] at hd
      exact hd.2.1
    have hc' : 48 ≤ c.toNat ∧ c.toNat ≤ 57 := by unfold isD at hc; simpa using hc
    have hg : (txt T).data.toList.getD ((P.length : Nat) : Int).toNat 0 = c := by
      show T.toArray.toList.getD P.length 0 = c
      rw [hP]; simp
    have hv' : valF (10 * valF 0 P + (c.toNat - 48)) r = u := hv
    have hge := valF_ge r (10 * valF 0 P + (c.toNat - 48))
    have happ : valF 0 (P ++ [c]) = 10 * valF 0 P + (c.toNat - 48) := valF_app c P 0
    simp only [cadastrelaw21_PrintValues_l18, cadastrelaw21_PrintValues_l18_b]
    rw [decide_eq_true (by omega), cond_true, chk_pos (by omega), hg]
    have w1 : IntKind.u8.wrap ((c.toNat : Int) - 48) = ((c.toNat - 48 : Nat) : Int) := by rw [IntKind.wrap_u8]; omega
    have w2 : IntKind.i64.wrap ((c.toNat - 48 : Nat) : Int) = ((c.toNat - 48 : Nat) : Int) := w64 (by omega) (by omega)
    have w3 : IntKind.i64.wrap (10 * ((valF 0 P : Nat) : Int)) = ((10 * valF 0 P : Nat) : Int) := by rw [w64 (by omega) (by omega)]; omega
    have w4 : IntKind.i64.wrap (((10 * valF 0 P : Nat) : Int) + ((c.toNat - 48 : Nat) : Int)) = ((valF 0 (P ++ [c]) : Nat) : Int) := by rw [w64 (by omega) (by omega), happ]; omega
    rw [w1, w2, w3, w4, w64n (by omega)]
    have := int_loop k ke l0 i3 v4 T u hd hT hu hl r (P ++ [c]) n (by rw [hP]; simp) (by simp at hn; omega) (by rw [happ]; exact hv')
    rw [List.length_append] at this
    exact this

/-! ### a text's quotes, undone -/
theorem txt_loop {ρ : Type} (k : Nat) (ke : List T25 → Int → ByteArray → List Int → S23 → Option ρ) (l0 : List T25) (i3 : Int) (v4 : S23) (T : List UInt8) (hl : T.length ≤ 20000) :
    ∀ (r P : List UInt8) (b : List Int) (n : Nat), T = P ++ (qF r ++ [39]) → r.length < n → b.length ≤ P.length →
    cadastrelaw21_PrintValues_l26 k ke n l0 i3 (txt T) b (P.length : Nat) v4 = ke l0 i3 (txt T) (b ++ nums r) v4
  | [], P, b, n + 1, hP, _, hb => by
    have hs : ((txt T).size : Int) = ((P.length + 1 : Nat) : Int) := by
      show ((T.toArray.size : Nat) : Int) = _
      rw [hP]; simp [qF]
    simp only [cadastrelaw21_PrintValues_l26, cadastrelaw21_PrintValues_l26_b]
    have hlen : P.length + 1 ≤ 20000 := by rw [hP] at hl; simpa [qF] using hl
    rw [hs, w64 (by omega) (by omega), decide_eq_false (by omega), Bool.cond_false]
    simp [nums]
  | c :: r, P, b, n + 1, hP, hn, hb => by
    by_cases h39 : c.toNat = 39
    · have hq : qF (c :: r) = 39 :: c :: qF r := by
        show (if c.toNat = 39 then 39 :: c :: qF r else c :: qF r) = _
        rw [if_pos h39]
      rw [hq] at hP
      have hs : ((txt T).size : Int) = ((P.length + 2 + (qF r).length + 1 : Nat) : Int) := by
        show ((T.toArray.size : Nat) : Int) = _
        rw [hP]; simp; omega
      have hlen : P.length + 2 + (qF r).length + 1 ≤ 20000 := by rw [hP] at hl; simp at hl; omega
      have hg : (txt T).data.toList.getD ((P.length : Nat) : Int).toNat 0 = 39 := by
        show T.toArray.toList.getD P.length 0 = 39
        rw [hP]; simp
      have hc : c = 39 := by
        have : c.toNat = (39 : UInt8).toNat := h39
        exact UInt8.toNat_inj.mp this
      simp only [cadastrelaw21_PrintValues_l26, cadastrelaw21_PrintValues_l26_b]
      rw [hs, w64 (x := ((P.length + 2 + (qF r).length + 1 : Nat) : Int) - 1) (by omega) (by omega), decide_eq_true (by omega), cond_true, chk_pos (by omega), chk_pos (by simp; omega), chk_pos (by omega), hg]
      rw [show (((39 : UInt8).toNat : Int) == 39) = true from rfl, cond_true, w64n (by omega), w64n (by omega)]
      have := txt_loop k ke l0 i3 v4 T hl r (P ++ [39, c]) (b ++ [((39 : UInt8).toNat : Int)]) n (by rw [hP]; simp) (by simp at hn; omega) (by simp; omega)
      rw [List.length_append] at this
      refine Eq.trans this ?_
      rw [hc]; simp [nums]
    · have hq : qF (c :: r) = c :: qF r := by
        show (if c.toNat = 39 then 39 :: c :: qF r else c :: qF r) = _
        rw [if_neg h39]
      rw [hq] at hP
      have hs : ((txt T).size : Int) = ((P.length + 1 + (qF r).length + 1 : Nat) : Int) := by
        show ((T.toArray.size : Nat) : Int) = _
        rw [hP]; simp; omega
      have hlen : P.length + 1 + (qF r).length + 1 ≤ 20000 := by rw [hP] at hl; simp at hl; omega
      have hg : (txt T).data.toList.getD ((P.length : Nat) : Int).toNat 0 = c := by
        show T.toArray.toList.getD P.length 0 = c
        rw [hP]; simp
      simp only [cadastrelaw21_PrintValues_l26, cadastrelaw21_PrintValues_l26_b]
      rw [hs, w64 (x := ((P.length + 1 + (qF r).length + 1 : Nat) : Int) - 1) (by omega) (by omega), decide_eq_true (by omega), cond_true, chk_pos (by omega), chk_pos (by simp; omega), chk_pos (by omega), hg]
      rw [beq_eq_false_iff_ne.2 (show ((c.toNat : Int)) ≠ 39 by omega), Bool.cond_false, w64n (by omega)]
      have := txt_loop k ke l0 i3 v4 T hl r (P ++ [c]) (b ++ [(c.toNat : Int)]) n (by rw [hP]; simp) (by simp at hn; omega) (by simp; omega)
      rw [List.length_append] at this
      refine Eq.trans this ?_
      simp [nums]

/-! ### one value -/
theorem j6_of {ρ : Type} (k : Nat) (hk : 10000 ≤ k) (kret : Bool → Option ρ) (knxt : List T25 → Int → Option ρ) (l0 : List T25) (i3 : Int) (v : S23) (hg : good v = true) (h0 : ¬ v.f1 < 0) (t : ByteArray) (ht : t.size ≠ 0)
    (hw : ∃ g, print_writer_literal_p0 k v ⟨[], false⟩ = some ((), ⟨bytesOf t, g⟩)) (hj : cadastrelaw21_PrintValues_j9 k kret knxt l0 i3 t v = knxt l0 i3) : cadastrelaw21_PrintValues_j6 k kret knxt l0 i3 v = knxt l0 i3 := by
  unfold cadastrelaw21_PrintValues_j6
  have h1 : print_Expr k (⟨1, v, ByteArray.empty, ByteArray.empty, []⟩ : S25) = some (t, 0) := expr_lit k hk v hg h0 t hw
  rw [h1, some_bind]
  unfold cadastrelaw21_num
  rw [some_bind]
  rw [show ((0 : Int) != 0) = false from rfl, Bool.cond_false, beq_eq_false_iff_ne.2 (show (t.size : Int) ≠ 0 by omega), Bool.cond_false, hj]
theorem one_value {ρ : Type} (k : Nat) (hk : 20000 ≤ k) (kret : Bool → Option ρ) (knxt : List T25 → Int → Option ρ) (l0 : List T25) (i3 : Int) (v : S23) (hg : good v = true) (hv : inr v.f1 = true) (h0 : ¬ v.f1 < 0) (hsz : v.f2.size ≤ 500) :
    cadastrelaw21_PrintValues_j6 k kret knxt l0 i3 v = knxt l0 i3 := by
  rcases gcases hg with rfl | ⟨n, rfl⟩ | ⟨s, rfl, hs⟩ | ⟨s, rfl, hs⟩
  · refine j6_of k (by omega) kret knxt l0 i3 _ hg h0 nullT (by decide) (lit_null k (by omega)) ?_
    unfold cadastrelaw21_PrintValues_j9
    show (bif ((0 : Int) == 0) then _ else _) = _
    rw [beq_self_eq_true, cond_true]
    have : (!(nullT.toList == (⟨#[110, 117, 108, 108]⟩ : ByteArray).toList)) = false := by unfold nullT; simp
    rw [this, Bool.cond_false]
  · have hn : inr n = true := hv
    have h0' : ¬ n < 0 := h0
    obtain ⟨u, rfl⟩ : ∃ u : Nat, n = u := ⟨n.toNat, by omega⟩
    have hnb := inr_iff.mp hn
    obtain ⟨d1, d2, d3⟩ := dd_val u
    have dl := dd_len u (by omega)
    have ht : dtxt (u : Int) = txt (Lib.decDigits u) := by
      unfold dtxt; rw [Lib.itoa_nonneg]; rfl
    have hlen : 1 ≤ (Lib.decDigits u).length := by
      cases hq : Lib.decDigits u with
      | nil => exact absurd hq d3
      | cons a b => simp
    have hsize : (txt (Lib.decDigits u)).size = (Lib.decDigits u).length := by
      show (Lib.decDigits u).toArray.size = _; simp
    refine j6_of k (by omega) kret knxt l0 i3 _ hg h0 (dtxt (u : Int)) (by rw [ht, hsize]; omega) (lit_int k (by omega) u hn) ?_
    unfold cadastrelaw21_PrintValues_j9
    show (bif ((1 : Int) == 0) then _ else bif ((1 : Int) == 1) then _ else _) = _
    rw [beq_eq_false_iff_ne.2 (show (1 : Int) ≠ 0 by omega), Bool.cond_false, beq_self_eq_true, cond_true, ht]
    have hloop := int_loop k (fun l0_6 i3_7 t5_8 n7_9 v4_10 =>
      bif (n7_9 != v4_10.f1) then kret false
      else
      bif (decide ((t5_8.size : Int) > 1)) then
      chk (0 ≤ (0 : Int) ∧ (0 : Int) < (t5_8.size : Int)) <|
      bif (((t5_8.data.toList.getD 0 0).toNat : Int) == 48) then
      kret false
      else
      knxt l0_6 i3_7
      else
      knxt l0_6 i3_7) l0 i3 (vint (u : Int)) (Lib.decDigits u) u d1 d2 (by omega) (by omega) (Lib.decDigits u) [] k rfl (by omega) d2
    refine Eq.trans hloop ?_
    have e1 : ((u : Int) != (vint (u : Int)).f1) = false := by show ((u : Int) != (u : Int)) = false; simp
    rw [e1, Bool.cond_false, hsize]
    by_cases h1 : ((Lib.decDigits u).length : Int) > 1
    · rw [decide_eq_true h1, cond_true, chk_pos (by omega)]
      have hu : 1 ≤ u := by
        by_cases hz : u = 0
        · subst hz
          rw [Lib.decDigits_one (by omega)] at h1
          simp at h1
        · omega
      obtain ⟨c, r, hc1, hc2⟩ := dd_head u hu
      have hg0 : (txt (Lib.decDigits u)).data.toList.getD 0 0 = c := by
        show (Lib.decDigits u).toArray.toList.getD 0 0 = c
        rw [hc1]; rfl
      rw [hg0, beq_eq_false_iff_ne.2 (show (c.toNat : Int) ≠ 48 by omega), Bool.cond_false]
    · rw [decide_eq_false h1, Bool.cond_false]
  · have hs5 : s.size ≤ 500 := hsz
    have hq := qF_len (by_ s)
    rw [by_length] at hq
    have hsize : (txt (39 :: (qF (by_ s) ++ [39]))).size = (qF (by_ s)).length + 2 := by
      show (39 :: (qF (by_ s) ++ [39])).toArray.size = _; simp
    refine j6_of k (by omega) kret knxt l0 i3 _ hg h0 (txt (39 :: (qF (by_ s) ++ [39]))) (by omega) (lit_txt k (by omega) s hs) ?_
    unfold cadastrelaw21_PrintValues_j9
    show (bif ((2 : Int) == 0) then _ else bif ((2 : Int) == 1) then _ else bif ((2 : Int) == 2) then _ else _) = _
    rw [beq_eq_false_iff_ne.2 (show (2 : Int) ≠ 0 by omega), Bool.cond_false, beq_eq_false_iff_ne.2 (show (2 : Int) ≠ 1 by omega), Bool.cond_false, beq_self_eq_true, cond_true]
    have hloop := txt_loop k (fun l0_11 i3_12 t5_13 b9_14 v4_15 =>
      bif (!((strOfNums b9_14).toList == v4_15.f2.toList)) then
      kret false
      else
      chk (0 ≤ (0 : Int) ∧ (0 : Int) < (t5_13.size : Int)) <|
      bif (((t5_13.data.toList.getD 0 0).toNat : Int) != 39) then
      kret false
      else
      chk (0 ≤ (IntKind.i64.wrap ((t5_13.size : Int) - 1)) ∧ (IntKind.i64.wrap ((t5_13.size : Int) - 1)) < (t5_13.size : Int)) <|
      let v_16 : Int := ((t5_13.data.toList.getD (IntKind.i64.wrap ((t5_13.size : Int) - 1)).toNat 0).toNat : Int)
      bif (v_16 != 39) then
      kret false
      else
      knxt l0_11 i3_12) l0 i3 (vtxt s) (39 :: (qF (by_ s) ++ [39])) (by simp; omega) (by_ s) [39] [] k rfl (by rw [by_length]; omega) (by simp)
    refine Eq.trans hloop ?_
    have e0 : strOfNums ([] ++ nums (by_ s)) = s := by rw [List.nil_append, ← bytesOf_nums, bytes_txt]
    have e1 : (!(s.toList == (vtxt s).f2.toList)) = false := by show (!(s.toList == s.toList)) = false; simp
    have e2 : (txt (39 :: (qF (by_ s) ++ [39]))).data.toList.getD 0 0 = 39 := rfl
    have e3 : (txt (39 :: (qF (by_ s) ++ [39]))).data.toList.getD (((qF (by_ s)).length + 1 : Nat) : Int).toNat 0 = 39 := by
      show (39 :: (qF (by_ s) ++ [39])).toArray.toList.getD ((qF (by_ s)).length + 1) 0 = 39
      simp
    have e4 : IntKind.i64.wrap ((((qF (by_ s)).length + 2 : Nat) : Int) - 1) = (((qF (by_ s)).length + 1 : Nat) : Int) := by rw [w64 (by omega) (by omega)]; omega
    dsimp only
    rw [e0, e1, Bool.cond_false, hsize, chk_pos (by omega), e2, show (((39 : UInt8).toNat : Int) != 39) = false from rfl, Bool.cond_false, e4, chk_pos (by omega), e3, show (((39 : UInt8).toNat : Int) != 39) = false from rfl, Bool.cond_false]
  · have hs5 : s.size ≤ 500 := hsz
    obtain ⟨r, hr, hw⟩ := lit_blob k (by omega) s hs
    have c1 : (cat (cat (⟨#[120, 39]⟩ : ByteArray) r) (⟨#[39]⟩ : ByteArray)).size = 3 + r.size := by
      rw [cat_eq, cat_eq, ByteArray.size_append, ByteArray.size_append]
      show 2 + r.size + 1 = _
      omega
    refine j6_of k (by omega) kret knxt l0 i3 _ hg h0 _ (by omega) hw ?_
    have e1 : (cat (cat (⟨#[120, 39]⟩ : ByteArray) r) (⟨#[39]⟩ : ByteArray)).extract (0 : Int).toNat (2 : Int).toNat = ⟨#[120, 39]⟩ := by
      rw [cat_eq, cat_eq]
      suffices h : ((((⟨#[120, 39]⟩ : ByteArray) ++ r) ++ (⟨#[39]⟩ : ByteArray)).extract (0 : Int).toNat (2 : Int).toNat).data.toList = [120, 39] by
        apply ByteArray.ext
        exact Array.toList_inj.mp h
      show ((((⟨#[120, 39]⟩ : ByteArray) ++ r) ++ (⟨#[39]⟩ : ByteArray)).extract 0 2).data.toList = [120, 39]
      simp
    generalize cat (cat (⟨#[120, 39]⟩ : ByteArray) r) (⟨#[39]⟩ : ByteArray) = t at c1 e1
    unfold cadastrelaw21_PrintValues_j9
    show (bif ((3 : Int) == 0) then _ else bif ((3 : Int) == 1) then _ else bif ((3 : Int) == 2) then _ else _) = _
    rw [beq_eq_false_iff_ne.2 (show (3 : Int) ≠ 0 by omega), Bool.cond_false, beq_eq_false_iff_ne.2 (show (3 : Int) ≠ 1 by omega), Bool.cond_false, beq_eq_false_iff_ne.2 (show (3 : Int) ≠ 2 by omega), Bool.cond_false]
    have e2 : ((t.size : Int) != (IntKind.i64.wrap (3 + (IntKind.i64.wrap (2 * ((vblob s).f2.size : Int)))))) = false := by
      have : (vblob s).f2 = s := rfl
      rw [this, w64 (x := 2 * (s.size : Int)) (by omega) (by omega), w64 (by omega) (by omega), c1, hr]
      simp
    dsimp only
    rw [e2, Bool.cond_false, chk_pos (by omega), e1]
    simp
end Go.Proofs.YtnoeedkbadoogaaDoor.P
namespace Go.Proofs.YtnoeedkbadoogaaDoor.P
open Go Go.AX

/-! ### the name t -/
theorem less_eq (k : Nat) (a b : ByteArray) : cmp_Less_string_ k a b = some (Go.Op.bytesLess a.toList b.toList) := by
  unfold cmp_Less_string_ cmp_isNaN_string_
  rw [some_bind, show (!(a.toList == a.toList)) = false by simp, Bool.cond_false]
theorem mid_eq {i j : Nat} (h1 : i < j) (h2 : j < 4294967296) : IntKind.i64.wrap (Int.fdiv (IntKind.u64.wrap (IntKind.i64.wrap ((i : Int) + (j : Int)))) (2 ^ (min (1 : Int).toNat (IntKind.u64).bits))) = (((i + j) / 2 : Nat) : Int) := by
  have e1 : IntKind.i64.wrap ((i : Int) + (j : Int)) = ((i + j : Nat) : Int) := by rw [w64 (by omega) (by omega)]; omega
  have e2 : IntKind.u64.wrap (((i + j : Nat) : Int)) = ((i + j : Nat) : Int) := by
    have : IntKind.u64.wrap (((i + j : Nat) : Int)) = (((i + j : Nat) : Int)) % 18446744073709551616 := by simp [IntKind.wrap, IntKind.bits, IntKind.signed]
    omega
  have e3 : (2 : Int) ^ (min (1 : Int).toNat (IntKind.u64).bits) = 2 := by decide
  rw [e1, e2, e3, Int.fdiv_eq_ediv_of_nonneg _ (by omega), w64 (by omega) (by omega)]
  omega
theorem bs_step {ρ : Type} (k : Nat) (ke : List ByteArray → ByteArray → Int → Int → Option ρ) (x : List ByteArray) (t : ByteArray) (N : Int) (hx : x.length < 4294967296) (i j n m : Nat) (b : Bool) (h1 : i < j) (h2 : j ≤ x.length) (hm : (i + j) / 2 = m)
    (hb : Go.Op.bytesLess (by_ (x.getD m ByteArray.empty)) (by_ t) = b) :
    slices_BinarySearch_string_string__l3 k ke (n + 1) x t N (i : Int) (j : Int) = bif b then slices_BinarySearch_string_string__l3 k ke n x t N ((m + 1 : Nat) : Int) (j : Int) else slices_BinarySearch_string_string__l3 k ke n x t N (i : Int) (m : Int) := by
  simp only [slices_BinarySearch_string_string__l3, slices_BinarySearch_string_string__l3_b]
  rw [decide_eq_true (show (i : Int) < (j : Int) by omega), cond_true, mid_eq h1 (by omega), hm, chk_pos (by omega), less_eq, some_bind, w64n (by omega), Int.toNat_natCast, by_toList, by_toList, hb]
theorem bs_end {ρ : Type} (k : Nat) (ke : List ByteArray → ByteArray → Int → Int → Option ρ) (x : List ByteArray) (t : ByteArray) (N : Int) (i n : Nat) : slices_BinarySearch_string_string__l3 k ke (n + 1) x t N (i : Int) (i : Int) = ke x t N (i : Int) := by
  simp only [slices_BinarySearch_string_string__l3, slices_BinarySearch_string_string__l3_b]
  rw [decide_eq_false (by omega), Bool.cond_false]
def tT : ByteArray := ⟨#[116]⟩
theorem pname_t (k : Nat) (hk : 8194 < k) : parse_Name k tT = some true := by
  obtain ⟨k', rfl⟩ : ∃ m, k = m + 7 := ⟨k - 7, by omega⟩
  unfold parse_Name parse_Keys
  rw [some_bind]
  unfold slices_BinarySearch_string_string_
  refine Eq.trans (congrArg (fun z => Option.bind z _) ((bs_step (k' + 7) _ _ tT 39 (by decide) 0 39 (k' + 6) 19 true (by decide) (by decide) (by decide) (by decide)).trans <|
    (bs_step (k' + 7) _ _ tT 39 (by decide) 20 39 (k' + 5) 29 true (by decide) (by decide) (by decide) (by decide)).trans <|
    (bs_step (k' + 7) _ _ tT 39 (by decide) 30 39 (k' + 4) 34 false (by decide) (by decide) (by decide) (by decide)).trans <|
    (bs_step (k' + 7) _ _ tT 39 (by decide) 30 34 (k' + 3) 32 false (by decide) (by decide) (by decide) (by decide)).trans <|
    (bs_step (k' + 7) _ _ tT 39 (by decide) 30 32 (k' + 2) 31 false (by decide) (by decide) (by decide) (by decide)).trans <|
    (bs_step (k' + 7) _ _ tT 39 (by decide) 30 31 (k' + 1) 30 false (by decide) (by decide) (by decide) (by decide)).trans <|
    bs_end (k' + 7) _ _ tT 39 30 k')) ?_
  dsimp only
  rw [show decide (((30 : Nat) : Int) < 39) = true by decide, cond_true, chk_pos (by decide), by_toList, by_toList]
  have e : ∀ l : List ByteArray, by_ (l.getD ((30 : Nat) : Int).toNat ByteArray.empty) = [116, 97, 98, 108, 101] → (by_ (l.getD ((30 : Nat) : Int).toNat ByteArray.empty) == by_ tT) = false := fun l h => by rw [h]; decide
  rw [e _ (by decide), Bool.cond_false, chk_pos (by decide)]
  unfold slices_isNaN_string_
  rw [some_bind]
  rw [show ∀ a : ByteArray, (!(a.toList == a.toList)) = false from fun a => by simp, Bool.cond_false]
  rfl
theorem toks_t : toks (by' tT) = ([⟨1, tT, 0⟩], 0) := by rfl
theorem name_t (k : Nat) (hk : 8194 < k) : print_Name k tT = some true := by
  unfold print_Name
  rw [tokens_eq k tT hk, some_bind, toks_t]
  dsimp only
  rw [pname_t k hk, show ((0 : Int) == 0) = true from rfl, cond_true]
  simp [chk]
theorem names_t (k : Nat) (hk : 8194 < k) : print_names k [tT] = some true := by
  obtain ⟨k', rfl⟩ : ∃ m, k = m + 2 := ⟨k - 2, by omega⟩
  unfold print_names
  simp only [print_names_l2, print_names_l2_b]
  rw [decide_eq_true (by decide), cond_true, chk_pos (by decide), show ([tT].getD (0 : Int).toNat ByteArray.empty) = tT from rfl, name_t _ hk, some_bind, Bool.not_true, Bool.cond_false, show IntKind.i64.wrap ((0 : Int) + 1) = 1 by decide, decide_eq_false (by decide), Bool.cond_false]
/-! ### the statement -/
def stT : S60 := ⟨9, ByteArray.empty, ByteArray.empty, false, [], [], [], [], [tT], true, [], [], []⟩
theorem kinds_t (k : Nat) (hk : 8194 < k) : print_kinds k stT = some ((⟨0, ByteArray.empty, ByteArray.empty, false, [], [], [], [], [], false, [], [], []⟩ : S60), true) := by
  have hm : print_many_string_ k [tT] 1 3 = some true := by unfold print_many_string_; rfl
  have hn := names_t k hk
  unfold print_kinds print_bare
  have f0 : stT.f0 = 9 := rfl
  rw [some_bind, f0, show ((9 : Int) == 1) = false from rfl, Bool.cond_false, show ((9 : Int) == 2) = false from rfl, Bool.cond_false]
  unfold print_kinds_j7
  rw [show ((9 : Int) == 3) = false from rfl, Bool.cond_false, show ((9 : Int) == 4) = false from rfl, Bool.cond_false, show ((9 : Int) == 5) = false from rfl, Bool.cond_false]
  unfold print_kinds_j14
  rw [show ((9 : Int) == 6) = false from rfl, Bool.cond_false, show ((9 : Int) == 7) = false from rfl, Bool.cond_false, show ((9 : Int) == 8) = false from rfl, Bool.cond_false, show ((9 : Int) == 9) = true from rfl, cond_true]
  show ((print_many_string_ k [tT] 1 3).bind _) = _
  rw [hm, some_bind, cond_true]
  show ((print_names k [tT]).bind _) = _
  rw [hn, some_bind, cond_true]
  unfold print_kinds_j38
  rfl
theorem exprs_t (k : Nat) (hk : 8194 < k) : print_exprs k stT = some [] := by
  obtain ⟨k', rfl⟩ : ∃ m, k = m + 2 := ⟨k - 2, by omega⟩
  rfl
theorem may_t (k : Nat) (hk : 8194 < k) : print_May k stT = some true := by
  unfold print_May
  rw [kinds_t k hk, some_bind]
  have he : print_empty k (⟨0, ByteArray.empty, ByteArray.empty, false, [], [], [], [], [], false, [], [], []⟩ : S60) = some true := by simp [print_empty]; rfl
  dsimp only
  rw [Bool.not_true, Bool.cond_false, he, some_bind, Bool.not_true, Bool.cond_false]
  unfold print_May_j4
  rw [exprs_t k hk, some_bind]
  obtain ⟨k', rfl⟩ : ∃ m, k = m + 2 := ⟨k - 2, by omega⟩
  rfl
def pS : ByteArray := ⟨#[115, 101, 108, 101, 99, 116]⟩
def pF : ByteArray := ⟨#[102, 114, 111, 109]⟩
def selT : List Int := [115, 101, 108, 101, 99, 116]
def starT : List Int := selT ++ [32, 42]
def fromT : List Int := starT ++ [32, 102, 114, 111, 109]
def allT : List Int := fromT ++ [32, 116]
theorem query_t (k : Nat) (hk : 8194 < k) : print_writer_query_p0 k stT ⟨[], false⟩ = some ((), ⟨allT, false⟩) := by
  have p1 : print_writer_put_p0 k [(⟨#[115, 101, 108, 101, 99, 116]⟩ : ByteArray)] ⟨[], false⟩ = some ((), ⟨selT, false⟩) := (put_eq k _ ⟨[], false⟩ (by decide) (by decide) (by decide) (by show 1 ≤ k; omega)).trans rfl
  have p2 : print_writer_put_p0 k [(⟨#[42]⟩ : ByteArray)] ⟨selT, false⟩ = some ((), ⟨starT, false⟩) := (put_eq k _ ⟨selT, false⟩ (by decide) (by decide) (by decide) (by show 1 ≤ k; omega)).trans rfl
  have p3 : print_writer_put_p0 k [(⟨#[102, 114, 111, 109]⟩ : ByteArray)] ⟨starT, false⟩ = some ((), ⟨fromT, false⟩) := (put_eq k _ ⟨starT, false⟩ (by decide) (by decide) (by decide) (by show 1 ≤ k; omega)).trans rfl
  have p4 : print_writer_put_p0 k [tT] ⟨fromT, false⟩ = some ((), ⟨allT, false⟩) := (put_eq k _ ⟨fromT, false⟩ (by decide) (by decide) (by decide) (by show 1 ≤ k; omega)).trans rfl
  have q1 : ∀ x : S51, api_Expr__55_p0_f19 k [] x = some ((), x) := fun x => by
    obtain ⟨k', rfl⟩ : ∃ m, k = m + 2 := ⟨k - 2, by omega⟩
    rfl
  have q2 : ∀ x : S51, print_writer_where_p0 k [] x = some ((), x) := fun x => by
    obtain ⟨k', rfl⟩ : ∃ m, k = m + 2 := ⟨k - 2, by omega⟩
    rfl
  have q3 : ∀ x : S51, api_Order__p0_u2 k [] x = some ((), x) := fun x => by
    obtain ⟨k', rfl⟩ : ∃ m, k = m + 2 := ⟨k - 2, by omega⟩
    rfl
  have q4 : print_list_string__p0_f86 k [tT] ⟨fromT, false⟩ = some ((), ⟨allT, false⟩) := by
    have : print_writer_name_p0 k tT ⟨fromT, false⟩ = some ((), ⟨allT, false⟩) := by
      unfold print_writer_name_p0
      rw [p4, some_bind]
    unfold print_list_string__p0_f86
    obtain ⟨k', rfl⟩ : ∃ m, k = m + 2 := ⟨k - 2, by omega⟩
    simp only [print_list_string__p0_f86_l1, print_list_string__p0_f86_l1_b]
    rw [decide_eq_true (by decide), cond_true, chk_pos (by decide), decide_eq_false (by decide), Bool.cond_false, show ([tT].getD (0 : Int).toNat ByteArray.empty) = tT from rfl, this, some_bind, show IntKind.i64.wrap ((0 : Int) + 1) = 1 by decide, decide_eq_false (by decide), Bool.cond_false]
  unfold print_writer_query_p0
  rw [p1, some_bind]
  show (bif true then _ else _) = _
  rw [cond_true]
  dsimp only
  rw [p2, some_bind]
  unfold print_writer_query_p0_j4
  show ((api_Expr__55_p0_f19 k [] _).bind _) = _
  rw [q1, some_bind]
  dsimp only
  rw [p3, some_bind]
  show ((print_list_string__p0_f86 k [tT] _).bind _) = _
  rw [q4, some_bind]
  show ((print_writer_where_p0 k [] _).bind _) = _
  rw [q2, some_bind]
  show ((api_Order__p0_u2 k [] _).bind _) = _
  rw [q3, some_bind]
theorem wakes_eq (k : Nat) (hk : 8194 < k) : cadastrelaw21_wakes k = some true := by
  unfold cadastrelaw21_wakes
  have h1 : print_Print k stT = some (strOfNums allT, 0) := by
    unfold print_Print
    rw [may_t k hk, some_bind, Bool.not_true, Bool.cond_false]
    unfold print_writer_stmt_p0
    show (((print_writer_query_p0 k stT ⟨[], false⟩).bind _).bind _) = _
    rw [query_t k hk, some_bind, some_bind, big_eq]
    rfl
  have h1' : print_Print k (⟨9, ByteArray.empty, ByteArray.empty, false, [], [], [], [], [(⟨#[116]⟩ : ByteArray)], true, [], [], []⟩ : S60) = some (strOfNums allT, 0) := h1
  rw [h1', some_bind]
  unfold cadastrelaw21_num
  rw [some_bind, show ((0 : Int) == 0) = true from rfl, cond_true]
  show some _ = _
  rw [by_toList, by_toList]
  rfl
end Go.Proofs.YtnoeedkbadoogaaDoor.P
