/-
  The program's functions as plain functions over plain data, as a program has printed them.
-/
import Derived.Test.YtekjibpkkgldgaaAxDef
import Derived.Lib.Bytealg
namespace Go.Proofs.Ytekjibpkkgldgaa.X
open Go Go.AX
/-- cadastre/api.Token -/
structure S68 where
  f0 : Int
  f1 : ByteArray
  f2 : Int
instance : Inhabited S68 := ⟨⟨0, ByteArray.empty, 0⟩⟩
/-- cadastre/api.Value -/
structure S44 where
  f0 : Int
  f1 : Int
  f2 : ByteArray
instance : Inhabited S44 := ⟨⟨0, 0, ByteArray.empty⟩⟩
/-- internal/stringslite.HasPrefix -/
noncomputable def stringslite_HasPrefix (k : Nat) (s0 : ByteArray) (prefix1 : ByteArray) : Option Bool :=
bif (decide ((s0.size : Int) ≥ (prefix1.size : Int))) then
chk (0 ≤ (0 : Int) ∧ (0 : Int) ≤ (prefix1.size : Int) ∧ (prefix1.size : Int) ≤ (s0.size : Int)) <|
let v_1 : Bool := ((s0.extract (0 : Int).toNat (prefix1.size : Int).toNat).toList == prefix1.toList)
some v_1
else
some false

/-- strings.HasPrefix -/
noncomputable def strings_HasPrefix (k : Nat) (s0 : ByteArray) (prefix1 : ByteArray) : Option Bool :=
(stringslite_HasPrefix k s0 prefix1).bind fun r_1 =>
some r_1

/-- cadastre/lex.skip$1 -/
noncomputable def lex_skip_1 (k : Nat) (c0 : Int) : Option Bool :=
bif (c0 == 9) then
some true
else
bif (c0 == 10) then
some true
else
bif (c0 == 13) then
some true
else
some (c0 == 32)

noncomputable def lex_span_f80_l1_b {ρ : Type} (k : Nat) (kexit0 : Int → Option ρ) (rec : ByteArray → Int → Option ρ) (s0 : ByteArray) (at1 : Int) : Option ρ :=
bif (decide (at1 < (s0.size : Int))) then
chk (0 ≤ at1 ∧ at1 < (s0.size : Int)) <|
(lex_skip_1 k ((s0.data.toList.getD at1.toNat 0).toNat : Int)).bind fun r_1 =>
bif r_1 then
rec s0 (IntKind.i64.wrap (at1 + 1))
else
kexit0 at1
else
kexit0 at1
noncomputable def lex_span_f80_l1 {ρ : Type} (k : Nat) (kexit0 : Int → Option ρ) : Nat → ByteArray → Int → Option ρ
  | 0, _, _ => none
  | n + 1, s0, at1 => lex_span_f80_l1_b k kexit0 (lex_span_f80_l1 k kexit0 n) s0 at1

/-- cadastre/lex.span -/
noncomputable def lex_span_f80 (k : Nat) (s0 : ByteArray) (at1 : Int) : Option Int :=
lex_span_f80_l1 k (fun at1_2 =>
some at1_2) k s0 at1

/-- cadastre/lex.skip$2 -/
noncomputable def lex_skip_2 (k : Nat) (c0 : Int) : Option Bool :=
some (c0 != 10)

noncomputable def lex_span_f82_l1_b {ρ : Type} (k : Nat) (kexit0 : Int → Option ρ) (rec : ByteArray → Int → Option ρ) (s0 : ByteArray) (at1 : Int) : Option ρ :=
bif (decide (at1 < (s0.size : Int))) then
chk (0 ≤ at1 ∧ at1 < (s0.size : Int)) <|
(lex_skip_2 k ((s0.data.toList.getD at1.toNat 0).toNat : Int)).bind fun r_1 =>
bif r_1 then
rec s0 (IntKind.i64.wrap (at1 + 1))
else
kexit0 at1
else
kexit0 at1
noncomputable def lex_span_f82_l1 {ρ : Type} (k : Nat) (kexit0 : Int → Option ρ) : Nat → ByteArray → Int → Option ρ
  | 0, _, _ => none
  | n + 1, s0, at1 => lex_span_f82_l1_b k kexit0 (lex_span_f82_l1 k kexit0 n) s0 at1

/-- cadastre/lex.span -/
noncomputable def lex_span_f82 (k : Nat) (s0 : ByteArray) (at1 : Int) : Option Int :=
lex_span_f82_l1 k (fun at1_2 =>
some at1_2) k s0 at1

noncomputable def lex_skip_j1 {ρ : Type} (k : Nat) (kgoto0 : ByteArray → Int → Option ρ) (kret : Int → Option ρ) (s0 : ByteArray) (at1 : Int) : Option ρ :=
(lex_span_f80 k s0 at1).bind fun r_1 =>
chk (0 ≤ r_1 ∧ r_1 ≤ (s0.size : Int) ∧ (s0.size : Int) ≤ (s0.size : Int)) <|
(strings_HasPrefix k (s0.extract r_1.toNat (s0.size : Int).toNat) (⟨#[45, 45]⟩ : ByteArray)).bind fun r_2 =>
bif r_2 then
(lex_span_f82 k s0 r_1).bind fun r_3 =>
kgoto0 s0 r_3
else
kret r_1

noncomputable def lex_skip_g0_b {ρ : Type} (k : Nat) (kret : Int → Option ρ) (rec : ByteArray → Int → Option ρ) (s0 : ByteArray) (at1 : Int) : Option ρ :=
lex_skip_j1 k rec kret s0 at1
noncomputable def lex_skip_g0 {ρ : Type} (k : Nat) (kret : Int → Option ρ) : Nat → ByteArray → Int → Option ρ
  | 0, _, _ => none
  | n + 1, s0, at1 => lex_skip_g0_b k kret (lex_skip_g0 k kret n) s0 at1

/-- cadastre/lex.skip -/
noncomputable def lex_skip (k : Nat) (s0 : ByteArray) (at1 : Int) : Option Int :=
lex_skip_j1 k (fun s0_4 at1_5 =>
lex_skip_g0 k (fun t4_9 =>
some t4_9) k s0_4 at1_5) (fun t4_10 =>
some t4_10) s0 at1

/-- cadastre/lex.letter -/
noncomputable def lex_letter (k : Nat) (c0 : Int) : Option Bool :=
bif (decide (c0 ≥ 97)) then
bif (decide (c0 ≤ 122)) then
some true
else
bif (decide (c0 ≥ 65)) then
bif (decide (c0 ≤ 90)) then
some true
else
some (c0 == 95)
else
some (c0 == 95)
else
bif (decide (c0 ≥ 65)) then
bif (decide (c0 ≤ 90)) then
some true
else
some (c0 == 95)
else
some (c0 == 95)

/-- cadastre/lex.digit -/
noncomputable def lex_digit (k : Nat) (c0 : Int) : Option Bool :=
bif (decide (c0 ≥ 48)) then
some (decide (c0 ≤ 57))
else
some false

/-- internal/stringslite.IndexByte -/
noncomputable def stringslite_IndexByte (_ : Nat) (s0 : ByteArray) (c1 : Int) : Option Int :=
some (Lib.indexByte s0.data.toList c1.toNat.toUInt8)

/-- strings.IndexByte -/
noncomputable def strings_IndexByte (k : Nat) (s0 : ByteArray) (c1 : Int) : Option Int :=
(stringslite_IndexByte k s0 c1).bind fun r_1 =>
some r_1

noncomputable def lex_mark_j9 {ρ : Type} (k : Nat) (kret : Int → Option ρ) (s0 : ByteArray) : Option ρ :=
chk (0 ≤ (0 : Int) ∧ (0 : Int) < (s0.size : Int)) <|
(strings_IndexByte k (⟨#[40, 41, 44, 46, 59, 42, 43, 45, 47, 37, 61, 60, 62]⟩ : ByteArray) ((s0.data.toList.getD 0 0).toNat : Int)).bind fun r_6 =>
bif (decide (r_6 ≥ 0)) then
kret 1
else
kret 0

/-- cadastre/lex.mark -/
noncomputable def lex_mark (k : Nat) (s0 : ByteArray) : Option Int :=
bif (decide ((s0.size : Int) ≥ 2)) then
chk (0 ≤ (0 : Int) ∧ (0 : Int) ≤ 2 ∧ (2 : Int) ≤ (s0.size : Int)) <|
let v_1 : Bool := ((s0.extract (0 : Int).toNat (2 : Int).toNat).toList == (⟨#[124, 124]⟩ : ByteArray).toList)
bif v_1 then
some 2
else
let v_2 : Bool := ((s0.extract (0 : Int).toNat (2 : Int).toNat).toList == (⟨#[60, 62]⟩ : ByteArray).toList)
bif v_2 then
some 2
else
let v_3 : Bool := ((s0.extract (0 : Int).toNat (2 : Int).toNat).toList == (⟨#[33, 61]⟩ : ByteArray).toList)
bif v_3 then
some 2
else
let v_4 : Bool := ((s0.extract (0 : Int).toNat (2 : Int).toNat).toList == (⟨#[60, 61]⟩ : ByteArray).toList)
bif v_4 then
some 2
else
let v_5 : Bool := ((s0.extract (0 : Int).toNat (2 : Int).toNat).toList == (⟨#[62, 61]⟩ : ByteArray).toList)
bif v_5 then
some 2
else
lex_mark_j9 k (fun t2_7 =>
some t2_7) s0
else
lex_mark_j9 k (fun t2_8 =>
some t2_8) s0

noncomputable def lex_nibble_j5 {ρ : Type} (k : Nat) (kret : Int → Bool → Option ρ) (knxt : Option ρ) (c0 : Int) : Option ρ :=
bif (decide (c0 ≥ 65)) then
bif (decide (c0 ≤ 70)) then
kret (IntKind.u8.wrap ((IntKind.u8.wrap (c0 - 65)) + 10)) true
else
knxt
else
knxt

/-- cadastre/lex.nibble -/
noncomputable def lex_nibble (k : Nat) (c0 : Int) : Option (Int × Bool) :=
(lex_digit k c0).bind fun r_1 =>
bif r_1 then
some ((IntKind.u8.wrap (c0 - 48)), true)
else
bif (decide (c0 ≥ 97)) then
bif (decide (c0 ≤ 102)) then
some ((IntKind.u8.wrap ((IntKind.u8.wrap (c0 - 97)) + 10)), true)
else
lex_nibble_j5 k (fun t2_2 t3_3 =>
some (t2_2, t3_3)) (some (0, false)) c0
else
lex_nibble_j5 k (fun t2_4 t3_5 =>
some (t2_4, t3_5)) (some (0, false)) c0

noncomputable def lex_blob_l6_b {ρ : Type} (k : Nat) (kret : ByteArray → Int → Bool → Option ρ) (kexit0 : Int → Int → List Int → Option ρ) (rec : ByteArray → Int → Int → (List Int) → Int → Option ρ) (s0 : ByteArray) (at1 : Int) (n7 : Int) (b8 : List Int) (k9 : Int) : Option ρ :=
bif (decide (k9 < (IntKind.i64.wrap (at1 + n7)))) then
chk (0 ≤ k9 ∧ k9 < (s0.size : Int)) <|
(lex_nibble k ((s0.data.toList.getD k9.toNat 0).toNat : Int)).bind fun r_2 =>
chk (0 ≤ (IntKind.i64.wrap (k9 + 1)) ∧ (IntKind.i64.wrap (k9 + 1)) < (s0.size : Int)) <|
let v_3 : Int := ((s0.data.toList.getD (IntKind.i64.wrap (k9 + 1)).toNat 0).toNat : Int)
(lex_nibble k v_3).bind fun r_4 =>
bif (!r_2.2) then
kret ByteArray.empty 0 false
else
bif (!r_4.2) then
kret ByteArray.empty 0 false
else
let v_5 : Int := (IntKind.u8.wrap (r_2.1 * 2 ^ (min (4 : Int).toNat (IntKind.u8).bits)))
let v_6 : Int := (IntKind.u8.wrap (BitVec.ofInt (IntKind.u8).bits v_5 ||| BitVec.ofInt (IntKind.u8).bits r_4.1).toNat)
chk ((b8.length + [v_6].length) * 1 ≤ 140737488355328) <|
rec s0 at1 n7 (b8 ++ [v_6]) (IntKind.i64.wrap (k9 + 2))
else
kexit0 at1 n7 b8
noncomputable def lex_blob_l6 {ρ : Type} (k : Nat) (kret : ByteArray → Int → Bool → Option ρ) (kexit0 : Int → Int → List Int → Option ρ) : Nat → ByteArray → Int → Int → (List Int) → Int → Option ρ
  | 0, _, _, _, _, _ => none
  | n + 1, s0, at1, n7, b8, k9 => lex_blob_l6_b k kret kexit0 (lex_blob_l6 k kret kexit0 n) s0 at1 n7 b8 k9

noncomputable def lex_blob_j4 {ρ : Type} (k : Nat) (kret : ByteArray → Int → Bool → Option ρ) (s0 : ByteArray) (at1 : Int) (n7 : Int) : Option ρ :=
lex_blob_l6 k kret (fun at1_10 n7_11 b8_12 =>
kret (strOfNums b8_12) (IntKind.i64.wrap ((IntKind.i64.wrap (at1_10 + n7_11)) + 1)) true) k s0 at1 n7 [] at1

/-- cadastre/lex.blob -/
noncomputable def lex_blob (k : Nat) (s0 : ByteArray) (at1 : Int) : Option (ByteArray × Int × Bool) :=
chk (0 ≤ at1 ∧ at1 ≤ (s0.size : Int) ∧ (s0.size : Int) ≤ (s0.size : Int)) <|
(strings_IndexByte k (s0.extract at1.toNat (s0.size : Int).toNat) 39).bind fun r_1 =>
bif (decide (r_1 < 0)) then
some (ByteArray.empty, 0, false)
else
bif ((Int.tmod r_1 2) != 0) then
some (ByteArray.empty, 0, false)
else
lex_blob_j4 k (fun text4_13 end5_14 ok6_15 =>
some (text4_13, end5_14, ok6_15)) s0 at1 r_1

noncomputable def lex_Small_l3_b {ρ : Type} (k : Nat) (kexit0 : List Int → Option ρ) (rec : (List Int) → Int → Int → Option ρ) (b3 : List Int) (t9 : Int) (t10 : Int) : Option ρ :=
bif (decide (t10 < t9)) then
chk (0 ≤ t10 ∧ t10 < (b3.length : Int)) <|
bif (decide ((b3.getD t10.toNat 0) ≥ 65)) then
bif (decide ((b3.getD t10.toNat 0) ≤ 90)) then
let v_1 : Int := (IntKind.u8.wrap ((IntKind.u8.wrap ((b3.getD t10.toNat 0) + 97)) - 65))
chk (0 ≤ t10 ∧ t10 < (b3.length : Int)) <|
chk (t10.toNat < b3.length) <|
rec (b3.set t10.toNat v_1) t9 (IntKind.i64.wrap (t10 + 1))
else
rec b3 t9 (IntKind.i64.wrap (t10 + 1))
else
rec b3 t9 (IntKind.i64.wrap (t10 + 1))
else
kexit0 b3
noncomputable def lex_Small_l3 {ρ : Type} (k : Nat) (kexit0 : List Int → Option ρ) : Nat → (List Int) → Int → Int → Option ρ
  | 0, _, _, _ => none
  | n + 1, b3, t9, t10 => lex_Small_l3_b k kexit0 (lex_Small_l3 k kexit0 n) b3 t9 t10

/-- cadastre/lex.Small -/
noncomputable def lex_Small (k : Nat) (s0 : ByteArray) : Option ByteArray :=
lex_Small_l3 k (fun b3_2 =>
some (strOfNums b3_2)) k (bytesOf s0) ((bytesOf s0).length : Int) 0

noncomputable def lex_integer_l2_b {ρ : Type} (k : Nat) (kret : Int → Bool → Option ρ) (kexit0 : Int → Option ρ) (rec : ByteArray → Int → Int → Int → Option ρ) (s0 : ByteArray) (n2 : Int) (t7 : Int) (t8 : Int) : Option ρ :=
bif (decide (t8 < t7)) then
chk (0 ≤ t8 ∧ t8 < (s0.size : Int)) <|
let v_1 : Int := (IntKind.u8.wrap (((s0.data.toList.getD t8.toNat 0).toNat : Int) - 48))
let v_2 : Int := (IntKind.i64.wrap (Int.tdiv (IntKind.i64.wrap (9223372036854775807 - (IntKind.i64.wrap v_1))) 10))
bif (decide (n2 > v_2)) then
kret 0 false
else
let v_3 : Int := (IntKind.i64.wrap ((IntKind.i64.wrap (10 * n2)) + (IntKind.i64.wrap v_1)))
rec s0 v_3 t7 (IntKind.i64.wrap (t8 + 1))
else
kexit0 n2
noncomputable def lex_integer_l2 {ρ : Type} (k : Nat) (kret : Int → Bool → Option ρ) (kexit0 : Int → Option ρ) : Nat → ByteArray → Int → Int → Int → Option ρ
  | 0, _, _, _, _ => none
  | n + 1, s0, n2, t7, t8 => lex_integer_l2_b k kret kexit0 (lex_integer_l2 k kret kexit0 n) s0 n2 t7 t8

/-- cadastre/lex.integer -/
noncomputable def lex_integer (k : Nat) (s0 : ByteArray) : Option (Int × Bool) :=
lex_integer_l2 k (fun n2_4 ok3_5 =>
some (n2_4, ok3_5)) (fun n2_6 =>
some (n2_6, true)) k s0 0 (s0.size : Int) 0

noncomputable def lex_quoted_j2 {ρ : Type} (k : Nat) (kret : ByteArray → Int → Bool → Option ρ) (kgoto0 : ByteArray → Int → List Int → Option ρ) (s0 : ByteArray) (at1 : Int) (b7 : List Int) : Option ρ :=
bif (at1 == (s0.size : Int)) then
kret ByteArray.empty 0 false
else
chk (0 ≤ at1 ∧ at1 < (s0.size : Int)) <|
bif (((s0.data.toList.getD at1.toNat 0).toNat : Int) != 39) then
chk (0 ≤ at1 ∧ at1 < (s0.size : Int)) <|
chk ((b7.length + [((s0.data.toList.getD at1.toNat 0).toNat : Int)].length) * 1 ≤ 140737488355328) <|
kgoto0 s0 (IntKind.i64.wrap (at1 + 1)) (b7 ++ [((s0.data.toList.getD at1.toNat 0).toNat : Int)])
else
bif (decide ((IntKind.i64.wrap (at1 + 1)) < (s0.size : Int))) then
chk (0 ≤ (IntKind.i64.wrap (at1 + 1)) ∧ (IntKind.i64.wrap (at1 + 1)) < (s0.size : Int)) <|
let v_1 : Int := ((s0.data.toList.getD (IntKind.i64.wrap (at1 + 1)).toNat 0).toNat : Int)
bif (v_1 == 39) then
chk ((b7.length + [39].length) * 1 ≤ 140737488355328) <|
kgoto0 s0 (IntKind.i64.wrap (at1 + 2)) (b7 ++ [39])
else
kret (strOfNums b7) (IntKind.i64.wrap (at1 + 1)) true
else
kret (strOfNums b7) (IntKind.i64.wrap (at1 + 1)) true

noncomputable def lex_quoted_g0_b {ρ : Type} (k : Nat) (kret : ByteArray → Int → Bool → Option ρ) (rec : ByteArray → Int → (List Int) → Option ρ) (s0 : ByteArray) (at1 : Int) (b7 : List Int) : Option ρ :=
lex_quoted_j2 k kret rec s0 at1 b7
noncomputable def lex_quoted_g0 {ρ : Type} (k : Nat) (kret : ByteArray → Int → Bool → Option ρ) : Nat → ByteArray → Int → (List Int) → Option ρ
  | 0, _, _, _ => none
  | n + 1, s0, at1, b7 => lex_quoted_g0_b k kret (lex_quoted_g0 k kret n) s0 at1 b7

/-- cadastre/lex.quoted -/
noncomputable def lex_quoted (k : Nat) (s0 : ByteArray) (at1 : Int) : Option (ByteArray × Int × Bool) :=
lex_quoted_j2 k (fun text4_2 end5_3 ok6_4 =>
some (text4_2, end5_3, ok6_4)) (fun s0_5 at1_6 b7_7 =>
lex_quoted_g0 k (fun text4_14 end5_15 ok6_16 =>
some (text4_14, end5_15, ok6_16)) k s0_5 at1_6 b7_7) s0 at1 []

/-- cadastre/lex.token$1 -/
noncomputable def lex_token_1 (k : Nat) (c0 : Int) : Option Bool :=
(lex_letter k c0).bind fun r_1 =>
bif r_1 then
some true
else
(lex_digit k c0).bind fun r_2 =>
some r_2

noncomputable def lex_span_f87_l1_b {ρ : Type} (k : Nat) (kexit0 : Int → Option ρ) (rec : ByteArray → Int → Option ρ) (s0 : ByteArray) (at1 : Int) : Option ρ :=
bif (decide (at1 < (s0.size : Int))) then
chk (0 ≤ at1 ∧ at1 < (s0.size : Int)) <|
(lex_token_1 k ((s0.data.toList.getD at1.toNat 0).toNat : Int)).bind fun r_1 =>
bif r_1 then
rec s0 (IntKind.i64.wrap (at1 + 1))
else
kexit0 at1
else
kexit0 at1
noncomputable def lex_span_f87_l1 {ρ : Type} (k : Nat) (kexit0 : Int → Option ρ) : Nat → ByteArray → Int → Option ρ
  | 0, _, _ => none
  | n + 1, s0, at1 => lex_span_f87_l1_b k kexit0 (lex_span_f87_l1 k kexit0 n) s0 at1

/-- cadastre/lex.span -/
noncomputable def lex_span_f87 (k : Nat) (s0 : ByteArray) (at1 : Int) : Option Int :=
lex_span_f87_l1 k (fun at1_2 =>
some at1_2) k s0 at1

noncomputable def lex_span_f84_l1_b {ρ : Type} (k : Nat) (kexit0 : Int → Option ρ) (rec : ByteArray → Int → Option ρ) (s0 : ByteArray) (at1 : Int) : Option ρ :=
bif (decide (at1 < (s0.size : Int))) then
chk (0 ≤ at1 ∧ at1 < (s0.size : Int)) <|
(lex_digit k ((s0.data.toList.getD at1.toNat 0).toNat : Int)).bind fun r_1 =>
bif r_1 then
rec s0 (IntKind.i64.wrap (at1 + 1))
else
kexit0 at1
else
kexit0 at1
noncomputable def lex_span_f84_l1 {ρ : Type} (k : Nat) (kexit0 : Int → Option ρ) : Nat → ByteArray → Int → Option ρ
  | 0, _, _ => none
  | n + 1, s0, at1 => lex_span_f84_l1_b k kexit0 (lex_span_f84_l1 k kexit0 n) s0 at1

/-- cadastre/lex.span -/
noncomputable def lex_span_f84 (k : Nat) (s0 : ByteArray) (at1 : Int) : Option Int :=
lex_span_f84_l1 k (fun at1_2 =>
some at1_2) k s0 at1

noncomputable def lex_token_j3 {ρ : Type} (k : Nat) (kgoto1 : ByteArray → Int → S68 → Option ρ) (kgoto2 : ByteArray → Int → S68 → Option ρ) (kgoto3 : ByteArray → Int → S68 → Option ρ) (kret : Int → Bool → S68 → Option ρ) (s0 : ByteArray) (at1 : Int) (c7 : Int) (t4 : S68) : Option ρ :=
(lex_letter k c7).bind fun r_3 =>
bif r_3 then
kgoto1 s0 at1 t4
else
(lex_digit k c7).bind fun r_4 =>
bif r_4 then
kgoto2 s0 at1 t4
else
bif (c7 == 39) then
kgoto3 s0 at1 t4
else
chk (0 ≤ at1 ∧ at1 ≤ (s0.size : Int) ∧ (s0.size : Int) ≤ (s0.size : Int)) <|
(lex_mark k (s0.extract at1.toNat (s0.size : Int).toNat)).bind fun r_5 =>
bif (decide (r_5 > 0)) then
chk (0 ≤ at1 ∧ at1 ≤ (IntKind.i64.wrap (at1 + r_5)) ∧ (IntKind.i64.wrap (at1 + r_5)) ≤ (s0.size : Int)) <|
let v_6 : Bool := ((s0.extract at1.toNat (IntKind.i64.wrap (at1 + r_5)).toNat).toList == (⟨#[33, 61]⟩ : ByteArray).toList)
bif v_6 then
kret (IntKind.i64.wrap (at1 + r_5)) true (⟨5, (⟨#[60, 62]⟩ : ByteArray), 0⟩ : S68)
else
kret (IntKind.i64.wrap (at1 + r_5)) true (⟨5, (s0.extract at1.toNat (IntKind.i64.wrap (at1 + r_5)).toNat), 0⟩ : S68)
else
kret 0 false (⟨0, ByteArray.empty, 0⟩ : S68)

/-- cadastre/lex.token -/
noncomputable def lex_token (k : Nat) (s0 : ByteArray) (at1 : Int) : Option (S68 × Int × Bool) :=
chk (0 ≤ at1 ∧ at1 < (s0.size : Int)) <|
bif (((s0.data.toList.getD at1.toNat 0).toNat : Int) == 120) then
bif (decide ((IntKind.i64.wrap (at1 + 1)) < (s0.size : Int))) then
chk (0 ≤ (IntKind.i64.wrap (at1 + 1)) ∧ (IntKind.i64.wrap (at1 + 1)) < (s0.size : Int)) <|
let v_1 : Int := ((s0.data.toList.getD (IntKind.i64.wrap (at1 + 1)).toNat 0).toNat : Int)
bif (v_1 == 39) then
(lex_blob k s0 (IntKind.i64.wrap (at1 + 2))).bind fun r_2 =>
some ((⟨4, r_2.1, 0⟩ : S68), r_2.2.1, r_2.2.2)
else
lex_token_j3 k (fun s0_7 at1_8 t4_9 =>
(lex_span_f87 k s0_7 at1_8).bind fun r_10 =>
chk (0 ≤ at1_8 ∧ at1_8 ≤ r_10 ∧ r_10 ≤ (s0_7.size : Int)) <|
(lex_Small k (s0_7.extract at1_8.toNat r_10.toNat)).bind fun r_11 =>
some ((⟨1, r_11, 0⟩ : S68), r_10, true)) (fun s0_12 at1_13 t4_14 =>
(lex_span_f84 k s0_12 at1_13).bind fun r_15 =>
chk (0 ≤ at1_13 ∧ at1_13 ≤ r_15 ∧ r_15 ≤ (s0_12.size : Int)) <|
(lex_integer k (s0_12.extract at1_13.toNat r_15.toNat)).bind fun r_16 =>
some ((⟨2, t4_14.f1, r_16.1⟩ : S68), r_15, r_16.2)) (fun s0_17 at1_18 t4_19 =>
(lex_quoted k s0_17 (IntKind.i64.wrap (at1_18 + 1))).bind fun r_20 =>
some ((⟨3, r_20.1, t4_19.f2⟩ : S68), r_20.2.1, r_20.2.2)) (fun end5_21 ok6_22 t4_23 =>
some (t4_23, end5_21, ok6_22)) s0 at1 ((s0.data.toList.getD at1.toNat 0).toNat : Int) (⟨0, ByteArray.empty, 0⟩ : S68)
else
lex_token_j3 k (fun s0_24 at1_25 t4_26 =>
(lex_span_f87 k s0_24 at1_25).bind fun r_27 =>
chk (0 ≤ at1_25 ∧ at1_25 ≤ r_27 ∧ r_27 ≤ (s0_24.size : Int)) <|
(lex_Small k (s0_24.extract at1_25.toNat r_27.toNat)).bind fun r_28 =>
some ((⟨1, r_28, 0⟩ : S68), r_27, true)) (fun s0_29 at1_30 t4_31 =>
(lex_span_f84 k s0_29 at1_30).bind fun r_32 =>
chk (0 ≤ at1_30 ∧ at1_30 ≤ r_32 ∧ r_32 ≤ (s0_29.size : Int)) <|
(lex_integer k (s0_29.extract at1_30.toNat r_32.toNat)).bind fun r_33 =>
some ((⟨2, t4_31.f1, r_33.1⟩ : S68), r_32, r_33.2)) (fun s0_34 at1_35 t4_36 =>
(lex_quoted k s0_34 (IntKind.i64.wrap (at1_35 + 1))).bind fun r_37 =>
some ((⟨3, r_37.1, t4_36.f2⟩ : S68), r_37.2.1, r_37.2.2)) (fun end5_38 ok6_39 t4_40 =>
some (t4_40, end5_38, ok6_39)) s0 at1 ((s0.data.toList.getD at1.toNat 0).toNat : Int) (⟨0, ByteArray.empty, 0⟩ : S68)
else
bif (((s0.data.toList.getD at1.toNat 0).toNat : Int) == 88) then
bif (decide ((IntKind.i64.wrap (at1 + 1)) < (s0.size : Int))) then
chk (0 ≤ (IntKind.i64.wrap (at1 + 1)) ∧ (IntKind.i64.wrap (at1 + 1)) < (s0.size : Int)) <|
let v_41 : Int := ((s0.data.toList.getD (IntKind.i64.wrap (at1 + 1)).toNat 0).toNat : Int)
bif (v_41 == 39) then
(lex_blob k s0 (IntKind.i64.wrap (at1 + 2))).bind fun r_42 =>
some ((⟨4, r_42.1, 0⟩ : S68), r_42.2.1, r_42.2.2)
else
lex_token_j3 k (fun s0_43 at1_44 t4_45 =>
(lex_span_f87 k s0_43 at1_44).bind fun r_46 =>
chk (0 ≤ at1_44 ∧ at1_44 ≤ r_46 ∧ r_46 ≤ (s0_43.size : Int)) <|
(lex_Small k (s0_43.extract at1_44.toNat r_46.toNat)).bind fun r_47 =>
some ((⟨1, r_47, 0⟩ : S68), r_46, true)) (fun s0_48 at1_49 t4_50 =>
(lex_span_f84 k s0_48 at1_49).bind fun r_51 =>
chk (0 ≤ at1_49 ∧ at1_49 ≤ r_51 ∧ r_51 ≤ (s0_48.size : Int)) <|
(lex_integer k (s0_48.extract at1_49.toNat r_51.toNat)).bind fun r_52 =>
some ((⟨2, t4_50.f1, r_52.1⟩ : S68), r_51, r_52.2)) (fun s0_53 at1_54 t4_55 =>
(lex_quoted k s0_53 (IntKind.i64.wrap (at1_54 + 1))).bind fun r_56 =>
some ((⟨3, r_56.1, t4_55.f2⟩ : S68), r_56.2.1, r_56.2.2)) (fun end5_57 ok6_58 t4_59 =>
some (t4_59, end5_57, ok6_58)) s0 at1 ((s0.data.toList.getD at1.toNat 0).toNat : Int) (⟨0, ByteArray.empty, 0⟩ : S68)
else
lex_token_j3 k (fun s0_60 at1_61 t4_62 =>
(lex_span_f87 k s0_60 at1_61).bind fun r_63 =>
chk (0 ≤ at1_61 ∧ at1_61 ≤ r_63 ∧ r_63 ≤ (s0_60.size : Int)) <|
(lex_Small k (s0_60.extract at1_61.toNat r_63.toNat)).bind fun r_64 =>
some ((⟨1, r_64, 0⟩ : S68), r_63, true)) (fun s0_65 at1_66 t4_67 =>
(lex_span_f84 k s0_65 at1_66).bind fun r_68 =>
chk (0 ≤ at1_66 ∧ at1_66 ≤ r_68 ∧ r_68 ≤ (s0_65.size : Int)) <|
(lex_integer k (s0_65.extract at1_66.toNat r_68.toNat)).bind fun r_69 =>
some ((⟨2, t4_67.f1, r_69.1⟩ : S68), r_68, r_69.2)) (fun s0_70 at1_71 t4_72 =>
(lex_quoted k s0_70 (IntKind.i64.wrap (at1_71 + 1))).bind fun r_73 =>
some ((⟨3, r_73.1, t4_72.f2⟩ : S68), r_73.2.1, r_73.2.2)) (fun end5_74 ok6_75 t4_76 =>
some (t4_76, end5_74, ok6_75)) s0 at1 ((s0.data.toList.getD at1.toNat 0).toNat : Int) (⟨0, ByteArray.empty, 0⟩ : S68)
else
lex_token_j3 k (fun s0_77 at1_78 t4_79 =>
(lex_span_f87 k s0_77 at1_78).bind fun r_80 =>
chk (0 ≤ at1_78 ∧ at1_78 ≤ r_80 ∧ r_80 ≤ (s0_77.size : Int)) <|
(lex_Small k (s0_77.extract at1_78.toNat r_80.toNat)).bind fun r_81 =>
some ((⟨1, r_81, 0⟩ : S68), r_80, true)) (fun s0_82 at1_83 t4_84 =>
(lex_span_f84 k s0_82 at1_83).bind fun r_85 =>
chk (0 ≤ at1_83 ∧ at1_83 ≤ r_85 ∧ r_85 ≤ (s0_82.size : Int)) <|
(lex_integer k (s0_82.extract at1_83.toNat r_85.toNat)).bind fun r_86 =>
some ((⟨2, t4_84.f1, r_86.1⟩ : S68), r_85, r_86.2)) (fun s0_87 at1_88 t4_89 =>
(lex_quoted k s0_87 (IntKind.i64.wrap (at1_88 + 1))).bind fun r_90 =>
some ((⟨3, r_90.1, t4_89.f2⟩ : S68), r_90.2.1, r_90.2.2)) (fun end5_91 ok6_92 t4_93 =>
some (t4_93, end5_91, ok6_92)) s0 at1 ((s0.data.toList.getD at1.toNat 0).toNat : Int) (⟨0, ByteArray.empty, 0⟩ : S68)

/-- cadastre/lex.long -/
noncomputable def lex_long (k : Nat) (t0 : S68) : Option Bool :=
bif (t0.f0 == 1) then
some (decide ((t0.f1.size : Int) > 32))
else
some (big (decide ((t0.f1.size : Int) > 4096)))

noncomputable def lex_Tokens_l6_b {ρ : Type} (k : Nat) (kret : List S68 → Int → Option ρ) (kexit0 : List S68 → Int → Option ρ) (rec : ByteArray → (List S68) → Int → Int → Option ρ) (s0 : ByteArray) (l4 : List S68) (e5 : Int) (at6 : Int) : Option ρ :=
bif (decide (at6 < (s0.size : Int))) then
(lex_token k s0 at6).bind fun r_2 =>
bif (!r_2.2.2) then
kret [] 1
else
(lex_long k r_2.1).bind fun r_3 =>
bif r_3 then
chk ((l4.length + [r_2.1].length) * 32 ≤ 140737488355328) <|
(lex_skip k s0 r_2.2.1).bind fun r_4 =>
rec s0 (l4 ++ [r_2.1]) 7 r_4
else
chk ((l4.length + [r_2.1].length) * 32 ≤ 140737488355328) <|
(lex_skip k s0 r_2.2.1).bind fun r_5 =>
rec s0 (l4 ++ [r_2.1]) e5 r_5
else
kexit0 l4 e5
noncomputable def lex_Tokens_l6 {ρ : Type} (k : Nat) (kret : List S68 → Int → Option ρ) (kexit0 : List S68 → Int → Option ρ) : Nat → ByteArray → (List S68) → Int → Int → Option ρ
  | 0, _, _, _, _ => none
  | n + 1, s0, l4, e5, at6 => lex_Tokens_l6_b k kret kexit0 (lex_Tokens_l6 k kret kexit0 n) s0 l4 e5 at6

/-- cadastre/lex.Tokens -/
noncomputable def lex_Tokens (k : Nat) (s0 : ByteArray) : Option ((List S68) × Int) :=
bif (big (decide ((s0.size : Int) > 8192))) then
some ([], 7)
else
(lex_skip k s0 0).bind fun r_1 =>
lex_Tokens_l6 k (fun t2_6 t3_7 =>
some (t2_6, t3_7)) (fun l4_8 e5_9 =>
bif (e5_9 != 0) then
some ([], e5_9)
else
some (l4_8, 0)) k s0 [] 0 r_1

/-- cadastre/cadastreref19.Blank -/
noncomputable def cadastreref19_Blank (k : Nat) (c0 : Int) : Option Bool :=
bif (c0 == 9) then
some true
else
bif (c0 == 10) then
some true
else
bif (c0 == 13) then
some true
else
some (c0 == 32)

/-- cadastre/cadastreref19.Digit -/
noncomputable def cadastreref19_Digit (k : Nat) (c0 : Int) : Option Bool :=
bif (decide (c0 ≥ 48)) then
some (decide (c0 ≤ 57))
else
some false

noncomputable def cadastreref19_hex_j5 {ρ : Type} (k : Nat) (kret : Int → Option ρ) (knxt : Option ρ) (c0 : Int) : Option ρ :=
bif (decide (c0 ≥ 65)) then
bif (decide (c0 ≤ 70)) then
let v_3 : Int := (IntKind.i64.wrap ((IntKind.i64.wrap (IntKind.u8.wrap (c0 - 65))) + 10))
kret v_3
else
knxt
else
knxt

/-- cadastre/cadastreref19.hex -/
noncomputable def cadastreref19_hex (k : Nat) (c0 : Int) : Option Int :=
(cadastreref19_Digit k c0).bind fun r_1 =>
bif r_1 then
some (IntKind.i64.wrap (IntKind.u8.wrap (c0 - 48)))
else
bif (decide (c0 ≥ 97)) then
bif (decide (c0 ≤ 102)) then
let v_2 : Int := (IntKind.i64.wrap ((IntKind.i64.wrap (IntKind.u8.wrap (c0 - 97))) + 10))
some v_2
else
cadastreref19_hex_j5 k (fun t2_4 =>
some t2_4) (some (-1)) c0
else
cadastreref19_hex_j5 k (fun t2_5 =>
some t2_5) (some (-1)) c0

noncomputable def cadastreref19_blob_l5_b {ρ : Type} (k : Nat) (kret : ByteArray → Bool → Option ρ) (kexit0 : List Int → Option ρ) (rec : ByteArray → (List Int) → Int → Option ρ) (s0 : ByteArray) (b4 : List Int) (i5 : Int) : Option ρ :=
bif (decide (i5 < (s0.size : Int))) then
chk (0 ≤ i5 ∧ i5 < (s0.size : Int)) <|
(cadastreref19_hex k ((s0.data.toList.getD i5.toNat 0).toNat : Int)).bind fun r_1 =>
chk (0 ≤ (IntKind.i64.wrap (i5 + 1)) ∧ (IntKind.i64.wrap (i5 + 1)) < (s0.size : Int)) <|
let v_2 : Int := ((s0.data.toList.getD (IntKind.i64.wrap (i5 + 1)).toNat 0).toNat : Int)
(cadastreref19_hex k v_2).bind fun r_3 =>
bif (decide (r_1 < 0)) then
kret ByteArray.empty false
else
bif (decide (r_3 < 0)) then
kret ByteArray.empty false
else
let v_4 : Int := (IntKind.u8.wrap (IntKind.i64.wrap ((IntKind.i64.wrap (16 * r_1)) + r_3)))
chk ((b4.length + [v_4].length) * 1 ≤ 140737488355328) <|
rec s0 (b4 ++ [v_4]) (IntKind.i64.wrap (i5 + 2))
else
kexit0 b4
noncomputable def cadastreref19_blob_l5 {ρ : Type} (k : Nat) (kret : ByteArray → Bool → Option ρ) (kexit0 : List Int → Option ρ) : Nat → ByteArray → (List Int) → Int → Option ρ
  | 0, _, _, _ => none
  | n + 1, s0, b4, i5 => cadastreref19_blob_l5_b k kret kexit0 (cadastreref19_blob_l5 k kret kexit0 n) s0 b4 i5

/-- cadastre/cadastreref19.blob -/
noncomputable def cadastreref19_blob (k : Nat) (s0 : ByteArray) : Option (ByteArray × Bool) :=
bif ((Int.tmod (s0.size : Int) 2) == 1) then
some (ByteArray.empty, false)
else
cadastreref19_blob_l5 k (fun t2_5 t3_6 =>
some (t2_5, t3_6)) (fun b4_7 =>
some ((strOfNums b4_7), true)) k s0 [] 0

/-- cadastre/cadastreref19.Letter -/
noncomputable def cadastreref19_Letter (k : Nat) (c0 : Int) : Option Bool :=
bif (decide (c0 ≥ 97)) then
bif (decide (c0 ≤ 122)) then
some true
else
bif (decide (c0 ≥ 65)) then
bif (decide (c0 ≤ 90)) then
some true
else
some (c0 == 95)
else
some (c0 == 95)
else
bif (decide (c0 ≥ 65)) then
bif (decide (c0 ≤ 90)) then
some true
else
some (c0 == 95)
else
some (c0 == 95)

noncomputable def cadastreref19_lower_l3_b {ρ : Type} (k : Nat) (kexit0 : List Int → Option ρ) (rec : (List Int) → Int → Option ρ) (b3 : List Int) (i4 : Int) : Option ρ :=
bif (decide (i4 < (b3.length : Int))) then
chk (0 ≤ i4 ∧ i4 < (b3.length : Int)) <|
bif (decide ((b3.getD i4.toNat 0) ≥ 65)) then
chk (0 ≤ i4 ∧ i4 < (b3.length : Int)) <|
bif (decide ((b3.getD i4.toNat 0) ≤ 90)) then
chk (0 ≤ i4 ∧ i4 < (b3.length : Int)) <|
chk (0 ≤ i4 ∧ i4 < (b3.length : Int)) <|
chk (i4.toNat < b3.length) <|
rec (b3.set i4.toNat (IntKind.u8.wrap ((b3.getD i4.toNat 0) + 32))) (IntKind.i64.wrap (i4 + 1))
else
rec b3 (IntKind.i64.wrap (i4 + 1))
else
rec b3 (IntKind.i64.wrap (i4 + 1))
else
kexit0 b3
noncomputable def cadastreref19_lower_l3 {ρ : Type} (k : Nat) (kexit0 : List Int → Option ρ) : Nat → (List Int) → Int → Option ρ
  | 0, _, _ => none
  | n + 1, b3, i4 => cadastreref19_lower_l3_b k kexit0 (cadastreref19_lower_l3 k kexit0 n) b3 i4

/-- cadastre/cadastreref19.lower -/
noncomputable def cadastreref19_lower (k : Nat) (s0 : ByteArray) : Option ByteArray :=
cadastreref19_lower_l3 k (fun b3_1 =>
some (strOfNums b3_1)) k (bytesOf s0) 0

/-- cadastre/cadastreref2.Int -/
noncomputable def cadastreref2_Int (k : Nat) (n0 : Int) : Option S44 :=
some (⟨1, n0, ByteArray.empty⟩ : S44)

noncomputable def cadastreref4_mul_j5 {ρ : Type} (k : Nat) (kret : Int → Bool → Option ρ) (a0 : Int) (b1 : Int) : Option ρ :=
if b1 = 0 then none else
kret (IntKind.i64.wrap (a0 * b1)) ((IntKind.i64.wrap (Int.tdiv (IntKind.i64.wrap (a0 * b1)) b1)) == a0)

noncomputable def cadastreref4_mul_j3 {ρ : Type} (k : Nat) (kret : Int → Bool → Option ρ) (a0 : Int) (b1 : Int) : Option ρ :=
bif (a0 == (-1)) then
bif (big (b1 == (-9223372036854775808))) then
kret 0 false
else
bif (b1 == (-1)) then
bif (big (a0 == (-9223372036854775808))) then
kret 0 false
else
cadastreref4_mul_j5 k kret a0 b1
else
cadastreref4_mul_j5 k kret a0 b1
else
bif (b1 == (-1)) then
bif (big (a0 == (-9223372036854775808))) then
kret 0 false
else
cadastreref4_mul_j5 k kret a0 b1
else
cadastreref4_mul_j5 k kret a0 b1

/-- cadastre/cadastreref4.mul -/
noncomputable def cadastreref4_mul (k : Nat) (a0 : Int) (b1 : Int) : Option (Int × Bool) :=
bif (a0 == 0) then
some (0, true)
else
bif (b1 == 0) then
some (0, true)
else
cadastreref4_mul_j3 k (fun t4_9 t5_10 =>
some (t4_9, t5_10)) a0 b1

noncomputable def cadastreref4_Do_j28 {ρ : Type} (k : Nat) (kret : Int → S44 → Option ρ) (n10 : Int) (ok11 : Bool) (t6 : S44) : Option ρ :=
bif (!ok11) then
kret 5 (⟨0, 0, ByteArray.empty⟩ : S44)
else
(cadastreref2_Int k n10).bind fun r_2 =>
kret 0 r_2

noncomputable def cadastreref4_Do_j5 {ρ : Type} (k : Nat) (kret : Int → S44 → Option ρ) (op0 : Int) (a4 : S44) (b5 : S44) (t6 : S44) : Option ρ :=
bif (op0 == 9) then
(cadastreref4_mul k a4.f1 b5.f1).bind fun r_1 =>
cadastreref4_Do_j28 k kret r_1.1 r_1.2 t6
else
bif (op0 == 12) then
let v_5 : Bool := ((decide (b5.f1 ≥ 0)) == (decide ((IntKind.i64.wrap (a4.f1 + b5.f1)) ≥ a4.f1)))
cadastreref4_Do_j28 k kret (IntKind.i64.wrap (a4.f1 + b5.f1)) v_5 t6
else
bif (op0 == 13) then
let v_8 : Bool := ((decide (b5.f1 ≥ 0)) == (decide ((IntKind.i64.wrap (a4.f1 - b5.f1)) ≤ a4.f1)))
cadastreref4_Do_j28 k kret (IntKind.i64.wrap (a4.f1 - b5.f1)) v_8 t6
else
bif (b5.f1 == 0) then
kret 0 (⟨0, 0, ByteArray.empty⟩ : S44)
else
bif (b5.f1 == (-1)) then
bif (op0 == 11) then
(cadastreref2_Int k 0).bind fun r_11 =>
kret 0 r_11
else
cadastreref4_Do_j28 k kret (IntKind.i64.wrap (0 - a4.f1)) (big (a4.f1 != (-9223372036854775808))) t6
else
bif (op0 == 10) then
if b5.f1 = 0 then none else
cadastreref4_Do_j28 k kret (IntKind.i64.wrap (Int.tdiv a4.f1 b5.f1)) true t6
else
if b5.f1 = 0 then none else
cadastreref4_Do_j28 k kret (Int.tmod a4.f1 b5.f1) true t6

noncomputable def cadastreref4_Do_j3 {ρ : Type} (k : Nat) (kret : Int → S44 → Option ρ) (op0 : Int) (a4 : S44) (b5 : S44) (t6 : S44) : Option ρ :=
bif (a4.f0 != 1) then
kret 4 (⟨0, 0, ByteArray.empty⟩ : S44)
else
bif (b5.f0 != 1) then
kret 4 (⟨0, 0, ByteArray.empty⟩ : S44)
else
cadastreref4_Do_j5 k kret op0 a4 b5 t6

/-- cadastre/cadastreref4.Do -/
noncomputable def cadastreref4_Do (k : Nat) (op0 : Int) (a1 : S44) (b2 : S44) : Option (S44 × Int) :=
bif (a1.f0 == 0) then
some ((⟨0, 0, ByteArray.empty⟩ : S44), 0)
else
bif (b2.f0 == 0) then
some ((⟨0, 0, ByteArray.empty⟩ : S44), 0)
else
cadastreref4_Do_j3 k (fun t7_20 t6_21 =>
some (t6_21, t7_20)) op0 a1 b2 (⟨0, 0, ByteArray.empty⟩ : S44)

noncomputable def cadastreref4_Int_l8_b {ρ : Type} (k : Nat) (kret : Int → Int → Option ρ) (kexit0 : ByteArray → Int → Bool → Option ρ) (rec : ByteArray → Int → Bool → Int → Option ρ) (s0 : ByteArray) (i4 : Int) (minus5 : Bool) (k6 : Int) : Option ρ :=
bif (decide (k6 < (s0.size : Int))) then
chk (0 ≤ k6 ∧ k6 < (s0.size : Int)) <|
bif (decide (((s0.data.toList.getD k6.toNat 0).toNat : Int) < 48)) then
kret 0 4
else
chk (0 ≤ k6 ∧ k6 < (s0.size : Int)) <|
bif (decide (((s0.data.toList.getD k6.toNat 0).toNat : Int) > 57)) then
kret 0 4
else
rec s0 i4 minus5 (IntKind.i64.wrap (k6 + 1))
else
kexit0 s0 i4 minus5
noncomputable def cadastreref4_Int_l8 {ρ : Type} (k : Nat) (kret : Int → Int → Option ρ) (kexit0 : ByteArray → Int → Bool → Option ρ) : Nat → ByteArray → Int → Bool → Int → Option ρ
  | 0, _, _, _, _ => none
  | n + 1, s0, i4, minus5, k6 => cadastreref4_Int_l8_b k kret kexit0 (cadastreref4_Int_l8 k kret kexit0 n) s0 i4 minus5 k6

noncomputable def cadastreref4_Int_l18_b {ρ : Type} (k : Nat) (kret : Int → Int → Option ρ) (kexit2 : S44 → Option ρ) (rec : ByteArray → Int → Int → S44 → Option ρ) (s0 : ByteArray) (op9 : Int) (k10 : Int) (n7 : S44) : Option ρ :=
bif (decide (k10 < (s0.size : Int))) then
(cadastreref2_Int k 10).bind fun r_6 =>
(cadastreref4_Do k 9 n7 r_6).bind fun r_7 =>
bif (r_7.2 == 0) then
chk (0 ≤ k10 ∧ k10 < (s0.size : Int)) <|
let v_8 : Int := (IntKind.u8.wrap (((s0.data.toList.getD k10.toNat 0).toNat : Int) - 48))
(cadastreref2_Int k (IntKind.i64.wrap v_8)).bind fun r_9 =>
(cadastreref4_Do k op9 r_7.1 r_9).bind fun r_10 =>
bif (r_10.2 != 0) then
kret 0 r_10.2
else
rec s0 op9 (IntKind.i64.wrap (k10 + 1)) r_10.1
else
bif (r_7.2 != 0) then
kret 0 r_7.2
else
rec s0 op9 (IntKind.i64.wrap (k10 + 1)) r_7.1
else
kexit2 n7
noncomputable def cadastreref4_Int_l18 {ρ : Type} (k : Nat) (kret : Int → Int → Option ρ) (kexit2 : S44 → Option ρ) : Nat → ByteArray → Int → Int → S44 → Option ρ
  | 0, _, _, _, _ => none
  | n + 1, s0, op9, k10, n7 => cadastreref4_Int_l18_b k kret kexit2 (cadastreref4_Int_l18 k kret kexit2 n) s0 op9 k10 n7

noncomputable def cadastreref4_Int_j17 {ρ : Type} (k : Nat) (kret : Int → Int → Option ρ) (s0 : ByteArray) (i4 : Int) (op9 : Int) (n7 : S44) : Option ρ :=
cadastreref4_Int_l18 k kret (fun n7_13 =>
kret n7_13.f1 0) k s0 op9 i4 n7

noncomputable def cadastreref4_Int_j5 {ρ : Type} (k : Nat) (kret : Int → Int → Option ρ) (s0 : ByteArray) (i4 : Int) (minus5 : Bool) : Option ρ :=
bif (i4 == (s0.size : Int)) then
kret 0 4
else
cadastreref4_Int_l8 k kret (fun s0_3 i4_4 minus5_5 =>
bif minus5_5 then
cadastreref4_Int_j17 k kret s0_3 i4_4 13 (⟨1, 0, ByteArray.empty⟩ : S44)
else
cadastreref4_Int_j17 k kret s0_3 i4_4 12 (⟨1, 0, ByteArray.empty⟩ : S44)) k s0 i4 minus5 i4

noncomputable def cadastreref4_Int_j3 {ρ : Type} (k : Nat) (kret : Int → Int → Option ρ) (s0 : ByteArray) (i4 : Int) (minus5 : Bool) : Option ρ :=
bif minus5 then
cadastreref4_Int_j5 k kret s0 1 minus5
else
bif (decide ((s0.size : Int) > 0)) then
chk (0 ≤ (0 : Int) ∧ (0 : Int) < (s0.size : Int)) <|
bif (((s0.data.toList.getD 0 0).toNat : Int) == 43) then
cadastreref4_Int_j5 k kret s0 1 minus5
else
cadastreref4_Int_j5 k kret s0 i4 minus5
else
cadastreref4_Int_j5 k kret s0 i4 minus5

/-- cadastre/cadastreref4.Int -/
noncomputable def cadastreref4_Int (k : Nat) (s0 : ByteArray) : Option (Int × Int) :=
bif (decide ((s0.size : Int) > 0)) then
chk (0 ≤ (0 : Int) ∧ (0 : Int) < (s0.size : Int)) <|
cadastreref4_Int_j3 k (fun t2_26 t3_27 =>
some (t2_26, t3_27)) s0 0 (((s0.data.toList.getD 0 0).toNat : Int) == 45)
else
cadastreref4_Int_j3 k (fun t2_28 t3_29 =>
some (t2_28, t3_29)) s0 0 false

noncomputable def cadastreref19_quoted_l3_b {ρ : Type} (k : Nat) (kret : ByteArray → Int → Option ρ) (kexit0 : Option ρ) (rec : ByteArray → (List Int) → Int → Option ρ) (s0 : ByteArray) (b6 : List Int) (i7 : Int) : Option ρ :=
bif (decide (i7 < (s0.size : Int))) then
chk (0 ≤ i7 ∧ i7 < (s0.size : Int)) <|
bif (((s0.data.toList.getD i7.toNat 0).toNat : Int) != 39) then
chk (0 ≤ i7 ∧ i7 < (s0.size : Int)) <|
chk ((b6.length + [((s0.data.toList.getD i7.toNat 0).toNat : Int)].length) * 1 ≤ 140737488355328) <|
rec s0 (b6 ++ [((s0.data.toList.getD i7.toNat 0).toNat : Int)]) (IntKind.i64.wrap (i7 + 1))
else
bif (decide ((IntKind.i64.wrap (i7 + 1)) < (s0.size : Int))) then
chk (0 ≤ (IntKind.i64.wrap (i7 + 1)) ∧ (IntKind.i64.wrap (i7 + 1)) < (s0.size : Int)) <|
let v_1 : Int := ((s0.data.toList.getD (IntKind.i64.wrap (i7 + 1)).toNat 0).toNat : Int)
bif (v_1 == 39) then
chk ((b6.length + [39].length) * 1 ≤ 140737488355328) <|
rec s0 (b6 ++ [39]) (IntKind.i64.wrap ((IntKind.i64.wrap (i7 + 1)) + 1))
else
kret (strOfNums b6) (IntKind.i64.wrap (i7 + 1))
else
kret (strOfNums b6) (IntKind.i64.wrap (i7 + 1))
else
kexit0
noncomputable def cadastreref19_quoted_l3 {ρ : Type} (k : Nat) (kret : ByteArray → Int → Option ρ) (kexit0 : Option ρ) : Nat → ByteArray → (List Int) → Int → Option ρ
  | 0, _, _, _ => none
  | n + 1, s0, b6, i7 => cadastreref19_quoted_l3_b k kret kexit0 (cadastreref19_quoted_l3 k kret kexit0 n) s0 b6 i7

/-- cadastre/cadastreref19.quoted -/
noncomputable def cadastreref19_quoted (k : Nat) (s0 : ByteArray) (at1 : Int) : Option (ByteArray × Int) :=
cadastreref19_quoted_l3 k (fun t4_2 t5_3 =>
some (t4_2, t5_3)) (some (ByteArray.empty, (-1))) k s0 [] (IntKind.i64.wrap (at1 + 1))

/-- cadastre/cadastreref19.two -/
noncomputable def cadastreref19_two (k : Nat) (s0 : ByteArray) : Option Bool :=
bif (s0.toList == (⟨#[124, 124]⟩ : ByteArray).toList) then
some true
else
bif (s0.toList == (⟨#[60, 62]⟩ : ByteArray).toList) then
some true
else
bif (s0.toList == (⟨#[33, 61]⟩ : ByteArray).toList) then
some true
else
bif (s0.toList == (⟨#[60, 61]⟩ : ByteArray).toList) then
some true
else
some (s0.toList == (⟨#[62, 61]⟩ : ByteArray).toList)

/-- cadastre/cadastreref19.one -/
noncomputable def cadastreref19_one (k : Nat) (c0 : Int) : Option Bool :=
bif (c0 == 40) then
some true
else
bif (c0 == 41) then
some true
else
bif (c0 == 44) then
some true
else
bif (c0 == 46) then
some true
else
bif (c0 == 59) then
some true
else
bif (c0 == 42) then
some true
else
bif (c0 == 43) then
some true
else
bif (c0 == 45) then
some true
else
bif (c0 == 47) then
some true
else
bif (c0 == 37) then
some true
else
bif (c0 == 61) then
some true
else
bif (c0 == 60) then
some true
else
bif (c0 == 62) then
some true
else
some false

noncomputable def cadastreref19_token_l4_b {ρ : Type} (k : Nat) (kexit1 : ByteArray → Int → Int → S68 → Option ρ) (rec : ByteArray → Int → Int → S68 → Option ρ) (s0 : ByteArray) (at1 : Int) (end7 : Int) (t4 : S68) : Option ρ :=
bif (decide (end7 < (s0.size : Int))) then
chk (0 ≤ end7 ∧ end7 < (s0.size : Int)) <|
bif (((s0.data.toList.getD end7.toNat 0).toNat : Int) != 39) then
rec s0 at1 (IntKind.i64.wrap (end7 + 1)) t4
else
kexit1 s0 at1 end7 t4
else
kexit1 s0 at1 end7 t4
noncomputable def cadastreref19_token_l4 {ρ : Type} (k : Nat) (kexit1 : ByteArray → Int → Int → S68 → Option ρ) : Nat → ByteArray → Int → Int → S68 → Option ρ
  | 0, _, _, _, _ => none
  | n + 1, s0, at1, end7, t4 => cadastreref19_token_l4_b k kexit1 (cadastreref19_token_l4 k kexit1 n) s0 at1 end7 t4

noncomputable def cadastreref19_token_j3 {ρ : Type} (k : Nat) (kret : Int → S68 → Option ρ) (s0 : ByteArray) (at1 : Int) (t4 : S68) : Option ρ :=
cadastreref19_token_l4 k (fun s0_2 at1_3 end7_4 t4_5 =>
bif (end7_4 == (s0_2.size : Int)) then
kret (-1) (⟨0, ByteArray.empty, 0⟩ : S68)
else
chk (0 ≤ (IntKind.i64.wrap (at1_3 + 2)) ∧ (IntKind.i64.wrap (at1_3 + 2)) ≤ end7_4 ∧ end7_4 ≤ (s0_2.size : Int)) <|
(cadastreref19_blob k (s0_2.extract (IntKind.i64.wrap (at1_3 + 2)).toNat end7_4.toNat)).bind fun r_6 =>
bif (!r_6.2) then
kret (-1) (⟨0, ByteArray.empty, 0⟩ : S68)
else
kret (IntKind.i64.wrap (end7_4 + 1)) (⟨4, r_6.1, 0⟩ : S68)) k s0 at1 (IntKind.i64.wrap (at1 + 2)) t4

noncomputable def cadastreref19_token_l14_b {ρ : Type} (k : Nat) (kexit3 : ByteArray → Int → Int → S68 → Option ρ) (rec : ByteArray → Int → Int → S68 → Option ρ) (s0 : ByteArray) (at1 : Int) (end10 : Int) (t4 : S68) : Option ρ :=
bif (decide (end10 < (s0.size : Int))) then
chk (0 ≤ end10 ∧ end10 < (s0.size : Int)) <|
(cadastreref19_Letter k ((s0.data.toList.getD end10.toNat 0).toNat : Int)).bind fun r_10 =>
bif r_10 then
rec s0 at1 (IntKind.i64.wrap (end10 + 1)) t4
else
chk (0 ≤ end10 ∧ end10 < (s0.size : Int)) <|
(cadastreref19_Digit k ((s0.data.toList.getD end10.toNat 0).toNat : Int)).bind fun r_11 =>
bif r_11 then
rec s0 at1 (IntKind.i64.wrap (end10 + 1)) t4
else
kexit3 s0 at1 end10 t4
else
kexit3 s0 at1 end10 t4
noncomputable def cadastreref19_token_l14 {ρ : Type} (k : Nat) (kexit3 : ByteArray → Int → Int → S68 → Option ρ) : Nat → ByteArray → Int → Int → S68 → Option ρ
  | 0, _, _, _, _ => none
  | n + 1, s0, at1, end10, t4 => cadastreref19_token_l14_b k kexit3 (cadastreref19_token_l14 k kexit3 n) s0 at1 end10 t4

noncomputable def cadastreref19_token_l19_b {ρ : Type} (k : Nat) (kexit5 : ByteArray → Int → Int → S68 → Option ρ) (rec : ByteArray → Int → Int → S68 → Option ρ) (s0 : ByteArray) (at1 : Int) (end11 : Int) (t4 : S68) : Option ρ :=
bif (decide (end11 < (s0.size : Int))) then
chk (0 ≤ end11 ∧ end11 < (s0.size : Int)) <|
(cadastreref19_Digit k ((s0.data.toList.getD end11.toNat 0).toNat : Int)).bind fun r_18 =>
bif r_18 then
rec s0 at1 (IntKind.i64.wrap (end11 + 1)) t4
else
kexit5 s0 at1 end11 t4
else
kexit5 s0 at1 end11 t4
noncomputable def cadastreref19_token_l19 {ρ : Type} (k : Nat) (kexit5 : ByteArray → Int → Int → S68 → Option ρ) : Nat → ByteArray → Int → Int → S68 → Option ρ
  | 0, _, _, _, _ => none
  | n + 1, s0, at1, end11, t4 => cadastreref19_token_l19_b k kexit5 (cadastreref19_token_l19 k kexit5 n) s0 at1 end11 t4

noncomputable def cadastreref19_token_j29 {ρ : Type} (k : Nat) (kret : Int → S68 → Option ρ) (s0 : ByteArray) (at1 : Int) (t4 : S68) : Option ρ :=
chk (0 ≤ at1 ∧ at1 ≤ (IntKind.i64.wrap (at1 + 2)) ∧ (IntKind.i64.wrap (at1 + 2)) ≤ (s0.size : Int)) <|
let v_26 : Bool := ((s0.extract at1.toNat (IntKind.i64.wrap (at1 + 2)).toNat).toList == (⟨#[33, 61]⟩ : ByteArray).toList)
bif v_26 then
kret (IntKind.i64.wrap (at1 + 2)) (⟨5, (⟨#[60, 62]⟩ : ByteArray), 0⟩ : S68)
else
kret (IntKind.i64.wrap (at1 + 2)) (⟨5, (s0.extract at1.toNat (IntKind.i64.wrap (at1 + 2)).toNat), 0⟩ : S68)

noncomputable def cadastreref19_token_j33 {ρ : Type} (k : Nat) (kret : Int → S68 → Option ρ) (knxt : S68 → Option ρ) (s0 : ByteArray) (at1 : Int) (c6 : Int) (t4 : S68) : Option ρ :=
(cadastreref19_one k c6).bind fun r_29 =>
bif r_29 then
chk (0 ≤ at1 ∧ at1 ≤ (IntKind.i64.wrap (at1 + 1)) ∧ (IntKind.i64.wrap (at1 + 1)) ≤ (s0.size : Int)) <|
kret (IntKind.i64.wrap (at1 + 1)) (⟨5, (s0.extract at1.toNat (IntKind.i64.wrap (at1 + 1)).toNat), 0⟩ : S68)
else
knxt t4

noncomputable def cadastreref19_token_j12 {ρ : Type} (k : Nat) (kret : Int → S68 → Option ρ) (knxt : S68 → Option ρ) (s0 : ByteArray) (at1 : Int) (c6 : Int) (t4 : S68) : Option ρ :=
(cadastreref19_Letter k c6).bind fun r_9 =>
bif r_9 then
cadastreref19_token_l14 k (fun s0_12 at1_13 end10_14 t4_15 =>
chk (0 ≤ at1_13 ∧ at1_13 ≤ end10_14 ∧ end10_14 ≤ (s0_12.size : Int)) <|
(cadastreref19_lower k (s0_12.extract at1_13.toNat end10_14.toNat)).bind fun r_16 =>
kret end10_14 (⟨1, r_16, 0⟩ : S68)) k s0 at1 at1 t4
else
(cadastreref19_Digit k c6).bind fun r_17 =>
bif r_17 then
cadastreref19_token_l19 k (fun s0_19 at1_20 end11_21 t4_22 =>
chk (0 ≤ at1_20 ∧ at1_20 ≤ end11_21 ∧ end11_21 ≤ (s0_19.size : Int)) <|
(cadastreref4_Int k (s0_19.extract at1_20.toNat end11_21.toNat)).bind fun r_23 =>
bif (r_23.2 != 0) then
kret (-1) (⟨0, ByteArray.empty, 0⟩ : S68)
else
kret end11_21 (⟨2, ByteArray.empty, r_23.1⟩ : S68)) k s0 at1 at1 t4
else
bif (c6 == 39) then
(cadastreref19_quoted k s0 at1).bind fun r_24 =>
kret r_24.2 (⟨3, r_24.1, 0⟩ : S68)
else
bif (decide ((IntKind.i64.wrap (at1 + 1)) < (s0.size : Int))) then
chk (0 ≤ at1 ∧ at1 ≤ (IntKind.i64.wrap (at1 + 2)) ∧ (IntKind.i64.wrap (at1 + 2)) ≤ (s0.size : Int)) <|
(cadastreref19_two k (s0.extract at1.toNat (IntKind.i64.wrap (at1 + 2)).toNat)).bind fun r_25 =>
bif r_25 then
cadastreref19_token_j29 k kret s0 at1 t4
else
cadastreref19_token_j33 k kret knxt s0 at1 c6 t4
else
cadastreref19_token_j33 k kret knxt s0 at1 c6 t4

/-- cadastre/cadastreref19.token -/
noncomputable def cadastreref19_token (k : Nat) (s0 : ByteArray) (at1 : Int) : Option (S68 × Int) :=
chk (0 ≤ at1 ∧ at1 < (s0.size : Int)) <|
bif (((s0.data.toList.getD at1.toNat 0).toNat : Int) == 120) then
bif (decide ((IntKind.i64.wrap (at1 + 1)) < (s0.size : Int))) then
chk (0 ≤ (IntKind.i64.wrap (at1 + 1)) ∧ (IntKind.i64.wrap (at1 + 1)) < (s0.size : Int)) <|
let v_1 : Int := ((s0.data.toList.getD (IntKind.i64.wrap (at1 + 1)).toNat 0).toNat : Int)
bif (v_1 == 39) then
cadastreref19_token_j3 k (fun t5_7 t4_8 =>
some (t4_8, t5_7)) s0 at1 (⟨0, ByteArray.empty, 0⟩ : S68)
else
cadastreref19_token_j12 k (fun t5_36 t4_37 =>
some (t4_37, t5_36)) (fun t4_38 =>
some ((⟨0, ByteArray.empty, 0⟩ : S68), (-1))) s0 at1 ((s0.data.toList.getD at1.toNat 0).toNat : Int) (⟨0, ByteArray.empty, 0⟩ : S68)
else
cadastreref19_token_j12 k (fun t5_39 t4_40 =>
some (t4_40, t5_39)) (fun t4_41 =>
some ((⟨0, ByteArray.empty, 0⟩ : S68), (-1))) s0 at1 ((s0.data.toList.getD at1.toNat 0).toNat : Int) (⟨0, ByteArray.empty, 0⟩ : S68)
else
bif (((s0.data.toList.getD at1.toNat 0).toNat : Int) == 88) then
bif (decide ((IntKind.i64.wrap (at1 + 1)) < (s0.size : Int))) then
chk (0 ≤ (IntKind.i64.wrap (at1 + 1)) ∧ (IntKind.i64.wrap (at1 + 1)) < (s0.size : Int)) <|
let v_42 : Int := ((s0.data.toList.getD (IntKind.i64.wrap (at1 + 1)).toNat 0).toNat : Int)
bif (v_42 == 39) then
cadastreref19_token_j3 k (fun t5_43 t4_44 =>
some (t4_44, t5_43)) s0 at1 (⟨0, ByteArray.empty, 0⟩ : S68)
else
cadastreref19_token_j12 k (fun t5_45 t4_46 =>
some (t4_46, t5_45)) (fun t4_47 =>
some ((⟨0, ByteArray.empty, 0⟩ : S68), (-1))) s0 at1 ((s0.data.toList.getD at1.toNat 0).toNat : Int) (⟨0, ByteArray.empty, 0⟩ : S68)
else
cadastreref19_token_j12 k (fun t5_48 t4_49 =>
some (t4_49, t5_48)) (fun t4_50 =>
some ((⟨0, ByteArray.empty, 0⟩ : S68), (-1))) s0 at1 ((s0.data.toList.getD at1.toNat 0).toNat : Int) (⟨0, ByteArray.empty, 0⟩ : S68)
else
cadastreref19_token_j12 k (fun t5_51 t4_52 =>
some (t4_52, t5_51)) (fun t4_53 =>
some ((⟨0, ByteArray.empty, 0⟩ : S68), (-1))) s0 at1 ((s0.data.toList.getD at1.toNat 0).toNat : Int) (⟨0, ByteArray.empty, 0⟩ : S68)

noncomputable def cadastreref19_Tokens_l10_b {ρ : Type} (k : Nat) (kexit2 : ByteArray → List S68 → Bool → Int → Option ρ) (rec : ByteArray → (List S68) → Bool → Int → Option ρ) (s0 : ByteArray) (l4 : List S68) (long5 : Bool) (at6 : Int) : Option ρ :=
bif (decide (at6 < (s0.size : Int))) then
chk (0 ≤ at6 ∧ at6 < (s0.size : Int)) <|
bif (((s0.data.toList.getD at6.toNat 0).toNat : Int) != 10) then
rec s0 l4 long5 (IntKind.i64.wrap (at6 + 1))
else
kexit2 s0 l4 long5 at6
else
kexit2 s0 l4 long5 at6
noncomputable def cadastreref19_Tokens_l10 {ρ : Type} (k : Nat) (kexit2 : ByteArray → List S68 → Bool → Int → Option ρ) : Nat → ByteArray → (List S68) → Bool → Int → Option ρ
  | 0, _, _, _, _ => none
  | n + 1, s0, l4, long5, at6 => cadastreref19_Tokens_l10_b k kexit2 (cadastreref19_Tokens_l10 k kexit2 n) s0 l4 long5 at6

noncomputable def cadastreref19_Tokens_j10 {ρ : Type} (k : Nat) (kexit1 : ByteArray → List S68 → Bool → Int → Option ρ) (s0 : ByteArray) (l4 : List S68) (long5 : Bool) (at6 : Int) : Option ρ :=
cadastreref19_Tokens_l10 k kexit1 k s0 l4 long5 at6

noncomputable def cadastreref19_Tokens_j12 {ρ : Type} (k : Nat) (kret : List S68 → Int → Option ρ) (knxt : ByteArray → List S68 → Bool → Int → Option ρ) (s0 : ByteArray) (l4 : List S68) (long5 : Bool) (at6 : Int) : Option ρ :=
(cadastreref19_token k s0 at6).bind fun r_11 =>
bif (decide (r_11.2 < 0)) then
kret [] 1
else
bif long5 then
chk ((l4.length + [r_11.1].length) * 32 ≤ 140737488355328) <|
knxt s0 (l4 ++ [r_11.1]) true r_11.2
else
bif (r_11.1.f0 == 1) then
bif (decide ((r_11.1.f1.size : Int) > 32)) then
chk ((l4.length + [r_11.1].length) * 32 ≤ 140737488355328) <|
knxt s0 (l4 ++ [r_11.1]) true r_11.2
else
bif (decide (r_11.1.f0 > 2)) then
chk ((l4.length + [r_11.1].length) * 32 ≤ 140737488355328) <|
knxt s0 (l4 ++ [r_11.1]) (big (decide ((r_11.1.f1.size : Int) > 4096))) r_11.2
else
chk ((l4.length + [r_11.1].length) * 32 ≤ 140737488355328) <|
knxt s0 (l4 ++ [r_11.1]) false r_11.2
else
bif (decide (r_11.1.f0 > 2)) then
chk ((l4.length + [r_11.1].length) * 32 ≤ 140737488355328) <|
knxt s0 (l4 ++ [r_11.1]) (big (decide ((r_11.1.f1.size : Int) > 4096))) r_11.2
else
chk ((l4.length + [r_11.1].length) * 32 ≤ 140737488355328) <|
knxt s0 (l4 ++ [r_11.1]) false r_11.2

noncomputable def cadastreref19_Tokens_l6_b {ρ : Type} (k : Nat) (kret : List S68 → Int → Option ρ) (kexit0 : List S68 → Bool → Option ρ) (rec : ByteArray → (List S68) → Bool → Int → Option ρ) (s0 : ByteArray) (l4 : List S68) (long5 : Bool) (at6 : Int) : Option ρ :=
bif (decide (at6 < (s0.size : Int))) then
chk (0 ≤ at6 ∧ at6 < (s0.size : Int)) <|
(cadastreref19_Blank k ((s0.data.toList.getD at6.toNat 0).toNat : Int)).bind fun r_1 =>
bif r_1 then
rec s0 l4 long5 (IntKind.i64.wrap (at6 + 1))
else
chk (0 ≤ at6 ∧ at6 < (s0.size : Int)) <|
bif (((s0.data.toList.getD at6.toNat 0).toNat : Int) == 45) then
bif (decide ((IntKind.i64.wrap (at6 + 1)) < (s0.size : Int))) then
chk (0 ≤ (IntKind.i64.wrap (at6 + 1)) ∧ (IntKind.i64.wrap (at6 + 1)) < (s0.size : Int)) <|
let v_2 : Int := ((s0.data.toList.getD (IntKind.i64.wrap (at6 + 1)).toNat 0).toNat : Int)
bif (v_2 == 45) then
cadastreref19_Tokens_j10 k rec s0 l4 long5 at6
else
cadastreref19_Tokens_j12 k kret rec s0 l4 long5 at6
else
cadastreref19_Tokens_j12 k kret rec s0 l4 long5 at6
else
cadastreref19_Tokens_j12 k kret rec s0 l4 long5 at6
else
kexit0 l4 long5
noncomputable def cadastreref19_Tokens_l6 {ρ : Type} (k : Nat) (kret : List S68 → Int → Option ρ) (kexit0 : List S68 → Bool → Option ρ) : Nat → ByteArray → (List S68) → Bool → Int → Option ρ
  | 0, _, _, _, _ => none
  | n + 1, s0, l4, long5, at6 => cadastreref19_Tokens_l6_b k kret kexit0 (cadastreref19_Tokens_l6 k kret kexit0 n) s0 l4 long5 at6

/-- cadastre/cadastreref19.Tokens -/
noncomputable def cadastreref19_Tokens (k : Nat) (s0 : ByteArray) : Option ((List S68) × Int) :=
bif (big (decide ((s0.size : Int) > 8192))) then
some ([], 7)
else
cadastreref19_Tokens_l6 k (fun t2_30 t3_31 =>
some (t2_30, t3_31)) (fun l4_32 long5_33 =>
bif long5_33 then
some ([], 7)
else
some (l4_32, 0)) k s0 [] false 0

/-- cadastre/cadastrelaw19.num -/
noncomputable def cadastrelaw19_num (k : Nat) (e0 : Int) : Option Int :=
some e0

noncomputable def cadastreref0_EqTokens_l4_b {ρ : Type} (k : Nat) (kret : Bool → Option ρ) (kexit0 : Option ρ) (rec : (List S68) → (List S68) → Int → Option ρ) (a0 : List S68) (b1 : List S68) (i5 : Int) : Option ρ :=
bif (decide (i5 < (a0.length : Int))) then
chk (0 ≤ i5 ∧ i5 < (a0.length : Int)) <|
chk (0 ≤ i5 ∧ i5 < (b1.length : Int)) <|
let v_1 : Bool := (!(((a0.getD i5.toNat default).f0 == (b1.getD i5.toNat default).f0) && (((a0.getD i5.toNat default).f1 == (b1.getD i5.toNat default).f1) && ((a0.getD i5.toNat default).f2 == (b1.getD i5.toNat default).f2))))
bif v_1 then
kret false
else
rec a0 b1 (IntKind.i64.wrap (i5 + 1))
else
kexit0
noncomputable def cadastreref0_EqTokens_l4 {ρ : Type} (k : Nat) (kret : Bool → Option ρ) (kexit0 : Option ρ) : Nat → (List S68) → (List S68) → Int → Option ρ
  | 0, _, _, _ => none
  | n + 1, a0, b1, i5 => cadastreref0_EqTokens_l4_b k kret kexit0 (cadastreref0_EqTokens_l4 k kret kexit0 n) a0 b1 i5

/-- cadastre/cadastreref0.EqTokens -/
noncomputable def cadastreref0_EqTokens (k : Nat) (a0 : List S68) (b1 : List S68) : Option Bool :=
bif ((a0.length : Int) != (b1.length : Int)) then
some false
else
cadastreref0_EqTokens_l4 k (fun t4_2 =>
some t4_2) (some true) k a0 b1 0

noncomputable def cadastrelaw0_Tokens_o0_l1_b {ρ : Type} (k : Nat) (kexit0 : List S68 → Option ρ) (rec : (List S68) → Int → Option ρ) (l0 : List S68) (i2 : Int) : Option ρ :=
bif (decide (i2 < (l0.length : Int))) then
chk (0 ≤ i2 ∧ i2 < (l0.length : Int)) <|
chk (i2.toNat < l0.length) <|
rec (l0.set i2.toNat (⟨99, ByteArray.empty, 0⟩ : S68)) (IntKind.i64.wrap (i2 + 1))
else
kexit0 l0
noncomputable def cadastrelaw0_Tokens_o0_l1 {ρ : Type} (k : Nat) (kexit0 : List S68 → Option ρ) : Nat → (List S68) → Int → Option ρ
  | 0, _, _ => none
  | n + 1, l0, i2 => cadastrelaw0_Tokens_o0_l1_b k kexit0 (cadastrelaw0_Tokens_o0_l1 k kexit0 n) l0 i2

/-- cadastre/cadastrelaw0.Tokens -/
noncomputable def cadastrelaw0_Tokens_o0 (k : Nat) (l0 : List S68) : Option Unit :=
cadastrelaw0_Tokens_o0_l1 k (fun l0_1 =>
chk ((l0_1.length + [(⟨0, ByteArray.empty, 0⟩ : S68)].length) * 32 ≤ 140737488355328) <|
some ()) k l0 0

/-- cadastre/cadastrelaw19.wakes -/
noncomputable def cadastrelaw19_wakes (k : Nat) : Option Bool :=
(lex_Tokens k (⟨#[65, 32, 39, 98, 39]⟩ : ByteArray)).bind fun r_1 =>
(cadastrelaw19_num k r_1.2).bind fun r_2 =>
bif (r_2 == 0) then
(cadastreref0_EqTokens k r_1.1 [(⟨1, (⟨#[97]⟩ : ByteArray), 0⟩ : S68), (⟨3, (⟨#[98]⟩ : ByteArray), 0⟩ : S68)]).bind fun r_3 =>
some r_3
else
some false

noncomputable def cadastrelaw19_LexExact_j4 {ρ : Type} (k : Nat) (kret : Bool → Option ρ) (knxt : List ByteArray → Int → Option ρ) (l0 : List ByteArray) (i3 : Int) : Option ρ :=
chk (0 ≤ i3 ∧ i3 < (l0.length : Int)) <|
let v_1 : Bool := (big (decide (((l0.getD i3.toNat ByteArray.empty).size : Int) > 10000)))
bif v_1 then
kret true
else
chk (0 ≤ i3 ∧ i3 < (l0.length : Int)) <|
(lex_Tokens k (l0.getD i3.toNat ByteArray.empty)).bind fun r_2 =>
chk (0 ≤ i3 ∧ i3 < (l0.length : Int)) <|
(cadastreref19_Tokens k (l0.getD i3.toNat ByteArray.empty)).bind fun r_3 =>
(cadastrelaw19_num k r_2.2).bind fun r_4 =>
bif (r_4 != r_3.2) then
kret false
else
(cadastreref0_EqTokens k r_2.1 r_3.1).bind fun r_5 =>
bif (!r_5) then
kret false
else
(cadastrelaw0_Tokens_o0 k r_2.1).bind fun r_6 =>
knxt l0 (IntKind.i64.wrap (i3 + 1))

noncomputable def cadastrelaw19_LexExact_l2_b {ρ : Type} (k : Nat) (kret : Bool → Option ρ) (kexit0 : Option ρ) (rec : (List ByteArray) → Int → Option ρ) (l0 : List ByteArray) (i3 : Int) : Option ρ :=
bif (decide (i3 < (l0.length : Int))) then
bif (decide (i3 < 12)) then
cadastrelaw19_LexExact_j4 k kret rec l0 i3
else
kexit0
else
kexit0
noncomputable def cadastrelaw19_LexExact_l2 {ρ : Type} (k : Nat) (kret : Bool → Option ρ) (kexit0 : Option ρ) : Nat → (List ByteArray) → Int → Option ρ
  | 0, _, _ => none
  | n + 1, l0, i3 => cadastrelaw19_LexExact_l2_b k kret kexit0 (cadastrelaw19_LexExact_l2 k kret kexit0 n) l0 i3

/-- cadastre/cadastrelaw19.LexExact -/
noncomputable def cadastrelaw19_LexExact (k : Nat) (l0 : List ByteArray) : Option Bool :=
cadastrelaw19_LexExact_l2 k (fun t2_10 =>
some t2_10) ((cadastrelaw19_wakes k).bind fun r_11 =>
some r_11) k l0 0
end Go.Proofs.Ytekjibpkkgldgaa.X
