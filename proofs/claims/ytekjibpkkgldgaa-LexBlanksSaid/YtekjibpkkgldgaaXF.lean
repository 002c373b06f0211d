/-
  The program's functions as plain functions over plain data, as a program has printed them.
-/
import Derived.Test.YtekjibpkkgldgaaAxDef
import Derived.Lib.Bytealg
namespace Go.Proofs.Ytekjibpkkgldgaa.X
open Go Go.AX
/-- cadastre/api.Token -/
structure S68 where
  f0 : Int
  f1 : ByteArray
  f2 : Int
instance : Inhabited S68 := ⟨⟨0, ByteArray.empty, 0⟩⟩
/-- internal/stringslite.HasPrefix -/
noncomputable def stringslite_HasPrefix (k : Nat) (s0 : ByteArray) (prefix1 : ByteArray) : Option Bool :=
bif (decide ((s0.size : Int) ≥ (prefix1.size : Int))) then
chk (0 ≤ (0 : Int) ∧ (0 : Int) ≤ (prefix1.size : Int) ∧ (prefix1.size : Int) ≤ (s0.size : Int)) <|
let v_1 : Bool := ((s0.extract (0 : Int).toNat (prefix1.size : Int).toNat).toList == prefix1.toList)
some v_1
else
some false

/-- strings.HasPrefix -/
noncomputable def strings_HasPrefix (k : Nat) (s0 : ByteArray) (prefix1 : ByteArray) : Option Bool :=
(stringslite_HasPrefix k s0 prefix1).bind fun r_1 =>
some r_1

/-- cadastre/lex.skip$1 -/
noncomputable def lex_skip_1 (k : Nat) (c0 : Int) : Option Bool :=
bif (c0 == 9) then
some true
else
bif (c0 == 10) then
some true
else
bif (c0 == 13) then
some true
else
some (c0 == 32)

noncomputable def lex_span_f80_l1_b {ρ : Type} (k : Nat) (kexit0 : Int → Option ρ) (rec : ByteArray → Int → Option ρ) (s0 : ByteArray) (at1 : Int) : Option ρ :=
bif (decide (at1 < (s0.size : Int))) then
chk (0 ≤ at1 ∧ at1 < (s0.size : Int)) <|
(lex_skip_1 k ((s0.data.toList.getD at1.toNat 0).toNat : Int)).bind fun r_1 =>
bif r_1 then
rec s0 (IntKind.i64.wrap (at1 + 1))
else
kexit0 at1
else
kexit0 at1
noncomputable def lex_span_f80_l1 {ρ : Type} (k : Nat) (kexit0 : Int → Option ρ) : Nat → ByteArray → Int → Option ρ
  | 0, _, _ => none
  | n + 1, s0, at1 => lex_span_f80_l1_b k kexit0 (lex_span_f80_l1 k kexit0 n) s0 at1

/-- cadastre/lex.span -/
noncomputable def lex_span_f80 (k : Nat) (s0 : ByteArray) (at1 : Int) : Option Int :=
lex_span_f80_l1 k (fun at1_2 =>
some at1_2) k s0 at1

/-- cadastre/lex.skip$2 -/
noncomputable def lex_skip_2 (k : Nat) (c0 : Int) : Option Bool :=
some (c0 != 10)

noncomputable def lex_span_f82_l1_b {ρ : Type} (k : Nat) (kexit0 : Int → Option ρ) (rec : ByteArray → Int → Option ρ) (s0 : ByteArray) (at1 : Int) : Option ρ :=
bif (decide (at1 < (s0.size : Int))) then
chk (0 ≤ at1 ∧ at1 < (s0.size : Int)) <|
(lex_skip_2 k ((s0.data.toList.getD at1.toNat 0).toNat : Int)).bind fun r_1 =>
bif r_1 then
rec s0 (IntKind.i64.wrap (at1 + 1))
else
kexit0 at1
else
kexit0 at1
noncomputable def lex_span_f82_l1 {ρ : Type} (k : Nat) (kexit0 : Int → Option ρ) : Nat → ByteArray → Int → Option ρ
  | 0, _, _ => none
  | n + 1, s0, at1 => lex_span_f82_l1_b k kexit0 (lex_span_f82_l1 k kexit0 n) s0 at1

/-- cadastre/lex.span -/
noncomputable def lex_span_f82 (k : Nat) (s0 : ByteArray) (at1 : Int) : Option Int :=
lex_span_f82_l1 k (fun at1_2 =>
some at1_2) k s0 at1

noncomputable def lex_skip_j1 {ρ : Type} (k : Nat) (kgoto0 : ByteArray → Int → Option ρ) (kret : Int → Option ρ) (s0 : ByteArray) (at1 : Int) : Option ρ :=
(lex_span_f80 k s0 at1).bind fun r_1 =>
chk (0 ≤ r_1 ∧ r_1 ≤ (s0.size : Int) ∧ (s0.size : Int) ≤ (s0.size : Int)) <|
(strings_HasPrefix k (s0.extract r_1.toNat (s0.size : Int).toNat) (⟨#[45, 45]⟩ : ByteArray)).bind fun r_2 =>
bif r_2 then
(lex_span_f82 k s0 r_1).bind fun r_3 =>
kgoto0 s0 r_3
else
kret r_1

noncomputable def lex_skip_g0_b {ρ : Type} (k : Nat) (kret : Int → Option ρ) (rec : ByteArray → Int → Option ρ) (s0 : ByteArray) (at1 : Int) : Option ρ :=
lex_skip_j1 k rec kret s0 at1
noncomputable def lex_skip_g0 {ρ : Type} (k : Nat) (kret : Int → Option ρ) : Nat → ByteArray → Int → Option ρ
  | 0, _, _ => none
  | n + 1, s0, at1 => lex_skip_g0_b k kret (lex_skip_g0 k kret n) s0 at1

/-- cadastre/lex.skip -/
noncomputable def lex_skip (k : Nat) (s0 : ByteArray) (at1 : Int) : Option Int :=
lex_skip_j1 k (fun s0_4 at1_5 =>
lex_skip_g0 k (fun t4_9 =>
some t4_9) k s0_4 at1_5) (fun t4_10 =>
some t4_10) s0 at1

/-- cadastre/lex.letter -/
noncomputable def lex_letter (k : Nat) (c0 : Int) : Option Bool :=
bif (decide (c0 ≥ 97)) then
bif (decide (c0 ≤ 122)) then
some true
else
bif (decide (c0 ≥ 65)) then
bif (decide (c0 ≤ 90)) then
some true
else
some (c0 == 95)
else
some (c0 == 95)
else
bif (decide (c0 ≥ 65)) then
bif (decide (c0 ≤ 90)) then
some true
else
some (c0 == 95)
else
some (c0 == 95)

/-- cadastre/lex.digit -/
noncomputable def lex_digit (k : Nat) (c0 : Int) : Option Bool :=
bif (decide (c0 ≥ 48)) then
some (decide (c0 ≤ 57))
else
some false

/-- internal/stringslite.IndexByte -/
noncomputable def stringslite_IndexByte (_ : Nat) (s0 : ByteArray) (c1 : Int) : Option Int :=
some (Lib.indexByte s0.data.toList c1.toNat.toUInt8)

/-- strings.IndexByte -/
noncomputable def strings_IndexByte (k : Nat) (s0 : ByteArray) (c1 : Int) : Option Int :=
(stringslite_IndexByte k s0 c1).bind fun r_1 =>
some r_1

noncomputable def lex_mark_j9 {ρ : Type} (k : Nat) (kret : Int → Option ρ) (s0 : ByteArray) : Option ρ :=
chk (0 ≤ (0 : Int) ∧ (0 : Int) < (s0.size : Int)) <|
(strings_IndexByte k (⟨#[40, 41, 44, 46, 59, 42, 43, 45, 47, 37, 61, 60, 62]⟩ : ByteArray) ((s0.data.toList.getD 0 0).toNat : Int)).bind fun r_6 =>
bif (decide (r_6 ≥ 0)) then
kret 1
else
kret 0

/-- cadastre/lex.mark -/
noncomputable def lex_mark (k : Nat) (s0 : ByteArray) : Option Int :=
bif (decide ((s0.size : Int) ≥ 2)) then
chk (0 ≤ (0 : Int) ∧ (0 : Int) ≤ 2 ∧ (2 : Int) ≤ (s0.size : Int)) <|
let v_1 : Bool := ((s0.extract (0 : Int).toNat (2 : Int).toNat).toList == (⟨#[124, 124]⟩ : ByteArray).toList)
bif v_1 then
some 2
else
let v_2 : Bool := ((s0.extract (0 : Int).toNat (2 : Int).toNat).toList == (⟨#[60, 62]⟩ : ByteArray).toList)
bif v_2 then
some 2
else
let v_3 : Bool := ((s0.extract (0 : Int).toNat (2 : Int).toNat).toList == (⟨#[33, 61]⟩ : ByteArray).toList)
bif v_3 then
some 2
else
let v_4 : Bool := ((s0.extract (0 : Int).toNat (2 : Int).toNat).toList == (⟨#[60, 61]⟩ : ByteArray).toList)
bif v_4 then
some 2
else
let v_5 : Bool := ((s0.extract (0 : Int).toNat (2 : Int).toNat).toList == (⟨#[62, 61]⟩ : ByteArray).toList)
bif v_5 then
some 2
else
lex_mark_j9 k (fun t2_7 =>
some t2_7) s0
else
lex_mark_j9 k (fun t2_8 =>
some t2_8) s0

noncomputable def lex_nibble_j5 {ρ : Type} (k : Nat) (kret : Int → Bool → Option ρ) (knxt : Option ρ) (c0 : Int) : Option ρ :=
bif (decide (c0 ≥ 65)) then
bif (decide (c0 ≤ 70)) then
kret (IntKind.u8.wrap ((IntKind.u8.wrap (c0 - 65)) + 10)) true
else
knxt
else
knxt

/-- cadastre/lex.nibble -/
noncomputable def lex_nibble (k : Nat) (c0 : Int) : Option (Int × Bool) :=
(lex_digit k c0).bind fun r_1 =>
bif r_1 then
some ((IntKind.u8.wrap (c0 - 48)), true)
else
bif (decide (c0 ≥ 97)) then
bif (decide (c0 ≤ 102)) then
some ((IntKind.u8.wrap ((IntKind.u8.wrap (c0 - 97)) + 10)), true)
else
lex_nibble_j5 k (fun t2_2 t3_3 =>
some (t2_2, t3_3)) (some (0, false)) c0
else
lex_nibble_j5 k (fun t2_4 t3_5 =>
some (t2_4, t3_5)) (some (0, false)) c0

noncomputable def lex_blob_l6_b {ρ : Type} (k : Nat) (kret : ByteArray → Int → Bool → Option ρ) (kexit0 : Int → Int → List Int → Option ρ) (rec : ByteArray → Int → Int → (List Int) → Int → Option ρ) (s0 : ByteArray) (at1 : Int) (n7 : Int) (b8 : List Int) (k9 : Int) : Option ρ :=
bif (decide (k9 < (IntKind.i64.wrap (at1 + n7)))) then
chk (0 ≤ k9 ∧ k9 < (s0.size : Int)) <|
(lex_nibble k ((s0.data.toList.getD k9.toNat 0).toNat : Int)).bind fun r_2 =>
chk (0 ≤ (IntKind.i64.wrap (k9 + 1)) ∧ (IntKind.i64.wrap (k9 + 1)) < (s0.size : Int)) <|
let v_3 : Int := ((s0.data.toList.getD (IntKind.i64.wrap (k9 + 1)).toNat 0).toNat : Int)
(lex_nibble k v_3).bind fun r_4 =>
bif (!r_2.2) then
kret ByteArray.empty 0 false
else
bif (!r_4.2) then
kret ByteArray.empty 0 false
else
let v_5 : Int := (IntKind.u8.wrap (r_2.1 * 2 ^ (min (4 : Int).toNat (IntKind.u8).bits)))
let v_6 : Int := (IntKind.u8.wrap (BitVec.ofInt (IntKind.u8).bits v_5 ||| BitVec.ofInt (IntKind.u8).bits r_4.1).toNat)
chk ((b8.length + [v_6].length) * 1 ≤ 140737488355328) <|
rec s0 at1 n7 (b8 ++ [v_6]) (IntKind.i64.wrap (k9 + 2))
else
kexit0 at1 n7 b8
noncomputable def lex_blob_l6 {ρ : Type} (k : Nat) (kret : ByteArray → Int → Bool → Option ρ) (kexit0 : Int → Int → List Int → Option ρ) : Nat → ByteArray → Int → Int → (List Int) → Int → Option ρ
  | 0, _, _, _, _, _ => none
  | n + 1, s0, at1, n7, b8, k9 => lex_blob_l6_b k kret kexit0 (lex_blob_l6 k kret kexit0 n) s0 at1 n7 b8 k9

noncomputable def lex_blob_j4 {ρ : Type} (k : Nat) (kret : ByteArray → Int → Bool → Option ρ) (s0 : ByteArray) (at1 : Int) (n7 : Int) : Option ρ :=
lex_blob_l6 k kret (fun at1_10 n7_11 b8_12 =>
kret (strOfNums b8_12) (IntKind.i64.wrap ((IntKind.i64.wrap (at1_10 + n7_11)) + 1)) true) k s0 at1 n7 [] at1

/-- cadastre/lex.blob -/
noncomputable def lex_blob (k : Nat) (s0 : ByteArray) (at1 : Int) : Option (ByteArray × Int × Bool) :=
chk (0 ≤ at1 ∧ at1 ≤ (s0.size : Int) ∧ (s0.size : Int) ≤ (s0.size : Int)) <|
(strings_IndexByte k (s0.extract at1.toNat (s0.size : Int).toNat) 39).bind fun r_1 =>
bif (decide (r_1 < 0)) then
some (ByteArray.empty, 0, false)
else
bif ((Int.tmod r_1 2) != 0) then
some (ByteArray.empty, 0, false)
else
lex_blob_j4 k (fun text4_13 end5_14 ok6_15 =>
some (text4_13, end5_14, ok6_15)) s0 at1 r_1

noncomputable def lex_Small_l3_b {ρ : Type} (k : Nat) (kexit0 : List Int → Option ρ) (rec : (List Int) → Int → Int → Option ρ) (b3 : List Int) (t9 : Int) (t10 : Int) : Option ρ :=
bif (decide (t10 < t9)) then
chk (0 ≤ t10 ∧ t10 < (b3.length : Int)) <|
bif (decide ((b3.getD t10.toNat 0) ≥ 65)) then
bif (decide ((b3.getD t10.toNat 0) ≤ 90)) then
let v_1 : Int := (IntKind.u8.wrap ((IntKind.u8.wrap ((b3.getD t10.toNat 0) + 97)) - 65))
chk (0 ≤ t10 ∧ t10 < (b3.length : Int)) <|
chk (t10.toNat < b3.length) <|
rec (b3.set t10.toNat v_1) t9 (IntKind.i64.wrap (t10 + 1))
else
rec b3 t9 (IntKind.i64.wrap (t10 + 1))
else
rec b3 t9 (IntKind.i64.wrap (t10 + 1))
else
kexit0 b3
noncomputable def lex_Small_l3 {ρ : Type} (k : Nat) (kexit0 : List Int → Option ρ) : Nat → (List Int) → Int → Int → Option ρ
  | 0, _, _, _ => none
  | n + 1, b3, t9, t10 => lex_Small_l3_b k kexit0 (lex_Small_l3 k kexit0 n) b3 t9 t10

/-- cadastre/lex.Small -/
noncomputable def lex_Small (k : Nat) (s0 : ByteArray) : Option ByteArray :=
lex_Small_l3 k (fun b3_2 =>
some (strOfNums b3_2)) k (bytesOf s0) ((bytesOf s0).length : Int) 0

noncomputable def lex_integer_l2_b {ρ : Type} (k : Nat) (kret : Int → Bool → Option ρ) (kexit0 : Int → Option ρ) (rec : ByteArray → Int → Int → Int → Option ρ) (s0 : ByteArray) (n2 : Int) (t7 : Int) (t8 : Int) : Option ρ :=
bif (decide (t8 < t7)) then
chk (0 ≤ t8 ∧ t8 < (s0.size : Int)) <|
let v_1 : Int := (IntKind.u8.wrap (((s0.data.toList.getD t8.toNat 0).toNat : Int) - 48))
let v_2 : Int := (IntKind.i64.wrap (Int.tdiv (IntKind.i64.wrap (9223372036854775807 - (IntKind.i64.wrap v_1))) 10))
bif (decide (n2 > v_2)) then
kret 0 false
else
let v_3 : Int := (IntKind.i64.wrap ((IntKind.i64.wrap (10 * n2)) + (IntKind.i64.wrap v_1)))
rec s0 v_3 t7 (IntKind.i64.wrap (t8 + 1))
else
kexit0 n2
noncomputable def lex_integer_l2 {ρ : Type} (k : Nat) (kret : Int → Bool → Option ρ) (kexit0 : Int → Option ρ) : Nat → ByteArray → Int → Int → Int → Option ρ
  | 0, _, _, _, _ => none
  | n + 1, s0, n2, t7, t8 => lex_integer_l2_b k kret kexit0 (lex_integer_l2 k kret kexit0 n) s0 n2 t7 t8

/-- cadastre/lex.integer -/
noncomputable def lex_integer (k : Nat) (s0 : ByteArray) : Option (Int × Bool) :=
lex_integer_l2 k (fun n2_4 ok3_5 =>
some (n2_4, ok3_5)) (fun n2_6 =>
some (n2_6, true)) k s0 0 (s0.size : Int) 0

noncomputable def lex_quoted_j2 {ρ : Type} (k : Nat) (kret : ByteArray → Int → Bool → Option ρ) (kgoto0 : ByteArray → Int → List Int → Option ρ) (s0 : ByteArray) (at1 : Int) (b7 : List Int) : Option ρ :=
bif (at1 == (s0.size : Int)) then
kret ByteArray.empty 0 false
else
chk (0 ≤ at1 ∧ at1 < (s0.size : Int)) <|
bif (((s0.data.toList.getD at1.toNat 0).toNat : Int) != 39) then
chk (0 ≤ at1 ∧ at1 < (s0.size : Int)) <|
chk ((b7.length + [((s0.data.toList.getD at1.toNat 0).toNat : Int)].length) * 1 ≤ 140737488355328) <|
kgoto0 s0 (IntKind.i64.wrap (at1 + 1)) (b7 ++ [((s0.data.toList.getD at1.toNat 0).toNat : Int)])
else
bif (decide ((IntKind.i64.wrap (at1 + 1)) < (s0.size : Int))) then
chk (0 ≤ (IntKind.i64.wrap (at1 + 1)) ∧ (IntKind.i64.wrap (at1 + 1)) < (s0.size : Int)) <|
let v_1 : Int := ((s0.data.toList.getD (IntKind.i64.wrap (at1 + 1)).toNat 0).toNat : Int)
bif (v_1 == 39) then
chk ((b7.length + [39].length) * 1 ≤ 140737488355328) <|
kgoto0 s0 (IntKind.i64.wrap (at1 + 2)) (b7 ++ [39])
else
kret (strOfNums b7) (IntKind.i64.wrap (at1 + 1)) true
else
kret (strOfNums b7) (IntKind.i64.wrap (at1 + 1)) true

noncomputable def lex_quoted_g0_b {ρ : Type} (k : Nat) (kret : ByteArray → Int → Bool → Option ρ) (rec : ByteArray → Int → (List Int) → Option ρ) (s0 : ByteArray) (at1 : Int) (b7 : List Int) : Option ρ :=
lex_quoted_j2 k kret rec s0 at1 b7
noncomputable def lex_quoted_g0 {ρ : Type} (k : Nat) (kret : ByteArray → Int → Bool → Option ρ) : Nat → ByteArray → Int → (List Int) → Option ρ
  | 0, _, _, _ => none
  | n + 1, s0, at1, b7 => lex_quoted_g0_b k kret (lex_quoted_g0 k kret n) s0 at1 b7

/-- cadastre/lex.quoted -/
noncomputable def lex_quoted (k : Nat) (s0 : ByteArray) (at1 : Int) : Option (ByteArray × Int × Bool) :=
lex_quoted_j2 k (fun text4_2 end5_3 ok6_4 =>
some (text4_2, end5_3, ok6_4)) (fun s0_5 at1_6 b7_7 =>
lex_quoted_g0 k (fun text4_14 end5_15 ok6_16 =>
some (text4_14, end5_15, ok6_16)) k s0_5 at1_6 b7_7) s0 at1 []

/-- cadastre/lex.token$1 -/
noncomputable def lex_token_1 (k : Nat) (c0 : Int) : Option Bool :=
(lex_letter k c0).bind fun r_1 =>
bif r_1 then
some true
else
(lex_digit k c0).bind fun r_2 =>
some r_2

noncomputable def lex_span_f87_l1_b {ρ : Type} (k : Nat) (kexit0 : Int → Option ρ) (rec : ByteArray → Int → Option ρ) (s0 : ByteArray) (at1 : Int) : Option ρ :=
bif (decide (at1 < (s0.size : Int))) then
chk (0 ≤ at1 ∧ at1 < (s0.size : Int)) <|
(lex_token_1 k ((s0.data.toList.getD at1.toNat 0).toNat : Int)).bind fun r_1 =>
bif r_1 then
rec s0 (IntKind.i64.wrap (at1 + 1))
else
kexit0 at1
else
kexit0 at1
noncomputable def lex_span_f87_l1 {ρ : Type} (k : Nat) (kexit0 : Int → Option ρ) : Nat → ByteArray → Int → Option ρ
  | 0, _, _ => none
  | n + 1, s0, at1 => lex_span_f87_l1_b k kexit0 (lex_span_f87_l1 k kexit0 n) s0 at1

/-- cadastre/lex.span -/
noncomputable def lex_span_f87 (k : Nat) (s0 : ByteArray) (at1 : Int) : Option Int :=
lex_span_f87_l1 k (fun at1_2 =>
some at1_2) k s0 at1

noncomputable def lex_span_f84_l1_b {ρ : Type} (k : Nat) (kexit0 : Int → Option ρ) (rec : ByteArray → Int → Option ρ) (s0 : ByteArray) (at1 : Int) : Option ρ :=
bif (decide (at1 < (s0.size : Int))) then
chk (0 ≤ at1 ∧ at1 < (s0.size : Int)) <|
(lex_digit k ((s0.data.toList.getD at1.toNat 0).toNat : Int)).bind fun r_1 =>
bif r_1 then
rec s0 (IntKind.i64.wrap (at1 + 1))
else
kexit0 at1
else
kexit0 at1
noncomputable def lex_span_f84_l1 {ρ : Type} (k : Nat) (kexit0 : Int → Option ρ) : Nat → ByteArray → Int → Option ρ
  | 0, _, _ => none
  | n + 1, s0, at1 => lex_span_f84_l1_b k kexit0 (lex_span_f84_l1 k kexit0 n) s0 at1

/-- cadastre/lex.span -/
noncomputable def lex_span_f84 (k : Nat) (s0 : ByteArray) (at1 : Int) : Option Int :=
lex_span_f84_l1 k (fun at1_2 =>
some at1_2) k s0 at1

noncomputable def lex_token_j3 {ρ : Type} (k : Nat) (kgoto1 : ByteArray → Int → S68 → Option ρ) (kgoto2 : ByteArray → Int → S68 → Option ρ) (kgoto3 : ByteArray → Int → S68 → Option ρ) (kret : Int → Bool → S68 → Option ρ) (s0 : ByteArray) (at1 : Int) (c7 : Int) (t4 : S68) : Option ρ :=
(lex_letter k c7).bind fun r_3 =>
bif r_3 then
kgoto1 s0 at1 t4
else
(lex_digit k c7).bind fun r_4 =>
bif r_4 then
kgoto2 s0 at1 t4
else
bif (c7 == 39) then
kgoto3 s0 at1 t4
else
chk (0 ≤ at1 ∧ at1 ≤ (s0.size : Int) ∧ (s0.size : Int) ≤ (s0.size : Int)) <|
(lex_mark k (s0.extract at1.toNat (s0.size : Int).toNat)).bind fun r_5 =>
bif (decide (r_5 > 0)) then
chk (0 ≤ at1 ∧ at1 ≤ (IntKind.i64.wrap (at1 + r_5)) ∧ (IntKind.i64.wrap (at1 + r_5)) ≤ (s0.size : Int)) <|
let v_6 : Bool := ((s0.extract at1.toNat (IntKind.i64.wrap (at1 + r_5)).toNat).toList == (⟨#[33, 61]⟩ : ByteArray).toList)
bif v_6 then
kret (IntKind.i64.wrap (at1 + r_5)) true (⟨5, (⟨#[60, 62]⟩ : ByteArray), 0⟩ : S68)
else
kret (IntKind.i64.wrap (at1 + r_5)) true (⟨5, (s0.extract at1.toNat (IntKind.i64.wrap (at1 + r_5)).toNat), 0⟩ : S68)
else
kret 0 false (⟨0, ByteArray.empty, 0⟩ : S68)

/-- cadastre/lex.token -/
noncomputable def lex_token (k : Nat) (s0 : ByteArray) (at1 : Int) : Option (S68 × Int × Bool) :=
chk (0 ≤ at1 ∧ at1 < (s0.size : Int)) <|
bif (((s0.data.toList.getD at1.toNat 0).toNat : Int) == 120) then
bif (decide ((IntKind.i64.wrap (at1 + 1)) < (s0.size : Int))) then
chk (0 ≤ (IntKind.i64.wrap (at1 + 1)) ∧ (IntKind.i64.wrap (at1 + 1)) < (s0.size : Int)) <|
let v_1 : Int := ((s0.data.toList.getD (IntKind.i64.wrap (at1 + 1)).toNat 0).toNat : Int)
bif (v_1 == 39) then
(lex_blob k s0 (IntKind.i64.wrap (at1 + 2))).bind fun r_2 =>
some ((⟨4, r_2.1, 0⟩ : S68), r_2.2.1, r_2.2.2)
else
lex_token_j3 k (fun s0_7 at1_8 t4_9 =>
(lex_span_f87 k s0_7 at1_8).bind fun r_10 =>
chk (0 ≤ at1_8 ∧ at1_8 ≤ r_10 ∧ r_10 ≤ (s0_7.size : Int)) <|
(lex_Small k (s0_7.extract at1_8.toNat r_10.toNat)).bind fun r_11 =>
some ((⟨1, r_11, 0⟩ : S68), r_10, true)) (fun s0_12 at1_13 t4_14 =>
(lex_span_f84 k s0_12 at1_13).bind fun r_15 =>
chk (0 ≤ at1_13 ∧ at1_13 ≤ r_15 ∧ r_15 ≤ (s0_12.size : Int)) <|
(lex_integer k (s0_12.extract at1_13.toNat r_15.toNat)).bind fun r_16 =>
some ((⟨2, t4_14.f1, r_16.1⟩ : S68), r_15, r_16.2)) (fun s0_17 at1_18 t4_19 =>
(lex_quoted k s0_17 (IntKind.i64.wrap (at1_18 + 1))).bind fun r_20 =>
some ((⟨3, r_20.1, t4_19.f2⟩ : S68), r_20.2.1, r_20.2.2)) (fun end5_21 ok6_22 t4_23 =>
some (t4_23, end5_21, ok6_22)) s0 at1 ((s0.data.toList.getD at1.toNat 0).toNat : Int) (⟨0, ByteArray.empty, 0⟩ : S68)
else
lex_token_j3 k (fun s0_24 at1_25 t4_26 =>
(lex_span_f87 k s0_24 at1_25).bind fun r_27 =>
chk (0 ≤ at1_25 ∧ at1_25 ≤ r_27 ∧ r_27 ≤ (s0_24.size : Int)) <|
(lex_Small k (s0_24.extract at1_25.toNat r_27.toNat)).bind fun r_28 =>
some ((⟨1, r_28, 0⟩ : S68), r_27, true)) (fun s0_29 at1_30 t4_31 =>
(lex_span_f84 k s0_29 at1_30).bind fun r_32 =>
chk (0 ≤ at1_30 ∧ at1_30 ≤ r_32 ∧ r_32 ≤ (s0_29.size : Int)) <|
(lex_integer k (s0_29.extract at1_30.toNat r_32.toNat)).bind fun r_33 =>
some ((⟨2, t4_31.f1, r_33.1⟩ : S68), r_32, r_33.2)) (fun s0_34 at1_35 t4_36 =>
(lex_quoted k s0_34 (IntKind.i64.wrap (at1_35 + 1))).bind fun r_37 =>
some ((⟨3, r_37.1, t4_36.f2⟩ : S68), r_37.2.1, r_37.2.2)) (fun end5_38 ok6_39 t4_40 =>
some (t4_40, end5_38, ok6_39)) s0 at1 ((s0.data.toList.getD at1.toNat 0).toNat : Int) (⟨0, ByteArray.empty, 0⟩ : S68)
else
bif (((s0.data.toList.getD at1.toNat 0).toNat : Int) == 88) then
bif (decide ((IntKind.i64.wrap (at1 + 1)) < (s0.size : Int))) then
chk (0 ≤ (IntKind.i64.wrap (at1 + 1)) ∧ (IntKind.i64.wrap (at1 + 1)) < (s0.size : Int)) <|
let v_41 : Int := ((s0.data.toList.getD (IntKind.i64.wrap (at1 + 1)).toNat 0).toNat : Int)
bif (v_41 == 39) then
(lex_blob k s0 (IntKind.i64.wrap (at1 + 2))).bind fun r_42 =>
some ((⟨4, r_42.1, 0⟩ : S68), r_42.2.1, r_42.2.2)
else
lex_token_j3 k (fun s0_43 at1_44 t4_45 =>
(lex_span_f87 k s0_43 at1_44).bind fun r_46 =>
chk (0 ≤ at1_44 ∧ at1_44 ≤ r_46 ∧ r_46 ≤ (s0_43.size : Int)) <|
(lex_Small k (s0_43.extract at1_44.toNat r_46.toNat)).bind fun r_47 =>
some ((⟨1, r_47, 0⟩ : S68), r_46, true)) (fun s0_48 at1_49 t4_50 =>
(lex_span_f84 k s0_48 at1_49).bind fun r_51 =>
chk (0 ≤ at1_49 ∧ at1_49 ≤ r_51 ∧ r_51 ≤ (s0_48.size : Int)) <|
(lex_integer k (s0_48.extract at1_49.toNat r_51.toNat)).bind fun r_52 =>
some ((⟨2, t4_50.f1, r_52.1⟩ : S68), r_51, r_52.2)) (fun s0_53 at1_54 t4_55 =>
(lex_quoted k s0_53 (IntKind.i64.wrap (at1_54 + 1))).bind fun r_56 =>
some ((⟨3, r_56.1, t4_55.f2⟩ : S68), r_56.2.1, r_56.2.2)) (fun end5_57 ok6_58 t4_59 =>
some (t4_59, end5_57, ok6_58)) s0 at1 ((s0.data.toList.getD at1.toNat 0).toNat : Int) (⟨0, ByteArray.empty, 0⟩ : S68)
else
lex_token_j3 k (fun s0_60 at1_61 t4_62 =>
(lex_span_f87 k s0_60 at1_61).bind fun r_63 =>
chk (0 ≤ at1_61 ∧ at1_61 ≤ r_63 ∧ r_63 ≤ (s0_60.size : Int)) <|
(lex_Small k (s0_60.extract at1_61.toNat r_63.toNat)).bind fun r_64 =>
some ((⟨1, r_64, 0⟩ : S68), r_63, true)) (fun s0_65 at1_66 t4_67 =>
(lex_span_f84 k s0_65 at1_66).bind fun r_68 =>
chk (0 ≤ at1_66 ∧ at1_66 ≤ r_68 ∧ r_68 ≤ (s0_65.size : Int)) <|
(lex_integer k (s0_65.extract at1_66.toNat r_68.toNat)).bind fun r_69 =>
some ((⟨2, t4_67.f1, r_69.1⟩ : S68), r_68, r_69.2)) (fun s0_70 at1_71 t4_72 =>
(lex_quoted k s0_70 (IntKind.i64.wrap (at1_71 + 1))).bind fun r_73 =>
some ((⟨3, r_73.1, t4_72.f2⟩ : S68), r_73.2.1, r_73.2.2)) (fun end5_74 ok6_75 t4_76 =>
some (t4_76, end5_74, ok6_75)) s0 at1 ((s0.data.toList.getD at1.toNat 0).toNat : Int) (⟨0, ByteArray.empty, 0⟩ : S68)
else
lex_token_j3 k (fun s0_77 at1_78 t4_79 =>
(lex_span_f87 k s0_77 at1_78).bind fun r_80 =>
chk (0 ≤ at1_78 ∧ at1_78 ≤ r_80 ∧ r_80 ≤ (s0_77.size : Int)) <|
(lex_Small k (s0_77.extract at1_78.toNat r_80.toNat)).bind fun r_81 =>
some ((⟨1, r_81, 0⟩ : S68), r_80, true)) (fun s0_82 at1_83 t4_84 =>
(lex_span_f84 k s0_82 at1_83).bind fun r_85 =>
chk (0 ≤ at1_83 ∧ at1_83 ≤ r_85 ∧ r_85 ≤ (s0_82.size : Int)) <|
(lex_integer k (s0_82.extract at1_83.toNat r_85.toNat)).bind fun r_86 =>
some ((⟨2, t4_84.f1, r_86.1⟩ : S68), r_85, r_86.2)) (fun s0_87 at1_88 t4_89 =>
(lex_quoted k s0_87 (IntKind.i64.wrap (at1_88 + 1))).bind fun r_90 =>
some ((⟨3, r_90.1, t4_89.f2⟩ : S68), r_90.2.1, r_90.2.2)) (fun end5_91 ok6_92 t4_93 =>
some (t4_93, end5_91, ok6_92)) s0 at1 ((s0.data.toList.getD at1.toNat 0).toNat : Int) (⟨0, ByteArray.empty, 0⟩ : S68)

/-- cadastre/lex.long -/
noncomputable def lex_long (k : Nat) (t0 : S68) : Option Bool :=
bif (t0.f0 == 1) then
some (decide ((t0.f1.size : Int) > 32))
else
some (big (decide ((t0.f1.size : Int) > 4096)))

noncomputable def lex_Tokens_l6_b {ρ : Type} (k : Nat) (kret : List S68 → Int → Option ρ) (kexit0 : List S68 → Int → Option ρ) (rec : ByteArray → (List S68) → Int → Int → Option ρ) (s0 : ByteArray) (l4 : List S68) (e5 : Int) (at6 : Int) : Option ρ :=
bif (decide (at6 < (s0.size : Int))) then
(lex_token k s0 at6).bind fun r_2 =>
bif (!r_2.2.2) then
kret [] 1
else
(lex_long k r_2.1).bind fun r_3 =>
bif r_3 then
chk ((l4.length + [r_2.1].length) * 32 ≤ 140737488355328) <|
(lex_skip k s0 r_2.2.1).bind fun r_4 =>
rec s0 (l4 ++ [r_2.1]) 7 r_4
else
chk ((l4.length + [r_2.1].length) * 32 ≤ 140737488355328) <|
(lex_skip k s0 r_2.2.1).bind fun r_5 =>
rec s0 (l4 ++ [r_2.1]) e5 r_5
else
kexit0 l4 e5
noncomputable def lex_Tokens_l6 {ρ : Type} (k : Nat) (kret : List S68 → Int → Option ρ) (kexit0 : List S68 → Int → Option ρ) : Nat → ByteArray → (List S68) → Int → Int → Option ρ
  | 0, _, _, _, _ => none
  | n + 1, s0, l4, e5, at6 => lex_Tokens_l6_b k kret kexit0 (lex_Tokens_l6 k kret kexit0 n) s0 l4 e5 at6

/-- cadastre/lex.Tokens -/
noncomputable def lex_Tokens (k : Nat) (s0 : ByteArray) : Option ((List S68) × Int) :=
bif (big (decide ((s0.size : Int) > 8192))) then
some ([], 7)
else
(lex_skip k s0 0).bind fun r_1 =>
lex_Tokens_l6 k (fun t2_6 t3_7 =>
some (t2_6, t3_7)) (fun l4_8 e5_9 =>
bif (e5_9 != 0) then
some ([], e5_9)
else
some (l4_8, 0)) k s0 [] 0 r_1

/-- cadastre/cadastrelaw19.num -/
noncomputable def cadastrelaw19_num (k : Nat) (e0 : Int) : Option Int :=
some e0

noncomputable def cadastreref0_EqTokens_l4_b {ρ : Type} (k : Nat) (kret : Bool → Option ρ) (kexit0 : Option ρ) (rec : (List S68) → (List S68) → Int → Option ρ) (a0 : List S68) (b1 : List S68) (i5 : Int) : Option ρ :=
bif (decide (i5 < (a0.length : Int))) then
chk (0 ≤ i5 ∧ i5 < (a0.length : Int)) <|
chk (0 ≤ i5 ∧ i5 < (b1.length : Int)) <|
let v_1 : Bool := (!(((a0.getD i5.toNat default).f0 == (b1.getD i5.toNat default).f0) && (((a0.getD i5.toNat default).f1 == (b1.getD i5.toNat default).f1) && ((a0.getD i5.toNat default).f2 == (b1.getD i5.toNat default).f2))))
bif v_1 then
kret false
else
rec a0 b1 (IntKind.i64.wrap (i5 + 1))
else
kexit0
noncomputable def cadastreref0_EqTokens_l4 {ρ : Type} (k : Nat) (kret : Bool → Option ρ) (kexit0 : Option ρ) : Nat → (List S68) → (List S68) → Int → Option ρ
  | 0, _, _, _ => none
  | n + 1, a0, b1, i5 => cadastreref0_EqTokens_l4_b k kret kexit0 (cadastreref0_EqTokens_l4 k kret kexit0 n) a0 b1 i5

/-- cadastre/cadastreref0.EqTokens -/
noncomputable def cadastreref0_EqTokens (k : Nat) (a0 : List S68) (b1 : List S68) : Option Bool :=
bif ((a0.length : Int) != (b1.length : Int)) then
some false
else
cadastreref0_EqTokens_l4 k (fun t4_2 =>
some t4_2) (some true) k a0 b1 0

noncomputable def cadastreref0_CopyTokens_l3_b {ρ : Type} (k : Nat) (kexit0 : List S68 → Option ρ) (rec : (List S68) → (List S68) → Int → Option ρ) (l0 : List S68) (m3 : List S68) (i4 : Int) : Option ρ :=
bif (decide (i4 < (l0.length : Int))) then
chk (0 ≤ i4 ∧ i4 < (l0.length : Int)) <|
chk ((m3.length + [(l0.getD i4.toNat default)].length) * 32 ≤ 140737488355328) <|
rec l0 (m3 ++ [(l0.getD i4.toNat default)]) (IntKind.i64.wrap (i4 + 1))
else
kexit0 m3
noncomputable def cadastreref0_CopyTokens_l3 {ρ : Type} (k : Nat) (kexit0 : List S68 → Option ρ) : Nat → (List S68) → (List S68) → Int → Option ρ
  | 0, _, _, _ => none
  | n + 1, l0, m3, i4 => cadastreref0_CopyTokens_l3_b k kexit0 (cadastreref0_CopyTokens_l3 k kexit0 n) l0 m3 i4

/-- cadastre/cadastreref0.CopyTokens -/
noncomputable def cadastreref0_CopyTokens (k : Nat) (l0 : List S68) : Option (List S68) :=
cadastreref0_CopyTokens_l3 k (fun m3_1 =>
some m3_1) k l0 [] 0

/-- cadastre/cadastrelaw19.wakes -/
noncomputable def cadastrelaw19_wakes (k : Nat) : Option Bool :=
(lex_Tokens k (⟨#[65, 32, 39, 98, 39]⟩ : ByteArray)).bind fun r_1 =>
(cadastrelaw19_num k r_1.2).bind fun r_2 =>
bif (r_2 == 0) then
(cadastreref0_EqTokens k r_1.1 [(⟨1, (⟨#[97]⟩ : ByteArray), 0⟩ : S68), (⟨3, (⟨#[98]⟩ : ByteArray), 0⟩ : S68)]).bind fun r_3 =>
some r_3
else
some false

noncomputable def cadastrelaw19_LexBlanks_j12 {ρ : Type} (k : Nat) (kret : Bool → Option ρ) (knxt : List ByteArray → Int → Option ρ) (l0 : List ByteArray) (i3 : Int) (a4 : List S68) (b6 : List S68) : Option ρ :=
chk (0 ≤ i3 ∧ i3 < (l0.length : Int)) <|
chk (strFits (l0.getD i3.toNat ByteArray.empty) (⟨#[10]⟩ : ByteArray)) <|
chk (0 ≤ (IntKind.i64.wrap (i3 + 1)) ∧ (IntKind.i64.wrap (i3 + 1)) < (l0.length : Int)) <|
chk (strFits (cat (l0.getD i3.toNat ByteArray.empty) (⟨#[10]⟩ : ByteArray)) (l0.getD (IntKind.i64.wrap (i3 + 1)).toNat ByteArray.empty)) <|
let v_12 : ByteArray := (cat (cat (l0.getD i3.toNat ByteArray.empty) (⟨#[10]⟩ : ByteArray)) (l0.getD (IntKind.i64.wrap (i3 + 1)).toNat ByteArray.empty))
(lex_Tokens k v_12).bind fun r_13 =>
(cadastrelaw19_num k r_13.2).bind fun r_14 =>
bif (r_14 != 0) then
kret false
else
(cadastreref0_CopyTokens k a4).bind fun r_15 =>
chk ((r_15.length + b6.length) * 32 ≤ 140737488355328) <|
(cadastreref0_EqTokens k r_13.1 (r_15 ++ b6)).bind fun r_16 =>
bif (!r_16) then
kret false
else
knxt l0 i3

noncomputable def cadastrelaw19_LexBlanks_j11 {ρ : Type} (k : Nat) (kret : Bool → Option ρ) (knxt : List ByteArray → Int → Option ρ) (l0 : List ByteArray) (i3 : Int) (a4 : List S68) (e5 : Int) (b6 : List S68) (f7 : Int) : Option ρ :=
(cadastrelaw19_num k e5).bind fun r_10 =>
bif (r_10 == 0) then
(cadastrelaw19_num k f7).bind fun r_11 =>
bif (r_11 == 0) then
cadastrelaw19_LexBlanks_j12 k kret knxt l0 i3 a4 b6
else
knxt l0 i3
else
knxt l0 i3

noncomputable def cadastrelaw19_LexBlanks_j4 {ρ : Type} (k : Nat) (kret : Bool → Option ρ) (knxt : List ByteArray → Int → Option ρ) (l0 : List ByteArray) (i3 : Int) : Option ρ :=
chk (0 ≤ i3 ∧ i3 < (l0.length : Int)) <|
chk (0 ≤ (IntKind.i64.wrap (i3 + 1)) ∧ (IntKind.i64.wrap (i3 + 1)) < (l0.length : Int)) <|
let v_1 : Int := ((l0.getD (IntKind.i64.wrap (i3 + 1)).toNat ByteArray.empty).size : Int)
let v_2 : Int := (IntKind.i64.wrap (((l0.getD i3.toNat ByteArray.empty).size : Int) + v_1))
bif (big (decide (v_2 > 4000))) then
kret true
else
chk (0 ≤ i3 ∧ i3 < (l0.length : Int)) <|
(lex_Tokens k (l0.getD i3.toNat ByteArray.empty)).bind fun r_3 =>
chk (0 ≤ (IntKind.i64.wrap (i3 + 1)) ∧ (IntKind.i64.wrap (i3 + 1)) < (l0.length : Int)) <|
(lex_Tokens k (l0.getD (IntKind.i64.wrap (i3 + 1)).toNat ByteArray.empty)).bind fun r_4 =>
chk (0 ≤ i3 ∧ i3 < (l0.length : Int)) <|
chk (strFits (⟨#[32, 10, 9]⟩ : ByteArray) (l0.getD i3.toNat ByteArray.empty)) <|
chk (strFits (cat (⟨#[32, 10, 9]⟩ : ByteArray) (l0.getD i3.toNat ByteArray.empty)) (⟨#[10, 45, 45, 32, 97, 32, 39, 114, 101, 109, 97, 114, 107, 10]⟩ : ByteArray)) <|
let v_5 : ByteArray := (cat (cat (⟨#[32, 10, 9]⟩ : ByteArray) (l0.getD i3.toNat ByteArray.empty)) (⟨#[10, 45, 45, 32, 97, 32, 39, 114, 101, 109, 97, 114, 107, 10]⟩ : ByteArray))
(lex_Tokens k v_5).bind fun r_6 =>
(cadastrelaw19_num k r_3.2).bind fun r_7 =>
bif (r_7 == 0) then
(cadastrelaw19_num k r_6.2).bind fun r_8 =>
bif (r_8 != 0) then
kret false
else
(cadastreref0_EqTokens k r_3.1 r_6.1).bind fun r_9 =>
bif (!r_9) then
kret false
else
cadastrelaw19_LexBlanks_j11 k kret (fun l0_21 i3_22 =>
knxt l0_21 (IntKind.i64.wrap (i3_22 + 1))) l0 i3 r_3.1 r_3.2 r_4.1 r_4.2
else
cadastrelaw19_LexBlanks_j11 k kret (fun l0_24 i3_25 =>
knxt l0_24 (IntKind.i64.wrap (i3_25 + 1))) l0 i3 r_3.1 r_3.2 r_4.1 r_4.2

noncomputable def cadastrelaw19_LexBlanks_l2_b {ρ : Type} (k : Nat) (kret : Bool → Option ρ) (kexit0 : Option ρ) (rec : (List ByteArray) → Int → Option ρ) (l0 : List ByteArray) (i3 : Int) : Option ρ :=
bif (decide ((IntKind.i64.wrap (i3 + 1)) < (l0.length : Int))) then
bif (decide (i3 < 12)) then
cadastrelaw19_LexBlanks_j4 k kret rec l0 i3
else
kexit0
else
kexit0
noncomputable def cadastrelaw19_LexBlanks_l2 {ρ : Type} (k : Nat) (kret : Bool → Option ρ) (kexit0 : Option ρ) : Nat → (List ByteArray) → Int → Option ρ
  | 0, _, _ => none
  | n + 1, l0, i3 => cadastrelaw19_LexBlanks_l2_b k kret kexit0 (cadastrelaw19_LexBlanks_l2 k kret kexit0 n) l0 i3

/-- cadastre/cadastrelaw19.LexBlanks -/
noncomputable def cadastrelaw19_LexBlanks (k : Nat) (l0 : List ByteArray) : Option Bool :=
cadastrelaw19_LexBlanks_l2 k (fun t2_29 =>
some t2_29) ((lex_Tokens k (⟨#[83, 101, 108, 101, 99, 116, 32, 65, 98, 67, 95, 57]⟩ : ByteArray)).bind fun r_30 =>
(cadastrelaw19_num k r_30.2).bind fun r_31 =>
bif (r_31 == 0) then
(cadastreref0_EqTokens k r_30.1 [(⟨1, (⟨#[115, 101, 108, 101, 99, 116]⟩ : ByteArray), 0⟩ : S68), (⟨1, (⟨#[97, 98, 99, 95, 57]⟩ : ByteArray), 0⟩ : S68)]).bind fun r_32 =>
bif r_32 then
(cadastrelaw19_wakes k).bind fun r_33 =>
some r_33
else
some false
else
some false) k l0 0

noncomputable def cadastrelaw19_LexTexts_l8_b {ρ : Type} (k : Nat) (kexit2 : List ByteArray → Int → List Int → Option ρ) (rec : (List ByteArray) → Int → (List Int) → Int → Option ρ) (l0 : List ByteArray) (i3 : Int) (q4 : List Int) (k5 : Int) : Option ρ :=
chk (0 ≤ i3 ∧ i3 < (l0.length : Int)) <|
bif (decide (k5 < ((l0.getD i3.toNat ByteArray.empty).size : Int))) then
chk (0 ≤ i3 ∧ i3 < (l0.length : Int)) <|
chk (0 ≤ k5 ∧ k5 < ((l0.getD i3.toNat ByteArray.empty).size : Int)) <|
let v_2 : Int := (((l0.getD i3.toNat ByteArray.empty).data.toList.getD k5.toNat 0).toNat : Int)
bif (v_2 == 39) then
chk ((q4.length + [39].length) * 1 ≤ 140737488355328) <|
chk (0 ≤ i3 ∧ i3 < (l0.length : Int)) <|
chk (0 ≤ k5 ∧ k5 < ((l0.getD i3.toNat ByteArray.empty).size : Int)) <|
let v_3 : Int := (((l0.getD i3.toNat ByteArray.empty).data.toList.getD k5.toNat 0).toNat : Int)
chk (((q4 ++ [39]).length + [v_3].length) * 1 ≤ 140737488355328) <|
rec l0 i3 ((q4 ++ [39]) ++ [v_3]) (IntKind.i64.wrap (k5 + 1))
else
chk (0 ≤ i3 ∧ i3 < (l0.length : Int)) <|
chk (0 ≤ k5 ∧ k5 < ((l0.getD i3.toNat ByteArray.empty).size : Int)) <|
let v_4 : Int := (((l0.getD i3.toNat ByteArray.empty).data.toList.getD k5.toNat 0).toNat : Int)
chk ((q4.length + [v_4].length) * 1 ≤ 140737488355328) <|
rec l0 i3 (q4 ++ [v_4]) (IntKind.i64.wrap (k5 + 1))
else
kexit2 l0 i3 q4
noncomputable def cadastrelaw19_LexTexts_l8 {ρ : Type} (k : Nat) (kexit2 : List ByteArray → Int → List Int → Option ρ) : Nat → (List ByteArray) → Int → (List Int) → Int → Option ρ
  | 0, _, _, _, _ => none
  | n + 1, l0, i3, q4, k5 => cadastrelaw19_LexTexts_l8_b k kexit2 (cadastrelaw19_LexTexts_l8 k kexit2 n) l0 i3 q4 k5

noncomputable def cadastrelaw19_LexTexts_j4 {ρ : Type} (k : Nat) (kret : Bool → Option ρ) (knxt : List ByteArray → Int → Option ρ) (l0 : List ByteArray) (i3 : Int) : Option ρ :=
chk (0 ≤ i3 ∧ i3 < (l0.length : Int)) <|
let v_1 : Bool := (big (decide (((l0.getD i3.toNat ByteArray.empty).size : Int) > 3000)))
bif v_1 then
kret true
else
cadastrelaw19_LexTexts_l8 k (fun l0_5 i3_6 q4_7 =>
chk ((q4_7.length + [39].length) * 1 ≤ 140737488355328) <|
(lex_Tokens k (strOfNums (q4_7 ++ [39]))).bind fun r_8 =>
(cadastrelaw19_num k r_8.2).bind fun r_9 =>
bif (r_9 != 0) then
kret false
else
chk (0 ≤ i3_6 ∧ i3_6 < (l0_5.length : Int)) <|
(cadastreref0_EqTokens k r_8.1 [(⟨3, (l0_5.getD i3_6.toNat ByteArray.empty), 0⟩ : S68)]).bind fun r_10 =>
bif (!r_10) then
kret false
else
knxt l0_5 (IntKind.i64.wrap (i3_6 + 1))) k l0 i3 [39] 0

noncomputable def cadastrelaw19_LexTexts_l2_b {ρ : Type} (k : Nat) (kret : Bool → Option ρ) (kexit0 : Option ρ) (rec : (List ByteArray) → Int → Option ρ) (l0 : List ByteArray) (i3 : Int) : Option ρ :=
bif (decide (i3 < (l0.length : Int))) then
bif (decide (i3 < 12)) then
cadastrelaw19_LexTexts_j4 k kret rec l0 i3
else
kexit0
else
kexit0
noncomputable def cadastrelaw19_LexTexts_l2 {ρ : Type} (k : Nat) (kret : Bool → Option ρ) (kexit0 : Option ρ) : Nat → (List ByteArray) → Int → Option ρ
  | 0, _, _ => none
  | n + 1, l0, i3 => cadastrelaw19_LexTexts_l2_b k kret kexit0 (cadastrelaw19_LexTexts_l2 k kret kexit0 n) l0 i3

/-- cadastre/cadastrelaw19.LexTexts -/
noncomputable def cadastrelaw19_LexTexts (k : Nat) (l0 : List ByteArray) : Option Bool :=
cadastrelaw19_LexTexts_l2 k (fun t2_14 =>
some t2_14) ((cadastrelaw19_wakes k).bind fun r_15 =>
some r_15) k l0 0

noncomputable def cadastrelaw19_LexMarks_j8 {ρ : Type} (k : Nat) (kret : Bool → Option ρ) (knxt : List ByteArray → List ByteArray → Int → Option ρ) (l0 : List ByteArray) (marks3 : List ByteArray) (i4 : Int) : Option ρ :=
chk (0 ≤ i4 ∧ i4 < (marks3.length : Int)) <|
chk (strFits (⟨#[40]⟩ : ByteArray) (marks3.getD i4.toNat ByteArray.empty)) <|
chk (strFits (cat (⟨#[40]⟩ : ByteArray) (marks3.getD i4.toNat ByteArray.empty)) (⟨#[41]⟩ : ByteArray)) <|
let v_4 : ByteArray := (cat (cat (⟨#[40]⟩ : ByteArray) (marks3.getD i4.toNat ByteArray.empty)) (⟨#[41]⟩ : ByteArray))
(lex_Tokens k v_4).bind fun r_5 =>
(cadastrelaw19_num k r_5.2).bind fun r_6 =>
bif (r_6 != 0) then
kret false
else
bif ((r_5.1.length : Int) != 3) then
kret false
else
chk (0 ≤ (1 : Int) ∧ (1 : Int) < (r_5.1.length : Int)) <|
chk (0 ≤ i4 ∧ i4 < (marks3.length : Int)) <|
let v_7 : Bool := (!((r_5.1.getD 1 default).f1.toList == (marks3.getD i4.toNat ByteArray.empty).toList))
bif v_7 then
kret false
else
knxt l0 marks3 i4

noncomputable def cadastrelaw19_LexMarks_l3_b {ρ : Type} (k : Nat) (kret : Bool → Option ρ) (kexit0 : List ByteArray → Option ρ) (rec : (List ByteArray) → (List ByteArray) → Int → Option ρ) (l0 : List ByteArray) (marks3 : List ByteArray) (i4 : Int) : Option ρ :=
bif (decide (i4 < (marks3.length : Int))) then
chk (0 ≤ i4 ∧ i4 < (marks3.length : Int)) <|
(lex_Tokens k (marks3.getD i4.toNat ByteArray.empty)).bind fun r_1 =>
(cadastrelaw19_num k r_1.2).bind fun r_2 =>
bif (r_2 != 0) then
kret false
else
chk (0 ≤ i4 ∧ i4 < (marks3.length : Int)) <|
(cadastreref0_EqTokens k r_1.1 [(⟨5, (marks3.getD i4.toNat ByteArray.empty), 0⟩ : S68)]).bind fun r_3 =>
bif (!r_3) then
kret false
else
cadastrelaw19_LexMarks_j8 k kret (fun l0_9 marks3_10 i4_11 =>
rec l0_9 marks3_10 (IntKind.i64.wrap (i4_11 + 1))) l0 marks3 i4
else
kexit0 l0
noncomputable def cadastrelaw19_LexMarks_l3 {ρ : Type} (k : Nat) (kret : Bool → Option ρ) (kexit0 : List ByteArray → Option ρ) : Nat → (List ByteArray) → (List ByteArray) → Int → Option ρ
  | 0, _, _, _ => none
  | n + 1, l0, marks3, i4 => cadastrelaw19_LexMarks_l3_b k kret kexit0 (cadastrelaw19_LexMarks_l3 k kret kexit0 n) l0 marks3 i4

noncomputable def cadastrelaw19_LexMarks_j17 {ρ : Type} (k : Nat) (kret : Bool → Option ρ) (knxt : List ByteArray → Int → Option ρ) (l0 : List ByteArray) (i11 : Int) : Option ρ :=
chk (strFits (⟨#[39]⟩ : ByteArray) (strOfNums [(IntKind.u8.wrap (IntKind.i64.wrap (i11 + 1)))])) <|
let v_17 : ByteArray := (cat (⟨#[39]⟩ : ByteArray) (strOfNums [(IntKind.u8.wrap (IntKind.i64.wrap (i11 + 1)))]))
(lex_Tokens k v_17).bind fun r_18 =>
(lex_Tokens k (⟨#[97, 32, 124, 32, 98]⟩ : ByteArray)).bind fun r_19 =>
(lex_Tokens k (⟨#[33]⟩ : ByteArray)).bind fun r_20 =>
(cadastrelaw19_num k r_18.2).bind fun r_21 =>
bif (r_21 != 1) then
kret false
else
(cadastrelaw19_num k r_19.2).bind fun r_22 =>
bif (r_22 != 1) then
kret false
else
(cadastrelaw19_num k r_20.2).bind fun r_23 =>
bif (r_23 != 1) then
kret false
else
knxt l0 (IntKind.i64.wrap (i11 + 1))

noncomputable def cadastrelaw19_LexMarks_l15_b {ρ : Type} (k : Nat) (kret : Bool → Option ρ) (kexit2 : Option ρ) (rec : (List ByteArray) → Int → Option ρ) (l0 : List ByteArray) (i11 : Int) : Option ρ :=
bif (decide (i11 < (l0.length : Int))) then
bif (decide (i11 < 3)) then
cadastrelaw19_LexMarks_j17 k kret rec l0 i11
else
kexit2
else
kexit2
noncomputable def cadastrelaw19_LexMarks_l15 {ρ : Type} (k : Nat) (kret : Bool → Option ρ) (kexit2 : Option ρ) : Nat → (List ByteArray) → Int → Option ρ
  | 0, _, _ => none
  | n + 1, l0, i11 => cadastrelaw19_LexMarks_l15_b k kret kexit2 (cadastrelaw19_LexMarks_l15 k kret kexit2 n) l0 i11

noncomputable def cadastrelaw19_LexMarks_j14 {ρ : Type} (k : Nat) (kret : Bool → Option ρ) (l0 : List ByteArray) : Option ρ :=
cadastrelaw19_LexMarks_l15 k kret ((cadastrelaw19_wakes k).bind fun r_28 =>
kret r_28) k l0 0

/-- cadastre/cadastrelaw19.LexMarks -/
noncomputable def cadastrelaw19_LexMarks (k : Nat) (l0 : List ByteArray) : Option Bool :=
cadastrelaw19_LexMarks_l3 k (fun t2_12 =>
some t2_12) (fun l0_13 =>
(lex_Tokens k (⟨#[97, 33, 61, 98, 60, 99, 62, 100, 45, 49]⟩ : ByteArray)).bind fun r_14 =>
(cadastrelaw19_num k r_14.2).bind fun r_15 =>
bif (r_15 != 0) then
some false
else
bif ((r_14.1.length : Int) != 9) then
some false
else
chk (0 ≤ (1 : Int) ∧ (1 : Int) < (r_14.1.length : Int)) <|
let v_16 : Bool := (!((r_14.1.getD 1 default).f1.toList == (⟨#[60, 62]⟩ : ByteArray).toList))
bif v_16 then
some false
else
chk (0 ≤ (3 : Int) ∧ (3 : Int) < (r_14.1.length : Int)) <|
bif (!((r_14.1.getD 3 default).f1.toList == (⟨#[60]⟩ : ByteArray).toList)) then
some false
else
chk (0 ≤ (7 : Int) ∧ (7 : Int) < (r_14.1.length : Int)) <|
bif (!((r_14.1.getD 7 default).f1.toList == (⟨#[45]⟩ : ByteArray).toList)) then
some false
else
cadastrelaw19_LexMarks_j14 k (fun t2_29 =>
some t2_29) l0_13) k l0 [(⟨#[40]⟩ : ByteArray), (⟨#[41]⟩ : ByteArray), (⟨#[44]⟩ : ByteArray), (⟨#[46]⟩ : ByteArray), (⟨#[59]⟩ : ByteArray), (⟨#[42]⟩ : ByteArray), (⟨#[43]⟩ : ByteArray), (⟨#[47]⟩ : ByteArray), (⟨#[37]⟩ : ByteArray), (⟨#[61]⟩ : ByteArray), (⟨#[124, 124]⟩ : ByteArray), (⟨#[60, 62]⟩ : ByteArray), (⟨#[60, 61]⟩ : ByteArray), (⟨#[62, 61]⟩ : ByteArray)] 0
end Go.Proofs.Ytekjibpkkgldgaa.X
