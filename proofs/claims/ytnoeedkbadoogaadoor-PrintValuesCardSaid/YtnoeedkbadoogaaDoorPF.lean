/-
  The program's functions as plain functions over plain data, as a program has printed them.
-/
import Derived.Test.YtnoeedkbadoogaaDoorAxDef
import Derived.Lib.Bytealg
import Derived.Lib.ItoaNum
namespace Go.Proofs.YtnoeedkbadoogaaDoor.P
open Go Go.AX
/-- cadastre/api.Value -/
structure S23 where
  f0 : Int
  f1 : Int
  f2 : ByteArray
instance : Inhabited S23 := ⟨⟨0, 0, ByteArray.empty⟩⟩
/-- cadastre/api.Token -/
structure S126 where
  f0 : Int
  f1 : ByteArray
  f2 : Int
instance : Inhabited S126 := ⟨⟨0, ByteArray.empty, 0⟩⟩
/-- cadastre/api.Expr, as a part of itself -/
inductive T25 where
  | mk (f0 : Int) (f1 : S23) (f2 : ByteArray) (f3 : ByteArray) (f4 : List T25)
/-- cadastre/api.Expr -/
structure S25 where
  f0 : Int
  f1 : S23
  f2 : ByteArray
  f3 : ByteArray
  f4 : List T25
instance : Inhabited S25 := ⟨⟨0, default, ByteArray.empty, ByteArray.empty, []⟩⟩
instance : Inhabited T25 := ⟨.mk 0 default ByteArray.empty ByteArray.empty []⟩
noncomputable def T25.s : T25 → S25 | .mk a0 a1 a2 a3 a4 => ⟨a0, a1, a2, a3, a4⟩
noncomputable def S25.t (x : S25) : T25 := .mk x.f0 x.f1 x.f2 x.f3 x.f4
/-- cadastre/print.writer -/
structure S51 where
  f0 : List Int
  f1 : Bool
instance : Inhabited S51 := ⟨⟨[], false⟩⟩
/-- cadastre/api.Column -/
structure S113 where
  f0 : ByteArray
  f1 : Int
  f2 : Bool
instance : Inhabited S113 := ⟨⟨ByteArray.empty, 0, false⟩⟩
/-- cadastre/api.Set -/
structure S90 where
  f0 : ByteArray
  f1 : S25
instance : Inhabited S90 := ⟨⟨ByteArray.empty, default⟩⟩
/-- cadastre/api.Order -/
structure S106 where
  f0 : S25
  f1 : Bool
instance : Inhabited S106 := ⟨⟨default, false⟩⟩
/-- cadastre/api.Stmt -/
structure S60 where
  f0 : Int
  f1 : ByteArray
  f2 : ByteArray
  f3 : Bool
  f4 : List S113
  f5 : List ByteArray
  f6 : List (List T25)
  f7 : List S90
  f8 : List ByteArray
  f9 : Bool
  f10 : List T25
  f11 : List T25
  f12 : List S106
instance : Inhabited S60 := ⟨⟨0, ByteArray.empty, ByteArray.empty, false, [], [], [], [], [], false, [], [], []⟩⟩
noncomputable def cadastreref2_May_j8 {ρ : Type} (k : Nat) (kret : Bool → Option ρ) (v1 : S23) : Option ρ :=
bif (v1.f1 == 0) then
kret (big (decide ((v1.f2.size : Int) ≤ 4096)))
else
kret false

/-- cadastre/cadastreref2.May -/
noncomputable def cadastreref2_May (k : Nat) (v0 : S23) : Option Bool :=
bif (v0.f0 == 0) then
some ((v0.f0 == 0) && ((v0.f1 == 0) && (v0.f2 == ByteArray.empty)))
else
bif (v0.f0 == 1) then
some (v0.f2.toList == ByteArray.empty.toList)
else
bif (v0.f0 == 2) then
cadastreref2_May_j8 k (fun t2_1 =>
some t2_1) v0
else
bif (v0.f0 == 3) then
cadastreref2_May_j8 k (fun t2_2 =>
some t2_2) v0
else
some false

noncomputable def print_args_j5 {ρ : Type} (k : Nat) (kret : Int → Option ρ) (knxt : Option ρ) (op0 : Int) : Option ρ :=
bif (decide (op0 ≥ 9)) then
bif (decide (op0 ≤ 22)) then
kret 2
else
knxt
else
knxt

noncomputable def print_args_j3 {ρ : Type} (k : Nat) (kret : Int → Option ρ) (knxt : Option ρ) (op0 : Int) : Option ρ :=
bif (decide (op0 ≥ 3)) then
bif (decide (op0 ≤ 8)) then
kret 1
else
bif (decide (op0 ≥ 24)) then
bif (decide (op0 ≤ 26)) then
kret 1
else
print_args_j5 k kret knxt op0
else
print_args_j5 k kret knxt op0
else
bif (decide (op0 ≥ 24)) then
bif (decide (op0 ≤ 26)) then
kret 1
else
print_args_j5 k kret knxt op0
else
print_args_j5 k kret knxt op0

/-- cadastre/print.args -/
noncomputable def print_args (k : Nat) (op0 : Int) : Option Int :=
bif (op0 == 1) then
some 0
else
bif (op0 == 2) then
some 0
else
bif (op0 == 23) then
some 0
else
print_args_j3 k (fun t2_5 =>
some t2_5) (some (-1)) op0

noncomputable def value_Good_j8 {ρ : Type} (k : Nat) (kret : Bool → Option ρ) (v1 : S23) : Option ρ :=
bif (v1.f1 == 0) then
kret (big (decide ((v1.f2.size : Int) ≤ 4096)))
else
kret false

/-- cadastre/value.Good -/
noncomputable def value_Good (k : Nat) (v0 : S23) : Option Bool :=
bif (v0.f0 == 0) then
some ((v0.f0 == 0) && ((v0.f1 == 0) && (v0.f2 == ByteArray.empty)))
else
bif (v0.f0 == 1) then
some (v0.f2.toList == ByteArray.empty.toList)
else
bif (v0.f0 == 2) then
value_Good_j8 k (fun t2_1 =>
some t2_1) v0
else
bif (v0.f0 == 3) then
value_Good_j8 k (fun t2_2 =>
some t2_2) v0
else
some false

/-- cadastre/print.literal -/
noncomputable def print_literal (k : Nat) (v0 : S23) : Option Bool :=
(value_Good k v0).bind fun r_1 =>
bif r_1 then
bif (v0.f0 != 1) then
some true
else
some (decide (v0.f1 ≥ 0))
else
some false

/-- internal/stringslite.HasPrefix -/
noncomputable def stringslite_HasPrefix (k : Nat) (s0 : ByteArray) (prefix1 : ByteArray) : Option Bool :=
bif (decide ((s0.size : Int) ≥ (prefix1.size : Int))) then
chk (0 ≤ (0 : Int) ∧ (0 : Int) ≤ (prefix1.size : Int) ∧ (prefix1.size : Int) ≤ (s0.size : Int)) <|
let v_1 : Bool := ((s0.extract (0 : Int).toNat (prefix1.size : Int).toNat).toList == prefix1.toList)
some v_1
else
some false

/-- strings.HasPrefix -/
noncomputable def strings_HasPrefix (k : Nat) (s0 : ByteArray) (prefix1 : ByteArray) : Option Bool :=
(stringslite_HasPrefix k s0 prefix1).bind fun r_1 =>
some r_1

/-- cadastre/lex.skip$1 -/
noncomputable def lex_skip_1 (k : Nat) (c0 : Int) : Option Bool :=
bif (c0 == 9) then
some true
else
bif (c0 == 10) then
some true
else
bif (c0 == 13) then
some true
else
some (c0 == 32)

noncomputable def lex_span_f124_l1_b {ρ : Type} (k : Nat) (kexit0 : Int → Option ρ) (rec : ByteArray → Int → Option ρ) (s0 : ByteArray) (at1 : Int) : Option ρ :=
bif (decide (at1 < (s0.size : Int))) then
chk (0 ≤ at1 ∧ at1 < (s0.size : Int)) <|
(lex_skip_1 k ((s0.data.toList.getD at1.toNat 0).toNat : Int)).bind fun r_1 =>
bif r_1 then
rec s0 (IntKind.i64.wrap (at1 + 1))
else
kexit0 at1
else
kexit0 at1
noncomputable def lex_span_f124_l1 {ρ : Type} (k : Nat) (kexit0 : Int → Option ρ) : Nat → ByteArray → Int → Option ρ
  | 0, _, _ => none
  | n + 1, s0, at1 => lex_span_f124_l1_b k kexit0 (lex_span_f124_l1 k kexit0 n) s0 at1

/-- cadastre/lex.span -/
noncomputable def lex_span_f124 (k : Nat) (s0 : ByteArray) (at1 : Int) : Option Int :=
lex_span_f124_l1 k (fun at1_2 =>
some at1_2) k s0 at1

/-- cadastre/lex.skip$2 -/
noncomputable def lex_skip_2 (k : Nat) (c0 : Int) : Option Bool :=
some (c0 != 10)

noncomputable def lex_span_f126_l1_b {ρ : Type} (k : Nat) (kexit0 : Int → Option ρ) (rec : ByteArray → Int → Option ρ) (s0 : ByteArray) (at1 : Int) : Option ρ :=
bif (decide (at1 < (s0.size : Int))) then
chk (0 ≤ at1 ∧ at1 < (s0.size : Int)) <|
(lex_skip_2 k ((s0.data.toList.getD at1.toNat 0).toNat : Int)).bind fun r_1 =>
bif r_1 then
rec s0 (IntKind.i64.wrap (at1 + 1))
else
kexit0 at1
else
kexit0 at1
noncomputable def lex_span_f126_l1 {ρ : Type} (k : Nat) (kexit0 : Int → Option ρ) : Nat → ByteArray → Int → Option ρ
  | 0, _, _ => none
  | n + 1, s0, at1 => lex_span_f126_l1_b k kexit0 (lex_span_f126_l1 k kexit0 n) s0 at1

/-- cadastre/lex.span -/
noncomputable def lex_span_f126 (k : Nat) (s0 : ByteArray) (at1 : Int) : Option Int :=
lex_span_f126_l1 k (fun at1_2 =>
some at1_2) k s0 at1

noncomputable def lex_skip_j1 {ρ : Type} (k : Nat) (kgoto0 : ByteArray → Int → Option ρ) (kret : Int → Option ρ) (s0 : ByteArray) (at1 : Int) : Option ρ :=
(lex_span_f124 k s0 at1).bind fun r_1 =>
chk (0 ≤ r_1 ∧ r_1 ≤ (s0.size : Int) ∧ (s0.size : Int) ≤ (s0.size : Int)) <|
(strings_HasPrefix k (s0.extract r_1.toNat (s0.size : Int).toNat) (⟨#[45, 45]⟩ : ByteArray)).bind fun r_2 =>
bif r_2 then
(lex_span_f126 k s0 r_1).bind fun r_3 =>
kgoto0 s0 r_3
else
kret r_1

noncomputable def lex_skip_g0_b {ρ : Type} (k : Nat) (kret : Int → Option ρ) (rec : ByteArray → Int → Option ρ) (s0 : ByteArray) (at1 : Int) : Option ρ :=
lex_skip_j1 k rec kret s0 at1
noncomputable def lex_skip_g0 {ρ : Type} (k : Nat) (kret : Int → Option ρ) : Nat → ByteArray → Int → Option ρ
  | 0, _, _ => none
  | n + 1, s0, at1 => lex_skip_g0_b k kret (lex_skip_g0 k kret n) s0 at1

/-- cadastre/lex.skip -/
noncomputable def lex_skip (k : Nat) (s0 : ByteArray) (at1 : Int) : Option Int :=
lex_skip_j1 k (fun s0_4 at1_5 =>
lex_skip_g0 k (fun t4_9 =>
some t4_9) k s0_4 at1_5) (fun t4_10 =>
some t4_10) s0 at1

/-- cadastre/lex.letter -/
noncomputable def lex_letter (k : Nat) (c0 : Int) : Option Bool :=
bif (decide (c0 ≥ 97)) then
bif (decide (c0 ≤ 122)) then
some true
else
bif (decide (c0 ≥ 65)) then
bif (decide (c0 ≤ 90)) then
some true
else
some (c0 == 95)
else
some (c0 == 95)
else
bif (decide (c0 ≥ 65)) then
bif (decide (c0 ≤ 90)) then
some true
else
some (c0 == 95)
else
some (c0 == 95)

/-- cadastre/lex.digit -/
noncomputable def lex_digit (k : Nat) (c0 : Int) : Option Bool :=
bif (decide (c0 ≥ 48)) then
some (decide (c0 ≤ 57))
else
some false

/-- internal/stringslite.IndexByte -/
noncomputable def stringslite_IndexByte (_ : Nat) (s0 : ByteArray) (c1 : Int) : Option Int :=
some (Lib.indexByte s0.data.toList c1.toNat.toUInt8)

/-- strings.IndexByte -/
noncomputable def strings_IndexByte (k : Nat) (s0 : ByteArray) (c1 : Int) : Option Int :=
(stringslite_IndexByte k s0 c1).bind fun r_1 =>
some r_1

noncomputable def lex_mark_j9 {ρ : Type} (k : Nat) (kret : Int → Option ρ) (s0 : ByteArray) : Option ρ :=
chk (0 ≤ (0 : Int) ∧ (0 : Int) < (s0.size : Int)) <|
(strings_IndexByte k (⟨#[40, 41, 44, 46, 59, 42, 43, 45, 47, 37, 61, 60, 62]⟩ : ByteArray) ((s0.data.toList.getD 0 0).toNat : Int)).bind fun r_6 =>
bif (decide (r_6 ≥ 0)) then
kret 1
else
kret 0

/-- cadastre/lex.mark -/
noncomputable def lex_mark (k : Nat) (s0 : ByteArray) : Option Int :=
bif (decide ((s0.size : Int) ≥ 2)) then
chk (0 ≤ (0 : Int) ∧ (0 : Int) ≤ 2 ∧ (2 : Int) ≤ (s0.size : Int)) <|
let v_1 : Bool := ((s0.extract (0 : Int).toNat (2 : Int).toNat).toList == (⟨#[124, 124]⟩ : ByteArray).toList)
bif v_1 then
some 2
else
let v_2 : Bool := ((s0.extract (0 : Int).toNat (2 : Int).toNat).toList == (⟨#[60, 62]⟩ : ByteArray).toList)
bif v_2 then
some 2
else
let v_3 : Bool := ((s0.extract (0 : Int).toNat (2 : Int).toNat).toList == (⟨#[33, 61]⟩ : ByteArray).toList)
bif v_3 then
some 2
else
let v_4 : Bool := ((s0.extract (0 : Int).toNat (2 : Int).toNat).toList == (⟨#[60, 61]⟩ : ByteArray).toList)
bif v_4 then
some 2
else
let v_5 : Bool := ((s0.extract (0 : Int).toNat (2 : Int).toNat).toList == (⟨#[62, 61]⟩ : ByteArray).toList)
bif v_5 then
some 2
else
lex_mark_j9 k (fun t2_7 =>
some t2_7) s0
else
lex_mark_j9 k (fun t2_8 =>
some t2_8) s0

noncomputable def lex_nibble_j5 {ρ : Type} (k : Nat) (kret : Int → Bool → Option ρ) (knxt : Option ρ) (c0 : Int) : Option ρ :=
bif (decide (c0 ≥ 65)) then
bif (decide (c0 ≤ 70)) then
kret (IntKind.u8.wrap ((IntKind.u8.wrap (c0 - 65)) + 10)) true
else
knxt
else
knxt

/-- cadastre/lex.nibble -/
noncomputable def lex_nibble (k : Nat) (c0 : Int) : Option (Int × Bool) :=
(lex_digit k c0).bind fun r_1 =>
bif r_1 then
some ((IntKind.u8.wrap (c0 - 48)), true)
else
bif (decide (c0 ≥ 97)) then
bif (decide (c0 ≤ 102)) then
some ((IntKind.u8.wrap ((IntKind.u8.wrap (c0 - 97)) + 10)), true)
else
lex_nibble_j5 k (fun t2_2 t3_3 =>
some (t2_2, t3_3)) (some (0, false)) c0
else
lex_nibble_j5 k (fun t2_4 t3_5 =>
some (t2_4, t3_5)) (some (0, false)) c0

noncomputable def lex_blob_l6_b {ρ : Type} (k : Nat) (kret : ByteArray → Int → Bool → Option ρ) (kexit0 : Int → Int → List Int → Option ρ) (rec : ByteArray → Int → Int → (List Int) → Int → Option ρ) (s0 : ByteArray) (at1 : Int) (n7 : Int) (b8 : List Int) (k9 : Int) : Option ρ :=
bif (decide (k9 < (IntKind.i64.wrap (at1 + n7)))) then
chk (0 ≤ k9 ∧ k9 < (s0.size : Int)) <|
(lex_nibble k ((s0.data.toList.getD k9.toNat 0).toNat : Int)).bind fun r_2 =>
chk (0 ≤ (IntKind.i64.wrap (k9 + 1)) ∧ (IntKind.i64.wrap (k9 + 1)) < (s0.size : Int)) <|
let v_3 : Int := ((s0.data.toList.getD (IntKind.i64.wrap (k9 + 1)).toNat 0).toNat : Int)
(lex_nibble k v_3).bind fun r_4 =>
bif (!r_2.2) then
kret ByteArray.empty 0 false
else
bif (!r_4.2) then
kret ByteArray.empty 0 false
else
let v_5 : Int := (IntKind.u8.wrap (r_2.1 * 2 ^ (min (4 : Int).toNat (IntKind.u8).bits)))
let v_6 : Int := (IntKind.u8.wrap (BitVec.ofInt (IntKind.u8).bits v_5 ||| BitVec.ofInt (IntKind.u8).bits r_4.1).toNat)
chk ((b8.length + [v_6].length) * 1 ≤ 140737488355328) <|
rec s0 at1 n7 (b8 ++ [v_6]) (IntKind.i64.wrap (k9 + 2))
else
kexit0 at1 n7 b8
noncomputable def lex_blob_l6 {ρ : Type} (k : Nat) (kret : ByteArray → Int → Bool → Option ρ) (kexit0 : Int → Int → List Int → Option ρ) : Nat → ByteArray → Int → Int → (List Int) → Int → Option ρ
  | 0, _, _, _, _, _ => none
  | n + 1, s0, at1, n7, b8, k9 => lex_blob_l6_b k kret kexit0 (lex_blob_l6 k kret kexit0 n) s0 at1 n7 b8 k9

noncomputable def lex_blob_j4 {ρ : Type} (k : Nat) (kret : ByteArray → Int → Bool → Option ρ) (s0 : ByteArray) (at1 : Int) (n7 : Int) : Option ρ :=
lex_blob_l6 k kret (fun at1_10 n7_11 b8_12 =>
kret (strOfNums b8_12) (IntKind.i64.wrap ((IntKind.i64.wrap (at1_10 + n7_11)) + 1)) true) k s0 at1 n7 [] at1

/-- cadastre/lex.blob -/
noncomputable def lex_blob (k : Nat) (s0 : ByteArray) (at1 : Int) : Option (ByteArray × Int × Bool) :=
chk (0 ≤ at1 ∧ at1 ≤ (s0.size : Int) ∧ (s0.size : Int) ≤ (s0.size : Int)) <|
(strings_IndexByte k (s0.extract at1.toNat (s0.size : Int).toNat) 39).bind fun r_1 =>
bif (decide (r_1 < 0)) then
some (ByteArray.empty, 0, false)
else
bif ((Int.tmod r_1 2) != 0) then
some (ByteArray.empty, 0, false)
else
lex_blob_j4 k (fun text4_13 end5_14 ok6_15 =>
some (text4_13, end5_14, ok6_15)) s0 at1 r_1

noncomputable def lex_Small_l3_b {ρ : Type} (k : Nat) (kexit0 : List Int → Option ρ) (rec : (List Int) → Int → Int → Option ρ) (b3 : List Int) (t9 : Int) (t10 : Int) : Option ρ :=
bif (decide (t10 < t9)) then
chk (0 ≤ t10 ∧ t10 < (b3.length : Int)) <|
bif (decide ((b3.getD t10.toNat 0) ≥ 65)) then
bif (decide ((b3.getD t10.toNat 0) ≤ 90)) then
let v_1 : Int := (IntKind.u8.wrap ((IntKind.u8.wrap ((b3.getD t10.toNat 0) + 97)) - 65))
chk (0 ≤ t10 ∧ t10 < (b3.length : Int)) <|
chk (t10.toNat < b3.length) <|
rec (b3.set t10.toNat v_1) t9 (IntKind.i64.wrap (t10 + 1))
else
rec b3 t9 (IntKind.i64.wrap (t10 + 1))
else
rec b3 t9 (IntKind.i64.wrap (t10 + 1))
else
kexit0 b3
noncomputable def lex_Small_l3 {ρ : Type} (k : Nat) (kexit0 : List Int → Option ρ) : Nat → (List Int) → Int → Int → Option ρ
  | 0, _, _, _ => none
  | n + 1, b3, t9, t10 => lex_Small_l3_b k kexit0 (lex_Small_l3 k kexit0 n) b3 t9 t10

/-- cadastre/lex.Small -/
noncomputable def lex_Small (k : Nat) (s0 : ByteArray) : Option ByteArray :=
lex_Small_l3 k (fun b3_2 =>
some (strOfNums b3_2)) k (bytesOf s0) ((bytesOf s0).length : Int) 0

noncomputable def lex_integer_l2_b {ρ : Type} (k : Nat) (kret : Int → Bool → Option ρ) (kexit0 : Int → Option ρ) (rec : ByteArray → Int → Int → Int → Option ρ) (s0 : ByteArray) (n2 : Int) (t7 : Int) (t8 : Int) : Option ρ :=
bif (decide (t8 < t7)) then
chk (0 ≤ t8 ∧ t8 < (s0.size : Int)) <|
let v_1 : Int := (IntKind.u8.wrap (((s0.data.toList.getD t8.toNat 0).toNat : Int) - 48))
let v_2 : Int := (IntKind.i64.wrap (Int.tdiv (IntKind.i64.wrap (9223372036854775807 - (IntKind.i64.wrap v_1))) 10))
bif (decide (n2 > v_2)) then
kret 0 false
else
let v_3 : Int := (IntKind.i64.wrap ((IntKind.i64.wrap (10 * n2)) + (IntKind.i64.wrap v_1)))
rec s0 v_3 t7 (IntKind.i64.wrap (t8 + 1))
else
kexit0 n2
noncomputable def lex_integer_l2 {ρ : Type} (k : Nat) (kret : Int → Bool → Option ρ) (kexit0 : Int → Option ρ) : Nat → ByteArray → Int → Int → Int → Option ρ
  | 0, _, _, _, _ => none
  | n + 1, s0, n2, t7, t8 => lex_integer_l2_b k kret kexit0 (lex_integer_l2 k kret kexit0 n) s0 n2 t7 t8

/-- cadastre/lex.integer -/
noncomputable def lex_integer (k : Nat) (s0 : ByteArray) : Option (Int × Bool) :=
lex_integer_l2 k (fun n2_4 ok3_5 =>
some (n2_4, ok3_5)) (fun n2_6 =>
some (n2_6, true)) k s0 0 (s0.size : Int) 0

noncomputable def lex_quoted_j2 {ρ : Type} (k : Nat) (kret : ByteArray → Int → Bool → Option ρ) (kgoto0 : ByteArray → Int → List Int → Option ρ) (s0 : ByteArray) (at1 : Int) (b7 : List Int) : Option ρ :=
bif (at1 == (s0.size : Int)) then
kret ByteArray.empty 0 false
else
chk (0 ≤ at1 ∧ at1 < (s0.size : Int)) <|
bif (((s0.data.toList.getD at1.toNat 0).toNat : Int) != 39) then
chk (0 ≤ at1 ∧ at1 < (s0.size : Int)) <|
chk ((b7.length + [((s0.data.toList.getD at1.toNat 0).toNat : Int)].length) * 1 ≤ 140737488355328) <|
kgoto0 s0 (IntKind.i64.wrap (at1 + 1)) (b7 ++ [((s0.data.toList.getD at1.toNat 0).toNat : Int)])
else
bif (decide ((IntKind.i64.wrap (at1 + 1)) < (s0.size : Int))) then
chk (0 ≤ (IntKind.i64.wrap (at1 + 1)) ∧ (IntKind.i64.wrap (at1 + 1)) < (s0.size : Int)) <|
let v_1 : Int := ((s0.data.toList.getD (IntKind.i64.wrap (at1 + 1)).toNat 0).toNat : Int)
bif (v_1 == 39) then
chk ((b7.length + [39].length) * 1 ≤ 140737488355328) <|
kgoto0 s0 (IntKind.i64.wrap (at1 + 2)) (b7 ++ [39])
else
kret (strOfNums b7) (IntKind.i64.wrap (at1 + 1)) true
else
kret (strOfNums b7) (IntKind.i64.wrap (at1 + 1)) true

noncomputable def lex_quoted_g0_b {ρ : Type} (k : Nat) (kret : ByteArray → Int → Bool → Option ρ) (rec : ByteArray → Int → (List Int) → Option ρ) (s0 : ByteArray) (at1 : Int) (b7 : List Int) : Option ρ :=
lex_quoted_j2 k kret rec s0 at1 b7
noncomputable def lex_quoted_g0 {ρ : Type} (k : Nat) (kret : ByteArray → Int → Bool → Option ρ) : Nat → ByteArray → Int → (List Int) → Option ρ
  | 0, _, _, _ => none
  | n + 1, s0, at1, b7 => lex_quoted_g0_b k kret (lex_quoted_g0 k kret n) s0 at1 b7

/-- cadastre/lex.quoted -/
noncomputable def lex_quoted (k : Nat) (s0 : ByteArray) (at1 : Int) : Option (ByteArray × Int × Bool) :=
lex_quoted_j2 k (fun text4_2 end5_3 ok6_4 =>
some (text4_2, end5_3, ok6_4)) (fun s0_5 at1_6 b7_7 =>
lex_quoted_g0 k (fun text4_14 end5_15 ok6_16 =>
some (text4_14, end5_15, ok6_16)) k s0_5 at1_6 b7_7) s0 at1 []

/-- cadastre/lex.token$1 -/
noncomputable def lex_token_1 (k : Nat) (c0 : Int) : Option Bool :=
(lex_letter k c0).bind fun r_1 =>
bif r_1 then
some true
else
(lex_digit k c0).bind fun r_2 =>
some r_2

noncomputable def lex_span_f131_l1_b {ρ : Type} (k : Nat) (kexit0 : Int → Option ρ) (rec : ByteArray → Int → Option ρ) (s0 : ByteArray) (at1 : Int) : Option ρ :=
bif (decide (at1 < (s0.size : Int))) then
chk (0 ≤ at1 ∧ at1 < (s0.size : Int)) <|
(lex_token_1 k ((s0.data.toList.getD at1.toNat 0).toNat : Int)).bind fun r_1 =>
bif r_1 then
rec s0 (IntKind.i64.wrap (at1 + 1))
else
kexit0 at1
else
kexit0 at1
noncomputable def lex_span_f131_l1 {ρ : Type} (k : Nat) (kexit0 : Int → Option ρ) : Nat → ByteArray → Int → Option ρ
  | 0, _, _ => none
  | n + 1, s0, at1 => lex_span_f131_l1_b k kexit0 (lex_span_f131_l1 k kexit0 n) s0 at1

/-- cadastre/lex.span -/
noncomputable def lex_span_f131 (k : Nat) (s0 : ByteArray) (at1 : Int) : Option Int :=
lex_span_f131_l1 k (fun at1_2 =>
some at1_2) k s0 at1

noncomputable def lex_span_f128_l1_b {ρ : Type} (k : Nat) (kexit0 : Int → Option ρ) (rec : ByteArray → Int → Option ρ) (s0 : ByteArray) (at1 : Int) : Option ρ :=
bif (decide (at1 < (s0.size : Int))) then
chk (0 ≤ at1 ∧ at1 < (s0.size : Int)) <|
(lex_digit k ((s0.data.toList.getD at1.toNat 0).toNat : Int)).bind fun r_1 =>
bif r_1 then
rec s0 (IntKind.i64.wrap (at1 + 1))
else
kexit0 at1
else
kexit0 at1
noncomputable def lex_span_f128_l1 {ρ : Type} (k : Nat) (kexit0 : Int → Option ρ) : Nat → ByteArray → Int → Option ρ
  | 0, _, _ => none
  | n + 1, s0, at1 => lex_span_f128_l1_b k kexit0 (lex_span_f128_l1 k kexit0 n) s0 at1

/-- cadastre/lex.span -/
noncomputable def lex_span_f128 (k : Nat) (s0 : ByteArray) (at1 : Int) : Option Int :=
lex_span_f128_l1 k (fun at1_2 =>
some at1_2) k s0 at1

noncomputable def lex_token_j3 {ρ : Type} (k : Nat) (kgoto1 : ByteArray → Int → S126 → Option ρ) (kgoto2 : ByteArray → Int → S126 → Option ρ) (kgoto3 : ByteArray → Int → S126 → Option ρ) (kret : Int → Bool → S126 → Option ρ) (s0 : ByteArray) (at1 : Int) (c7 : Int) (t4 : S126) : Option ρ :=
(lex_letter k c7).bind fun r_3 =>
bif r_3 then
kgoto1 s0 at1 t4
else
(lex_digit k c7).bind fun r_4 =>
bif r_4 then
kgoto2 s0 at1 t4
else
bif (c7 == 39) then
kgoto3 s0 at1 t4
else
chk (0 ≤ at1 ∧ at1 ≤ (s0.size : Int) ∧ (s0.size : Int) ≤ (s0.size : Int)) <|
(lex_mark k (s0.extract at1.toNat (s0.size : Int).toNat)).bind fun r_5 =>
bif (decide (r_5 > 0)) then
chk (0 ≤ at1 ∧ at1 ≤ (IntKind.i64.wrap (at1 + r_5)) ∧ (IntKind.i64.wrap (at1 + r_5)) ≤ (s0.size : Int)) <|
let v_6 : Bool := ((s0.extract at1.toNat (IntKind.i64.wrap (at1 + r_5)).toNat).toList == (⟨#[33, 61]⟩ : ByteArray).toList)
bif v_6 then
kret (IntKind.i64.wrap (at1 + r_5)) true (⟨5, (⟨#[60, 62]⟩ : ByteArray), 0⟩ : S126)
else
kret (IntKind.i64.wrap (at1 + r_5)) true (⟨5, (s0.extract at1.toNat (IntKind.i64.wrap (at1 + r_5)).toNat), 0⟩ : S126)
else
kret 0 false (⟨0, ByteArray.empty, 0⟩ : S126)

/-- cadastre/lex.token -/
noncomputable def lex_token (k : Nat) (s0 : ByteArray) (at1 : Int) : Option (S126 × Int × Bool) :=
chk (0 ≤ at1 ∧ at1 < (s0.size : Int)) <|
bif (((s0.data.toList.getD at1.toNat 0).toNat : Int) == 120) then
bif (decide ((IntKind.i64.wrap (at1 + 1)) < (s0.size : Int))) then
chk (0 ≤ (IntKind.i64.wrap (at1 + 1)) ∧ (IntKind.i64.wrap (at1 + 1)) < (s0.size : Int)) <|
let v_1 : Int := ((s0.data.toList.getD (IntKind.i64.wrap (at1 + 1)).toNat 0).toNat : Int)
bif (v_1 == 39) then
(lex_blob k s0 (IntKind.i64.wrap (at1 + 2))).bind fun r_2 =>
some ((⟨4, r_2.1, 0⟩ : S126), r_2.2.1, r_2.2.2)
else
lex_token_j3 k (fun s0_7 at1_8 t4_9 =>
(lex_span_f131 k s0_7 at1_8).bind fun r_10 =>
chk (0 ≤ at1_8 ∧ at1_8 ≤ r_10 ∧ r_10 ≤ (s0_7.size : Int)) <|
(lex_Small k (s0_7.extract at1_8.toNat r_10.toNat)).bind fun r_11 =>
some ((⟨1, r_11, 0⟩ : S126), r_10, true)) (fun s0_12 at1_13 t4_14 =>
(lex_span_f128 k s0_12 at1_13).bind fun r_15 =>
chk (0 ≤ at1_13 ∧ at1_13 ≤ r_15 ∧ r_15 ≤ (s0_12.size : Int)) <|
(lex_integer k (s0_12.extract at1_13.toNat r_15.toNat)).bind fun r_16 =>
some ((⟨2, t4_14.f1, r_16.1⟩ : S126), r_15, r_16.2)) (fun s0_17 at1_18 t4_19 =>
(lex_quoted k s0_17 (IntKind.i64.wrap (at1_18 + 1))).bind fun r_20 =>
some ((⟨3, r_20.1, t4_19.f2⟩ : S126), r_20.2.1, r_20.2.2)) (fun end5_21 ok6_22 t4_23 =>
some (t4_23, end5_21, ok6_22)) s0 at1 ((s0.data.toList.getD at1.toNat 0).toNat : Int) (⟨0, ByteArray.empty, 0⟩ : S126)
else
lex_token_j3 k (fun s0_24 at1_25 t4_26 =>
(lex_span_f131 k s0_24 at1_25).bind fun r_27 =>
chk (0 ≤ at1_25 ∧ at1_25 ≤ r_27 ∧ r_27 ≤ (s0_24.size : Int)) <|
(lex_Small k (s0_24.extract at1_25.toNat r_27.toNat)).bind fun r_28 =>
some ((⟨1, r_28, 0⟩ : S126), r_27, true)) (fun s0_29 at1_30 t4_31 =>
(lex_span_f128 k s0_29 at1_30).bind fun r_32 =>
chk (0 ≤ at1_30 ∧ at1_30 ≤ r_32 ∧ r_32 ≤ (s0_29.size : Int)) <|
(lex_integer k (s0_29.extract at1_30.toNat r_32.toNat)).bind fun r_33 =>
some ((⟨2, t4_31.f1, r_33.1⟩ : S126), r_32, r_33.2)) (fun s0_34 at1_35 t4_36 =>
(lex_quoted k s0_34 (IntKind.i64.wrap (at1_35 + 1))).bind fun r_37 =>
some ((⟨3, r_37.1, t4_36.f2⟩ : S126), r_37.2.1, r_37.2.2)) (fun end5_38 ok6_39 t4_40 =>
some (t4_40, end5_38, ok6_39)) s0 at1 ((s0.data.toList.getD at1.toNat 0).toNat : Int) (⟨0, ByteArray.empty, 0⟩ : S126)
else
bif (((s0.data.toList.getD at1.toNat 0).toNat : Int) == 88) then
bif (decide ((IntKind.i64.wrap (at1 + 1)) < (s0.size : Int))) then
chk (0 ≤ (IntKind.i64.wrap (at1 + 1)) ∧ (IntKind.i64.wrap (at1 + 1)) < (s0.size : Int)) <|
let v_41 : Int := ((s0.data.toList.getD (IntKind.i64.wrap (at1 + 1)).toNat 0).toNat : Int)
bif (v_41 == 39) then
(lex_blob k s0 (IntKind.i64.wrap (at1 + 2))).bind fun r_42 =>
some ((⟨4, r_42.1, 0⟩ : S126), r_42.2.1, r_42.2.2)
else
lex_token_j3 k (fun s0_43 at1_44 t4_45 =>
(lex_span_f131 k s0_43 at1_44).bind fun r_46 =>
chk (0 ≤ at1_44 ∧ at1_44 ≤ r_46 ∧ r_46 ≤ (s0_43.size : Int)) <|
(lex_Small k (s0_43.extract at1_44.toNat r_46.toNat)).bind fun r_47 =>
some ((⟨1, r_47, 0⟩ : S126), r_46, true)) (fun s0_48 at1_49 t4_50 =>
(lex_span_f128 k s0_48 at1_49).bind fun r_51 =>
chk (0 ≤ at1_49 ∧ at1_49 ≤ r_51 ∧ r_51 ≤ (s0_48.size : Int)) <|
(lex_integer k (s0_48.extract at1_49.toNat r_51.toNat)).bind fun r_52 =>
some ((⟨2, t4_50.f1, r_52.1⟩ : S126), r_51, r_52.2)) (fun s0_53 at1_54 t4_55 =>
(lex_quoted k s0_53 (IntKind.i64.wrap (at1_54 + 1))).bind fun r_56 =>
some ((⟨3, r_56.1, t4_55.f2⟩ : S126), r_56.2.1, r_56.2.2)) (fun end5_57 ok6_58 t4_59 =>
some (t4_59, end5_57, ok6_58)) s0 at1 ((s0.data.toList.getD at1.toNat 0).toNat : Int) (⟨0, ByteArray.empty, 0⟩ : S126)
else
lex_token_j3 k (fun s0_60 at1_61 t4_62 =>
(lex_span_f131 k s0_60 at1_61).bind fun r_63 =>
chk (0 ≤ at1_61 ∧ at1_61 ≤ r_63 ∧ r_63 ≤ (s0_60.size : Int)) <|
(lex_Small k (s0_60.extract at1_61.toNat r_63.toNat)).bind fun r_64 =>
some ((⟨1, r_64, 0⟩ : S126), r_63, true)) (fun s0_65 at1_66 t4_67 =>
(lex_span_f128 k s0_65 at1_66).bind fun r_68 =>
chk (0 ≤ at1_66 ∧ at1_66 ≤ r_68 ∧ r_68 ≤ (s0_65.size : Int)) <|
(lex_integer k (s0_65.extract at1_66.toNat r_68.toNat)).bind fun r_69 =>
some ((⟨2, t4_67.f1, r_69.1⟩ : S126), r_68, r_69.2)) (fun s0_70 at1_71 t4_72 =>
(lex_quoted k s0_70 (IntKind.i64.wrap (at1_71 + 1))).bind fun r_73 =>
some ((⟨3, r_73.1, t4_72.f2⟩ : S126), r_73.2.1, r_73.2.2)) (fun end5_74 ok6_75 t4_76 =>
some (t4_76, end5_74, ok6_75)) s0 at1 ((s0.data.toList.getD at1.toNat 0).toNat : Int) (⟨0, ByteArray.empty, 0⟩ : S126)
else
lex_token_j3 k (fun s0_77 at1_78 t4_79 =>
(lex_span_f131 k s0_77 at1_78).bind fun r_80 =>
chk (0 ≤ at1_78 ∧ at1_78 ≤ r_80 ∧ r_80 ≤ (s0_77.size : Int)) <|
(lex_Small k (s0_77.extract at1_78.toNat r_80.toNat)).bind fun r_81 =>
some ((⟨1, r_81, 0⟩ : S126), r_80, true)) (fun s0_82 at1_83 t4_84 =>
(lex_span_f128 k s0_82 at1_83).bind fun r_85 =>
chk (0 ≤ at1_83 ∧ at1_83 ≤ r_85 ∧ r_85 ≤ (s0_82.size : Int)) <|
(lex_integer k (s0_82.extract at1_83.toNat r_85.toNat)).bind fun r_86 =>
some ((⟨2, t4_84.f1, r_86.1⟩ : S126), r_85, r_86.2)) (fun s0_87 at1_88 t4_89 =>
(lex_quoted k s0_87 (IntKind.i64.wrap (at1_88 + 1))).bind fun r_90 =>
some ((⟨3, r_90.1, t4_89.f2⟩ : S126), r_90.2.1, r_90.2.2)) (fun end5_91 ok6_92 t4_93 =>
some (t4_93, end5_91, ok6_92)) s0 at1 ((s0.data.toList.getD at1.toNat 0).toNat : Int) (⟨0, ByteArray.empty, 0⟩ : S126)

/-- cadastre/lex.long -/
noncomputable def lex_long (k : Nat) (t0 : S126) : Option Bool :=
bif (t0.f0 == 1) then
some (decide ((t0.f1.size : Int) > 32))
else
some (big (decide ((t0.f1.size : Int) > 4096)))

noncomputable def lex_Tokens_l6_b {ρ : Type} (k : Nat) (kret : List S126 → Int → Option ρ) (kexit0 : List S126 → Int → Option ρ) (rec : ByteArray → (List S126) → Int → Int → Option ρ) (s0 : ByteArray) (l4 : List S126) (e5 : Int) (at6 : Int) : Option ρ :=
bif (decide (at6 < (s0.size : Int))) then
(lex_token k s0 at6).bind fun r_2 =>
bif (!r_2.2.2) then
kret [] 1
else
(lex_long k r_2.1).bind fun r_3 =>
bif r_3 then
chk ((l4.length + [r_2.1].length) * 32 ≤ 140737488355328) <|
(lex_skip k s0 r_2.2.1).bind fun r_4 =>
rec s0 (l4 ++ [r_2.1]) 7 r_4
else
chk ((l4.length + [r_2.1].length) * 32 ≤ 140737488355328) <|
(lex_skip k s0 r_2.2.1).bind fun r_5 =>
rec s0 (l4 ++ [r_2.1]) e5 r_5
else
kexit0 l4 e5
noncomputable def lex_Tokens_l6 {ρ : Type} (k : Nat) (kret : List S126 → Int → Option ρ) (kexit0 : List S126 → Int → Option ρ) : Nat → ByteArray → (List S126) → Int → Int → Option ρ
  | 0, _, _, _, _ => none
  | n + 1, s0, l4, e5, at6 => lex_Tokens_l6_b k kret kexit0 (lex_Tokens_l6 k kret kexit0 n) s0 l4 e5 at6

/-- cadastre/lex.Tokens -/
noncomputable def lex_Tokens (k : Nat) (s0 : ByteArray) : Option ((List S126) × Int) :=
bif (big (decide ((s0.size : Int) > 8192))) then
some ([], 7)
else
(lex_skip k s0 0).bind fun r_1 =>
lex_Tokens_l6 k (fun t2_6 t3_7 =>
some (t2_6, t3_7)) (fun l4_8 e5_9 =>
bif (e5_9 != 0) then
some ([], e5_9)
else
some (l4_8, 0)) k s0 [] 0 r_1

/-- cadastre/parse.Keys -/
noncomputable def parse_Keys (k : Nat) : Option (List ByteArray) :=
some [(⟨#[97, 110, 100]⟩ : ByteArray), (⟨#[97, 110, 121]⟩ : ByteArray), (⟨#[98, 101, 103, 105, 110]⟩ : ByteArray), (⟨#[98, 108, 111, 98]⟩ : ByteArray), (⟨#[98, 121]⟩ : ByteArray), (⟨#[99, 111, 109, 109, 105, 116]⟩ : ByteArray), (⟨#[99, 111, 117, 110, 116]⟩ : ByteArray), (⟨#[99, 114, 101, 97, 116, 101]⟩ : ByteArray), (⟨#[100, 101, 108, 101, 116, 101]⟩ : ByteArray), (⟨#[100, 101, 115, 99]⟩ : ByteArray), (⟨#[100, 114, 111, 112]⟩ : ByteArray), (⟨#[102, 114, 111, 109]⟩ : ByteArray), (⟨#[105, 110, 100, 101, 120]⟩ : ByteArray), (⟨#[105, 110, 115, 101, 114, 116]⟩ : ByteArray), (⟨#[105, 110, 116, 101, 103, 101, 114]⟩ : ByteArray), (⟨#[105, 110, 116, 111]⟩ : ByteArray), (⟨#[105, 115]⟩ : ByteArray), (⟨#[108, 101, 110, 103, 116, 104]⟩ : ByteArray), (⟨#[109, 97, 120]⟩ : ByteArray), (⟨#[109, 105, 110]⟩ : ByteArray), (⟨#[110, 111, 116]⟩ : ByteArray), (⟨#[110, 117, 108, 108]⟩ : ByteArray), (⟨#[111, 110]⟩ : ByteArray), (⟨#[111, 114]⟩ : ByteArray), (⟨#[111, 114, 100, 101, 114]⟩ : ByteArray), (⟨#[114, 111, 108, 108, 98, 97, 99, 107]⟩ : ByteArray), (⟨#[114, 116, 114, 101, 101]⟩ : ByteArray), (⟨#[115, 101, 108, 101, 99, 116]⟩ : ByteArray), (⟨#[115, 101, 116]⟩ : ByteArray), (⟨#[115, 117, 109]⟩ : ByteArray), (⟨#[116, 97, 98, 108, 101]⟩ : ByteArray), (⟨#[116, 101, 120, 116]⟩ : ByteArray), (⟨#[116, 121, 112, 101, 111, 102]⟩ : ByteArray), (⟨#[117, 110, 105, 113, 117, 101]⟩ : ByteArray), (⟨#[117, 112, 100, 97, 116, 101]⟩ : ByteArray), (⟨#[117, 115, 105, 110, 103]⟩ : ByteArray), (⟨#[118, 97, 108, 117, 101, 115]⟩ : ByteArray), (⟨#[118, 105, 114, 116, 117, 97, 108]⟩ : ByteArray), (⟨#[119, 104, 101, 114, 101]⟩ : ByteArray)]

/-- cmp.isNaN[string] -/
noncomputable def cmp_isNaN_string_ (k : Nat) (x0 : ByteArray) : Option Bool :=
some (!(x0.toList == x0.toList))

/-- cmp.Less[string] -/
noncomputable def cmp_Less_string_ (k : Nat) (x0 : ByteArray) (y1 : ByteArray) : Option Bool :=
(cmp_isNaN_string_ k x0).bind fun r_1 =>
bif r_1 then
(cmp_isNaN_string_ k y1).bind fun r_2 =>
bif (!r_2) then
some true
else
some (Go.Op.bytesLess x0.toList y1.toList)
else
some (Go.Op.bytesLess x0.toList y1.toList)

/-- slices.isNaN[string] -/
noncomputable def slices_isNaN_string_ (k : Nat) (x0 : ByteArray) : Option Bool :=
some (!(x0.toList == x0.toList))

noncomputable def slices_BinarySearch_string_string__l3_b {ρ : Type} (k : Nat) (kexit0 : List ByteArray → ByteArray → Int → Int → Option ρ) (rec : (List ByteArray) → ByteArray → Int → Int → Int → Option ρ) (x0 : List ByteArray) (target1 : ByteArray) (n6 : Int) (i7 : Int) (j8 : Int) : Option ρ :=
bif (decide (i7 < j8)) then
let v_1 : Int := (Int.fdiv (IntKind.u64.wrap (IntKind.i64.wrap (i7 + j8))) (2 ^ (min (1 : Int).toNat (IntKind.u64).bits)))
chk (0 ≤ (IntKind.i64.wrap v_1) ∧ (IntKind.i64.wrap v_1) < (x0.length : Int)) <|
(cmp_Less_string_ k (x0.getD (IntKind.i64.wrap v_1).toNat ByteArray.empty) target1).bind fun r_2 =>
bif r_2 then
rec x0 target1 n6 (IntKind.i64.wrap ((IntKind.i64.wrap v_1) + 1)) j8
else
rec x0 target1 n6 i7 (IntKind.i64.wrap v_1)
else
kexit0 x0 target1 n6 i7
noncomputable def slices_BinarySearch_string_string__l3 {ρ : Type} (k : Nat) (kexit0 : List ByteArray → ByteArray → Int → Int → Option ρ) : Nat → (List ByteArray) → ByteArray → Int → Int → Int → Option ρ
  | 0, _, _, _, _, _ => none
  | n + 1, x0, target1, n6, i7, j8 => slices_BinarySearch_string_string__l3_b k kexit0 (slices_BinarySearch_string_string__l3 k kexit0 n) x0 target1 n6 i7 j8

/-- slices.BinarySearch[[]string,string] -/
noncomputable def slices_BinarySearch_string_string_ (k : Nat) (x0 : List ByteArray) (target1 : ByteArray) : Option (Int × Bool) :=
slices_BinarySearch_string_string__l3 k (fun x0_3 target1_4 n6_5 i7_6 =>
bif (decide (i7_6 < n6_5)) then
chk (0 ≤ i7_6 ∧ i7_6 < (x0_3.length : Int)) <|
bif ((x0_3.getD i7_6.toNat ByteArray.empty).toList == target1_4.toList) then
some (i7_6, true)
else
chk (0 ≤ i7_6 ∧ i7_6 < (x0_3.length : Int)) <|
(slices_isNaN_string_ k (x0_3.getD i7_6.toNat ByteArray.empty)).bind fun r_7 =>
bif r_7 then
(slices_isNaN_string_ k target1_4).bind fun r_8 =>
some (i7_6, r_8)
else
some (i7_6, false)
else
some (i7_6, false)) k x0 target1 (x0.length : Int) 0 (x0.length : Int)

/-- cadastre/parse.Name -/
noncomputable def parse_Name (k : Nat) (s0 : ByteArray) : Option Bool :=
(parse_Keys k).bind fun r_1 =>
(slices_BinarySearch_string_string_ k r_1 s0).bind fun r_2 =>
some (!r_2.2)

/-- cadastre/print.Name -/
noncomputable def print_Name (k : Nat) (s0 : ByteArray) : Option Bool :=
(lex_Tokens k s0).bind fun r_1 =>
bif (r_1.2 == 0) then
bif ((r_1.1.length : Int) == 1) then
chk (0 ≤ (0 : Int) ∧ (0 : Int) < (r_1.1.length : Int)) <|
bif ((r_1.1.getD 0 default).f0 == 1) then
chk (0 ≤ (0 : Int) ∧ (0 : Int) < (r_1.1.length : Int)) <|
bif ((r_1.1.getD 0 default).f1.toList == s0.toList) then
(parse_Name k s0).bind fun r_2 =>
some r_2
else
some false
else
some false
else
some false
else
some false

/-- cadastre/print.one -/
noncomputable def print_one (k : Nat) (e0 : S25) : Option Bool :=
(print_args k e0.f0).bind fun r_1 =>
bif ((e0.f4.length : Int) != r_1) then
some false
else
bif (e0.f0 == 1) then
(print_literal k e0.f1).bind fun r_2 =>
bif r_2 then
bif (e0.f2.toList == ByteArray.empty.toList) then
some (e0.f3.toList == ByteArray.empty.toList)
else
some false
else
some false
else
bif (e0.f0 == 2) then
let v_3 : Bool := ((e0.f1.f0 == 0) && ((e0.f1.f1 == 0) && (e0.f1.f2 == ByteArray.empty)))
bif v_3 then
(print_Name k e0.f3).bind fun r_4 =>
bif r_4 then
bif (e0.f2.toList == ByteArray.empty.toList) then
some true
else
(print_Name k e0.f2).bind fun r_5 =>
some r_5
else
some false
else
some false
else
let v_6 : Bool := ((e0.f1.f0 == 0) && ((e0.f1.f1 == 0) && (e0.f1.f2 == ByteArray.empty)))
bif v_6 then
bif (e0.f2.toList == ByteArray.empty.toList) then
some (e0.f3.toList == ByteArray.empty.toList)
else
some false
else
some false

/-- what the functions that call each other answer -/
structure print_count_R where
  print_count : S25 → Int → Option Int
noncomputable def print_count_l5_b {ρ : Type} (k : Nat) (rc : print_count_R) (kret : Int → Option ρ) (kexit0 : Int → Option ρ) (rec : Int → Int → (List T25) → Int → Int → Option ρ) (high1 : Int) (n5 : Int) (t17 : List T25) (t18 : Int) (t19 : Int) : Option ρ :=
bif (decide (t19 < t18)) then
chk (0 ≤ t19 ∧ t19 < (t17.length : Int)) <|
(rc.print_count (t17.getD t19.toNat default).s (IntKind.i64.wrap (high1 - 1))).bind fun r_2 =>
bif (decide (r_2 < 0)) then
kret (-1)
else
rec high1 (IntKind.i64.wrap (n5 + r_2)) t17 t18 (IntKind.i64.wrap (t19 + 1))
else
kexit0 n5
noncomputable def print_count_l5 {ρ : Type} (k : Nat) (rc : print_count_R) (kret : Int → Option ρ) (kexit0 : Int → Option ρ) : Nat → Int → Int → (List T25) → Int → Int → Option ρ
  | 0, _, _, _, _, _ => none
  | n + 1, high1, n5, t17, t18, t19 => print_count_l5_b k rc kret kexit0 (print_count_l5 k rc kret kexit0 n) high1 n5 t17 t18 t19

noncomputable def print_count_j3 {ρ : Type} (k : Nat) (rc : print_count_R) (kret : Int → Option ρ) (high1 : Int) (e2 : S25) : Option ρ :=
print_count_l5 k rc kret kret k high1 1 e2.f4 (e2.f4.length : Int) 0

/-- cadastre/print.count -/
noncomputable def print_count_r (k : Nat) (rc : print_count_R) (e0 : S25) (high1 : Int) : Option Int :=
bif (high1 == 0) then
some (-1)
else
(print_one k e0).bind fun r_1 =>
bif (!r_1) then
some (-1)
else
print_count_j3 k rc (fun t4_5 =>
some t4_5) high1 e0
noncomputable def print_count_R_it (k : Nat) : Nat → print_count_R
  | 0 => ⟨fun _ _ => none⟩
  | d + 1 => ⟨print_count_r k (print_count_R_it k d)⟩
/-- cadastre/print.count -/
noncomputable def print_count (k : Nat) (e0 : S25) (high1 : Int) : Option Int := (print_count_R_it k k).print_count e0 high1

/-- cadastre/print.Good -/
noncomputable def print_Good (k : Nat) (e0 : S25) : Option Bool :=
(print_count k e0 20).bind fun r_1 =>
bif (decide (r_1 > 0)) then
some (decide (r_1 ≤ 200))
else
some false

/-- strconv.FormatInt -/
noncomputable def strconv_FormatInt (_ : Nat) (c0 : Int) (c1 : Int) : Option ByteArray :=
chk (c1 = 10 ∧ big (decide (-9223372036854775808 ≤ c0 ∧ c0 ≤ 9223372036854775807)) = true) (some ⟨(Lib.itoa c0).toArray⟩)

noncomputable def print_quote_l3_b {ρ : Type} (k : Nat) (kexit0 : List Int → Option ρ) (rec : ByteArray → (List Int) → Int → Int → Option ρ) (s0 : ByteArray) (b3 : List Int) (t7 : Int) (t8 : Int) : Option ρ :=
bif (decide (t8 < t7)) then
chk (0 ≤ t8 ∧ t8 < (s0.size : Int)) <|
bif (((s0.data.toList.getD t8.toNat 0).toNat : Int) == 39) then
chk ((b3.length + [39].length) * 1 ≤ 140737488355328) <|
chk (0 ≤ t8 ∧ t8 < (s0.size : Int)) <|
chk (((b3 ++ [39]).length + [((s0.data.toList.getD t8.toNat 0).toNat : Int)].length) * 1 ≤ 140737488355328) <|
rec s0 ((b3 ++ [39]) ++ [((s0.data.toList.getD t8.toNat 0).toNat : Int)]) t7 (IntKind.i64.wrap (t8 + 1))
else
chk (0 ≤ t8 ∧ t8 < (s0.size : Int)) <|
chk ((b3.length + [((s0.data.toList.getD t8.toNat 0).toNat : Int)].length) * 1 ≤ 140737488355328) <|
rec s0 (b3 ++ [((s0.data.toList.getD t8.toNat 0).toNat : Int)]) t7 (IntKind.i64.wrap (t8 + 1))
else
kexit0 b3
noncomputable def print_quote_l3 {ρ : Type} (k : Nat) (kexit0 : List Int → Option ρ) : Nat → ByteArray → (List Int) → Int → Int → Option ρ
  | 0, _, _, _, _ => none
  | n + 1, s0, b3, t7, t8 => print_quote_l3_b k kexit0 (print_quote_l3 k kexit0 n) s0 b3 t7 t8

/-- cadastre/print.quote -/
noncomputable def print_quote (k : Nat) (s0 : ByteArray) : Option ByteArray :=
print_quote_l3 k (fun b3_1 =>
chk ((b3_1.length + [39].length) * 1 ≤ 140737488355328) <|
some (strOfNums (b3_1 ++ [39]))) k s0 [39] (s0.size : Int) 0

noncomputable def print_hex_l3_b {ρ : Type} (k : Nat) (kexit0 : List Int → Option ρ) (rec : ByteArray → (List Int) → Int → Int → Option ρ) (s0 : ByteArray) (b3 : List Int) (t6 : Int) (t7 : Int) : Option ρ :=
bif (decide (t7 < t6)) then
chk (0 ≤ t7 ∧ t7 < (s0.size : Int)) <|
let v_1 : Int := (Int.fdiv ((s0.data.toList.getD t7.toNat 0).toNat : Int) (2 ^ (min (4 : Int).toNat (IntKind.u8).bits)))
chk (0 ≤ v_1 ∧ v_1 < ((⟨#[48, 49, 50, 51, 52, 53, 54, 55, 56, 57, 97, 98, 99, 100, 101, 102]⟩ : ByteArray).size : Int)) <|
let v_2 : Int := (((⟨#[48, 49, 50, 51, 52, 53, 54, 55, 56, 57, 97, 98, 99, 100, 101, 102]⟩ : ByteArray).data.toList.getD v_1.toNat 0).toNat : Int)
chk (0 ≤ t7 ∧ t7 < (s0.size : Int)) <|
let v_3 : Int := (IntKind.u8.wrap (BitVec.ofInt (IntKind.u8).bits ((s0.data.toList.getD t7.toNat 0).toNat : Int) &&& BitVec.ofInt (IntKind.u8).bits 15).toNat)
chk (0 ≤ v_3 ∧ v_3 < ((⟨#[48, 49, 50, 51, 52, 53, 54, 55, 56, 57, 97, 98, 99, 100, 101, 102]⟩ : ByteArray).size : Int)) <|
let v_4 : Int := (((⟨#[48, 49, 50, 51, 52, 53, 54, 55, 56, 57, 97, 98, 99, 100, 101, 102]⟩ : ByteArray).data.toList.getD v_3.toNat 0).toNat : Int)
chk ((b3.length + [v_2, v_4].length) * 1 ≤ 140737488355328) <|
rec s0 (b3 ++ [v_2, v_4]) t6 (IntKind.i64.wrap (t7 + 1))
else
kexit0 b3
noncomputable def print_hex_l3 {ρ : Type} (k : Nat) (kexit0 : List Int → Option ρ) : Nat → ByteArray → (List Int) → Int → Int → Option ρ
  | 0, _, _, _, _ => none
  | n + 1, s0, b3, t6, t7 => print_hex_l3_b k kexit0 (print_hex_l3 k kexit0 n) s0 b3 t6 t7

/-- cadastre/print.hex -/
noncomputable def print_hex (k : Nat) (s0 : ByteArray) : Option ByteArray :=
print_hex_l3 k (fun b3_5 =>
some (strOfNums b3_5)) k s0 [] (s0.size : Int) 0

/-- cadastre/print.Aggregate -/
noncomputable def print_Aggregate (k : Nat) (op0 : Int) : Option Bool :=
bif (decide (op0 ≥ 23)) then
some (decide (op0 ≤ 26))
else
some false

/-- cadastre/print.Function -/
noncomputable def print_Function (k : Nat) (op0 : Int) : Option Bool :=
bif (op0 == 7) then
some true
else
bif (op0 == 8) then
some true
else
(print_Aggregate k op0).bind fun r_1 =>
some r_1

noncomputable def print_writer_put_p0_j6 {ρ : Type} (k : Nat) (kgoto0 : List ByteArray → Int → List Int → Bool → Option ρ) (l1 : List ByteArray) (i4 : Int) (s5 : ByteArray) (t1000_0 : List Int) (t1000_1 : Bool) : Option ρ :=
chk ((t1000_0.length + (bytesOf s5).length) * 1 ≤ 140737488355328) <|
bif (s5.toList == (⟨#[40]⟩ : ByteArray).toList) then
kgoto0 l1 i4 (t1000_0 ++ (bytesOf s5)) true
else
kgoto0 l1 i4 (t1000_0 ++ (bytesOf s5)) (s5.toList == (⟨#[46]⟩ : ByteArray).toList)

noncomputable def print_writer_put_p0_j5 {ρ : Type} (k : Nat) (kgoto0 : List ByteArray → Int → List Int → Bool → Option ρ) (l1 : List ByteArray) (i4 : Int) (s5 : ByteArray) (t1000_0 : List Int) (t1000_1 : Bool) : Option ρ :=
chk ((t1000_0.length + [32].length) * 1 ≤ 140737488355328) <|
print_writer_put_p0_j6 k kgoto0 l1 i4 s5 (t1000_0 ++ [32]) t1000_1

noncomputable def print_writer_put_p0_j1 {ρ : Type} (k : Nat) (kret : List Int → Bool → Option ρ) (kgoto1 : List ByteArray → Int → ByteArray → List Int → Bool → Option ρ) (kgoto0 : List ByteArray → Int → List Int → Bool → Option ρ) (l1 : List ByteArray) (i4 : Int) (t1000_0 : List Int) (t1000_1 : Bool) : Option ρ :=
bif (i4 == (l1.length : Int)) then
kret t1000_0 t1000_1
else
chk (0 ≤ i4 ∧ i4 < (l1.length : Int)) <|
bif ((t1000_0.length : Int) == 0) then
kgoto1 l1 (IntKind.i64.wrap (i4 + 1)) (l1.getD i4.toNat ByteArray.empty) t1000_0 t1000_1
else
bif t1000_1 then
kgoto1 l1 (IntKind.i64.wrap (i4 + 1)) (l1.getD i4.toNat ByteArray.empty) t1000_0 t1000_1
else
let v_1 : Bool := ((l1.getD i4.toNat ByteArray.empty).toList == (⟨#[41]⟩ : ByteArray).toList)
bif v_1 then
kgoto1 l1 (IntKind.i64.wrap (i4 + 1)) (l1.getD i4.toNat ByteArray.empty) t1000_0 t1000_1
else
let v_2 : Bool := ((l1.getD i4.toNat ByteArray.empty).toList == (⟨#[46]⟩ : ByteArray).toList)
bif v_2 then
kgoto1 l1 (IntKind.i64.wrap (i4 + 1)) (l1.getD i4.toNat ByteArray.empty) t1000_0 t1000_1
else
let v_3 : Bool := ((l1.getD i4.toNat ByteArray.empty).toList == (⟨#[44]⟩ : ByteArray).toList)
bif v_3 then
kgoto1 l1 (IntKind.i64.wrap (i4 + 1)) (l1.getD i4.toNat ByteArray.empty) t1000_0 t1000_1
else
print_writer_put_p0_j5 k kgoto0 l1 (IntKind.i64.wrap (i4 + 1)) (l1.getD i4.toNat ByteArray.empty) t1000_0 t1000_1

noncomputable def print_writer_put_p0_g0_b {ρ : Type} (k : Nat) (kret : List Int → Bool → Option ρ) (rec : (List ByteArray) → Int → (List Int) → Bool → Option ρ) (l1 : List ByteArray) (i4 : Int) (t1000_0 : List Int) (t1000_1 : Bool) : Option ρ :=
print_writer_put_p0_j1 k kret (fun l1_25 i4_26 s5_27 t1000_28 t1000_29 =>
print_writer_put_p0_j6 k rec l1_25 i4_26 s5_27 t1000_28 t1000_29) rec l1 i4 t1000_0 t1000_1
noncomputable def print_writer_put_p0_g0 {ρ : Type} (k : Nat) (kret : List Int → Bool → Option ρ) : Nat → (List ByteArray) → Int → (List Int) → Bool → Option ρ
  | 0, _, _, _, _ => none
  | n + 1, l1, i4, t1000_0, t1000_1 => print_writer_put_p0_g0_b k kret (print_writer_put_p0_g0 k kret n) l1 i4 t1000_0 t1000_1

/-- (*cadastre/print.writer).put -/
noncomputable def print_writer_put_p0 (k : Nat) (l1 : List ByteArray) (bx0 : S51) : Option ((Unit) × S51) :=
print_writer_put_p0_j1 k (fun t1000_12 t1000_13 =>
some ((), (⟨t1000_12, t1000_13⟩ : S51))) (fun l1_14 i4_15 s5_16 t1000_17 t1000_18 =>
print_writer_put_p0_j6 k (fun l1_19 i4_20 t1000_21 t1000_22 =>
print_writer_put_p0_g0 k (fun t1000_38 t1000_39 =>
some ((), (⟨t1000_38, t1000_39⟩ : S51))) k l1_19 i4_20 t1000_21 t1000_22) l1_14 i4_15 s5_16 t1000_17 t1000_18) (fun l1_40 i4_41 t1000_42 t1000_43 =>
print_writer_put_p0_g0 k (fun t1000_44 t1000_45 =>
some ((), (⟨t1000_44, t1000_45⟩ : S51))) k l1_40 i4_41 t1000_42 t1000_43) l1 0 bx0.f0 bx0.f1

/-- (*cadastre/print.writer).literal -/
noncomputable def print_writer_literal_p0 (k : Nat) (v1 : S23) (bx0 : S51) : Option ((Unit) × S51) :=
bif (v1.f0 == 0) then
(print_writer_put_p0 k [(⟨#[110, 117, 108, 108]⟩ : ByteArray)] bx0).bind fun r_1 =>
some ((), r_1.2)
else
bif (v1.f0 == 1) then
(strconv_FormatInt k v1.f1 10).bind fun r_2 =>
(print_writer_put_p0 k [r_2] bx0).bind fun r_3 =>
some ((), r_3.2)
else
bif (v1.f0 == 2) then
(print_quote k v1.f2).bind fun r_4 =>
(print_writer_put_p0 k [r_4] bx0).bind fun r_5 =>
some ((), r_5.2)
else
(print_hex k v1.f2).bind fun r_6 =>
chk (strFits (⟨#[120, 39]⟩ : ByteArray) r_6) <|
chk (strFits (cat (⟨#[120, 39]⟩ : ByteArray) r_6) (⟨#[39]⟩ : ByteArray)) <|
(print_writer_put_p0 k [(cat (cat (⟨#[120, 39]⟩ : ByteArray) r_6) (⟨#[39]⟩ : ByteArray))] bx0).bind fun r_7 =>
some ((), r_7.2)

/-- (*cadastre/print.writer).expr -/
noncomputable def print_writer_expr_p0 (k : Nat) (e1 : S25) (bx0 : S51) : Option ((Unit) × S51) :=
bif (e1.f0 == 1) then
(print_writer_literal_p0 k e1.f1 bx0).bind fun r_1 =>
some ((), r_1.2)
else
bif (e1.f0 == 2) then
bif (!(e1.f2.toList == ByteArray.empty.toList)) then
(print_writer_put_p0 k [e1.f2, (⟨#[46]⟩ : ByteArray)] bx0).bind fun r_2 =>
(print_writer_put_p0 k [e1.f3] r_2.2).bind fun r_3 =>
some ((), r_3.2)
else
(print_writer_put_p0 k [e1.f3] bx0).bind fun r_4 =>
some ((), r_4.2)
else
bif (e1.f0 == 23) then
(print_writer_put_p0 k [(⟨#[99, 111, 117, 110, 116]⟩ : ByteArray)] bx0).bind fun r_5 =>
none
else
(print_Function k e1.f0).bind fun r_6 =>
bif r_6 then
none
else
bif (e1.f0 == 3) then
(print_writer_put_p0 k [(⟨#[45]⟩ : ByteArray)] bx0).bind fun r_7 =>
chk (0 ≤ (0 : Int) ∧ (0 : Int) < (e1.f4.length : Int)) <|
none
else
bif (e1.f0 == 4) then
(print_writer_put_p0 k [(⟨#[110, 111, 116]⟩ : ByteArray)] bx0).bind fun r_8 =>
chk (0 ≤ (0 : Int) ∧ (0 : Int) < (e1.f4.length : Int)) <|
none
else
bif (e1.f0 == 5) then
chk (0 ≤ (0 : Int) ∧ (0 : Int) < (e1.f4.length : Int)) <|
none
else
bif (e1.f0 == 6) then
chk (0 ≤ (0 : Int) ∧ (0 : Int) < (e1.f4.length : Int)) <|
none
else
chk (0 ≤ (0 : Int) ∧ (0 : Int) < (e1.f4.length : Int)) <|
none

/-- cadastre/print.Expr -/
noncomputable def print_Expr (k : Nat) (e0 : S25) : Option (ByteArray × Int) :=
(print_Good k e0).bind fun r_1 =>
bif (!r_1) then
some (ByteArray.empty, 1)
else
(print_writer_expr_p0 k e0 (⟨[], false⟩ : S51)).bind fun r_2 =>
some ((strOfNums r_2.2.f0), 0)

/-- cadastre/cadastrelaw21.num -/
noncomputable def cadastrelaw21_num (k : Nat) (e0 : Int) : Option Int :=
some e0

/-- cadastre/print.bare -/
noncomputable def print_bare (k : Nat) (s0 : S60) : Option S60 :=
some (⟨0, s0.f1, s0.f2, s0.f3, s0.f4, s0.f5, s0.f6, s0.f7, s0.f8, s0.f9, s0.f10, s0.f11, s0.f12⟩ : S60)

noncomputable def print_names_l2_b {ρ : Type} (k : Nat) (kret : Bool → Option ρ) (kexit0 : Option ρ) (rec : (List ByteArray) → Int → Int → Option ρ) (t5 : List ByteArray) (t6 : Int) (t7 : Int) : Option ρ :=
bif (decide (t7 < t6)) then
chk (0 ≤ t7 ∧ t7 < (t5.length : Int)) <|
(print_Name k (t5.getD t7.toNat ByteArray.empty)).bind fun r_1 =>
bif (!r_1) then
kret false
else
rec t5 t6 (IntKind.i64.wrap (t7 + 1))
else
kexit0
noncomputable def print_names_l2 {ρ : Type} (k : Nat) (kret : Bool → Option ρ) (kexit0 : Option ρ) : Nat → (List ByteArray) → Int → Int → Option ρ
  | 0, _, _, _ => none
  | n + 1, t5, t6, t7 => print_names_l2_b k kret kexit0 (print_names_l2 k kret kexit0 n) t5 t6 t7

/-- cadastre/print.names -/
noncomputable def print_names (k : Nat) (l0 : List ByteArray) : Option Bool :=
print_names_l2 k (fun t2_2 =>
some t2_2) (some true) k l0 (l0.length : Int) 0

/-- cadastre/value.Type -/
noncomputable def value_Type (k : Nat) (t0 : Int) : Option Bool :=
bif (decide (t0 ≥ 1)) then
some (decide (t0 ≤ 4))
else
some false

/-- cadastre/print.many[cadastre/api.Column] -/
noncomputable def api_Column__110 (k : Nat) (l0 : List S113) (least1 : Int) (most2 : Int) : Option Bool :=
bif (decide ((l0.length : Int) ≥ least1)) then
some (decide ((l0.length : Int) ≤ most2))
else
some false

noncomputable def print_columns_l2_b {ρ : Type} (k : Nat) (kret : Bool → Option ρ) (kexit0 : List S113 → Bool → Option ρ) (rec : (List S113) → Bool → (List S113) → Int → Int → Option ρ) (l0 : List S113) (virtual1 : Bool) (t7 : List S113) (t8 : Int) (t9 : Int) : Option ρ :=
bif (decide (t9 < t8)) then
chk (0 ≤ t9 ∧ t9 < (t7.length : Int)) <|
(print_Name k (t7.getD t9.toNat default).f0).bind fun r_1 =>
bif (!r_1) then
kret false
else
(value_Type k (t7.getD t9.toNat default).f1).bind fun r_2 =>
bif (!r_2) then
kret false
else
bif virtual1 then
bif ((t7.getD t9.toNat default).f1 != 2) then
kret false
else
bif (!(t7.getD t9.toNat default).f2) then
kret false
else
rec l0 virtual1 t7 t8 (IntKind.i64.wrap (t9 + 1))
else
rec l0 virtual1 t7 t8 (IntKind.i64.wrap (t9 + 1))
else
kexit0 l0 virtual1
noncomputable def print_columns_l2 {ρ : Type} (k : Nat) (kret : Bool → Option ρ) (kexit0 : List S113 → Bool → Option ρ) : Nat → (List S113) → Bool → (List S113) → Int → Int → Option ρ
  | 0, _, _, _, _, _ => none
  | n + 1, l0, virtual1, t7, t8, t9 => print_columns_l2_b k kret kexit0 (print_columns_l2 k kret kexit0 n) l0 virtual1 t7 t8 t9

/-- cadastre/print.columns -/
noncomputable def print_columns (k : Nat) (l0 : List S113) (virtual1 : Bool) : Option Bool :=
print_columns_l2 k (fun t4_3 =>
some t4_3) (fun l0_4 virtual1_5 =>
bif virtual1_5 then
some ((l0_4.length : Int) == 5)
else
(api_Column__110 k l0_4 1 16).bind fun r_6 =>
some r_6) k l0 virtual1 l0 (l0.length : Int) 0

/-- cadastre/print.many[string] -/
noncomputable def print_many_string_ (k : Nat) (l0 : List ByteArray) (least1 : Int) (most2 : Int) : Option Bool :=
bif (decide ((l0.length : Int) ≥ least1)) then
some (decide ((l0.length : Int) ≤ most2))
else
some false

/-- cadastre/print.many[cadastre/api.Expr] -/
noncomputable def api_Expr__83 (k : Nat) (l0 : List T25) (least1 : Int) (most2 : Int) : Option Bool :=
bif (decide ((l0.length : Int) ≥ least1)) then
some (decide ((l0.length : Int) ≤ most2))
else
some false

/-- cadastre/print.many[cadastre/api.Set] -/
noncomputable def api_Set__84 (k : Nat) (l0 : List S90) (least1 : Int) (most2 : Int) : Option Bool :=
bif (decide ((l0.length : Int) ≥ least1)) then
some (decide ((l0.length : Int) ≤ most2))
else
some false

noncomputable def print_kinds_j5 {ρ : Type} (k : Nat) (kret : Bool → S60 → Option ρ) (s1 : S60) (rest2 : S60) : Option ρ :=
(print_names k [s1.f1]).bind fun r_2 =>
bif r_2 then
(print_columns k s1.f4 (s1.f0 == 2)).bind fun r_3 =>
kret r_3 (⟨rest2.f0, ByteArray.empty, rest2.f2, rest2.f3, [], rest2.f5, rest2.f6, rest2.f7, rest2.f8, rest2.f9, rest2.f10, rest2.f11, rest2.f12⟩ : S60)
else
kret false (⟨rest2.f0, ByteArray.empty, rest2.f2, rest2.f3, [], rest2.f5, rest2.f6, rest2.f7, rest2.f8, rest2.f9, rest2.f10, rest2.f11, rest2.f12⟩ : S60)

noncomputable def print_kinds_j12 {ρ : Type} (k : Nat) (kret : Bool → S60 → Option ρ) (s1 : S60) (rest2 : S60) : Option ρ :=
(print_names k [s1.f1]).bind fun r_11 =>
kret r_11 (⟨rest2.f0, ByteArray.empty, rest2.f2, rest2.f3, rest2.f4, rest2.f5, rest2.f6, rest2.f7, rest2.f8, rest2.f9, rest2.f10, rest2.f11, rest2.f12⟩ : S60)

noncomputable def print_kinds_l18_b {ρ : Type} (k : Nat) (kexit1 : Bool → S60 → Option ρ) (rec : Bool → (List (List T25)) → Int → Int → S60 → Option ρ) (ok3 : Bool) (t77 : List (List T25)) (t78 : Int) (t79 : Int) (rest2 : S60) : Option ρ :=
bif (decide (t79 < t78)) then
chk (0 ≤ t79 ∧ t79 < (t77.length : Int)) <|
bif ok3 then
(api_Expr__83 k (t77.getD t79.toNat []) 1 16).bind fun r_17 =>
rec r_17 t77 t78 (IntKind.i64.wrap (t79 + 1)) rest2
else
rec false t77 t78 (IntKind.i64.wrap (t79 + 1)) rest2
else
kexit1 ok3 rest2
noncomputable def print_kinds_l18 {ρ : Type} (k : Nat) (kexit1 : Bool → S60 → Option ρ) : Nat → Bool → (List (List T25)) → Int → Int → S60 → Option ρ
  | 0, _, _, _, _, _ => none
  | n + 1, ok3, t77, t78, t79, rest2 => print_kinds_l18_b k kexit1 (print_kinds_l18 k kexit1 n) ok3 t77 t78 t79 rest2

noncomputable def print_kinds_j17 {ρ : Type} (k : Nat) (kret : Bool → S60 → Option ρ) (ok3 : Bool) (s1 : S60) (rest2 : S60) : Option ρ :=
print_kinds_l18 k kret k ok3 s1.f6 (s1.f6.length : Int) 0 rest2

noncomputable def print_kinds_l30_b {ρ : Type} (k : Nat) (kexit3 : Bool → S60 → Option ρ) (rec : Bool → (List S90) → Int → Int → S60 → Option ρ) (ok3 : Bool) (t127 : List S90) (t128 : Int) (t129 : Int) (rest2 : S60) : Option ρ :=
bif (decide (t129 < t128)) then
chk (0 ≤ t129 ∧ t129 < (t127.length : Int)) <|
bif ok3 then
(print_Name k (t127.getD t129.toNat default).f0).bind fun r_27 =>
rec r_27 t127 t128 (IntKind.i64.wrap (t129 + 1)) rest2
else
rec false t127 t128 (IntKind.i64.wrap (t129 + 1)) rest2
else
kexit3 ok3 rest2
noncomputable def print_kinds_l30 {ρ : Type} (k : Nat) (kexit3 : Bool → S60 → Option ρ) : Nat → Bool → (List S90) → Int → Int → S60 → Option ρ
  | 0, _, _, _, _, _ => none
  | n + 1, ok3, t127, t128, t129, rest2 => print_kinds_l30_b k kexit3 (print_kinds_l30 k kexit3 n) ok3 t127 t128 t129 rest2

noncomputable def print_kinds_j29 {ρ : Type} (k : Nat) (kret : Bool → S60 → Option ρ) (ok3 : Bool) (s1 : S60) (rest2 : S60) : Option ρ :=
print_kinds_l30 k kret k ok3 s1.f7 (s1.f7.length : Int) 0 rest2

noncomputable def print_kinds_j38 {ρ : Type} (k : Nat) (kret : Bool → S60 → Option ρ) (ok3 : Bool) (s1 : S60) (rest2 : S60) : Option ρ :=
bif ok3 then
bif s1.f9 then
bif ((s1.f10.length : Int) == 0) then
kret true rest2
else
bif (!s1.f9) then
(api_Expr__83 k s1.f10 1 16).bind fun r_38 =>
kret r_38 rest2
else
kret false rest2
else
bif (!s1.f9) then
(api_Expr__83 k s1.f10 1 16).bind fun r_39 =>
kret r_39 rest2
else
kret false rest2
else
kret false rest2

noncomputable def print_kinds_j14 {ρ : Type} (k : Nat) (kret : Bool → S60 → Option ρ) (knxt : S60 → Option ρ) (t11 : Int) (s1 : S60) (rest2 : S60) : Option ρ :=
bif (t11 == 6) then
(print_names k [s1.f2]).bind fun r_16 =>
bif r_16 then
print_kinds_j17 k kret (decide ((s1.f6.length : Int) > 0)) s1 (⟨rest2.f0, rest2.f1, ByteArray.empty, rest2.f3, rest2.f4, rest2.f5, [], rest2.f7, rest2.f8, rest2.f9, rest2.f10, rest2.f11, rest2.f12⟩ : S60)
else
print_kinds_j17 k kret false s1 (⟨rest2.f0, rest2.f1, ByteArray.empty, rest2.f3, rest2.f4, rest2.f5, [], rest2.f7, rest2.f8, rest2.f9, rest2.f10, rest2.f11, rest2.f12⟩ : S60)
else
bif (t11 == 7) then
(print_names k [s1.f2]).bind fun r_24 =>
bif r_24 then
kret (decide ((s1.f11.length : Int) ≤ 1)) (⟨rest2.f0, rest2.f1, ByteArray.empty, rest2.f3, rest2.f4, rest2.f5, rest2.f6, rest2.f7, rest2.f8, rest2.f9, rest2.f10, [], rest2.f12⟩ : S60)
else
kret false (⟨rest2.f0, rest2.f1, ByteArray.empty, rest2.f3, rest2.f4, rest2.f5, rest2.f6, rest2.f7, rest2.f8, rest2.f9, rest2.f10, [], rest2.f12⟩ : S60)
else
bif (t11 == 8) then
(print_names k [s1.f2]).bind fun r_25 =>
bif r_25 then
(api_Set__84 k s1.f7 1 16).bind fun r_26 =>
bif r_26 then
print_kinds_j29 k kret (decide ((s1.f11.length : Int) ≤ 1)) s1 (⟨rest2.f0, rest2.f1, ByteArray.empty, rest2.f3, rest2.f4, rest2.f5, rest2.f6, [], rest2.f8, rest2.f9, rest2.f10, [], rest2.f12⟩ : S60)
else
print_kinds_j29 k kret false s1 (⟨rest2.f0, rest2.f1, ByteArray.empty, rest2.f3, rest2.f4, rest2.f5, rest2.f6, [], rest2.f8, rest2.f9, rest2.f10, [], rest2.f12⟩ : S60)
else
print_kinds_j29 k kret false s1 (⟨rest2.f0, rest2.f1, ByteArray.empty, rest2.f3, rest2.f4, rest2.f5, rest2.f6, [], rest2.f8, rest2.f9, rest2.f10, [], rest2.f12⟩ : S60)
else
bif (t11 == 9) then
(print_many_string_ k s1.f8 1 3).bind fun r_36 =>
bif r_36 then
(print_names k s1.f8).bind fun r_37 =>
bif r_37 then
bif (decide ((s1.f11.length : Int) ≤ 1)) then
print_kinds_j38 k kret (decide ((s1.f12.length : Int) ≤ 16)) s1 (⟨rest2.f0, rest2.f1, rest2.f2, rest2.f3, rest2.f4, rest2.f5, rest2.f6, rest2.f7, [], false, [], [], []⟩ : S60)
else
print_kinds_j38 k kret false s1 (⟨rest2.f0, rest2.f1, rest2.f2, rest2.f3, rest2.f4, rest2.f5, rest2.f6, rest2.f7, [], false, [], [], []⟩ : S60)
else
print_kinds_j38 k kret false s1 (⟨rest2.f0, rest2.f1, rest2.f2, rest2.f3, rest2.f4, rest2.f5, rest2.f6, rest2.f7, [], false, [], [], []⟩ : S60)
else
print_kinds_j38 k kret false s1 (⟨rest2.f0, rest2.f1, rest2.f2, rest2.f3, rest2.f4, rest2.f5, rest2.f6, rest2.f7, [], false, [], [], []⟩ : S60)
else
bif (t11 == 10) then
kret true rest2
else
bif (t11 == 11) then
kret true rest2
else
bif (t11 == 12) then
kret true rest2
else
knxt rest2

noncomputable def print_kinds_j7 {ρ : Type} (k : Nat) (kret : Bool → S60 → Option ρ) (knxt : S60 → Option ρ) (t11 : Int) (s1 : S60) (rest2 : S60) : Option ρ :=
bif (t11 == 3) then
(print_names k [s1.f1, s1.f2]).bind fun r_8 =>
bif r_8 then
(print_names k s1.f5).bind fun r_9 =>
bif r_9 then
(print_many_string_ k s1.f5 1 16).bind fun r_10 =>
kret r_10 (⟨rest2.f0, ByteArray.empty, ByteArray.empty, false, rest2.f4, [], rest2.f6, rest2.f7, rest2.f8, rest2.f9, rest2.f10, rest2.f11, rest2.f12⟩ : S60)
else
kret false (⟨rest2.f0, ByteArray.empty, ByteArray.empty, false, rest2.f4, [], rest2.f6, rest2.f7, rest2.f8, rest2.f9, rest2.f10, rest2.f11, rest2.f12⟩ : S60)
else
kret false (⟨rest2.f0, ByteArray.empty, ByteArray.empty, false, rest2.f4, [], rest2.f6, rest2.f7, rest2.f8, rest2.f9, rest2.f10, rest2.f11, rest2.f12⟩ : S60)
else
bif (t11 == 4) then
print_kinds_j12 k kret s1 rest2
else
bif (t11 == 5) then
print_kinds_j12 k kret s1 rest2
else
print_kinds_j14 k kret knxt t11 s1 rest2

/-- cadastre/print.kinds -/
noncomputable def print_kinds (k : Nat) (s0 : S60) : Option (S60 × Bool) :=
(print_bare k s0).bind fun r_1 =>
bif (s0.f0 == 1) then
print_kinds_j5 k (fun ok3_4 rest2_5 =>
some (rest2_5, ok3_4)) s0 r_1
else
bif (s0.f0 == 2) then
print_kinds_j5 k (fun ok3_6 rest2_7 =>
some (rest2_7, ok3_6)) s0 r_1
else
print_kinds_j7 k (fun ok3_51 rest2_52 =>
some (rest2_52, ok3_51)) (fun rest2_53 =>
some (rest2_53, false)) s0.f0 s0 r_1

/-- cadastre/print.empty -/
noncomputable def print_empty (k : Nat) (s0 : S60) : Option Bool :=
bif (s0.f1.toList == ByteArray.empty.toList) then
bif (s0.f2.toList == ByteArray.empty.toList) then
bif (!s0.f3) then
bif (!s0.f9) then
let v_1 : Int := (IntKind.i64.wrap ((IntKind.i64.wrap ((s0.f4.length : Int) + (s0.f5.length : Int))) + (s0.f6.length : Int)))
let v_2 : Int := (IntKind.i64.wrap ((IntKind.i64.wrap (v_1 + (s0.f7.length : Int))) + (s0.f8.length : Int)))
let v_3 : Int := (IntKind.i64.wrap ((IntKind.i64.wrap (v_2 + (s0.f10.length : Int))) + (s0.f11.length : Int)))
some ((IntKind.i64.wrap (v_3 + (s0.f12.length : Int))) == 0)
else
some false
else
some false
else
some false
else
some false

noncomputable def print_exprs_l2_b {ρ : Type} (k : Nat) (kexit0 : List T25 → S60 → Option ρ) (rec : (List T25) → (List (List T25)) → Int → Int → S60 → Option ρ) (l2 : List T25) (t10 : List (List T25)) (t11 : Int) (t12 : Int) (s1 : S60) : Option ρ :=
bif (decide (t12 < t11)) then
chk (0 ≤ t12 ∧ t12 < (t10.length : Int)) <|
chk ((l2.length + (t10.getD t12.toNat []).length) * 96 ≤ 140737488355328) <|
rec (l2 ++ (t10.getD t12.toNat [])) t10 t11 (IntKind.i64.wrap (t12 + 1)) s1
else
kexit0 l2 s1
noncomputable def print_exprs_l2 {ρ : Type} (k : Nat) (kexit0 : List T25 → S60 → Option ρ) : Nat → (List T25) → (List (List T25)) → Int → Int → S60 → Option ρ
  | 0, _, _, _, _, _ => none
  | n + 1, l2, t10, t11, t12, s1 => print_exprs_l2_b k kexit0 (print_exprs_l2 k kexit0 n) l2 t10 t11 t12 s1

noncomputable def print_exprs_l7_b {ρ : Type} (k : Nat) (kexit2 : List T25 → S60 → Option ρ) (rec : (List T25) → (List S90) → Int → Int → S60 → Option ρ) (l2 : List T25) (t21 : List S90) (t22 : Int) (t23 : Int) (s1 : S60) : Option ρ :=
bif (decide (t23 < t22)) then
chk (0 ≤ t23 ∧ t23 < (t21.length : Int)) <|
chk ((l2.length + [(t21.getD t23.toNat default).f1.t].length) * 96 ≤ 140737488355328) <|
rec (l2 ++ [(t21.getD t23.toNat default).f1.t]) t21 t22 (IntKind.i64.wrap (t23 + 1)) s1
else
kexit2 l2 s1
noncomputable def print_exprs_l7 {ρ : Type} (k : Nat) (kexit2 : List T25 → S60 → Option ρ) : Nat → (List T25) → (List S90) → Int → Int → S60 → Option ρ
  | 0, _, _, _, _, _ => none
  | n + 1, l2, t21, t22, t23, s1 => print_exprs_l7_b k kexit2 (print_exprs_l7 k kexit2 n) l2 t21 t22 t23 s1

noncomputable def print_exprs_l13_b {ρ : Type} (k : Nat) (kexit4 : List T25 → Option ρ) (rec : (List T25) → (List S106) → Int → Int → Option ρ) (l2 : List T25) (t41 : List S106) (t42 : Int) (t43 : Int) : Option ρ :=
bif (decide (t43 < t42)) then
chk (0 ≤ t43 ∧ t43 < (t41.length : Int)) <|
chk ((l2.length + [(t41.getD t43.toNat default).f0.t].length) * 96 ≤ 140737488355328) <|
rec (l2 ++ [(t41.getD t43.toNat default).f0.t]) t41 t42 (IntKind.i64.wrap (t43 + 1))
else
kexit4 l2
noncomputable def print_exprs_l13 {ρ : Type} (k : Nat) (kexit4 : List T25 → Option ρ) : Nat → (List T25) → (List S106) → Int → Int → Option ρ
  | 0, _, _, _, _ => none
  | n + 1, l2, t41, t42, t43 => print_exprs_l13_b k kexit4 (print_exprs_l13 k kexit4 n) l2 t41 t42 t43

/-- cadastre/print.exprs -/
noncomputable def print_exprs (k : Nat) (s0 : S60) : Option (List T25) :=
print_exprs_l2 k (fun l2_1 s1_2 =>
print_exprs_l7 k (fun l2_3 s1_4 =>
chk ((l2_3.length + s1_4.f10.length) * 96 ≤ 140737488355328) <|
chk (((l2_3 ++ s1_4.f10).length + s1_4.f11.length) * 96 ≤ 140737488355328) <|
print_exprs_l13 k (fun l2_5 =>
some l2_5) k ((l2_3 ++ s1_4.f10) ++ s1_4.f11) s1_4.f12 (s1_4.f12.length : Int) 0) k l2_1 s1_2.f7 (s1_2.f7.length : Int) 0 s1_2) k [] s0.f6 (s0.f6.length : Int) 0 s0

noncomputable def print_May_l6_b {ρ : Type} (k : Nat) (kret : Bool → Option ρ) (kexit0 : Option ρ) (rec : Int → (List T25) → Int → Int → Option ρ) (n5 : Int) (t22 : List T25) (t23 : Int) (t24 : Int) : Option ρ :=
bif (decide (t24 < t23)) then
chk (0 ≤ t24 ∧ t24 < (t22.length : Int)) <|
(print_count k (t22.getD t24.toNat default).s 20).bind fun r_4 =>
bif (decide (r_4 < 0)) then
kret false
else
bif (decide ((IntKind.i64.wrap (n5 + r_4)) > 200)) then
kret false
else
rec (IntKind.i64.wrap (n5 + r_4)) t22 t23 (IntKind.i64.wrap (t24 + 1))
else
kexit0
noncomputable def print_May_l6 {ρ : Type} (k : Nat) (kret : Bool → Option ρ) (kexit0 : Option ρ) : Nat → Int → (List T25) → Int → Int → Option ρ
  | 0, _, _, _, _ => none
  | n + 1, n5, t22, t23, t24 => print_May_l6_b k kret kexit0 (print_May_l6 k kret kexit0 n) n5 t22 t23 t24

noncomputable def print_May_j4 {ρ : Type} (k : Nat) (kret : Bool → Option ρ) (s1 : S60) : Option ρ :=
(print_exprs k s1).bind fun r_3 =>
print_May_l6 k kret (kret true) k 0 r_3 (r_3.length : Int) 0

/-- cadastre/print.May -/
noncomputable def print_May (k : Nat) (s0 : S60) : Option Bool :=
(print_kinds k s0).bind fun r_1 =>
bif (!r_1.2) then
some false
else
(print_empty k r_1.1).bind fun r_2 =>
bif (!r_2) then
some false
else
print_May_j4 k (fun t2_6 =>
some t2_6) s0

noncomputable def api_Expr__p0_u2_l1_b {ρ : Type} (k : Nat) (kexit0 : List Int → Bool → Option ρ) (rec : (List (List T25)) → Int → Int → (List Int) → Bool → Option ρ) (t8 : List (List T25)) (t9 : Int) (t10 : Int) (t1000_0 : List Int) (t1000_1 : Bool) : Option ρ :=
bif (decide (t10 < t9)) then
chk (0 ≤ t10 ∧ t10 < (t8.length : Int)) <|
bif (decide (t10 > 0)) then
(print_writer_put_p0 k [(⟨#[44]⟩ : ByteArray)] (⟨t1000_0, t1000_1⟩ : S51)).bind fun r_1 =>
none
else
none
else
kexit0 t1000_0 t1000_1
noncomputable def api_Expr__p0_u2_l1 {ρ : Type} (k : Nat) (kexit0 : List Int → Bool → Option ρ) : Nat → (List (List T25)) → Int → Int → (List Int) → Bool → Option ρ
  | 0, _, _, _, _, _ => none
  | n + 1, t8, t9, t10, t1000_0, t1000_1 => api_Expr__p0_u2_l1_b k kexit0 (api_Expr__p0_u2_l1 k kexit0 n) t8 t9 t10 t1000_0 t1000_1

/-- cadastre/print.list[[]cadastre/api.Expr] -/
noncomputable def api_Expr__p0_u2 (k : Nat) (l1 : List (List T25)) (bx0 : S51) : Option ((Unit) × S51) :=
api_Expr__p0_u2_l1 k (fun t1000_2 t1000_3 =>
some ((), (⟨t1000_2, t1000_3⟩ : S51))) k l1 (l1.length : Int) 0 bx0.f0 bx0.f1

noncomputable def print_writer_where_p0_l1_b {ρ : Type} (k : Nat) (kexit0 : List Int → Bool → Option ρ) (rec : (List T25) → Int → Int → (List Int) → Bool → Option ρ) (t6 : List T25) (t7 : Int) (t8 : Int) (t1000_0 : List Int) (t1000_1 : Bool) : Option ρ :=
bif (decide (t8 < t7)) then
chk (0 ≤ t8 ∧ t8 < (t6.length : Int)) <|
(print_writer_put_p0 k [(⟨#[119, 104, 101, 114, 101]⟩ : ByteArray)] (⟨t1000_0, t1000_1⟩ : S51)).bind fun r_1 =>
(print_writer_expr_p0 k (t6.getD t8.toNat default).s r_1.2).bind fun r_2 =>
rec t6 t7 (IntKind.i64.wrap (t8 + 1)) r_2.2.f0 r_2.2.f1
else
kexit0 t1000_0 t1000_1
noncomputable def print_writer_where_p0_l1 {ρ : Type} (k : Nat) (kexit0 : List Int → Bool → Option ρ) : Nat → (List T25) → Int → Int → (List Int) → Bool → Option ρ
  | 0, _, _, _, _, _ => none
  | n + 1, t6, t7, t8, t1000_0, t1000_1 => print_writer_where_p0_l1_b k kexit0 (print_writer_where_p0_l1 k kexit0 n) t6 t7 t8 t1000_0 t1000_1

/-- (*cadastre/print.writer).where -/
noncomputable def print_writer_where_p0 (k : Nat) (l1 : List T25) (bx0 : S51) : Option ((Unit) × S51) :=
print_writer_where_p0_l1 k (fun t1000_3 t1000_4 =>
some ((), (⟨t1000_3, t1000_4⟩ : S51))) k l1 (l1.length : Int) 0 bx0.f0 bx0.f1

noncomputable def api_Set__p0_u2_l1_b {ρ : Type} (k : Nat) (kexit0 : List Int → Bool → Option ρ) (rec : (List S90) → Int → Int → (List Int) → Bool → Option ρ) (t8 : List S90) (t9 : Int) (t10 : Int) (t1000_0 : List Int) (t1000_1 : Bool) : Option ρ :=
bif (decide (t10 < t9)) then
chk (0 ≤ t10 ∧ t10 < (t8.length : Int)) <|
bif (decide (t10 > 0)) then
(print_writer_put_p0 k [(⟨#[44]⟩ : ByteArray)] (⟨t1000_0, t1000_1⟩ : S51)).bind fun r_1 =>
none
else
none
else
kexit0 t1000_0 t1000_1
noncomputable def api_Set__p0_u2_l1 {ρ : Type} (k : Nat) (kexit0 : List Int → Bool → Option ρ) : Nat → (List S90) → Int → Int → (List Int) → Bool → Option ρ
  | 0, _, _, _, _, _ => none
  | n + 1, t8, t9, t10, t1000_0, t1000_1 => api_Set__p0_u2_l1_b k kexit0 (api_Set__p0_u2_l1 k kexit0 n) t8 t9 t10 t1000_0 t1000_1

/-- cadastre/print.list[cadastre/api.Set] -/
noncomputable def api_Set__p0_u2 (k : Nat) (l1 : List S90) (bx0 : S51) : Option ((Unit) × S51) :=
api_Set__p0_u2_l1 k (fun t1000_2 t1000_3 =>
some ((), (⟨t1000_2, t1000_3⟩ : S51))) k l1 (l1.length : Int) 0 bx0.f0 bx0.f1

noncomputable def api_Expr__55_p0_f19_l1_b {ρ : Type} (k : Nat) (kexit0 : List Int → Bool → Option ρ) (rec : (List T25) → Int → Int → (List Int) → Bool → Option ρ) (t8 : List T25) (t9 : Int) (t10 : Int) (t1000_0 : List Int) (t1000_1 : Bool) : Option ρ :=
bif (decide (t10 < t9)) then
chk (0 ≤ t10 ∧ t10 < (t8.length : Int)) <|
bif (decide (t10 > 0)) then
(print_writer_put_p0 k [(⟨#[44]⟩ : ByteArray)] (⟨t1000_0, t1000_1⟩ : S51)).bind fun r_1 =>
(print_writer_expr_p0 k (t8.getD t10.toNat default).s r_1.2).bind fun r_2 =>
rec t8 t9 (IntKind.i64.wrap (t10 + 1)) r_2.2.f0 r_2.2.f1
else
(print_writer_expr_p0 k (t8.getD t10.toNat default).s (⟨t1000_0, t1000_1⟩ : S51)).bind fun r_3 =>
rec t8 t9 (IntKind.i64.wrap (t10 + 1)) r_3.2.f0 r_3.2.f1
else
kexit0 t1000_0 t1000_1
noncomputable def api_Expr__55_p0_f19_l1 {ρ : Type} (k : Nat) (kexit0 : List Int → Bool → Option ρ) : Nat → (List T25) → Int → Int → (List Int) → Bool → Option ρ
  | 0, _, _, _, _, _ => none
  | n + 1, t8, t9, t10, t1000_0, t1000_1 => api_Expr__55_p0_f19_l1_b k kexit0 (api_Expr__55_p0_f19_l1 k kexit0 n) t8 t9 t10 t1000_0 t1000_1

/-- cadastre/print.list[cadastre/api.Expr] -/
noncomputable def api_Expr__55_p0_f19 (k : Nat) (l1 : List T25) (bx0 : S51) : Option ((Unit) × S51) :=
api_Expr__55_p0_f19_l1 k (fun t1000_4 t1000_5 =>
some ((), (⟨t1000_4, t1000_5⟩ : S51))) k l1 (l1.length : Int) 0 bx0.f0 bx0.f1

/-- (*cadastre/print.writer).name -/
noncomputable def print_writer_name_p0 (k : Nat) (s1 : ByteArray) (bx0 : S51) : Option ((Unit) × S51) :=
(print_writer_put_p0 k [s1] bx0).bind fun r_1 =>
some ((), r_1.2)

noncomputable def print_list_string__p0_f86_l1_b {ρ : Type} (k : Nat) (kexit0 : List Int → Bool → Option ρ) (rec : (List ByteArray) → Int → Int → (List Int) → Bool → Option ρ) (t8 : List ByteArray) (t9 : Int) (t10 : Int) (t1000_0 : List Int) (t1000_1 : Bool) : Option ρ :=
bif (decide (t10 < t9)) then
chk (0 ≤ t10 ∧ t10 < (t8.length : Int)) <|
bif (decide (t10 > 0)) then
(print_writer_put_p0 k [(⟨#[44]⟩ : ByteArray)] (⟨t1000_0, t1000_1⟩ : S51)).bind fun r_1 =>
(print_writer_name_p0 k (t8.getD t10.toNat ByteArray.empty) r_1.2).bind fun r_2 =>
rec t8 t9 (IntKind.i64.wrap (t10 + 1)) r_2.2.f0 r_2.2.f1
else
(print_writer_name_p0 k (t8.getD t10.toNat ByteArray.empty) (⟨t1000_0, t1000_1⟩ : S51)).bind fun r_3 =>
rec t8 t9 (IntKind.i64.wrap (t10 + 1)) r_3.2.f0 r_3.2.f1
else
kexit0 t1000_0 t1000_1
noncomputable def print_list_string__p0_f86_l1 {ρ : Type} (k : Nat) (kexit0 : List Int → Bool → Option ρ) : Nat → (List ByteArray) → Int → Int → (List Int) → Bool → Option ρ
  | 0, _, _, _, _, _ => none
  | n + 1, t8, t9, t10, t1000_0, t1000_1 => print_list_string__p0_f86_l1_b k kexit0 (print_list_string__p0_f86_l1 k kexit0 n) t8 t9 t10 t1000_0 t1000_1

/-- cadastre/print.list[string] -/
noncomputable def print_list_string__p0_f86 (k : Nat) (l1 : List ByteArray) (bx0 : S51) : Option ((Unit) × S51) :=
print_list_string__p0_f86_l1 k (fun t1000_4 t1000_5 =>
some ((), (⟨t1000_4, t1000_5⟩ : S51))) k l1 (l1.length : Int) 0 bx0.f0 bx0.f1

noncomputable def api_Order__p0_u2_l1_b {ρ : Type} (k : Nat) (kexit0 : List Int → Bool → Option ρ) (rec : (List S106) → Int → Int → (List Int) → Bool → Option ρ) (t8 : List S106) (t9 : Int) (t10 : Int) (t1000_0 : List Int) (t1000_1 : Bool) : Option ρ :=
bif (decide (t10 < t9)) then
chk (0 ≤ t10 ∧ t10 < (t8.length : Int)) <|
bif (decide (t10 > 0)) then
(print_writer_put_p0 k [(⟨#[44]⟩ : ByteArray)] (⟨t1000_0, t1000_1⟩ : S51)).bind fun r_1 =>
none
else
none
else
kexit0 t1000_0 t1000_1
noncomputable def api_Order__p0_u2_l1 {ρ : Type} (k : Nat) (kexit0 : List Int → Bool → Option ρ) : Nat → (List S106) → Int → Int → (List Int) → Bool → Option ρ
  | 0, _, _, _, _, _ => none
  | n + 1, t8, t9, t10, t1000_0, t1000_1 => api_Order__p0_u2_l1_b k kexit0 (api_Order__p0_u2_l1 k kexit0 n) t8 t9 t10 t1000_0 t1000_1

/-- cadastre/print.list[cadastre/api.Order] -/
noncomputable def api_Order__p0_u2 (k : Nat) (l1 : List S106) (bx0 : S51) : Option ((Unit) × S51) :=
api_Order__p0_u2_l1 k (fun t1000_2 t1000_3 =>
some ((), (⟨t1000_2, t1000_3⟩ : S51))) k l1 (l1.length : Int) 0 bx0.f0 bx0.f1

noncomputable def print_writer_query_p0_j4 {ρ : Type} (k : Nat) (knxt : List Int → Bool → Option ρ) (s3 : S60) (t1000_0 : List Int) (t1000_1 : Bool) : Option ρ :=
(api_Expr__55_p0_f19 k s3.f10 (⟨t1000_0, t1000_1⟩ : S51)).bind fun r_3 =>
(print_writer_put_p0 k [(⟨#[102, 114, 111, 109]⟩ : ByteArray)] r_3.2).bind fun r_4 =>
(print_list_string__p0_f86 k s3.f8 r_4.2).bind fun r_5 =>
(print_writer_where_p0 k s3.f11 r_5.2).bind fun r_6 =>
bif (decide ((s3.f12.length : Int) > 0)) then
(print_writer_put_p0 k [(⟨#[111, 114, 100, 101, 114]⟩ : ByteArray), (⟨#[98, 121]⟩ : ByteArray)] r_6.2).bind fun r_7 =>
(api_Order__p0_u2 k s3.f12 r_7.2).bind fun r_8 =>
knxt r_8.2.f0 r_8.2.f1
else
(api_Order__p0_u2 k s3.f12 r_6.2).bind fun r_9 =>
knxt r_9.2.f0 r_9.2.f1

/-- (*cadastre/print.writer).query -/
noncomputable def print_writer_query_p0 (k : Nat) (s1 : S60) (bx0 : S51) : Option ((Unit) × S51) :=
(print_writer_put_p0 k [(⟨#[115, 101, 108, 101, 99, 116]⟩ : ByteArray)] bx0).bind fun r_1 =>
bif s1.f9 then
(print_writer_put_p0 k [(⟨#[42]⟩ : ByteArray)] r_1.2).bind fun r_2 =>
print_writer_query_p0_j4 k (fun t1000_10 t1000_11 =>
some ((), (⟨t1000_10, t1000_11⟩ : S51))) s1 r_2.2.f0 r_2.2.f1
else
print_writer_query_p0_j4 k (fun t1000_12 t1000_13 =>
some ((), (⟨t1000_12, t1000_13⟩ : S51))) s1 r_1.2.f0 r_1.2.f1

/-- (*cadastre/print.writer).stmt -/
noncomputable def print_writer_stmt_p0 (k : Nat) (s1 : S60) (bx0 : S51) : Option ((Unit) × S51) :=
bif (s1.f0 == 4) then
(print_writer_put_p0 k [(⟨#[100, 114, 111, 112]⟩ : ByteArray), (⟨#[116, 97, 98, 108, 101]⟩ : ByteArray), s1.f1] bx0).bind fun r_1 =>
some ((), r_1.2)
else
bif (s1.f0 == 5) then
(print_writer_put_p0 k [(⟨#[100, 114, 111, 112]⟩ : ByteArray), (⟨#[105, 110, 100, 101, 120]⟩ : ByteArray), s1.f1] bx0).bind fun r_2 =>
some ((), r_2.2)
else
bif (s1.f0 == 6) then
(print_writer_put_p0 k [(⟨#[105, 110, 115, 101, 114, 116]⟩ : ByteArray), (⟨#[105, 110, 116, 111]⟩ : ByteArray), s1.f2, (⟨#[118, 97, 108, 117, 101, 115]⟩ : ByteArray)] bx0).bind fun r_3 =>
(api_Expr__p0_u2 k s1.f6 r_3.2).bind fun r_4 =>
some ((), r_4.2)
else
bif (s1.f0 == 7) then
(print_writer_put_p0 k [(⟨#[100, 101, 108, 101, 116, 101]⟩ : ByteArray), (⟨#[102, 114, 111, 109]⟩ : ByteArray), s1.f2] bx0).bind fun r_5 =>
(print_writer_where_p0 k s1.f11 r_5.2).bind fun r_6 =>
some ((), r_6.2)
else
bif (s1.f0 == 8) then
(print_writer_put_p0 k [(⟨#[117, 112, 100, 97, 116, 101]⟩ : ByteArray), s1.f2, (⟨#[115, 101, 116]⟩ : ByteArray)] bx0).bind fun r_7 =>
(api_Set__p0_u2 k s1.f7 r_7.2).bind fun r_8 =>
(print_writer_where_p0 k s1.f11 r_8.2).bind fun r_9 =>
some ((), r_9.2)
else
bif (s1.f0 == 9) then
(print_writer_query_p0 k s1 bx0).bind fun r_10 =>
some ((), r_10.2)
else
bif (s1.f0 == 10) then
(print_writer_put_p0 k [(⟨#[98, 101, 103, 105, 110]⟩ : ByteArray)] bx0).bind fun r_11 =>
some ((), r_11.2)
else
bif (s1.f0 == 11) then
(print_writer_put_p0 k [(⟨#[99, 111, 109, 109, 105, 116]⟩ : ByteArray)] bx0).bind fun r_12 =>
some ((), r_12.2)
else
bif (s1.f0 == 12) then
(print_writer_put_p0 k [(⟨#[114, 111, 108, 108, 98, 97, 99, 107]⟩ : ByteArray)] bx0).bind fun r_13 =>
some ((), r_13.2)
else
none

/-- cadastre/print.Print -/
noncomputable def print_Print (k : Nat) (s0 : S60) : Option (ByteArray × Int) :=
(print_May k s0).bind fun r_1 =>
bif (!r_1) then
some (ByteArray.empty, 1)
else
(print_writer_stmt_p0 k s0 (⟨[], false⟩ : S51)).bind fun r_2 =>
bif (big (decide ((r_2.2.f0.length : Int) > 8192))) then
some (ByteArray.empty, 7)
else
some ((strOfNums r_2.2.f0), 0)

/-- cadastre/cadastrelaw21.wakes -/
noncomputable def cadastrelaw21_wakes (k : Nat) : Option Bool :=
(print_Print k (⟨9, ByteArray.empty, ByteArray.empty, false, [], [], [], [], [(⟨#[116]⟩ : ByteArray)], true, [], [], []⟩ : S60)).bind fun r_1 =>
(cadastrelaw21_num k r_1.2).bind fun r_2 =>
bif (r_2 == 0) then
let v_3 : Bool := (r_1.1.toList == (⟨#[115, 101, 108, 101, 99, 116, 32, 42, 32, 102, 114, 111, 109, 32, 116]⟩ : ByteArray).toList)
some v_3
else
some false

noncomputable def cadastrelaw21_PrintValues_l18_b {ρ : Type} (k : Nat) (kexit3 : List T25 → Int → ByteArray → Int → S23 → Option ρ) (rec : (List T25) → Int → ByteArray → Int → Int → S23 → Option ρ) (l0 : List T25) (i3 : Int) (t5 : ByteArray) (n7 : Int) (k8 : Int) (v4 : S23) : Option ρ :=
bif (decide (k8 < (t5.size : Int))) then
chk (0 ≤ k8 ∧ k8 < (t5.size : Int)) <|
let v_4 : Int := (IntKind.u8.wrap (((t5.data.toList.getD k8.toNat 0).toNat : Int) - 48))
let v_5 : Int := (IntKind.i64.wrap ((IntKind.i64.wrap (10 * n7)) + (IntKind.i64.wrap v_4)))
rec l0 i3 t5 v_5 (IntKind.i64.wrap (k8 + 1)) v4
else
kexit3 l0 i3 t5 n7 v4
noncomputable def cadastrelaw21_PrintValues_l18 {ρ : Type} (k : Nat) (kexit3 : List T25 → Int → ByteArray → Int → S23 → Option ρ) : Nat → (List T25) → Int → ByteArray → Int → Int → S23 → Option ρ
  | 0, _, _, _, _, _, _ => none
  | n + 1, l0, i3, t5, n7, k8, v4 => cadastrelaw21_PrintValues_l18_b k kexit3 (cadastrelaw21_PrintValues_l18 k kexit3 n) l0 i3 t5 n7 k8 v4

noncomputable def cadastrelaw21_PrintValues_l26_b {ρ : Type} (k : Nat) (kexit5 : List T25 → Int → ByteArray → List Int → S23 → Option ρ) (rec : (List T25) → Int → ByteArray → (List Int) → Int → S23 → Option ρ) (l0 : List T25) (i3 : Int) (t5 : ByteArray) (b9 : List Int) (k10 : Int) (v4 : S23) : Option ρ :=
bif (decide (k10 < (IntKind.i64.wrap ((t5.size : Int) - 1)))) then
chk (0 ≤ k10 ∧ k10 < (t5.size : Int)) <|
chk ((b9.length + [((t5.data.toList.getD k10.toNat 0).toNat : Int)].length) * 1 ≤ 140737488355328) <|
chk (0 ≤ k10 ∧ k10 < (t5.size : Int)) <|
bif (((t5.data.toList.getD k10.toNat 0).toNat : Int) == 39) then
rec l0 i3 t5 (b9 ++ [((t5.data.toList.getD k10.toNat 0).toNat : Int)]) (IntKind.i64.wrap ((IntKind.i64.wrap (k10 + 1)) + 1)) v4
else
rec l0 i3 t5 (b9 ++ [((t5.data.toList.getD k10.toNat 0).toNat : Int)]) (IntKind.i64.wrap (k10 + 1)) v4
else
kexit5 l0 i3 t5 b9 v4
noncomputable def cadastrelaw21_PrintValues_l26 {ρ : Type} (k : Nat) (kexit5 : List T25 → Int → ByteArray → List Int → S23 → Option ρ) : Nat → (List T25) → Int → ByteArray → (List Int) → Int → S23 → Option ρ
  | 0, _, _, _, _, _, _ => none
  | n + 1, l0, i3, t5, b9, k10, v4 => cadastrelaw21_PrintValues_l26_b k kexit5 (cadastrelaw21_PrintValues_l26 k kexit5 n) l0 i3 t5 b9 k10 v4

noncomputable def cadastrelaw21_PrintValues_j9 {ρ : Type} (k : Nat) (kret : Bool → Option ρ) (knxt : List T25 → Int → Option ρ) (l0 : List T25) (i3 : Int) (t5 : ByteArray) (v4 : S23) : Option ρ :=
bif (v4.f0 == 0) then
bif (!(t5.toList == (⟨#[110, 117, 108, 108]⟩ : ByteArray).toList)) then
kret false
else
knxt l0 i3
else
bif (v4.f0 == 1) then
cadastrelaw21_PrintValues_l18 k (fun l0_6 i3_7 t5_8 n7_9 v4_10 =>
bif (n7_9 != v4_10.f1) then
kret false
else
bif (decide ((t5_8.size : Int) > 1)) then
chk (0 ≤ (0 : Int) ∧ (0 : Int) < (t5_8.size : Int)) <|
bif (((t5_8.data.toList.getD 0 0).toNat : Int) == 48) then
kret false
else
knxt l0_6 i3_7
else
knxt l0_6 i3_7) k l0 i3 t5 0 0 v4
else
bif (v4.f0 == 2) then
cadastrelaw21_PrintValues_l26 k (fun l0_11 i3_12 t5_13 b9_14 v4_15 =>
bif (!((strOfNums b9_14).toList == v4_15.f2.toList)) then
kret false
else
chk (0 ≤ (0 : Int) ∧ (0 : Int) < (t5_13.size : Int)) <|
bif (((t5_13.data.toList.getD 0 0).toNat : Int) != 39) then
kret false
else
chk (0 ≤ (IntKind.i64.wrap ((t5_13.size : Int) - 1)) ∧ (IntKind.i64.wrap ((t5_13.size : Int) - 1)) < (t5_13.size : Int)) <|
let v_16 : Int := ((t5_13.data.toList.getD (IntKind.i64.wrap ((t5_13.size : Int) - 1)).toNat 0).toNat : Int)
bif (v_16 != 39) then
kret false
else
knxt l0_11 i3_12) k l0 i3 t5 [] 1 v4
else
let v_17 : Bool := ((t5.size : Int) != (IntKind.i64.wrap (3 + (IntKind.i64.wrap (2 * (v4.f2.size : Int))))))
bif v_17 then
kret false
else
chk (0 ≤ (0 : Int) ∧ (0 : Int) ≤ 2 ∧ (2 : Int) ≤ (t5.size : Int)) <|
let v_18 : Bool := (!((t5.extract (0 : Int).toNat (2 : Int).toNat).toList == (⟨#[120, 39]⟩ : ByteArray).toList))
bif v_18 then
kret false
else
knxt l0 i3

noncomputable def cadastrelaw21_PrintValues_j6 {ρ : Type} (k : Nat) (kret : Bool → Option ρ) (knxt : List T25 → Int → Option ρ) (l0 : List T25) (i3 : Int) (v4 : S23) : Option ρ :=
(print_Expr k (⟨1, v4, ByteArray.empty, ByteArray.empty, []⟩ : S25)).bind fun r_2 =>
(cadastrelaw21_num k r_2.2).bind fun r_3 =>
bif (r_3 != 0) then
kret false
else
bif ((r_2.1.size : Int) == 0) then
kret false
else
cadastrelaw21_PrintValues_j9 k kret knxt l0 i3 r_2.1 v4

noncomputable def cadastrelaw21_PrintValues_j4 {ρ : Type} (k : Nat) (knxt : List T25 → Int → Option ρ) (kret : Bool → Option ρ) (l0 : List T25) (i3 : Int) : Option ρ :=
chk (0 ≤ i3 ∧ i3 < (l0.length : Int)) <|
(cadastreref2_May k (l0.getD i3.toNat default).s.f1).bind fun r_1 =>
bif (!r_1) then
knxt l0 (IntKind.i64.wrap (i3 + 1))
else
bif (decide ((l0.getD i3.toNat default).s.f1.f1 < 0)) then
knxt l0 (IntKind.i64.wrap (i3 + 1))
else
bif (big (decide (((l0.getD i3.toNat default).s.f1.f2.size : Int) > 500))) then
knxt l0 (IntKind.i64.wrap (i3 + 1))
else
cadastrelaw21_PrintValues_j6 k kret (fun l0_23 i3_24 =>
knxt l0_23 (IntKind.i64.wrap (i3_24 + 1))) l0 i3 (l0.getD i3.toNat default).s.f1

noncomputable def cadastrelaw21_PrintValues_l2_b {ρ : Type} (k : Nat) (kret : Bool → Option ρ) (kexit0 : Option ρ) (rec : (List T25) → Int → Option ρ) (l0 : List T25) (i3 : Int) : Option ρ :=
bif (decide (i3 < (l0.length : Int))) then
bif (decide (i3 < 10)) then
cadastrelaw21_PrintValues_j4 k rec kret l0 i3
else
kexit0
else
kexit0
noncomputable def cadastrelaw21_PrintValues_l2 {ρ : Type} (k : Nat) (kret : Bool → Option ρ) (kexit0 : Option ρ) : Nat → (List T25) → Int → Option ρ
  | 0, _, _ => none
  | n + 1, l0, i3 => cadastrelaw21_PrintValues_l2_b k kret kexit0 (cadastrelaw21_PrintValues_l2 k kret kexit0 n) l0 i3

/-- cadastre/cadastrelaw21.PrintValues -/
noncomputable def cadastrelaw21_PrintValues (k : Nat) (l0 : List T25) : Option Bool :=
cadastrelaw21_PrintValues_l2 k (fun t2_28 =>
some t2_28) ((cadastrelaw21_wakes k).bind fun r_29 =>
some r_29) k l0 0
end Go.Proofs.YtnoeedkbadoogaaDoor.P
