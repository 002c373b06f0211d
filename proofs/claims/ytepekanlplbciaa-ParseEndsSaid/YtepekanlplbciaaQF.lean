/-
  The program's functions as plain functions over plain data, as a program has printed them.
-/
import Derived.Test.YtepekanlplbciaaAxDef
import Derived.Lib.Bytealg
namespace Go.Proofs.Ytepekanlplbciaa.Q
open Go Go.AX
/-- cadastre/api.Token -/
structure SToken where
  f0 : Int
  f1 : ByteArray
  f2 : Int
instance : Inhabited SToken := ⟨⟨0, ByteArray.empty, 0⟩⟩
/-- cadastre/api.Value -/
structure SValue where
  f0 : Int
  f1 : Int
  f2 : ByteArray
instance : Inhabited SValue := ⟨⟨0, 0, ByteArray.empty⟩⟩
/-- cadastre/api.Expr, as a part of itself -/
inductive TExpr where
  | mk (f0 : Int) (f1 : SValue) (f2 : ByteArray) (f3 : ByteArray) (f4 : List TExpr)
/-- cadastre/api.Expr -/
structure SExpr where
  f0 : Int
  f1 : SValue
  f2 : ByteArray
  f3 : ByteArray
  f4 : List TExpr
instance : Inhabited SExpr := ⟨⟨0, default, ByteArray.empty, ByteArray.empty, []⟩⟩
instance : Inhabited TExpr := ⟨.mk 0 default ByteArray.empty ByteArray.empty []⟩
noncomputable def TExpr.s : TExpr → SExpr | .mk a0 a1 a2 a3 a4 => ⟨a0, a1, a2, a3, a4⟩
noncomputable def SExpr.t (x : SExpr) : TExpr := .mk x.f0 x.f1 x.f2 x.f3 x.f4
/-- cadastre/api.Column -/
structure SColumn where
  f0 : ByteArray
  f1 : Int
  f2 : Bool
instance : Inhabited SColumn := ⟨⟨ByteArray.empty, 0, false⟩⟩
/-- cadastre/api.Set -/
structure SSet where
  f0 : ByteArray
  f1 : SExpr
instance : Inhabited SSet := ⟨⟨ByteArray.empty, default⟩⟩
/-- cadastre/api.Order -/
structure SOrder where
  f0 : SExpr
  f1 : Bool
instance : Inhabited SOrder := ⟨⟨default, false⟩⟩
/-- cadastre/api.Stmt -/
structure SStmt where
  f0 : Int
  f1 : ByteArray
  f2 : ByteArray
  f3 : Bool
  f4 : List SColumn
  f5 : List ByteArray
  f6 : List (List TExpr)
  f7 : List SSet
  f8 : List ByteArray
  f9 : Bool
  f10 : List TExpr
  f11 : List TExpr
  f12 : List SOrder
instance : Inhabited SStmt := ⟨⟨0, ByteArray.empty, ByteArray.empty, false, [], [], [], [], [], false, [], [], []⟩⟩
/-- cadastre/parse.reader -/
structure Sreader where
  f0 : List SToken
  f1 : Bool
  f2 : Bool
  f3 : Int
  f4 : Int
instance : Inhabited Sreader := ⟨⟨[], false, false, 0, 0⟩⟩
/-- cadastre/parse.oper -/
structure Soper where
  f0 : ByteArray
  f1 : Int
instance : Inhabited Soper := ⟨⟨ByteArray.empty, 0⟩⟩
/-- internal/stringslite.HasPrefix -/
noncomputable def stringslite_HasPrefix (k : Nat) (s0 : ByteArray) (prefix1 : ByteArray) : Option Bool :=
bif (decide ((s0.size : Int) ≥ (prefix1.size : Int))) then
chk (0 ≤ (0 : Int) ∧ (0 : Int) ≤ (prefix1.size : Int) ∧ (prefix1.size : Int) ≤ (s0.size : Int)) <|
let v_1 : Bool := ((s0.extract (0 : Int).toNat (prefix1.size : Int).toNat).toList == prefix1.toList)
some v_1
else
some false

/-- strings.HasPrefix -/
noncomputable def strings_HasPrefix (k : Nat) (s0 : ByteArray) (prefix1 : ByteArray) : Option Bool :=
(stringslite_HasPrefix k s0 prefix1).bind fun r_1 =>
some r_1

/-- cadastre/lex.skip$1 -/
noncomputable def lex_skip_1 (k : Nat) (c0 : Int) : Option Bool :=
bif (c0 == 9) then
some true
else
bif (c0 == 10) then
some true
else
bif (c0 == 13) then
some true
else
some (c0 == 32)

noncomputable def lex_span_fskip_1_l1_b {ρ : Type} (k : Nat) (kexit0 : Int → Option ρ) (rec : ByteArray → Int → Option ρ) (s0 : ByteArray) (at1 : Int) : Option ρ :=
bif (decide (at1 < (s0.size : Int))) then
chk (0 ≤ at1 ∧ at1 < (s0.size : Int)) <|
(lex_skip_1 k ((s0.data.toList.getD at1.toNat 0).toNat : Int)).bind fun r_1 =>
bif r_1 then
rec s0 (IntKind.i64.wrap (at1 + 1))
else
kexit0 at1
else
kexit0 at1
noncomputable def lex_span_fskip_1_l1 {ρ : Type} (k : Nat) (kexit0 : Int → Option ρ) : Nat → ByteArray → Int → Option ρ
  | 0, _, _ => none
  | n + 1, s0, at1 => lex_span_fskip_1_l1_b k kexit0 (lex_span_fskip_1_l1 k kexit0 n) s0 at1

/-- cadastre/lex.span -/
noncomputable def lex_span_fskip_1 (k : Nat) (s0 : ByteArray) (at1 : Int) : Option Int :=
lex_span_fskip_1_l1 k (fun at1_2 =>
some at1_2) k s0 at1

/-- cadastre/lex.skip$2 -/
noncomputable def lex_skip_2 (k : Nat) (c0 : Int) : Option Bool :=
some (c0 != 10)

noncomputable def lex_span_fskip_2_l1_b {ρ : Type} (k : Nat) (kexit0 : Int → Option ρ) (rec : ByteArray → Int → Option ρ) (s0 : ByteArray) (at1 : Int) : Option ρ :=
bif (decide (at1 < (s0.size : Int))) then
chk (0 ≤ at1 ∧ at1 < (s0.size : Int)) <|
(lex_skip_2 k ((s0.data.toList.getD at1.toNat 0).toNat : Int)).bind fun r_1 =>
bif r_1 then
rec s0 (IntKind.i64.wrap (at1 + 1))
else
kexit0 at1
else
kexit0 at1
noncomputable def lex_span_fskip_2_l1 {ρ : Type} (k : Nat) (kexit0 : Int → Option ρ) : Nat → ByteArray → Int → Option ρ
  | 0, _, _ => none
  | n + 1, s0, at1 => lex_span_fskip_2_l1_b k kexit0 (lex_span_fskip_2_l1 k kexit0 n) s0 at1

/-- cadastre/lex.span -/
noncomputable def lex_span_fskip_2 (k : Nat) (s0 : ByteArray) (at1 : Int) : Option Int :=
lex_span_fskip_2_l1 k (fun at1_2 =>
some at1_2) k s0 at1

noncomputable def lex_skip_j1 {ρ : Type} (k : Nat) (kgoto0 : ByteArray → Int → Option ρ) (kret : Int → Option ρ) (s0 : ByteArray) (at1 : Int) : Option ρ :=
(lex_span_fskip_1 k s0 at1).bind fun r_1 =>
chk (0 ≤ r_1 ∧ r_1 ≤ (s0.size : Int) ∧ (s0.size : Int) ≤ (s0.size : Int)) <|
(strings_HasPrefix k (s0.extract r_1.toNat (s0.size : Int).toNat) (⟨#[45, 45]⟩ : ByteArray)).bind fun r_2 =>
bif r_2 then
(lex_span_fskip_2 k s0 r_1).bind fun r_3 =>
kgoto0 s0 r_3
else
kret r_1

noncomputable def lex_skip_g0_b {ρ : Type} (k : Nat) (kret : Int → Option ρ) (rec : ByteArray → Int → Option ρ) (s0 : ByteArray) (at1 : Int) : Option ρ :=
lex_skip_j1 k rec kret s0 at1
noncomputable def lex_skip_g0 {ρ : Type} (k : Nat) (kret : Int → Option ρ) : Nat → ByteArray → Int → Option ρ
  | 0, _, _ => none
  | n + 1, s0, at1 => lex_skip_g0_b k kret (lex_skip_g0 k kret n) s0 at1

/-- cadastre/lex.skip -/
noncomputable def lex_skip (k : Nat) (s0 : ByteArray) (at1 : Int) : Option Int :=
lex_skip_j1 k (fun s0_4 at1_5 =>
lex_skip_g0 k (fun t4_9 =>
some t4_9) k s0_4 at1_5) (fun t4_10 =>
some t4_10) s0 at1

/-- cadastre/lex.letter -/
noncomputable def lex_letter (k : Nat) (c0 : Int) : Option Bool :=
bif (decide (c0 ≥ 97)) then
bif (decide (c0 ≤ 122)) then
some true
else
bif (decide (c0 ≥ 65)) then
bif (decide (c0 ≤ 90)) then
some true
else
some (c0 == 95)
else
some (c0 == 95)
else
bif (decide (c0 ≥ 65)) then
bif (decide (c0 ≤ 90)) then
some true
else
some (c0 == 95)
else
some (c0 == 95)

/-- cadastre/lex.digit -/
noncomputable def lex_digit (k : Nat) (c0 : Int) : Option Bool :=
bif (decide (c0 ≥ 48)) then
some (decide (c0 ≤ 57))
else
some false

/-- internal/stringslite.IndexByte -/
noncomputable def stringslite_IndexByte (_ : Nat) (s0 : ByteArray) (c1 : Int) : Option Int :=
some (Lib.indexByte s0.data.toList c1.toNat.toUInt8)

/-- strings.IndexByte -/
noncomputable def strings_IndexByte (k : Nat) (s0 : ByteArray) (c1 : Int) : Option Int :=
(stringslite_IndexByte k s0 c1).bind fun r_1 =>
some r_1

noncomputable def lex_mark_j9 {ρ : Type} (k : Nat) (kret : Int → Option ρ) (s0 : ByteArray) : Option ρ :=
chk (0 ≤ (0 : Int) ∧ (0 : Int) < (s0.size : Int)) <|
(strings_IndexByte k (⟨#[40, 41, 44, 46, 59, 42, 43, 45, 47, 37, 61, 60, 62]⟩ : ByteArray) ((s0.data.toList.getD 0 0).toNat : Int)).bind fun r_6 =>
bif (decide (r_6 ≥ 0)) then
kret 1
else
kret 0

/-- cadastre/lex.mark -/
noncomputable def lex_mark (k : Nat) (s0 : ByteArray) : Option Int :=
bif (decide ((s0.size : Int) ≥ 2)) then
chk (0 ≤ (0 : Int) ∧ (0 : Int) ≤ 2 ∧ (2 : Int) ≤ (s0.size : Int)) <|
let v_1 : Bool := ((s0.extract (0 : Int).toNat (2 : Int).toNat).toList == (⟨#[124, 124]⟩ : ByteArray).toList)
bif v_1 then
some 2
else
let v_2 : Bool := ((s0.extract (0 : Int).toNat (2 : Int).toNat).toList == (⟨#[60, 62]⟩ : ByteArray).toList)
bif v_2 then
some 2
else
let v_3 : Bool := ((s0.extract (0 : Int).toNat (2 : Int).toNat).toList == (⟨#[33, 61]⟩ : ByteArray).toList)
bif v_3 then
some 2
else
let v_4 : Bool := ((s0.extract (0 : Int).toNat (2 : Int).toNat).toList == (⟨#[60, 61]⟩ : ByteArray).toList)
bif v_4 then
some 2
else
let v_5 : Bool := ((s0.extract (0 : Int).toNat (2 : Int).toNat).toList == (⟨#[62, 61]⟩ : ByteArray).toList)
bif v_5 then
some 2
else
lex_mark_j9 k (fun t2_7 =>
some t2_7) s0
else
lex_mark_j9 k (fun t2_8 =>
some t2_8) s0

noncomputable def lex_nibble_j5 {ρ : Type} (k : Nat) (kret : Int → Bool → Option ρ) (knxt : Option ρ) (c0 : Int) : Option ρ :=
bif (decide (c0 ≥ 65)) then
bif (decide (c0 ≤ 70)) then
kret (IntKind.u8.wrap ((IntKind.u8.wrap (c0 - 65)) + 10)) true
else
knxt
else
knxt

/-- cadastre/lex.nibble -/
noncomputable def lex_nibble (k : Nat) (c0 : Int) : Option (Int × Bool) :=
(lex_digit k c0).bind fun r_1 =>
bif r_1 then
some ((IntKind.u8.wrap (c0 - 48)), true)
else
bif (decide (c0 ≥ 97)) then
bif (decide (c0 ≤ 102)) then
some ((IntKind.u8.wrap ((IntKind.u8.wrap (c0 - 97)) + 10)), true)
else
lex_nibble_j5 k (fun t2_2 t3_3 =>
some (t2_2, t3_3)) (some (0, false)) c0
else
lex_nibble_j5 k (fun t2_4 t3_5 =>
some (t2_4, t3_5)) (some (0, false)) c0

noncomputable def lex_blob_l6_b {ρ : Type} (k : Nat) (kret : ByteArray → Int → Bool → Option ρ) (kexit0 : Int → Int → List Int → Option ρ) (rec : ByteArray → Int → Int → (List Int) → Int → Option ρ) (s0 : ByteArray) (at1 : Int) (n7 : Int) (b8 : List Int) (k9 : Int) : Option ρ :=
bif (decide (k9 < (IntKind.i64.wrap (at1 + n7)))) then
chk (0 ≤ k9 ∧ k9 < (s0.size : Int)) <|
(lex_nibble k ((s0.data.toList.getD k9.toNat 0).toNat : Int)).bind fun r_2 =>
chk (0 ≤ (IntKind.i64.wrap (k9 + 1)) ∧ (IntKind.i64.wrap (k9 + 1)) < (s0.size : Int)) <|
let v_3 : Int := ((s0.data.toList.getD (IntKind.i64.wrap (k9 + 1)).toNat 0).toNat : Int)
(lex_nibble k v_3).bind fun r_4 =>
bif (!r_2.2) then
kret ByteArray.empty 0 false
else
bif (!r_4.2) then
kret ByteArray.empty 0 false
else
let v_5 : Int := (IntKind.u8.wrap (r_2.1 * 2 ^ (min (4 : Int).toNat (IntKind.u8).bits)))
let v_6 : Int := (IntKind.u8.wrap (BitVec.ofInt (IntKind.u8).bits v_5 ||| BitVec.ofInt (IntKind.u8).bits r_4.1).toNat)
chk ((b8.length + [v_6].length) * 1 ≤ 140737488355328) <|
rec s0 at1 n7 (b8 ++ [v_6]) (IntKind.i64.wrap (k9 + 2))
else
kexit0 at1 n7 b8
noncomputable def lex_blob_l6 {ρ : Type} (k : Nat) (kret : ByteArray → Int → Bool → Option ρ) (kexit0 : Int → Int → List Int → Option ρ) : Nat → ByteArray → Int → Int → (List Int) → Int → Option ρ
  | 0, _, _, _, _, _ => none
  | n + 1, s0, at1, n7, b8, k9 => lex_blob_l6_b k kret kexit0 (lex_blob_l6 k kret kexit0 n) s0 at1 n7 b8 k9

noncomputable def lex_blob_j4 {ρ : Type} (k : Nat) (kret : ByteArray → Int → Bool → Option ρ) (s0 : ByteArray) (at1 : Int) (n7 : Int) : Option ρ :=
lex_blob_l6 k kret (fun at1_10 n7_11 b8_12 =>
kret (strOfNums b8_12) (IntKind.i64.wrap ((IntKind.i64.wrap (at1_10 + n7_11)) + 1)) true) k s0 at1 n7 [] at1

/-- cadastre/lex.blob -/
noncomputable def lex_blob (k : Nat) (s0 : ByteArray) (at1 : Int) : Option (ByteArray × Int × Bool) :=
chk (0 ≤ at1 ∧ at1 ≤ (s0.size : Int) ∧ (s0.size : Int) ≤ (s0.size : Int)) <|
(strings_IndexByte k (s0.extract at1.toNat (s0.size : Int).toNat) 39).bind fun r_1 =>
bif (decide (r_1 < 0)) then
some (ByteArray.empty, 0, false)
else
bif ((Int.tmod r_1 2) != 0) then
some (ByteArray.empty, 0, false)
else
lex_blob_j4 k (fun text4_13 end5_14 ok6_15 =>
some (text4_13, end5_14, ok6_15)) s0 at1 r_1

noncomputable def lex_Small_l3_b {ρ : Type} (k : Nat) (kexit0 : List Int → Option ρ) (rec : (List Int) → Int → Int → Option ρ) (b3 : List Int) (t9 : Int) (t10 : Int) : Option ρ :=
bif (decide (t10 < t9)) then
chk (0 ≤ t10 ∧ t10 < (b3.length : Int)) <|
bif (decide ((b3.getD t10.toNat 0) ≥ 65)) then
bif (decide ((b3.getD t10.toNat 0) ≤ 90)) then
let v_1 : Int := (IntKind.u8.wrap ((IntKind.u8.wrap ((b3.getD t10.toNat 0) + 97)) - 65))
chk (0 ≤ t10 ∧ t10 < (b3.length : Int)) <|
chk (t10.toNat < b3.length) <|
rec (b3.set t10.toNat v_1) t9 (IntKind.i64.wrap (t10 + 1))
else
rec b3 t9 (IntKind.i64.wrap (t10 + 1))
else
rec b3 t9 (IntKind.i64.wrap (t10 + 1))
else
kexit0 b3
noncomputable def lex_Small_l3 {ρ : Type} (k : Nat) (kexit0 : List Int → Option ρ) : Nat → (List Int) → Int → Int → Option ρ
  | 0, _, _, _ => none
  | n + 1, b3, t9, t10 => lex_Small_l3_b k kexit0 (lex_Small_l3 k kexit0 n) b3 t9 t10

/-- cadastre/lex.Small -/
noncomputable def lex_Small (k : Nat) (s0 : ByteArray) : Option ByteArray :=
lex_Small_l3 k (fun b3_2 =>
some (strOfNums b3_2)) k (bytesOf s0) ((bytesOf s0).length : Int) 0

noncomputable def lex_integer_l2_b {ρ : Type} (k : Nat) (kret : Int → Bool → Option ρ) (kexit0 : Int → Option ρ) (rec : ByteArray → Int → Int → Int → Option ρ) (s0 : ByteArray) (n2 : Int) (t7 : Int) (t8 : Int) : Option ρ :=
bif (decide (t8 < t7)) then
chk (0 ≤ t8 ∧ t8 < (s0.size : Int)) <|
let v_1 : Int := (IntKind.u8.wrap (((s0.data.toList.getD t8.toNat 0).toNat : Int) - 48))
let v_2 : Int := (IntKind.i64.wrap (Int.tdiv (IntKind.i64.wrap (9223372036854775807 - (IntKind.i64.wrap v_1))) 10))
bif (decide (n2 > v_2)) then
kret 0 false
else
let v_3 : Int := (IntKind.i64.wrap ((IntKind.i64.wrap (10 * n2)) + (IntKind.i64.wrap v_1)))
rec s0 v_3 t7 (IntKind.i64.wrap (t8 + 1))
else
kexit0 n2
noncomputable def lex_integer_l2 {ρ : Type} (k : Nat) (kret : Int → Bool → Option ρ) (kexit0 : Int → Option ρ) : Nat → ByteArray → Int → Int → Int → Option ρ
  | 0, _, _, _, _ => none
  | n + 1, s0, n2, t7, t8 => lex_integer_l2_b k kret kexit0 (lex_integer_l2 k kret kexit0 n) s0 n2 t7 t8

/-- cadastre/lex.integer -/
noncomputable def lex_integer (k : Nat) (s0 : ByteArray) : Option (Int × Bool) :=
lex_integer_l2 k (fun n2_4 ok3_5 =>
some (n2_4, ok3_5)) (fun n2_6 =>
some (n2_6, true)) k s0 0 (s0.size : Int) 0

noncomputable def lex_quoted_j2 {ρ : Type} (k : Nat) (kret : ByteArray → Int → Bool → Option ρ) (kgoto0 : ByteArray → Int → List Int → Option ρ) (s0 : ByteArray) (at1 : Int) (b7 : List Int) : Option ρ :=
bif (at1 == (s0.size : Int)) then
kret ByteArray.empty 0 false
else
chk (0 ≤ at1 ∧ at1 < (s0.size : Int)) <|
bif (((s0.data.toList.getD at1.toNat 0).toNat : Int) != 39) then
chk (0 ≤ at1 ∧ at1 < (s0.size : Int)) <|
chk ((b7.length + [((s0.data.toList.getD at1.toNat 0).toNat : Int)].length) * 1 ≤ 140737488355328) <|
kgoto0 s0 (IntKind.i64.wrap (at1 + 1)) (b7 ++ [((s0.data.toList.getD at1.toNat 0).toNat : Int)])
else
bif (decide ((IntKind.i64.wrap (at1 + 1)) < (s0.size : Int))) then
chk (0 ≤ (IntKind.i64.wrap (at1 + 1)) ∧ (IntKind.i64.wrap (at1 + 1)) < (s0.size : Int)) <|
let v_1 : Int := ((s0.data.toList.getD (IntKind.i64.wrap (at1 + 1)).toNat 0).toNat : Int)
bif (v_1 == 39) then
chk ((b7.length + [39].length) * 1 ≤ 140737488355328) <|
kgoto0 s0 (IntKind.i64.wrap (at1 + 2)) (b7 ++ [39])
else
kret (strOfNums b7) (IntKind.i64.wrap (at1 + 1)) true
else
kret (strOfNums b7) (IntKind.i64.wrap (at1 + 1)) true

noncomputable def lex_quoted_g0_b {ρ : Type} (k : Nat) (kret : ByteArray → Int → Bool → Option ρ) (rec : ByteArray → Int → (List Int) → Option ρ) (s0 : ByteArray) (at1 : Int) (b7 : List Int) : Option ρ :=
lex_quoted_j2 k kret rec s0 at1 b7
noncomputable def lex_quoted_g0 {ρ : Type} (k : Nat) (kret : ByteArray → Int → Bool → Option ρ) : Nat → ByteArray → Int → (List Int) → Option ρ
  | 0, _, _, _ => none
  | n + 1, s0, at1, b7 => lex_quoted_g0_b k kret (lex_quoted_g0 k kret n) s0 at1 b7

/-- cadastre/lex.quoted -/
noncomputable def lex_quoted (k : Nat) (s0 : ByteArray) (at1 : Int) : Option (ByteArray × Int × Bool) :=
lex_quoted_j2 k (fun text4_2 end5_3 ok6_4 =>
some (text4_2, end5_3, ok6_4)) (fun s0_5 at1_6 b7_7 =>
lex_quoted_g0 k (fun text4_14 end5_15 ok6_16 =>
some (text4_14, end5_15, ok6_16)) k s0_5 at1_6 b7_7) s0 at1 []

/-- cadastre/lex.token$1 -/
noncomputable def lex_token_1 (k : Nat) (c0 : Int) : Option Bool :=
(lex_letter k c0).bind fun r_1 =>
bif r_1 then
some true
else
(lex_digit k c0).bind fun r_2 =>
some r_2

noncomputable def lex_span_ftoken_1_l1_b {ρ : Type} (k : Nat) (kexit0 : Int → Option ρ) (rec : ByteArray → Int → Option ρ) (s0 : ByteArray) (at1 : Int) : Option ρ :=
bif (decide (at1 < (s0.size : Int))) then
chk (0 ≤ at1 ∧ at1 < (s0.size : Int)) <|
(lex_token_1 k ((s0.data.toList.getD at1.toNat 0).toNat : Int)).bind fun r_1 =>
bif r_1 then
rec s0 (IntKind.i64.wrap (at1 + 1))
else
kexit0 at1
else
kexit0 at1
noncomputable def lex_span_ftoken_1_l1 {ρ : Type} (k : Nat) (kexit0 : Int → Option ρ) : Nat → ByteArray → Int → Option ρ
  | 0, _, _ => none
  | n + 1, s0, at1 => lex_span_ftoken_1_l1_b k kexit0 (lex_span_ftoken_1_l1 k kexit0 n) s0 at1

/-- cadastre/lex.span -/
noncomputable def lex_span_ftoken_1 (k : Nat) (s0 : ByteArray) (at1 : Int) : Option Int :=
lex_span_ftoken_1_l1 k (fun at1_2 =>
some at1_2) k s0 at1

noncomputable def lex_span_fdigit_l1_b {ρ : Type} (k : Nat) (kexit0 : Int → Option ρ) (rec : ByteArray → Int → Option ρ) (s0 : ByteArray) (at1 : Int) : Option ρ :=
bif (decide (at1 < (s0.size : Int))) then
chk (0 ≤ at1 ∧ at1 < (s0.size : Int)) <|
(lex_digit k ((s0.data.toList.getD at1.toNat 0).toNat : Int)).bind fun r_1 =>
bif r_1 then
rec s0 (IntKind.i64.wrap (at1 + 1))
else
kexit0 at1
else
kexit0 at1
noncomputable def lex_span_fdigit_l1 {ρ : Type} (k : Nat) (kexit0 : Int → Option ρ) : Nat → ByteArray → Int → Option ρ
  | 0, _, _ => none
  | n + 1, s0, at1 => lex_span_fdigit_l1_b k kexit0 (lex_span_fdigit_l1 k kexit0 n) s0 at1

/-- cadastre/lex.span -/
noncomputable def lex_span_fdigit (k : Nat) (s0 : ByteArray) (at1 : Int) : Option Int :=
lex_span_fdigit_l1 k (fun at1_2 =>
some at1_2) k s0 at1

noncomputable def lex_token_j3 {ρ : Type} (k : Nat) (kgoto1 : ByteArray → Int → SToken → Option ρ) (kgoto2 : ByteArray → Int → SToken → Option ρ) (kgoto3 : ByteArray → Int → SToken → Option ρ) (kret : Int → Bool → SToken → Option ρ) (s0 : ByteArray) (at1 : Int) (c7 : Int) (t4 : SToken) : Option ρ :=
(lex_letter k c7).bind fun r_3 =>
bif r_3 then
kgoto1 s0 at1 t4
else
(lex_digit k c7).bind fun r_4 =>
bif r_4 then
kgoto2 s0 at1 t4
else
bif (c7 == 39) then
kgoto3 s0 at1 t4
else
chk (0 ≤ at1 ∧ at1 ≤ (s0.size : Int) ∧ (s0.size : Int) ≤ (s0.size : Int)) <|
(lex_mark k (s0.extract at1.toNat (s0.size : Int).toNat)).bind fun r_5 =>
bif (decide (r_5 > 0)) then
chk (0 ≤ at1 ∧ at1 ≤ (IntKind.i64.wrap (at1 + r_5)) ∧ (IntKind.i64.wrap (at1 + r_5)) ≤ (s0.size : Int)) <|
let v_6 : Bool := ((s0.extract at1.toNat (IntKind.i64.wrap (at1 + r_5)).toNat).toList == (⟨#[33, 61]⟩ : ByteArray).toList)
bif v_6 then
kret (IntKind.i64.wrap (at1 + r_5)) true (⟨5, (⟨#[60, 62]⟩ : ByteArray), 0⟩ : SToken)
else
kret (IntKind.i64.wrap (at1 + r_5)) true (⟨5, (s0.extract at1.toNat (IntKind.i64.wrap (at1 + r_5)).toNat), 0⟩ : SToken)
else
kret 0 false (⟨0, ByteArray.empty, 0⟩ : SToken)

/-- cadastre/lex.token -/
noncomputable def lex_token (k : Nat) (s0 : ByteArray) (at1 : Int) : Option (SToken × Int × Bool) :=
chk (0 ≤ at1 ∧ at1 < (s0.size : Int)) <|
bif (((s0.data.toList.getD at1.toNat 0).toNat : Int) == 120) then
bif (decide ((IntKind.i64.wrap (at1 + 1)) < (s0.size : Int))) then
chk (0 ≤ (IntKind.i64.wrap (at1 + 1)) ∧ (IntKind.i64.wrap (at1 + 1)) < (s0.size : Int)) <|
let v_1 : Int := ((s0.data.toList.getD (IntKind.i64.wrap (at1 + 1)).toNat 0).toNat : Int)
bif (v_1 == 39) then
(lex_blob k s0 (IntKind.i64.wrap (at1 + 2))).bind fun r_2 =>
some ((⟨4, r_2.1, 0⟩ : SToken), r_2.2.1, r_2.2.2)
else
lex_token_j3 k (fun s0_7 at1_8 t4_9 =>
(lex_span_ftoken_1 k s0_7 at1_8).bind fun r_10 =>
chk (0 ≤ at1_8 ∧ at1_8 ≤ r_10 ∧ r_10 ≤ (s0_7.size : Int)) <|
(lex_Small k (s0_7.extract at1_8.toNat r_10.toNat)).bind fun r_11 =>
some ((⟨1, r_11, 0⟩ : SToken), r_10, true)) (fun s0_12 at1_13 t4_14 =>
(lex_span_fdigit k s0_12 at1_13).bind fun r_15 =>
chk (0 ≤ at1_13 ∧ at1_13 ≤ r_15 ∧ r_15 ≤ (s0_12.size : Int)) <|
(lex_integer k (s0_12.extract at1_13.toNat r_15.toNat)).bind fun r_16 =>
some ((⟨2, t4_14.f1, r_16.1⟩ : SToken), r_15, r_16.2)) (fun s0_17 at1_18 t4_19 =>
(lex_quoted k s0_17 (IntKind.i64.wrap (at1_18 + 1))).bind fun r_20 =>
some ((⟨3, r_20.1, t4_19.f2⟩ : SToken), r_20.2.1, r_20.2.2)) (fun end5_21 ok6_22 t4_23 =>
some (t4_23, end5_21, ok6_22)) s0 at1 ((s0.data.toList.getD at1.toNat 0).toNat : Int) (⟨0, ByteArray.empty, 0⟩ : SToken)
else
lex_token_j3 k (fun s0_24 at1_25 t4_26 =>
(lex_span_ftoken_1 k s0_24 at1_25).bind fun r_27 =>
chk (0 ≤ at1_25 ∧ at1_25 ≤ r_27 ∧ r_27 ≤ (s0_24.size : Int)) <|
(lex_Small k (s0_24.extract at1_25.toNat r_27.toNat)).bind fun r_28 =>
some ((⟨1, r_28, 0⟩ : SToken), r_27, true)) (fun s0_29 at1_30 t4_31 =>
(lex_span_fdigit k s0_29 at1_30).bind fun r_32 =>
chk (0 ≤ at1_30 ∧ at1_30 ≤ r_32 ∧ r_32 ≤ (s0_29.size : Int)) <|
(lex_integer k (s0_29.extract at1_30.toNat r_32.toNat)).bind fun r_33 =>
some ((⟨2, t4_31.f1, r_33.1⟩ : SToken), r_32, r_33.2)) (fun s0_34 at1_35 t4_36 =>
(lex_quoted k s0_34 (IntKind.i64.wrap (at1_35 + 1))).bind fun r_37 =>
some ((⟨3, r_37.1, t4_36.f2⟩ : SToken), r_37.2.1, r_37.2.2)) (fun end5_38 ok6_39 t4_40 =>
some (t4_40, end5_38, ok6_39)) s0 at1 ((s0.data.toList.getD at1.toNat 0).toNat : Int) (⟨0, ByteArray.empty, 0⟩ : SToken)
else
bif (((s0.data.toList.getD at1.toNat 0).toNat : Int) == 88) then
bif (decide ((IntKind.i64.wrap (at1 + 1)) < (s0.size : Int))) then
chk (0 ≤ (IntKind.i64.wrap (at1 + 1)) ∧ (IntKind.i64.wrap (at1 + 1)) < (s0.size : Int)) <|
let v_41 : Int := ((s0.data.toList.getD (IntKind.i64.wrap (at1 + 1)).toNat 0).toNat : Int)
bif (v_41 == 39) then
(lex_blob k s0 (IntKind.i64.wrap (at1 + 2))).bind fun r_42 =>
some ((⟨4, r_42.1, 0⟩ : SToken), r_42.2.1, r_42.2.2)
else
lex_token_j3 k (fun s0_43 at1_44 t4_45 =>
(lex_span_ftoken_1 k s0_43 at1_44).bind fun r_46 =>
chk (0 ≤ at1_44 ∧ at1_44 ≤ r_46 ∧ r_46 ≤ (s0_43.size : Int)) <|
(lex_Small k (s0_43.extract at1_44.toNat r_46.toNat)).bind fun r_47 =>
some ((⟨1, r_47, 0⟩ : SToken), r_46, true)) (fun s0_48 at1_49 t4_50 =>
(lex_span_fdigit k s0_48 at1_49).bind fun r_51 =>
chk (0 ≤ at1_49 ∧ at1_49 ≤ r_51 ∧ r_51 ≤ (s0_48.size : Int)) <|
(lex_integer k (s0_48.extract at1_49.toNat r_51.toNat)).bind fun r_52 =>
some ((⟨2, t4_50.f1, r_52.1⟩ : SToken), r_51, r_52.2)) (fun s0_53 at1_54 t4_55 =>
(lex_quoted k s0_53 (IntKind.i64.wrap (at1_54 + 1))).bind fun r_56 =>
some ((⟨3, r_56.1, t4_55.f2⟩ : SToken), r_56.2.1, r_56.2.2)) (fun end5_57 ok6_58 t4_59 =>
some (t4_59, end5_57, ok6_58)) s0 at1 ((s0.data.toList.getD at1.toNat 0).toNat : Int) (⟨0, ByteArray.empty, 0⟩ : SToken)
else
lex_token_j3 k (fun s0_60 at1_61 t4_62 =>
(lex_span_ftoken_1 k s0_60 at1_61).bind fun r_63 =>
chk (0 ≤ at1_61 ∧ at1_61 ≤ r_63 ∧ r_63 ≤ (s0_60.size : Int)) <|
(lex_Small k (s0_60.extract at1_61.toNat r_63.toNat)).bind fun r_64 =>
some ((⟨1, r_64, 0⟩ : SToken), r_63, true)) (fun s0_65 at1_66 t4_67 =>
(lex_span_fdigit k s0_65 at1_66).bind fun r_68 =>
chk (0 ≤ at1_66 ∧ at1_66 ≤ r_68 ∧ r_68 ≤ (s0_65.size : Int)) <|
(lex_integer k (s0_65.extract at1_66.toNat r_68.toNat)).bind fun r_69 =>
some ((⟨2, t4_67.f1, r_69.1⟩ : SToken), r_68, r_69.2)) (fun s0_70 at1_71 t4_72 =>
(lex_quoted k s0_70 (IntKind.i64.wrap (at1_71 + 1))).bind fun r_73 =>
some ((⟨3, r_73.1, t4_72.f2⟩ : SToken), r_73.2.1, r_73.2.2)) (fun end5_74 ok6_75 t4_76 =>
some (t4_76, end5_74, ok6_75)) s0 at1 ((s0.data.toList.getD at1.toNat 0).toNat : Int) (⟨0, ByteArray.empty, 0⟩ : SToken)
else
lex_token_j3 k (fun s0_77 at1_78 t4_79 =>
(lex_span_ftoken_1 k s0_77 at1_78).bind fun r_80 =>
chk (0 ≤ at1_78 ∧ at1_78 ≤ r_80 ∧ r_80 ≤ (s0_77.size : Int)) <|
(lex_Small k (s0_77.extract at1_78.toNat r_80.toNat)).bind fun r_81 =>
some ((⟨1, r_81, 0⟩ : SToken), r_80, true)) (fun s0_82 at1_83 t4_84 =>
(lex_span_fdigit k s0_82 at1_83).bind fun r_85 =>
chk (0 ≤ at1_83 ∧ at1_83 ≤ r_85 ∧ r_85 ≤ (s0_82.size : Int)) <|
(lex_integer k (s0_82.extract at1_83.toNat r_85.toNat)).bind fun r_86 =>
some ((⟨2, t4_84.f1, r_86.1⟩ : SToken), r_85, r_86.2)) (fun s0_87 at1_88 t4_89 =>
(lex_quoted k s0_87 (IntKind.i64.wrap (at1_88 + 1))).bind fun r_90 =>
some ((⟨3, r_90.1, t4_89.f2⟩ : SToken), r_90.2.1, r_90.2.2)) (fun end5_91 ok6_92 t4_93 =>
some (t4_93, end5_91, ok6_92)) s0 at1 ((s0.data.toList.getD at1.toNat 0).toNat : Int) (⟨0, ByteArray.empty, 0⟩ : SToken)

/-- cadastre/lex.long -/
noncomputable def lex_long (k : Nat) (t0 : SToken) : Option Bool :=
bif (t0.f0 == 1) then
some (decide ((t0.f1.size : Int) > 32))
else
some (big (decide ((t0.f1.size : Int) > 4096)))

noncomputable def lex_Tokens_l6_b {ρ : Type} (k : Nat) (kret : List SToken → Int → Option ρ) (kexit0 : List SToken → Int → Option ρ) (rec : ByteArray → (List SToken) → Int → Int → Option ρ) (s0 : ByteArray) (l4 : List SToken) (e5 : Int) (at6 : Int) : Option ρ :=
bif (decide (at6 < (s0.size : Int))) then
(lex_token k s0 at6).bind fun r_2 =>
bif (!r_2.2.2) then
kret [] 1
else
(lex_long k r_2.1).bind fun r_3 =>
bif r_3 then
chk ((l4.length + [r_2.1].length) * 32 ≤ 140737488355328) <|
(lex_skip k s0 r_2.2.1).bind fun r_4 =>
rec s0 (l4 ++ [r_2.1]) 7 r_4
else
chk ((l4.length + [r_2.1].length) * 32 ≤ 140737488355328) <|
(lex_skip k s0 r_2.2.1).bind fun r_5 =>
rec s0 (l4 ++ [r_2.1]) e5 r_5
else
kexit0 l4 e5
noncomputable def lex_Tokens_l6 {ρ : Type} (k : Nat) (kret : List SToken → Int → Option ρ) (kexit0 : List SToken → Int → Option ρ) : Nat → ByteArray → (List SToken) → Int → Int → Option ρ
  | 0, _, _, _, _ => none
  | n + 1, s0, l4, e5, at6 => lex_Tokens_l6_b k kret kexit0 (lex_Tokens_l6 k kret kexit0 n) s0 l4 e5 at6

/-- cadastre/lex.Tokens -/
noncomputable def lex_Tokens (k : Nat) (s0 : ByteArray) : Option ((List SToken) × Int) :=
bif (big (decide ((s0.size : Int) > 8192))) then
some ([], 7)
else
(lex_skip k s0 0).bind fun r_1 =>
lex_Tokens_l6 k (fun t2_6 t3_7 =>
some (t2_6, t3_7)) (fun l4_8 e5_9 =>
bif (e5_9 != 0) then
some ([], e5_9)
else
some (l4_8, 0)) k s0 [] 0 r_1

/-- cadastre/parse.Keys -/
noncomputable def parse_Keys (k : Nat) : Option (List ByteArray) :=
some [(⟨#[97, 110, 100]⟩ : ByteArray), (⟨#[97, 110, 121]⟩ : ByteArray), (⟨#[98, 101, 103, 105, 110]⟩ : ByteArray), (⟨#[98, 108, 111, 98]⟩ : ByteArray), (⟨#[98, 121]⟩ : ByteArray), (⟨#[99, 111, 109, 109, 105, 116]⟩ : ByteArray), (⟨#[99, 111, 117, 110, 116]⟩ : ByteArray), (⟨#[99, 114, 101, 97, 116, 101]⟩ : ByteArray), (⟨#[100, 101, 108, 101, 116, 101]⟩ : ByteArray), (⟨#[100, 101, 115, 99]⟩ : ByteArray), (⟨#[100, 114, 111, 112]⟩ : ByteArray), (⟨#[102, 114, 111, 109]⟩ : ByteArray), (⟨#[105, 110, 100, 101, 120]⟩ : ByteArray), (⟨#[105, 110, 115, 101, 114, 116]⟩ : ByteArray), (⟨#[105, 110, 116, 101, 103, 101, 114]⟩ : ByteArray), (⟨#[105, 110, 116, 111]⟩ : ByteArray), (⟨#[105, 115]⟩ : ByteArray), (⟨#[108, 101, 110, 103, 116, 104]⟩ : ByteArray), (⟨#[109, 97, 120]⟩ : ByteArray), (⟨#[109, 105, 110]⟩ : ByteArray), (⟨#[110, 111, 116]⟩ : ByteArray), (⟨#[110, 117, 108, 108]⟩ : ByteArray), (⟨#[111, 110]⟩ : ByteArray), (⟨#[111, 114]⟩ : ByteArray), (⟨#[111, 114, 100, 101, 114]⟩ : ByteArray), (⟨#[114, 111, 108, 108, 98, 97, 99, 107]⟩ : ByteArray), (⟨#[114, 116, 114, 101, 101]⟩ : ByteArray), (⟨#[115, 101, 108, 101, 99, 116]⟩ : ByteArray), (⟨#[115, 101, 116]⟩ : ByteArray), (⟨#[115, 117, 109]⟩ : ByteArray), (⟨#[116, 97, 98, 108, 101]⟩ : ByteArray), (⟨#[116, 101, 120, 116]⟩ : ByteArray), (⟨#[116, 121, 112, 101, 111, 102]⟩ : ByteArray), (⟨#[117, 110, 105, 113, 117, 101]⟩ : ByteArray), (⟨#[117, 112, 100, 97, 116, 101]⟩ : ByteArray), (⟨#[117, 115, 105, 110, 103]⟩ : ByteArray), (⟨#[118, 97, 108, 117, 101, 115]⟩ : ByteArray), (⟨#[118, 105, 114, 116, 117, 97, 108]⟩ : ByteArray), (⟨#[119, 104, 101, 114, 101]⟩ : ByteArray)]

/-- cmp.isNaN[string] -/
noncomputable def cmp_isNaN_string_ (k : Nat) (x0 : ByteArray) : Option Bool :=
some (!(x0.toList == x0.toList))

/-- cmp.Less[string] -/
noncomputable def cmp_Less_string_ (k : Nat) (x0 : ByteArray) (y1 : ByteArray) : Option Bool :=
(cmp_isNaN_string_ k x0).bind fun r_1 =>
bif r_1 then
(cmp_isNaN_string_ k y1).bind fun r_2 =>
bif (!r_2) then
some true
else
some (Go.Op.bytesLess x0.toList y1.toList)
else
some (Go.Op.bytesLess x0.toList y1.toList)

/-- slices.isNaN[string] -/
noncomputable def slices_isNaN_string_ (k : Nat) (x0 : ByteArray) : Option Bool :=
some (!(x0.toList == x0.toList))

noncomputable def slices_BinarySearch_string_string__l3_b {ρ : Type} (k : Nat) (kexit0 : List ByteArray → ByteArray → Int → Int → Option ρ) (rec : (List ByteArray) → ByteArray → Int → Int → Int → Option ρ) (x0 : List ByteArray) (target1 : ByteArray) (n6 : Int) (i7 : Int) (j8 : Int) : Option ρ :=
bif (decide (i7 < j8)) then
let v_1 : Int := (Int.fdiv (IntKind.u64.wrap (IntKind.i64.wrap (i7 + j8))) (2 ^ (min (1 : Int).toNat (IntKind.u64).bits)))
chk (0 ≤ (IntKind.i64.wrap v_1) ∧ (IntKind.i64.wrap v_1) < (x0.length : Int)) <|
(cmp_Less_string_ k (x0.getD (IntKind.i64.wrap v_1).toNat ByteArray.empty) target1).bind fun r_2 =>
bif r_2 then
rec x0 target1 n6 (IntKind.i64.wrap ((IntKind.i64.wrap v_1) + 1)) j8
else
rec x0 target1 n6 i7 (IntKind.i64.wrap v_1)
else
kexit0 x0 target1 n6 i7
noncomputable def slices_BinarySearch_string_string__l3 {ρ : Type} (k : Nat) (kexit0 : List ByteArray → ByteArray → Int → Int → Option ρ) : Nat → (List ByteArray) → ByteArray → Int → Int → Int → Option ρ
  | 0, _, _, _, _, _ => none
  | n + 1, x0, target1, n6, i7, j8 => slices_BinarySearch_string_string__l3_b k kexit0 (slices_BinarySearch_string_string__l3 k kexit0 n) x0 target1 n6 i7 j8

/-- slices.BinarySearch[[]string,string] -/
noncomputable def slices_BinarySearch_string_string_ (k : Nat) (x0 : List ByteArray) (target1 : ByteArray) : Option (Int × Bool) :=
slices_BinarySearch_string_string__l3 k (fun x0_3 target1_4 n6_5 i7_6 =>
bif (decide (i7_6 < n6_5)) then
chk (0 ≤ i7_6 ∧ i7_6 < (x0_3.length : Int)) <|
bif ((x0_3.getD i7_6.toNat ByteArray.empty).toList == target1_4.toList) then
some (i7_6, true)
else
chk (0 ≤ i7_6 ∧ i7_6 < (x0_3.length : Int)) <|
(slices_isNaN_string_ k (x0_3.getD i7_6.toNat ByteArray.empty)).bind fun r_7 =>
bif r_7 then
(slices_isNaN_string_ k target1_4).bind fun r_8 =>
some (i7_6, r_8)
else
some (i7_6, false)
else
some (i7_6, false)) k x0 target1 (x0.length : Int) 0 (x0.length : Int)

/-- cadastre/parse.Name -/
noncomputable def parse_Name (k : Nat) (s0 : ByteArray) : Option Bool :=
(parse_Keys k).bind fun r_1 =>
(slices_BinarySearch_string_string_ k r_1 s0).bind fun r_2 =>
some (!r_2.2)

/-- what the functions that call each other answer -/
structure parse_Height_R where
  parse_Height : SExpr → Option Int
noncomputable def parse_Height_l3_b {ρ : Type} (k : Nat) (rc : parse_Height_R) (kexit0 : Int → Option ρ) (rec : Int → (List TExpr) → Int → Int → Option ρ) (h3 : Int) (t7 : List TExpr) (t8 : Int) (t9 : Int) : Option ρ :=
bif (decide (t9 < t8)) then
chk (0 ≤ t9 ∧ t9 < (t7.length : Int)) <|
(rc.parse_Height (t7.getD t9.toNat default).s).bind fun r_1 =>
rec (if r_1 > h3 then r_1 else h3) t7 t8 (IntKind.i64.wrap (t9 + 1))
else
kexit0 h3
noncomputable def parse_Height_l3 {ρ : Type} (k : Nat) (rc : parse_Height_R) (kexit0 : Int → Option ρ) : Nat → Int → (List TExpr) → Int → Int → Option ρ
  | 0, _, _, _, _ => none
  | n + 1, h3, t7, t8, t9 => parse_Height_l3_b k rc kexit0 (parse_Height_l3 k rc kexit0 n) h3 t7 t8 t9

/-- cadastre/parse.Height -/
noncomputable def parse_Height_r (k : Nat) (rc : parse_Height_R) (e0 : SExpr) : Option Int :=
parse_Height_l3 k rc (fun h3_2 =>
some (IntKind.i64.wrap (h3_2 + 1))) k 0 e0.f4 (e0.f4.length : Int) 0
noncomputable def parse_Height_R_it (k : Nat) : Nat → parse_Height_R
  | 0 => ⟨fun _ => none⟩
  | d + 1 => ⟨parse_Height_r k (parse_Height_R_it k d)⟩
/-- cadastre/parse.Height -/
noncomputable def parse_Height (k : Nat) (e0 : SExpr) : Option Int := (parse_Height_R_it k k).parse_Height e0

/-- (*cadastre/parse.reader).is -/
noncomputable def parse_reader_is_p0 (k : Nat) (s1 : ByteArray) (bx0 : Sreader) : Option ((Bool) × Sreader) :=
bif (decide ((bx0.f0.length : Int) > 0)) then
chk (0 ≤ (0 : Int) ∧ (0 : Int) < (bx0.f0.length : Int)) <|
bif ((bx0.f0.getD 0 default).f0 == 1) then
chk (0 ≤ (0 : Int) ∧ (0 : Int) < (bx0.f0.length : Int)) <|
some (((bx0.f0.getD 0 default).f1.toList == s1.toList), bx0)
else
chk (0 ≤ (0 : Int) ∧ (0 : Int) < (bx0.f0.length : Int)) <|
bif ((bx0.f0.getD 0 default).f0 == 5) then
chk (0 ≤ (0 : Int) ∧ (0 : Int) < (bx0.f0.length : Int)) <|
some (((bx0.f0.getD 0 default).f1.toList == s1.toList), bx0)
else
some (false, bx0)
else
some (false, bx0)

/-- (*cadastre/parse.reader).got -/
noncomputable def parse_reader_got_p0 (k : Nat) (s1 : ByteArray) (bx0 : Sreader) : Option ((Bool) × Sreader) :=
(parse_reader_is_p0 k s1 bx0).bind fun r_1 =>
bif (!r_1.1) then
some (false, r_1.2)
else
chk (0 ≤ (1 : Int) ∧ (1 : Int) ≤ (r_1.2.f0.length : Int) ∧ (r_1.2.f0.length : Int) ≤ (r_1.2.f0.length : Int)) <|
some (true, (⟨((r_1.2.f0.drop (1 : Int).toNat).take ((r_1.2.f0.length : Int).toNat - (1 : Int).toNat)), r_1.2.f1, r_1.2.f2, r_1.2.f3, r_1.2.f4⟩ : Sreader))

/-- (*cadastre/parse.reader).fail -/
noncomputable def parse_reader_fail_p0 (k : Nat) (bx0 : Sreader) : Option ((Unit) × Sreader) :=
some ((), (⟨bx0.f0, true, bx0.f2, bx0.f3, bx0.f4⟩ : Sreader))

noncomputable def parse_reader_name_p0_j4 {ρ : Type} (k : Nat) (kret : ByteArray → Sreader → Option ρ) (t1000 : Sreader) : Option ρ :=
chk (0 ≤ (0 : Int) ∧ (0 : Int) < (t1000.f0.length : Int)) <|
chk (0 ≤ (1 : Int) ∧ (1 : Int) ≤ (t1000.f0.length : Int) ∧ (t1000.f0.length : Int) ≤ (t1000.f0.length : Int)) <|
kret (t1000.f0.getD 0 default).f1 (⟨((t1000.f0.drop (1 : Int).toNat).take ((t1000.f0.length : Int).toNat - (1 : Int).toNat)), t1000.f1, t1000.f2, t1000.f3, t1000.f4⟩ : Sreader)

/-- (*cadastre/parse.reader).name -/
noncomputable def parse_reader_name_p0 (k : Nat) (bx0 : Sreader) : Option ((ByteArray) × Sreader) :=
bif ((bx0.f0.length : Int) == 0) then
(parse_reader_fail_p0 k bx0).bind fun r_1 =>
some (ByteArray.empty, r_1.2)
else
chk (0 ≤ (0 : Int) ∧ (0 : Int) < (bx0.f0.length : Int)) <|
bif ((bx0.f0.getD 0 default).f0 != 1) then
(parse_reader_fail_p0 k bx0).bind fun r_2 =>
some (ByteArray.empty, r_2.2)
else
chk (0 ≤ (0 : Int) ∧ (0 : Int) < (bx0.f0.length : Int)) <|
(parse_Name k (bx0.f0.getD 0 default).f1).bind fun r_3 =>
bif (!r_3) then
(parse_reader_fail_p0 k bx0).bind fun r_4 =>
some (ByteArray.empty, r_4.2)
else
parse_reader_name_p0_j4 k (fun t2_5 t1000_6 =>
some (t2_5, t1000_6)) bx0

noncomputable def parse_reader_must_p0_l1_b {ρ : Type} (k : Nat) (kgoto0 : Sreader → Option ρ) (kexit0 : Sreader → Option ρ) (rec : (List ByteArray) → Int → Int → Sreader → Option ρ) (t6 : List ByteArray) (t7 : Int) (t8 : Int) (t1000 : Sreader) : Option ρ :=
bif (decide (t8 < t7)) then
chk (0 ≤ t8 ∧ t8 < (t6.length : Int)) <|
bif t1000.f1 then
kgoto0 t1000
else
(parse_reader_got_p0 k (t6.getD t8.toNat ByteArray.empty) t1000).bind fun r_1 =>
bif (!r_1.1) then
kgoto0 r_1.2
else
rec t6 t7 (IntKind.i64.wrap (t8 + 1)) r_1.2
else
kexit0 t1000
noncomputable def parse_reader_must_p0_l1 {ρ : Type} (k : Nat) (kgoto0 : Sreader → Option ρ) (kexit0 : Sreader → Option ρ) : Nat → (List ByteArray) → Int → Int → Sreader → Option ρ
  | 0, _, _, _, _ => none
  | n + 1, t6, t7, t8, t1000 => parse_reader_must_p0_l1_b k kgoto0 kexit0 (parse_reader_must_p0_l1 k kgoto0 kexit0 n) t6 t7 t8 t1000

/-- (*cadastre/parse.reader).must -/
noncomputable def parse_reader_must_p0 (k : Nat) (l1 : List ByteArray) (bx0 : Sreader) : Option ((Unit) × Sreader) :=
parse_reader_must_p0_l1 k (fun t1000_2 =>
(parse_reader_fail_p0 k t1000_2).bind fun r_3 =>
some ((), r_3.2)) (fun t1000_4 =>
some ((), t1000_4)) k l1 (l1.length : Int) 0 bx0

noncomputable def parse_reader_column_p0_l3_b {ρ : Type} (k : Nat) (kexit0 : SColumn → SColumn → Sreader → Option ρ) (rec : (List ByteArray) → Int → Int → SColumn → SColumn → Sreader → Option ρ) (t9 : List ByteArray) (t10 : Int) (t11 : Int) (t2 : SColumn) (c3 : SColumn) (t1000 : Sreader) : Option ρ :=
bif (decide (t11 < t10)) then
chk (0 ≤ t11 ∧ t11 < (t9.length : Int)) <|
let v_3 : Bool := (!((t9.getD t11.toNat ByteArray.empty).toList == ByteArray.empty.toList))
bif v_3 then
(parse_reader_got_p0 k (t9.getD t11.toNat ByteArray.empty) t1000).bind fun r_4 =>
bif r_4.1 then
kexit0 t2 (⟨c3.f0, t11, c3.f2⟩ : SColumn) r_4.2
else
rec t9 t10 (IntKind.i64.wrap (t11 + 1)) t2 c3 r_4.2
else
rec t9 t10 (IntKind.i64.wrap (t11 + 1)) t2 c3 t1000
else
kexit0 t2 c3 t1000
noncomputable def parse_reader_column_p0_l3 {ρ : Type} (k : Nat) (kexit0 : SColumn → SColumn → Sreader → Option ρ) : Nat → (List ByteArray) → Int → Int → SColumn → SColumn → Sreader → Option ρ
  | 0, _, _, _, _, _, _ => none
  | n + 1, t9, t10, t11, t2, c3, t1000 => parse_reader_column_p0_l3_b k kexit0 (parse_reader_column_p0_l3 k kexit0 n) t9 t10 t11 t2 c3 t1000

/-- (*cadastre/parse.reader).column -/
noncomputable def parse_reader_column_p0 (k : Nat) (bx0 : Sreader) : Option ((SColumn) × Sreader) :=
(parse_reader_name_p0 k bx0).bind fun r_1 =>
let v_2 : Int := ([ByteArray.empty, (⟨#[97, 110, 121]⟩ : ByteArray), (⟨#[105, 110, 116, 101, 103, 101, 114]⟩ : ByteArray), (⟨#[116, 101, 120, 116]⟩ : ByteArray), (⟨#[98, 108, 111, 98]⟩ : ByteArray)].length : Int)
parse_reader_column_p0_l3 k (fun t2_5 c3_6 t1000_7 =>
(parse_reader_got_p0 k (⟨#[110, 111, 116]⟩ : ByteArray) t1000_7).bind fun r_8 =>
bif r_8.1 then
(parse_reader_must_p0 k [(⟨#[110, 117, 108, 108]⟩ : ByteArray)] r_8.2).bind fun r_9 =>
some ((⟨c3_6.f0, c3_6.f1, true⟩ : SColumn), r_9.2)
else
some (c3_6, r_8.2)) k [ByteArray.empty, (⟨#[97, 110, 121]⟩ : ByteArray), (⟨#[105, 110, 116, 101, 103, 101, 114]⟩ : ByteArray), (⟨#[116, 101, 120, 116]⟩ : ByteArray), (⟨#[98, 108, 111, 98]⟩ : ByteArray)] v_2 0 (⟨ByteArray.empty, 0, false⟩ : SColumn) (⟨r_1.1, 1, false⟩ : SColumn) r_1.2

noncomputable def parse_list_api_Column__p0_fcolumn_l1_b {ρ : Type} (k : Nat) (kexit0 : List SColumn → Sreader → Option ρ) (rec : (List SColumn) → Sreader → Option ρ) (l4 : List SColumn) (t1000 : Sreader) : Option ρ :=
bif (!t1000.f1) then
(parse_reader_column_p0 k t1000).bind fun r_1 =>
chk ((l4.length + [r_1.1].length) * 32 ≤ 140737488355328) <|
(parse_reader_got_p0 k (⟨#[44]⟩ : ByteArray) r_1.2).bind fun r_2 =>
bif (!r_2.1) then
kexit0 (l4 ++ [r_1.1]) r_2.2
else
rec (l4 ++ [r_1.1]) r_2.2
else
kexit0 l4 t1000
noncomputable def parse_list_api_Column__p0_fcolumn_l1 {ρ : Type} (k : Nat) (kexit0 : List SColumn → Sreader → Option ρ) : Nat → (List SColumn) → Sreader → Option ρ
  | 0, _, _ => none
  | n + 1, l4, t1000 => parse_list_api_Column__p0_fcolumn_l1_b k kexit0 (parse_list_api_Column__p0_fcolumn_l1 k kexit0 n) l4 t1000

/-- cadastre/parse.list[cadastre/api.Column] -/
noncomputable def parse_list_api_Column__p0_fcolumn (k : Nat) (bx0 : Sreader) : Option (((List SColumn)) × Sreader) :=
parse_list_api_Column__p0_fcolumn_l1 k (fun l4_3 t1000_4 =>
some (l4_3, t1000_4)) k [] bx0

/-- (*cadastre/parse.reader).create$1 -/
noncomputable def parse_reader_create_1_q0 (k : Nat) (bx0 : Sreader) : Option (((List SColumn)) × Sreader) :=
(parse_list_api_Column__p0_fcolumn k bx0).bind fun r_1 =>
some (r_1.1, r_1.2)

/-- cadastre/parse.in[[]cadastre/api.Column] -/
noncomputable def parse_in_Lapi_Column__p0_fcreate_1 (k : Nat) (bx0 : Sreader) : Option (((List SColumn)) × Sreader) :=
(parse_reader_must_p0 k [(⟨#[40]⟩ : ByteArray)] bx0).bind fun r_1 =>
(parse_reader_create_1_q0 k r_1.2).bind fun r_2 =>
(parse_reader_must_p0 k [(⟨#[41]⟩ : ByteArray)] r_2.2).bind fun r_3 =>
some (r_2.1, r_3.2)

/-- (*cadastre/parse.reader).most -/
noncomputable def parse_reader_most_p0 (k : Nat) (n1 : Int) (most2 : Int) (bx0 : Sreader) : Option ((Unit) × Sreader) :=
bif (decide (n1 > most2)) then
some ((), (⟨bx0.f0, bx0.f1, true, bx0.f3, bx0.f4⟩ : Sreader))
else
some ((), bx0)

noncomputable def parse_list_string__p0_fname_l1_b {ρ : Type} (k : Nat) (kexit0 : List ByteArray → Sreader → Option ρ) (rec : (List ByteArray) → Sreader → Option ρ) (l4 : List ByteArray) (t1000 : Sreader) : Option ρ :=
bif (!t1000.f1) then
(parse_reader_name_p0 k t1000).bind fun r_1 =>
chk ((l4.length + [r_1.1].length) * 16 ≤ 140737488355328) <|
(parse_reader_got_p0 k (⟨#[44]⟩ : ByteArray) r_1.2).bind fun r_2 =>
bif (!r_2.1) then
kexit0 (l4 ++ [r_1.1]) r_2.2
else
rec (l4 ++ [r_1.1]) r_2.2
else
kexit0 l4 t1000
noncomputable def parse_list_string__p0_fname_l1 {ρ : Type} (k : Nat) (kexit0 : List ByteArray → Sreader → Option ρ) : Nat → (List ByteArray) → Sreader → Option ρ
  | 0, _, _ => none
  | n + 1, l4, t1000 => parse_list_string__p0_fname_l1_b k kexit0 (parse_list_string__p0_fname_l1 k kexit0 n) l4 t1000

/-- cadastre/parse.list[string] -/
noncomputable def parse_list_string__p0_fname (k : Nat) (bx0 : Sreader) : Option (((List ByteArray)) × Sreader) :=
parse_list_string__p0_fname_l1 k (fun l4_3 t1000_4 =>
some (l4_3, t1000_4)) k [] bx0

/-- (*cadastre/parse.reader).names$1 -/
noncomputable def parse_reader_names_1_q0 (k : Nat) (bx0 : Sreader) : Option (((List ByteArray)) × Sreader) :=
(parse_list_string__p0_fname k bx0).bind fun r_1 =>
some (r_1.1, r_1.2)

/-- cadastre/parse.in[[]string] -/
noncomputable def parse_in_string__p0_fnames_1 (k : Nat) (bx0 : Sreader) : Option (((List ByteArray)) × Sreader) :=
(parse_reader_must_p0 k [(⟨#[40]⟩ : ByteArray)] bx0).bind fun r_1 =>
(parse_reader_names_1_q0 k r_1.2).bind fun r_2 =>
(parse_reader_must_p0 k [(⟨#[41]⟩ : ByteArray)] r_2.2).bind fun r_3 =>
some (r_2.1, r_3.2)

/-- (*cadastre/parse.reader).names -/
noncomputable def parse_reader_names_p0 (k : Nat) (bx0 : Sreader) : Option (((List ByteArray)) × Sreader) :=
(parse_in_string__p0_fnames_1 k bx0).bind fun r_1 =>
some (r_1.1, r_1.2)

noncomputable def parse_reader_create_p0_l17_b {ρ : Type} (k : Nat) (kexit1 : Int → ByteArray → ByteArray → Bool → List SColumn → List ByteArray → List (List TExpr) → List SSet → List ByteArray → Bool → List TExpr → List TExpr → List SOrder → Sreader → Option ρ) (rec : (List ByteArray) → Int → Int → Int → ByteArray → ByteArray → Bool → (List SColumn) → (List ByteArray) → (List (List TExpr)) → (List SSet) → (List ByteArray) → Bool → (List TExpr) → (List TExpr) → (List SOrder) → Sreader → Option ρ) (t56 : List ByteArray) (t57 : Int) (t58 : Int) (s2_0 : Int) (s2_1 : ByteArray) (s2_2 : ByteArray) (s2_3 : Bool) (s2_4 : List SColumn) (s2_5 : List ByteArray) (s2_6 : List (List TExpr)) (s2_7 : List SSet) (s2_8 : List ByteArray) (s2_9 : Bool) (s2_10 : List TExpr) (s2_11 : List TExpr) (s2_12 : List SOrder) (t1000 : Sreader) : Option ρ :=
bif (decide (t58 < t57)) then
chk (0 ≤ t58 ∧ t58 < (t56.length : Int)) <|
chk ((s2_4.length + [(⟨(t56.getD t58.toNat ByteArray.empty), 2, true⟩ : SColumn)].length) * 32 ≤ 140737488355328) <|
rec t56 t57 (IntKind.i64.wrap (t58 + 1)) s2_0 s2_1 s2_2 s2_3 (s2_4 ++ [(⟨(t56.getD t58.toNat ByteArray.empty), 2, true⟩ : SColumn)]) s2_5 s2_6 s2_7 s2_8 s2_9 s2_10 s2_11 s2_12 t1000
else
kexit1 s2_0 s2_1 s2_2 s2_3 s2_4 s2_5 s2_6 s2_7 s2_8 s2_9 s2_10 s2_11 s2_12 t1000
noncomputable def parse_reader_create_p0_l17 {ρ : Type} (k : Nat) (kexit1 : Int → ByteArray → ByteArray → Bool → List SColumn → List ByteArray → List (List TExpr) → List SSet → List ByteArray → Bool → List TExpr → List TExpr → List SOrder → Sreader → Option ρ) : Nat → (List ByteArray) → Int → Int → Int → ByteArray → ByteArray → Bool → (List SColumn) → (List ByteArray) → (List (List TExpr)) → (List SSet) → (List ByteArray) → Bool → (List TExpr) → (List TExpr) → (List SOrder) → Sreader → Option ρ
  | 0, _, _, _, _, _, _, _, _, _, _, _, _, _, _, _, _, _ => none
  | n + 1, t56, t57, t58, s2_0, s2_1, s2_2, s2_3, s2_4, s2_5, s2_6, s2_7, s2_8, s2_9, s2_10, s2_11, s2_12, t1000 => parse_reader_create_p0_l17_b k kexit1 (parse_reader_create_p0_l17 k kexit1 n) t56 t57 t58 s2_0 s2_1 s2_2 s2_3 s2_4 s2_5 s2_6 s2_7 s2_8 s2_9 s2_10 s2_11 s2_12 t1000

/-- (*cadastre/parse.reader).create -/
noncomputable def parse_reader_create_p0 (k : Nat) (bx0 : Sreader) : Option ((SStmt) × Sreader) :=
(parse_reader_got_p0 k (⟨#[116, 97, 98, 108, 101]⟩ : ByteArray) bx0).bind fun r_1 =>
bif r_1.1 then
(parse_reader_name_p0 k r_1.2).bind fun r_2 =>
(parse_in_Lapi_Column__p0_fcreate_1 k r_2.2).bind fun r_3 =>
(parse_reader_most_p0 k (r_3.1.length : Int) 16 r_3.2).bind fun r_4 =>
some ((⟨1, r_2.1, ByteArray.empty, false, r_3.1, [], [], [], [], false, [], [], []⟩ : SStmt), r_4.2)
else
(parse_reader_got_p0 k (⟨#[118, 105, 114, 116, 117, 97, 108]⟩ : ByteArray) r_1.2).bind fun r_5 =>
bif r_5.1 then
(parse_reader_must_p0 k [(⟨#[116, 97, 98, 108, 101]⟩ : ByteArray)] r_5.2).bind fun r_6 =>
(parse_reader_name_p0 k r_6.2).bind fun r_7 =>
(parse_reader_must_p0 k [(⟨#[117, 115, 105, 110, 103]⟩ : ByteArray), (⟨#[114, 116, 114, 101, 101]⟩ : ByteArray)] r_7.2).bind fun r_8 =>
(parse_reader_names_p0 k r_8.2).bind fun r_9 =>
parse_reader_create_p0_l17 k (fun s2_10 s2_11 s2_12 s2_13 s2_14 s2_15 s2_16 s2_17 s2_18 s2_19 s2_20 s2_21 s2_22 t1000_23 =>
bif ((s2_14.length : Int) != 5) then
(parse_reader_fail_p0 k t1000_23).bind fun r_24 =>
some ((⟨s2_10, s2_11, s2_12, s2_13, s2_14, s2_15, s2_16, s2_17, s2_18, s2_19, s2_20, s2_21, s2_22⟩ : SStmt), r_24.2)
else
some ((⟨s2_10, s2_11, s2_12, s2_13, s2_14, s2_15, s2_16, s2_17, s2_18, s2_19, s2_20, s2_21, s2_22⟩ : SStmt), t1000_23)) k r_9.1 (r_9.1.length : Int) 0 2 r_7.1 ByteArray.empty false [] [] [] [] [] false [] [] [] r_9.2
else
(parse_reader_got_p0 k (⟨#[117, 110, 105, 113, 117, 101]⟩ : ByteArray) r_5.2).bind fun r_25 =>
(parse_reader_must_p0 k [(⟨#[105, 110, 100, 101, 120]⟩ : ByteArray)] r_25.2).bind fun r_26 =>
(parse_reader_name_p0 k r_26.2).bind fun r_27 =>
(parse_reader_must_p0 k [(⟨#[111, 110]⟩ : ByteArray)] r_27.2).bind fun r_28 =>
(parse_reader_name_p0 k r_28.2).bind fun r_29 =>
(parse_reader_names_p0 k r_29.2).bind fun r_30 =>
(parse_reader_most_p0 k (r_30.1.length : Int) 16 r_30.2).bind fun r_31 =>
some ((⟨3, r_27.1, r_29.1, r_25.1, [], r_30.1, [], [], [], false, [], [], []⟩ : SStmt), r_31.2)

/-- (*cadastre/parse.reader).drop -/
noncomputable def parse_reader_drop_p0 (k : Nat) (bx0 : Sreader) : Option ((SStmt) × Sreader) :=
(parse_reader_got_p0 k (⟨#[116, 97, 98, 108, 101]⟩ : ByteArray) bx0).bind fun r_1 =>
bif r_1.1 then
(parse_reader_name_p0 k r_1.2).bind fun r_2 =>
some ((⟨4, r_2.1, ByteArray.empty, false, [], [], [], [], [], false, [], [], []⟩ : SStmt), r_2.2)
else
(parse_reader_must_p0 k [(⟨#[105, 110, 100, 101, 120]⟩ : ByteArray)] r_1.2).bind fun r_3 =>
(parse_reader_name_p0 k r_3.2).bind fun r_4 =>
some ((⟨5, r_4.1, ByteArray.empty, false, [], [], [], [], [], false, [], [], []⟩ : SStmt), r_4.2)

/-- cadastre/parse.tests -/
noncomputable def parse_tests (k : Nat) : Option (List Soper) :=
some [(⟨(⟨#[61]⟩ : ByteArray), 15⟩ : Soper), (⟨(⟨#[60, 62]⟩ : ByteArray), 16⟩ : Soper), (⟨(⟨#[60]⟩ : ByteArray), 17⟩ : Soper), (⟨(⟨#[60, 61]⟩ : ByteArray), 18⟩ : Soper), (⟨(⟨#[62]⟩ : ByteArray), 19⟩ : Soper), (⟨(⟨#[62, 61]⟩ : ByteArray), 20⟩ : Soper)]

/-- (*cadastre/parse.reader).node -/
noncomputable def parse_reader_node_p0 (k : Nat) (e1 : SExpr) (bx0 : Sreader) : Option ((SExpr) × Sreader) :=
some (e1, (⟨bx0.f0, bx0.f1, bx0.f2, (IntKind.i64.wrap (bx0.f3 + 1)), bx0.f4⟩ : Sreader))

/-- cadastre/value.Int -/
noncomputable def value_Int (k : Nat) (n0 : Int) : Option SValue :=
some (⟨1, n0, ByteArray.empty⟩ : SValue)

/-- cadastre/value.Text -/
noncomputable def value_Text (k : Nat) (s0 : ByteArray) : Option SValue :=
some (⟨2, 0, s0⟩ : SValue)

/-- cadastre/lex.Value -/
noncomputable def lex_Value (k : Nat) (t0 : SToken) : Option SValue :=
bif (t0.f0 == 2) then
(value_Int k t0.f2).bind fun r_1 =>
some r_1
else
bif (t0.f0 == 3) then
(value_Text k t0.f1).bind fun r_2 =>
some r_2
else
some (⟨3, 0, t0.f1⟩ : SValue)

/-- cadastre/parse.functions -/
noncomputable def parse_functions (_ : Nat) : Option Unit :=
some ()

/-- what the functions that call each other answer -/
structure parse_reader_expr_p0_R where
  parse_reader_expr_p0 : Sreader → Option ((SExpr) × Sreader)
  parse_in_api_Expr__p0_fexpr : Sreader → Option ((SExpr) × Sreader)
  parse_reader_inside_p0 : Sreader → Option ((SExpr) × Sreader)
  parse_reader_closest_p0 : Sreader → Option ((SExpr) × Sreader)
  parse_reader_negative_p0 : Sreader → Option ((SExpr) × Sreader)
  parse_reader_left_p0_fnegative : (List Soper) → Sreader → Option ((SExpr) × Sreader)
  parse_reader_concat_p0 : Sreader → Option ((SExpr) × Sreader)
  parse_reader_left_p0_fconcat : (List Soper) → Sreader → Option ((SExpr) × Sreader)
  parse_reader_product_p0 : Sreader → Option ((SExpr) × Sreader)
  parse_reader_left_p0_fproduct : (List Soper) → Sreader → Option ((SExpr) × Sreader)
  parse_reader_sum_p0 : Sreader → Option ((SExpr) × Sreader)
  parse_reader_test_p0 : Sreader → Option ((SExpr) × Sreader)
  parse_reader_not_p0 : Sreader → Option ((SExpr) × Sreader)
  parse_reader_left_p0_fnot : (List Soper) → Sreader → Option ((SExpr) × Sreader)
  parse_reader_and_p0 : Sreader → Option ((SExpr) × Sreader)
  parse_reader_left_p0_fand : (List Soper) → Sreader → Option ((SExpr) × Sreader)
/-- (*cadastre/parse.reader).expr -/
noncomputable def parse_reader_expr_p0_r (k : Nat) (rc : parse_reader_expr_p0_R) (bx0 : Sreader) : Option ((SExpr) × Sreader) :=
(rc.parse_reader_left_p0_fand [(⟨(⟨#[111, 114]⟩ : ByteArray), 22⟩ : Soper)] bx0).bind fun r_1 =>
some (r_1.1, r_1.2)
/-- cadastre/parse.in[cadastre/api.Expr] -/
noncomputable def parse_in_api_Expr__p0_fexpr_r (k : Nat) (rc : parse_reader_expr_p0_R) (bx0 : Sreader) : Option ((SExpr) × Sreader) :=
(parse_reader_must_p0 k [(⟨#[40]⟩ : ByteArray)] bx0).bind fun r_1 =>
(rc.parse_reader_expr_p0 r_1.2).bind fun r_2 =>
(parse_reader_must_p0 k [(⟨#[41]⟩ : ByteArray)] r_2.2).bind fun r_3 =>
some (r_2.1, r_3.2)
/-- (*cadastre/parse.reader).inside -/
noncomputable def parse_reader_inside_p0_r (k : Nat) (rc : parse_reader_expr_p0_R) (bx0 : Sreader) : Option ((SExpr) × Sreader) :=
(parse_reader_most_p0 k (IntKind.i64.wrap (bx0.f4 + 1)) 20 (⟨bx0.f0, bx0.f1, bx0.f2, bx0.f3, (IntKind.i64.wrap (bx0.f4 + 1))⟩ : Sreader)).bind fun r_1 =>
(rc.parse_in_api_Expr__p0_fexpr r_1.2).bind fun r_2 =>
some (r_2.1, (⟨r_2.2.f0, r_2.2.f1, r_2.2.f2, r_2.2.f3, (IntKind.i64.wrap (r_2.2.f4 - 1))⟩ : Sreader))
noncomputable def parse_reader_closest_p0_j6 {ρ : Type} (k : Nat) (rc : parse_reader_expr_p0_R) (kret : SExpr → Sreader → Option ρ) (t2 : SExpr) (t3 : SToken) (t1000 : Sreader) : Option ρ :=
chk (0 ≤ (1 : Int) ∧ (1 : Int) ≤ (t1000.f0.length : Int) ∧ (t1000.f0.length : Int) ≤ (t1000.f0.length : Int)) <|
(lex_Value k t3).bind fun r_3 =>
(parse_reader_node_p0 k (⟨1, r_3, ByteArray.empty, ByteArray.empty, []⟩ : SExpr) (⟨((t1000.f0.drop (1 : Int).toNat).take ((t1000.f0.length : Int).toNat - (1 : Int).toNat)), t1000.f1, t1000.f2, t1000.f3, t1000.f4⟩ : Sreader)).bind fun r_4 =>
kret r_4.1 r_4.2

noncomputable def parse_reader_closest_p0_j8 {ρ : Type} (k : Nat) (rc : parse_reader_expr_p0_R) (kret : SExpr → Sreader → Option ρ) (knxt : SExpr → SToken → Sreader → Option ρ) (t2 : SExpr) (t3 : SToken) (t1000 : Sreader) : Option ρ :=
(parse_reader_got_p0 k (⟨#[110, 117, 108, 108]⟩ : ByteArray) t1000).bind fun r_11 =>
bif r_11.1 then
(parse_reader_node_p0 k (⟨1, (⟨0, 0, ByteArray.empty⟩ : SValue), ByteArray.empty, ByteArray.empty, []⟩ : SExpr) r_11.2).bind fun r_12 =>
kret r_12.1 r_12.2
else
(parse_reader_is_p0 k (⟨#[40]⟩ : ByteArray) r_11.2).bind fun r_13 =>
bif r_13.1 then
(rc.parse_reader_inside_p0 r_13.2).bind fun r_14 =>
kret r_14.1 r_14.2
else
(parse_reader_got_p0 k (⟨#[99, 111, 117, 110, 116]⟩ : ByteArray) r_13.2).bind fun r_15 =>
bif r_15.1 then
(parse_reader_most_p0 k (IntKind.i64.wrap (r_15.2.f4 + 1)) 20 r_15.2).bind fun r_16 =>
(parse_reader_must_p0 k [(⟨#[40]⟩ : ByteArray), (⟨#[42]⟩ : ByteArray), (⟨#[41]⟩ : ByteArray)] r_16.2).bind fun r_17 =>
(parse_reader_node_p0 k (⟨23, (⟨0, 0, ByteArray.empty⟩ : SValue), ByteArray.empty, ByteArray.empty, []⟩ : SExpr) r_17.2).bind fun r_18 =>
kret r_18.1 r_18.2
else
knxt t2 t3 r_15.2

noncomputable def parse_reader_closest_p0_j18 {ρ : Type} (k : Nat) (rc : parse_reader_expr_p0_R) (kret : SExpr → Sreader → Option ρ) (op4 : Int) (t2 : SExpr) (t1000 : Sreader) : Option ρ :=
chk (0 ≤ (1 : Int) ∧ (1 : Int) ≤ (t1000.f0.length : Int) ∧ (t1000.f0.length : Int) ≤ (t1000.f0.length : Int)) <|
(rc.parse_reader_inside_p0 (⟨((t1000.f0.drop (1 : Int).toNat).take ((t1000.f0.length : Int).toNat - (1 : Int).toNat)), t1000.f1, t1000.f2, t1000.f3, t1000.f4⟩ : Sreader)).bind fun r_26 =>
(parse_reader_node_p0 k (⟨op4, (⟨0, 0, ByteArray.empty⟩ : SValue), ByteArray.empty, ByteArray.empty, [r_26.1.t]⟩ : SExpr) r_26.2).bind fun r_27 =>
kret r_27.1 r_27.2

noncomputable def parse_reader_closest_p0_j20 {ρ : Type} (k : Nat) (rc : parse_reader_expr_p0_R) (kret : SExpr → Sreader → Option ρ) (t2 : SExpr) (t1000 : Sreader) : Option ρ :=
(parse_reader_name_p0 k t1000).bind fun r_30 =>
(parse_reader_got_p0 k (⟨#[46]⟩ : ByteArray) r_30.2).bind fun r_31 =>
bif r_31.1 then
(parse_reader_name_p0 k r_31.2).bind fun r_32 =>
(parse_reader_node_p0 k (⟨2, (⟨0, 0, ByteArray.empty⟩ : SValue), r_30.1, r_32.1, []⟩ : SExpr) r_32.2).bind fun r_33 =>
kret r_33.1 r_33.2
else
(parse_reader_node_p0 k (⟨2, (⟨0, 0, ByteArray.empty⟩ : SValue), ByteArray.empty, r_30.1, []⟩ : SExpr) r_31.2).bind fun r_34 =>
kret r_34.1 r_34.2

noncomputable def parse_reader_closest_p0_j16 {ρ : Type} (k : Nat) (rc : parse_reader_expr_p0_R) (kret : SExpr → Sreader → Option ρ) (t2 : SExpr) (t3 : SToken) (t1000 : Sreader) : Option ρ :=
(parse_functions k).bind fun r_24 =>
let v_25 : Int := (lookL [((⟨#[108, 101, 110, 103, 116, 104]⟩ : ByteArray), (7 : Int)), ((⟨#[116, 121, 112, 101, 111, 102]⟩ : ByteArray), (8 : Int)), ((⟨#[115, 117, 109]⟩ : ByteArray), (24 : Int)), ((⟨#[109, 105, 110]⟩ : ByteArray), (25 : Int)), ((⟨#[109, 97, 120]⟩ : ByteArray), (26 : Int))] t3.f1)
bif (t3.f0 == 1) then
bif (v_25 != 0) then
parse_reader_closest_p0_j18 k rc kret v_25 t2 t1000
else
parse_reader_closest_p0_j20 k rc kret t2 t1000
else
parse_reader_closest_p0_j20 k rc kret t2 t1000

noncomputable def parse_reader_closest_p0_j4 {ρ : Type} (k : Nat) (rc : parse_reader_expr_p0_R) (kret : SExpr → Sreader → Option ρ) (t2 : SExpr) (t1000 : Sreader) : Option ρ :=
chk (0 ≤ (0 : Int) ∧ (0 : Int) < (t1000.f0.length : Int)) <|
bif ((t1000.f0.getD 0 default).f0 == 2) then
parse_reader_closest_p0_j6 k rc kret t2 (t1000.f0.getD 0 default) t1000
else
bif ((t1000.f0.getD 0 default).f0 == 3) then
parse_reader_closest_p0_j6 k rc kret t2 (t1000.f0.getD 0 default) t1000
else
bif ((t1000.f0.getD 0 default).f0 == 4) then
parse_reader_closest_p0_j6 k rc kret t2 (t1000.f0.getD 0 default) t1000
else
parse_reader_closest_p0_j8 k rc kret (fun t2_21 t3_22 t1000_23 =>
parse_reader_closest_p0_j16 k rc kret t2_21 t3_22 t1000_23) t2 (t1000.f0.getD 0 default) t1000

/-- (*cadastre/parse.reader).closest -/
noncomputable def parse_reader_closest_p0_r (k : Nat) (rc : parse_reader_expr_p0_R) (bx0 : Sreader) : Option ((SExpr) × Sreader) :=
bif bx0.f1 then
(parse_reader_fail_p0 k bx0).bind fun r_1 =>
some ((⟨0, (⟨0, 0, ByteArray.empty⟩ : SValue), ByteArray.empty, ByteArray.empty, []⟩ : SExpr), r_1.2)
else
bif ((bx0.f0.length : Int) == 0) then
(parse_reader_fail_p0 k bx0).bind fun r_2 =>
some ((⟨0, (⟨0, 0, ByteArray.empty⟩ : SValue), ByteArray.empty, ByteArray.empty, []⟩ : SExpr), r_2.2)
else
parse_reader_closest_p0_j4 k rc (fun t2_41 t1000_42 =>
some (t2_41, t1000_42)) (⟨0, (⟨0, 0, ByteArray.empty⟩ : SValue), ByteArray.empty, ByteArray.empty, []⟩ : SExpr) bx0
/-- (*cadastre/parse.reader).negative -/
noncomputable def parse_reader_negative_p0_r (k : Nat) (rc : parse_reader_expr_p0_R) (bx0 : Sreader) : Option ((SExpr) × Sreader) :=
(parse_reader_got_p0 k (⟨#[45]⟩ : ByteArray) bx0).bind fun r_1 =>
bif r_1.1 then
(rc.parse_reader_negative_p0 r_1.2).bind fun r_2 =>
(parse_reader_node_p0 k (⟨3, (⟨0, 0, ByteArray.empty⟩ : SValue), ByteArray.empty, ByteArray.empty, [r_2.1.t]⟩ : SExpr) r_2.2).bind fun r_3 =>
some (r_3.1, r_3.2)
else
(rc.parse_reader_closest_p0 r_1.2).bind fun r_4 =>
some (r_4.1, r_4.2)
noncomputable def parse_reader_left_p0_fnegative_l5_b {ρ : Type} (k : Nat) (rc : parse_reader_expr_p0_R) (kgoto0 : List Soper → SExpr → SExpr → Sreader → Option ρ) (kexit0 : SExpr → SExpr → Sreader → Option ρ) (rec : (List Soper) → (List Soper) → Int → Int → SExpr → SExpr → Sreader → Option ρ) (l2 : List Soper) (t17 : List Soper) (t18 : Int) (t19 : Int) (t6 : SExpr) (e7 : SExpr) (t1000 : Sreader) : Option ρ :=
bif (decide (t19 < t18)) then
chk (0 ≤ t19 ∧ t19 < (t17.length : Int)) <|
(parse_reader_got_p0 k (t17.getD t19.toNat default).f0 t1000).bind fun r_2 =>
bif r_2.1 then
(rc.parse_reader_negative_p0 r_2.2).bind fun r_3 =>
(parse_reader_node_p0 k (⟨(t17.getD t19.toNat default).f1, (⟨0, 0, ByteArray.empty⟩ : SValue), ByteArray.empty, ByteArray.empty, [e7.t, r_3.1.t]⟩ : SExpr) r_3.2).bind fun r_4 =>
kgoto0 l2 t6 r_4.1 r_4.2
else
rec l2 t17 t18 (IntKind.i64.wrap (t19 + 1)) t6 e7 r_2.2
else
kexit0 t6 e7 t1000
noncomputable def parse_reader_left_p0_fnegative_l5 {ρ : Type} (k : Nat) (rc : parse_reader_expr_p0_R) (kgoto0 : List Soper → SExpr → SExpr → Sreader → Option ρ) (kexit0 : SExpr → SExpr → Sreader → Option ρ) : Nat → (List Soper) → (List Soper) → Int → Int → SExpr → SExpr → Sreader → Option ρ
  | 0, _, _, _, _, _, _, _ => none
  | n + 1, l2, t17, t18, t19, t6, e7, t1000 => parse_reader_left_p0_fnegative_l5_b k rc kgoto0 kexit0 (parse_reader_left_p0_fnegative_l5 k rc kgoto0 kexit0 n) l2 t17 t18 t19 t6 e7 t1000

noncomputable def parse_reader_left_p0_fnegative_j2 {ρ : Type} (k : Nat) (rc : parse_reader_expr_p0_R) (kret : SExpr → Sreader → Option ρ) (kgoto0 : List Soper → SExpr → SExpr → Sreader → Option ρ) (l2 : List Soper) (t6 : SExpr) (e7 : SExpr) (t1000 : Sreader) : Option ρ :=
bif t1000.f1 then
kret e7 t1000
else
parse_reader_left_p0_fnegative_l5 k rc kgoto0 (fun t6_9 e7_10 t1000_11 =>
kret e7_10 t1000_11) k l2 l2 (l2.length : Int) 0 t6 e7 t1000

noncomputable def parse_reader_left_p0_fnegative_g0_b {ρ : Type} (k : Nat) (rc : parse_reader_expr_p0_R) (kret : SExpr → Sreader → Option ρ) (rec : (List Soper) → SExpr → SExpr → Sreader → Option ρ) (l2 : List Soper) (t6 : SExpr) (e7 : SExpr) (t1000 : Sreader) : Option ρ :=
parse_reader_left_p0_fnegative_j2 k rc kret rec l2 t6 e7 t1000
noncomputable def parse_reader_left_p0_fnegative_g0 {ρ : Type} (k : Nat) (rc : parse_reader_expr_p0_R) (kret : SExpr → Sreader → Option ρ) : Nat → (List Soper) → SExpr → SExpr → Sreader → Option ρ
  | 0, _, _, _, _ => none
  | n + 1, l2, t6, e7, t1000 => parse_reader_left_p0_fnegative_g0_b k rc kret (parse_reader_left_p0_fnegative_g0 k rc kret n) l2 t6 e7 t1000

/-- (*cadastre/parse.reader).left -/
noncomputable def parse_reader_left_p0_fnegative_r (k : Nat) (rc : parse_reader_expr_p0_R) (l2 : List Soper) (bx0 : Sreader) : Option ((SExpr) × Sreader) :=
(rc.parse_reader_negative_p0 bx0).bind fun r_1 =>
parse_reader_left_p0_fnegative_j2 k rc (fun t6_12 t1000_13 =>
some (t6_12, t1000_13)) (fun l2_14 t6_15 e7_16 t1000_17 =>
parse_reader_left_p0_fnegative_g0 k rc (fun t6_24 t1000_25 =>
some (t6_24, t1000_25)) k l2_14 t6_15 e7_16 t1000_17) l2 (⟨0, (⟨0, 0, ByteArray.empty⟩ : SValue), ByteArray.empty, ByteArray.empty, []⟩ : SExpr) r_1.1 r_1.2
/-- (*cadastre/parse.reader).concat -/
noncomputable def parse_reader_concat_p0_r (k : Nat) (rc : parse_reader_expr_p0_R) (bx0 : Sreader) : Option ((SExpr) × Sreader) :=
(rc.parse_reader_left_p0_fnegative [(⟨(⟨#[124, 124]⟩ : ByteArray), 14⟩ : Soper)] bx0).bind fun r_1 =>
some (r_1.1, r_1.2)
noncomputable def parse_reader_left_p0_fconcat_l5_b {ρ : Type} (k : Nat) (rc : parse_reader_expr_p0_R) (kgoto0 : List Soper → SExpr → SExpr → Sreader → Option ρ) (kexit0 : SExpr → SExpr → Sreader → Option ρ) (rec : (List Soper) → (List Soper) → Int → Int → SExpr → SExpr → Sreader → Option ρ) (l2 : List Soper) (t17 : List Soper) (t18 : Int) (t19 : Int) (t6 : SExpr) (e7 : SExpr) (t1000 : Sreader) : Option ρ :=
bif (decide (t19 < t18)) then
chk (0 ≤ t19 ∧ t19 < (t17.length : Int)) <|
(parse_reader_got_p0 k (t17.getD t19.toNat default).f0 t1000).bind fun r_2 =>
bif r_2.1 then
(rc.parse_reader_concat_p0 r_2.2).bind fun r_3 =>
(parse_reader_node_p0 k (⟨(t17.getD t19.toNat default).f1, (⟨0, 0, ByteArray.empty⟩ : SValue), ByteArray.empty, ByteArray.empty, [e7.t, r_3.1.t]⟩ : SExpr) r_3.2).bind fun r_4 =>
kgoto0 l2 t6 r_4.1 r_4.2
else
rec l2 t17 t18 (IntKind.i64.wrap (t19 + 1)) t6 e7 r_2.2
else
kexit0 t6 e7 t1000
noncomputable def parse_reader_left_p0_fconcat_l5 {ρ : Type} (k : Nat) (rc : parse_reader_expr_p0_R) (kgoto0 : List Soper → SExpr → SExpr → Sreader → Option ρ) (kexit0 : SExpr → SExpr → Sreader → Option ρ) : Nat → (List Soper) → (List Soper) → Int → Int → SExpr → SExpr → Sreader → Option ρ
  | 0, _, _, _, _, _, _, _ => none
  | n + 1, l2, t17, t18, t19, t6, e7, t1000 => parse_reader_left_p0_fconcat_l5_b k rc kgoto0 kexit0 (parse_reader_left_p0_fconcat_l5 k rc kgoto0 kexit0 n) l2 t17 t18 t19 t6 e7 t1000

noncomputable def parse_reader_left_p0_fconcat_j2 {ρ : Type} (k : Nat) (rc : parse_reader_expr_p0_R) (kret : SExpr → Sreader → Option ρ) (kgoto0 : List Soper → SExpr → SExpr → Sreader → Option ρ) (l2 : List Soper) (t6 : SExpr) (e7 : SExpr) (t1000 : Sreader) : Option ρ :=
bif t1000.f1 then
kret e7 t1000
else
parse_reader_left_p0_fconcat_l5 k rc kgoto0 (fun t6_9 e7_10 t1000_11 =>
kret e7_10 t1000_11) k l2 l2 (l2.length : Int) 0 t6 e7 t1000

noncomputable def parse_reader_left_p0_fconcat_g0_b {ρ : Type} (k : Nat) (rc : parse_reader_expr_p0_R) (kret : SExpr → Sreader → Option ρ) (rec : (List Soper) → SExpr → SExpr → Sreader → Option ρ) (l2 : List Soper) (t6 : SExpr) (e7 : SExpr) (t1000 : Sreader) : Option ρ :=
parse_reader_left_p0_fconcat_j2 k rc kret rec l2 t6 e7 t1000
noncomputable def parse_reader_left_p0_fconcat_g0 {ρ : Type} (k : Nat) (rc : parse_reader_expr_p0_R) (kret : SExpr → Sreader → Option ρ) : Nat → (List Soper) → SExpr → SExpr → Sreader → Option ρ
  | 0, _, _, _, _ => none
  | n + 1, l2, t6, e7, t1000 => parse_reader_left_p0_fconcat_g0_b k rc kret (parse_reader_left_p0_fconcat_g0 k rc kret n) l2 t6 e7 t1000

/-- (*cadastre/parse.reader).left -/
noncomputable def parse_reader_left_p0_fconcat_r (k : Nat) (rc : parse_reader_expr_p0_R) (l2 : List Soper) (bx0 : Sreader) : Option ((SExpr) × Sreader) :=
(rc.parse_reader_concat_p0 bx0).bind fun r_1 =>
parse_reader_left_p0_fconcat_j2 k rc (fun t6_12 t1000_13 =>
some (t6_12, t1000_13)) (fun l2_14 t6_15 e7_16 t1000_17 =>
parse_reader_left_p0_fconcat_g0 k rc (fun t6_24 t1000_25 =>
some (t6_24, t1000_25)) k l2_14 t6_15 e7_16 t1000_17) l2 (⟨0, (⟨0, 0, ByteArray.empty⟩ : SValue), ByteArray.empty, ByteArray.empty, []⟩ : SExpr) r_1.1 r_1.2
/-- (*cadastre/parse.reader).product -/
noncomputable def parse_reader_product_p0_r (k : Nat) (rc : parse_reader_expr_p0_R) (bx0 : Sreader) : Option ((SExpr) × Sreader) :=
(rc.parse_reader_left_p0_fconcat [(⟨(⟨#[42]⟩ : ByteArray), 9⟩ : Soper), (⟨(⟨#[47]⟩ : ByteArray), 10⟩ : Soper), (⟨(⟨#[37]⟩ : ByteArray), 11⟩ : Soper)] bx0).bind fun r_1 =>
some (r_1.1, r_1.2)
noncomputable def parse_reader_left_p0_fproduct_l5_b {ρ : Type} (k : Nat) (rc : parse_reader_expr_p0_R) (kgoto0 : List Soper → SExpr → SExpr → Sreader → Option ρ) (kexit0 : SExpr → SExpr → Sreader → Option ρ) (rec : (List Soper) → (List Soper) → Int → Int → SExpr → SExpr → Sreader → Option ρ) (l2 : List Soper) (t17 : List Soper) (t18 : Int) (t19 : Int) (t6 : SExpr) (e7 : SExpr) (t1000 : Sreader) : Option ρ :=
bif (decide (t19 < t18)) then
chk (0 ≤ t19 ∧ t19 < (t17.length : Int)) <|
(parse_reader_got_p0 k (t17.getD t19.toNat default).f0 t1000).bind fun r_2 =>
bif r_2.1 then
(rc.parse_reader_product_p0 r_2.2).bind fun r_3 =>
(parse_reader_node_p0 k (⟨(t17.getD t19.toNat default).f1, (⟨0, 0, ByteArray.empty⟩ : SValue), ByteArray.empty, ByteArray.empty, [e7.t, r_3.1.t]⟩ : SExpr) r_3.2).bind fun r_4 =>
kgoto0 l2 t6 r_4.1 r_4.2
else
rec l2 t17 t18 (IntKind.i64.wrap (t19 + 1)) t6 e7 r_2.2
else
kexit0 t6 e7 t1000
noncomputable def parse_reader_left_p0_fproduct_l5 {ρ : Type} (k : Nat) (rc : parse_reader_expr_p0_R) (kgoto0 : List Soper → SExpr → SExpr → Sreader → Option ρ) (kexit0 : SExpr → SExpr → Sreader → Option ρ) : Nat → (List Soper) → (List Soper) → Int → Int → SExpr → SExpr → Sreader → Option ρ
  | 0, _, _, _, _, _, _, _ => none
  | n + 1, l2, t17, t18, t19, t6, e7, t1000 => parse_reader_left_p0_fproduct_l5_b k rc kgoto0 kexit0 (parse_reader_left_p0_fproduct_l5 k rc kgoto0 kexit0 n) l2 t17 t18 t19 t6 e7 t1000

noncomputable def parse_reader_left_p0_fproduct_j2 {ρ : Type} (k : Nat) (rc : parse_reader_expr_p0_R) (kret : SExpr → Sreader → Option ρ) (kgoto0 : List Soper → SExpr → SExpr → Sreader → Option ρ) (l2 : List Soper) (t6 : SExpr) (e7 : SExpr) (t1000 : Sreader) : Option ρ :=
bif t1000.f1 then
kret e7 t1000
else
parse_reader_left_p0_fproduct_l5 k rc kgoto0 (fun t6_9 e7_10 t1000_11 =>
kret e7_10 t1000_11) k l2 l2 (l2.length : Int) 0 t6 e7 t1000

noncomputable def parse_reader_left_p0_fproduct_g0_b {ρ : Type} (k : Nat) (rc : parse_reader_expr_p0_R) (kret : SExpr → Sreader → Option ρ) (rec : (List Soper) → SExpr → SExpr → Sreader → Option ρ) (l2 : List Soper) (t6 : SExpr) (e7 : SExpr) (t1000 : Sreader) : Option ρ :=
parse_reader_left_p0_fproduct_j2 k rc kret rec l2 t6 e7 t1000
noncomputable def parse_reader_left_p0_fproduct_g0 {ρ : Type} (k : Nat) (rc : parse_reader_expr_p0_R) (kret : SExpr → Sreader → Option ρ) : Nat → (List Soper) → SExpr → SExpr → Sreader → Option ρ
  | 0, _, _, _, _ => none
  | n + 1, l2, t6, e7, t1000 => parse_reader_left_p0_fproduct_g0_b k rc kret (parse_reader_left_p0_fproduct_g0 k rc kret n) l2 t6 e7 t1000

/-- (*cadastre/parse.reader).left -/
noncomputable def parse_reader_left_p0_fproduct_r (k : Nat) (rc : parse_reader_expr_p0_R) (l2 : List Soper) (bx0 : Sreader) : Option ((SExpr) × Sreader) :=
(rc.parse_reader_product_p0 bx0).bind fun r_1 =>
parse_reader_left_p0_fproduct_j2 k rc (fun t6_12 t1000_13 =>
some (t6_12, t1000_13)) (fun l2_14 t6_15 e7_16 t1000_17 =>
parse_reader_left_p0_fproduct_g0 k rc (fun t6_24 t1000_25 =>
some (t6_24, t1000_25)) k l2_14 t6_15 e7_16 t1000_17) l2 (⟨0, (⟨0, 0, ByteArray.empty⟩ : SValue), ByteArray.empty, ByteArray.empty, []⟩ : SExpr) r_1.1 r_1.2
/-- (*cadastre/parse.reader).sum -/
noncomputable def parse_reader_sum_p0_r (k : Nat) (rc : parse_reader_expr_p0_R) (bx0 : Sreader) : Option ((SExpr) × Sreader) :=
(rc.parse_reader_left_p0_fproduct [(⟨(⟨#[43]⟩ : ByteArray), 12⟩ : Soper), (⟨(⟨#[45]⟩ : ByteArray), 13⟩ : Soper)] bx0).bind fun r_1 =>
some (r_1.1, r_1.2)
noncomputable def parse_reader_test_p0_j8 {ρ : Type} (k : Nat) (rc : parse_reader_expr_p0_R) (kgoto0 : SExpr → SExpr → Sreader → Option ρ) (op4 : Int) (t2 : SExpr) (e3 : SExpr) (t1000 : Sreader) : Option ρ :=
(parse_reader_must_p0 k [(⟨#[110, 117, 108, 108]⟩ : ByteArray)] t1000).bind fun r_4 =>
(parse_reader_node_p0 k (⟨op4, (⟨0, 0, ByteArray.empty⟩ : SValue), ByteArray.empty, ByteArray.empty, [e3.t]⟩ : SExpr) r_4.2).bind fun r_5 =>
kgoto0 t2 r_5.1 r_5.2

noncomputable def parse_reader_test_p0_l11_b {ρ : Type} (k : Nat) (rc : parse_reader_expr_p0_R) (kgoto0 : SExpr → SExpr → Sreader → Option ρ) (kexit0 : SExpr → SExpr → Sreader → Option ρ) (rec : (List Soper) → Int → Int → SExpr → SExpr → Sreader → Option ρ) (t27 : List Soper) (t28 : Int) (t29 : Int) (t2 : SExpr) (e3 : SExpr) (t1000 : Sreader) : Option ρ :=
bif (decide (t29 < t28)) then
chk (0 ≤ t29 ∧ t29 < (t27.length : Int)) <|
(parse_reader_got_p0 k (t27.getD t29.toNat default).f0 t1000).bind fun r_13 =>
bif r_13.1 then
(rc.parse_reader_sum_p0 r_13.2).bind fun r_14 =>
(parse_reader_node_p0 k (⟨(t27.getD t29.toNat default).f1, (⟨0, 0, ByteArray.empty⟩ : SValue), ByteArray.empty, ByteArray.empty, [e3.t, r_14.1.t]⟩ : SExpr) r_14.2).bind fun r_15 =>
kgoto0 t2 r_15.1 r_15.2
else
rec t27 t28 (IntKind.i64.wrap (t29 + 1)) t2 e3 r_13.2
else
kexit0 t2 e3 t1000
noncomputable def parse_reader_test_p0_l11 {ρ : Type} (k : Nat) (rc : parse_reader_expr_p0_R) (kgoto0 : SExpr → SExpr → Sreader → Option ρ) (kexit0 : SExpr → SExpr → Sreader → Option ρ) : Nat → (List Soper) → Int → Int → SExpr → SExpr → Sreader → Option ρ
  | 0, _, _, _, _, _, _ => none
  | n + 1, t27, t28, t29, t2, e3, t1000 => parse_reader_test_p0_l11_b k rc kgoto0 kexit0 (parse_reader_test_p0_l11 k rc kgoto0 kexit0 n) t27 t28 t29 t2 e3 t1000

noncomputable def parse_reader_test_p0_j2 {ρ : Type} (k : Nat) (rc : parse_reader_expr_p0_R) (kret : SExpr → Sreader → Option ρ) (kgoto0 : SExpr → SExpr → Sreader → Option ρ) (t2 : SExpr) (e3 : SExpr) (t1000 : Sreader) : Option ρ :=
bif t1000.f1 then
kret e3 t1000
else
(parse_reader_got_p0 k (⟨#[105, 115]⟩ : ByteArray) t1000).bind fun r_2 =>
bif r_2.1 then
(parse_reader_got_p0 k (⟨#[110, 111, 116]⟩ : ByteArray) r_2.2).bind fun r_3 =>
bif r_3.1 then
parse_reader_test_p0_j8 k rc kgoto0 6 t2 e3 r_3.2
else
parse_reader_test_p0_j8 k rc kgoto0 5 t2 e3 r_3.2
else
(parse_tests k).bind fun r_12 =>
parse_reader_test_p0_l11 k rc kgoto0 (fun t2_19 e3_20 t1000_21 =>
kret e3_20 t1000_21) k r_12 (r_12.length : Int) 0 t2 e3 r_2.2

noncomputable def parse_reader_test_p0_g0_b {ρ : Type} (k : Nat) (rc : parse_reader_expr_p0_R) (kret : SExpr → Sreader → Option ρ) (rec : SExpr → SExpr → Sreader → Option ρ) (t2 : SExpr) (e3 : SExpr) (t1000 : Sreader) : Option ρ :=
parse_reader_test_p0_j2 k rc kret rec t2 e3 t1000
noncomputable def parse_reader_test_p0_g0 {ρ : Type} (k : Nat) (rc : parse_reader_expr_p0_R) (kret : SExpr → Sreader → Option ρ) : Nat → SExpr → SExpr → Sreader → Option ρ
  | 0, _, _, _ => none
  | n + 1, t2, e3, t1000 => parse_reader_test_p0_g0_b k rc kret (parse_reader_test_p0_g0 k rc kret n) t2 e3 t1000

/-- (*cadastre/parse.reader).test -/
noncomputable def parse_reader_test_p0_r (k : Nat) (rc : parse_reader_expr_p0_R) (bx0 : Sreader) : Option ((SExpr) × Sreader) :=
(rc.parse_reader_sum_p0 bx0).bind fun r_1 =>
parse_reader_test_p0_j2 k rc (fun t2_22 t1000_23 =>
some (t2_22, t1000_23)) (fun t2_24 e3_25 t1000_26 =>
parse_reader_test_p0_g0 k rc (fun t2_32 t1000_33 =>
some (t2_32, t1000_33)) k t2_24 e3_25 t1000_26) (⟨0, (⟨0, 0, ByteArray.empty⟩ : SValue), ByteArray.empty, ByteArray.empty, []⟩ : SExpr) r_1.1 r_1.2
/-- (*cadastre/parse.reader).not -/
noncomputable def parse_reader_not_p0_r (k : Nat) (rc : parse_reader_expr_p0_R) (bx0 : Sreader) : Option ((SExpr) × Sreader) :=
(parse_reader_got_p0 k (⟨#[110, 111, 116]⟩ : ByteArray) bx0).bind fun r_1 =>
bif r_1.1 then
(rc.parse_reader_not_p0 r_1.2).bind fun r_2 =>
(parse_reader_node_p0 k (⟨4, (⟨0, 0, ByteArray.empty⟩ : SValue), ByteArray.empty, ByteArray.empty, [r_2.1.t]⟩ : SExpr) r_2.2).bind fun r_3 =>
some (r_3.1, r_3.2)
else
(rc.parse_reader_test_p0 r_1.2).bind fun r_4 =>
some (r_4.1, r_4.2)
noncomputable def parse_reader_left_p0_fnot_l5_b {ρ : Type} (k : Nat) (rc : parse_reader_expr_p0_R) (kgoto0 : List Soper → SExpr → SExpr → Sreader → Option ρ) (kexit0 : SExpr → SExpr → Sreader → Option ρ) (rec : (List Soper) → (List Soper) → Int → Int → SExpr → SExpr → Sreader → Option ρ) (l2 : List Soper) (t17 : List Soper) (t18 : Int) (t19 : Int) (t6 : SExpr) (e7 : SExpr) (t1000 : Sreader) : Option ρ :=
bif (decide (t19 < t18)) then
chk (0 ≤ t19 ∧ t19 < (t17.length : Int)) <|
(parse_reader_got_p0 k (t17.getD t19.toNat default).f0 t1000).bind fun r_2 =>
bif r_2.1 then
(rc.parse_reader_not_p0 r_2.2).bind fun r_3 =>
(parse_reader_node_p0 k (⟨(t17.getD t19.toNat default).f1, (⟨0, 0, ByteArray.empty⟩ : SValue), ByteArray.empty, ByteArray.empty, [e7.t, r_3.1.t]⟩ : SExpr) r_3.2).bind fun r_4 =>
kgoto0 l2 t6 r_4.1 r_4.2
else
rec l2 t17 t18 (IntKind.i64.wrap (t19 + 1)) t6 e7 r_2.2
else
kexit0 t6 e7 t1000
noncomputable def parse_reader_left_p0_fnot_l5 {ρ : Type} (k : Nat) (rc : parse_reader_expr_p0_R) (kgoto0 : List Soper → SExpr → SExpr → Sreader → Option ρ) (kexit0 : SExpr → SExpr → Sreader → Option ρ) : Nat → (List Soper) → (List Soper) → Int → Int → SExpr → SExpr → Sreader → Option ρ
  | 0, _, _, _, _, _, _, _ => none
  | n + 1, l2, t17, t18, t19, t6, e7, t1000 => parse_reader_left_p0_fnot_l5_b k rc kgoto0 kexit0 (parse_reader_left_p0_fnot_l5 k rc kgoto0 kexit0 n) l2 t17 t18 t19 t6 e7 t1000

noncomputable def parse_reader_left_p0_fnot_j2 {ρ : Type} (k : Nat) (rc : parse_reader_expr_p0_R) (kret : SExpr → Sreader → Option ρ) (kgoto0 : List Soper → SExpr → SExpr → Sreader → Option ρ) (l2 : List Soper) (t6 : SExpr) (e7 : SExpr) (t1000 : Sreader) : Option ρ :=
bif t1000.f1 then
kret e7 t1000
else
parse_reader_left_p0_fnot_l5 k rc kgoto0 (fun t6_9 e7_10 t1000_11 =>
kret e7_10 t1000_11) k l2 l2 (l2.length : Int) 0 t6 e7 t1000

noncomputable def parse_reader_left_p0_fnot_g0_b {ρ : Type} (k : Nat) (rc : parse_reader_expr_p0_R) (kret : SExpr → Sreader → Option ρ) (rec : (List Soper) → SExpr → SExpr → Sreader → Option ρ) (l2 : List Soper) (t6 : SExpr) (e7 : SExpr) (t1000 : Sreader) : Option ρ :=
parse_reader_left_p0_fnot_j2 k rc kret rec l2 t6 e7 t1000
noncomputable def parse_reader_left_p0_fnot_g0 {ρ : Type} (k : Nat) (rc : parse_reader_expr_p0_R) (kret : SExpr → Sreader → Option ρ) : Nat → (List Soper) → SExpr → SExpr → Sreader → Option ρ
  | 0, _, _, _, _ => none
  | n + 1, l2, t6, e7, t1000 => parse_reader_left_p0_fnot_g0_b k rc kret (parse_reader_left_p0_fnot_g0 k rc kret n) l2 t6 e7 t1000

/-- (*cadastre/parse.reader).left -/
noncomputable def parse_reader_left_p0_fnot_r (k : Nat) (rc : parse_reader_expr_p0_R) (l2 : List Soper) (bx0 : Sreader) : Option ((SExpr) × Sreader) :=
(rc.parse_reader_not_p0 bx0).bind fun r_1 =>
parse_reader_left_p0_fnot_j2 k rc (fun t6_12 t1000_13 =>
some (t6_12, t1000_13)) (fun l2_14 t6_15 e7_16 t1000_17 =>
parse_reader_left_p0_fnot_g0 k rc (fun t6_24 t1000_25 =>
some (t6_24, t1000_25)) k l2_14 t6_15 e7_16 t1000_17) l2 (⟨0, (⟨0, 0, ByteArray.empty⟩ : SValue), ByteArray.empty, ByteArray.empty, []⟩ : SExpr) r_1.1 r_1.2
/-- (*cadastre/parse.reader).and -/
noncomputable def parse_reader_and_p0_r (k : Nat) (rc : parse_reader_expr_p0_R) (bx0 : Sreader) : Option ((SExpr) × Sreader) :=
(rc.parse_reader_left_p0_fnot [(⟨(⟨#[97, 110, 100]⟩ : ByteArray), 21⟩ : Soper)] bx0).bind fun r_1 =>
some (r_1.1, r_1.2)
noncomputable def parse_reader_left_p0_fand_l5_b {ρ : Type} (k : Nat) (rc : parse_reader_expr_p0_R) (kgoto0 : List Soper → SExpr → SExpr → Sreader → Option ρ) (kexit0 : SExpr → SExpr → Sreader → Option ρ) (rec : (List Soper) → (List Soper) → Int → Int → SExpr → SExpr → Sreader → Option ρ) (l2 : List Soper) (t17 : List Soper) (t18 : Int) (t19 : Int) (t6 : SExpr) (e7 : SExpr) (t1000 : Sreader) : Option ρ :=
bif (decide (t19 < t18)) then
chk (0 ≤ t19 ∧ t19 < (t17.length : Int)) <|
(parse_reader_got_p0 k (t17.getD t19.toNat default).f0 t1000).bind fun r_2 =>
bif r_2.1 then
(rc.parse_reader_and_p0 r_2.2).bind fun r_3 =>
(parse_reader_node_p0 k (⟨(t17.getD t19.toNat default).f1, (⟨0, 0, ByteArray.empty⟩ : SValue), ByteArray.empty, ByteArray.empty, [e7.t, r_3.1.t]⟩ : SExpr) r_3.2).bind fun r_4 =>
kgoto0 l2 t6 r_4.1 r_4.2
else
rec l2 t17 t18 (IntKind.i64.wrap (t19 + 1)) t6 e7 r_2.2
else
kexit0 t6 e7 t1000
noncomputable def parse_reader_left_p0_fand_l5 {ρ : Type} (k : Nat) (rc : parse_reader_expr_p0_R) (kgoto0 : List Soper → SExpr → SExpr → Sreader → Option ρ) (kexit0 : SExpr → SExpr → Sreader → Option ρ) : Nat → (List Soper) → (List Soper) → Int → Int → SExpr → SExpr → Sreader → Option ρ
  | 0, _, _, _, _, _, _, _ => none
  | n + 1, l2, t17, t18, t19, t6, e7, t1000 => parse_reader_left_p0_fand_l5_b k rc kgoto0 kexit0 (parse_reader_left_p0_fand_l5 k rc kgoto0 kexit0 n) l2 t17 t18 t19 t6 e7 t1000

noncomputable def parse_reader_left_p0_fand_j2 {ρ : Type} (k : Nat) (rc : parse_reader_expr_p0_R) (kret : SExpr → Sreader → Option ρ) (kgoto0 : List Soper → SExpr → SExpr → Sreader → Option ρ) (l2 : List Soper) (t6 : SExpr) (e7 : SExpr) (t1000 : Sreader) : Option ρ :=
bif t1000.f1 then
kret e7 t1000
else
parse_reader_left_p0_fand_l5 k rc kgoto0 (fun t6_9 e7_10 t1000_11 =>
kret e7_10 t1000_11) k l2 l2 (l2.length : Int) 0 t6 e7 t1000

noncomputable def parse_reader_left_p0_fand_g0_b {ρ : Type} (k : Nat) (rc : parse_reader_expr_p0_R) (kret : SExpr → Sreader → Option ρ) (rec : (List Soper) → SExpr → SExpr → Sreader → Option ρ) (l2 : List Soper) (t6 : SExpr) (e7 : SExpr) (t1000 : Sreader) : Option ρ :=
parse_reader_left_p0_fand_j2 k rc kret rec l2 t6 e7 t1000
noncomputable def parse_reader_left_p0_fand_g0 {ρ : Type} (k : Nat) (rc : parse_reader_expr_p0_R) (kret : SExpr → Sreader → Option ρ) : Nat → (List Soper) → SExpr → SExpr → Sreader → Option ρ
  | 0, _, _, _, _ => none
  | n + 1, l2, t6, e7, t1000 => parse_reader_left_p0_fand_g0_b k rc kret (parse_reader_left_p0_fand_g0 k rc kret n) l2 t6 e7 t1000

/-- (*cadastre/parse.reader).left -/
noncomputable def parse_reader_left_p0_fand_r (k : Nat) (rc : parse_reader_expr_p0_R) (l2 : List Soper) (bx0 : Sreader) : Option ((SExpr) × Sreader) :=
(rc.parse_reader_and_p0 bx0).bind fun r_1 =>
parse_reader_left_p0_fand_j2 k rc (fun t6_12 t1000_13 =>
some (t6_12, t1000_13)) (fun l2_14 t6_15 e7_16 t1000_17 =>
parse_reader_left_p0_fand_g0 k rc (fun t6_24 t1000_25 =>
some (t6_24, t1000_25)) k l2_14 t6_15 e7_16 t1000_17) l2 (⟨0, (⟨0, 0, ByteArray.empty⟩ : SValue), ByteArray.empty, ByteArray.empty, []⟩ : SExpr) r_1.1 r_1.2
noncomputable def parse_reader_expr_p0_R_it (k : Nat) : Nat → parse_reader_expr_p0_R
  | 0 => ⟨fun _ => none, fun _ => none, fun _ => none, fun _ => none, fun _ => none, fun _ _ => none, fun _ => none, fun _ _ => none, fun _ => none, fun _ _ => none, fun _ => none, fun _ => none, fun _ => none, fun _ _ => none, fun _ => none, fun _ _ => none⟩
  | d + 1 => ⟨parse_reader_expr_p0_r k (parse_reader_expr_p0_R_it k d), parse_in_api_Expr__p0_fexpr_r k (parse_reader_expr_p0_R_it k d), parse_reader_inside_p0_r k (parse_reader_expr_p0_R_it k d), parse_reader_closest_p0_r k (parse_reader_expr_p0_R_it k d), parse_reader_negative_p0_r k (parse_reader_expr_p0_R_it k d), parse_reader_left_p0_fnegative_r k (parse_reader_expr_p0_R_it k d), parse_reader_concat_p0_r k (parse_reader_expr_p0_R_it k d), parse_reader_left_p0_fconcat_r k (parse_reader_expr_p0_R_it k d), parse_reader_product_p0_r k (parse_reader_expr_p0_R_it k d), parse_reader_left_p0_fproduct_r k (parse_reader_expr_p0_R_it k d), parse_reader_sum_p0_r k (parse_reader_expr_p0_R_it k d), parse_reader_test_p0_r k (parse_reader_expr_p0_R_it k d), parse_reader_not_p0_r k (parse_reader_expr_p0_R_it k d), parse_reader_left_p0_fnot_r k (parse_reader_expr_p0_R_it k d), parse_reader_and_p0_r k (parse_reader_expr_p0_R_it k d), parse_reader_left_p0_fand_r k (parse_reader_expr_p0_R_it k d)⟩
/-- (*cadastre/parse.reader).expr -/
noncomputable def parse_reader_expr_p0 (k : Nat) (bx0 : Sreader) : Option ((SExpr) × Sreader) := (parse_reader_expr_p0_R_it k k).parse_reader_expr_p0 bx0
/-- cadastre/parse.in[cadastre/api.Expr] -/
noncomputable def parse_in_api_Expr__p0_fexpr (k : Nat) (bx0 : Sreader) : Option ((SExpr) × Sreader) := (parse_reader_expr_p0_R_it k k).parse_in_api_Expr__p0_fexpr bx0
/-- (*cadastre/parse.reader).inside -/
noncomputable def parse_reader_inside_p0 (k : Nat) (bx0 : Sreader) : Option ((SExpr) × Sreader) := (parse_reader_expr_p0_R_it k k).parse_reader_inside_p0 bx0
/-- (*cadastre/parse.reader).closest -/
noncomputable def parse_reader_closest_p0 (k : Nat) (bx0 : Sreader) : Option ((SExpr) × Sreader) := (parse_reader_expr_p0_R_it k k).parse_reader_closest_p0 bx0
/-- (*cadastre/parse.reader).negative -/
noncomputable def parse_reader_negative_p0 (k : Nat) (bx0 : Sreader) : Option ((SExpr) × Sreader) := (parse_reader_expr_p0_R_it k k).parse_reader_negative_p0 bx0
/-- (*cadastre/parse.reader).left -/
noncomputable def parse_reader_left_p0_fnegative (k : Nat) (l2 : List Soper) (bx0 : Sreader) : Option ((SExpr) × Sreader) := (parse_reader_expr_p0_R_it k k).parse_reader_left_p0_fnegative l2 bx0
/-- (*cadastre/parse.reader).concat -/
noncomputable def parse_reader_concat_p0 (k : Nat) (bx0 : Sreader) : Option ((SExpr) × Sreader) := (parse_reader_expr_p0_R_it k k).parse_reader_concat_p0 bx0
/-- (*cadastre/parse.reader).left -/
noncomputable def parse_reader_left_p0_fconcat (k : Nat) (l2 : List Soper) (bx0 : Sreader) : Option ((SExpr) × Sreader) := (parse_reader_expr_p0_R_it k k).parse_reader_left_p0_fconcat l2 bx0
/-- (*cadastre/parse.reader).product -/
noncomputable def parse_reader_product_p0 (k : Nat) (bx0 : Sreader) : Option ((SExpr) × Sreader) := (parse_reader_expr_p0_R_it k k).parse_reader_product_p0 bx0
/-- (*cadastre/parse.reader).left -/
noncomputable def parse_reader_left_p0_fproduct (k : Nat) (l2 : List Soper) (bx0 : Sreader) : Option ((SExpr) × Sreader) := (parse_reader_expr_p0_R_it k k).parse_reader_left_p0_fproduct l2 bx0
/-- (*cadastre/parse.reader).sum -/
noncomputable def parse_reader_sum_p0 (k : Nat) (bx0 : Sreader) : Option ((SExpr) × Sreader) := (parse_reader_expr_p0_R_it k k).parse_reader_sum_p0 bx0
/-- (*cadastre/parse.reader).test -/
noncomputable def parse_reader_test_p0 (k : Nat) (bx0 : Sreader) : Option ((SExpr) × Sreader) := (parse_reader_expr_p0_R_it k k).parse_reader_test_p0 bx0
/-- (*cadastre/parse.reader).not -/
noncomputable def parse_reader_not_p0 (k : Nat) (bx0 : Sreader) : Option ((SExpr) × Sreader) := (parse_reader_expr_p0_R_it k k).parse_reader_not_p0 bx0
/-- (*cadastre/parse.reader).left -/
noncomputable def parse_reader_left_p0_fnot (k : Nat) (l2 : List Soper) (bx0 : Sreader) : Option ((SExpr) × Sreader) := (parse_reader_expr_p0_R_it k k).parse_reader_left_p0_fnot l2 bx0
/-- (*cadastre/parse.reader).and -/
noncomputable def parse_reader_and_p0 (k : Nat) (bx0 : Sreader) : Option ((SExpr) × Sreader) := (parse_reader_expr_p0_R_it k k).parse_reader_and_p0 bx0
/-- (*cadastre/parse.reader).left -/
noncomputable def parse_reader_left_p0_fand (k : Nat) (l2 : List Soper) (bx0 : Sreader) : Option ((SExpr) × Sreader) := (parse_reader_expr_p0_R_it k k).parse_reader_left_p0_fand l2 bx0

/-- (*cadastre/parse.reader).whole -/
noncomputable def parse_reader_whole_p0 (k : Nat) (bx0 : Sreader) : Option ((SExpr) × Sreader) :=
(parse_reader_expr_p0 k bx0).bind fun r_1 =>
(parse_Height k r_1.1).bind fun r_2 =>
(parse_reader_most_p0 k r_2 20 r_1.2).bind fun r_3 =>
some (r_1.1, r_3.2)

noncomputable def parse_list_api_Expr__p0_fwhole_l1_b {ρ : Type} (k : Nat) (kexit0 : List TExpr → Sreader → Option ρ) (rec : (List TExpr) → Sreader → Option ρ) (l4 : List TExpr) (t1000 : Sreader) : Option ρ :=
bif (!t1000.f1) then
(parse_reader_whole_p0 k t1000).bind fun r_1 =>
chk ((l4.length + [r_1.1.t].length) * 96 ≤ 140737488355328) <|
(parse_reader_got_p0 k (⟨#[44]⟩ : ByteArray) r_1.2).bind fun r_2 =>
bif (!r_2.1) then
kexit0 (l4 ++ [r_1.1.t]) r_2.2
else
rec (l4 ++ [r_1.1.t]) r_2.2
else
kexit0 l4 t1000
noncomputable def parse_list_api_Expr__p0_fwhole_l1 {ρ : Type} (k : Nat) (kexit0 : List TExpr → Sreader → Option ρ) : Nat → (List TExpr) → Sreader → Option ρ
  | 0, _, _ => none
  | n + 1, l4, t1000 => parse_list_api_Expr__p0_fwhole_l1_b k kexit0 (parse_list_api_Expr__p0_fwhole_l1 k kexit0 n) l4 t1000

/-- cadastre/parse.list[cadastre/api.Expr] -/
noncomputable def parse_list_api_Expr__p0_fwhole (k : Nat) (bx0 : Sreader) : Option (((List TExpr)) × Sreader) :=
parse_list_api_Expr__p0_fwhole_l1 k (fun l4_3 t1000_4 =>
some (l4_3, t1000_4)) k [] bx0

/-- (*cadastre/parse.reader).insert$1$1 -/
noncomputable def parse_reader_insert_1_1_q0 (k : Nat) (bx0 : Sreader) : Option (((List TExpr)) × Sreader) :=
(parse_list_api_Expr__p0_fwhole k bx0).bind fun r_1 =>
some (r_1.1, r_1.2)

/-- cadastre/parse.in[[]cadastre/api.Expr] -/
noncomputable def parse_in_Lapi_Expr__p0_finsert_1_1 (k : Nat) (bx0 : Sreader) : Option (((List TExpr)) × Sreader) :=
(parse_reader_must_p0 k [(⟨#[40]⟩ : ByteArray)] bx0).bind fun r_1 =>
(parse_reader_insert_1_1_q0 k r_1.2).bind fun r_2 =>
(parse_reader_must_p0 k [(⟨#[41]⟩ : ByteArray)] r_2.2).bind fun r_3 =>
some (r_2.1, r_3.2)

/-- (*cadastre/parse.reader).insert$1 -/
noncomputable def parse_reader_insert_1_q0 (k : Nat) (bx0 : Sreader) : Option (((List TExpr)) × Sreader) :=
(parse_in_Lapi_Expr__p0_finsert_1_1 k bx0).bind fun r_1 =>
some (r_1.1, r_1.2)

noncomputable def parse_list_Lapi_Expr__p0_finsert_1_l1_b {ρ : Type} (k : Nat) (kexit0 : List (List TExpr) → Sreader → Option ρ) (rec : (List (List TExpr)) → Sreader → Option ρ) (l4 : List (List TExpr)) (t1000 : Sreader) : Option ρ :=
bif (!t1000.f1) then
(parse_reader_insert_1_q0 k t1000).bind fun r_1 =>
chk ((l4.length + [r_1.1].length) * 24 ≤ 140737488355328) <|
(parse_reader_got_p0 k (⟨#[44]⟩ : ByteArray) r_1.2).bind fun r_2 =>
bif (!r_2.1) then
kexit0 (l4 ++ [r_1.1]) r_2.2
else
rec (l4 ++ [r_1.1]) r_2.2
else
kexit0 l4 t1000
noncomputable def parse_list_Lapi_Expr__p0_finsert_1_l1 {ρ : Type} (k : Nat) (kexit0 : List (List TExpr) → Sreader → Option ρ) : Nat → (List (List TExpr)) → Sreader → Option ρ
  | 0, _, _ => none
  | n + 1, l4, t1000 => parse_list_Lapi_Expr__p0_finsert_1_l1_b k kexit0 (parse_list_Lapi_Expr__p0_finsert_1_l1 k kexit0 n) l4 t1000

/-- cadastre/parse.list[[]cadastre/api.Expr] -/
noncomputable def parse_list_Lapi_Expr__p0_finsert_1 (k : Nat) (bx0 : Sreader) : Option (((List (List TExpr))) × Sreader) :=
parse_list_Lapi_Expr__p0_finsert_1_l1 k (fun l4_3 t1000_4 =>
some (l4_3, t1000_4)) k [] bx0

noncomputable def parse_reader_insert_p0_l6_b {ρ : Type} (k : Nat) (kexit0 : SStmt → SStmt → Sreader → Option ρ) (rec : (List (List TExpr)) → Int → Int → SStmt → SStmt → Sreader → Option ρ) (t20 : List (List TExpr)) (t21 : Int) (t22 : Int) (t2 : SStmt) (s3 : SStmt) (t1000 : Sreader) : Option ρ :=
bif (decide (t22 < t21)) then
chk (0 ≤ t22 ∧ t22 < (t20.length : Int)) <|
(parse_reader_most_p0 k ((t20.getD t22.toNat []).length : Int) 16 t1000).bind fun r_5 =>
rec t20 t21 (IntKind.i64.wrap (t22 + 1)) t2 s3 r_5.2
else
kexit0 t2 s3 t1000
noncomputable def parse_reader_insert_p0_l6 {ρ : Type} (k : Nat) (kexit0 : SStmt → SStmt → Sreader → Option ρ) : Nat → (List (List TExpr)) → Int → Int → SStmt → SStmt → Sreader → Option ρ
  | 0, _, _, _, _, _, _ => none
  | n + 1, t20, t21, t22, t2, s3, t1000 => parse_reader_insert_p0_l6_b k kexit0 (parse_reader_insert_p0_l6 k kexit0 n) t20 t21 t22 t2 s3 t1000

/-- (*cadastre/parse.reader).insert -/
noncomputable def parse_reader_insert_p0 (k : Nat) (bx0 : Sreader) : Option ((SStmt) × Sreader) :=
(parse_reader_must_p0 k [(⟨#[105, 110, 116, 111]⟩ : ByteArray)] bx0).bind fun r_1 =>
(parse_reader_name_p0 k r_1.2).bind fun r_2 =>
(parse_reader_must_p0 k [(⟨#[118, 97, 108, 117, 101, 115]⟩ : ByteArray)] r_2.2).bind fun r_3 =>
(parse_list_Lapi_Expr__p0_finsert_1 k r_3.2).bind fun r_4 =>
parse_reader_insert_p0_l6 k (fun t2_6 s3_7 t1000_8 =>
some (s3_7, t1000_8)) k r_4.1 (r_4.1.length : Int) 0 (⟨0, ByteArray.empty, ByteArray.empty, false, [], [], [], [], [], false, [], [], []⟩ : SStmt) (⟨6, ByteArray.empty, r_2.1, false, [], [], r_4.1, [], [], false, [], [], []⟩ : SStmt) r_4.2

/-- (*cadastre/parse.reader).where -/
noncomputable def parse_reader_where_p0 (k : Nat) (bx0 : Sreader) : Option (((List TExpr)) × Sreader) :=
(parse_reader_got_p0 k (⟨#[119, 104, 101, 114, 101]⟩ : ByteArray) bx0).bind fun r_1 =>
bif r_1.1 then
(parse_reader_whole_p0 k r_1.2).bind fun r_2 =>
some ([r_2.1.t], r_2.2)
else
some ([], r_1.2)

/-- (*cadastre/parse.reader).update$1 -/
noncomputable def parse_reader_update_1_q0 (k : Nat) (bx0 : Sreader) : Option ((SSet) × Sreader) :=
(parse_reader_name_p0 k bx0).bind fun r_1 =>
(parse_reader_must_p0 k [(⟨#[61]⟩ : ByteArray)] r_1.2).bind fun r_2 =>
(parse_reader_whole_p0 k r_2.2).bind fun r_3 =>
some ((⟨r_1.1, r_3.1⟩ : SSet), r_3.2)

noncomputable def parse_list_api_Set__p0_fupdate_1_l1_b {ρ : Type} (k : Nat) (kexit0 : List SSet → Sreader → Option ρ) (rec : (List SSet) → Sreader → Option ρ) (l4 : List SSet) (t1000 : Sreader) : Option ρ :=
bif (!t1000.f1) then
(parse_reader_update_1_q0 k t1000).bind fun r_1 =>
chk ((l4.length + [r_1.1].length) * 112 ≤ 140737488355328) <|
(parse_reader_got_p0 k (⟨#[44]⟩ : ByteArray) r_1.2).bind fun r_2 =>
bif (!r_2.1) then
kexit0 (l4 ++ [r_1.1]) r_2.2
else
rec (l4 ++ [r_1.1]) r_2.2
else
kexit0 l4 t1000
noncomputable def parse_list_api_Set__p0_fupdate_1_l1 {ρ : Type} (k : Nat) (kexit0 : List SSet → Sreader → Option ρ) : Nat → (List SSet) → Sreader → Option ρ
  | 0, _, _ => none
  | n + 1, l4, t1000 => parse_list_api_Set__p0_fupdate_1_l1_b k kexit0 (parse_list_api_Set__p0_fupdate_1_l1 k kexit0 n) l4 t1000

/-- cadastre/parse.list[cadastre/api.Set] -/
noncomputable def parse_list_api_Set__p0_fupdate_1 (k : Nat) (bx0 : Sreader) : Option (((List SSet)) × Sreader) :=
parse_list_api_Set__p0_fupdate_1_l1 k (fun l4_3 t1000_4 =>
some (l4_3, t1000_4)) k [] bx0

/-- (*cadastre/parse.reader).update -/
noncomputable def parse_reader_update_p0 (k : Nat) (bx0 : Sreader) : Option ((SStmt) × Sreader) :=
(parse_reader_name_p0 k bx0).bind fun r_1 =>
(parse_reader_must_p0 k [(⟨#[115, 101, 116]⟩ : ByteArray)] r_1.2).bind fun r_2 =>
(parse_list_api_Set__p0_fupdate_1 k r_2.2).bind fun r_3 =>
(parse_reader_most_p0 k (r_3.1.length : Int) 16 r_3.2).bind fun r_4 =>
(parse_reader_where_p0 k r_4.2).bind fun r_5 =>
some ((⟨8, ByteArray.empty, r_1.1, false, [], [], [], r_3.1, [], false, [], r_5.1, []⟩ : SStmt), r_5.2)

/-- (*cadastre/parse.reader).query$1 -/
noncomputable def parse_reader_query_1_q0 (k : Nat) (bx0 : Sreader) : Option ((SOrder) × Sreader) :=
(parse_reader_whole_p0 k bx0).bind fun r_1 =>
(parse_reader_got_p0 k (⟨#[100, 101, 115, 99]⟩ : ByteArray) r_1.2).bind fun r_2 =>
some ((⟨r_1.1, r_2.1⟩ : SOrder), r_2.2)

noncomputable def parse_list_api_Order__p0_fquery_1_l1_b {ρ : Type} (k : Nat) (kexit0 : List SOrder → Sreader → Option ρ) (rec : (List SOrder) → Sreader → Option ρ) (l4 : List SOrder) (t1000 : Sreader) : Option ρ :=
bif (!t1000.f1) then
(parse_reader_query_1_q0 k t1000).bind fun r_1 =>
chk ((l4.length + [r_1.1].length) * 104 ≤ 140737488355328) <|
(parse_reader_got_p0 k (⟨#[44]⟩ : ByteArray) r_1.2).bind fun r_2 =>
bif (!r_2.1) then
kexit0 (l4 ++ [r_1.1]) r_2.2
else
rec (l4 ++ [r_1.1]) r_2.2
else
kexit0 l4 t1000
noncomputable def parse_list_api_Order__p0_fquery_1_l1 {ρ : Type} (k : Nat) (kexit0 : List SOrder → Sreader → Option ρ) : Nat → (List SOrder) → Sreader → Option ρ
  | 0, _, _ => none
  | n + 1, l4, t1000 => parse_list_api_Order__p0_fquery_1_l1_b k kexit0 (parse_list_api_Order__p0_fquery_1_l1 k kexit0 n) l4 t1000

/-- cadastre/parse.list[cadastre/api.Order] -/
noncomputable def parse_list_api_Order__p0_fquery_1 (k : Nat) (bx0 : Sreader) : Option (((List SOrder)) × Sreader) :=
parse_list_api_Order__p0_fquery_1_l1 k (fun l4_3 t1000_4 =>
some (l4_3, t1000_4)) k [] bx0

noncomputable def parse_reader_query_p0_j10 {ρ : Type} (k : Nat) (kret : SStmt → Sreader → Option ρ) (t2 : SStmt) (s3 : SStmt) (t1000 : Sreader) : Option ρ :=
(parse_reader_most_p0 k (s3.f10.length : Int) 16 t1000).bind fun r_9 =>
(parse_reader_most_p0 k (s3.f8.length : Int) 3 r_9.2).bind fun r_10 =>
(parse_reader_most_p0 k (s3.f12.length : Int) 16 r_10.2).bind fun r_11 =>
kret s3 r_11.2

noncomputable def parse_reader_query_p0_j4 {ρ : Type} (k : Nat) (kret : SStmt → Sreader → Option ρ) (t2 : SStmt) (s3 : SStmt) (t1000 : Sreader) : Option ρ :=
(parse_reader_must_p0 k [(⟨#[102, 114, 111, 109]⟩ : ByteArray)] t1000).bind fun r_3 =>
(parse_list_string__p0_fname k r_3.2).bind fun r_4 =>
(parse_reader_where_p0 k r_4.2).bind fun r_5 =>
(parse_reader_got_p0 k (⟨#[111, 114, 100, 101, 114]⟩ : ByteArray) r_5.2).bind fun r_6 =>
bif r_6.1 then
(parse_reader_must_p0 k [(⟨#[98, 121]⟩ : ByteArray)] r_6.2).bind fun r_7 =>
(parse_list_api_Order__p0_fquery_1 k r_7.2).bind fun r_8 =>
parse_reader_query_p0_j10 k kret t2 (⟨s3.f0, s3.f1, s3.f2, s3.f3, s3.f4, s3.f5, s3.f6, s3.f7, r_4.1, s3.f9, s3.f10, r_5.1, r_8.1⟩ : SStmt) r_8.2
else
parse_reader_query_p0_j10 k kret t2 (⟨s3.f0, s3.f1, s3.f2, s3.f3, s3.f4, s3.f5, s3.f6, s3.f7, r_4.1, s3.f9, s3.f10, r_5.1, s3.f12⟩ : SStmt) r_6.2

/-- (*cadastre/parse.reader).query -/
noncomputable def parse_reader_query_p0 (k : Nat) (bx0 : Sreader) : Option ((SStmt) × Sreader) :=
(parse_reader_got_p0 k (⟨#[42]⟩ : ByteArray) bx0).bind fun r_1 =>
bif (!r_1.1) then
(parse_list_api_Expr__p0_fwhole k r_1.2).bind fun r_2 =>
parse_reader_query_p0_j4 k (fun t2_16 t1000_17 =>
some (t2_16, t1000_17)) (⟨0, ByteArray.empty, ByteArray.empty, false, [], [], [], [], [], false, [], [], []⟩ : SStmt) (⟨9, ByteArray.empty, ByteArray.empty, false, [], [], [], [], [], r_1.1, r_2.1, [], []⟩ : SStmt) r_2.2
else
parse_reader_query_p0_j4 k (fun t2_18 t1000_19 =>
some (t2_18, t1000_19)) (⟨0, ByteArray.empty, ByteArray.empty, false, [], [], [], [], [], false, [], [], []⟩ : SStmt) (⟨9, ByteArray.empty, ByteArray.empty, false, [], [], [], [], [], r_1.1, [], [], []⟩ : SStmt) r_1.2

/-- (*cadastre/parse.reader).statement -/
noncomputable def parse_reader_statement_p0 (k : Nat) (bx0 : Sreader) : Option ((SStmt) × Sreader) :=
(parse_reader_got_p0 k (⟨#[99, 114, 101, 97, 116, 101]⟩ : ByteArray) bx0).bind fun r_1 =>
bif r_1.1 then
(parse_reader_create_p0 k r_1.2).bind fun r_2 =>
some (r_2.1, r_2.2)
else
(parse_reader_got_p0 k (⟨#[100, 114, 111, 112]⟩ : ByteArray) r_1.2).bind fun r_3 =>
bif r_3.1 then
(parse_reader_drop_p0 k r_3.2).bind fun r_4 =>
some (r_4.1, r_4.2)
else
(parse_reader_got_p0 k (⟨#[105, 110, 115, 101, 114, 116]⟩ : ByteArray) r_3.2).bind fun r_5 =>
bif r_5.1 then
(parse_reader_insert_p0 k r_5.2).bind fun r_6 =>
some (r_6.1, r_6.2)
else
(parse_reader_got_p0 k (⟨#[100, 101, 108, 101, 116, 101]⟩ : ByteArray) r_5.2).bind fun r_7 =>
bif r_7.1 then
(parse_reader_must_p0 k [(⟨#[102, 114, 111, 109]⟩ : ByteArray)] r_7.2).bind fun r_8 =>
(parse_reader_name_p0 k r_8.2).bind fun r_9 =>
(parse_reader_where_p0 k r_9.2).bind fun r_10 =>
some ((⟨7, ByteArray.empty, r_9.1, false, [], [], [], [], [], false, [], r_10.1, []⟩ : SStmt), r_10.2)
else
(parse_reader_got_p0 k (⟨#[117, 112, 100, 97, 116, 101]⟩ : ByteArray) r_7.2).bind fun r_11 =>
bif r_11.1 then
(parse_reader_update_p0 k r_11.2).bind fun r_12 =>
some (r_12.1, r_12.2)
else
(parse_reader_got_p0 k (⟨#[115, 101, 108, 101, 99, 116]⟩ : ByteArray) r_11.2).bind fun r_13 =>
bif r_13.1 then
(parse_reader_query_p0 k r_13.2).bind fun r_14 =>
some (r_14.1, r_14.2)
else
(parse_reader_got_p0 k (⟨#[98, 101, 103, 105, 110]⟩ : ByteArray) r_13.2).bind fun r_15 =>
bif r_15.1 then
some ((⟨10, ByteArray.empty, ByteArray.empty, false, [], [], [], [], [], false, [], [], []⟩ : SStmt), r_15.2)
else
(parse_reader_got_p0 k (⟨#[99, 111, 109, 109, 105, 116]⟩ : ByteArray) r_15.2).bind fun r_16 =>
bif r_16.1 then
some ((⟨11, ByteArray.empty, ByteArray.empty, false, [], [], [], [], [], false, [], [], []⟩ : SStmt), r_16.2)
else
(parse_reader_got_p0 k (⟨#[114, 111, 108, 108, 98, 97, 99, 107]⟩ : ByteArray) r_16.2).bind fun r_17 =>
bif r_17.1 then
some ((⟨12, ByteArray.empty, ByteArray.empty, false, [], [], [], [], [], false, [], [], []⟩ : SStmt), r_17.2)
else
(parse_reader_fail_p0 k r_17.2).bind fun r_18 =>
some ((⟨0, ByteArray.empty, ByteArray.empty, false, [], [], [], [], [], false, [], [], []⟩ : SStmt), r_18.2)

noncomputable def parse_Parse_j10 {ρ : Type} (k : Nat) (kret : Int → SStmt → Option ρ) (knxt : SStmt → SStmt → Option ρ) (t2 : SStmt) (x7 : SStmt) (t19 : Sreader) : Option ρ :=
bif t19.f2 then
kret 7 (⟨0, ByteArray.empty, ByteArray.empty, false, [], [], [], [], [], false, [], [], []⟩ : SStmt)
else
knxt t2 x7

/-- cadastre/parse.Parse -/
noncomputable def parse_Parse (k : Nat) (s0 : ByteArray) : Option (SStmt × Int) :=
(lex_Tokens k s0).bind fun r_1 =>
bif (r_1.2 != 0) then
some ((⟨0, ByteArray.empty, ByteArray.empty, false, [], [], [], [], [], false, [], [], []⟩ : SStmt), r_1.2)
else
(parse_reader_statement_p0 k (⟨r_1.1, false, false, 0, 0⟩ : Sreader)).bind fun r_2 =>
(parse_reader_got_p0 k (⟨#[59]⟩ : ByteArray) r_2.2).bind fun r_3 =>
(parse_reader_most_p0 k r_3.2.f3 200 r_3.2).bind fun r_4 =>
bif r_4.2.f1 then
some ((⟨0, ByteArray.empty, ByteArray.empty, false, [], [], [], [], [], false, [], [], []⟩ : SStmt), 1)
else
bif (decide ((r_4.2.f0.length : Int) > 0)) then
some ((⟨0, ByteArray.empty, ByteArray.empty, false, [], [], [], [], [], false, [], [], []⟩ : SStmt), 1)
else
parse_Parse_j10 k (fun t3_5 t2_6 =>
some (t2_6, t3_5)) (fun t2_7 x7_8 =>
some (x7_8, 0)) (⟨0, ByteArray.empty, ByteArray.empty, false, [], [], [], [], [], false, [], [], []⟩ : SStmt) r_2.1 r_4.2

/-- cadastre/cadastrelaw20.num -/
noncomputable def cadastrelaw20_num (k : Nat) (e0 : Int) : Option Int :=
some e0

noncomputable def cadastreref0_EqColumns_l4_b {ρ : Type} (k : Nat) (kret : Bool → Option ρ) (kexit0 : Option ρ) (rec : (List SColumn) → (List SColumn) → Int → Option ρ) (a0 : List SColumn) (b1 : List SColumn) (i5 : Int) : Option ρ :=
bif (decide (i5 < (a0.length : Int))) then
chk (0 ≤ i5 ∧ i5 < (a0.length : Int)) <|
chk (0 ≤ i5 ∧ i5 < (b1.length : Int)) <|
let v_1 : Bool := (!(((a0.getD i5.toNat default).f0 == (b1.getD i5.toNat default).f0) && (((a0.getD i5.toNat default).f1 == (b1.getD i5.toNat default).f1) && ((a0.getD i5.toNat default).f2 == (b1.getD i5.toNat default).f2))))
bif v_1 then
kret false
else
rec a0 b1 (IntKind.i64.wrap (i5 + 1))
else
kexit0
noncomputable def cadastreref0_EqColumns_l4 {ρ : Type} (k : Nat) (kret : Bool → Option ρ) (kexit0 : Option ρ) : Nat → (List SColumn) → (List SColumn) → Int → Option ρ
  | 0, _, _, _ => none
  | n + 1, a0, b1, i5 => cadastreref0_EqColumns_l4_b k kret kexit0 (cadastreref0_EqColumns_l4 k kret kexit0 n) a0 b1 i5

/-- cadastre/cadastreref0.EqColumns -/
noncomputable def cadastreref0_EqColumns (k : Nat) (a0 : List SColumn) (b1 : List SColumn) : Option Bool :=
bif ((a0.length : Int) != (b1.length : Int)) then
some false
else
cadastreref0_EqColumns_l4 k (fun t4_2 =>
some t4_2) (some true) k a0 b1 0

noncomputable def cadastreref0_EqStrings_l4_b {ρ : Type} (k : Nat) (kret : Bool → Option ρ) (kexit0 : Option ρ) (rec : (List ByteArray) → (List ByteArray) → Int → Option ρ) (a0 : List ByteArray) (b1 : List ByteArray) (i5 : Int) : Option ρ :=
bif (decide (i5 < (a0.length : Int))) then
chk (0 ≤ i5 ∧ i5 < (a0.length : Int)) <|
chk (0 ≤ i5 ∧ i5 < (b1.length : Int)) <|
let v_1 : Bool := (!((a0.getD i5.toNat ByteArray.empty).toList == (b1.getD i5.toNat ByteArray.empty).toList))
bif v_1 then
kret false
else
rec a0 b1 (IntKind.i64.wrap (i5 + 1))
else
kexit0
noncomputable def cadastreref0_EqStrings_l4 {ρ : Type} (k : Nat) (kret : Bool → Option ρ) (kexit0 : Option ρ) : Nat → (List ByteArray) → (List ByteArray) → Int → Option ρ
  | 0, _, _, _ => none
  | n + 1, a0, b1, i5 => cadastreref0_EqStrings_l4_b k kret kexit0 (cadastreref0_EqStrings_l4 k kret kexit0 n) a0 b1 i5

/-- cadastre/cadastreref0.EqStrings -/
noncomputable def cadastreref0_EqStrings (k : Nat) (a0 : List ByteArray) (b1 : List ByteArray) : Option Bool :=
bif ((a0.length : Int) != (b1.length : Int)) then
some false
else
cadastreref0_EqStrings_l4 k (fun t4_2 =>
some t4_2) (some true) k a0 b1 0

/-- what the functions that call each other answer -/
structure cadastreref0_EqExprs_R where
  cadastreref0_EqExprs : (List TExpr) → (List TExpr) → Option Bool
  cadastreref0_EqExpr : SExpr → SExpr → Option Bool
noncomputable def cadastreref0_EqExprs_l4_b {ρ : Type} (k : Nat) (rc : cadastreref0_EqExprs_R) (kret : Bool → Option ρ) (kexit0 : Option ρ) (rec : (List TExpr) → (List TExpr) → Int → Option ρ) (a0 : List TExpr) (b1 : List TExpr) (i5 : Int) : Option ρ :=
bif (decide (i5 < (a0.length : Int))) then
chk (0 ≤ i5 ∧ i5 < (a0.length : Int)) <|
chk (0 ≤ i5 ∧ i5 < (b1.length : Int)) <|
(rc.cadastreref0_EqExpr (a0.getD i5.toNat default).s (b1.getD i5.toNat default).s).bind fun r_1 =>
bif (!r_1) then
kret false
else
rec a0 b1 (IntKind.i64.wrap (i5 + 1))
else
kexit0
noncomputable def cadastreref0_EqExprs_l4 {ρ : Type} (k : Nat) (rc : cadastreref0_EqExprs_R) (kret : Bool → Option ρ) (kexit0 : Option ρ) : Nat → (List TExpr) → (List TExpr) → Int → Option ρ
  | 0, _, _, _ => none
  | n + 1, a0, b1, i5 => cadastreref0_EqExprs_l4_b k rc kret kexit0 (cadastreref0_EqExprs_l4 k rc kret kexit0 n) a0 b1 i5

/-- cadastre/cadastreref0.EqExprs -/
noncomputable def cadastreref0_EqExprs_r (k : Nat) (rc : cadastreref0_EqExprs_R) (a0 : List TExpr) (b1 : List TExpr) : Option Bool :=
bif ((a0.length : Int) != (b1.length : Int)) then
some false
else
cadastreref0_EqExprs_l4 k rc (fun t4_2 =>
some t4_2) (some true) k a0 b1 0
/-- cadastre/cadastreref0.EqExpr -/
noncomputable def cadastreref0_EqExpr_r (k : Nat) (rc : cadastreref0_EqExprs_R) (a0 : SExpr) (b1 : SExpr) : Option Bool :=
bif (a0.f0 == b1.f0) then
let v_1 : Bool := ((a0.f1.f0 == b1.f1.f0) && ((a0.f1.f1 == b1.f1.f1) && (a0.f1.f2 == b1.f1.f2)))
bif v_1 then
bif (a0.f2.toList == b1.f2.toList) then
bif (a0.f3.toList == b1.f3.toList) then
(rc.cadastreref0_EqExprs a0.f4 b1.f4).bind fun r_2 =>
some r_2
else
some false
else
some false
else
some false
else
some false
noncomputable def cadastreref0_EqExprs_R_it (k : Nat) : Nat → cadastreref0_EqExprs_R
  | 0 => ⟨fun _ _ => none, fun _ _ => none⟩
  | d + 1 => ⟨cadastreref0_EqExprs_r k (cadastreref0_EqExprs_R_it k d), cadastreref0_EqExpr_r k (cadastreref0_EqExprs_R_it k d)⟩
/-- cadastre/cadastreref0.EqExprs -/
noncomputable def cadastreref0_EqExprs (k : Nat) (a0 : List TExpr) (b1 : List TExpr) : Option Bool := (cadastreref0_EqExprs_R_it k k).cadastreref0_EqExprs a0 b1
/-- cadastre/cadastreref0.EqExpr -/
noncomputable def cadastreref0_EqExpr (k : Nat) (a0 : SExpr) (b1 : SExpr) : Option Bool := (cadastreref0_EqExprs_R_it k k).cadastreref0_EqExpr a0 b1

noncomputable def cadastreref0_EqLines_l4_b {ρ : Type} (k : Nat) (kret : Bool → Option ρ) (kexit0 : Option ρ) (rec : (List (List TExpr)) → (List (List TExpr)) → Int → Option ρ) (a0 : List (List TExpr)) (b1 : List (List TExpr)) (i5 : Int) : Option ρ :=
bif (decide (i5 < (a0.length : Int))) then
chk (0 ≤ i5 ∧ i5 < (a0.length : Int)) <|
chk (0 ≤ i5 ∧ i5 < (b1.length : Int)) <|
(cadastreref0_EqExprs k (a0.getD i5.toNat []) (b1.getD i5.toNat [])).bind fun r_1 =>
bif (!r_1) then
kret false
else
rec a0 b1 (IntKind.i64.wrap (i5 + 1))
else
kexit0
noncomputable def cadastreref0_EqLines_l4 {ρ : Type} (k : Nat) (kret : Bool → Option ρ) (kexit0 : Option ρ) : Nat → (List (List TExpr)) → (List (List TExpr)) → Int → Option ρ
  | 0, _, _, _ => none
  | n + 1, a0, b1, i5 => cadastreref0_EqLines_l4_b k kret kexit0 (cadastreref0_EqLines_l4 k kret kexit0 n) a0 b1 i5

/-- cadastre/cadastreref0.EqLines -/
noncomputable def cadastreref0_EqLines (k : Nat) (a0 : List (List TExpr)) (b1 : List (List TExpr)) : Option Bool :=
bif ((a0.length : Int) != (b1.length : Int)) then
some false
else
cadastreref0_EqLines_l4 k (fun t4_2 =>
some t4_2) (some true) k a0 b1 0

/-- cadastre/cadastreref0.EqSet -/
noncomputable def cadastreref0_EqSet (k : Nat) (a0 : SSet) (b1 : SSet) : Option Bool :=
bif (a0.f0.toList == b1.f0.toList) then
(cadastreref0_EqExpr k a0.f1 b1.f1).bind fun r_1 =>
some r_1
else
some false

noncomputable def cadastreref0_EqSets_l4_b {ρ : Type} (k : Nat) (kret : Bool → Option ρ) (kexit0 : Option ρ) (rec : (List SSet) → (List SSet) → Int → Option ρ) (a0 : List SSet) (b1 : List SSet) (i5 : Int) : Option ρ :=
bif (decide (i5 < (a0.length : Int))) then
chk (0 ≤ i5 ∧ i5 < (a0.length : Int)) <|
chk (0 ≤ i5 ∧ i5 < (b1.length : Int)) <|
(cadastreref0_EqSet k (a0.getD i5.toNat default) (b1.getD i5.toNat default)).bind fun r_1 =>
bif (!r_1) then
kret false
else
rec a0 b1 (IntKind.i64.wrap (i5 + 1))
else
kexit0
noncomputable def cadastreref0_EqSets_l4 {ρ : Type} (k : Nat) (kret : Bool → Option ρ) (kexit0 : Option ρ) : Nat → (List SSet) → (List SSet) → Int → Option ρ
  | 0, _, _, _ => none
  | n + 1, a0, b1, i5 => cadastreref0_EqSets_l4_b k kret kexit0 (cadastreref0_EqSets_l4 k kret kexit0 n) a0 b1 i5

/-- cadastre/cadastreref0.EqSets -/
noncomputable def cadastreref0_EqSets (k : Nat) (a0 : List SSet) (b1 : List SSet) : Option Bool :=
bif ((a0.length : Int) != (b1.length : Int)) then
some false
else
cadastreref0_EqSets_l4 k (fun t4_2 =>
some t4_2) (some true) k a0 b1 0

/-- cadastre/cadastreref0.EqOrder -/
noncomputable def cadastreref0_EqOrder (k : Nat) (a0 : SOrder) (b1 : SOrder) : Option Bool :=
bif (a0.f1 == b1.f1) then
(cadastreref0_EqExpr k a0.f0 b1.f0).bind fun r_1 =>
some r_1
else
some false

noncomputable def cadastreref0_EqOrders_l4_b {ρ : Type} (k : Nat) (kret : Bool → Option ρ) (kexit0 : Option ρ) (rec : (List SOrder) → (List SOrder) → Int → Option ρ) (a0 : List SOrder) (b1 : List SOrder) (i5 : Int) : Option ρ :=
bif (decide (i5 < (a0.length : Int))) then
chk (0 ≤ i5 ∧ i5 < (a0.length : Int)) <|
chk (0 ≤ i5 ∧ i5 < (b1.length : Int)) <|
(cadastreref0_EqOrder k (a0.getD i5.toNat default) (b1.getD i5.toNat default)).bind fun r_1 =>
bif (!r_1) then
kret false
else
rec a0 b1 (IntKind.i64.wrap (i5 + 1))
else
kexit0
noncomputable def cadastreref0_EqOrders_l4 {ρ : Type} (k : Nat) (kret : Bool → Option ρ) (kexit0 : Option ρ) : Nat → (List SOrder) → (List SOrder) → Int → Option ρ
  | 0, _, _, _ => none
  | n + 1, a0, b1, i5 => cadastreref0_EqOrders_l4_b k kret kexit0 (cadastreref0_EqOrders_l4 k kret kexit0 n) a0 b1 i5

/-- cadastre/cadastreref0.EqOrders -/
noncomputable def cadastreref0_EqOrders (k : Nat) (a0 : List SOrder) (b1 : List SOrder) : Option Bool :=
bif ((a0.length : Int) != (b1.length : Int)) then
some false
else
cadastreref0_EqOrders_l4 k (fun t4_2 =>
some t4_2) (some true) k a0 b1 0

/-- cadastre/cadastreref0.EqStmt -/
noncomputable def cadastreref0_EqStmt (k : Nat) (a0 : SStmt) (b1 : SStmt) : Option Bool :=
bif (a0.f0 == b1.f0) then
bif (a0.f1.toList == b1.f1.toList) then
bif (a0.f2.toList == b1.f2.toList) then
bif (a0.f3 == b1.f3) then
bif (a0.f9 == b1.f9) then
(cadastreref0_EqColumns k a0.f4 b1.f4).bind fun r_1 =>
bif r_1 then
(cadastreref0_EqStrings k a0.f5 b1.f5).bind fun r_2 =>
bif r_2 then
(cadastreref0_EqLines k a0.f6 b1.f6).bind fun r_3 =>
bif r_3 then
(cadastreref0_EqSets k a0.f7 b1.f7).bind fun r_4 =>
bif r_4 then
(cadastreref0_EqStrings k a0.f8 b1.f8).bind fun r_5 =>
bif r_5 then
(cadastreref0_EqExprs k a0.f10 b1.f10).bind fun r_6 =>
bif r_6 then
(cadastreref0_EqExprs k a0.f11 b1.f11).bind fun r_7 =>
bif r_7 then
(cadastreref0_EqOrders k a0.f12 b1.f12).bind fun r_8 =>
some r_8
else
some false
else
some false
else
some false
else
some false
else
some false
else
some false
else
some false
else
some false
else
some false
else
some false
else
some false
else
some false

/-- cadastre/cadastrelaw20.wakes -/
noncomputable def cadastrelaw20_wakes (k : Nat) : Option Bool :=
(parse_Parse k (⟨#[98, 101, 103, 105, 110, 59]⟩ : ByteArray)).bind fun r_1 =>
(cadastrelaw20_num k r_1.2).bind fun r_2 =>
bif (r_2 == 0) then
some (r_1.1.f0 == 10)
else
some false

noncomputable def cadastrelaw20_ParseEnds_j4 {ρ : Type} (k : Nat) (kret : Bool → Option ρ) (knxt : List ByteArray → Int → Option ρ) (l0 : List ByteArray) (i3 : Int) : Option ρ :=
chk (0 ≤ i3 ∧ i3 < (l0.length : Int)) <|
let v_1 : Bool := (big (decide (((l0.getD i3.toNat ByteArray.empty).size : Int) > 4000)))
bif v_1 then
kret true
else
chk (0 ≤ i3 ∧ i3 < (l0.length : Int)) <|
(parse_Parse k (l0.getD i3.toNat ByteArray.empty)).bind fun r_2 =>
(cadastrelaw20_num k r_2.2).bind fun r_3 =>
bif (r_3 != 0) then
knxt l0 (IntKind.i64.wrap (i3 + 1))
else
chk (0 ≤ i3 ∧ i3 < (l0.length : Int)) <|
chk (strFits (l0.getD i3.toNat ByteArray.empty) (⟨#[10, 59]⟩ : ByteArray)) <|
(parse_Parse k (cat (l0.getD i3.toNat ByteArray.empty) (⟨#[10, 59]⟩ : ByteArray))).bind fun r_4 =>
chk (0 ≤ i3 ∧ i3 < (l0.length : Int)) <|
chk (strFits (l0.getD i3.toNat ByteArray.empty) (⟨#[10]⟩ : ByteArray)) <|
(parse_Parse k (cat (l0.getD i3.toNat ByteArray.empty) (⟨#[10]⟩ : ByteArray))).bind fun r_5 =>
chk (0 ≤ i3 ∧ i3 < (l0.length : Int)) <|
chk (strFits (l0.getD i3.toNat ByteArray.empty) (⟨#[10, 59, 59]⟩ : ByteArray)) <|
(parse_Parse k (cat (l0.getD i3.toNat ByteArray.empty) (⟨#[10, 59, 59]⟩ : ByteArray))).bind fun r_6 =>
chk (0 ≤ i3 ∧ i3 < (l0.length : Int)) <|
chk (strFits (l0.getD i3.toNat ByteArray.empty) (⟨#[10, 32, 98, 101, 103, 105, 110]⟩ : ByteArray)) <|
let v_7 : ByteArray := (cat (l0.getD i3.toNat ByteArray.empty) (⟨#[10, 32, 98, 101, 103, 105, 110]⟩ : ByteArray))
(parse_Parse k v_7).bind fun r_8 =>
(cadastrelaw20_num k r_4.2).bind fun r_9 =>
(cadastrelaw20_num k r_5.2).bind fun r_10 =>
bif (r_10 != 0) then
kret false
else
(cadastreref0_EqStmt k r_5.1 r_2.1).bind fun r_11 =>
bif (!r_11) then
kret false
else
bif (r_9 != 0) then
(cadastrelaw20_num k r_4.2).bind fun r_12 =>
bif (r_12 != 1) then
kret false
else
bif (!(r_9 != 0)) then
(cadastreref0_EqStmt k r_4.1 r_2.1).bind fun r_13 =>
bif (!r_13) then
kret false
else
(cadastrelaw20_num k r_6.2).bind fun r_14 =>
bif (r_14 != 1) then
kret false
else
(cadastrelaw20_num k r_8.2).bind fun r_15 =>
bif (r_15 != 1) then
kret false
else
knxt l0 (IntKind.i64.wrap (i3 + 1))
else
(cadastrelaw20_num k r_6.2).bind fun r_16 =>
bif (r_16 != 1) then
kret false
else
(cadastrelaw20_num k r_8.2).bind fun r_17 =>
bif (r_17 != 1) then
kret false
else
knxt l0 (IntKind.i64.wrap (i3 + 1))
else
bif (!(r_9 != 0)) then
(cadastreref0_EqStmt k r_4.1 r_2.1).bind fun r_18 =>
bif (!r_18) then
kret false
else
(cadastrelaw20_num k r_6.2).bind fun r_19 =>
bif (r_19 != 1) then
kret false
else
(cadastrelaw20_num k r_8.2).bind fun r_20 =>
bif (r_20 != 1) then
kret false
else
knxt l0 (IntKind.i64.wrap (i3 + 1))
else
(cadastrelaw20_num k r_6.2).bind fun r_21 =>
bif (r_21 != 1) then
kret false
else
(cadastrelaw20_num k r_8.2).bind fun r_22 =>
bif (r_22 != 1) then
kret false
else
knxt l0 (IntKind.i64.wrap (i3 + 1))

noncomputable def cadastrelaw20_ParseEnds_l2_b {ρ : Type} (k : Nat) (kret : Bool → Option ρ) (kexit0 : Option ρ) (rec : (List ByteArray) → Int → Option ρ) (l0 : List ByteArray) (i3 : Int) : Option ρ :=
bif (decide (i3 < (l0.length : Int))) then
bif (decide (i3 < 10)) then
cadastrelaw20_ParseEnds_j4 k kret rec l0 i3
else
kexit0
else
kexit0
noncomputable def cadastrelaw20_ParseEnds_l2 {ρ : Type} (k : Nat) (kret : Bool → Option ρ) (kexit0 : Option ρ) : Nat → (List ByteArray) → Int → Option ρ
  | 0, _, _ => none
  | n + 1, l0, i3 => cadastrelaw20_ParseEnds_l2_b k kret kexit0 (cadastrelaw20_ParseEnds_l2 k kret kexit0 n) l0 i3

/-- cadastre/cadastrelaw20.ParseEnds -/
noncomputable def cadastrelaw20_ParseEnds (k : Nat) (l0 : List ByteArray) : Option Bool :=
cadastrelaw20_ParseEnds_l2 k (fun t2_26 =>
some t2_26) ((parse_Parse k (⟨#[115, 101, 108, 101, 99, 116, 32, 97, 32, 43, 32, 49, 32, 102, 114, 111, 109, 32, 116]⟩ : ByteArray)).bind fun r_27 =>
(parse_Parse k (⟨#[115, 101, 108, 101, 99, 116, 32, 40, 40, 97, 41, 32, 43, 32, 40, 49, 41, 41, 32, 102, 114, 111, 109, 32, 116]⟩ : ByteArray)).bind fun r_28 =>
(cadastrelaw20_num k r_27.2).bind fun r_29 =>
bif (r_29 == 0) then
(cadastrelaw20_num k r_28.2).bind fun r_30 =>
bif (r_30 == 0) then
(cadastreref0_EqStmt k r_27.1 r_28.1).bind fun r_31 =>
bif r_31 then
(cadastrelaw20_wakes k).bind fun r_32 =>
some r_32
else
some false
else
some false
else
some false) k l0 0

/-- cadastre/cadastrelaw0.Within -/
noncomputable def cadastrelaw0_Within (k : Nat) (i0 : Int) (n1 : Int) : Option Int :=
if (IntKind.u64.wrap n1) = 0 then none else
let v_1 : Int := (IntKind.i64.wrap (Int.tmod (IntKind.u64.wrap i0) (IntKind.u64.wrap n1)))
some v_1

noncomputable def cadastrelaw20_ParseLevels_j14 {ρ : Type} (k : Nat) (kret : Bool → Option ρ) (knxt : List ByteArray → List (List ByteArray) → Int → Int → Option ρ) (l0 : List ByteArray) (levels3 : List (List ByteArray)) (i4 : Int) (k5 : Int) (e9 : Int) (with10 : ByteArray) (plain8 : SStmt) : Option ρ :=
(parse_Parse k with10).bind fun r_10 =>
(cadastrelaw20_num k e9).bind fun r_11 =>
bif (r_11 != 0) then
kret false
else
(cadastrelaw20_num k r_10.2).bind fun r_12 =>
bif (r_12 != 0) then
kret false
else
(cadastreref0_EqStmt k plain8 r_10.1).bind fun r_13 =>
bif (!r_13) then
kret false
else
knxt l0 levels3 i4 k5

noncomputable def cadastrelaw20_ParseLevels_l6_b {ρ : Type} (k : Nat) (kret : Bool → Option ρ) (kexit2 : List ByteArray → List (List ByteArray) → Int → Option ρ) (rec : (List ByteArray) → (List (List ByteArray)) → Int → Int → Option ρ) (l0 : List ByteArray) (levels3 : List (List ByteArray)) (i4 : Int) (k5 : Int) : Option ρ :=
bif (decide (k5 < 6)) then
chk (0 ≤ i4 ∧ i4 < (levels3.length : Int)) <|
chk (0 ≤ i4 ∧ i4 < (levels3.length : Int)) <|
(cadastrelaw0_Within k (IntKind.i64.wrap ((l0.length : Int) + k5)) ((levels3.getD i4.toNat []).length : Int)).bind fun r_1 =>
chk (0 ≤ r_1 ∧ r_1 < ((levels3.getD i4.toNat []).length : Int)) <|
chk (0 ≤ k5 ∧ k5 < (levels3.length : Int)) <|
chk (0 ≤ k5 ∧ k5 < (levels3.length : Int)) <|
(cadastrelaw0_Within k (IntKind.i64.wrap ((l0.length : Int) + i4)) ((levels3.getD k5.toNat []).length : Int)).bind fun r_2 =>
chk (0 ≤ r_2 ∧ r_2 < ((levels3.getD k5.toNat []).length : Int)) <|
chk (strFits (⟨#[115, 101, 108, 101, 99, 116, 32, 120]⟩ : ByteArray) ((levels3.getD i4.toNat []).getD r_1.toNat ByteArray.empty)) <|
let v_3 : ByteArray := (cat (⟨#[115, 101, 108, 101, 99, 116, 32, 120]⟩ : ByteArray) ((levels3.getD i4.toNat []).getD r_1.toNat ByteArray.empty))
chk (strFits v_3 (⟨#[121]⟩ : ByteArray)) <|
chk (strFits (cat v_3 (⟨#[121]⟩ : ByteArray)) ((levels3.getD k5.toNat []).getD r_2.toNat ByteArray.empty)) <|
let v_4 : ByteArray := (cat (cat v_3 (⟨#[121]⟩ : ByteArray)) ((levels3.getD k5.toNat []).getD r_2.toNat ByteArray.empty))
chk (strFits v_4 (⟨#[119, 32, 102, 114, 111, 109, 32, 116]⟩ : ByteArray)) <|
(parse_Parse k (cat v_4 (⟨#[119, 32, 102, 114, 111, 109, 32, 116]⟩ : ByteArray))).bind fun r_5 =>
chk (strFits (⟨#[115, 101, 108, 101, 99, 116, 32, 40, 120]⟩ : ByteArray) ((levels3.getD i4.toNat []).getD r_1.toNat ByteArray.empty)) <|
let v_6 : ByteArray := (cat (⟨#[115, 101, 108, 101, 99, 116, 32, 40, 120]⟩ : ByteArray) ((levels3.getD i4.toNat []).getD r_1.toNat ByteArray.empty))
chk (strFits v_6 (⟨#[121, 41]⟩ : ByteArray)) <|
chk (strFits (cat v_6 (⟨#[121, 41]⟩ : ByteArray)) ((levels3.getD k5.toNat []).getD r_2.toNat ByteArray.empty)) <|
let v_7 : ByteArray := (cat (cat v_6 (⟨#[121, 41]⟩ : ByteArray)) ((levels3.getD k5.toNat []).getD r_2.toNat ByteArray.empty))
chk (strFits v_7 (⟨#[119, 32, 102, 114, 111, 109, 32, 116]⟩ : ByteArray)) <|
bif (decide (k5 > i4)) then
chk (strFits (⟨#[115, 101, 108, 101, 99, 116, 32, 120]⟩ : ByteArray) ((levels3.getD i4.toNat []).getD r_1.toNat ByteArray.empty)) <|
let v_8 : ByteArray := (cat (⟨#[115, 101, 108, 101, 99, 116, 32, 120]⟩ : ByteArray) ((levels3.getD i4.toNat []).getD r_1.toNat ByteArray.empty))
chk (strFits v_8 (⟨#[40, 121]⟩ : ByteArray)) <|
chk (strFits (cat v_8 (⟨#[40, 121]⟩ : ByteArray)) ((levels3.getD k5.toNat []).getD r_2.toNat ByteArray.empty)) <|
let v_9 : ByteArray := (cat (cat v_8 (⟨#[40, 121]⟩ : ByteArray)) ((levels3.getD k5.toNat []).getD r_2.toNat ByteArray.empty))
chk (strFits v_9 (⟨#[119, 41, 32, 102, 114, 111, 109, 32, 116]⟩ : ByteArray)) <|
cadastrelaw20_ParseLevels_j14 k kret (fun l0_15 levels3_16 i4_17 k5_18 =>
rec l0_15 levels3_16 i4_17 (IntKind.i64.wrap (k5_18 + 1))) l0 levels3 i4 k5 r_5.2 (cat v_9 (⟨#[119, 41, 32, 102, 114, 111, 109, 32, 116]⟩ : ByteArray)) r_5.1
else
cadastrelaw20_ParseLevels_j14 k kret (fun l0_20 levels3_21 i4_22 k5_23 =>
rec l0_20 levels3_21 i4_22 (IntKind.i64.wrap (k5_23 + 1))) l0 levels3 i4 k5 r_5.2 (cat v_7 (⟨#[119, 32, 102, 114, 111, 109, 32, 116]⟩ : ByteArray)) r_5.1
else
kexit2 l0 levels3 i4
noncomputable def cadastrelaw20_ParseLevels_l6 {ρ : Type} (k : Nat) (kret : Bool → Option ρ) (kexit2 : List ByteArray → List (List ByteArray) → Int → Option ρ) : Nat → (List ByteArray) → (List (List ByteArray)) → Int → Int → Option ρ
  | 0, _, _, _, _ => none
  | n + 1, l0, levels3, i4, k5 => cadastrelaw20_ParseLevels_l6_b k kret kexit2 (cadastrelaw20_ParseLevels_l6 k kret kexit2 n) l0 levels3 i4 k5

noncomputable def cadastrelaw20_ParseLevels_l3_b {ρ : Type} (k : Nat) (kret : Bool → Option ρ) (kexit0 : Option ρ) (rec : (List ByteArray) → (List (List ByteArray)) → Int → Option ρ) (l0 : List ByteArray) (levels3 : List (List ByteArray)) (i4 : Int) : Option ρ :=
bif (decide (i4 < 6)) then
cadastrelaw20_ParseLevels_l6 k kret (fun l0_25 levels3_26 i4_27 =>
rec l0_25 levels3_26 (IntKind.i64.wrap (i4_27 + 1))) k l0 levels3 i4 0
else
kexit0
noncomputable def cadastrelaw20_ParseLevels_l3 {ρ : Type} (k : Nat) (kret : Bool → Option ρ) (kexit0 : Option ρ) : Nat → (List ByteArray) → (List (List ByteArray)) → Int → Option ρ
  | 0, _, _, _ => none
  | n + 1, l0, levels3, i4 => cadastrelaw20_ParseLevels_l3_b k kret kexit0 (cadastrelaw20_ParseLevels_l3 k kret kexit0 n) l0 levels3 i4

/-- cadastre/cadastrelaw20.ParseLevels -/
noncomputable def cadastrelaw20_ParseLevels (k : Nat) (l0 : List ByteArray) : Option Bool :=
cadastrelaw20_ParseLevels_l3 k (fun t2_28 =>
some t2_28) ((parse_Parse k (⟨#[115, 101, 108, 101, 99, 116, 32, 110, 111, 116, 32, 120, 32, 61, 32, 121, 32, 97, 110, 100, 32, 45, 32, 120, 32, 124, 124, 32, 121, 32, 105, 115, 32, 110, 117, 108, 108, 32, 102, 114, 111, 109, 32, 116]⟩ : ByteArray)).bind fun r_29 =>
(parse_Parse k (⟨#[115, 101, 108, 101, 99, 116, 32, 40, 110, 111, 116, 32, 40, 120, 32, 61, 32, 121, 41, 41, 32, 97, 110, 100, 32, 40, 40, 40, 45, 32, 120, 41, 32, 124, 124, 32, 121, 41, 32, 105, 115, 32, 110, 117, 108, 108, 41, 32, 102, 114, 111, 109, 32, 116]⟩ : ByteArray)).bind fun r_30 =>
(cadastrelaw20_num k r_29.2).bind fun r_31 =>
bif (r_31 == 0) then
(cadastrelaw20_num k r_30.2).bind fun r_32 =>
bif (r_32 == 0) then
(cadastreref0_EqStmt k r_29.1 r_30.1).bind fun r_33 =>
bif r_33 then
(cadastrelaw20_wakes k).bind fun r_34 =>
some r_34
else
some false
else
some false
else
some false) k l0 [[(⟨#[32, 111, 114, 32]⟩ : ByteArray)], [(⟨#[32, 97, 110, 100, 32]⟩ : ByteArray)], [(⟨#[32, 61, 32]⟩ : ByteArray), (⟨#[32, 60, 62, 32]⟩ : ByteArray), (⟨#[32, 60, 32]⟩ : ByteArray), (⟨#[32, 60, 61, 32]⟩ : ByteArray), (⟨#[32, 62, 32]⟩ : ByteArray), (⟨#[32, 62, 61, 32]⟩ : ByteArray)], [(⟨#[32, 43, 32]⟩ : ByteArray), (⟨#[32, 45, 32]⟩ : ByteArray)], [(⟨#[32, 42, 32]⟩ : ByteArray), (⟨#[32, 47, 32]⟩ : ByteArray), (⟨#[32, 37, 32]⟩ : ByteArray)], [(⟨#[32, 124, 124, 32]⟩ : ByteArray)]] 0

noncomputable def cadastrelaw20_ParseWords_l3_b {ρ : Type} (k : Nat) (kret : Bool → Option ρ) (kexit0 : List ByteArray → Option ρ) (rec : (List ByteArray) → (List ByteArray) → Int → Option ρ) (l0 : List ByteArray) (keys3 : List ByteArray) (i4 : Int) : Option ρ :=
bif (decide (i4 < (keys3.length : Int))) then
chk (0 ≤ i4 ∧ i4 < (keys3.length : Int)) <|
chk (strFits (⟨#[100, 114, 111, 112, 32, 116, 97, 98, 108, 101, 32]⟩ : ByteArray) (keys3.getD i4.toNat ByteArray.empty)) <|
let v_1 : ByteArray := (cat (⟨#[100, 114, 111, 112, 32, 116, 97, 98, 108, 101, 32]⟩ : ByteArray) (keys3.getD i4.toNat ByteArray.empty))
(parse_Parse k v_1).bind fun r_2 =>
chk (0 ≤ i4 ∧ i4 < (keys3.length : Int)) <|
chk (strFits (⟨#[99, 114, 101, 97, 116, 101, 32, 116, 97, 98, 108, 101, 32, 116, 32, 40, 97, 44, 32]⟩ : ByteArray) (keys3.getD i4.toNat ByteArray.empty)) <|
let v_3 : ByteArray := (cat (⟨#[99, 114, 101, 97, 116, 101, 32, 116, 97, 98, 108, 101, 32, 116, 32, 40, 97, 44, 32]⟩ : ByteArray) (keys3.getD i4.toNat ByteArray.empty))
chk (strFits v_3 (⟨#[41]⟩ : ByteArray)) <|
(parse_Parse k (cat v_3 (⟨#[41]⟩ : ByteArray))).bind fun r_4 =>
chk (0 ≤ i4 ∧ i4 < (keys3.length : Int)) <|
chk (strFits (⟨#[100, 114, 111, 112, 32, 116, 97, 98, 108, 101, 32]⟩ : ByteArray) (keys3.getD i4.toNat ByteArray.empty)) <|
let v_5 : ByteArray := (cat (⟨#[100, 114, 111, 112, 32, 116, 97, 98, 108, 101, 32]⟩ : ByteArray) (keys3.getD i4.toNat ByteArray.empty))
chk (strFits v_5 (⟨#[115]⟩ : ByteArray)) <|
(parse_Parse k (cat v_5 (⟨#[115]⟩ : ByteArray))).bind fun r_6 =>
(cadastrelaw20_num k r_2.2).bind fun r_7 =>
bif (r_7 != 1) then
kret false
else
(cadastrelaw20_num k r_4.2).bind fun r_8 =>
bif (r_8 != 1) then
kret false
else
(cadastrelaw20_num k r_6.2).bind fun r_9 =>
bif (r_9 != 0) then
kret false
else
chk (0 ≤ i4 ∧ i4 < (keys3.length : Int)) <|
chk (strFits (keys3.getD i4.toNat ByteArray.empty) (⟨#[115]⟩ : ByteArray)) <|
let v_10 : Bool := (!(r_6.1.f1.toList == (cat (keys3.getD i4.toNat ByteArray.empty) (⟨#[115]⟩ : ByteArray)).toList))
bif v_10 then
kret false
else
rec l0 keys3 (IntKind.i64.wrap (i4 + 1))
else
kexit0 l0
noncomputable def cadastrelaw20_ParseWords_l3 {ρ : Type} (k : Nat) (kret : Bool → Option ρ) (kexit0 : List ByteArray → Option ρ) : Nat → (List ByteArray) → (List ByteArray) → Int → Option ρ
  | 0, _, _, _ => none
  | n + 1, l0, keys3, i4 => cadastrelaw20_ParseWords_l3_b k kret kexit0 (cadastrelaw20_ParseWords_l3 k kret kexit0 n) l0 keys3 i4

noncomputable def cadastrelaw20_ParseWords_j13 {ρ : Type} (k : Nat) (kret : Bool → Option ρ) (knxt : List ByteArray → Int → Option ρ) (l0 : List ByteArray) (i11 : Int) : Option ρ :=
(parse_Parse k (⟨#[83, 69, 76, 69, 67, 84, 32, 65, 44, 32, 99, 111, 117, 110, 116, 32, 70, 82, 79, 77, 32, 116]⟩ : ByteArray)).bind fun r_13 =>
(parse_Parse k (⟨#[67, 82, 69, 65, 84, 69, 32, 85, 78, 73, 81, 85, 69, 32, 73, 78, 68, 69, 88, 32, 73, 32, 79, 78, 32, 84, 32, 40, 65, 41]⟩ : ByteArray)).bind fun r_14 =>
(parse_Parse k (⟨#[99, 114, 101, 97, 116, 101, 32, 117, 110, 105, 113, 117, 101, 32, 105, 110, 100, 101, 120, 32, 105, 32, 111, 110, 32, 116, 32, 40, 97, 41]⟩ : ByteArray)).bind fun r_15 =>
(cadastrelaw20_num k r_13.2).bind fun r_16 =>
bif (r_16 != 1) then
kret false
else
bif (decide ((r_13.1.f10.length : Int) > 0)) then
kret false
else
(cadastrelaw20_num k r_14.2).bind fun r_17 =>
bif (r_17 != 0) then
kret false
else
(cadastrelaw20_num k r_15.2).bind fun r_18 =>
bif (r_18 != 0) then
kret false
else
(cadastreref0_EqStmt k r_14.1 r_15.1).bind fun r_19 =>
bif (!r_19) then
kret false
else
knxt l0 (IntKind.i64.wrap (i11 + 1))

noncomputable def cadastrelaw20_ParseWords_l11_b {ρ : Type} (k : Nat) (kret : Bool → Option ρ) (kexit2 : Option ρ) (rec : (List ByteArray) → Int → Option ρ) (l0 : List ByteArray) (i11 : Int) : Option ρ :=
bif (decide (i11 < (l0.length : Int))) then
bif (decide (i11 < 3)) then
cadastrelaw20_ParseWords_j13 k kret rec l0 i11
else
kexit2
else
kexit2
noncomputable def cadastrelaw20_ParseWords_l11 {ρ : Type} (k : Nat) (kret : Bool → Option ρ) (kexit2 : Option ρ) : Nat → (List ByteArray) → Int → Option ρ
  | 0, _, _ => none
  | n + 1, l0, i11 => cadastrelaw20_ParseWords_l11_b k kret kexit2 (cadastrelaw20_ParseWords_l11 k kret kexit2 n) l0 i11

/-- cadastre/cadastrelaw20.ParseWords -/
noncomputable def cadastrelaw20_ParseWords (k : Nat) (l0 : List ByteArray) : Option Bool :=
cadastrelaw20_ParseWords_l3 k (fun t2_11 =>
some t2_11) (fun l0_12 =>
cadastrelaw20_ParseWords_l11 k (fun t2_23 =>
some t2_23) ((cadastrelaw20_wakes k).bind fun r_24 =>
some r_24) k l0_12 0) k l0 [(⟨#[97, 110, 121]⟩ : ByteArray), (⟨#[97, 110, 100]⟩ : ByteArray), (⟨#[98, 101, 103, 105, 110]⟩ : ByteArray), (⟨#[98, 108, 111, 98]⟩ : ByteArray), (⟨#[98, 121]⟩ : ByteArray), (⟨#[99, 111, 109, 109, 105, 116]⟩ : ByteArray), (⟨#[99, 111, 117, 110, 116]⟩ : ByteArray), (⟨#[99, 114, 101, 97, 116, 101]⟩ : ByteArray), (⟨#[100, 101, 108, 101, 116, 101]⟩ : ByteArray), (⟨#[100, 101, 115, 99]⟩ : ByteArray), (⟨#[100, 114, 111, 112]⟩ : ByteArray), (⟨#[102, 114, 111, 109]⟩ : ByteArray), (⟨#[105, 110, 100, 101, 120]⟩ : ByteArray), (⟨#[105, 110, 115, 101, 114, 116]⟩ : ByteArray), (⟨#[105, 110, 116, 101, 103, 101, 114]⟩ : ByteArray), (⟨#[105, 110, 116, 111]⟩ : ByteArray), (⟨#[105, 115]⟩ : ByteArray), (⟨#[108, 101, 110, 103, 116, 104]⟩ : ByteArray), (⟨#[109, 97, 120]⟩ : ByteArray), (⟨#[109, 105, 110]⟩ : ByteArray), (⟨#[110, 111, 116]⟩ : ByteArray), (⟨#[110, 117, 108, 108]⟩ : ByteArray), (⟨#[111, 110]⟩ : ByteArray), (⟨#[111, 114]⟩ : ByteArray), (⟨#[111, 114, 100, 101, 114]⟩ : ByteArray), (⟨#[114, 111, 108, 108, 98, 97, 99, 107]⟩ : ByteArray), (⟨#[114, 116, 114, 101, 101]⟩ : ByteArray), (⟨#[115, 101, 108, 101, 99, 116]⟩ : ByteArray), (⟨#[115, 101, 116]⟩ : ByteArray), (⟨#[115, 117, 109]⟩ : ByteArray), (⟨#[116, 97, 98, 108, 101]⟩ : ByteArray), (⟨#[116, 101, 120, 116]⟩ : ByteArray), (⟨#[116, 121, 112, 101, 111, 102]⟩ : ByteArray), (⟨#[117, 110, 105, 113, 117, 101]⟩ : ByteArray), (⟨#[117, 112, 100, 97, 116, 101]⟩ : ByteArray), (⟨#[117, 115, 105, 110, 103]⟩ : ByteArray), (⟨#[118, 97, 108, 117, 101, 115]⟩ : ByteArray), (⟨#[118, 105, 114, 116, 117, 97, 108]⟩ : ByteArray), (⟨#[119, 104, 101, 114, 101]⟩ : ByteArray)] 0
end Go.Proofs.Ytepekanlplbciaa.Q
