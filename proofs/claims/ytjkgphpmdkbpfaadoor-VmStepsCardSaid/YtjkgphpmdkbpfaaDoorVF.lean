/-
  The program's functions as plain functions over plain data, as a program has printed them.
-/
import Derived.Test.YtjkgphpmdkbpfaaDoorAxDef
import Derived.Lib.ItoaNum
namespace Go.Proofs.YtjkgphpmdkbpfaaDoor.V
open Go Go.AX
/-- cadastre/api.Value -/
structure S29 where
  f0 : Int
  f1 : Int
  f2 : ByteArray
instance : Inhabited S29 := ⟨⟨0, 0, ByteArray.empty⟩⟩
/-- cadastre/api.Code -/
structure S43 where
  f0 : Int
  f1 : Int
  f2 : Int
  f3 : Int
  f4 : S29
  f5 : Int
instance : Inhabited S43 := ⟨⟨0, 0, 0, 0, default, 0⟩⟩
/-- cadastre/cadastrelaw24.Ask -/
structure S25 where
  f0 : List S43
  f1 : List S29
  f2 : Int
  f3 : Int
instance : Inhabited S25 := ⟨⟨[], [], 0, 0⟩⟩
/-- cadastre/vm.machine -/
structure S55 where
  f0 : List S29
  f1 : List S29
instance : Inhabited S55 := ⟨⟨[], []⟩⟩
noncomputable def cadastrelaw0_Light_l5_b {ρ : Type} (k : Nat) (kexit0 : Int → Int → Option ρ) (rec : (List S29) → Int → Int → Int → Option ρ) (l0 : List S29) (most1 : Int) (n5 : Int) (i6 : Int) : Option ρ :=
bif (decide (i6 < (l0.length : Int))) then
chk (0 ≤ i6 ∧ i6 < (l0.length : Int)) <|
rec l0 most1 (IntKind.i64.wrap (n5 + ((l0.getD i6.toNat default).f2.size : Int))) (IntKind.i64.wrap (i6 + 1))
else
kexit0 most1 n5
noncomputable def cadastrelaw0_Light_l5 {ρ : Type} (k : Nat) (kexit0 : Int → Int → Option ρ) : Nat → (List S29) → Int → Int → Int → Option ρ
  | 0, _, _, _, _ => none
  | n + 1, l0, most1, n5, i6 => cadastrelaw0_Light_l5_b k kexit0 (cadastrelaw0_Light_l5 k kexit0 n) l0 most1 n5 i6

/-- cadastre/cadastrelaw0.Light -/
noncomputable def cadastrelaw0_Light (k : Nat) (l0 : List S29) (most1 : Int) : Option Bool :=
bif (decide ((l0.length : Int) > 200)) then
some false
else
cadastrelaw0_Light_l5 k (fun most1_1 n5_2 =>
some (decide (n5_2 ≤ most1_1))) k l0 most1 0 0

/-- cadastre/cadastrelaw24.heavy -/
noncomputable def cadastrelaw24_heavy (k : Nat) (p0 : S25) : Option Bool :=
bif (big (decide ((p0.f0.length : Int) > 900))) then
some true
else
(cadastrelaw0_Light k p0.f1 20000).bind fun r_1 =>
bif (!r_1) then
some true
else
some (big (decide (p0.f2 > 3000)))

/-- cadastre/cadastreref23.reg -/
noncomputable def cadastreref23_reg (k : Nat) (n0 : Int) : Option Bool :=
bif (decide (n0 ≥ 0)) then
some (big (decide (n0 < 256)))
else
some false

noncomputable def cadastreref2_May_j8 {ρ : Type} (k : Nat) (kret : Bool → Option ρ) (v1 : S29) : Option ρ :=
bif (v1.f1 == 0) then
kret (big (decide ((v1.f2.size : Int) ≤ 4096)))
else
kret false

/-- cadastre/cadastreref2.May -/
noncomputable def cadastreref2_May (k : Nat) (v0 : S29) : Option Bool :=
bif (v0.f0 == 0) then
some ((v0.f0 == 0) && ((v0.f1 == 0) && (v0.f2 == ByteArray.empty)))
else
bif (v0.f0 == 1) then
some (v0.f2.toList == ByteArray.empty.toList)
else
bif (v0.f0 == 2) then
cadastreref2_May_j8 k (fun t2_1 =>
some t2_1) v0
else
bif (v0.f0 == 3) then
cadastreref2_May_j8 k (fun t2_2 =>
some t2_2) v0
else
some false

/-- cadastre/cadastreref23.one -/
noncomputable def cadastreref23_one (k : Nat) (op0 : Int) : Option Bool :=
bif (decide (op0 ≥ 3)) then
some (decide (op0 ≤ 8))
else
some false

/-- cadastre/cadastreref23.two -/
noncomputable def cadastreref23_two (k : Nat) (op0 : Int) : Option Bool :=
bif (decide (op0 ≥ 9)) then
some (decide (op0 ≤ 22))
else
some false

noncomputable def cadastreref23_instruction_j28 {ρ : Type} (k : Nat) (knxt : Bool → S43 → S43 → Option ρ) (n1 : Int) (c3 : S43) (x7 : S43) : Option ρ :=
(cadastreref23_reg k c3.f2).bind fun r_16 =>
bif r_16 then
bif (decide (c3.f5 ≥ 0)) then
knxt (decide (c3.f5 < n1)) c3 (⟨x7.f0, x7.f1, c3.f2, x7.f3, x7.f4, c3.f5⟩ : S43)
else
knxt false c3 (⟨x7.f0, x7.f1, c3.f2, x7.f3, x7.f4, c3.f5⟩ : S43)
else
knxt false c3 (⟨x7.f0, x7.f1, c3.f2, x7.f3, x7.f4, c3.f5⟩ : S43)

noncomputable def cadastreref23_instruction_j31 {ρ : Type} (k : Nat) (knxt : Bool → S43 → S43 → Option ρ) (ok8 : Bool) (t13 : Int) (c3 : S43) (x7 : S43) : Option ρ :=
bif (t13 == 8) then
(cadastreref23_reg k c3.f1).bind fun r_25 =>
knxt r_25 c3 (⟨x7.f0, c3.f1, x7.f2, x7.f3, x7.f4, x7.f5⟩ : S43)
else
knxt ok8 c3 x7

/-- cadastre/cadastreref23.instruction -/
noncomputable def cadastreref23_instruction (k : Nat) (c0 : S43) (n1 : Int) (places2 : Int) : Option Bool :=
bif (c0.f0 == 1) then
(cadastreref23_reg k c0.f1).bind fun r_1 =>
bif r_1 then
(cadastreref2_May k c0.f4).bind fun r_2 =>
bif r_2 then
let v_3 : Bool := ((c0.f0 == c0.f0) && ((c0.f1 == c0.f1) && ((0 == c0.f2) && ((0 == c0.f3) && ((c0.f4.f0 == c0.f4.f0) && ((c0.f4.f1 == c0.f4.f1) && ((c0.f4.f2 == c0.f4.f2) && (0 == c0.f5))))))))
some v_3
else
some false
else
some false
else
bif (c0.f0 == 2) then
(cadastreref23_reg k c0.f1).bind fun r_4 =>
bif r_4 then
bif (decide (c0.f2 ≥ 0)) then
bif (decide (c0.f2 < places2)) then
let v_5 : Bool := ((c0.f0 == c0.f0) && ((c0.f1 == c0.f1) && ((c0.f2 == c0.f2) && ((0 == c0.f3) && ((0 == c0.f4.f0) && ((0 == c0.f4.f1) && ((ByteArray.empty == c0.f4.f2) && (0 == c0.f5))))))))
some v_5
else
some false
else
some false
else
some false
else
bif (c0.f0 == 3) then
(cadastreref23_reg k c0.f1).bind fun r_6 =>
bif r_6 then
(cadastreref23_reg k c0.f2).bind fun r_7 =>
bif r_7 then
(cadastreref23_one k c0.f3).bind fun r_8 =>
bif r_8 then
let v_9 : Bool := ((c0.f0 == c0.f0) && ((c0.f1 == c0.f1) && ((c0.f2 == c0.f2) && ((c0.f3 == c0.f3) && ((0 == c0.f4.f0) && ((0 == c0.f4.f1) && ((ByteArray.empty == c0.f4.f2) && (0 == c0.f5))))))))
some v_9
else
some false
else
some false
else
some false
else
bif (c0.f0 == 4) then
(cadastreref23_reg k c0.f1).bind fun r_10 =>
bif r_10 then
(cadastreref23_reg k c0.f2).bind fun r_11 =>
bif r_11 then
(cadastreref23_reg k c0.f3).bind fun r_12 =>
bif r_12 then
(cadastreref23_two k c0.f5).bind fun r_13 =>
bif r_13 then
let v_14 : Bool := ((c0.f0 == c0.f0) && ((c0.f1 == c0.f1) && ((c0.f2 == c0.f2) && ((c0.f3 == c0.f3) && ((0 == c0.f4.f0) && ((0 == c0.f4.f1) && ((ByteArray.empty == c0.f4.f2) && (c0.f5 == c0.f5))))))))
some v_14
else
some false
else
some false
else
some false
else
some false
else
bif (c0.f0 == 5) then
bif (decide (c0.f5 ≥ 0)) then
bif (decide (c0.f5 < n1)) then
let v_15 : Bool := ((c0.f0 == c0.f0) && ((0 == c0.f1) && ((0 == c0.f2) && ((0 == c0.f3) && ((0 == c0.f4.f0) && ((0 == c0.f4.f1) && ((ByteArray.empty == c0.f4.f2) && (c0.f5 == c0.f5))))))))
some v_15
else
some false
else
some false
else
bif (c0.f0 == 6) then
cadastreref23_instruction_j28 k (fun ok8_17 c3_18 x7_19 =>
bif ok8_17 then
let v_20 : Bool := ((x7_19.f0 == c3_18.f0) && ((x7_19.f1 == c3_18.f1) && ((x7_19.f2 == c3_18.f2) && ((x7_19.f3 == c3_18.f3) && ((x7_19.f4.f0 == c3_18.f4.f0) && ((x7_19.f4.f1 == c3_18.f4.f1) && ((x7_19.f4.f2 == c3_18.f4.f2) && (x7_19.f5 == c3_18.f5))))))))
some v_20
else
some false) n1 c0 (⟨c0.f0, 0, 0, 0, (⟨0, 0, ByteArray.empty⟩ : S29), 0⟩ : S43)
else
bif (c0.f0 == 7) then
cadastreref23_instruction_j28 k (fun ok8_21 c3_22 x7_23 =>
bif ok8_21 then
let v_24 : Bool := ((x7_23.f0 == c3_22.f0) && ((x7_23.f1 == c3_22.f1) && ((x7_23.f2 == c3_22.f2) && ((x7_23.f3 == c3_22.f3) && ((x7_23.f4.f0 == c3_22.f4.f0) && ((x7_23.f4.f1 == c3_22.f4.f1) && ((x7_23.f4.f2 == c3_22.f4.f2) && (x7_23.f5 == c3_22.f5))))))))
some v_24
else
some false) n1 c0 (⟨c0.f0, 0, 0, 0, (⟨0, 0, ByteArray.empty⟩ : S29), 0⟩ : S43)
else
cadastreref23_instruction_j31 k (fun ok8_26 c3_27 x7_28 =>
bif ok8_26 then
let v_29 : Bool := ((x7_28.f0 == c3_27.f0) && ((x7_28.f1 == c3_27.f1) && ((x7_28.f2 == c3_27.f2) && ((x7_28.f3 == c3_27.f3) && ((x7_28.f4.f0 == c3_27.f4.f0) && ((x7_28.f4.f1 == c3_27.f4.f1) && ((x7_28.f4.f2 == c3_27.f4.f2) && (x7_28.f5 == c3_27.f5))))))))
some v_29
else
some false) false c0.f0 c0 (⟨c0.f0, 0, 0, 0, (⟨0, 0, ByteArray.empty⟩ : S29), 0⟩ : S43)

noncomputable def cadastreref23_Code_l4_b {ρ : Type} (k : Nat) (kret : Bool → Option ρ) (kexit0 : Option ρ) (rec : (List S43) → Int → Int → Option ρ) (l0 : List S43) (places1 : Int) (i5 : Int) : Option ρ :=
bif (decide (i5 < (l0.length : Int))) then
chk (0 ≤ i5 ∧ i5 < (l0.length : Int)) <|
(cadastreref23_instruction k (l0.getD i5.toNat default) (l0.length : Int) places1).bind fun r_1 =>
bif (!r_1) then
kret false
else
rec l0 places1 (IntKind.i64.wrap (i5 + 1))
else
kexit0
noncomputable def cadastreref23_Code_l4 {ρ : Type} (k : Nat) (kret : Bool → Option ρ) (kexit0 : Option ρ) : Nat → (List S43) → Int → Int → Option ρ
  | 0, _, _, _ => none
  | n + 1, l0, places1, i5 => cadastreref23_Code_l4_b k kret kexit0 (cadastreref23_Code_l4 k kret kexit0 n) l0 places1 i5

/-- cadastre/cadastreref23.Code -/
noncomputable def cadastreref23_Code (k : Nat) (l0 : List S43) (places1 : Int) : Option Bool :=
bif (big (decide ((l0.length : Int) > 800))) then
some false
else
cadastreref23_Code_l4 k (fun t4_2 =>
some t4_2) (some true) k l0 places1 0

noncomputable def cadastreref2_All_l2_b {ρ : Type} (k : Nat) (kret : Bool → Option ρ) (kexit0 : Option ρ) (rec : (List S29) → Int → Option ρ) (l0 : List S29) (i3 : Int) : Option ρ :=
bif (decide (i3 < (l0.length : Int))) then
chk (0 ≤ i3 ∧ i3 < (l0.length : Int)) <|
(cadastreref2_May k (l0.getD i3.toNat default)).bind fun r_1 =>
bif (!r_1) then
kret false
else
rec l0 (IntKind.i64.wrap (i3 + 1))
else
kexit0
noncomputable def cadastreref2_All_l2 {ρ : Type} (k : Nat) (kret : Bool → Option ρ) (kexit0 : Option ρ) : Nat → (List S29) → Int → Option ρ
  | 0, _, _ => none
  | n + 1, l0, i3 => cadastreref2_All_l2_b k kret kexit0 (cadastreref2_All_l2 k kret kexit0 n) l0 i3

/-- cadastre/cadastreref2.All -/
noncomputable def cadastreref2_All (k : Nat) (l0 : List S29) : Option Bool :=
cadastreref2_All_l2 k (fun t2_2 =>
some t2_2) (some true) k l0 0

/-- cadastre/cadastreref2.Int -/
noncomputable def cadastreref2_Int (k : Nat) (n0 : Int) : Option S29 :=
some (⟨1, n0, ByteArray.empty⟩ : S29)

noncomputable def cadastreref4_mul_j5 {ρ : Type} (k : Nat) (kret : Int → Bool → Option ρ) (a0 : Int) (b1 : Int) : Option ρ :=
if b1 = 0 then none else
kret (IntKind.i64.wrap (a0 * b1)) ((IntKind.i64.wrap (Int.tdiv (IntKind.i64.wrap (a0 * b1)) b1)) == a0)

noncomputable def cadastreref4_mul_j3 {ρ : Type} (k : Nat) (kret : Int → Bool → Option ρ) (a0 : Int) (b1 : Int) : Option ρ :=
bif (a0 == (-1)) then
bif (big (b1 == (-9223372036854775808))) then
kret 0 false
else
bif (b1 == (-1)) then
bif (big (a0 == (-9223372036854775808))) then
kret 0 false
else
cadastreref4_mul_j5 k kret a0 b1
else
cadastreref4_mul_j5 k kret a0 b1
else
bif (b1 == (-1)) then
bif (big (a0 == (-9223372036854775808))) then
kret 0 false
else
cadastreref4_mul_j5 k kret a0 b1
else
cadastreref4_mul_j5 k kret a0 b1

/-- cadastre/cadastreref4.mul -/
noncomputable def cadastreref4_mul (k : Nat) (a0 : Int) (b1 : Int) : Option (Int × Bool) :=
bif (a0 == 0) then
some (0, true)
else
bif (b1 == 0) then
some (0, true)
else
cadastreref4_mul_j3 k (fun t4_9 t5_10 =>
some (t4_9, t5_10)) a0 b1

noncomputable def cadastreref4_Do_j28 {ρ : Type} (k : Nat) (kret : Int → S29 → Option ρ) (n10 : Int) (ok11 : Bool) (t6 : S29) : Option ρ :=
bif (!ok11) then
kret 5 (⟨0, 0, ByteArray.empty⟩ : S29)
else
(cadastreref2_Int k n10).bind fun r_2 =>
kret 0 r_2

noncomputable def cadastreref4_Do_j5 {ρ : Type} (k : Nat) (kret : Int → S29 → Option ρ) (op0 : Int) (a4 : S29) (b5 : S29) (t6 : S29) : Option ρ :=
bif (op0 == 9) then
(cadastreref4_mul k a4.f1 b5.f1).bind fun r_1 =>
cadastreref4_Do_j28 k kret r_1.1 r_1.2 t6
else
bif (op0 == 12) then
let v_5 : Bool := ((decide (b5.f1 ≥ 0)) == (decide ((IntKind.i64.wrap (a4.f1 + b5.f1)) ≥ a4.f1)))
cadastreref4_Do_j28 k kret (IntKind.i64.wrap (a4.f1 + b5.f1)) v_5 t6
else
bif (op0 == 13) then
let v_8 : Bool := ((decide (b5.f1 ≥ 0)) == (decide ((IntKind.i64.wrap (a4.f1 - b5.f1)) ≤ a4.f1)))
cadastreref4_Do_j28 k kret (IntKind.i64.wrap (a4.f1 - b5.f1)) v_8 t6
else
bif (b5.f1 == 0) then
kret 0 (⟨0, 0, ByteArray.empty⟩ : S29)
else
bif (b5.f1 == (-1)) then
bif (op0 == 11) then
(cadastreref2_Int k 0).bind fun r_11 =>
kret 0 r_11
else
cadastreref4_Do_j28 k kret (IntKind.i64.wrap (0 - a4.f1)) (big (a4.f1 != (-9223372036854775808))) t6
else
bif (op0 == 10) then
if b5.f1 = 0 then none else
cadastreref4_Do_j28 k kret (IntKind.i64.wrap (Int.tdiv a4.f1 b5.f1)) true t6
else
if b5.f1 = 0 then none else
cadastreref4_Do_j28 k kret (Int.tmod a4.f1 b5.f1) true t6

noncomputable def cadastreref4_Do_j3 {ρ : Type} (k : Nat) (kret : Int → S29 → Option ρ) (op0 : Int) (a4 : S29) (b5 : S29) (t6 : S29) : Option ρ :=
bif (a4.f0 != 1) then
kret 4 (⟨0, 0, ByteArray.empty⟩ : S29)
else
bif (b5.f0 != 1) then
kret 4 (⟨0, 0, ByteArray.empty⟩ : S29)
else
cadastreref4_Do_j5 k kret op0 a4 b5 t6

/-- cadastre/cadastreref4.Do -/
noncomputable def cadastreref4_Do (k : Nat) (op0 : Int) (a1 : S29) (b2 : S29) : Option (S29 × Int) :=
bif (a1.f0 == 0) then
some ((⟨0, 0, ByteArray.empty⟩ : S29), 0)
else
bif (b2.f0 == 0) then
some ((⟨0, 0, ByteArray.empty⟩ : S29), 0)
else
cadastreref4_Do_j3 k (fun t7_20 t6_21 =>
some (t6_21, t7_20)) op0 a1 b2 (⟨0, 0, ByteArray.empty⟩ : S29)

/-- cadastre/cadastreref4.Neg -/
noncomputable def cadastreref4_Neg (k : Nat) (v0 : S29) : Option (S29 × Int) :=
(cadastreref2_Int k 0).bind fun r_1 =>
(cadastreref4_Do k 13 r_1 v0).bind fun r_2 =>
some (r_2.1, r_2.2)

/-- cadastre/cadastreref2.Truth -/
noncomputable def cadastreref2_Truth (k : Nat) (v0 : S29) : Option Int :=
bif (v0.f0 == 0) then
some 2
else
bif (v0.f0 == 1) then
bif (v0.f1 == 0) then
some 0
else
some 1
else
some (-1)

/-- cadastre/cadastreref2.told -/
noncomputable def cadastreref2_told (k : Nat) (t0 : Int) : Option S29 :=
bif (t0 == 2) then
some (⟨0, 0, ByteArray.empty⟩ : S29)
else
(cadastreref2_Int k t0).bind fun r_1 =>
some r_1

/-- cadastre/cadastreref2.Not -/
noncomputable def cadastreref2_Not (k : Nat) (v0 : S29) : Option (S29 × Int) :=
(cadastreref2_Truth k v0).bind fun r_1 =>
bif (r_1 == (-1)) then
some ((⟨0, 0, ByteArray.empty⟩ : S29), 4)
else
bif (r_1 == 2) then
some ((⟨0, 0, ByteArray.empty⟩ : S29), 0)
else
(cadastreref2_Truth k v0).bind fun r_2 =>
(cadastreref2_told k (IntKind.i64.wrap (1 - r_2))).bind fun r_3 =>
some (r_3, 0)

/-- what the functions that call each other answer -/
structure cadastreref4_Digits_R where
  cadastreref4_Digits : Int → Option ByteArray
/-- cadastre/cadastreref4.Digits -/
noncomputable def cadastreref4_Digits_r (k : Nat) (rc : cadastreref4_Digits_R) (n0 : Int) : Option ByteArray :=
bif (big (n0 == (-9223372036854775808))) then
let v_1 : ByteArray := (⟨#[45, 57, 50, 50, 51, 51, 55, 50, 48, 51, 54, 56, 53, 52, 55, 55, 53, 56, 48, 56]⟩ : ByteArray)
some v_1
else
bif (decide (n0 < 0)) then
(rc.cadastreref4_Digits (IntKind.i64.wrap (0 - n0))).bind fun r_2 =>
chk (strFits (⟨#[45]⟩ : ByteArray) r_2) <|
some (cat (⟨#[45]⟩ : ByteArray) r_2)
else
bif (decide (n0 < 10)) then
some (strOfNums [(IntKind.u8.wrap (IntKind.i64.wrap (48 + n0)))])
else
(rc.cadastreref4_Digits (IntKind.i64.wrap (Int.tdiv n0 10))).bind fun r_3 =>
(rc.cadastreref4_Digits (Int.tmod n0 10)).bind fun r_4 =>
chk (strFits r_3 r_4) <|
some (cat r_3 r_4)
noncomputable def cadastreref4_Digits_R_it (k : Nat) : Nat → cadastreref4_Digits_R
  | 0 => ⟨fun _ => none⟩
  | d + 1 => ⟨cadastreref4_Digits_r k (cadastreref4_Digits_R_it k d)⟩
/-- cadastre/cadastreref4.Digits -/
noncomputable def cadastreref4_Digits (k : Nat) (n0 : Int) : Option ByteArray := (cadastreref4_Digits_R_it k k).cadastreref4_Digits n0

/-- cadastre/cadastreref4.text -/
noncomputable def cadastreref4_text (k : Nat) (s0 : ByteArray) : Option S29 :=
some (⟨2, 0, s0⟩ : S29)

/-- cadastre/cadastreref4.Text -/
noncomputable def cadastreref4_Text (k : Nat) (v0 : S29) : Option S29 :=
bif (v0.f0 == 1) then
(cadastreref4_Digits k v0.f1).bind fun r_1 =>
(cadastreref4_text k r_1).bind fun r_2 =>
some r_2
else
some v0

/-- cadastre/cadastreref4.Length -/
noncomputable def cadastreref4_Length (k : Nat) (v0 : S29) : Option S29 :=
bif (v0.f0 == 0) then
some v0
else
(cadastreref4_Text k v0).bind fun r_1 =>
(cadastreref2_Int k (r_1.f2.size : Int)).bind fun r_2 =>
some r_2

/-- cadastre/cadastreref4.Typeof -/
noncomputable def cadastreref4_Typeof (k : Nat) (v0 : S29) : Option S29 :=
bif (v0.f0 == 0) then
(cadastreref4_text k (⟨#[110, 117, 108, 108]⟩ : ByteArray)).bind fun r_1 =>
some r_1
else
bif (v0.f0 == 1) then
(cadastreref4_text k (⟨#[105, 110, 116, 101, 103, 101, 114]⟩ : ByteArray)).bind fun r_2 =>
some r_2
else
bif (v0.f0 == 2) then
(cadastreref4_text k (⟨#[116, 101, 120, 116]⟩ : ByteArray)).bind fun r_3 =>
some r_3
else
(cadastreref4_text k (⟨#[98, 108, 111, 98]⟩ : ByteArray)).bind fun r_4 =>
some r_4

/-- cadastre/cadastreref2.Bool -/
noncomputable def cadastreref2_Bool (k : Nat) (b0 : Bool) : Option S29 :=
bif b0 then
(cadastreref2_Int k 1).bind fun r_1 =>
some r_1
else
(cadastreref2_Int k 0).bind fun r_2 =>
some r_2

/-- cadastre/cadastreref2.Null -/
noncomputable def cadastreref2_Null (k : Nat) (op0 : Int) (v1 : S29) : Option S29 :=
(cadastreref2_Bool k ((v1.f0 == 0) == (op0 == 5))).bind fun r_1 =>
some r_1

/-- cadastre/cadastreref23.One -/
noncomputable def cadastreref23_One (k : Nat) (op0 : Int) (v1 : S29) : Option (S29 × Int) :=
bif (op0 == 3) then
(cadastreref4_Neg k v1).bind fun r_1 =>
some (r_1.1, r_1.2)
else
bif (op0 == 4) then
(cadastreref2_Not k v1).bind fun r_2 =>
some (r_2.1, r_2.2)
else
bif (op0 == 7) then
(cadastreref4_Length k v1).bind fun r_3 =>
some (r_3, 0)
else
bif (op0 == 8) then
(cadastreref4_Typeof k v1).bind fun r_4 =>
some (r_4, 0)
else
(cadastreref2_Null k op0 v1).bind fun r_5 =>
some (r_5, 0)

noncomputable def cadastreref4_Concat_j5 {ρ : Type} (k : Nat) (kret : Int → S29 → Option ρ) (a2 : S29) (b3 : S29) (t4 : S29) : Option ρ :=
(cadastreref4_Text k a2).bind fun r_1 =>
(cadastreref4_Text k b3).bind fun r_2 =>
chk (strFits r_1.f2 r_2.f2) <|
bif (big (decide (((cat r_1.f2 r_2.f2).size : Int) > 4096))) then
kret 7 (⟨0, 0, ByteArray.empty⟩ : S29)
else
(cadastreref4_text k (cat r_1.f2 r_2.f2)).bind fun r_3 =>
kret 0 r_3

noncomputable def cadastreref4_Concat_j3 {ρ : Type} (k : Nat) (kret : Int → S29 → Option ρ) (a2 : S29) (b3 : S29) (t4 : S29) : Option ρ :=
bif (a2.f0 == 3) then
kret 4 (⟨0, 0, ByteArray.empty⟩ : S29)
else
bif (b3.f0 == 3) then
kret 4 (⟨0, 0, ByteArray.empty⟩ : S29)
else
cadastreref4_Concat_j5 k kret a2 b3 t4

/-- cadastre/cadastreref4.Concat -/
noncomputable def cadastreref4_Concat (k : Nat) (a0 : S29) (b1 : S29) : Option (S29 × Int) :=
bif (a0.f0 == 0) then
some ((⟨0, 0, ByteArray.empty⟩ : S29), 0)
else
bif (b1.f0 == 0) then
some ((⟨0, 0, ByteArray.empty⟩ : S29), 0)
else
cadastreref4_Concat_j3 k (fun t5_6 t4_7 =>
some (t4_7, t5_6)) a0 b1 (⟨0, 0, ByteArray.empty⟩ : S29)

/-- cadastre/cadastreref0.Cmp -/
noncomputable def cadastreref0_Cmp (k : Nat) (a0 : ByteArray) (b1 : ByteArray) : Option Int :=
bif (Go.Op.bytesLess a0.toList b1.toList) then
some (-1)
else
bif (!((Go.Op.bytesLess a0.toList b1.toList) || (a0.toList == b1.toList))) then
some 1
else
some 0

noncomputable def cadastreref2_Cmp_j3 {ρ : Type} (k : Nat) (kret : Int → Option ρ) (knxt : S29 → S29 → Option ρ) (a2 : S29) (b3 : S29) : Option ρ :=
bif (decide (a2.f0 > b3.f0)) then
kret 1
else
bif (decide (a2.f1 > b3.f1)) then
kret 1
else
knxt a2 b3

/-- cadastre/cadastreref2.Cmp -/
noncomputable def cadastreref2_Cmp (k : Nat) (a0 : S29) (b1 : S29) : Option Int :=
bif (decide (a0.f0 < b1.f0)) then
some (-1)
else
bif (a0.f0 == b1.f0) then
bif (decide (a0.f1 < b1.f1)) then
some (-1)
else
cadastreref2_Cmp_j3 k (fun t4_1 =>
some t4_1) (fun a2_2 b3_3 =>
(cadastreref0_Cmp k a2_2.f2 b3_3.f2).bind fun r_4 =>
some r_4) a0 b1
else
cadastreref2_Cmp_j3 k (fun t4_5 =>
some t4_5) (fun a2_6 b3_7 =>
(cadastreref0_Cmp k a2_6.f2 b3_7.f2).bind fun r_8 =>
some r_8) a0 b1

noncomputable def cadastreref2_Test_j3 {ρ : Type} (k : Nat) (kret : S29 → Option ρ) (op0 : Int) (a4 : S29) (b5 : S29) (t6 : S29) : Option ρ :=
(cadastreref2_Cmp k a4 b5).bind fun r_1 =>
bif (op0 == 15) then
(cadastreref2_Bool k (r_1 == 0)).bind fun r_2 =>
kret r_2
else
bif (op0 == 16) then
(cadastreref2_Bool k (r_1 != 0)).bind fun r_3 =>
kret r_3
else
bif (op0 == 17) then
(cadastreref2_Bool k (decide (r_1 < 0))).bind fun r_4 =>
kret r_4
else
bif (op0 == 18) then
(cadastreref2_Bool k (decide (r_1 ≤ 0))).bind fun r_5 =>
kret r_5
else
bif (op0 == 19) then
(cadastreref2_Bool k (decide (r_1 > 0))).bind fun r_6 =>
kret r_6
else
(cadastreref2_Bool k (decide (r_1 ≥ 0))).bind fun r_7 =>
kret r_7

/-- cadastre/cadastreref2.Test -/
noncomputable def cadastreref2_Test (k : Nat) (op0 : Int) (a1 : S29) (b2 : S29) : Option S29 :=
bif (a1.f0 == 0) then
some (⟨0, 0, ByteArray.empty⟩ : S29)
else
bif (b2.f0 == 0) then
some (⟨0, 0, ByteArray.empty⟩ : S29)
else
cadastreref2_Test_j3 k (fun t6_8 =>
some t6_8) op0 a1 b2 (⟨0, 0, ByteArray.empty⟩ : S29)

noncomputable def cadastreref2_Join_j10 {ρ : Type} (k : Nat) (kret : Int → S29 → Option ρ) (knxt : Int → S29 → Option ρ) (x8 : Int) (y9 : Int) (strong10 : Int) (t6 : S29) : Option ρ :=
bif (x8 == 2) then
kret 0 (⟨0, 0, ByteArray.empty⟩ : S29)
else
bif (y9 == 2) then
kret 0 (⟨0, 0, ByteArray.empty⟩ : S29)
else
knxt strong10 t6

noncomputable def cadastreref2_Join_j8 {ρ : Type} (k : Nat) (kret : Int → S29 → Option ρ) (x8 : Int) (y9 : Int) (strong10 : Int) (t6 : S29) : Option ρ :=
bif (x8 == strong10) then
(cadastreref2_told k strong10).bind fun r_3 =>
kret 0 r_3
else
bif (y9 == strong10) then
(cadastreref2_told k strong10).bind fun r_4 =>
kret 0 r_4
else
cadastreref2_Join_j10 k kret (fun strong10_7 t6_8 =>
(cadastreref2_told k (IntKind.i64.wrap (1 - strong10_7))).bind fun r_9 =>
kret 0 r_9) x8 y9 strong10 t6

noncomputable def cadastreref2_Join_j5 {ρ : Type} (k : Nat) (kret : Int → S29 → Option ρ) (op0 : Int) (x8 : Int) (y9 : Int) (t6 : S29) : Option ρ :=
bif (op0 == 22) then
cadastreref2_Join_j8 k kret x8 y9 1 t6
else
cadastreref2_Join_j8 k kret x8 y9 0 t6

/-- cadastre/cadastreref2.Join -/
noncomputable def cadastreref2_Join (k : Nat) (op0 : Int) (a1 : S29) (b2 : S29) : Option (S29 × Int) :=
(cadastreref2_Truth k a1).bind fun r_1 =>
(cadastreref2_Truth k b2).bind fun r_2 =>
bif (decide (r_1 < 0)) then
some ((⟨0, 0, ByteArray.empty⟩ : S29), 4)
else
bif (decide (r_2 < 0)) then
some ((⟨0, 0, ByteArray.empty⟩ : S29), 4)
else
cadastreref2_Join_j5 k (fun t7_14 t6_15 =>
some (t6_15, t7_14)) op0 r_1 r_2 (⟨0, 0, ByteArray.empty⟩ : S29)

noncomputable def cadastreref23_Two_j5 {ρ : Type} (k : Nat) (kret : Int → S29 → Option ρ) (knxt : Int → S29 → S29 → S29 → Option ρ) (op0 : Int) (a4 : S29) (b5 : S29) (t6 : S29) : Option ρ :=
bif (decide (op0 ≥ 15)) then
bif (decide (op0 ≤ 20)) then
(cadastreref2_Test k op0 a4 b5).bind fun r_3 =>
kret 0 r_3
else
knxt op0 a4 b5 t6
else
knxt op0 a4 b5 t6

/-- cadastre/cadastreref23.Two -/
noncomputable def cadastreref23_Two (k : Nat) (op0 : Int) (a1 : S29) (b2 : S29) : Option (S29 × Int) :=
bif (op0 == 14) then
(cadastreref4_Concat k a1 b2).bind fun r_1 =>
some (r_1.1, r_1.2)
else
bif (decide (op0 ≥ 9)) then
bif (decide (op0 ≤ 13)) then
(cadastreref4_Do k op0 a1 b2).bind fun r_2 =>
some (r_2.1, r_2.2)
else
cadastreref23_Two_j5 k (fun t7_4 t6_5 =>
some (t6_5, t7_4)) (fun op0_6 a4_7 b5_8 t6_9 =>
(cadastreref2_Join k op0_6 a4_7 b5_8).bind fun r_10 =>
some (r_10.1, r_10.2)) op0 a1 b2 (⟨0, 0, ByteArray.empty⟩ : S29)
else
cadastreref23_Two_j5 k (fun t7_11 t6_12 =>
some (t6_12, t7_11)) (fun op0_13 a4_14 b5_15 t6_16 =>
(cadastreref2_Join k op0_13 a4_14 b5_15).bind fun r_17 =>
some (r_17.1, r_17.2)) op0 a1 b2 (⟨0, 0, ByteArray.empty⟩ : S29)

noncomputable def cadastreref23_Run_j29 {ρ : Type} (k : Nat) (knxt : List S43 → List S29 → Int → Int → Int → Int → S29 → List S29 → Option ρ) (l0 : List S43) (row1 : List S29) (most2 : Int) (at9 : Int) (n10 : Int) (bad12 : Int) (t13 : Int) (t6 : S29) (r8_0 : List S29) (c11 : S43) : Option ρ :=
bif (c11.f0 == 6) then
bif (t13 == 1) then
knxt l0 row1 most2 c11.f5 n10 bad12 t6 r8_0
else
bif (c11.f0 == 7) then
bif (t13 == 0) then
knxt l0 row1 most2 c11.f5 n10 bad12 t6 r8_0
else
knxt l0 row1 most2 at9 n10 bad12 t6 r8_0
else
knxt l0 row1 most2 at9 n10 bad12 t6 r8_0
else
bif (c11.f0 == 7) then
bif (t13 == 0) then
knxt l0 row1 most2 c11.f5 n10 bad12 t6 r8_0
else
knxt l0 row1 most2 at9 n10 bad12 t6 r8_0
else
knxt l0 row1 most2 at9 n10 bad12 t6 r8_0

noncomputable def cadastreref23_Run_j26 {ρ : Type} (k : Nat) (knxt : List S43 → List S29 → Int → Int → Int → Int → S29 → List S29 → Option ρ) (l0 : List S43) (row1 : List S29) (most2 : Int) (at9 : Int) (n10 : Int) (bad12 : Int) (t6 : S29) (r8_0 : List S29) (c11 : S43) : Option ρ :=
chk (0 ≤ c11.f2 ∧ c11.f2 < (256 : Int)) <|
chk (c11.f2.toNat < 256) <|
(cadastreref2_Truth k (r8_0.getD c11.f2.toNat default)).bind fun r_3 =>
bif (decide (r_3 < 0)) then
cadastreref23_Run_j29 k knxt l0 row1 most2 at9 n10 4 r_3 t6 r8_0 c11
else
cadastreref23_Run_j29 k knxt l0 row1 most2 at9 n10 bad12 r_3 t6 r8_0 c11

noncomputable def cadastreref23_Run_l5_b {ρ : Type} (k : Nat) (kret : Int → S29 → Option ρ) (rec : (List S43) → (List S29) → Int → Int → Int → S29 → (List S29) → Option ρ) (l0 : List S43) (row1 : List S29) (most2 : Int) (at9 : Int) (n10 : Int) (t6 : S29) (r8_0 : List S29) : Option ρ :=
bif (at9 == (l0.length : Int)) then
kret 1 (⟨0, 0, ByteArray.empty⟩ : S29)
else
bif (n10 == most2) then
kret 7 (⟨0, 0, ByteArray.empty⟩ : S29)
else
chk (0 ≤ at9 ∧ at9 < (l0.length : Int)) <|
bif ((l0.getD at9.toNat default).f0 == 1) then
chk (0 ≤ (l0.getD at9.toNat default).f1 ∧ (l0.getD at9.toNat default).f1 < (256 : Int)) <|
chk ((l0.getD at9.toNat default).f1.toNat < 256) <|
chk ((l0.getD at9.toNat default).f1.toNat < r8_0.length) <|
bif ((0 : Int) != 0) then
kret 0 (⟨0, 0, ByteArray.empty⟩ : S29)
else
rec l0 row1 most2 (IntKind.i64.wrap (at9 + 1)) (IntKind.i64.wrap (n10 + 1)) t6 (r8_0.set (l0.getD at9.toNat default).f1.toNat (l0.getD at9.toNat default).f4)
else
bif ((l0.getD at9.toNat default).f0 == 2) then
chk (0 ≤ (l0.getD at9.toNat default).f2 ∧ (l0.getD at9.toNat default).f2 < (row1.length : Int)) <|
chk (0 ≤ (l0.getD at9.toNat default).f1 ∧ (l0.getD at9.toNat default).f1 < (256 : Int)) <|
chk ((l0.getD at9.toNat default).f1.toNat < 256) <|
chk ((l0.getD at9.toNat default).f1.toNat < r8_0.length) <|
bif ((0 : Int) != 0) then
kret 0 (⟨0, 0, ByteArray.empty⟩ : S29)
else
rec l0 row1 most2 (IntKind.i64.wrap (at9 + 1)) (IntKind.i64.wrap (n10 + 1)) t6 (r8_0.set (l0.getD at9.toNat default).f1.toNat (row1.getD (l0.getD at9.toNat default).f2.toNat default))
else
bif ((l0.getD at9.toNat default).f0 == 3) then
chk (0 ≤ (l0.getD at9.toNat default).f2 ∧ (l0.getD at9.toNat default).f2 < (256 : Int)) <|
chk ((l0.getD at9.toNat default).f2.toNat < 256) <|
(cadastreref23_One k (l0.getD at9.toNat default).f3 (r8_0.getD (l0.getD at9.toNat default).f2.toNat default)).bind fun r_1 =>
chk (0 ≤ (l0.getD at9.toNat default).f1 ∧ (l0.getD at9.toNat default).f1 < (256 : Int)) <|
chk ((l0.getD at9.toNat default).f1.toNat < 256) <|
chk ((l0.getD at9.toNat default).f1.toNat < r8_0.length) <|
bif (r_1.2 != 0) then
kret r_1.2 (⟨0, 0, ByteArray.empty⟩ : S29)
else
rec l0 row1 most2 (IntKind.i64.wrap (at9 + 1)) (IntKind.i64.wrap (n10 + 1)) t6 (r8_0.set (l0.getD at9.toNat default).f1.toNat r_1.1)
else
bif ((l0.getD at9.toNat default).f0 == 4) then
chk (0 ≤ (l0.getD at9.toNat default).f2 ∧ (l0.getD at9.toNat default).f2 < (256 : Int)) <|
chk ((l0.getD at9.toNat default).f2.toNat < 256) <|
chk (0 ≤ (l0.getD at9.toNat default).f3 ∧ (l0.getD at9.toNat default).f3 < (256 : Int)) <|
chk ((l0.getD at9.toNat default).f3.toNat < 256) <|
(cadastreref23_Two k (l0.getD at9.toNat default).f5 (r8_0.getD (l0.getD at9.toNat default).f2.toNat default) (r8_0.getD (l0.getD at9.toNat default).f3.toNat default)).bind fun r_2 =>
chk (0 ≤ (l0.getD at9.toNat default).f1 ∧ (l0.getD at9.toNat default).f1 < (256 : Int)) <|
chk ((l0.getD at9.toNat default).f1.toNat < 256) <|
chk ((l0.getD at9.toNat default).f1.toNat < r8_0.length) <|
bif (r_2.2 != 0) then
kret r_2.2 (⟨0, 0, ByteArray.empty⟩ : S29)
else
rec l0 row1 most2 (IntKind.i64.wrap (at9 + 1)) (IntKind.i64.wrap (n10 + 1)) t6 (r8_0.set (l0.getD at9.toNat default).f1.toNat r_2.1)
else
bif ((l0.getD at9.toNat default).f0 == 5) then
bif ((0 : Int) != 0) then
kret 0 (⟨0, 0, ByteArray.empty⟩ : S29)
else
rec l0 row1 most2 (l0.getD at9.toNat default).f5 (IntKind.i64.wrap (n10 + 1)) t6 r8_0
else
bif ((l0.getD at9.toNat default).f0 == 6) then
cadastreref23_Run_j26 k (fun l0_20 row1_21 most2_22 at9_23 n10_24 bad12_25 t6_26 r8_27 =>
bif (bad12_25 != 0) then
kret bad12_25 (⟨0, 0, ByteArray.empty⟩ : S29)
else
rec l0_20 row1_21 most2_22 at9_23 (IntKind.i64.wrap (n10_24 + 1)) t6_26 r8_27) l0 row1 most2 (IntKind.i64.wrap (at9 + 1)) n10 0 t6 r8_0 (l0.getD at9.toNat default)
else
bif ((l0.getD at9.toNat default).f0 == 7) then
cadastreref23_Run_j26 k (fun l0_28 row1_29 most2_30 at9_31 n10_32 bad12_33 t6_34 r8_35 =>
bif (bad12_33 != 0) then
kret bad12_33 (⟨0, 0, ByteArray.empty⟩ : S29)
else
rec l0_28 row1_29 most2_30 at9_31 (IntKind.i64.wrap (n10_32 + 1)) t6_34 r8_35) l0 row1 most2 (IntKind.i64.wrap (at9 + 1)) n10 0 t6 r8_0 (l0.getD at9.toNat default)
else
chk (0 ≤ (l0.getD at9.toNat default).f1 ∧ (l0.getD at9.toNat default).f1 < (256 : Int)) <|
chk ((l0.getD at9.toNat default).f1.toNat < 256) <|
kret 0 (r8_0.getD (l0.getD at9.toNat default).f1.toNat default)
noncomputable def cadastreref23_Run_l5 {ρ : Type} (k : Nat) (kret : Int → S29 → Option ρ) : Nat → (List S43) → (List S29) → Int → Int → Int → S29 → (List S29) → Option ρ
  | 0, _, _, _, _, _, _, _ => none
  | n + 1, l0, row1, most2, at9, n10, t6, r8_0 => cadastreref23_Run_l5_b k kret (cadastreref23_Run_l5 k kret n) l0 row1 most2 at9 n10 t6 r8_0

/-- cadastre/cadastreref23.Run -/
noncomputable def cadastreref23_Run (k : Nat) (l0 : List S43) (row1 : List S29) (most2 : Int) : Option (S29 × Int) :=
cadastreref23_Run_l5 k (fun t7_36 t6_37 =>
some (t6_37, t7_36)) k l0 row1 most2 0 0 (⟨0, 0, ByteArray.empty⟩ : S29) (List.replicate 256 default)

noncomputable def cadastreref0_CopyCodes_l3_b {ρ : Type} (k : Nat) (kexit0 : List S43 → Option ρ) (rec : (List S43) → (List S43) → Int → Option ρ) (l0 : List S43) (m3 : List S43) (i4 : Int) : Option ρ :=
bif (decide (i4 < (l0.length : Int))) then
chk (0 ≤ i4 ∧ i4 < (l0.length : Int)) <|
chk ((m3.length + [(l0.getD i4.toNat default)].length) * 72 ≤ 140737488355328) <|
rec l0 (m3 ++ [(l0.getD i4.toNat default)]) (IntKind.i64.wrap (i4 + 1))
else
kexit0 m3
noncomputable def cadastreref0_CopyCodes_l3 {ρ : Type} (k : Nat) (kexit0 : List S43 → Option ρ) : Nat → (List S43) → (List S43) → Int → Option ρ
  | 0, _, _, _ => none
  | n + 1, l0, m3, i4 => cadastreref0_CopyCodes_l3_b k kexit0 (cadastreref0_CopyCodes_l3 k kexit0 n) l0 m3 i4

/-- cadastre/cadastreref0.CopyCodes -/
noncomputable def cadastreref0_CopyCodes (k : Nat) (l0 : List S43) : Option (List S43) :=
cadastreref0_CopyCodes_l3 k (fun m3_1 =>
some m3_1) k l0 [] 0

/-- cadastre/vm.reg -/
noncomputable def vm_reg (k : Nat) (n0 : Int) : Option Bool :=
bif (decide (n0 ≥ 0)) then
some (big (decide (n0 < 256)))
else
some false

noncomputable def value_Good_j8 {ρ : Type} (k : Nat) (kret : Bool → Option ρ) (v1 : S29) : Option ρ :=
bif (v1.f1 == 0) then
kret (big (decide ((v1.f2.size : Int) ≤ 4096)))
else
kret false

/-- cadastre/value.Good -/
noncomputable def value_Good (k : Nat) (v0 : S29) : Option Bool :=
bif (v0.f0 == 0) then
some ((v0.f0 == 0) && ((v0.f1 == 0) && (v0.f2 == ByteArray.empty)))
else
bif (v0.f0 == 1) then
some (v0.f2.toList == ByteArray.empty.toList)
else
bif (v0.f0 == 2) then
value_Good_j8 k (fun t2_1 =>
some t2_1) v0
else
bif (v0.f0 == 3) then
value_Good_j8 k (fun t2_2 =>
some t2_2) v0
else
some false

noncomputable def vm_good_j23 {ρ : Type} (k : Nat) (knxt : Bool → S43 → S43 → Option ρ) (jump9 : Bool) (c3 : S43) (x7 : S43) : Option ρ :=
(vm_reg k c3.f2).bind fun r_12 =>
bif r_12 then
knxt jump9 c3 (⟨x7.f0, x7.f1, c3.f2, x7.f3, x7.f4, c3.f5⟩ : S43)
else
knxt false c3 (⟨x7.f0, x7.f1, c3.f2, x7.f3, x7.f4, c3.f5⟩ : S43)

noncomputable def vm_good_j25 {ρ : Type} (k : Nat) (knxt : Bool → S43 → S43 → Option ρ) (kret : Bool → Option ρ) (t31 : Int) (c3 : S43) (x7 : S43) : Option ρ :=
bif (t31 == 8) then
(vm_reg k c3.f1).bind fun r_21 =>
knxt r_21 c3 (⟨x7.f0, c3.f1, x7.f2, x7.f3, x7.f4, x7.f5⟩ : S43)
else
kret false

noncomputable def vm_good_j4 {ρ : Type} (k : Nat) (kret : Bool → Option ρ) (n2 : Int) (ok8 : Bool) (jump9 : Bool) (c3 : S43) (x7 : S43) : Option ρ :=
bif (c3.f0 == 1) then
(vm_reg k c3.f1).bind fun r_3 =>
bif r_3 then
(value_Good k c3.f4).bind fun r_4 =>
bif r_4 then
let v_5 : Bool := ((c3.f0 == x7.f0) && ((c3.f1 == c3.f1) && ((c3.f2 == x7.f2) && ((c3.f3 == x7.f3) && ((c3.f4.f0 == c3.f4.f0) && ((c3.f4.f1 == c3.f4.f1) && ((c3.f4.f2 == c3.f4.f2) && (c3.f5 == x7.f5))))))))
kret v_5
else
kret false
else
kret false
else
bif (c3.f0 == 2) then
(vm_reg k c3.f1).bind fun r_6 =>
bif r_6 then
bif (decide (c3.f2 ≥ 0)) then
bif (decide (c3.f2 < n2)) then
let v_7 : Bool := ((c3.f0 == x7.f0) && ((c3.f1 == c3.f1) && ((c3.f2 == c3.f2) && ((c3.f3 == x7.f3) && ((c3.f4.f0 == x7.f4.f0) && ((c3.f4.f1 == x7.f4.f1) && ((c3.f4.f2 == x7.f4.f2) && (c3.f5 == x7.f5))))))))
kret v_7
else
kret false
else
kret false
else
kret false
else
bif (c3.f0 == 3) then
bif ok8 then
bif (decide (c3.f3 ≥ 3)) then
bif (decide (c3.f3 ≤ 8)) then
let v_8 : Bool := ((c3.f0 == x7.f0) && ((c3.f1 == c3.f1) && ((c3.f2 == c3.f2) && ((c3.f3 == c3.f3) && ((c3.f4.f0 == x7.f4.f0) && ((c3.f4.f1 == x7.f4.f1) && ((c3.f4.f2 == x7.f4.f2) && (c3.f5 == x7.f5))))))))
kret v_8
else
kret false
else
kret false
else
kret false
else
bif (c3.f0 == 4) then
bif ok8 then
(vm_reg k c3.f3).bind fun r_9 =>
bif r_9 then
bif (decide (c3.f5 ≥ 9)) then
bif (decide (c3.f5 ≤ 22)) then
let v_10 : Bool := ((c3.f0 == x7.f0) && ((c3.f1 == c3.f1) && ((c3.f2 == c3.f2) && ((c3.f3 == c3.f3) && ((c3.f4.f0 == x7.f4.f0) && ((c3.f4.f1 == x7.f4.f1) && ((c3.f4.f2 == x7.f4.f2) && (c3.f5 == c3.f5))))))))
kret v_10
else
kret false
else
kret false
else
kret false
else
kret false
else
bif (c3.f0 == 5) then
bif jump9 then
let v_11 : Bool := ((c3.f0 == x7.f0) && ((c3.f1 == x7.f1) && ((c3.f2 == x7.f2) && ((c3.f3 == x7.f3) && ((c3.f4.f0 == x7.f4.f0) && ((c3.f4.f1 == x7.f4.f1) && ((c3.f4.f2 == x7.f4.f2) && (c3.f5 == c3.f5))))))))
kret v_11
else
kret false
else
bif (c3.f0 == 6) then
vm_good_j23 k (fun ok8_13 c3_14 x7_15 =>
bif ok8_13 then
let v_16 : Bool := ((c3_14.f0 == x7_15.f0) && ((c3_14.f1 == x7_15.f1) && ((c3_14.f2 == x7_15.f2) && ((c3_14.f3 == x7_15.f3) && ((c3_14.f4.f0 == x7_15.f4.f0) && ((c3_14.f4.f1 == x7_15.f4.f1) && ((c3_14.f4.f2 == x7_15.f4.f2) && (c3_14.f5 == x7_15.f5))))))))
kret v_16
else
kret false) jump9 c3 x7
else
bif (c3.f0 == 7) then
vm_good_j23 k (fun ok8_17 c3_18 x7_19 =>
bif ok8_17 then
let v_20 : Bool := ((c3_18.f0 == x7_19.f0) && ((c3_18.f1 == x7_19.f1) && ((c3_18.f2 == x7_19.f2) && ((c3_18.f3 == x7_19.f3) && ((c3_18.f4.f0 == x7_19.f4.f0) && ((c3_18.f4.f1 == x7_19.f4.f1) && ((c3_18.f4.f2 == x7_19.f4.f2) && (c3_18.f5 == x7_19.f5))))))))
kret v_20
else
kret false) jump9 c3 x7
else
vm_good_j25 k (fun ok8_22 c3_23 x7_24 =>
bif ok8_22 then
let v_25 : Bool := ((c3_23.f0 == x7_24.f0) && ((c3_23.f1 == x7_24.f1) && ((c3_23.f2 == x7_24.f2) && ((c3_23.f3 == x7_24.f3) && ((c3_23.f4.f0 == x7_24.f4.f0) && ((c3_23.f4.f1 == x7_24.f4.f1) && ((c3_23.f4.f2 == x7_24.f4.f2) && (c3_23.f5 == x7_24.f5))))))))
kret v_25
else
kret false) kret c3.f0 c3 x7

noncomputable def vm_good_j3 {ρ : Type} (k : Nat) (kret : Bool → Option ρ) (all1 : Int) (n2 : Int) (ok8 : Bool) (c3 : S43) (x7 : S43) : Option ρ :=
bif (decide (c3.f5 ≥ 0)) then
vm_good_j4 k kret n2 ok8 (decide (c3.f5 < all1)) c3 x7
else
vm_good_j4 k kret n2 ok8 false c3 x7

/-- cadastre/vm.good -/
noncomputable def vm_good (k : Nat) (c0 : S43) (all1 : Int) (n2 : Int) : Option Bool :=
(vm_reg k c0.f1).bind fun r_1 =>
bif r_1 then
(vm_reg k c0.f2).bind fun r_2 =>
vm_good_j3 k (fun t6_29 =>
some t6_29) all1 n2 r_2 c0 (⟨c0.f0, 0, 0, 0, (⟨0, 0, ByteArray.empty⟩ : S29), 0⟩ : S43)
else
vm_good_j3 k (fun t6_30 =>
some t6_30) all1 n2 false c0 (⟨c0.f0, 0, 0, 0, (⟨0, 0, ByteArray.empty⟩ : S29), 0⟩ : S43)

/-- cadastre/vm.Check$1 -/
noncomputable def vm_Check_1_r1_r2 (k : Nat) (c0 : S43) (t1 : List S43) (t2 : Int) : Option Bool :=
(vm_good k c0 (t1.length : Int) t2).bind fun r_1 =>
some (!r_1)

noncomputable def api_Code__45_f26_l2_b {ρ : Type} (k : Nat) (kret : Int → Option ρ) (kexit0 : Option ρ) (rec : (List S43) → (List S43) → Int → Int → Int → Option ρ) (s0 : List S43) (f1_c0 : List S43) (f1_c1 : Int) (t7 : Int) (t8 : Int) : Option ρ :=
bif (decide (t8 < t7)) then
chk (0 ≤ t8 ∧ t8 < (s0.length : Int)) <|
(vm_Check_1_r1_r2 k (s0.getD t8.toNat default) f1_c0 f1_c1).bind fun r_1 =>
bif r_1 then
kret t8
else
rec s0 f1_c0 f1_c1 t7 (IntKind.i64.wrap (t8 + 1))
else
kexit0
noncomputable def api_Code__45_f26_l2 {ρ : Type} (k : Nat) (kret : Int → Option ρ) (kexit0 : Option ρ) : Nat → (List S43) → (List S43) → Int → Int → Int → Option ρ
  | 0, _, _, _, _, _ => none
  | n + 1, s0, f1_c0, f1_c1, t7, t8 => api_Code__45_f26_l2_b k kret kexit0 (api_Code__45_f26_l2 k kret kexit0 n) s0 f1_c0 f1_c1 t7 t8

/-- slices.IndexFunc[[]cadastre/api.Code,cadastre/api.Code] -/
noncomputable def api_Code__45_f26 (k : Nat) (s0 : List S43) (f1_0 : List S43) (f1_1 : Int) : Option Int :=
api_Code__45_f26_l2 k (fun t4_2 =>
some t4_2) (some (-1)) k s0 f1_0 f1_1 (s0.length : Int) 0

/-- slices.ContainsFunc[[]cadastre/api.Code,cadastre/api.Code] -/
noncomputable def api_Code__f26 (k : Nat) (s0 : List S43) (f1_0 : List S43) (f1_1 : Int) : Option Bool :=
(api_Code__45_f26 k s0 f1_0 f1_1).bind fun r_1 =>
some (decide (r_1 ≥ 0))

/-- cadastre/vm.Check -/
noncomputable def vm_Check (k : Nat) (l0 : List S43) (n1 : Int) : Option Int :=
bif (big (decide ((l0.length : Int) > 800))) then
some 1
else
(api_Code__f26 k l0 l0 n1).bind fun r_1 =>
bif r_1 then
some 1
else
some 0

noncomputable def value_All_j2 {ρ : Type} (k : Nat) (kret : Bool → Option ρ) (kgoto0 : List S29 → Int → Option ρ) (l0 : List S29) (i3 : Int) : Option ρ :=
bif (i3 == (l0.length : Int)) then
kret true
else
chk (0 ≤ i3 ∧ i3 < (l0.length : Int)) <|
(value_Good k (l0.getD i3.toNat default)).bind fun r_1 =>
bif r_1 then
kgoto0 l0 (IntKind.i64.wrap (i3 + 1))
else
kret false

noncomputable def value_All_g0_b {ρ : Type} (k : Nat) (kret : Bool → Option ρ) (rec : (List S29) → Int → Option ρ) (l0 : List S29) (i3 : Int) : Option ρ :=
value_All_j2 k kret rec l0 i3
noncomputable def value_All_g0 {ρ : Type} (k : Nat) (kret : Bool → Option ρ) : Nat → (List S29) → Int → Option ρ
  | 0, _, _ => none
  | n + 1, l0, i3 => value_All_g0_b k kret (value_All_g0 k kret n) l0 i3

/-- cadastre/value.All -/
noncomputable def value_All (k : Nat) (l0 : List S29) : Option Bool :=
value_All_j2 k (fun t2_2 =>
some t2_2) (fun l0_3 i3_4 =>
value_All_g0 k (fun t2_8 =>
some t2_8) k l0_3 i3_4) l0 0

/-- cadastre/logic.truth -/
noncomputable def logic_truth (k : Nat) (v0 : S29) : Option (Int × Int) :=
(value_Good k v0).bind fun r_1 =>
bif (!r_1) then
some (0, 1)
else
bif (v0.f0 == 0) then
some (1, 0)
else
bif (v0.f0 != 1) then
some (0, 4)
else
bif (v0.f1 == 0) then
some (0, 0)
else
some (2, 0)

/-- cadastre/value.Int -/
noncomputable def value_Int (k : Nat) (n0 : Int) : Option S29 :=
some (⟨1, n0, ByteArray.empty⟩ : S29)

/-- cadastre/logic.answer -/
noncomputable def logic_answer (k : Nat) (t0 : Int) : Option S29 :=
(value_Int k 0).bind fun r_1 =>
(value_Int k 1).bind fun r_2 =>
chk (0 ≤ t0 ∧ t0 < ([r_1, (⟨0, 0, ByteArray.empty⟩ : S29), r_2].length : Int)) <|
some ([r_1, (⟨0, 0, ByteArray.empty⟩ : S29), r_2].getD t0.toNat default)

/-- cadastre/logic.Not -/
noncomputable def logic_Not (k : Nat) (v0 : S29) : Option (S29 × Int) :=
(logic_truth k v0).bind fun r_1 =>
bif (r_1.2 != 0) then
some ((⟨0, 0, ByteArray.empty⟩ : S29), r_1.2)
else
(logic_answer k (IntKind.i64.wrap (2 - r_1.1))).bind fun r_2 =>
some (r_2, 0)

/-- cadastre/logic.True -/
noncomputable def logic_True (k : Nat) (v0 : S29) : Option (Bool × Int) :=
(logic_truth k v0).bind fun r_1 =>
bif (r_1.2 == 0) then
some ((r_1.1 == 2), r_1.2)
else
some (false, r_1.2)

/-- cadastre/arith.Neg -/
noncomputable def arith_Neg (k : Nat) (v0 : S29) : Option (S29 × Int) :=
(value_Good k v0).bind fun r_1 =>
bif (!r_1) then
some ((⟨0, 0, ByteArray.empty⟩ : S29), 1)
else
bif (v0.f0 == 0) then
some (v0, 0)
else
bif (v0.f0 != 1) then
some ((⟨0, 0, ByteArray.empty⟩ : S29), 4)
else
bif (big (v0.f1 == (-9223372036854775808))) then
some ((⟨0, 0, ByteArray.empty⟩ : S29), 5)
else
(value_Int k (IntKind.i64.wrap (0 - v0.f1))).bind fun r_2 =>
some (r_2, 0)

/-- strconv.FormatInt -/
noncomputable def strconv_FormatInt (_ : Nat) (c0 : Int) (c1 : Int) : Option ByteArray :=
chk (c1 = 10 ∧ big (decide (-9223372036854775808 ≤ c0 ∧ c0 ≤ 9223372036854775807)) = true) (some ⟨(Lib.itoa c0).toArray⟩)

/-- cadastre/value.Text -/
noncomputable def value_Text (k : Nat) (s0 : ByteArray) : Option S29 :=
some (⟨2, 0, s0⟩ : S29)

/-- cadastre/arith.Text -/
noncomputable def arith_Text (k : Nat) (v0 : S29) : Option (S29 × Int) :=
(value_Good k v0).bind fun r_1 =>
bif (!r_1) then
some ((⟨0, 0, ByteArray.empty⟩ : S29), 1)
else
bif (v0.f0 == 1) then
(strconv_FormatInt k v0.f1 10).bind fun r_2 =>
(value_Text k r_2).bind fun r_3 =>
some (r_3, 0)
else
some (v0, 0)

/-- cadastre/arith.Length -/
noncomputable def arith_Length (k : Nat) (v0 : S29) : Option (S29 × Int) :=
(arith_Text k v0).bind fun r_1 =>
bif (r_1.2 != 0) then
some ((⟨0, 0, ByteArray.empty⟩ : S29), r_1.2)
else
bif (r_1.1.f0 == 0) then
some ((⟨0, 0, ByteArray.empty⟩ : S29), r_1.2)
else
(value_Int k (r_1.1.f2.size : Int)).bind fun r_2 =>
some (r_2, 0)

/-- cadastre/arith.Typeof -/
noncomputable def arith_Typeof (k : Nat) (v0 : S29) : Option (S29 × Int) :=
(value_Good k v0).bind fun r_1 =>
bif (!r_1) then
some ((⟨0, 0, ByteArray.empty⟩ : S29), 1)
else
chk (0 ≤ v0.f0 ∧ v0.f0 < ([(⟨#[110, 117, 108, 108]⟩ : ByteArray), (⟨#[105, 110, 116, 101, 103, 101, 114]⟩ : ByteArray), (⟨#[116, 101, 120, 116]⟩ : ByteArray), (⟨#[98, 108, 111, 98]⟩ : ByteArray)].length : Int)) <|
let v_2 : ByteArray := ([(⟨#[110, 117, 108, 108]⟩ : ByteArray), (⟨#[105, 110, 116, 101, 103, 101, 114]⟩ : ByteArray), (⟨#[116, 101, 120, 116]⟩ : ByteArray), (⟨#[98, 108, 111, 98]⟩ : ByteArray)].getD v0.f0.toNat ByteArray.empty)
(value_Text k v_2).bind fun r_3 =>
some (r_3, 0)

/-- cadastre/logic.said -/
noncomputable def logic_said (k : Nat) (so0 : Bool) : Option S29 :=
bif so0 then
(logic_answer k 2).bind fun r_1 =>
some r_1
else
(logic_answer k 0).bind fun r_2 =>
some r_2

/-- cadastre/logic.Null -/
noncomputable def logic_Null (k : Nat) (op0 : Int) (v1 : S29) : Option (S29 × Int) :=
bif (op0 != 5) then
bif (op0 != 6) then
some ((⟨0, 0, ByteArray.empty⟩ : S29), 1)
else
(value_Good k v1).bind fun r_1 =>
bif (!r_1) then
some ((⟨0, 0, ByteArray.empty⟩ : S29), 1)
else
(logic_said k ((v1.f0 == 0) == (op0 == 5))).bind fun r_2 =>
some (r_2, 0)
else
(value_Good k v1).bind fun r_3 =>
bif (!r_3) then
some ((⟨0, 0, ByteArray.empty⟩ : S29), 1)
else
(logic_said k ((v1.f0 == 0) == (op0 == 5))).bind fun r_4 =>
some (r_4, 0)

/-- cadastre/eval.Un -/
noncomputable def eval_Un (k : Nat) (op0 : Int) (v1 : S29) : Option (S29 × Int) :=
bif (op0 == 3) then
(arith_Neg k v1).bind fun r_1 =>
some (r_1.1, r_1.2)
else
bif (op0 == 4) then
(logic_Not k v1).bind fun r_2 =>
some (r_2.1, r_2.2)
else
bif (op0 == 7) then
(arith_Length k v1).bind fun r_3 =>
some (r_3.1, r_3.2)
else
bif (op0 == 8) then
(arith_Typeof k v1).bind fun r_4 =>
some (r_4.1, r_4.2)
else
(logic_Null k op0 v1).bind fun r_5 =>
some (r_5.1, r_5.2)

noncomputable def arith_Concat_j5 {ρ : Type} (k : Nat) (kret : Int → S29 → Option ρ) (knxt : S29 → S29 → S29 → Option ρ) (a2 : S29) (b3 : S29) (t4 : S29) : Option ρ :=
bif (a2.f0 == 3) then
kret 4 (⟨0, 0, ByteArray.empty⟩ : S29)
else
bif (b3.f0 == 3) then
kret 4 (⟨0, 0, ByteArray.empty⟩ : S29)
else
knxt a2 b3 t4

noncomputable def arith_Concat_j7 {ρ : Type} (k : Nat) (kret : Int → S29 → Option ρ) (a2 : S29) (b3 : S29) (t4 : S29) : Option ρ :=
(arith_Text k a2).bind fun r_7 =>
(arith_Text k b3).bind fun r_8 =>
let v_9 : Bool := (big (decide ((IntKind.i64.wrap ((r_7.1.f2.size : Int) + (r_8.1.f2.size : Int))) > 4096)))
bif v_9 then
kret 7 (⟨0, 0, ByteArray.empty⟩ : S29)
else
chk (strFits r_7.1.f2 r_8.1.f2) <|
(value_Text k (cat r_7.1.f2 r_8.1.f2)).bind fun r_10 =>
kret 0 r_10

/-- cadastre/arith.Concat -/
noncomputable def arith_Concat (k : Nat) (a0 : S29) (b1 : S29) : Option (S29 × Int) :=
(value_All k [a0, b1]).bind fun r_1 =>
bif (!r_1) then
some ((⟨0, 0, ByteArray.empty⟩ : S29), 1)
else
bif (a0.f0 == 0) then
some ((⟨0, 0, ByteArray.empty⟩ : S29), 0)
else
bif (b1.f0 == 0) then
some ((⟨0, 0, ByteArray.empty⟩ : S29), 0)
else
arith_Concat_j5 k (fun t5_2 t4_3 =>
some (t4_3, t5_2)) (fun a2_4 b3_5 t4_6 =>
arith_Concat_j7 k (fun t5_11 t4_12 =>
some (t4_12, t5_11)) a2_4 b3_5 t4_6) a0 b1 (⟨0, 0, ByteArray.empty⟩ : S29)

noncomputable def arith_reckon_j18 {ρ : Type} (k : Nat) (kret : Int → Int → Option ρ) (n6 : Int) : Option ρ :=
kret n6 0

noncomputable def arith_reckon_j13 {ρ : Type} (k : Nat) (kgoto0 : Option ρ) (knxt : Int → Option ρ) (a1 : Int) (b2 : Int) : Option ρ :=
bif (a1 == (-1)) then
bif (big (b2 == (-9223372036854775808))) then
kgoto0
else
bif (b2 == (-1)) then
bif (big (a1 == (-9223372036854775808))) then
kgoto0
else
if b2 = 0 then none else
bif ((IntKind.i64.wrap (Int.tdiv (IntKind.i64.wrap (a1 * b2)) b2)) != a1) then
kgoto0
else
knxt (IntKind.i64.wrap (a1 * b2))
else
if b2 = 0 then none else
bif ((IntKind.i64.wrap (Int.tdiv (IntKind.i64.wrap (a1 * b2)) b2)) != a1) then
kgoto0
else
knxt (IntKind.i64.wrap (a1 * b2))
else
bif (b2 == (-1)) then
bif (big (a1 == (-9223372036854775808))) then
kgoto0
else
if b2 = 0 then none else
bif ((IntKind.i64.wrap (Int.tdiv (IntKind.i64.wrap (a1 * b2)) b2)) != a1) then
kgoto0
else
knxt (IntKind.i64.wrap (a1 * b2))
else
if b2 = 0 then none else
bif ((IntKind.i64.wrap (Int.tdiv (IntKind.i64.wrap (a1 * b2)) b2)) != a1) then
kgoto0
else
knxt (IntKind.i64.wrap (a1 * b2))

/-- cadastre/arith.reckon -/
noncomputable def arith_reckon (k : Nat) (op0 : Int) (a1 : Int) (b2 : Int) : Option (Int × Int) :=
bif (op0 == 12) then
bif (decide (b2 > 0)) then
bif (decide (a1 > (IntKind.i64.wrap (9223372036854775807 - b2)))) then
some (0, 5)
else
bif (decide (b2 < 0)) then
bif (decide (a1 < (IntKind.i64.wrap ((-9223372036854775808) - b2)))) then
some (0, 5)
else
arith_reckon_j18 k (fun n6_1 e7_2 =>
some (n6_1, e7_2)) (IntKind.i64.wrap (a1 + b2))
else
arith_reckon_j18 k (fun n6_3 e7_4 =>
some (n6_3, e7_4)) (IntKind.i64.wrap (a1 + b2))
else
bif (decide (b2 < 0)) then
bif (decide (a1 < (IntKind.i64.wrap ((-9223372036854775808) - b2)))) then
some (0, 5)
else
arith_reckon_j18 k (fun n6_5 e7_6 =>
some (n6_5, e7_6)) (IntKind.i64.wrap (a1 + b2))
else
arith_reckon_j18 k (fun n6_7 e7_8 =>
some (n6_7, e7_8)) (IntKind.i64.wrap (a1 + b2))
else
bif (op0 == 13) then
bif (decide (b2 < 0)) then
bif (decide (a1 > (IntKind.i64.wrap (9223372036854775807 + b2)))) then
some (0, 5)
else
bif (decide (b2 > 0)) then
bif (decide (a1 < (IntKind.i64.wrap ((-9223372036854775808) + b2)))) then
some (0, 5)
else
arith_reckon_j18 k (fun n6_9 e7_10 =>
some (n6_9, e7_10)) (IntKind.i64.wrap (a1 - b2))
else
arith_reckon_j18 k (fun n6_11 e7_12 =>
some (n6_11, e7_12)) (IntKind.i64.wrap (a1 - b2))
else
bif (decide (b2 > 0)) then
bif (decide (a1 < (IntKind.i64.wrap ((-9223372036854775808) + b2)))) then
some (0, 5)
else
arith_reckon_j18 k (fun n6_13 e7_14 =>
some (n6_13, e7_14)) (IntKind.i64.wrap (a1 - b2))
else
arith_reckon_j18 k (fun n6_15 e7_16 =>
some (n6_15, e7_16)) (IntKind.i64.wrap (a1 - b2))
else
bif (op0 == 9) then
bif (a1 == 0) then
some (0, 0)
else
bif (b2 == 0) then
some (0, 0)
else
arith_reckon_j13 k (some (0, 5)) (fun n6_17 =>
arith_reckon_j18 k (fun n6_18 e7_19 =>
some (n6_18, e7_19)) n6_17) a1 b2
else
bif (op0 == 10) then
bif (big (a1 == (-9223372036854775808))) then
bif (b2 == (-1)) then
some (0, 5)
else
if b2 = 0 then none else
arith_reckon_j18 k (fun n6_20 e7_21 =>
some (n6_20, e7_21)) (IntKind.i64.wrap (Int.tdiv a1 b2))
else
if b2 = 0 then none else
arith_reckon_j18 k (fun n6_22 e7_23 =>
some (n6_22, e7_23)) (IntKind.i64.wrap (Int.tdiv a1 b2))
else
bif (b2 != (-1)) then
if b2 = 0 then none else
arith_reckon_j18 k (fun n6_24 e7_25 =>
some (n6_24, e7_25)) (Int.tmod a1 b2)
else
arith_reckon_j18 k (fun n6_26 e7_27 =>
some (n6_26, e7_27)) 0

noncomputable def arith_Do_j7 {ρ : Type} (k : Nat) (kret : Int → S29 → Option ρ) (knxt : Int → S29 → S29 → S29 → Option ρ) (op0 : Int) (a4 : S29) (b5 : S29) (t6 : S29) : Option ρ :=
bif (op0 == 10) then
bif (b5.f1 == 0) then
kret 0 (⟨0, 0, ByteArray.empty⟩ : S29)
else
knxt op0 a4 b5 t6
else
bif (op0 == 11) then
bif (b5.f1 == 0) then
kret 0 (⟨0, 0, ByteArray.empty⟩ : S29)
else
knxt op0 a4 b5 t6
else
knxt op0 a4 b5 t6

noncomputable def arith_Do_j5 {ρ : Type} (k : Nat) (kret : Int → S29 → Option ρ) (knxt : Int → S29 → S29 → S29 → Option ρ) (op0 : Int) (a4 : S29) (b5 : S29) (t6 : S29) : Option ρ :=
bif (a4.f0 != 1) then
kret 4 (⟨0, 0, ByteArray.empty⟩ : S29)
else
bif (b5.f0 != 1) then
kret 4 (⟨0, 0, ByteArray.empty⟩ : S29)
else
arith_Do_j7 k kret knxt op0 a4 b5 t6

noncomputable def arith_Do_j3 {ρ : Type} (k : Nat) (kret : Int → S29 → Option ρ) (knxt : Int → S29 → S29 → S29 → Option ρ) (op0 : Int) (a4 : S29) (b5 : S29) (t6 : S29) : Option ρ :=
bif (a4.f0 == 0) then
kret 0 (⟨0, 0, ByteArray.empty⟩ : S29)
else
bif (b5.f0 == 0) then
kret 0 (⟨0, 0, ByteArray.empty⟩ : S29)
else
arith_Do_j5 k kret knxt op0 a4 b5 t6

noncomputable def arith_Do_j9 {ρ : Type} (k : Nat) (kret : Int → S29 → Option ρ) (op0 : Int) (a4 : S29) (b5 : S29) (t6 : S29) : Option ρ :=
(arith_reckon k op0 a4.f1 b5.f1).bind fun r_20 =>
bif (r_20.2 != 0) then
kret r_20.2 (⟨0, 0, ByteArray.empty⟩ : S29)
else
(value_Int k r_20.1).bind fun r_21 =>
kret 0 r_21

/-- cadastre/arith.Do -/
noncomputable def arith_Do (k : Nat) (op0 : Int) (a1 : S29) (b2 : S29) : Option (S29 × Int) :=
bif (decide (op0 < 9)) then
some ((⟨0, 0, ByteArray.empty⟩ : S29), 1)
else
bif (decide (op0 > 13)) then
some ((⟨0, 0, ByteArray.empty⟩ : S29), 1)
else
(value_All k [a1, b2]).bind fun r_1 =>
bif (!r_1) then
some ((⟨0, 0, ByteArray.empty⟩ : S29), 1)
else
arith_Do_j3 k (fun t7_14 t6_15 =>
some (t6_15, t7_14)) (fun op0_16 a4_17 b5_18 t6_19 =>
arith_Do_j9 k (fun t7_22 t6_23 =>
some (t6_23, t7_22)) op0_16 a4_17 b5_18 t6_19) op0 a1 b2 (⟨0, 0, ByteArray.empty⟩ : S29)

/-- cadastre/value.sign -/
noncomputable def value_sign (k : Nat) (a0 : Int) (b1 : Int) : Option Int :=
bif (decide (a0 < b1)) then
some (-1)
else
bif (decide (a0 > b1)) then
some 1
else
some 0

noncomputable def value_text_j3 {ρ : Type} (k : Nat) (kgoto0 : ByteArray → ByteArray → Int → Option ρ) (knxt : ByteArray → ByteArray → Int → Option ρ) (a0 : ByteArray) (b1 : ByteArray) (i5 : Int) : Option ρ :=
chk (0 ≤ i5 ∧ i5 < (a0.size : Int)) <|
chk (0 ≤ i5 ∧ i5 < (b1.size : Int)) <|
let v_1 : Bool := (((a0.data.toList.getD i5.toNat 0).toNat : Int) != ((b1.data.toList.getD i5.toNat 0).toNat : Int))
bif v_1 then
kgoto0 a0 b1 i5
else
knxt a0 b1 (IntKind.i64.wrap (i5 + 1))

noncomputable def value_text_l2_b {ρ : Type} (k : Nat) (kgoto0 : ByteArray → ByteArray → Int → Option ρ) (kexit0 : ByteArray → ByteArray → Option ρ) (rec : ByteArray → ByteArray → Int → Option ρ) (a0 : ByteArray) (b1 : ByteArray) (i5 : Int) : Option ρ :=
bif (decide (i5 < (a0.size : Int))) then
bif (decide (i5 < (b1.size : Int))) then
value_text_j3 k kgoto0 rec a0 b1 i5
else
kexit0 a0 b1
else
kexit0 a0 b1
noncomputable def value_text_l2 {ρ : Type} (k : Nat) (kgoto0 : ByteArray → ByteArray → Int → Option ρ) (kexit0 : ByteArray → ByteArray → Option ρ) : Nat → ByteArray → ByteArray → Int → Option ρ
  | 0, _, _, _ => none
  | n + 1, a0, b1, i5 => value_text_l2_b k kgoto0 kexit0 (value_text_l2 k kgoto0 kexit0 n) a0 b1 i5

/-- cadastre/value.text -/
noncomputable def value_text (k : Nat) (a0 : ByteArray) (b1 : ByteArray) : Option Int :=
value_text_l2 k (fun a0_8 b1_9 i5_10 =>
chk (0 ≤ i5_10 ∧ i5_10 < (a0_8.size : Int)) <|
chk (0 ≤ i5_10 ∧ i5_10 < (b1_9.size : Int)) <|
(value_sign k (IntKind.i64.wrap ((a0_8.data.toList.getD i5_10.toNat 0).toNat : Int)) (IntKind.i64.wrap ((b1_9.data.toList.getD i5_10.toNat 0).toNat : Int))).bind fun r_11 =>
some r_11) (fun a0_12 b1_13 =>
(value_sign k (a0_12.size : Int) (b1_13.size : Int)).bind fun r_14 =>
some r_14) k a0 b1 0

/-- cadastre/value.Order -/
noncomputable def value_Order (k : Nat) (a0 : S29) (b1 : S29) : Option Int :=
bif (a0.f0 != b1.f0) then
(value_sign k a0.f0 b1.f0).bind fun r_1 =>
some r_1
else
bif (a0.f0 == 1) then
(value_sign k a0.f1 b1.f1).bind fun r_2 =>
some r_2
else
(value_text k a0.f2 b1.f2).bind fun r_3 =>
some r_3

noncomputable def logic_Test_j5 {ρ : Type} (k : Nat) (kret : Int → S29 → Option ρ) (op0 : Int) (a4 : S29) (b5 : S29) (t6 : S29) : Option ρ :=
(value_Order k a4 b5).bind fun r_2 =>
bif (op0 == 15) then
(logic_said k (r_2 == 0)).bind fun r_3 =>
kret 0 r_3
else
bif (op0 == 16) then
(logic_said k (r_2 != 0)).bind fun r_4 =>
kret 0 r_4
else
bif (op0 == 17) then
(logic_said k (decide (r_2 < 0))).bind fun r_5 =>
kret 0 r_5
else
bif (op0 == 18) then
(logic_said k (decide (r_2 ≤ 0))).bind fun r_6 =>
kret 0 r_6
else
bif (op0 == 19) then
(logic_said k (decide (r_2 > 0))).bind fun r_7 =>
kret 0 r_7
else
(logic_said k (decide (r_2 ≥ 0))).bind fun r_8 =>
kret 0 r_8

noncomputable def logic_Test_j3 {ρ : Type} (k : Nat) (kret : Int → S29 → Option ρ) (op0 : Int) (a4 : S29) (b5 : S29) (t6 : S29) : Option ρ :=
bif (a4.f0 == 0) then
kret 0 (⟨0, 0, ByteArray.empty⟩ : S29)
else
bif (b5.f0 == 0) then
kret 0 (⟨0, 0, ByteArray.empty⟩ : S29)
else
logic_Test_j5 k kret op0 a4 b5 t6

/-- cadastre/logic.Test -/
noncomputable def logic_Test (k : Nat) (op0 : Int) (a1 : S29) (b2 : S29) : Option (S29 × Int) :=
bif (decide (op0 < 15)) then
some ((⟨0, 0, ByteArray.empty⟩ : S29), 1)
else
bif (decide (op0 > 20)) then
some ((⟨0, 0, ByteArray.empty⟩ : S29), 1)
else
(value_All k [a1, b2]).bind fun r_1 =>
bif (!r_1) then
some ((⟨0, 0, ByteArray.empty⟩ : S29), 1)
else
logic_Test_j3 k (fun t7_11 t6_12 =>
some (t6_12, t7_11)) op0 a1 b2 (⟨0, 0, ByteArray.empty⟩ : S29)

noncomputable def logic_Join_j3 {ρ : Type} (k : Nat) (kret : Int → S29 → Option ρ) (op0 : Int) (a4 : S29) (b5 : S29) (t6 : S29) : Option ρ :=
(logic_truth k a4).bind fun r_2 =>
bif (r_2.2 != 0) then
kret r_2.2 (⟨0, 0, ByteArray.empty⟩ : S29)
else
(logic_truth k b5).bind fun r_3 =>
bif (r_3.2 != 0) then
kret r_3.2 (⟨0, 0, ByteArray.empty⟩ : S29)
else
bif (op0 == 21) then
(logic_answer k (if r_3.1 < r_2.1 then r_3.1 else r_2.1)).bind fun r_4 =>
kret 0 r_4
else
(logic_answer k (if r_3.1 > r_2.1 then r_3.1 else r_2.1)).bind fun r_5 =>
kret 0 r_5

/-- cadastre/logic.Join -/
noncomputable def logic_Join (k : Nat) (op0 : Int) (a1 : S29) (b2 : S29) : Option (S29 × Int) :=
bif (op0 != 21) then
bif (op0 != 22) then
some ((⟨0, 0, ByteArray.empty⟩ : S29), 1)
else
(value_All k [a1, b2]).bind fun r_1 =>
bif (!r_1) then
some ((⟨0, 0, ByteArray.empty⟩ : S29), 1)
else
logic_Join_j3 k (fun t7_6 t6_7 =>
some (t6_7, t7_6)) op0 a1 b2 (⟨0, 0, ByteArray.empty⟩ : S29)
else
(value_All k [a1, b2]).bind fun r_8 =>
bif (!r_8) then
some ((⟨0, 0, ByteArray.empty⟩ : S29), 1)
else
logic_Join_j3 k (fun t7_9 t6_10 =>
some (t6_10, t7_9)) op0 a1 b2 (⟨0, 0, ByteArray.empty⟩ : S29)

/-- cadastre/eval.Bin -/
noncomputable def eval_Bin (k : Nat) (op0 : Int) (a1 : S29) (b2 : S29) : Option (S29 × Int) :=
bif (op0 == 14) then
(arith_Concat k a1 b2).bind fun r_1 =>
some (r_1.1, r_1.2)
else
bif (decide (op0 ≤ 13)) then
(arith_Do k op0 a1 b2).bind fun r_2 =>
some (r_2.1, r_2.2)
else
bif (decide (op0 ≤ 20)) then
(logic_Test k op0 a1 b2).bind fun r_3 =>
some (r_3.1, r_3.2)
else
(logic_Join k op0 a1 b2).bind fun r_4 =>
some (r_4.1, r_4.2)

/-- (*cadastre/vm.machine).asks -/
noncomputable def vm_machine_asks_p0 (k : Nat) (c1 : S43) (bx0 : S55) : Option ((Bool × Int) × S55) :=
chk (0 ≤ c1.f2 ∧ c1.f2 < (256 : Int)) <|
chk (c1.f2.toNat < 256) <|
bif (c1.f0 == 7) then
(logic_Not k (bx0.f0.getD c1.f2.toNat default)).bind fun r_1 =>
bif (r_1.2 != 0) then
some ((false, r_1.2), bx0)
else
(logic_True k r_1.1).bind fun r_2 =>
some ((r_2.1, r_2.2), bx0)
else
(logic_True k (bx0.f0.getD c1.f2.toNat default)).bind fun r_3 =>
some ((r_3.1, r_3.2), bx0)

/-- (*cadastre/vm.machine).does -/
noncomputable def vm_machine_does_p0 (k : Nat) (c1 : S43) (bx0 : S55) : Option ((S29 × Int) × S55) :=
bif (c1.f0 == 1) then
some ((c1.f4, 0), bx0)
else
bif (c1.f0 == 2) then
chk (0 ≤ c1.f2 ∧ c1.f2 < (bx0.f1.length : Int)) <|
some (((bx0.f1.getD c1.f2.toNat default), 0), bx0)
else
bif (c1.f0 == 3) then
chk (0 ≤ c1.f2 ∧ c1.f2 < (256 : Int)) <|
chk (c1.f2.toNat < 256) <|
(eval_Un k c1.f3 (bx0.f0.getD c1.f2.toNat default)).bind fun r_1 =>
some ((r_1.1, r_1.2), bx0)
else
chk (0 ≤ c1.f2 ∧ c1.f2 < (256 : Int)) <|
chk (c1.f2.toNat < 256) <|
chk (0 ≤ c1.f3 ∧ c1.f3 < (256 : Int)) <|
chk (c1.f3.toNat < 256) <|
(eval_Bin k c1.f5 (bx0.f0.getD c1.f2.toNat default) (bx0.f0.getD c1.f3.toNat default)).bind fun r_2 =>
some ((r_2.1, r_2.2), bx0)

noncomputable def vm_Run_j22 {ρ : Type} (k : Nat) (knxt : List S43 → Int → Int → Int → Int → S29 → S55 → Option ρ) (l0 : List S43) (most2 : Int) (at9 : Int) (steps10 : Int) (t6 : S29) (c12 : S43) (t31 : S55) : Option ρ :=
(vm_machine_asks_p0 k c12 t31).bind fun r_3 =>
bif r_3.1.1 then
knxt l0 most2 c12.f5 steps10 r_3.1.2 t6 r_3.2
else
knxt l0 most2 at9 steps10 r_3.1.2 t6 r_3.2

noncomputable def vm_Run_j26 {ρ : Type} (k : Nat) (kgoto0 : List S43 → Int → Int → Int → S29 → S55 → Option ρ) (kret : Int → S29 → Option ρ) (l0 : List S43) (most2 : Int) (at9 : Int) (steps10 : Int) (e11 : Int) (t6 : S29) (t31 : S55) : Option ρ :=
bif (e11 == 0) then
kgoto0 l0 most2 at9 steps10 t6 t31
else
kret e11 (⟨0, 0, ByteArray.empty⟩ : S29)

noncomputable def vm_Run_j15 {ρ : Type} (k : Nat) (knxt : List S43 → Int → Int → Int → Int → S29 → S55 → Option ρ) (l0 : List S43) (most2 : Int) (at9 : Int) (steps10 : Int) (t6 : S29) (c12 : S43) (t31 : S55) : Option ρ :=
(vm_machine_does_p0 k c12 t31).bind fun r_34 =>
chk (0 ≤ c12.f1 ∧ c12.f1 < (256 : Int)) <|
chk (c12.f1.toNat < 256) <|
chk (c12.f1.toNat < r_34.2.f0.length) <|
knxt l0 most2 at9 steps10 r_34.1.2 t6 (⟨(r_34.2.f0.set c12.f1.toNat r_34.1.1), r_34.2.f1⟩ : S55)

noncomputable def vm_Run_j7 {ρ : Type} (k : Nat) (kret : Int → S29 → Option ρ) (kgoto0 : List S43 → Int → Int → Int → S29 → S55 → Option ρ) (l0 : List S43) (most2 : Int) (at9 : Int) (steps10 : Int) (t6 : S29) (t31 : S55) : Option ρ :=
bif (at9 == (l0.length : Int)) then
kret 1 (⟨0, 0, ByteArray.empty⟩ : S29)
else
bif (steps10 == most2) then
kret 7 (⟨0, 0, ByteArray.empty⟩ : S29)
else
chk (0 ≤ at9 ∧ at9 < (l0.length : Int)) <|
bif ((l0.getD at9.toNat default).f0 == 8) then
chk (0 ≤ (l0.getD at9.toNat default).f1 ∧ (l0.getD at9.toNat default).f1 < (256 : Int)) <|
chk ((l0.getD at9.toNat default).f1.toNat < 256) <|
kret 0 (t31.f0.getD (l0.getD at9.toNat default).f1.toNat default)
else
bif ((l0.getD at9.toNat default).f0 == 5) then
kgoto0 l0 most2 (l0.getD at9.toNat default).f5 (IntKind.i64.wrap (steps10 + 1)) t6 t31
else
bif ((l0.getD at9.toNat default).f0 == 6) then
vm_Run_j22 k (fun l0_4 most2_5 at9_6 steps10_7 e11_8 t6_9 t31_10 =>
vm_Run_j26 k kgoto0 kret l0_4 most2_5 at9_6 steps10_7 e11_8 t6_9 t31_10) l0 most2 (IntKind.i64.wrap (at9 + 1)) (IntKind.i64.wrap (steps10 + 1)) t6 (l0.getD at9.toNat default) t31
else
bif ((l0.getD at9.toNat default).f0 == 7) then
vm_Run_j22 k (fun l0_19 most2_20 at9_21 steps10_22 e11_23 t6_24 t31_25 =>
vm_Run_j26 k kgoto0 kret l0_19 most2_20 at9_21 steps10_22 e11_23 t6_24 t31_25) l0 most2 (IntKind.i64.wrap (at9 + 1)) (IntKind.i64.wrap (steps10 + 1)) t6 (l0.getD at9.toNat default) t31
else
vm_Run_j15 k (fun l0_35 most2_36 at9_37 steps10_38 e11_39 t6_40 t31_41 =>
vm_Run_j26 k kgoto0 kret l0_35 most2_36 at9_37 steps10_38 e11_39 t6_40 t31_41) l0 most2 (IntKind.i64.wrap (at9 + 1)) (IntKind.i64.wrap (steps10 + 1)) t6 (l0.getD at9.toNat default) t31

noncomputable def vm_Run_j3 {ρ : Type} (k : Nat) (kret : Int → S29 → Option ρ) (kgoto0 : List S43 → Int → Int → Int → S29 → S55 → Option ρ) (l0 : List S43) (row1 : List S29) (most2 : Int) (t6 : S29) : Option ρ :=
vm_Run_j7 k kret kgoto0 l0 most2 0 0 t6 (⟨(List.replicate 256 default), row1⟩ : S55)

noncomputable def vm_Run_g0_b {ρ : Type} (k : Nat) (kret : Int → S29 → Option ρ) (rec : (List S43) → Int → Int → Int → S29 → S55 → Option ρ) (l0 : List S43) (most2 : Int) (at9 : Int) (steps10 : Int) (t6 : S29) (t31 : S55) : Option ρ :=
vm_Run_j7 k kret rec l0 most2 at9 steps10 t6 t31
noncomputable def vm_Run_g0 {ρ : Type} (k : Nat) (kret : Int → S29 → Option ρ) : Nat → (List S43) → Int → Int → Int → S29 → S55 → Option ρ
  | 0, _, _, _, _, _, _ => none
  | n + 1, l0, most2, at9, steps10, t6, t31 => vm_Run_g0_b k kret (vm_Run_g0 k kret n) l0 most2 at9 steps10 t6 t31

/-- cadastre/vm.Run -/
noncomputable def vm_Run (k : Nat) (l0 : List S43) (row1 : List S29) (most2 : Int) : Option (S29 × Int) :=
(vm_Check k l0 (row1.length : Int)).bind fun r_1 =>
bif (r_1 != 0) then
some ((⟨0, 0, ByteArray.empty⟩ : S29), 1)
else
(value_All k row1).bind fun r_2 =>
bif (!r_2) then
some ((⟨0, 0, ByteArray.empty⟩ : S29), 1)
else
bif (decide (most2 < 0)) then
some ((⟨0, 0, ByteArray.empty⟩ : S29), 1)
else
vm_Run_j3 k (fun t7_58 t6_59 =>
some (t6_59, t7_58)) (fun l0_60 most2_61 at9_62 steps10_63 t6_64 t31_65 =>
vm_Run_g0 k (fun t7_74 t6_75 =>
some (t6_75, t7_74)) k l0_60 most2_61 at9_62 steps10_63 t6_64 t31_65) l0 row1 most2 (⟨0, 0, ByteArray.empty⟩ : S29)

/-- cadastre/cadastrelaw24.num -/
noncomputable def cadastrelaw24_num (k : Nat) (e0 : Int) : Option Int :=
some e0

noncomputable def cadastreref0_EqCodes_l4_b {ρ : Type} (k : Nat) (kret : Bool → Option ρ) (kexit0 : Option ρ) (rec : (List S43) → (List S43) → Int → Option ρ) (a0 : List S43) (b1 : List S43) (i5 : Int) : Option ρ :=
bif (decide (i5 < (a0.length : Int))) then
chk (0 ≤ i5 ∧ i5 < (a0.length : Int)) <|
chk (0 ≤ i5 ∧ i5 < (b1.length : Int)) <|
let v_1 : Bool := (!(((a0.getD i5.toNat default).f0 == (b1.getD i5.toNat default).f0) && (((a0.getD i5.toNat default).f1 == (b1.getD i5.toNat default).f1) && (((a0.getD i5.toNat default).f2 == (b1.getD i5.toNat default).f2) && (((a0.getD i5.toNat default).f3 == (b1.getD i5.toNat default).f3) && (((a0.getD i5.toNat default).f4.f0 == (b1.getD i5.toNat default).f4.f0) && (((a0.getD i5.toNat default).f4.f1 == (b1.getD i5.toNat default).f4.f1) && (((a0.getD i5.toNat default).f4.f2 == (b1.getD i5.toNat default).f4.f2) && ((a0.getD i5.toNat default).f5 == (b1.getD i5.toNat default).f5)))))))))
bif v_1 then
kret false
else
rec a0 b1 (IntKind.i64.wrap (i5 + 1))
else
kexit0
noncomputable def cadastreref0_EqCodes_l4 {ρ : Type} (k : Nat) (kret : Bool → Option ρ) (kexit0 : Option ρ) : Nat → (List S43) → (List S43) → Int → Option ρ
  | 0, _, _, _ => none
  | n + 1, a0, b1, i5 => cadastreref0_EqCodes_l4_b k kret kexit0 (cadastreref0_EqCodes_l4 k kret kexit0 n) a0 b1 i5

/-- cadastre/cadastreref0.EqCodes -/
noncomputable def cadastreref0_EqCodes (k : Nat) (a0 : List S43) (b1 : List S43) : Option Bool :=
bif ((a0.length : Int) != (b1.length : Int)) then
some false
else
cadastreref0_EqCodes_l4 k (fun t4_2 =>
some t4_2) (some true) k a0 b1 0

/-- cadastre/cadastrelaw24.wakes -/
noncomputable def cadastrelaw24_wakes (k : Nat) : Option Bool :=
(vm_Run k [(⟨1, 0, 0, 0, (⟨1, 5, ByteArray.empty⟩ : S29), 0⟩ : S43), (⟨8, 0, 0, 0, (⟨0, 0, ByteArray.empty⟩ : S29), 0⟩ : S43)] [] 5).bind fun r_1 =>
(cadastrelaw24_num k r_1.2).bind fun r_2 =>
bif (r_2 == 0) then
let v_3 : Bool := ((r_1.1.f0 == 1) && ((r_1.1.f1 == 5) && (r_1.1.f2 == ByteArray.empty)))
some v_3
else
some false

noncomputable def cadastrelaw24_VmExact_j13 {ρ : Type} (k : Nat) (knxt : List S25 → Int → Int → Int → S25 → S29 → Option ρ) (l0 : List S25) (i3 : Int) (check5 : Int) (p4 : S25) (want7 : S29) : Option ρ :=
(cadastreref23_Run k p4.f0 p4.f1 p4.f2).bind fun r_5 =>
knxt l0 i3 check5 r_5.2 p4 r_5.1

noncomputable def cadastrelaw24_VmExact_j14 {ρ : Type} (k : Nat) (kret : Bool → Option ρ) (knxt : List S25 → Int → Option ρ) (l0 : List S25) (i3 : Int) (check5 : Int) (bad6 : Int) (p4 : S25) (want7 : S29) : Option ρ :=
(cadastreref0_CopyCodes k p4.f0).bind fun r_12 =>
(vm_Run k r_12 p4.f1 p4.f2).bind fun r_13 =>
(vm_Check k r_12 p4.f3).bind fun r_14 =>
(cadastrelaw24_num k r_14).bind fun r_15 =>
bif (r_15 != check5) then
kret false
else
(cadastrelaw24_num k r_13.2).bind fun r_16 =>
bif (r_16 != bad6) then
kret false
else
let v_17 : Bool := (!((r_13.1.f0 == want7.f0) && ((r_13.1.f1 == want7.f1) && (r_13.1.f2 == want7.f2))))
bif v_17 then
kret false
else
(cadastreref0_EqCodes k r_12 p4.f0).bind fun r_18 =>
bif (!r_18) then
kret false
else
knxt l0 i3

noncomputable def cadastrelaw24_VmExact_j10 {ρ : Type} (k : Nat) (kret : Bool → Option ρ) (knxt : List S25 → Int → Option ρ) (l0 : List S25) (i3 : Int) (check5 : Int) (p4 : S25) : Option ρ :=
(cadastreref23_Code k p4.f0 (p4.f1.length : Int)).bind fun r_3 =>
bif r_3 then
(cadastreref2_All k p4.f1).bind fun r_4 =>
bif r_4 then
bif (decide (p4.f2 ≥ 0)) then
cadastrelaw24_VmExact_j13 k (fun l0_6 i3_7 check5_8 bad6_9 p4_10 want7_11 =>
cadastrelaw24_VmExact_j14 k kret knxt l0_6 i3_7 check5_8 bad6_9 p4_10 want7_11) l0 i3 check5 p4 (⟨0, 0, ByteArray.empty⟩ : S29)
else
cadastrelaw24_VmExact_j14 k kret knxt l0 i3 check5 1 p4 (⟨0, 0, ByteArray.empty⟩ : S29)
else
cadastrelaw24_VmExact_j14 k kret knxt l0 i3 check5 1 p4 (⟨0, 0, ByteArray.empty⟩ : S29)
else
cadastrelaw24_VmExact_j14 k kret knxt l0 i3 check5 1 p4 (⟨0, 0, ByteArray.empty⟩ : S29)

noncomputable def cadastrelaw24_VmExact_j4 {ρ : Type} (k : Nat) (kret : Bool → Option ρ) (knxt : List S25 → Int → Option ρ) (l0 : List S25) (i3 : Int) : Option ρ :=
chk (0 ≤ i3 ∧ i3 < (l0.length : Int)) <|
(cadastrelaw24_heavy k (l0.getD i3.toNat default)).bind fun r_1 =>
bif r_1 then
kret true
else
(cadastreref23_Code k (l0.getD i3.toNat default).f0 (l0.getD i3.toNat default).f3).bind fun r_2 =>
bif r_2 then
cadastrelaw24_VmExact_j10 k kret (fun l0_32 i3_33 =>
knxt l0_32 (IntKind.i64.wrap (i3_33 + 1))) l0 i3 0 (l0.getD i3.toNat default)
else
cadastrelaw24_VmExact_j10 k kret (fun l0_35 i3_36 =>
knxt l0_35 (IntKind.i64.wrap (i3_36 + 1))) l0 i3 1 (l0.getD i3.toNat default)

noncomputable def cadastrelaw24_VmExact_l2_b {ρ : Type} (k : Nat) (kret : Bool → Option ρ) (kexit0 : Option ρ) (rec : (List S25) → Int → Option ρ) (l0 : List S25) (i3 : Int) : Option ρ :=
bif (decide (i3 < (l0.length : Int))) then
bif (decide (i3 < 8)) then
cadastrelaw24_VmExact_j4 k kret rec l0 i3
else
kexit0
else
kexit0
noncomputable def cadastrelaw24_VmExact_l2 {ρ : Type} (k : Nat) (kret : Bool → Option ρ) (kexit0 : Option ρ) : Nat → (List S25) → Int → Option ρ
  | 0, _, _ => none
  | n + 1, l0, i3 => cadastrelaw24_VmExact_l2_b k kret kexit0 (cadastrelaw24_VmExact_l2 k kret kexit0 n) l0 i3

/-- cadastre/cadastrelaw24.VmExact -/
noncomputable def cadastrelaw24_VmExact (k : Nat) (l0 : List S25) : Option Bool :=
cadastrelaw24_VmExact_l2 k (fun t2_40 =>
some t2_40) ((cadastrelaw24_wakes k).bind fun r_41 =>
some r_41) k l0 0

noncomputable def cadastrelaw24_VmSteps_j13 {ρ : Type} (k : Nat) (kret : Bool → Option ρ) (knxt : List S25 → Int → Option ρ) (l0 : List S25) (i3 : Int) (n5 : Int) (e7 : Int) (p4 : S25) (a6 : S29) : Option ρ :=
(vm_Run k p4.f0 p4.f1 (IntKind.i64.wrap (n5 + 100))).bind fun r_10 =>
(cadastrelaw24_num k r_10.2).bind fun r_11 =>
(cadastrelaw24_num k e7).bind fun r_12 =>
bif (r_11 != r_12) then
kret false
else
let v_13 : Bool := (!((r_10.1.f0 == a6.f0) && ((r_10.1.f1 == a6.f1) && (r_10.1.f2 == a6.f2))))
bif v_13 then
kret false
else
knxt l0 i3

noncomputable def cadastrelaw24_VmSteps_j12 {ρ : Type} (k : Nat) (kexit1 : List S25 → Int → Option ρ) (kret : Bool → Option ρ) (knxt : List S25 → Int → Option ρ) (l0 : List S25) (i3 : Int) (n5 : Int) (e7 : Int) (p4 : S25) (a6 : S29) : Option ρ :=
(cadastrelaw24_num k e7).bind fun r_8 =>
bif (r_8 == 7) then
kexit1 l0 i3
else
(cadastrelaw24_num k e7).bind fun r_9 =>
bif (r_9 == 1) then
kexit1 l0 i3
else
cadastrelaw24_VmSteps_j13 k kret knxt l0 i3 n5 e7 p4 a6

noncomputable def cadastrelaw24_VmSteps_j4 {ρ : Type} (k : Nat) (kret : Bool → Option ρ) (knxt : List S25 → Int → Option ρ) (l0 : List S25) (i3 : Int) : Option ρ :=
chk (0 ≤ i3 ∧ i3 < (l0.length : Int)) <|
(cadastrelaw24_heavy k (l0.getD i3.toNat default)).bind fun r_1 =>
bif r_1 then
kret true
else
let v_2 : Int := (if (l0.getD i3.toNat default).f2 > (0 : Int) then (l0.getD i3.toNat default).f2 else (0 : Int))
(vm_Run k (l0.getD i3.toNat default).f0 (l0.getD i3.toNat default).f1 v_2).bind fun r_3 =>
(vm_Run k (l0.getD i3.toNat default).f0 (l0.getD i3.toNat default).f1 v_2).bind fun r_4 =>
(cadastrelaw24_num k r_3.2).bind fun r_5 =>
(cadastrelaw24_num k r_4.2).bind fun r_6 =>
bif (r_5 != r_6) then
kret false
else
let v_7 : Bool := (!((r_3.1.f0 == r_4.1.f0) && ((r_3.1.f1 == r_4.1.f1) && (r_3.1.f2 == r_4.1.f2))))
bif v_7 then
kret false
else
cadastrelaw24_VmSteps_j12 k (fun l0_17 i3_18 =>
knxt l0_17 (IntKind.i64.wrap (i3_18 + 1))) kret (fun l0_20 i3_21 =>
knxt l0_20 (IntKind.i64.wrap (i3_21 + 1))) l0 i3 v_2 r_3.2 (l0.getD i3.toNat default) r_3.1

noncomputable def cadastrelaw24_VmSteps_l2_b {ρ : Type} (k : Nat) (kret : Bool → Option ρ) (kexit0 : Option ρ) (rec : (List S25) → Int → Option ρ) (l0 : List S25) (i3 : Int) : Option ρ :=
bif (decide (i3 < (l0.length : Int))) then
bif (decide (i3 < 8)) then
cadastrelaw24_VmSteps_j4 k kret rec l0 i3
else
kexit0
else
kexit0
noncomputable def cadastrelaw24_VmSteps_l2 {ρ : Type} (k : Nat) (kret : Bool → Option ρ) (kexit0 : Option ρ) : Nat → (List S25) → Int → Option ρ
  | 0, _, _ => none
  | n + 1, l0, i3 => cadastrelaw24_VmSteps_l2_b k kret kexit0 (cadastrelaw24_VmSteps_l2 k kret kexit0 n) l0 i3

/-- cadastre/cadastrelaw24.VmSteps -/
noncomputable def cadastrelaw24_VmSteps (k : Nat) (l0 : List S25) : Option Bool :=
cadastrelaw24_VmSteps_l2 k (fun t2_25 =>
some t2_25) ((vm_Run k [(⟨5, 0, 0, 0, (⟨0, 0, ByteArray.empty⟩ : S29), 0⟩ : S43)] [] 500).bind fun r_26 =>
(cadastreref2_Int k 5).bind fun r_27 =>
(vm_Run k [(⟨1, 255, 0, 0, r_27, 0⟩ : S43), (⟨8, 255, 0, 0, (⟨0, 0, ByteArray.empty⟩ : S29), 0⟩ : S43)] [] 2).bind fun r_28 =>
(cadastrelaw24_num k r_26.2).bind fun r_29 =>
bif (r_29 == 7) then
(cadastrelaw24_num k r_28.2).bind fun r_30 =>
bif (r_30 == 0) then
(cadastreref2_Int k 5).bind fun r_31 =>
let v_32 : Bool := ((r_28.1.f0 == r_31.f0) && ((r_28.1.f1 == r_31.f1) && (r_28.1.f2 == r_31.f2)))
bif v_32 then
(cadastrelaw24_wakes k).bind fun r_33 =>
some r_33
else
some false
else
some false
else
some false) k l0 0
end Go.Proofs.YtjkgphpmdkbpfaaDoor.V
