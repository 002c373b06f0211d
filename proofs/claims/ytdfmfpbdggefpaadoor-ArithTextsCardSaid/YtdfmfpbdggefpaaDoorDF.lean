/-
  The program's functions as plain functions over plain data, as a program has printed them.
-/
import Derived.Test.YtdfmfpbdggefpaaDoorAxDef
import Derived.Lib.ItoaNum
namespace Go.Proofs.YtdfmfpbdggefpaaDoor.D
open Go Go.AX
/-- cadastre/api.Value -/
structure S23 where
  f0 : Int
  f1 : Int
  f2 : ByteArray
instance : Inhabited S23 := ⟨⟨0, 0, ByteArray.empty⟩⟩
/-- cadastre/cadastrelaw5.Ask -/
structure S25 where
  f0 : ByteArray
  f1 : S23
  f2 : Int
instance : Inhabited S25 := ⟨⟨ByteArray.empty, default, 0⟩⟩
/-- cadastre/cadastrelaw4.Two -/
structure S45 where
  f0 : S23
  f1 : S23
  f2 : Int
instance : Inhabited S45 := ⟨⟨default, default, 0⟩⟩
noncomputable def cast_Int_j15 {ρ : Type} (k : Nat) (kgoto1 : ByteArray → Bool → Int → Bool → Int → Option ρ) (s0 : ByteArray) (neg4 : Bool) (n5 : Int) (over6 : Bool) (i7 : Int) : Option ρ :=
kgoto1 s0 neg4 n5 over6 (IntKind.i64.wrap (i7 + 1))

noncomputable def cast_Int_j11 {ρ : Type} (k : Nat) (kgoto1 : ByteArray → Bool → Int → Bool → Int → Option ρ) (s0 : ByteArray) (neg4 : Bool) (n5 : Int) (over6 : Bool) (i7 : Int) : Option ρ :=
chk (0 ≤ i7 ∧ i7 < (s0.size : Int)) <|
let v_1 : Int := (IntKind.u8.wrap (((s0.data.toList.getD i7.toNat 0).toNat : Int) - 48))
bif over6 then
cast_Int_j15 k kgoto1 s0 neg4 n5 true i7
else
let v_7 : Int := (IntKind.i64.wrap (Int.tdiv (IntKind.i64.wrap ((-9223372036854775808) + (IntKind.i64.wrap v_1))) 10))
bif (decide (n5 < v_7)) then
cast_Int_j15 k kgoto1 s0 neg4 n5 true i7
else
let v_13 : Int := (IntKind.i64.wrap ((IntKind.i64.wrap (10 * n5)) - (IntKind.i64.wrap v_1)))
cast_Int_j15 k kgoto1 s0 neg4 v_13 over6 i7

noncomputable def cast_Int_j8 {ρ : Type} (k : Nat) (kgoto0 : Bool → Int → Bool → Option ρ) (kret : Int → Int → Option ρ) (kgoto1 : ByteArray → Bool → Int → Bool → Int → Option ρ) (s0 : ByteArray) (neg4 : Bool) (n5 : Int) (over6 : Bool) (i7 : Int) : Option ρ :=
bif (i7 == (s0.size : Int)) then
kgoto0 neg4 n5 over6
else
chk (0 ≤ i7 ∧ i7 < (s0.size : Int)) <|
bif (decide (((s0.data.toList.getD i7.toNat 0).toNat : Int) < 48)) then
kret 0 4
else
chk (0 ≤ i7 ∧ i7 < (s0.size : Int)) <|
bif (decide (((s0.data.toList.getD i7.toNat 0).toNat : Int) > 57)) then
kret 0 4
else
cast_Int_j11 k kgoto1 s0 neg4 n5 over6 i7

noncomputable def cast_Int_j4 {ρ : Type} (k : Nat) (kret : Int → Int → Option ρ) (kgoto0 : Bool → Int → Bool → Option ρ) (kgoto1 : ByteArray → Bool → Int → Bool → Int → Option ρ) (s0 : ByteArray) (neg4 : Bool) : Option ρ :=
bif (s0.toList == ByteArray.empty.toList) then
kret 0 4
else
cast_Int_j8 k kgoto0 kret kgoto1 s0 neg4 0 false 0

noncomputable def cast_Int_j2 {ρ : Type} (k : Nat) (kret : Int → Int → Option ρ) (kgoto0 : Bool → Int → Bool → Option ρ) (kgoto1 : ByteArray → Bool → Int → Bool → Int → Option ρ) (s0 : ByteArray) (neg4 : Bool) : Option ρ :=
bif neg4 then
chk (0 ≤ (1 : Int) ∧ (1 : Int) ≤ (s0.size : Int) ∧ (s0.size : Int) ≤ (s0.size : Int)) <|
cast_Int_j4 k kret kgoto0 kgoto1 (s0.extract (1 : Int).toNat (s0.size : Int).toNat) neg4
else
bif (decide ((s0.size : Int) > 0)) then
chk (0 ≤ (0 : Int) ∧ (0 : Int) < (s0.size : Int)) <|
bif (((s0.data.toList.getD 0 0).toNat : Int) == 43) then
chk (0 ≤ (1 : Int) ∧ (1 : Int) ≤ (s0.size : Int) ∧ (s0.size : Int) ≤ (s0.size : Int)) <|
cast_Int_j4 k kret kgoto0 kgoto1 (s0.extract (1 : Int).toNat (s0.size : Int).toNat) neg4
else
cast_Int_j4 k kret kgoto0 kgoto1 s0 neg4
else
cast_Int_j4 k kret kgoto0 kgoto1 s0 neg4

noncomputable def cast_Int_g1_b {ρ : Type} (k : Nat) (kret : Int → Int → Option ρ) (rec : ByteArray → Bool → Int → Bool → Int → Option ρ) (s0 : ByteArray) (neg4 : Bool) (n5 : Int) (over6 : Bool) (i7 : Int) : Option ρ :=
cast_Int_j8 k (fun neg4_84 n5_85 over6_86 =>
bif over6_86 then
kret 0 5
else
bif (!neg4_84) then
bif (big (n5_85 == (-9223372036854775808))) then
kret 0 5
else
bif neg4_84 then
kret n5_85 0
else
kret (IntKind.i64.wrap (0 - n5_85)) 0
else
bif neg4_84 then
kret n5_85 0
else
kret (IntKind.i64.wrap (0 - n5_85)) 0) kret rec s0 neg4 n5 over6 i7
noncomputable def cast_Int_g1 {ρ : Type} (k : Nat) (kret : Int → Int → Option ρ) : Nat → ByteArray → Bool → Int → Bool → Int → Option ρ
  | 0, _, _, _, _, _ => none
  | n + 1, s0, neg4, n5, over6, i7 => cast_Int_g1_b k kret (cast_Int_g1 k kret n) s0 neg4 n5 over6 i7

/-- cadastre/cast.Int -/
noncomputable def cast_Int (k : Nat) (s0 : ByteArray) : Option (Int × Int) :=
bif (decide ((s0.size : Int) > 0)) then
chk (0 ≤ (0 : Int) ∧ (0 : Int) < (s0.size : Int)) <|
cast_Int_j2 k (fun t2_74 t3_75 =>
some (t2_74, t3_75)) (fun neg4_76 n5_77 over6_78 =>
bif over6_78 then
some (0, 5)
else
bif (!neg4_76) then
bif (big (n5_77 == (-9223372036854775808))) then
some (0, 5)
else
bif neg4_76 then
some (n5_77, 0)
else
some ((IntKind.i64.wrap (0 - n5_77)), 0)
else
bif neg4_76 then
some (n5_77, 0)
else
some ((IntKind.i64.wrap (0 - n5_77)), 0)) (fun s0_79 neg4_80 n5_81 over6_82 i7_83 =>
cast_Int_g1 k (fun t2_94 t3_95 =>
some (t2_94, t3_95)) k s0_79 neg4_80 n5_81 over6_82 i7_83) s0 (((s0.data.toList.getD 0 0).toNat : Int) == 45)
else
cast_Int_j2 k (fun t2_96 t3_97 =>
some (t2_96, t3_97)) (fun neg4_98 n5_99 over6_100 =>
bif over6_100 then
some (0, 5)
else
bif (!neg4_98) then
bif (big (n5_99 == (-9223372036854775808))) then
some (0, 5)
else
bif neg4_98 then
some (n5_99, 0)
else
some ((IntKind.i64.wrap (0 - n5_99)), 0)
else
bif neg4_98 then
some (n5_99, 0)
else
some ((IntKind.i64.wrap (0 - n5_99)), 0)) (fun s0_101 neg4_102 n5_103 over6_104 i7_105 =>
cast_Int_g1 k (fun t2_106 t3_107 =>
some (t2_106, t3_107)) k s0_101 neg4_102 n5_103 over6_104 i7_105) s0 false

/-- cadastre/cadastreref2.Int -/
noncomputable def cadastreref2_Int (k : Nat) (n0 : Int) : Option S23 :=
some (⟨1, n0, ByteArray.empty⟩ : S23)

noncomputable def cadastreref4_mul_j5 {ρ : Type} (k : Nat) (kret : Int → Bool → Option ρ) (a0 : Int) (b1 : Int) : Option ρ :=
if b1 = 0 then none else
kret (IntKind.i64.wrap (a0 * b1)) ((IntKind.i64.wrap (Int.tdiv (IntKind.i64.wrap (a0 * b1)) b1)) == a0)

noncomputable def cadastreref4_mul_j3 {ρ : Type} (k : Nat) (kret : Int → Bool → Option ρ) (a0 : Int) (b1 : Int) : Option ρ :=
bif (a0 == (-1)) then
bif (big (b1 == (-9223372036854775808))) then
kret 0 false
else
bif (b1 == (-1)) then
bif (big (a0 == (-9223372036854775808))) then
kret 0 false
else
cadastreref4_mul_j5 k kret a0 b1
else
cadastreref4_mul_j5 k kret a0 b1
else
bif (b1 == (-1)) then
bif (big (a0 == (-9223372036854775808))) then
kret 0 false
else
cadastreref4_mul_j5 k kret a0 b1
else
cadastreref4_mul_j5 k kret a0 b1

/-- cadastre/cadastreref4.mul -/
noncomputable def cadastreref4_mul (k : Nat) (a0 : Int) (b1 : Int) : Option (Int × Bool) :=
bif (a0 == 0) then
some (0, true)
else
bif (b1 == 0) then
some (0, true)
else
cadastreref4_mul_j3 k (fun t4_9 t5_10 =>
some (t4_9, t5_10)) a0 b1

noncomputable def cadastreref4_Do_j28 {ρ : Type} (k : Nat) (kret : Int → S23 → Option ρ) (n10 : Int) (ok11 : Bool) (t6 : S23) : Option ρ :=
bif (!ok11) then
kret 5 (⟨0, 0, ByteArray.empty⟩ : S23)
else
(cadastreref2_Int k n10).bind fun r_2 =>
kret 0 r_2

noncomputable def cadastreref4_Do_j5 {ρ : Type} (k : Nat) (kret : Int → S23 → Option ρ) (op0 : Int) (a4 : S23) (b5 : S23) (t6 : S23) : Option ρ :=
bif (op0 == 9) then
(cadastreref4_mul k a4.f1 b5.f1).bind fun r_1 =>
cadastreref4_Do_j28 k kret r_1.1 r_1.2 t6
else
bif (op0 == 12) then
let v_5 : Bool := ((decide (b5.f1 ≥ 0)) == (decide ((IntKind.i64.wrap (a4.f1 + b5.f1)) ≥ a4.f1)))
cadastreref4_Do_j28 k kret (IntKind.i64.wrap (a4.f1 + b5.f1)) v_5 t6
else
bif (op0 == 13) then
let v_8 : Bool := ((decide (b5.f1 ≥ 0)) == (decide ((IntKind.i64.wrap (a4.f1 - b5.f1)) ≤ a4.f1)))
cadastreref4_Do_j28 k kret (IntKind.i64.wrap (a4.f1 - b5.f1)) v_8 t6
else
bif (b5.f1 == 0) then
kret 0 (⟨0, 0, ByteArray.empty⟩ : S23)
else
bif (b5.f1 == (-1)) then
bif (op0 == 11) then
(cadastreref2_Int k 0).bind fun r_11 =>
kret 0 r_11
else
cadastreref4_Do_j28 k kret (IntKind.i64.wrap (0 - a4.f1)) (big (a4.f1 != (-9223372036854775808))) t6
else
bif (op0 == 10) then
if b5.f1 = 0 then none else
cadastreref4_Do_j28 k kret (IntKind.i64.wrap (Int.tdiv a4.f1 b5.f1)) true t6
else
if b5.f1 = 0 then none else
cadastreref4_Do_j28 k kret (Int.tmod a4.f1 b5.f1) true t6

noncomputable def cadastreref4_Do_j3 {ρ : Type} (k : Nat) (kret : Int → S23 → Option ρ) (op0 : Int) (a4 : S23) (b5 : S23) (t6 : S23) : Option ρ :=
bif (a4.f0 != 1) then
kret 4 (⟨0, 0, ByteArray.empty⟩ : S23)
else
bif (b5.f0 != 1) then
kret 4 (⟨0, 0, ByteArray.empty⟩ : S23)
else
cadastreref4_Do_j5 k kret op0 a4 b5 t6

/-- cadastre/cadastreref4.Do -/
noncomputable def cadastreref4_Do (k : Nat) (op0 : Int) (a1 : S23) (b2 : S23) : Option (S23 × Int) :=
bif (a1.f0 == 0) then
some ((⟨0, 0, ByteArray.empty⟩ : S23), 0)
else
bif (b2.f0 == 0) then
some ((⟨0, 0, ByteArray.empty⟩ : S23), 0)
else
cadastreref4_Do_j3 k (fun t7_20 t6_21 =>
some (t6_21, t7_20)) op0 a1 b2 (⟨0, 0, ByteArray.empty⟩ : S23)

noncomputable def cadastreref4_Int_l8_b {ρ : Type} (k : Nat) (kret : Int → Int → Option ρ) (kexit0 : ByteArray → Int → Bool → Option ρ) (rec : ByteArray → Int → Bool → Int → Option ρ) (s0 : ByteArray) (i4 : Int) (minus5 : Bool) (k6 : Int) : Option ρ :=
bif (decide (k6 < (s0.size : Int))) then
chk (0 ≤ k6 ∧ k6 < (s0.size : Int)) <|
bif (decide (((s0.data.toList.getD k6.toNat 0).toNat : Int) < 48)) then
kret 0 4
else
chk (0 ≤ k6 ∧ k6 < (s0.size : Int)) <|
bif (decide (((s0.data.toList.getD k6.toNat 0).toNat : Int) > 57)) then
kret 0 4
else
rec s0 i4 minus5 (IntKind.i64.wrap (k6 + 1))
else
kexit0 s0 i4 minus5
noncomputable def cadastreref4_Int_l8 {ρ : Type} (k : Nat) (kret : Int → Int → Option ρ) (kexit0 : ByteArray → Int → Bool → Option ρ) : Nat → ByteArray → Int → Bool → Int → Option ρ
  | 0, _, _, _, _ => none
  | n + 1, s0, i4, minus5, k6 => cadastreref4_Int_l8_b k kret kexit0 (cadastreref4_Int_l8 k kret kexit0 n) s0 i4 minus5 k6

noncomputable def cadastreref4_Int_l18_b {ρ : Type} (k : Nat) (kret : Int → Int → Option ρ) (kexit2 : S23 → Option ρ) (rec : ByteArray → Int → Int → S23 → Option ρ) (s0 : ByteArray) (op9 : Int) (k10 : Int) (n7 : S23) : Option ρ :=
bif (decide (k10 < (s0.size : Int))) then
(cadastreref2_Int k 10).bind fun r_6 =>
(cadastreref4_Do k 9 n7 r_6).bind fun r_7 =>
bif (r_7.2 == 0) then
chk (0 ≤ k10 ∧ k10 < (s0.size : Int)) <|
let v_8 : Int := (IntKind.u8.wrap (((s0.data.toList.getD k10.toNat 0).toNat : Int) - 48))
(cadastreref2_Int k (IntKind.i64.wrap v_8)).bind fun r_9 =>
(cadastreref4_Do k op9 r_7.1 r_9).bind fun r_10 =>
bif (r_10.2 != 0) then
kret 0 r_10.2
else
rec s0 op9 (IntKind.i64.wrap (k10 + 1)) r_10.1
else
bif (r_7.2 != 0) then
kret 0 r_7.2
else
rec s0 op9 (IntKind.i64.wrap (k10 + 1)) r_7.1
else
kexit2 n7
noncomputable def cadastreref4_Int_l18 {ρ : Type} (k : Nat) (kret : Int → Int → Option ρ) (kexit2 : S23 → Option ρ) : Nat → ByteArray → Int → Int → S23 → Option ρ
  | 0, _, _, _, _ => none
  | n + 1, s0, op9, k10, n7 => cadastreref4_Int_l18_b k kret kexit2 (cadastreref4_Int_l18 k kret kexit2 n) s0 op9 k10 n7

noncomputable def cadastreref4_Int_j17 {ρ : Type} (k : Nat) (kret : Int → Int → Option ρ) (s0 : ByteArray) (i4 : Int) (op9 : Int) (n7 : S23) : Option ρ :=
cadastreref4_Int_l18 k kret (fun n7_13 =>
kret n7_13.f1 0) k s0 op9 i4 n7

noncomputable def cadastreref4_Int_j5 {ρ : Type} (k : Nat) (kret : Int → Int → Option ρ) (s0 : ByteArray) (i4 : Int) (minus5 : Bool) : Option ρ :=
bif (i4 == (s0.size : Int)) then
kret 0 4
else
cadastreref4_Int_l8 k kret (fun s0_3 i4_4 minus5_5 =>
bif minus5_5 then
cadastreref4_Int_j17 k kret s0_3 i4_4 13 (⟨1, 0, ByteArray.empty⟩ : S23)
else
cadastreref4_Int_j17 k kret s0_3 i4_4 12 (⟨1, 0, ByteArray.empty⟩ : S23)) k s0 i4 minus5 i4

noncomputable def cadastreref4_Int_j3 {ρ : Type} (k : Nat) (kret : Int → Int → Option ρ) (s0 : ByteArray) (i4 : Int) (minus5 : Bool) : Option ρ :=
bif minus5 then
cadastreref4_Int_j5 k kret s0 1 minus5
else
bif (decide ((s0.size : Int) > 0)) then
chk (0 ≤ (0 : Int) ∧ (0 : Int) < (s0.size : Int)) <|
bif (((s0.data.toList.getD 0 0).toNat : Int) == 43) then
cadastreref4_Int_j5 k kret s0 1 minus5
else
cadastreref4_Int_j5 k kret s0 i4 minus5
else
cadastreref4_Int_j5 k kret s0 i4 minus5

/-- cadastre/cadastreref4.Int -/
noncomputable def cadastreref4_Int (k : Nat) (s0 : ByteArray) : Option (Int × Int) :=
bif (decide ((s0.size : Int) > 0)) then
chk (0 ≤ (0 : Int) ∧ (0 : Int) < (s0.size : Int)) <|
cadastreref4_Int_j3 k (fun t2_26 t3_27 =>
some (t2_26, t3_27)) s0 0 (((s0.data.toList.getD 0 0).toNat : Int) == 45)
else
cadastreref4_Int_j3 k (fun t2_28 t3_29 =>
some (t2_28, t3_29)) s0 0 false

/-- cadastre/cadastrelaw5.num -/
noncomputable def cadastrelaw5_num (k : Nat) (e0 : Int) : Option Int :=
some e0

noncomputable def cadastreref2_May_j8 {ρ : Type} (k : Nat) (kret : Bool → Option ρ) (v1 : S23) : Option ρ :=
bif (v1.f1 == 0) then
kret (big (decide ((v1.f2.size : Int) ≤ 4096)))
else
kret false

/-- cadastre/cadastreref2.May -/
noncomputable def cadastreref2_May (k : Nat) (v0 : S23) : Option Bool :=
bif (v0.f0 == 0) then
some ((v0.f0 == 0) && ((v0.f1 == 0) && (v0.f2 == ByteArray.empty)))
else
bif (v0.f0 == 1) then
some (v0.f2.toList == ByteArray.empty.toList)
else
bif (v0.f0 == 2) then
cadastreref2_May_j8 k (fun t2_1 =>
some t2_1) v0
else
bif (v0.f0 == 3) then
cadastreref2_May_j8 k (fun t2_2 =>
some t2_2) v0
else
some false

/-- cadastre/cadastreref2.Type -/
noncomputable def cadastreref2_Type (k : Nat) (t0 : Int) : Option Bool :=
bif (decide (t0 ≥ 1)) then
some (decide (t0 ≤ 4))
else
some false

/-- cadastre/cadastreref2.Fits -/
noncomputable def cadastreref2_Fits (k : Nat) (v0 : S23) (t1 : Int) : Option Bool :=
bif (v0.f0 == 0) then
some true
else
bif (t1 == 1) then
some true
else
bif (t1 == 2) then
bif (v0.f0 == 1) then
some true
else
bif (t1 == 3) then
bif (v0.f0 == 2) then
some true
else
bif (t1 == 4) then
some (v0.f0 == 3)
else
some false
else
bif (t1 == 4) then
some (v0.f0 == 3)
else
some false
else
bif (t1 == 3) then
bif (v0.f0 == 2) then
some true
else
bif (t1 == 4) then
some (v0.f0 == 3)
else
some false
else
bif (t1 == 4) then
some (v0.f0 == 3)
else
some false

/-- what the functions that call each other answer -/
structure cadastreref4_Digits_R where
  cadastreref4_Digits : Int → Option ByteArray
/-- cadastre/cadastreref4.Digits -/
noncomputable def cadastreref4_Digits_r (k : Nat) (rc : cadastreref4_Digits_R) (n0 : Int) : Option ByteArray :=
bif (big (n0 == (-9223372036854775808))) then
let v_1 : ByteArray := (⟨#[45, 57, 50, 50, 51, 51, 55, 50, 48, 51, 54, 56, 53, 52, 55, 55, 53, 56, 48, 56]⟩ : ByteArray)
some v_1
else
bif (decide (n0 < 0)) then
(rc.cadastreref4_Digits (IntKind.i64.wrap (0 - n0))).bind fun r_2 =>
chk (strFits (⟨#[45]⟩ : ByteArray) r_2) <|
some (cat (⟨#[45]⟩ : ByteArray) r_2)
else
bif (decide (n0 < 10)) then
some (strOfNums [(IntKind.u8.wrap (IntKind.i64.wrap (48 + n0)))])
else
(rc.cadastreref4_Digits (IntKind.i64.wrap (Int.tdiv n0 10))).bind fun r_3 =>
(rc.cadastreref4_Digits (Int.tmod n0 10)).bind fun r_4 =>
chk (strFits r_3 r_4) <|
some (cat r_3 r_4)
noncomputable def cadastreref4_Digits_R_it (k : Nat) : Nat → cadastreref4_Digits_R
  | 0 => ⟨fun _ => none⟩
  | d + 1 => ⟨cadastreref4_Digits_r k (cadastreref4_Digits_R_it k d)⟩
/-- cadastre/cadastreref4.Digits -/
noncomputable def cadastreref4_Digits (k : Nat) (n0 : Int) : Option ByteArray := (cadastreref4_Digits_R_it k k).cadastreref4_Digits n0

/-- cadastre/cadastreref4.text -/
noncomputable def cadastreref4_text (k : Nat) (s0 : ByteArray) : Option S23 :=
some (⟨2, 0, s0⟩ : S23)

/-- cadastre/cadastreref4.Text -/
noncomputable def cadastreref4_Text (k : Nat) (v0 : S23) : Option S23 :=
bif (v0.f0 == 1) then
(cadastreref4_Digits k v0.f1).bind fun r_1 =>
(cadastreref4_text k r_1).bind fun r_2 =>
some r_2
else
some v0

noncomputable def cadastreref4_Store_j4 {ρ : Type} (k : Nat) (kret : Int → S23 → Option ρ) (v2 : S23) (t4 : S23) : Option ρ :=
(cadastreref4_Int k v2.f2).bind fun r_2 =>
bif (r_2.2 != 0) then
kret r_2.2 (⟨0, 0, ByteArray.empty⟩ : S23)
else
(cadastreref2_Int k r_2.1).bind fun r_3 =>
kret 0 r_3

noncomputable def cadastreref4_Store_j10 {ρ : Type} (k : Nat) (kret : Int → S23 → Option ρ) (knxt : S23 → Option ρ) (t1 : Int) (v2 : S23) (t4 : S23) : Option ρ :=
bif (t1 == 4) then
bif (v2.f0 == 2) then
kret 0 (⟨3, 0, v2.f2⟩ : S23)
else
knxt t4
else
knxt t4

noncomputable def cadastreref4_Store_j8 {ρ : Type} (k : Nat) (kret : Int → S23 → Option ρ) (knxt : S23 → Option ρ) (t1 : Int) (v2 : S23) (t4 : S23) : Option ρ :=
bif (t1 == 3) then
bif (v2.f0 == 1) then
(cadastreref4_Text k v2).bind fun r_6 =>
kret 0 r_6
else
cadastreref4_Store_j10 k kret knxt t1 v2 t4
else
cadastreref4_Store_j10 k kret knxt t1 v2 t4

/-- cadastre/cadastreref4.Store -/
noncomputable def cadastreref4_Store (k : Nat) (v0 : S23) (t1 : Int) : Option (S23 × Int) :=
(cadastreref2_Fits k v0 t1).bind fun r_1 =>
bif r_1 then
some (v0, 0)
else
bif (t1 == 2) then
bif (v0.f0 == 2) then
cadastreref4_Store_j4 k (fun t5_4 t4_5 =>
some (t4_5, t5_4)) v0 (⟨0, 0, ByteArray.empty⟩ : S23)
else
cadastreref4_Store_j8 k (fun t5_13 t4_14 =>
some (t4_14, t5_13)) (fun t4_15 =>
some ((⟨0, 0, ByteArray.empty⟩ : S23), 4)) t1 v0 (⟨0, 0, ByteArray.empty⟩ : S23)
else
cadastreref4_Store_j8 k (fun t5_16 t4_17 =>
some (t4_17, t5_16)) (fun t4_18 =>
some ((⟨0, 0, ByteArray.empty⟩ : S23), 4)) t1 v0 (⟨0, 0, ByteArray.empty⟩ : S23)

noncomputable def value_Good_j8 {ρ : Type} (k : Nat) (kret : Bool → Option ρ) (v1 : S23) : Option ρ :=
bif (v1.f1 == 0) then
kret (big (decide ((v1.f2.size : Int) ≤ 4096)))
else
kret false

/-- cadastre/value.Good -/
noncomputable def value_Good (k : Nat) (v0 : S23) : Option Bool :=
bif (v0.f0 == 0) then
some ((v0.f0 == 0) && ((v0.f1 == 0) && (v0.f2 == ByteArray.empty)))
else
bif (v0.f0 == 1) then
some (v0.f2.toList == ByteArray.empty.toList)
else
bif (v0.f0 == 2) then
value_Good_j8 k (fun t2_1 =>
some t2_1) v0
else
bif (v0.f0 == 3) then
value_Good_j8 k (fun t2_2 =>
some t2_2) v0
else
some false

/-- cadastre/value.Type -/
noncomputable def value_Type (k : Nat) (t0 : Int) : Option Bool :=
bif (decide (t0 ≥ 1)) then
some (decide (t0 ≤ 4))
else
some false

/-- cadastre/value.Int -/
noncomputable def value_Int (k : Nat) (n0 : Int) : Option S23 :=
some (⟨1, n0, ByteArray.empty⟩ : S23)

/-- cadastre/cast.number -/
noncomputable def cast_number (k : Nat) (v0 : S23) : Option (S23 × Int) :=
bif (v0.f0 == 1) then
some (v0, 0)
else
bif (v0.f0 == 2) then
(cast_Int k v0.f2).bind fun r_1 =>
bif (r_1.2 != 0) then
some ((⟨0, 0, ByteArray.empty⟩ : S23), r_1.2)
else
(value_Int k r_1.1).bind fun r_2 =>
some (r_2, 0)
else
some ((⟨0, 0, ByteArray.empty⟩ : S23), 4)

/-- strconv.FormatInt -/
noncomputable def strconv_FormatInt (_ : Nat) (c0 : Int) (c1 : Int) : Option ByteArray :=
chk (c1 = 10 ∧ big (decide (-9223372036854775808 ≤ c0 ∧ c0 ≤ 9223372036854775807)) = true) (some ⟨(Lib.itoa c0).toArray⟩)

/-- cadastre/value.Text -/
noncomputable def value_Text (k : Nat) (s0 : ByteArray) : Option S23 :=
some (⟨2, 0, s0⟩ : S23)

/-- cadastre/arith.Text -/
noncomputable def arith_Text (k : Nat) (v0 : S23) : Option (S23 × Int) :=
(value_Good k v0).bind fun r_1 =>
bif (!r_1) then
some ((⟨0, 0, ByteArray.empty⟩ : S23), 1)
else
bif (v0.f0 == 1) then
(strconv_FormatInt k v0.f1 10).bind fun r_2 =>
(value_Text k r_2).bind fun r_3 =>
some (r_3, 0)
else
some (v0, 0)

noncomputable def cast_Store_j9 {ρ : Type} (k : Nat) (kret : Int → S23 → Option ρ) (knxt : S23 → Option ρ) (t1 : Int) (v2 : S23) (t4 : S23) : Option ρ :=
bif (t1 == 4) then
bif (v2.f0 != 1) then
kret 0 (⟨3, 0, v2.f2⟩ : S23)
else
knxt t4
else
knxt t4

noncomputable def cast_Store_j5 {ρ : Type} (k : Nat) (kret : Int → S23 → Option ρ) (knxt : S23 → Option ρ) (t1 : Int) (v2 : S23) (t4 : S23) : Option ρ :=
bif (t1 == 2) then
(cast_number k v2).bind fun r_3 =>
kret r_3.2 r_3.1
else
bif (t1 == 3) then
bif (v2.f0 != 3) then
(arith_Text k v2).bind fun r_4 =>
kret r_4.2 r_4.1
else
cast_Store_j9 k kret knxt t1 v2 t4
else
cast_Store_j9 k kret knxt t1 v2 t4

noncomputable def cast_Store_j3 {ρ : Type} (k : Nat) (kret : Int → S23 → Option ρ) (knxt : S23 → Option ρ) (t1 : Int) (v2 : S23) (t4 : S23) : Option ρ :=
bif (v2.f0 == 0) then
kret 0 v2
else
bif (t1 == 1) then
kret 0 v2
else
cast_Store_j5 k kret knxt t1 v2 t4

/-- cadastre/cast.Store -/
noncomputable def cast_Store (k : Nat) (v0 : S23) (t1 : Int) : Option (S23 × Int) :=
(value_Good k v0).bind fun r_1 =>
bif (!r_1) then
some ((⟨0, 0, ByteArray.empty⟩ : S23), 1)
else
(value_Type k t1).bind fun r_2 =>
bif (!r_2) then
some ((⟨0, 0, ByteArray.empty⟩ : S23), 1)
else
cast_Store_j3 k (fun t5_14 t4_15 =>
some (t4_15, t5_14)) (fun t4_16 =>
some ((⟨0, 0, ByteArray.empty⟩ : S23), 4)) t1 v0 (⟨0, 0, ByteArray.empty⟩ : S23)

/-- cadastre/cadastrelaw5.wakes -/
noncomputable def cadastrelaw5_wakes (k : Nat) : Option Bool :=
(cast_Int k (⟨#[45, 48, 48, 55]⟩ : ByteArray)).bind fun r_1 =>
(cadastrelaw5_num k r_1.2).bind fun r_2 =>
bif (r_2 == 0) then
some (r_1.1 == (-7))
else
some false

noncomputable def cadastrelaw5_CastExact_j14 {ρ : Type} (k : Nat) (kret : Bool → Option ρ) (knxt : List S25 → Int → Option ρ) (l0 : List S25) (i3 : Int) (wrong10 : Int) (p4 : S25) (want9 : S23) : Option ρ :=
(cast_Store k p4.f1 p4.f2).bind fun r_7 =>
(cadastrelaw5_num k r_7.2).bind fun r_8 =>
bif (r_8 != wrong10) then
kret false
else
let v_9 : Bool := (!((r_7.1.f0 == want9.f0) && ((r_7.1.f1 == want9.f1) && (r_7.1.f2 == want9.f2))))
bif v_9 then
kret false
else
knxt l0 i3

noncomputable def cadastrelaw5_CastExact_j11 {ρ : Type} (k : Nat) (kret : Bool → Option ρ) (knxt : List S25 → Int → Option ρ) (l0 : List S25) (i3 : Int) (p4 : S25) : Option ρ :=
(cadastreref2_May k p4.f1).bind fun r_4 =>
bif r_4 then
(cadastreref2_Type k p4.f2).bind fun r_5 =>
bif r_5 then
(cadastreref4_Store k p4.f1 p4.f2).bind fun r_6 =>
cadastrelaw5_CastExact_j14 k kret knxt l0 i3 r_6.2 p4 r_6.1
else
cadastrelaw5_CastExact_j14 k kret knxt l0 i3 1 p4 (⟨0, 0, ByteArray.empty⟩ : S23)
else
cadastrelaw5_CastExact_j14 k kret knxt l0 i3 1 p4 (⟨0, 0, ByteArray.empty⟩ : S23)

noncomputable def cadastrelaw5_CastExact_j4 {ρ : Type} (k : Nat) (kret : Bool → Option ρ) (knxt : List S25 → Int → Option ρ) (l0 : List S25) (i3 : Int) : Option ρ :=
chk (0 ≤ i3 ∧ i3 < (l0.length : Int)) <|
bif (big (decide (((l0.getD i3.toNat default).f0.size : Int) > 1000))) then
kret true
else
(cast_Int k (l0.getD i3.toNat default).f0).bind fun r_1 =>
(cadastreref4_Int k (l0.getD i3.toNat default).f0).bind fun r_2 =>
(cadastrelaw5_num k r_1.2).bind fun r_3 =>
bif (r_3 != r_2.2) then
kret false
else
bif (r_1.1 != r_2.1) then
kret false
else
cadastrelaw5_CastExact_j11 k kret (fun l0_20 i3_21 =>
knxt l0_20 (IntKind.i64.wrap (i3_21 + 1))) l0 i3 (l0.getD i3.toNat default)

noncomputable def cadastrelaw5_CastExact_l2_b {ρ : Type} (k : Nat) (kret : Bool → Option ρ) (kexit0 : Option ρ) (rec : (List S25) → Int → Option ρ) (l0 : List S25) (i3 : Int) : Option ρ :=
bif (decide (i3 < (l0.length : Int))) then
bif (decide (i3 < 30)) then
cadastrelaw5_CastExact_j4 k kret rec l0 i3
else
kexit0
else
kexit0
noncomputable def cadastrelaw5_CastExact_l2 {ρ : Type} (k : Nat) (kret : Bool → Option ρ) (kexit0 : Option ρ) : Nat → (List S25) → Int → Option ρ
  | 0, _, _ => none
  | n + 1, l0, i3 => cadastrelaw5_CastExact_l2_b k kret kexit0 (cadastrelaw5_CastExact_l2 k kret kexit0 n) l0 i3

/-- cadastre/cadastrelaw5.CastExact -/
noncomputable def cadastrelaw5_CastExact (k : Nat) (l0 : List S25) : Option Bool :=
cadastrelaw5_CastExact_l2 k (fun t2_25 =>
some t2_25) ((cadastrelaw5_wakes k).bind fun r_26 =>
some r_26) k l0 0

noncomputable def cadastrelaw5_CastStores_j10 {ρ : Type} (k : Nat) (knxt : List S25 → Int → Int → Int → Int → S23 → S23 → Option ρ) (l0 : List S25) (i3 : Int) (t4 : Int) (e6 : Int) (v5 : S23) (want7 : S23) : Option ρ :=
chk (0 ≤ i3 ∧ i3 < (l0.length : Int)) <|
(cadastreref4_Store k (l0.getD i3.toNat default).f1 t4).bind fun r_4 =>
knxt l0 i3 t4 e6 r_4.2 v5 r_4.1

noncomputable def cadastrelaw5_CastStores_j11 {ρ : Type} (k : Nat) (kret : Bool → Option ρ) (knxt : List S25 → Int → Int → Option ρ) (l0 : List S25) (i3 : Int) (t4 : Int) (e6 : Int) (bad8 : Int) (v5 : S23) (want7 : S23) : Option ρ :=
(cadastrelaw5_num k e6).bind fun r_12 =>
bif (r_12 != bad8) then
kret false
else
let v_13 : Bool := (!((v5.f0 == want7.f0) && ((v5.f1 == want7.f1) && (v5.f2 == want7.f2))))
bif v_13 then
kret false
else
knxt l0 i3 t4

noncomputable def cadastrelaw5_CastStores_l5_b {ρ : Type} (k : Nat) (kret : Bool → Option ρ) (kexit2 : List S25 → Int → Option ρ) (rec : (List S25) → Int → Int → Option ρ) (l0 : List S25) (i3 : Int) (t4 : Int) : Option ρ :=
bif (decide (t4 ≤ 5)) then
chk (0 ≤ i3 ∧ i3 < (l0.length : Int)) <|
(cast_Store k (l0.getD i3.toNat default).f1 t4).bind fun r_1 =>
chk (0 ≤ i3 ∧ i3 < (l0.length : Int)) <|
(cadastreref2_May k (l0.getD i3.toNat default).f1).bind fun r_2 =>
bif r_2 then
(cadastreref2_Type k t4).bind fun r_3 =>
bif r_3 then
cadastrelaw5_CastStores_j10 k (fun l0_5 i3_6 t4_7 e6_8 bad8_9 v5_10 want7_11 =>
cadastrelaw5_CastStores_j11 k kret (fun l0_15 i3_16 t4_17 =>
rec l0_15 i3_16 (IntKind.i64.wrap (t4_17 + 1))) l0_5 i3_6 t4_7 e6_8 bad8_9 v5_10 want7_11) l0 i3 t4 r_1.2 r_1.1 (⟨0, 0, ByteArray.empty⟩ : S23)
else
cadastrelaw5_CastStores_j11 k kret (fun l0_19 i3_20 t4_21 =>
rec l0_19 i3_20 (IntKind.i64.wrap (t4_21 + 1))) l0 i3 t4 r_1.2 1 r_1.1 (⟨0, 0, ByteArray.empty⟩ : S23)
else
cadastrelaw5_CastStores_j11 k kret (fun l0_23 i3_24 t4_25 =>
rec l0_23 i3_24 (IntKind.i64.wrap (t4_25 + 1))) l0 i3 t4 r_1.2 1 r_1.1 (⟨0, 0, ByteArray.empty⟩ : S23)
else
kexit2 l0 i3
noncomputable def cadastrelaw5_CastStores_l5 {ρ : Type} (k : Nat) (kret : Bool → Option ρ) (kexit2 : List S25 → Int → Option ρ) : Nat → (List S25) → Int → Int → Option ρ
  | 0, _, _, _ => none
  | n + 1, l0, i3, t4 => cadastrelaw5_CastStores_l5_b k kret kexit2 (cadastrelaw5_CastStores_l5 k kret kexit2 n) l0 i3 t4

noncomputable def cadastrelaw5_CastStores_j4 {ρ : Type} (k : Nat) (kret : Bool → Option ρ) (knxt : List S25 → Int → Option ρ) (l0 : List S25) (i3 : Int) : Option ρ :=
cadastrelaw5_CastStores_l5 k kret (fun l0_27 i3_28 =>
knxt l0_27 (IntKind.i64.wrap (i3_28 + 1))) k l0 i3 0

noncomputable def cadastrelaw5_CastStores_l2_b {ρ : Type} (k : Nat) (kret : Bool → Option ρ) (kexit0 : Option ρ) (rec : (List S25) → Int → Option ρ) (l0 : List S25) (i3 : Int) : Option ρ :=
bif (decide (i3 < (l0.length : Int))) then
bif (decide (i3 < 30)) then
cadastrelaw5_CastStores_j4 k kret rec l0 i3
else
kexit0
else
kexit0
noncomputable def cadastrelaw5_CastStores_l2 {ρ : Type} (k : Nat) (kret : Bool → Option ρ) (kexit0 : Option ρ) : Nat → (List S25) → Int → Option ρ
  | 0, _, _ => none
  | n + 1, l0, i3 => cadastrelaw5_CastStores_l2_b k kret kexit0 (cadastrelaw5_CastStores_l2 k kret kexit0 n) l0 i3

/-- cadastre/cadastrelaw5.CastStores -/
noncomputable def cadastrelaw5_CastStores (k : Nat) (l0 : List S25) : Option Bool :=
cadastrelaw5_CastStores_l2 k (fun t2_32 =>
some t2_32) ((cadastrelaw5_wakes k).bind fun r_33 =>
some r_33) k l0 0

/-- cadastre/value.In -/
noncomputable def value_In (k : Nat) (v0 : S23) (t1 : Int) : Option Bool :=
bif (t1 == 2) then
bif (v0.f0 == 0) then
some true
else
some (v0.f0 == 1)
else
bif (t1 == 3) then
bif (v0.f0 == 0) then
some true
else
some (v0.f0 == 2)
else
bif (t1 == 4) then
bif (v0.f0 == 0) then
some true
else
some (v0.f0 == 3)
else
some true

/-- cadastre/value.Fits -/
noncomputable def value_Fits (k : Nat) (v0 : S23) (t1 : Int) : Option (Bool × Int) :=
(value_Good k v0).bind fun r_1 =>
bif (!r_1) then
some (false, 1)
else
(value_Type k t1).bind fun r_2 =>
bif (!r_2) then
some (false, 1)
else
(value_In k v0 t1).bind fun r_3 =>
some (r_3, 0)

noncomputable def cadastrelaw5_CastBack_j17 {ρ : Type} (k : Nat) (kret : Bool → Option ρ) (knxt : List S25 → Int → Option ρ) (l0 : List S25) (i3 : Int) (p4 : S25) (t13 : S23) : Option ρ :=
(cast_Store k t13 2).bind fun r_15 =>
(cadastrelaw5_num k r_15.2).bind fun r_16 =>
bif (r_16 != 0) then
kret false
else
let v_17 : Bool := (!((r_15.1.f0 == p4.f1.f0) && ((r_15.1.f1 == p4.f1.f1) && (r_15.1.f2 == p4.f1.f2))))
bif v_17 then
kret false
else
knxt l0 i3

noncomputable def cadastrelaw5_CastBack_j14 {ρ : Type} (k : Nat) (kret : Bool → Option ρ) (knxt : List S25 → Int → Option ρ) (l0 : List S25) (i3 : Int) (p4 : S25) (t13 : S23) : Option ρ :=
(cast_Int k t13.f2).bind fun r_13 =>
(cadastrelaw5_num k r_13.2).bind fun r_14 =>
bif (r_14 != 0) then
kret false
else
bif (r_13.1 != p4.f1.f1) then
kret false
else
cadastrelaw5_CastBack_j17 k kret knxt l0 i3 p4 t13

noncomputable def cadastrelaw5_CastBack_j12 {ρ : Type} (k : Nat) (kret : Bool → Option ρ) (knxt : List S25 → Int → Option ρ) (l0 : List S25) (i3 : Int) (p4 : S25) : Option ρ :=
(arith_Text k p4.f1).bind fun r_11 =>
(cadastrelaw5_num k r_11.2).bind fun r_12 =>
bif (r_12 == 0) then
bif (p4.f1.f0 == 1) then
cadastrelaw5_CastBack_j14 k kret knxt l0 i3 p4 r_11.1
else
knxt l0 i3
else
knxt l0 i3

noncomputable def cadastrelaw5_CastBack_j4 {ρ : Type} (k : Nat) (kret : Bool → Option ρ) (knxt : List S25 → Int → Option ρ) (l0 : List S25) (i3 : Int) : Option ρ :=
chk (0 ≤ i3 ∧ i3 < (l0.length : Int)) <|
(cast_Store k (l0.getD i3.toNat default).f1 (l0.getD i3.toNat default).f2).bind fun r_1 =>
(cadastrelaw5_num k r_1.2).bind fun r_2 =>
bif (r_2 == 0) then
(value_Fits k r_1.1 (l0.getD i3.toNat default).f2).bind fun r_3 =>
(cast_Store k r_1.1 (l0.getD i3.toNat default).f2).bind fun r_4 =>
(value_Fits k (l0.getD i3.toNat default).f1 (l0.getD i3.toNat default).f2).bind fun r_5 =>
(cadastrelaw5_num k r_3.2).bind fun r_6 =>
bif (r_6 != 0) then
kret false
else
bif (!r_3.1) then
kret false
else
(cadastrelaw5_num k r_4.2).bind fun r_7 =>
bif (r_7 != 0) then
kret false
else
let v_8 : Bool := (!((r_4.1.f0 == r_1.1.f0) && ((r_4.1.f1 == r_1.1.f1) && (r_4.1.f2 == r_1.1.f2))))
bif v_8 then
kret false
else
(cadastrelaw5_num k r_5.2).bind fun r_9 =>
bif (r_9 != 0) then
kret false
else
bif r_5.1 then
let v_10 : Bool := (!((r_1.1.f0 == (l0.getD i3.toNat default).f1.f0) && ((r_1.1.f1 == (l0.getD i3.toNat default).f1.f1) && (r_1.1.f2 == (l0.getD i3.toNat default).f1.f2))))
bif v_10 then
kret false
else
cadastrelaw5_CastBack_j12 k kret (fun l0_25 i3_26 =>
knxt l0_25 (IntKind.i64.wrap (i3_26 + 1))) l0 i3 (l0.getD i3.toNat default)
else
cadastrelaw5_CastBack_j12 k kret (fun l0_28 i3_29 =>
knxt l0_28 (IntKind.i64.wrap (i3_29 + 1))) l0 i3 (l0.getD i3.toNat default)
else
cadastrelaw5_CastBack_j12 k kret (fun l0_31 i3_32 =>
knxt l0_31 (IntKind.i64.wrap (i3_32 + 1))) l0 i3 (l0.getD i3.toNat default)

noncomputable def cadastrelaw5_CastBack_l2_b {ρ : Type} (k : Nat) (kret : Bool → Option ρ) (kexit0 : Option ρ) (rec : (List S25) → Int → Option ρ) (l0 : List S25) (i3 : Int) : Option ρ :=
bif (decide (i3 < (l0.length : Int))) then
bif (decide (i3 < 30)) then
cadastrelaw5_CastBack_j4 k kret rec l0 i3
else
kexit0
else
kexit0
noncomputable def cadastrelaw5_CastBack_l2 {ρ : Type} (k : Nat) (kret : Bool → Option ρ) (kexit0 : Option ρ) : Nat → (List S25) → Int → Option ρ
  | 0, _, _ => none
  | n + 1, l0, i3 => cadastrelaw5_CastBack_l2_b k kret kexit0 (cadastrelaw5_CastBack_l2 k kret kexit0 n) l0 i3

/-- cadastre/cadastrelaw5.CastBack -/
noncomputable def cadastrelaw5_CastBack (k : Nat) (l0 : List S25) : Option Bool :=
cadastrelaw5_CastBack_l2 k (fun t2_36 =>
some t2_36) ((cadastrelaw5_wakes k).bind fun r_37 =>
some r_37) k l0 0

noncomputable def value_All_j2 {ρ : Type} (k : Nat) (kret : Bool → Option ρ) (kgoto0 : List S23 → Int → Option ρ) (l0 : List S23) (i3 : Int) : Option ρ :=
bif (i3 == (l0.length : Int)) then
kret true
else
chk (0 ≤ i3 ∧ i3 < (l0.length : Int)) <|
(value_Good k (l0.getD i3.toNat default)).bind fun r_1 =>
bif r_1 then
kgoto0 l0 (IntKind.i64.wrap (i3 + 1))
else
kret false

noncomputable def value_All_g0_b {ρ : Type} (k : Nat) (kret : Bool → Option ρ) (rec : (List S23) → Int → Option ρ) (l0 : List S23) (i3 : Int) : Option ρ :=
value_All_j2 k kret rec l0 i3
noncomputable def value_All_g0 {ρ : Type} (k : Nat) (kret : Bool → Option ρ) : Nat → (List S23) → Int → Option ρ
  | 0, _, _ => none
  | n + 1, l0, i3 => value_All_g0_b k kret (value_All_g0 k kret n) l0 i3

/-- cadastre/value.All -/
noncomputable def value_All (k : Nat) (l0 : List S23) : Option Bool :=
value_All_j2 k (fun t2_2 =>
some t2_2) (fun l0_3 i3_4 =>
value_All_g0 k (fun t2_8 =>
some t2_8) k l0_3 i3_4) l0 0

noncomputable def arith_Concat_j5 {ρ : Type} (k : Nat) (kret : Int → S23 → Option ρ) (knxt : S23 → S23 → S23 → Option ρ) (a2 : S23) (b3 : S23) (t4 : S23) : Option ρ :=
bif (a2.f0 == 3) then
kret 4 (⟨0, 0, ByteArray.empty⟩ : S23)
else
bif (b3.f0 == 3) then
kret 4 (⟨0, 0, ByteArray.empty⟩ : S23)
else
knxt a2 b3 t4

noncomputable def arith_Concat_j7 {ρ : Type} (k : Nat) (kret : Int → S23 → Option ρ) (a2 : S23) (b3 : S23) (t4 : S23) : Option ρ :=
(arith_Text k a2).bind fun r_7 =>
(arith_Text k b3).bind fun r_8 =>
let v_9 : Bool := (big (decide ((IntKind.i64.wrap ((r_7.1.f2.size : Int) + (r_8.1.f2.size : Int))) > 4096)))
bif v_9 then
kret 7 (⟨0, 0, ByteArray.empty⟩ : S23)
else
chk (strFits r_7.1.f2 r_8.1.f2) <|
(value_Text k (cat r_7.1.f2 r_8.1.f2)).bind fun r_10 =>
kret 0 r_10

/-- cadastre/arith.Concat -/
noncomputable def arith_Concat (k : Nat) (a0 : S23) (b1 : S23) : Option (S23 × Int) :=
(value_All k [a0, b1]).bind fun r_1 =>
bif (!r_1) then
some ((⟨0, 0, ByteArray.empty⟩ : S23), 1)
else
bif (a0.f0 == 0) then
some ((⟨0, 0, ByteArray.empty⟩ : S23), 0)
else
bif (b1.f0 == 0) then
some ((⟨0, 0, ByteArray.empty⟩ : S23), 0)
else
arith_Concat_j5 k (fun t5_2 t4_3 =>
some (t4_3, t5_2)) (fun a2_4 b3_5 t4_6 =>
arith_Concat_j7 k (fun t5_11 t4_12 =>
some (t4_12, t5_11)) a2_4 b3_5 t4_6) a0 b1 (⟨0, 0, ByteArray.empty⟩ : S23)

/-- cadastre/cadastrelaw4.num -/
noncomputable def cadastrelaw4_num (k : Nat) (e0 : Int) : Option Int :=
some e0

/-- cadastre/arith.Length -/
noncomputable def arith_Length (k : Nat) (v0 : S23) : Option (S23 × Int) :=
(arith_Text k v0).bind fun r_1 =>
bif (r_1.2 != 0) then
some ((⟨0, 0, ByteArray.empty⟩ : S23), r_1.2)
else
bif (r_1.1.f0 == 0) then
some ((⟨0, 0, ByteArray.empty⟩ : S23), r_1.2)
else
(value_Int k (r_1.1.f2.size : Int)).bind fun r_2 =>
some (r_2, 0)

noncomputable def arith_reckon_j18 {ρ : Type} (k : Nat) (kret : Int → Int → Option ρ) (n6 : Int) : Option ρ :=
kret n6 0

noncomputable def arith_reckon_j13 {ρ : Type} (k : Nat) (kgoto0 : Option ρ) (knxt : Int → Option ρ) (a1 : Int) (b2 : Int) : Option ρ :=
bif (a1 == (-1)) then
bif (big (b2 == (-9223372036854775808))) then
kgoto0
else
bif (b2 == (-1)) then
bif (big (a1 == (-9223372036854775808))) then
kgoto0
else
if b2 = 0 then none else
bif ((IntKind.i64.wrap (Int.tdiv (IntKind.i64.wrap (a1 * b2)) b2)) != a1) then
kgoto0
else
knxt (IntKind.i64.wrap (a1 * b2))
else
if b2 = 0 then none else
bif ((IntKind.i64.wrap (Int.tdiv (IntKind.i64.wrap (a1 * b2)) b2)) != a1) then
kgoto0
else
knxt (IntKind.i64.wrap (a1 * b2))
else
bif (b2 == (-1)) then
bif (big (a1 == (-9223372036854775808))) then
kgoto0
else
if b2 = 0 then none else
bif ((IntKind.i64.wrap (Int.tdiv (IntKind.i64.wrap (a1 * b2)) b2)) != a1) then
kgoto0
else
knxt (IntKind.i64.wrap (a1 * b2))
else
if b2 = 0 then none else
bif ((IntKind.i64.wrap (Int.tdiv (IntKind.i64.wrap (a1 * b2)) b2)) != a1) then
kgoto0
else
knxt (IntKind.i64.wrap (a1 * b2))

/-- cadastre/arith.reckon -/
noncomputable def arith_reckon (k : Nat) (op0 : Int) (a1 : Int) (b2 : Int) : Option (Int × Int) :=
bif (op0 == 12) then
bif (decide (b2 > 0)) then
bif (decide (a1 > (IntKind.i64.wrap (9223372036854775807 - b2)))) then
some (0, 5)
else
bif (decide (b2 < 0)) then
bif (decide (a1 < (IntKind.i64.wrap ((-9223372036854775808) - b2)))) then
some (0, 5)
else
arith_reckon_j18 k (fun n6_1 e7_2 =>
some (n6_1, e7_2)) (IntKind.i64.wrap (a1 + b2))
else
arith_reckon_j18 k (fun n6_3 e7_4 =>
some (n6_3, e7_4)) (IntKind.i64.wrap (a1 + b2))
else
bif (decide (b2 < 0)) then
bif (decide (a1 < (IntKind.i64.wrap ((-9223372036854775808) - b2)))) then
some (0, 5)
else
arith_reckon_j18 k (fun n6_5 e7_6 =>
some (n6_5, e7_6)) (IntKind.i64.wrap (a1 + b2))
else
arith_reckon_j18 k (fun n6_7 e7_8 =>
some (n6_7, e7_8)) (IntKind.i64.wrap (a1 + b2))
else
bif (op0 == 13) then
bif (decide (b2 < 0)) then
bif (decide (a1 > (IntKind.i64.wrap (9223372036854775807 + b2)))) then
some (0, 5)
else
bif (decide (b2 > 0)) then
bif (decide (a1 < (IntKind.i64.wrap ((-9223372036854775808) + b2)))) then
some (0, 5)
else
arith_reckon_j18 k (fun n6_9 e7_10 =>
some (n6_9, e7_10)) (IntKind.i64.wrap (a1 - b2))
else
arith_reckon_j18 k (fun n6_11 e7_12 =>
some (n6_11, e7_12)) (IntKind.i64.wrap (a1 - b2))
else
bif (decide (b2 > 0)) then
bif (decide (a1 < (IntKind.i64.wrap ((-9223372036854775808) + b2)))) then
some (0, 5)
else
arith_reckon_j18 k (fun n6_13 e7_14 =>
some (n6_13, e7_14)) (IntKind.i64.wrap (a1 - b2))
else
arith_reckon_j18 k (fun n6_15 e7_16 =>
some (n6_15, e7_16)) (IntKind.i64.wrap (a1 - b2))
else
bif (op0 == 9) then
bif (a1 == 0) then
some (0, 0)
else
bif (b2 == 0) then
some (0, 0)
else
arith_reckon_j13 k (some (0, 5)) (fun n6_17 =>
arith_reckon_j18 k (fun n6_18 e7_19 =>
some (n6_18, e7_19)) n6_17) a1 b2
else
bif (op0 == 10) then
bif (big (a1 == (-9223372036854775808))) then
bif (b2 == (-1)) then
some (0, 5)
else
if b2 = 0 then none else
arith_reckon_j18 k (fun n6_20 e7_21 =>
some (n6_20, e7_21)) (IntKind.i64.wrap (Int.tdiv a1 b2))
else
if b2 = 0 then none else
arith_reckon_j18 k (fun n6_22 e7_23 =>
some (n6_22, e7_23)) (IntKind.i64.wrap (Int.tdiv a1 b2))
else
bif (b2 != (-1)) then
if b2 = 0 then none else
arith_reckon_j18 k (fun n6_24 e7_25 =>
some (n6_24, e7_25)) (Int.tmod a1 b2)
else
arith_reckon_j18 k (fun n6_26 e7_27 =>
some (n6_26, e7_27)) 0

noncomputable def arith_Do_j7 {ρ : Type} (k : Nat) (kret : Int → S23 → Option ρ) (knxt : Int → S23 → S23 → S23 → Option ρ) (op0 : Int) (a4 : S23) (b5 : S23) (t6 : S23) : Option ρ :=
bif (op0 == 10) then
bif (b5.f1 == 0) then
kret 0 (⟨0, 0, ByteArray.empty⟩ : S23)
else
knxt op0 a4 b5 t6
else
bif (op0 == 11) then
bif (b5.f1 == 0) then
kret 0 (⟨0, 0, ByteArray.empty⟩ : S23)
else
knxt op0 a4 b5 t6
else
knxt op0 a4 b5 t6

noncomputable def arith_Do_j5 {ρ : Type} (k : Nat) (kret : Int → S23 → Option ρ) (knxt : Int → S23 → S23 → S23 → Option ρ) (op0 : Int) (a4 : S23) (b5 : S23) (t6 : S23) : Option ρ :=
bif (a4.f0 != 1) then
kret 4 (⟨0, 0, ByteArray.empty⟩ : S23)
else
bif (b5.f0 != 1) then
kret 4 (⟨0, 0, ByteArray.empty⟩ : S23)
else
arith_Do_j7 k kret knxt op0 a4 b5 t6

noncomputable def arith_Do_j3 {ρ : Type} (k : Nat) (kret : Int → S23 → Option ρ) (knxt : Int → S23 → S23 → S23 → Option ρ) (op0 : Int) (a4 : S23) (b5 : S23) (t6 : S23) : Option ρ :=
bif (a4.f0 == 0) then
kret 0 (⟨0, 0, ByteArray.empty⟩ : S23)
else
bif (b5.f0 == 0) then
kret 0 (⟨0, 0, ByteArray.empty⟩ : S23)
else
arith_Do_j5 k kret knxt op0 a4 b5 t6

noncomputable def arith_Do_j9 {ρ : Type} (k : Nat) (kret : Int → S23 → Option ρ) (op0 : Int) (a4 : S23) (b5 : S23) (t6 : S23) : Option ρ :=
(arith_reckon k op0 a4.f1 b5.f1).bind fun r_20 =>
bif (r_20.2 != 0) then
kret r_20.2 (⟨0, 0, ByteArray.empty⟩ : S23)
else
(value_Int k r_20.1).bind fun r_21 =>
kret 0 r_21

/-- cadastre/arith.Do -/
noncomputable def arith_Do (k : Nat) (op0 : Int) (a1 : S23) (b2 : S23) : Option (S23 × Int) :=
bif (decide (op0 < 9)) then
some ((⟨0, 0, ByteArray.empty⟩ : S23), 1)
else
bif (decide (op0 > 13)) then
some ((⟨0, 0, ByteArray.empty⟩ : S23), 1)
else
(value_All k [a1, b2]).bind fun r_1 =>
bif (!r_1) then
some ((⟨0, 0, ByteArray.empty⟩ : S23), 1)
else
arith_Do_j3 k (fun t7_14 t6_15 =>
some (t6_15, t7_14)) (fun op0_16 a4_17 b5_18 t6_19 =>
arith_Do_j9 k (fun t7_22 t6_23 =>
some (t6_23, t7_22)) op0_16 a4_17 b5_18 t6_19) op0 a1 b2 (⟨0, 0, ByteArray.empty⟩ : S23)

/-- cadastre/cadastrelaw4.wakes -/
noncomputable def cadastrelaw4_wakes (k : Nat) : Option Bool :=
(arith_Do k 10 (⟨1, 7, ByteArray.empty⟩ : S23) (⟨1, 2, ByteArray.empty⟩ : S23)).bind fun r_1 =>
(cadastrelaw4_num k r_1.2).bind fun r_2 =>
bif (r_2 == 0) then
let v_3 : Bool := ((r_1.1.f0 == 1) && ((r_1.1.f1 == 3) && (r_1.1.f2 == ByteArray.empty)))
some v_3
else
some false

noncomputable def cadastrelaw4_ArithConcats_j7 {ρ : Type} (k : Nat) (kret : Bool → Option ρ) (knxt : List S45 → Int → Option ρ) (l0 : List S45) (i3 : Int) (a4 : S23) (b5 : S23) (c6 : S23) : Option ρ :=
(arith_Text k a4).bind fun r_3 =>
(arith_Text k b5).bind fun r_4 =>
(arith_Length k c6).bind fun r_5 =>
(arith_Length k a4).bind fun r_6 =>
(arith_Length k b5).bind fun r_7 =>
(arith_Concat k c6 (⟨2, 0, ByteArray.empty⟩ : S23)).bind fun r_8 =>
(cadastrelaw4_num k r_3.2).bind fun r_9 =>
bif (r_9 != 0) then
kret false
else
(cadastrelaw4_num k r_4.2).bind fun r_10 =>
bif (r_10 != 0) then
kret false
else
(cadastrelaw4_num k r_5.2).bind fun r_11 =>
bif (r_11 != 0) then
kret false
else
(cadastrelaw4_num k r_6.2).bind fun r_12 =>
bif (r_12 != 0) then
kret false
else
(cadastrelaw4_num k r_7.2).bind fun r_13 =>
bif (r_13 != 0) then
kret false
else
(cadastrelaw4_num k r_8.2).bind fun r_14 =>
bif (r_14 != 0) then
kret false
else
chk (strFits r_3.1.f2 r_4.1.f2) <|
bif (!(c6.f2.toList == (cat r_3.1.f2 r_4.1.f2).toList)) then
kret false
else
bif (r_5.1.f1 != (IntKind.i64.wrap (r_6.1.f1 + r_7.1.f1))) then
kret false
else
let v_15 : Bool := (!((r_8.1.f0 == c6.f0) && ((r_8.1.f1 == c6.f1) && (r_8.1.f2 == c6.f2))))
bif v_15 then
kret false
else
knxt l0 i3

noncomputable def cadastrelaw4_ArithConcats_j4 {ρ : Type} (k : Nat) (knxt : List S45 → Int → Option ρ) (kret : Bool → Option ρ) (l0 : List S45) (i3 : Int) : Option ρ :=
chk (0 ≤ i3 ∧ i3 < (l0.length : Int)) <|
chk (0 ≤ i3 ∧ i3 < (l0.length : Int)) <|
(arith_Concat k (l0.getD i3.toNat default).f0 (l0.getD i3.toNat default).f1).bind fun r_1 =>
(cadastrelaw4_num k r_1.2).bind fun r_2 =>
bif (r_2 != 0) then
knxt l0 (IntKind.i64.wrap (i3 + 1))
else
bif (r_1.1.f0 != 2) then
knxt l0 (IntKind.i64.wrap (i3 + 1))
else
cadastrelaw4_ArithConcats_j7 k kret (fun l0_17 i3_18 =>
knxt l0_17 (IntKind.i64.wrap (i3_18 + 1))) l0 i3 (l0.getD i3.toNat default).f0 (l0.getD i3.toNat default).f1 r_1.1

noncomputable def cadastrelaw4_ArithConcats_l2_b {ρ : Type} (k : Nat) (kret : Bool → Option ρ) (kexit0 : Option ρ) (rec : (List S45) → Int → Option ρ) (l0 : List S45) (i3 : Int) : Option ρ :=
bif (decide (i3 < (l0.length : Int))) then
bif (decide (i3 < 30)) then
cadastrelaw4_ArithConcats_j4 k rec kret l0 i3
else
kexit0
else
kexit0
noncomputable def cadastrelaw4_ArithConcats_l2 {ρ : Type} (k : Nat) (kret : Bool → Option ρ) (kexit0 : Option ρ) : Nat → (List S45) → Int → Option ρ
  | 0, _, _ => none
  | n + 1, l0, i3 => cadastrelaw4_ArithConcats_l2_b k kret kexit0 (cadastrelaw4_ArithConcats_l2 k kret kexit0 n) l0 i3

/-- cadastre/cadastrelaw4.ArithConcats -/
noncomputable def cadastrelaw4_ArithConcats (k : Nat) (l0 : List S45) : Option Bool :=
cadastrelaw4_ArithConcats_l2 k (fun t2_22 =>
some t2_22) ((cadastrelaw4_wakes k).bind fun r_23 =>
some r_23) k l0 0

/-- cadastre/cadastreref4.Length -/
noncomputable def cadastreref4_Length (k : Nat) (v0 : S23) : Option S23 :=
bif (v0.f0 == 0) then
some v0
else
(cadastreref4_Text k v0).bind fun r_1 =>
(cadastreref2_Int k (r_1.f2.size : Int)).bind fun r_2 =>
some r_2

/-- cadastre/cadastreref4.Typeof -/
noncomputable def cadastreref4_Typeof (k : Nat) (v0 : S23) : Option S23 :=
bif (v0.f0 == 0) then
(cadastreref4_text k (⟨#[110, 117, 108, 108]⟩ : ByteArray)).bind fun r_1 =>
some r_1
else
bif (v0.f0 == 1) then
(cadastreref4_text k (⟨#[105, 110, 116, 101, 103, 101, 114]⟩ : ByteArray)).bind fun r_2 =>
some r_2
else
bif (v0.f0 == 2) then
(cadastreref4_text k (⟨#[116, 101, 120, 116]⟩ : ByteArray)).bind fun r_3 =>
some r_3
else
(cadastreref4_text k (⟨#[98, 108, 111, 98]⟩ : ByteArray)).bind fun r_4 =>
some r_4

noncomputable def cadastreref4_Concat_j5 {ρ : Type} (k : Nat) (kret : Int → S23 → Option ρ) (a2 : S23) (b3 : S23) (t4 : S23) : Option ρ :=
(cadastreref4_Text k a2).bind fun r_1 =>
(cadastreref4_Text k b3).bind fun r_2 =>
chk (strFits r_1.f2 r_2.f2) <|
bif (big (decide (((cat r_1.f2 r_2.f2).size : Int) > 4096))) then
kret 7 (⟨0, 0, ByteArray.empty⟩ : S23)
else
(cadastreref4_text k (cat r_1.f2 r_2.f2)).bind fun r_3 =>
kret 0 r_3

noncomputable def cadastreref4_Concat_j3 {ρ : Type} (k : Nat) (kret : Int → S23 → Option ρ) (a2 : S23) (b3 : S23) (t4 : S23) : Option ρ :=
bif (a2.f0 == 3) then
kret 4 (⟨0, 0, ByteArray.empty⟩ : S23)
else
bif (b3.f0 == 3) then
kret 4 (⟨0, 0, ByteArray.empty⟩ : S23)
else
cadastreref4_Concat_j5 k kret a2 b3 t4

/-- cadastre/cadastreref4.Concat -/
noncomputable def cadastreref4_Concat (k : Nat) (a0 : S23) (b1 : S23) : Option (S23 × Int) :=
bif (a0.f0 == 0) then
some ((⟨0, 0, ByteArray.empty⟩ : S23), 0)
else
bif (b1.f0 == 0) then
some ((⟨0, 0, ByteArray.empty⟩ : S23), 0)
else
cadastreref4_Concat_j3 k (fun t5_6 t4_7 =>
some (t4_7, t5_6)) a0 b1 (⟨0, 0, ByteArray.empty⟩ : S23)

/-- cadastre/cadastrelaw4.is -/
noncomputable def cadastrelaw4_is (k : Nat) (v0 : S23) (e1 : Int) (want2 : S23) (bad3 : Int) : Option Bool :=
(cadastrelaw4_num k e1).bind fun r_1 =>
bif (r_1 == bad3) then
some ((v0.f0 == want2.f0) && ((v0.f1 == want2.f1) && (v0.f2 == want2.f2)))
else
some false

/-- cadastre/arith.Typeof -/
noncomputable def arith_Typeof (k : Nat) (v0 : S23) : Option (S23 × Int) :=
(value_Good k v0).bind fun r_1 =>
bif (!r_1) then
some ((⟨0, 0, ByteArray.empty⟩ : S23), 1)
else
chk (0 ≤ v0.f0 ∧ v0.f0 < ([(⟨#[110, 117, 108, 108]⟩ : ByteArray), (⟨#[105, 110, 116, 101, 103, 101, 114]⟩ : ByteArray), (⟨#[116, 101, 120, 116]⟩ : ByteArray), (⟨#[98, 108, 111, 98]⟩ : ByteArray)].length : Int)) <|
let v_2 : ByteArray := ([(⟨#[110, 117, 108, 108]⟩ : ByteArray), (⟨#[105, 110, 116, 101, 103, 101, 114]⟩ : ByteArray), (⟨#[116, 101, 120, 116]⟩ : ByteArray), (⟨#[98, 108, 111, 98]⟩ : ByteArray)].getD v0.f0.toNat ByteArray.empty)
(value_Text k v_2).bind fun r_3 =>
some (r_3, 0)

noncomputable def cadastrelaw4_ArithTexts_j16 {ρ : Type} (k : Nat) (kret : Bool → Option ρ) (knxt : List S45 → Int → Option ρ) (l0 : List S45) (i3 : Int) (a11 : Int) (b12 : Int) (p4 : S45) (t7 : S23) (n8 : S23) (y9 : S23) (c10 : S23) : Option ρ :=
(arith_Text k p4.f0).bind fun r_7 =>
(cadastrelaw4_is k r_7.1 r_7.2 t7 a11).bind fun r_8 =>
bif (!r_8) then
kret false
else
(arith_Length k p4.f0).bind fun r_9 =>
(cadastrelaw4_is k r_9.1 r_9.2 n8 a11).bind fun r_10 =>
bif (!r_10) then
kret false
else
(arith_Typeof k p4.f0).bind fun r_11 =>
(cadastrelaw4_is k r_11.1 r_11.2 y9 a11).bind fun r_12 =>
bif (!r_12) then
kret false
else
(arith_Concat k p4.f0 p4.f1).bind fun r_13 =>
(cadastrelaw4_is k r_13.1 r_13.2 c10 b12).bind fun r_14 =>
bif (!r_14) then
kret false
else
knxt l0 i3

noncomputable def cadastrelaw4_ArithTexts_j14 {ρ : Type} (k : Nat) (kret : Bool → Option ρ) (knxt : List S45 → Int → Option ρ) (l0 : List S45) (i3 : Int) (one5 : Bool) (a11 : Int) (b12 : Int) (p4 : S45) (t7 : S23) (n8 : S23) (y9 : S23) (c10 : S23) : Option ρ :=
bif one5 then
(cadastreref2_May k p4.f1).bind fun r_5 =>
bif r_5 then
(cadastreref4_Concat k p4.f0 p4.f1).bind fun r_6 =>
cadastrelaw4_ArithTexts_j16 k kret knxt l0 i3 a11 r_6.2 p4 t7 n8 y9 r_6.1
else
cadastrelaw4_ArithTexts_j16 k kret knxt l0 i3 a11 b12 p4 t7 n8 y9 c10
else
cadastrelaw4_ArithTexts_j16 k kret knxt l0 i3 a11 b12 p4 t7 n8 y9 c10

noncomputable def cadastrelaw4_ArithTexts_j4 {ρ : Type} (k : Nat) (kret : Bool → Option ρ) (knxt : List S45 → Int → Option ρ) (l0 : List S45) (i3 : Int) : Option ρ :=
chk (0 ≤ i3 ∧ i3 < (l0.length : Int)) <|
(cadastreref2_May k (l0.getD i3.toNat default).f0).bind fun r_1 =>
bif r_1 then
(cadastreref4_Text k (l0.getD i3.toNat default).f0).bind fun r_2 =>
(cadastreref4_Length k (l0.getD i3.toNat default).f0).bind fun r_3 =>
(cadastreref4_Typeof k (l0.getD i3.toNat default).f0).bind fun r_4 =>
cadastrelaw4_ArithTexts_j14 k kret (fun l0_25 i3_26 =>
knxt l0_25 (IntKind.i64.wrap (i3_26 + 1))) l0 i3 r_1 0 1 (l0.getD i3.toNat default) r_2 r_3 r_4 (⟨0, 0, ByteArray.empty⟩ : S23)
else
cadastrelaw4_ArithTexts_j14 k kret (fun l0_28 i3_29 =>
knxt l0_28 (IntKind.i64.wrap (i3_29 + 1))) l0 i3 r_1 1 1 (l0.getD i3.toNat default) (⟨0, 0, ByteArray.empty⟩ : S23) (⟨0, 0, ByteArray.empty⟩ : S23) (⟨0, 0, ByteArray.empty⟩ : S23) (⟨0, 0, ByteArray.empty⟩ : S23)

noncomputable def cadastrelaw4_ArithTexts_l2_b {ρ : Type} (k : Nat) (kret : Bool → Option ρ) (kexit0 : Option ρ) (rec : (List S45) → Int → Option ρ) (l0 : List S45) (i3 : Int) : Option ρ :=
bif (decide (i3 < (l0.length : Int))) then
bif (decide (i3 < 30)) then
cadastrelaw4_ArithTexts_j4 k kret rec l0 i3
else
kexit0
else
kexit0
noncomputable def cadastrelaw4_ArithTexts_l2 {ρ : Type} (k : Nat) (kret : Bool → Option ρ) (kexit0 : Option ρ) : Nat → (List S45) → Int → Option ρ
  | 0, _, _ => none
  | n + 1, l0, i3 => cadastrelaw4_ArithTexts_l2_b k kret kexit0 (cadastrelaw4_ArithTexts_l2 k kret kexit0 n) l0 i3

/-- cadastre/cadastrelaw4.ArithTexts -/
noncomputable def cadastrelaw4_ArithTexts (k : Nat) (l0 : List S45) : Option Bool :=
cadastrelaw4_ArithTexts_l2 k (fun t2_33 =>
some t2_33) ((cadastrelaw4_wakes k).bind fun r_34 =>
some r_34) k l0 0
end Go.Proofs.YtdfmfpbdggefpaaDoor.D
