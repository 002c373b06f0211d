/-
  The program's functions as plain functions over plain data, as a program has printed them.
-/
import Derived.Test.YtahgjfdndpnpfaaAxDef
namespace Go.Proofs.Ytahgjfdndpnpfaa.T
open Go Go.AX
/-- cadastre/api.Value -/
structure S23 where
  f0 : Int
  f1 : Int
  f2 : ByteArray
instance : Inhabited S23 := ⟨⟨0, 0, ByteArray.empty⟩⟩
/-- cadastre/cadastrelaw4.Two -/
structure S25 where
  f0 : S23
  f1 : S23
  f2 : Int
instance : Inhabited S25 := ⟨⟨default, default, 0⟩⟩
/-- cadastre/cadastrelaw7.Ask -/
structure S38 where
  f0 : List S23
  f1 : List S23
  f2 : List (List S23)
instance : Inhabited S38 := ⟨⟨[], [], []⟩⟩
noncomputable def cadastreref2_May_j8 {ρ : Type} (k : Nat) (kret : Bool → Option ρ) (v1 : S23) : Option ρ :=
bif (v1.f1 == 0) then
kret (decide ((v1.f2.size : Int) ≤ 4096))
else
kret false

/-- cadastre/cadastreref2.May -/
noncomputable def cadastreref2_May (k : Nat) (v0 : S23) : Option Bool :=
bif (v0.f0 == 0) then
some ((v0.f0 == 0) && ((v0.f1 == 0) && (v0.f2 == ByteArray.empty)))
else
bif (v0.f0 == 1) then
some (v0.f2.toList == ByteArray.empty.toList)
else
bif (v0.f0 == 2) then
cadastreref2_May_j8 k (fun t2_1 =>
some t2_1) v0
else
bif (v0.f0 == 3) then
cadastreref2_May_j8 k (fun t2_2 =>
some t2_2) v0
else
some false

noncomputable def value_Good_j8 {ρ : Type} (k : Nat) (kret : Bool → Option ρ) (v1 : S23) : Option ρ :=
bif (v1.f1 == 0) then
kret (decide ((v1.f2.size : Int) ≤ 4096))
else
kret false

/-- cadastre/value.Good -/
noncomputable def value_Good (k : Nat) (v0 : S23) : Option Bool :=
bif (v0.f0 == 0) then
some ((v0.f0 == 0) && ((v0.f1 == 0) && (v0.f2 == ByteArray.empty)))
else
bif (v0.f0 == 1) then
some (v0.f2.toList == ByteArray.empty.toList)
else
bif (v0.f0 == 2) then
value_Good_j8 k (fun t2_1 =>
some t2_1) v0
else
bif (v0.f0 == 3) then
value_Good_j8 k (fun t2_2 =>
some t2_2) v0
else
some false

noncomputable def value_All_j2 {ρ : Type} (k : Nat) (kret : Bool → Option ρ) (kgoto0 : List S23 → Int → Option ρ) (l0 : List S23) (i3 : Int) : Option ρ :=
bif (i3 == (l0.length : Int)) then
kret true
else
chk (0 ≤ i3 ∧ i3 < (l0.length : Int)) <|
(value_Good k (l0.getD i3.toNat default)).bind fun r_1 =>
bif r_1 then
kgoto0 l0 (IntKind.i64.wrap (i3 + 1))
else
kret false

noncomputable def value_All_g0_b {ρ : Type} (k : Nat) (kret : Bool → Option ρ) (rec : (List S23) → Int → Option ρ) (l0 : List S23) (i3 : Int) : Option ρ :=
value_All_j2 k kret rec l0 i3
noncomputable def value_All_g0 {ρ : Type} (k : Nat) (kret : Bool → Option ρ) : Nat → (List S23) → Int → Option ρ
  | 0, _, _ => none
  | n + 1, l0, i3 => value_All_g0_b k kret (value_All_g0 k kret n) l0 i3

/-- cadastre/value.All -/
noncomputable def value_All (k : Nat) (l0 : List S23) : Option Bool :=
value_All_j2 k (fun t2_2 =>
some t2_2) (fun l0_3 i3_4 =>
value_All_g0 k (fun t2_8 =>
some t2_8) k l0_3 i3_4) l0 0

noncomputable def arith_reckon_j18 {ρ : Type} (k : Nat) (kret : Int → Int → Option ρ) (n6 : Int) : Option ρ :=
kret n6 0

noncomputable def arith_reckon_j13 {ρ : Type} (k : Nat) (kgoto0 : Option ρ) (knxt : Int → Option ρ) (a1 : Int) (b2 : Int) : Option ρ :=
bif (a1 == (-1)) then
bif (b2 == (-9223372036854775808)) then
kgoto0
else
bif (b2 == (-1)) then
bif (a1 == (-9223372036854775808)) then
kgoto0
else
if b2 = 0 then none else
bif ((IntKind.i64.wrap (Int.tdiv (IntKind.i64.wrap (a1 * b2)) b2)) != a1) then
kgoto0
else
knxt (IntKind.i64.wrap (a1 * b2))
else
if b2 = 0 then none else
bif ((IntKind.i64.wrap (Int.tdiv (IntKind.i64.wrap (a1 * b2)) b2)) != a1) then
kgoto0
else
knxt (IntKind.i64.wrap (a1 * b2))
else
bif (b2 == (-1)) then
bif (a1 == (-9223372036854775808)) then
kgoto0
else
if b2 = 0 then none else
bif ((IntKind.i64.wrap (Int.tdiv (IntKind.i64.wrap (a1 * b2)) b2)) != a1) then
kgoto0
else
knxt (IntKind.i64.wrap (a1 * b2))
else
if b2 = 0 then none else
bif ((IntKind.i64.wrap (Int.tdiv (IntKind.i64.wrap (a1 * b2)) b2)) != a1) then
kgoto0
else
knxt (IntKind.i64.wrap (a1 * b2))

/-- cadastre/arith.reckon -/
noncomputable def arith_reckon (k : Nat) (op0 : Int) (a1 : Int) (b2 : Int) : Option (Int × Int) :=
bif (op0 == 12) then
bif (decide (b2 > 0)) then
bif (decide (a1 > (IntKind.i64.wrap (9223372036854775807 - b2)))) then
some (0, 5)
else
bif (decide (b2 < 0)) then
bif (decide (a1 < (IntKind.i64.wrap ((-9223372036854775808) - b2)))) then
some (0, 5)
else
arith_reckon_j18 k (fun n6_1 e7_2 =>
some (n6_1, e7_2)) (IntKind.i64.wrap (a1 + b2))
else
arith_reckon_j18 k (fun n6_3 e7_4 =>
some (n6_3, e7_4)) (IntKind.i64.wrap (a1 + b2))
else
bif (decide (b2 < 0)) then
bif (decide (a1 < (IntKind.i64.wrap ((-9223372036854775808) - b2)))) then
some (0, 5)
else
arith_reckon_j18 k (fun n6_5 e7_6 =>
some (n6_5, e7_6)) (IntKind.i64.wrap (a1 + b2))
else
arith_reckon_j18 k (fun n6_7 e7_8 =>
some (n6_7, e7_8)) (IntKind.i64.wrap (a1 + b2))
else
bif (op0 == 13) then
bif (decide (b2 < 0)) then
bif (decide (a1 > (IntKind.i64.wrap (9223372036854775807 + b2)))) then
some (0, 5)
else
bif (decide (b2 > 0)) then
bif (decide (a1 < (IntKind.i64.wrap ((-9223372036854775808) + b2)))) then
some (0, 5)
else
arith_reckon_j18 k (fun n6_9 e7_10 =>
some (n6_9, e7_10)) (IntKind.i64.wrap (a1 - b2))
else
arith_reckon_j18 k (fun n6_11 e7_12 =>
some (n6_11, e7_12)) (IntKind.i64.wrap (a1 - b2))
else
bif (decide (b2 > 0)) then
bif (decide (a1 < (IntKind.i64.wrap ((-9223372036854775808) + b2)))) then
some (0, 5)
else
arith_reckon_j18 k (fun n6_13 e7_14 =>
some (n6_13, e7_14)) (IntKind.i64.wrap (a1 - b2))
else
arith_reckon_j18 k (fun n6_15 e7_16 =>
some (n6_15, e7_16)) (IntKind.i64.wrap (a1 - b2))
else
bif (op0 == 9) then
bif (a1 == 0) then
some (0, 0)
else
bif (b2 == 0) then
some (0, 0)
else
arith_reckon_j13 k (some (0, 5)) (fun n6_17 =>
arith_reckon_j18 k (fun n6_18 e7_19 =>
some (n6_18, e7_19)) n6_17) a1 b2
else
bif (op0 == 10) then
bif (a1 == (-9223372036854775808)) then
bif (b2 == (-1)) then
some (0, 5)
else
if b2 = 0 then none else
arith_reckon_j18 k (fun n6_20 e7_21 =>
some (n6_20, e7_21)) (IntKind.i64.wrap (Int.tdiv a1 b2))
else
if b2 = 0 then none else
arith_reckon_j18 k (fun n6_22 e7_23 =>
some (n6_22, e7_23)) (IntKind.i64.wrap (Int.tdiv a1 b2))
else
bif (b2 != (-1)) then
if b2 = 0 then none else
arith_reckon_j18 k (fun n6_24 e7_25 =>
some (n6_24, e7_25)) (Int.tmod a1 b2)
else
arith_reckon_j18 k (fun n6_26 e7_27 =>
some (n6_26, e7_27)) 0

/-- cadastre/value.Int -/
noncomputable def value_Int (k : Nat) (n0 : Int) : Option S23 :=
some (⟨1, n0, ByteArray.empty⟩ : S23)

noncomputable def arith_Do_j7 {ρ : Type} (k : Nat) (kret : Int → S23 → Option ρ) (knxt : Int → S23 → S23 → S23 → Option ρ) (op0 : Int) (a4 : S23) (b5 : S23) (t6 : S23) : Option ρ :=
bif (op0 == 10) then
bif (b5.f1 == 0) then
kret 0 (⟨0, 0, ByteArray.empty⟩ : S23)
else
knxt op0 a4 b5 t6
else
bif (op0 == 11) then
bif (b5.f1 == 0) then
kret 0 (⟨0, 0, ByteArray.empty⟩ : S23)
else
knxt op0 a4 b5 t6
else
knxt op0 a4 b5 t6

noncomputable def arith_Do_j5 {ρ : Type} (k : Nat) (kret : Int → S23 → Option ρ) (knxt : Int → S23 → S23 → S23 → Option ρ) (op0 : Int) (a4 : S23) (b5 : S23) (t6 : S23) : Option ρ :=
bif (a4.f0 != 1) then
kret 4 (⟨0, 0, ByteArray.empty⟩ : S23)
else
bif (b5.f0 != 1) then
kret 4 (⟨0, 0, ByteArray.empty⟩ : S23)
else
arith_Do_j7 k kret knxt op0 a4 b5 t6

noncomputable def arith_Do_j3 {ρ : Type} (k : Nat) (kret : Int → S23 → Option ρ) (knxt : Int → S23 → S23 → S23 → Option ρ) (op0 : Int) (a4 : S23) (b5 : S23) (t6 : S23) : Option ρ :=
bif (a4.f0 == 0) then
kret 0 (⟨0, 0, ByteArray.empty⟩ : S23)
else
bif (b5.f0 == 0) then
kret 0 (⟨0, 0, ByteArray.empty⟩ : S23)
else
arith_Do_j5 k kret knxt op0 a4 b5 t6

noncomputable def arith_Do_j9 {ρ : Type} (k : Nat) (kret : Int → S23 → Option ρ) (op0 : Int) (a4 : S23) (b5 : S23) (t6 : S23) : Option ρ :=
(arith_reckon k op0 a4.f1 b5.f1).bind fun r_20 =>
bif (r_20.2 != 0) then
kret r_20.2 (⟨0, 0, ByteArray.empty⟩ : S23)
else
(value_Int k r_20.1).bind fun r_21 =>
kret 0 r_21

/-- cadastre/arith.Do -/
noncomputable def arith_Do (k : Nat) (op0 : Int) (a1 : S23) (b2 : S23) : Option (S23 × Int) :=
bif (decide (op0 < 9)) then
some ((⟨0, 0, ByteArray.empty⟩ : S23), 1)
else
bif (decide (op0 > 13)) then
some ((⟨0, 0, ByteArray.empty⟩ : S23), 1)
else
(value_All k [a1, b2]).bind fun r_1 =>
bif (!r_1) then
some ((⟨0, 0, ByteArray.empty⟩ : S23), 1)
else
arith_Do_j3 k (fun t7_14 t6_15 =>
some (t6_15, t7_14)) (fun op0_16 a4_17 b5_18 t6_19 =>
arith_Do_j9 k (fun t7_22 t6_23 =>
some (t6_23, t7_22)) op0_16 a4_17 b5_18 t6_19) op0 a1 b2 (⟨0, 0, ByteArray.empty⟩ : S23)

/-- cadastre/cadastrelaw4.num -/
noncomputable def cadastrelaw4_num (k : Nat) (e0 : Int) : Option Int :=
some e0

/-- cadastre/cadastrelaw4.wakes -/
noncomputable def cadastrelaw4_wakes (k : Nat) : Option Bool :=
(arith_Do k 10 (⟨1, 7, ByteArray.empty⟩ : S23) (⟨1, 2, ByteArray.empty⟩ : S23)).bind fun r_1 =>
(cadastrelaw4_num k r_1.2).bind fun r_2 =>
bif (r_2 == 0) then
let v_3 : Bool := ((r_1.1.f0 == 1) && ((r_1.1.f1 == 3) && (r_1.1.f2 == ByteArray.empty)))
some v_3
else
some false

noncomputable def cadastrelaw4_ArithLaws_l7_b {ρ : Type} (k : Nat) (kret : Bool → Option ρ) (kexit2 : List S25 → Int → S25 → Option ρ) (rec : (List S25) → Int → Int → S25 → Option ρ) (l0 : List S25) (i3 : Int) (q5 : Int) (p4 : S25) : Option ρ :=
bif (decide (q5 < 2)) then
chk (0 ≤ q5 ∧ q5 < ([12, 9].length : Int)) <|
(arith_Do k ([12, 9].getD q5.toNat 0) p4.f0 p4.f1).bind fun r_3 =>
(arith_Do k ([12, 9].getD q5.toNat 0) p4.f1 p4.f0).bind fun r_4 =>
(cadastrelaw4_num k r_3.2).bind fun r_5 =>
(cadastrelaw4_num k r_4.2).bind fun r_6 =>
bif (r_5 != r_6) then
kret false
else
let v_7 : Bool := (!((r_3.1.f0 == r_4.1.f0) && ((r_3.1.f1 == r_4.1.f1) && (r_3.1.f2 == r_4.1.f2))))
bif v_7 then
kret false
else
(cadastrelaw4_num k r_3.2).bind fun r_8 =>
bif (r_8 != 0) then
(cadastrelaw4_num k r_3.2).bind fun r_9 =>
bif (r_9 != 5) then
kret false
else
rec l0 i3 (IntKind.i64.wrap (q5 + 1)) p4
else
rec l0 i3 (IntKind.i64.wrap (q5 + 1)) p4
else
kexit2 l0 i3 p4
noncomputable def cadastrelaw4_ArithLaws_l7 {ρ : Type} (k : Nat) (kret : Bool → Option ρ) (kexit2 : List S25 → Int → S25 → Option ρ) : Nat → (List S25) → Int → Int → S25 → Option ρ
  | 0, _, _, _, _ => none
  | n + 1, l0, i3, q5, p4 => cadastrelaw4_ArithLaws_l7_b k kret kexit2 (cadastrelaw4_ArithLaws_l7 k kret kexit2 n) l0 i3 q5 p4

noncomputable def cadastrelaw4_ArithLaws_j25 {ρ : Type} (k : Nat) (kret : Bool → Option ρ) (knxt : List S25 → Int → Option ρ) (l0 : List S25) (i3 : Int) (p4 : S25) (u15 : S23) (r17 : S23) : Option ρ :=
(arith_Do k 9 u15 p4.f1).bind fun r_27 =>
(arith_Do k 12 r_27.1 r17).bind fun r_28 =>
(cadastrelaw4_num k r_27.2).bind fun r_29 =>
bif (r_29 != 0) then
kret false
else
(cadastrelaw4_num k r_28.2).bind fun r_30 =>
bif (r_30 != 0) then
kret false
else
let v_31 : Bool := (!((r_28.1.f0 == p4.f0.f0) && ((r_28.1.f1 == p4.f0.f1) && (r_28.1.f2 == p4.f0.f2))))
bif v_31 then
kret false
else
bif (r17.f1 != 0) then
bif (!((decide (r17.f1 < 0)) == (decide (p4.f0.f1 < 0)))) then
kret false
else
bif (p4.f1.f1 != (-9223372036854775808)) then
let v_32 : Int := (if (IntKind.i64.wrap (0 - r17.f1)) > r17.f1 then (IntKind.i64.wrap (0 - r17.f1)) else r17.f1)
let v_33 : Int := (if (IntKind.i64.wrap (0 - p4.f1.f1)) > p4.f1.f1 then (IntKind.i64.wrap (0 - p4.f1.f1)) else p4.f1.f1)
bif (decide (v_32 ≥ v_33)) then
kret false
else
knxt l0 i3
else
knxt l0 i3
else
bif (p4.f1.f1 != (-9223372036854775808)) then
let v_34 : Int := (if (IntKind.i64.wrap (0 - r17.f1)) > r17.f1 then (IntKind.i64.wrap (0 - r17.f1)) else r17.f1)
let v_35 : Int := (if (IntKind.i64.wrap (0 - p4.f1.f1)) > p4.f1.f1 then (IntKind.i64.wrap (0 - p4.f1.f1)) else p4.f1.f1)
bif (decide (v_34 ≥ v_35)) then
kret false
else
knxt l0 i3
else
knxt l0 i3

noncomputable def cadastrelaw4_ArithLaws_j24 {ρ : Type} (k : Nat) (kret : Bool → Option ρ) (knxt : List S25 → Int → Option ρ) (l0 : List S25) (i3 : Int) (g16 : Int) (p4 : S25) (u15 : S23) (r17 : S23) : Option ρ :=
(cadastrelaw4_num k g16).bind fun r_26 =>
bif (r_26 == 0) then
bif (p4.f1.f1 != 0) then
cadastrelaw4_ArithLaws_j25 k kret knxt l0 i3 p4 u15 r17
else
knxt l0 i3
else
knxt l0 i3

noncomputable def cadastrelaw4_ArithLaws_j19 {ρ : Type} (k : Nat) (kret : Bool → Option ρ) (knxt : List S25 → Int → Option ρ) (l0 : List S25) (i3 : Int) (p4 : S25) : Option ρ :=
(arith_Do k 10 p4.f0 p4.f1).bind fun r_19 =>
(arith_Do k 11 p4.f0 p4.f1).bind fun r_20 =>
(arith_Do k 12 p4.f0 (⟨0, 0, ByteArray.empty⟩ : S23)).bind fun r_21 =>
(cadastrelaw4_num k r_20.2).bind fun r_22 =>
bif (r_22 != 0) then
kret false
else
(cadastrelaw4_num k r_21.2).bind fun r_23 =>
bif (r_23 != 0) then
kret false
else
let v_24 : Bool := (!((r_21.1.f0 == 0) && ((r_21.1.f1 == 0) && (r_21.1.f2 == ByteArray.empty))))
bif v_24 then
kret false
else
let v_25 : Bool := ((r_20.1.f0 == 0) && ((r_20.1.f1 == 0) && (r_20.1.f2 == ByteArray.empty)))
bif (!(v_25 == (p4.f1.f1 == 0))) then
kret false
else
cadastrelaw4_ArithLaws_j24 k kret knxt l0 i3 r_19.2 p4 r_19.1 r_20.1

noncomputable def cadastrelaw4_ArithLaws_j6 {ρ : Type} (k : Nat) (kret : Bool → Option ρ) (knxt : List S25 → Int → Option ρ) (l0 : List S25) (i3 : Int) (p4 : S25) : Option ρ :=
cadastrelaw4_ArithLaws_l7 k kret (fun l0_11 i3_12 p4_13 =>
(arith_Do k 13 p4_13.f0 p4_13.f1).bind fun r_14 =>
(cadastrelaw4_num k r_14.2).bind fun r_15 =>
bif (r_15 == 0) then
(arith_Do k 12 r_14.1 p4_13.f1).bind fun r_16 =>
(cadastrelaw4_num k r_16.2).bind fun r_17 =>
bif (r_17 != 0) then
kret false
else
let v_18 : Bool := (!((r_16.1.f0 == p4_13.f0.f0) && ((r_16.1.f1 == p4_13.f0.f1) && (r_16.1.f2 == p4_13.f0.f2))))
bif v_18 then
kret false
else
cadastrelaw4_ArithLaws_j19 k kret knxt l0_11 i3_12 p4_13
else
cadastrelaw4_ArithLaws_j19 k kret knxt l0_11 i3_12 p4_13) k l0 i3 0 p4

noncomputable def cadastrelaw4_ArithLaws_j4 {ρ : Type} (k : Nat) (knxt : List S25 → Int → Option ρ) (kret : Bool → Option ρ) (l0 : List S25) (i3 : Int) : Option ρ :=
chk (0 ≤ i3 ∧ i3 < (l0.length : Int)) <|
bif ((l0.getD i3.toNat default).f0.f0 != 1) then
knxt l0 (IntKind.i64.wrap (i3 + 1))
else
bif ((l0.getD i3.toNat default).f1.f0 != 1) then
knxt l0 (IntKind.i64.wrap (i3 + 1))
else
(cadastreref2_May k (l0.getD i3.toNat default).f0).bind fun r_1 =>
bif (!r_1) then
knxt l0 (IntKind.i64.wrap (i3 + 1))
else
(cadastreref2_May k (l0.getD i3.toNat default).f1).bind fun r_2 =>
bif (!r_2) then
knxt l0 (IntKind.i64.wrap (i3 + 1))
else
cadastrelaw4_ArithLaws_j6 k kret (fun l0_49 i3_50 =>
knxt l0_49 (IntKind.i64.wrap (i3_50 + 1))) l0 i3 (l0.getD i3.toNat default)

noncomputable def cadastrelaw4_ArithLaws_l2_b {ρ : Type} (k : Nat) (kret : Bool → Option ρ) (kexit0 : Option ρ) (rec : (List S25) → Int → Option ρ) (l0 : List S25) (i3 : Int) : Option ρ :=
bif (decide (i3 < (l0.length : Int))) then
bif (decide (i3 < 30)) then
cadastrelaw4_ArithLaws_j4 k rec kret l0 i3
else
kexit0
else
kexit0
noncomputable def cadastrelaw4_ArithLaws_l2 {ρ : Type} (k : Nat) (kret : Bool → Option ρ) (kexit0 : Option ρ) : Nat → (List S25) → Int → Option ρ
  | 0, _, _ => none
  | n + 1, l0, i3 => cadastrelaw4_ArithLaws_l2_b k kret kexit0 (cadastrelaw4_ArithLaws_l2 k kret kexit0 n) l0 i3

/-- cadastre/cadastrelaw4.ArithLaws -/
noncomputable def cadastrelaw4_ArithLaws (k : Nat) (l0 : List S25) : Option Bool :=
cadastrelaw4_ArithLaws_l2 k (fun t2_54 =>
some t2_54) ((cadastrelaw4_wakes k).bind fun r_55 =>
some r_55) k l0 0

noncomputable def cadastrelaw0_Light_l5_b {ρ : Type} (k : Nat) (kexit0 : Int → Int → Option ρ) (rec : (List S23) → Int → Int → Int → Option ρ) (l0 : List S23) (most1 : Int) (n5 : Int) (i6 : Int) : Option ρ :=
bif (decide (i6 < (l0.length : Int))) then
chk (0 ≤ i6 ∧ i6 < (l0.length : Int)) <|
rec l0 most1 (IntKind.i64.wrap (n5 + ((l0.getD i6.toNat default).f2.size : Int))) (IntKind.i64.wrap (i6 + 1))
else
kexit0 most1 n5
noncomputable def cadastrelaw0_Light_l5 {ρ : Type} (k : Nat) (kexit0 : Int → Int → Option ρ) : Nat → (List S23) → Int → Int → Int → Option ρ
  | 0, _, _, _, _ => none
  | n + 1, l0, most1, n5, i6 => cadastrelaw0_Light_l5_b k kexit0 (cadastrelaw0_Light_l5 k kexit0 n) l0 most1 n5 i6

/-- cadastre/cadastrelaw0.Light -/
noncomputable def cadastrelaw0_Light (k : Nat) (l0 : List S23) (most1 : Int) : Option Bool :=
bif (decide ((l0.length : Int) > 200)) then
some false
else
cadastrelaw0_Light_l5 k (fun most1_1 n5_2 =>
some (decide (n5_2 ≤ most1_1))) k l0 most1 0 0

noncomputable def cadastrelaw0_LightLists_l10_b {ρ : Type} (k : Nat) (kexit2 : List (List S23) → Int → Int → Int → Option ρ) (rec : (List (List S23)) → Int → Int → Int → Int → Option ρ) (l0 : List (List S23)) (most1 : Int) (n5 : Int) (i6 : Int) (k7 : Int) : Option ρ :=
chk (0 ≤ i6 ∧ i6 < (l0.length : Int)) <|
bif (decide (k7 < ((l0.getD i6.toNat []).length : Int))) then
chk (0 ≤ i6 ∧ i6 < (l0.length : Int)) <|
chk (0 ≤ k7 ∧ k7 < ((l0.getD i6.toNat []).length : Int)) <|
let v_1 : Int := (IntKind.i64.wrap ((IntKind.i64.wrap (n5 + 1)) + (((l0.getD i6.toNat []).getD k7.toNat default).f2.size : Int)))
rec l0 most1 v_1 i6 (IntKind.i64.wrap (k7 + 1))
else
kexit2 l0 most1 n5 i6
noncomputable def cadastrelaw0_LightLists_l10 {ρ : Type} (k : Nat) (kexit2 : List (List S23) → Int → Int → Int → Option ρ) : Nat → (List (List S23)) → Int → Int → Int → Int → Option ρ
  | 0, _, _, _, _, _ => none
  | n + 1, l0, most1, n5, i6, k7 => cadastrelaw0_LightLists_l10_b k kexit2 (cadastrelaw0_LightLists_l10 k kexit2 n) l0 most1 n5 i6 k7

noncomputable def cadastrelaw0_LightLists_l5_b {ρ : Type} (k : Nat) (kret : Bool → Option ρ) (kexit0 : Int → Int → Option ρ) (rec : (List (List S23)) → Int → Int → Int → Option ρ) (l0 : List (List S23)) (most1 : Int) (n5 : Int) (i6 : Int) : Option ρ :=
bif (decide (i6 < (l0.length : Int))) then
chk (0 ≤ i6 ∧ i6 < (l0.length : Int)) <|
bif (decide (((l0.getD i6.toNat []).length : Int) > 100)) then
kret false
else
cadastrelaw0_LightLists_l10 k (fun l0_2 most1_3 n5_4 i6_5 =>
rec l0_2 most1_3 n5_4 (IntKind.i64.wrap (i6_5 + 1))) k l0 most1 n5 i6 0
else
kexit0 most1 n5
noncomputable def cadastrelaw0_LightLists_l5 {ρ : Type} (k : Nat) (kret : Bool → Option ρ) (kexit0 : Int → Int → Option ρ) : Nat → (List (List S23)) → Int → Int → Int → Option ρ
  | 0, _, _, _, _ => none
  | n + 1, l0, most1, n5, i6 => cadastrelaw0_LightLists_l5_b k kret kexit0 (cadastrelaw0_LightLists_l5 k kret kexit0 n) l0 most1 n5 i6

/-- cadastre/cadastrelaw0.LightLists -/
noncomputable def cadastrelaw0_LightLists (k : Nat) (l0 : List (List S23)) (most1 : Int) : Option Bool :=
bif (decide ((l0.length : Int) > 200)) then
some false
else
cadastrelaw0_LightLists_l5 k (fun t4_6 =>
some t4_6) (fun most1_7 n5_8 =>
some (decide (n5_8 ≤ most1_7))) k l0 most1 0 0

/-- cadastre/cadastrelaw7.heavy -/
noncomputable def cadastrelaw7_heavy (k : Nat) (p0 : S38) : Option Bool :=
(cadastrelaw0_Light k p0.f0 5000).bind fun r_1 =>
bif (!r_1) then
some true
else
(cadastrelaw0_Light k p0.f1 5000).bind fun r_2 =>
bif (!r_2) then
some true
else
(cadastrelaw0_LightLists k p0.f2 5000).bind fun r_3 =>
some (!r_3)

/-- cadastre/logic.answer -/
noncomputable def logic_answer (k : Nat) (t0 : Int) : Option S23 :=
(value_Int k 0).bind fun r_1 =>
(value_Int k 1).bind fun r_2 =>
chk (0 ≤ t0 ∧ t0 < ([r_1, (⟨0, 0, ByteArray.empty⟩ : S23), r_2].length : Int)) <|
some ([r_1, (⟨0, 0, ByteArray.empty⟩ : S23), r_2].getD t0.toNat default)

/-- cadastre/logic.said -/
noncomputable def logic_said (k : Nat) (so0 : Bool) : Option S23 :=
bif so0 then
(logic_answer k 2).bind fun r_1 =>
some r_1
else
(logic_answer k 0).bind fun r_2 =>
some r_2

/-- cadastre/logic.Null -/
noncomputable def logic_Null (k : Nat) (op0 : Int) (v1 : S23) : Option (S23 × Int) :=
bif (op0 != 5) then
bif (op0 != 6) then
some ((⟨0, 0, ByteArray.empty⟩ : S23), 1)
else
(value_Good k v1).bind fun r_1 =>
bif (!r_1) then
some ((⟨0, 0, ByteArray.empty⟩ : S23), 1)
else
(logic_said k ((v1.f0 == 0) == (op0 == 5))).bind fun r_2 =>
some (r_2, 0)
else
(value_Good k v1).bind fun r_3 =>
bif (!r_3) then
some ((⟨0, 0, ByteArray.empty⟩ : S23), 1)
else
(logic_said k ((v1.f0 == 0) == (op0 == 5))).bind fun r_4 =>
some (r_4, 0)

/-- cadastre/cadastreref2.Int -/
noncomputable def cadastreref2_Int (k : Nat) (n0 : Int) : Option S23 :=
some (⟨1, n0, ByteArray.empty⟩ : S23)

/-- cadastre/cadastrelaw3.num -/
noncomputable def cadastrelaw3_num (k : Nat) (e0 : Int) : Option Int :=
some e0

/-- cadastre/value.sign -/
noncomputable def value_sign (k : Nat) (a0 : Int) (b1 : Int) : Option Int :=
bif (decide (a0 < b1)) then
some (-1)
else
bif (decide (a0 > b1)) then
some 1
else
some 0

noncomputable def value_text_j3 {ρ : Type} (k : Nat) (kgoto0 : ByteArray → ByteArray → Int → Option ρ) (knxt : ByteArray → ByteArray → Int → Option ρ) (a0 : ByteArray) (b1 : ByteArray) (i5 : Int) : Option ρ :=
chk (0 ≤ i5 ∧ i5 < (a0.size : Int)) <|
chk (0 ≤ i5 ∧ i5 < (b1.size : Int)) <|
let v_1 : Bool := (((a0.data.toList.getD i5.toNat 0).toNat : Int) != ((b1.data.toList.getD i5.toNat 0).toNat : Int))
bif v_1 then
kgoto0 a0 b1 i5
else
knxt a0 b1 (IntKind.i64.wrap (i5 + 1))

noncomputable def value_text_l2_b {ρ : Type} (k : Nat) (kgoto0 : ByteArray → ByteArray → Int → Option ρ) (kexit0 : ByteArray → ByteArray → Option ρ) (rec : ByteArray → ByteArray → Int → Option ρ) (a0 : ByteArray) (b1 : ByteArray) (i5 : Int) : Option ρ :=
bif (decide (i5 < (a0.size : Int))) then
bif (decide (i5 < (b1.size : Int))) then
value_text_j3 k kgoto0 rec a0 b1 i5
else
kexit0 a0 b1
else
kexit0 a0 b1
noncomputable def value_text_l2 {ρ : Type} (k : Nat) (kgoto0 : ByteArray → ByteArray → Int → Option ρ) (kexit0 : ByteArray → ByteArray → Option ρ) : Nat → ByteArray → ByteArray → Int → Option ρ
  | 0, _, _, _ => none
  | n + 1, a0, b1, i5 => value_text_l2_b k kgoto0 kexit0 (value_text_l2 k kgoto0 kexit0 n) a0 b1 i5

/-- cadastre/value.text -/
noncomputable def value_text (k : Nat) (a0 : ByteArray) (b1 : ByteArray) : Option Int :=
value_text_l2 k (fun a0_8 b1_9 i5_10 =>
chk (0 ≤ i5_10 ∧ i5_10 < (a0_8.size : Int)) <|
chk (0 ≤ i5_10 ∧ i5_10 < (b1_9.size : Int)) <|
(value_sign k (IntKind.i64.wrap ((a0_8.data.toList.getD i5_10.toNat 0).toNat : Int)) (IntKind.i64.wrap ((b1_9.data.toList.getD i5_10.toNat 0).toNat : Int))).bind fun r_11 =>
some r_11) (fun a0_12 b1_13 =>
(value_sign k (a0_12.size : Int) (b1_13.size : Int)).bind fun r_14 =>
some r_14) k a0 b1 0

/-- cadastre/value.Order -/
noncomputable def value_Order (k : Nat) (a0 : S23) (b1 : S23) : Option Int :=
bif (a0.f0 != b1.f0) then
(value_sign k a0.f0 b1.f0).bind fun r_1 =>
some r_1
else
bif (a0.f0 == 1) then
(value_sign k a0.f1 b1.f1).bind fun r_2 =>
some r_2
else
(value_text k a0.f2 b1.f2).bind fun r_3 =>
some r_3

noncomputable def logic_Test_j5 {ρ : Type} (k : Nat) (kret : Int → S23 → Option ρ) (op0 : Int) (a4 : S23) (b5 : S23) (t6 : S23) : Option ρ :=
(value_Order k a4 b5).bind fun r_2 =>
bif (op0 == 15) then
(logic_said k (r_2 == 0)).bind fun r_3 =>
kret 0 r_3
else
bif (op0 == 16) then
(logic_said k (r_2 != 0)).bind fun r_4 =>
kret 0 r_4
else
bif (op0 == 17) then
(logic_said k (decide (r_2 < 0))).bind fun r_5 =>
kret 0 r_5
else
bif (op0 == 18) then
(logic_said k (decide (r_2 ≤ 0))).bind fun r_6 =>
kret 0 r_6
else
bif (op0 == 19) then
(logic_said k (decide (r_2 > 0))).bind fun r_7 =>
kret 0 r_7
else
(logic_said k (decide (r_2 ≥ 0))).bind fun r_8 =>
kret 0 r_8

noncomputable def logic_Test_j3 {ρ : Type} (k : Nat) (kret : Int → S23 → Option ρ) (op0 : Int) (a4 : S23) (b5 : S23) (t6 : S23) : Option ρ :=
bif (a4.f0 == 0) then
kret 0 (⟨0, 0, ByteArray.empty⟩ : S23)
else
bif (b5.f0 == 0) then
kret 0 (⟨0, 0, ByteArray.empty⟩ : S23)
else
logic_Test_j5 k kret op0 a4 b5 t6

/-- cadastre/logic.Test -/
noncomputable def logic_Test (k : Nat) (op0 : Int) (a1 : S23) (b2 : S23) : Option (S23 × Int) :=
bif (decide (op0 < 15)) then
some ((⟨0, 0, ByteArray.empty⟩ : S23), 1)
else
bif (decide (op0 > 20)) then
some ((⟨0, 0, ByteArray.empty⟩ : S23), 1)
else
(value_All k [a1, b2]).bind fun r_1 =>
bif (!r_1) then
some ((⟨0, 0, ByteArray.empty⟩ : S23), 1)
else
logic_Test_j3 k (fun t7_11 t6_12 =>
some (t6_12, t7_11)) op0 a1 b2 (⟨0, 0, ByteArray.empty⟩ : S23)

/-- cadastre/logic.truth -/
noncomputable def logic_truth (k : Nat) (v0 : S23) : Option (Int × Int) :=
(value_Good k v0).bind fun r_1 =>
bif (!r_1) then
some (0, 1)
else
bif (v0.f0 == 0) then
some (1, 0)
else
bif (v0.f0 != 1) then
some (0, 4)
else
bif (v0.f1 == 0) then
some (0, 0)
else
some (2, 0)

noncomputable def logic_Join_j3 {ρ : Type} (k : Nat) (kret : Int → S23 → Option ρ) (op0 : Int) (a4 : S23) (b5 : S23) (t6 : S23) : Option ρ :=
(logic_truth k a4).bind fun r_2 =>
bif (r_2.2 != 0) then
kret r_2.2 (⟨0, 0, ByteArray.empty⟩ : S23)
else
(logic_truth k b5).bind fun r_3 =>
bif (r_3.2 != 0) then
kret r_3.2 (⟨0, 0, ByteArray.empty⟩ : S23)
else
bif (op0 == 21) then
(logic_answer k (if r_3.1 < r_2.1 then r_3.1 else r_2.1)).bind fun r_4 =>
kret 0 r_4
else
(logic_answer k (if r_3.1 > r_2.1 then r_3.1 else r_2.1)).bind fun r_5 =>
kret 0 r_5

/-- cadastre/logic.Join -/
noncomputable def logic_Join (k : Nat) (op0 : Int) (a1 : S23) (b2 : S23) : Option (S23 × Int) :=
bif (op0 != 21) then
bif (op0 != 22) then
some ((⟨0, 0, ByteArray.empty⟩ : S23), 1)
else
(value_All k [a1, b2]).bind fun r_1 =>
bif (!r_1) then
some ((⟨0, 0, ByteArray.empty⟩ : S23), 1)
else
logic_Join_j3 k (fun t7_6 t6_7 =>
some (t6_7, t7_6)) op0 a1 b2 (⟨0, 0, ByteArray.empty⟩ : S23)
else
(value_All k [a1, b2]).bind fun r_8 =>
bif (!r_8) then
some ((⟨0, 0, ByteArray.empty⟩ : S23), 1)
else
logic_Join_j3 k (fun t7_9 t6_10 =>
some (t6_10, t7_9)) op0 a1 b2 (⟨0, 0, ByteArray.empty⟩ : S23)

/-- cadastre/cadastrelaw3.wakes -/
noncomputable def cadastrelaw3_wakes (k : Nat) : Option Bool :=
(logic_Join k 21 (⟨0, 0, ByteArray.empty⟩ : S23) (⟨1, 0, ByteArray.empty⟩ : S23)).bind fun r_1 =>
(cadastrelaw3_num k r_1.2).bind fun r_2 =>
bif (r_2 == 0) then
let v_3 : Bool := ((r_1.1.f0 == 1) && ((r_1.1.f1 == 0) && (r_1.1.f2 == ByteArray.empty)))
some v_3
else
some false

noncomputable def cadastrelaw3_LogicNulls_l14_b {ρ : Type} (k : Nat) (kret : Bool → Option ρ) (kexit2 : List S25 → Int → Option ρ) (rec : (List S25) → Int → Int → S23 → Option ρ) (l0 : List S25) (i3 : Int) (op12 : Int) (a4 : S23) : Option ρ :=
bif (decide (op12 ≤ 20)) then
(logic_Test k op12 a4 (⟨0, 0, ByteArray.empty⟩ : S23)).bind fun r_13 =>
(logic_Test k op12 (⟨0, 0, ByteArray.empty⟩ : S23) a4).bind fun r_14 =>
(cadastrelaw3_num k r_13.2).bind fun r_15 =>
bif (r_15 != 0) then
kret false
else
(cadastrelaw3_num k r_14.2).bind fun r_16 =>
bif (r_16 != 0) then
kret false
else
let v_17 : Bool := (!((r_13.1.f0 == 0) && ((r_13.1.f1 == 0) && (r_13.1.f2 == ByteArray.empty))))
bif v_17 then
kret false
else
let v_18 : Bool := (!((r_14.1.f0 == 0) && ((r_14.1.f1 == 0) && (r_14.1.f2 == ByteArray.empty))))
bif v_18 then
kret false
else
rec l0 i3 (IntKind.i64.wrap (op12 + 1)) a4
else
kexit2 l0 i3
noncomputable def cadastrelaw3_LogicNulls_l14 {ρ : Type} (k : Nat) (kret : Bool → Option ρ) (kexit2 : List S25 → Int → Option ρ) : Nat → (List S25) → Int → Int → S23 → Option ρ
  | 0, _, _, _, _ => none
  | n + 1, l0, i3, op12, a4 => cadastrelaw3_LogicNulls_l14_b k kret kexit2 (cadastrelaw3_LogicNulls_l14 k kret kexit2 n) l0 i3 op12 a4

noncomputable def cadastrelaw3_LogicNulls_j13 {ρ : Type} (k : Nat) (kret : Bool → Option ρ) (knxt : List S25 → Int → Option ρ) (l0 : List S25) (i3 : Int) (a4 : S23) : Option ρ :=
cadastrelaw3_LogicNulls_l14 k kret knxt k l0 i3 15 a4

noncomputable def cadastrelaw3_LogicNulls_j4 {ρ : Type} (k : Nat) (knxt : List S25 → Int → Option ρ) (kret : Bool → Option ρ) (l0 : List S25) (i3 : Int) : Option ρ :=
chk (0 ≤ i3 ∧ i3 < (l0.length : Int)) <|
(cadastreref2_May k (l0.getD i3.toNat default).f0).bind fun r_1 =>
bif (!r_1) then
knxt l0 (IntKind.i64.wrap (i3 + 1))
else
(logic_Null k 5 (l0.getD i3.toNat default).f0).bind fun r_2 =>
(logic_Null k 6 (l0.getD i3.toNat default).f0).bind fun r_3 =>
(cadastreref2_Int k 1).bind fun r_4 =>
(cadastreref2_Int k 0).bind fun r_5 =>
let v_6 : Bool := (((l0.getD i3.toNat default).f0.f0 == 0) && (((l0.getD i3.toNat default).f0.f1 == 0) && ((l0.getD i3.toNat default).f0.f2 == ByteArray.empty)))
(cadastrelaw3_num k r_2.2).bind fun r_7 =>
bif (r_7 != 0) then
kret false
else
(cadastrelaw3_num k r_3.2).bind fun r_8 =>
bif (r_8 != 0) then
kret false
else
bif v_6 then
let v_9 : Bool := (!((r_2.1.f0 == r_4.f0) && ((r_2.1.f1 == r_4.f1) && (r_2.1.f2 == r_4.f2))))
bif v_9 then
kret false
else
let v_10 : Bool := (!((r_3.1.f0 == r_5.f0) && ((r_3.1.f1 == r_5.f1) && (r_3.1.f2 == r_5.f2))))
bif v_10 then
kret false
else
bif (!v_6) then
let v_11 : Bool := (!((r_2.1.f0 == r_5.f0) && ((r_2.1.f1 == r_5.f1) && (r_2.1.f2 == r_5.f2))))
bif v_11 then
kret false
else
let v_12 : Bool := (!((r_3.1.f0 == r_4.f0) && ((r_3.1.f1 == r_4.f1) && (r_3.1.f2 == r_4.f2))))
bif v_12 then
kret false
else
cadastrelaw3_LogicNulls_j13 k kret (fun l0_23 i3_24 =>
knxt l0_23 (IntKind.i64.wrap (i3_24 + 1))) l0 i3 (l0.getD i3.toNat default).f0
else
cadastrelaw3_LogicNulls_j13 k kret (fun l0_26 i3_27 =>
knxt l0_26 (IntKind.i64.wrap (i3_27 + 1))) l0 i3 (l0.getD i3.toNat default).f0
else
bif (!v_6) then
let v_28 : Bool := (!((r_2.1.f0 == r_5.f0) && ((r_2.1.f1 == r_5.f1) && (r_2.1.f2 == r_5.f2))))
bif v_28 then
kret false
else
let v_29 : Bool := (!((r_3.1.f0 == r_4.f0) && ((r_3.1.f1 == r_4.f1) && (r_3.1.f2 == r_4.f2))))
bif v_29 then
kret false
else
cadastrelaw3_LogicNulls_j13 k kret (fun l0_31 i3_32 =>
knxt l0_31 (IntKind.i64.wrap (i3_32 + 1))) l0 i3 (l0.getD i3.toNat default).f0
else
cadastrelaw3_LogicNulls_j13 k kret (fun l0_34 i3_35 =>
knxt l0_34 (IntKind.i64.wrap (i3_35 + 1))) l0 i3 (l0.getD i3.toNat default).f0

noncomputable def cadastrelaw3_LogicNulls_l2_b {ρ : Type} (k : Nat) (kret : Bool → Option ρ) (kexit0 : Option ρ) (rec : (List S25) → Int → Option ρ) (l0 : List S25) (i3 : Int) : Option ρ :=
bif (decide (i3 < (l0.length : Int))) then
bif (decide (i3 < 30)) then
cadastrelaw3_LogicNulls_j4 k rec kret l0 i3
else
kexit0
else
kexit0
noncomputable def cadastrelaw3_LogicNulls_l2 {ρ : Type} (k : Nat) (kret : Bool → Option ρ) (kexit0 : Option ρ) : Nat → (List S25) → Int → Option ρ
  | 0, _, _ => none
  | n + 1, l0, i3 => cadastrelaw3_LogicNulls_l2_b k kret kexit0 (cadastrelaw3_LogicNulls_l2 k kret kexit0 n) l0 i3

/-- cadastre/cadastrelaw3.LogicNulls -/
noncomputable def cadastrelaw3_LogicNulls (k : Nat) (l0 : List S25) : Option Bool :=
cadastrelaw3_LogicNulls_l2 k (fun t2_39 =>
some t2_39) ((cadastrelaw3_wakes k).bind fun r_40 =>
some r_40) k l0 0

/-- cadastre/logic.Not -/
noncomputable def logic_Not (k : Nat) (v0 : S23) : Option (S23 × Int) :=
(logic_truth k v0).bind fun r_1 =>
bif (r_1.2 != 0) then
some ((⟨0, 0, ByteArray.empty⟩ : S23), r_1.2)
else
(logic_answer k (IntKind.i64.wrap (2 - r_1.1))).bind fun r_2 =>
some (r_2, 0)

noncomputable def cadastrelaw3_LogicLaws_j26 {ρ : Type} (k : Nat) (kret : Bool → Option ρ) (knxt : List S25 → Int → Int → List Int → List Int → S25 → Option ρ) (l0 : List S25) (i5 : Int) (q19 : Int) (g21 : Int) (opposite3_0 : List Int) (mirrored4_0 : List Int) (p6 : S25) (s20 : S23) (u24 : S23) : Option ρ :=
(cadastrelaw3_num k g21).bind fun r_24 =>
bif (r_24 == 0) then
(logic_Not k u24).bind fun r_25 =>
(cadastrelaw3_num k r_25.2).bind fun r_26 =>
bif (r_26 != 0) then
kret false
else
let v_27 : Bool := (!((r_25.1.f0 == s20.f0) && ((r_25.1.f1 == s20.f1) && (r_25.1.f2 == s20.f2))))
bif v_27 then
kret false
else
knxt l0 i5 q19 opposite3_0 mirrored4_0 p6
else
knxt l0 i5 q19 opposite3_0 mirrored4_0 p6

noncomputable def cadastrelaw3_LogicLaws_l19_b {ρ : Type} (k : Nat) (kret : Bool → Option ρ) (kexit2 : List S25 → Int → List Int → List Int → Option ρ) (rec : (List S25) → Int → Int → (List Int) → (List Int) → S25 → Option ρ) (l0 : List S25) (i5 : Int) (q19 : Int) (opposite3_0 : List Int) (mirrored4_0 : List Int) (p6 : S25) : Option ρ :=
bif (decide (q19 < 6)) then
(logic_Test k (IntKind.i64.wrap (15 + q19)) p6.f0 p6.f1).bind fun r_16 =>
chk (0 ≤ q19 ∧ q19 < (6 : Int)) <|
chk (q19.toNat < 6) <|
(logic_Test k (mirrored4_0.getD q19.toNat 0) p6.f1 p6.f0).bind fun r_17 =>
chk (0 ≤ q19 ∧ q19 < (6 : Int)) <|
chk (q19.toNat < 6) <|
(logic_Test k (opposite3_0.getD q19.toNat 0) p6.f0 p6.f1).bind fun r_18 =>
(cadastrelaw3_num k r_16.2).bind fun r_19 =>
(cadastrelaw3_num k r_17.2).bind fun r_20 =>
bif (r_19 != r_20) then
kret false
else
(cadastrelaw3_num k r_16.2).bind fun r_21 =>
(cadastrelaw3_num k r_18.2).bind fun r_22 =>
bif (r_21 != r_22) then
kret false
else
let v_23 : Bool := (!((r_16.1.f0 == r_17.1.f0) && ((r_16.1.f1 == r_17.1.f1) && (r_16.1.f2 == r_17.1.f2))))
bif v_23 then
kret false
else
cadastrelaw3_LogicLaws_j26 k kret (fun l0_29 i5_30 q19_31 opposite3_32 mirrored4_33 p6_34 =>
rec l0_29 i5_30 (IntKind.i64.wrap (q19_31 + 1)) opposite3_32 mirrored4_33 p6_34) l0 i5 q19 r_16.2 opposite3_0 mirrored4_0 p6 r_16.1 r_18.1
else
kexit2 l0 i5 opposite3_0 mirrored4_0
noncomputable def cadastrelaw3_LogicLaws_l19 {ρ : Type} (k : Nat) (kret : Bool → Option ρ) (kexit2 : List S25 → Int → List Int → List Int → Option ρ) : Nat → (List S25) → Int → Int → (List Int) → (List Int) → S25 → Option ρ
  | 0, _, _, _, _, _, _ => none
  | n + 1, l0, i5, q19, opposite3_0, mirrored4_0, p6 => cadastrelaw3_LogicLaws_l19_b k kret kexit2 (cadastrelaw3_LogicLaws_l19 k kret kexit2 n) l0 i5 q19 opposite3_0 mirrored4_0 p6

noncomputable def cadastrelaw3_LogicLaws_j18 {ρ : Type} (k : Nat) (kret : Bool → Option ρ) (knxt : List S25 → Int → List Int → List Int → Option ρ) (l0 : List S25) (i5 : Int) (opposite3_0 : List Int) (mirrored4_0 : List Int) (p6 : S25) : Option ρ :=
cadastrelaw3_LogicLaws_l19 k kret knxt k l0 i5 0 opposite3_0 mirrored4_0 p6

noncomputable def cadastrelaw3_LogicLaws_j11 {ρ : Type} (k : Nat) (kret : Bool → Option ρ) (knxt : List S25 → Int → List Int → List Int → Option ρ) (l0 : List S25) (i5 : Int) (e8 : Int) (opposite3_0 : List Int) (mirrored4_0 : List Int) (p6 : S25) (a7 : S23) : Option ρ :=
(cadastrelaw3_num k e8).bind fun r_6 =>
bif (r_6 == 0) then
(logic_Not k a7).bind fun r_7 =>
(logic_Not k p6.f0).bind fun r_8 =>
(logic_Not k p6.f1).bind fun r_9 =>
(logic_Join k 22 r_8.1 r_9.1).bind fun r_10 =>
(cadastrelaw3_num k r_7.2).bind fun r_11 =>
bif (r_11 != 0) then
kret false
else
(cadastrelaw3_num k r_8.2).bind fun r_12 =>
bif (r_12 != 0) then
kret false
else
(cadastrelaw3_num k r_9.2).bind fun r_13 =>
bif (r_13 != 0) then
kret false
else
(cadastrelaw3_num k r_10.2).bind fun r_14 =>
bif (r_14 != 0) then
kret false
else
let v_15 : Bool := (!((r_7.1.f0 == r_10.1.f0) && ((r_7.1.f1 == r_10.1.f1) && (r_7.1.f2 == r_10.1.f2))))
bif v_15 then
kret false
else
cadastrelaw3_LogicLaws_j18 k kret knxt l0 i5 opposite3_0 mirrored4_0 p6
else
cadastrelaw3_LogicLaws_j18 k kret knxt l0 i5 opposite3_0 mirrored4_0 p6

noncomputable def cadastrelaw3_LogicLaws_j6 {ρ : Type} (k : Nat) (kret : Bool → Option ρ) (knxt : List S25 → Int → List Int → List Int → Option ρ) (l0 : List S25) (i5 : Int) (opposite3_0 : List Int) (mirrored4_0 : List Int) : Option ρ :=
chk (0 ≤ i5 ∧ i5 < (l0.length : Int)) <|
(logic_Join k 21 (l0.getD i5.toNat default).f0 (l0.getD i5.toNat default).f1).bind fun r_1 =>
(logic_Join k 21 (l0.getD i5.toNat default).f1 (l0.getD i5.toNat default).f0).bind fun r_2 =>
(cadastrelaw3_num k r_1.2).bind fun r_3 =>
(cadastrelaw3_num k r_2.2).bind fun r_4 =>
bif (r_3 != r_4) then
kret false
else
let v_5 : Bool := (!((r_1.1.f0 == r_2.1.f0) && ((r_1.1.f1 == r_2.1.f1) && (r_1.1.f2 == r_2.1.f2))))
bif v_5 then
kret false
else
cadastrelaw3_LogicLaws_j11 k kret (fun l0_51 i5_52 opposite3_53 mirrored4_54 =>
knxt l0_51 (IntKind.i64.wrap (i5_52 + 1)) opposite3_53 mirrored4_54) l0 i5 r_1.2 opposite3_0 mirrored4_0 (l0.getD i5.toNat default) r_1.1

noncomputable def cadastrelaw3_LogicLaws_l4_b {ρ : Type} (k : Nat) (kret : Bool → Option ρ) (kexit0 : Option ρ) (rec : (List S25) → Int → (List Int) → (List Int) → Option ρ) (l0 : List S25) (i5 : Int) (opposite3_0 : List Int) (mirrored4_0 : List Int) : Option ρ :=
bif (decide (i5 < (l0.length : Int))) then
bif (decide (i5 < 30)) then
cadastrelaw3_LogicLaws_j6 k kret rec l0 i5 opposite3_0 mirrored4_0
else
kexit0
else
kexit0
noncomputable def cadastrelaw3_LogicLaws_l4 {ρ : Type} (k : Nat) (kret : Bool → Option ρ) (kexit0 : Option ρ) : Nat → (List S25) → Int → (List Int) → (List Int) → Option ρ
  | 0, _, _, _, _ => none
  | n + 1, l0, i5, opposite3_0, mirrored4_0 => cadastrelaw3_LogicLaws_l4_b k kret kexit0 (cadastrelaw3_LogicLaws_l4 k kret kexit0 n) l0 i5 opposite3_0 mirrored4_0

/-- cadastre/cadastrelaw3.LogicLaws -/
noncomputable def cadastrelaw3_LogicLaws (k : Nat) (l0 : List S25) : Option Bool :=
cadastrelaw3_LogicLaws_l4 k (fun t2_60 =>
some t2_60) ((cadastrelaw3_wakes k).bind fun r_61 =>
some r_61) k l0 0 [16, 15, 20, 19, 18, 17] [15, 16, 19, 20, 17, 18]

/-- cadastre/cadastreref2.Truth -/
noncomputable def cadastreref2_Truth (k : Nat) (v0 : S23) : Option Int :=
bif (v0.f0 == 0) then
some 2
else
bif (v0.f0 == 1) then
bif (v0.f1 == 0) then
some 0
else
some 1
else
some (-1)

/-- cadastre/cadastreref2.told -/
noncomputable def cadastreref2_told (k : Nat) (t0 : Int) : Option S23 :=
bif (t0 == 2) then
some (⟨0, 0, ByteArray.empty⟩ : S23)
else
(cadastreref2_Int k t0).bind fun r_1 =>
some r_1

/-- cadastre/cadastreref2.Not -/
noncomputable def cadastreref2_Not (k : Nat) (v0 : S23) : Option (S23 × Int) :=
(cadastreref2_Truth k v0).bind fun r_1 =>
bif (r_1 == (-1)) then
some ((⟨0, 0, ByteArray.empty⟩ : S23), 4)
else
bif (r_1 == 2) then
some ((⟨0, 0, ByteArray.empty⟩ : S23), 0)
else
(cadastreref2_Truth k v0).bind fun r_2 =>
(cadastreref2_told k (IntKind.i64.wrap (1 - r_2))).bind fun r_3 =>
some (r_3, 0)

noncomputable def cadastreref2_Join_j10 {ρ : Type} (k : Nat) (kret : Int → S23 → Option ρ) (knxt : Int → S23 → Option ρ) (x8 : Int) (y9 : Int) (strong10 : Int) (t6 : S23) : Option ρ :=
bif (x8 == 2) then
kret 0 (⟨0, 0, ByteArray.empty⟩ : S23)
else
bif (y9 == 2) then
kret 0 (⟨0, 0, ByteArray.empty⟩ : S23)
else
knxt strong10 t6

noncomputable def cadastreref2_Join_j8 {ρ : Type} (k : Nat) (kret : Int → S23 → Option ρ) (x8 : Int) (y9 : Int) (strong10 : Int) (t6 : S23) : Option ρ :=
bif (x8 == strong10) then
(cadastreref2_told k strong10).bind fun r_3 =>
kret 0 r_3
else
bif (y9 == strong10) then
(cadastreref2_told k strong10).bind fun r_4 =>
kret 0 r_4
else
cadastreref2_Join_j10 k kret (fun strong10_7 t6_8 =>
(cadastreref2_told k (IntKind.i64.wrap (1 - strong10_7))).bind fun r_9 =>
kret 0 r_9) x8 y9 strong10 t6

noncomputable def cadastreref2_Join_j5 {ρ : Type} (k : Nat) (kret : Int → S23 → Option ρ) (op0 : Int) (x8 : Int) (y9 : Int) (t6 : S23) : Option ρ :=
bif (op0 == 22) then
cadastreref2_Join_j8 k kret x8 y9 1 t6
else
cadastreref2_Join_j8 k kret x8 y9 0 t6

/-- cadastre/cadastreref2.Join -/
noncomputable def cadastreref2_Join (k : Nat) (op0 : Int) (a1 : S23) (b2 : S23) : Option (S23 × Int) :=
(cadastreref2_Truth k a1).bind fun r_1 =>
(cadastreref2_Truth k b2).bind fun r_2 =>
bif (decide (r_1 < 0)) then
some ((⟨0, 0, ByteArray.empty⟩ : S23), 4)
else
bif (decide (r_2 < 0)) then
some ((⟨0, 0, ByteArray.empty⟩ : S23), 4)
else
cadastreref2_Join_j5 k (fun t7_14 t6_15 =>
some (t6_15, t7_14)) op0 r_1 r_2 (⟨0, 0, ByteArray.empty⟩ : S23)

/-- cadastre/cadastreref0.Cmp -/
noncomputable def cadastreref0_Cmp (k : Nat) (a0 : ByteArray) (b1 : ByteArray) : Option Int :=
bif (Go.Op.bytesLess a0.toList b1.toList) then
some (-1)
else
bif (!((Go.Op.bytesLess a0.toList b1.toList) || (a0.toList == b1.toList))) then
some 1
else
some 0

noncomputable def cadastreref2_Cmp_j3 {ρ : Type} (k : Nat) (kret : Int → Option ρ) (knxt : S23 → S23 → Option ρ) (a2 : S23) (b3 : S23) : Option ρ :=
bif (decide (a2.f0 > b3.f0)) then
kret 1
else
bif (decide (a2.f1 > b3.f1)) then
kret 1
else
knxt a2 b3

/-- cadastre/cadastreref2.Cmp -/
noncomputable def cadastreref2_Cmp (k : Nat) (a0 : S23) (b1 : S23) : Option Int :=
bif (decide (a0.f0 < b1.f0)) then
some (-1)
else
bif (a0.f0 == b1.f0) then
bif (decide (a0.f1 < b1.f1)) then
some (-1)
else
cadastreref2_Cmp_j3 k (fun t4_1 =>
some t4_1) (fun a2_2 b3_3 =>
(cadastreref0_Cmp k a2_2.f2 b3_3.f2).bind fun r_4 =>
some r_4) a0 b1
else
cadastreref2_Cmp_j3 k (fun t4_5 =>
some t4_5) (fun a2_6 b3_7 =>
(cadastreref0_Cmp k a2_6.f2 b3_7.f2).bind fun r_8 =>
some r_8) a0 b1

/-- cadastre/cadastreref2.Bool -/
noncomputable def cadastreref2_Bool (k : Nat) (b0 : Bool) : Option S23 :=
bif b0 then
(cadastreref2_Int k 1).bind fun r_1 =>
some r_1
else
(cadastreref2_Int k 0).bind fun r_2 =>
some r_2

noncomputable def cadastreref2_Test_j3 {ρ : Type} (k : Nat) (kret : S23 → Option ρ) (op0 : Int) (a4 : S23) (b5 : S23) (t6 : S23) : Option ρ :=
(cadastreref2_Cmp k a4 b5).bind fun r_1 =>
bif (op0 == 15) then
(cadastreref2_Bool k (r_1 == 0)).bind fun r_2 =>
kret r_2
else
bif (op0 == 16) then
(cadastreref2_Bool k (r_1 != 0)).bind fun r_3 =>
kret r_3
else
bif (op0 == 17) then
(cadastreref2_Bool k (decide (r_1 < 0))).bind fun r_4 =>
kret r_4
else
bif (op0 == 18) then
(cadastreref2_Bool k (decide (r_1 ≤ 0))).bind fun r_5 =>
kret r_5
else
bif (op0 == 19) then
(cadastreref2_Bool k (decide (r_1 > 0))).bind fun r_6 =>
kret r_6
else
(cadastreref2_Bool k (decide (r_1 ≥ 0))).bind fun r_7 =>
kret r_7

/-- cadastre/cadastreref2.Test -/
noncomputable def cadastreref2_Test (k : Nat) (op0 : Int) (a1 : S23) (b2 : S23) : Option S23 :=
bif (a1.f0 == 0) then
some (⟨0, 0, ByteArray.empty⟩ : S23)
else
bif (b2.f0 == 0) then
some (⟨0, 0, ByteArray.empty⟩ : S23)
else
cadastreref2_Test_j3 k (fun t6_8 =>
some t6_8) op0 a1 b2 (⟨0, 0, ByteArray.empty⟩ : S23)

/-- cadastre/cadastreref2.Null -/
noncomputable def cadastreref2_Null (k : Nat) (op0 : Int) (v1 : S23) : Option S23 :=
(cadastreref2_Bool k ((v1.f0 == 0) == (op0 == 5))).bind fun r_1 =>
some r_1

/-- cadastre/logic.True -/
noncomputable def logic_True (k : Nat) (v0 : S23) : Option (Bool × Int) :=
(logic_truth k v0).bind fun r_1 =>
bif (r_1.2 == 0) then
some ((r_1.1 == 2), r_1.2)
else
some (false, r_1.2)

/-- cadastre/cadastrelaw3.is -/
noncomputable def cadastrelaw3_is (k : Nat) (v0 : S23) (e1 : Int) (want2 : S23) (bad3 : Int) : Option Bool :=
(cadastrelaw3_num k e1).bind fun r_1 =>
bif (r_1 == bad3) then
some ((v0.f0 == want2.f0) && ((v0.f1 == want2.f1) && (v0.f2 == want2.f2)))
else
some false

noncomputable def cadastrelaw3_LogicExact_j18 {ρ : Type} (k : Nat) (knxt : List S25 → Int → Bool → Bool → Int → Int → Int → Int → Int → Bool → S25 → S23 → S23 → S23 → S23 → Option ρ) (l0 : List S25) (i3 : Int) (one5 : Bool) (two6 : Bool) (a12 : Int) (b13 : Int) (d15 : Int) (f16 : Int) (truth17 : Bool) (p4 : S25) (n8 : S23) (j9 : S23) (s10 : S23) (u11 : S23) : Option ρ :=
(cadastreref2_Join k p4.f2 p4.f0 p4.f1).bind fun r_6 =>
knxt l0 i3 one5 two6 a12 b13 r_6.2 d15 f16 truth17 p4 n8 r_6.1 s10 u11

noncomputable def cadastrelaw3_LogicExact_j26 {ρ : Type} (k : Nat) (kret : Bool → Option ρ) (knxt : List S25 → Int → Option ρ) (l0 : List S25) (i3 : Int) (b13 : Int) (c14 : Int) (d15 : Int) (f16 : Int) (p4 : S25) (n8 : S23) (j9 : S23) (s10 : S23) (u11 : S23) : Option ρ :=
(logic_Not k p4.f0).bind fun r_26 =>
(cadastrelaw3_is k r_26.1 r_26.2 n8 b13).bind fun r_27 =>
bif (!r_27) then
kret false
else
(logic_Join k p4.f2 p4.f0 p4.f1).bind fun r_28 =>
(cadastrelaw3_is k r_28.1 r_28.2 j9 c14).bind fun r_29 =>
bif (!r_29) then
kret false
else
(logic_Test k p4.f2 p4.f0 p4.f1).bind fun r_30 =>
(cadastrelaw3_is k r_30.1 r_30.2 s10 d15).bind fun r_31 =>
bif (!r_31) then
kret false
else
(logic_Null k p4.f2 p4.f0).bind fun r_32 =>
(cadastrelaw3_is k r_32.1 r_32.2 u11 f16).bind fun r_33 =>
bif (!r_33) then
kret false
else
knxt l0 i3

noncomputable def cadastrelaw3_LogicExact_j23 {ρ : Type} (k : Nat) (kret : Bool → Option ρ) (knxt : List S25 → Int → Option ρ) (l0 : List S25) (i3 : Int) (a12 : Int) (b13 : Int) (c14 : Int) (d15 : Int) (f16 : Int) (truth17 : Bool) (p4 : S25) (n8 : S23) (j9 : S23) (s10 : S23) (u11 : S23) : Option ρ :=
(logic_True k p4.f0).bind fun r_24 =>
(cadastrelaw3_num k r_24.2).bind fun r_25 =>
bif (r_25 != a12) then
kret false
else
bif (!(r_24.1 == truth17)) then
kret false
else
cadastrelaw3_LogicExact_j26 k kret knxt l0 i3 b13 c14 d15 f16 p4 n8 j9 s10 u11

noncomputable def cadastrelaw3_LogicExact_j21 {ρ : Type} (k : Nat) (kret : Bool → Option ρ) (knxt : List S25 → Int → Option ρ) (l0 : List S25) (i3 : Int) (one5 : Bool) (a12 : Int) (b13 : Int) (c14 : Int) (d15 : Int) (f16 : Int) (truth17 : Bool) (p4 : S25) (n8 : S23) (j9 : S23) (s10 : S23) (u11 : S23) : Option ρ :=
bif one5 then
bif (p4.f2 == 5) then
(cadastreref2_Null k p4.f2 p4.f0).bind fun r_23 =>
cadastrelaw3_LogicExact_j23 k kret knxt l0 i3 a12 b13 c14 d15 0 truth17 p4 n8 j9 s10 r_23
else
bif (p4.f2 == 6) then
(cadastreref2_Null k p4.f2 p4.f0).bind fun r_40 =>
cadastrelaw3_LogicExact_j23 k kret knxt l0 i3 a12 b13 c14 d15 0 truth17 p4 n8 j9 s10 r_40
else
cadastrelaw3_LogicExact_j23 k kret knxt l0 i3 a12 b13 c14 d15 f16 truth17 p4 n8 j9 s10 u11
else
cadastrelaw3_LogicExact_j23 k kret knxt l0 i3 a12 b13 c14 d15 f16 truth17 p4 n8 j9 s10 u11

noncomputable def cadastrelaw3_LogicExact_j19 {ρ : Type} (k : Nat) (kret : Bool → Option ρ) (knxt : List S25 → Int → Option ρ) (l0 : List S25) (i3 : Int) (one5 : Bool) (two6 : Bool) (a12 : Int) (b13 : Int) (c14 : Int) (d15 : Int) (f16 : Int) (truth17 : Bool) (p4 : S25) (n8 : S23) (j9 : S23) (s10 : S23) (u11 : S23) : Option ρ :=
bif two6 then
bif (decide (p4.f2 ≥ 15)) then
bif (decide (p4.f2 ≤ 20)) then
(cadastreref2_Test k p4.f2 p4.f0 p4.f1).bind fun r_22 =>
cadastrelaw3_LogicExact_j21 k kret knxt l0 i3 one5 a12 b13 c14 0 f16 truth17 p4 n8 j9 r_22 u11
else
cadastrelaw3_LogicExact_j21 k kret knxt l0 i3 one5 a12 b13 c14 d15 f16 truth17 p4 n8 j9 s10 u11
else
cadastrelaw3_LogicExact_j21 k kret knxt l0 i3 one5 a12 b13 c14 d15 f16 truth17 p4 n8 j9 s10 u11
else
cadastrelaw3_LogicExact_j21 k kret knxt l0 i3 one5 a12 b13 c14 d15 f16 truth17 p4 n8 j9 s10 u11

noncomputable def cadastrelaw3_LogicExact_j17 {ρ : Type} (k : Nat) (kret : Bool → Option ρ) (knxt : List S25 → Int → Option ρ) (l0 : List S25) (i3 : Int) (one5 : Bool) (two6 : Bool) (a12 : Int) (b13 : Int) (c14 : Int) (d15 : Int) (f16 : Int) (truth17 : Bool) (p4 : S25) (n8 : S23) (j9 : S23) (s10 : S23) (u11 : S23) : Option ρ :=
bif two6 then
bif (p4.f2 == 21) then
cadastrelaw3_LogicExact_j18 k (fun l0_7 i3_8 one5_9 two6_10 a12_11 b13_12 c14_13 d15_14 f16_15 truth17_16 p4_17 n8_18 j9_19 s10_20 u11_21 =>
cadastrelaw3_LogicExact_j19 k kret knxt l0_7 i3_8 one5_9 two6_10 a12_11 b13_12 c14_13 d15_14 f16_15 truth17_16 p4_17 n8_18 j9_19 s10_20 u11_21) l0 i3 one5 two6 a12 b13 d15 f16 truth17 p4 n8 j9 s10 u11
else
bif (p4.f2 == 22) then
cadastrelaw3_LogicExact_j18 k (fun l0_65 i3_66 one5_67 two6_68 a12_69 b13_70 c14_71 d15_72 f16_73 truth17_74 p4_75 n8_76 j9_77 s10_78 u11_79 =>
cadastrelaw3_LogicExact_j19 k kret knxt l0_65 i3_66 one5_67 two6_68 a12_69 b13_70 c14_71 d15_72 f16_73 truth17_74 p4_75 n8_76 j9_77 s10_78 u11_79) l0 i3 one5 two6 a12 b13 d15 f16 truth17 p4 n8 j9 s10 u11
else
cadastrelaw3_LogicExact_j19 k kret knxt l0 i3 one5 two6 a12 b13 c14 d15 f16 truth17 p4 n8 j9 s10 u11
else
cadastrelaw3_LogicExact_j19 k kret knxt l0 i3 one5 two6 a12 b13 c14 d15 f16 truth17 p4 n8 j9 s10 u11

noncomputable def cadastrelaw3_LogicExact_j7 {ρ : Type} (k : Nat) (kret : Bool → Option ρ) (knxt : List S25 → Int → Option ρ) (l0 : List S25) (i3 : Int) (one5 : Bool) (two6 : Bool) (p4 : S25) : Option ρ :=
bif one5 then
(cadastreref2_Truth k p4.f0).bind fun r_3 =>
(cadastreref2_Truth k p4.f0).bind fun r_4 =>
bif (decide (r_4 < 0)) then
(cadastreref2_Not k p4.f0).bind fun r_5 =>
cadastrelaw3_LogicExact_j17 k kret knxt l0 i3 one5 two6 4 r_5.2 1 1 1 (r_3 == 1) p4 r_5.1 (⟨0, 0, ByteArray.empty⟩ : S23) (⟨0, 0, ByteArray.empty⟩ : S23) (⟨0, 0, ByteArray.empty⟩ : S23)
else
(cadastreref2_Not k p4.f0).bind fun r_92 =>
cadastrelaw3_LogicExact_j17 k kret knxt l0 i3 one5 two6 0 r_92.2 1 1 1 (r_3 == 1) p4 r_92.1 (⟨0, 0, ByteArray.empty⟩ : S23) (⟨0, 0, ByteArray.empty⟩ : S23) (⟨0, 0, ByteArray.empty⟩ : S23)
else
cadastrelaw3_LogicExact_j17 k kret knxt l0 i3 one5 two6 1 1 1 1 1 false p4 (⟨0, 0, ByteArray.empty⟩ : S23) (⟨0, 0, ByteArray.empty⟩ : S23) (⟨0, 0, ByteArray.empty⟩ : S23) (⟨0, 0, ByteArray.empty⟩ : S23)

noncomputable def cadastrelaw3_LogicExact_j4 {ρ : Type} (k : Nat) (kret : Bool → Option ρ) (knxt : List S25 → Int → Option ρ) (l0 : List S25) (i3 : Int) : Option ρ :=
chk (0 ≤ i3 ∧ i3 < (l0.length : Int)) <|
(cadastreref2_May k (l0.getD i3.toNat default).f0).bind fun r_1 =>
bif r_1 then
(cadastreref2_May k (l0.getD i3.toNat default).f1).bind fun r_2 =>
cadastrelaw3_LogicExact_j7 k kret (fun l0_100 i3_101 =>
knxt l0_100 (IntKind.i64.wrap (i3_101 + 1))) l0 i3 r_1 r_2 (l0.getD i3.toNat default)
else
cadastrelaw3_LogicExact_j7 k kret (fun l0_103 i3_104 =>
knxt l0_103 (IntKind.i64.wrap (i3_104 + 1))) l0 i3 r_1 false (l0.getD i3.toNat default)

noncomputable def cadastrelaw3_LogicExact_l2_b {ρ : Type} (k : Nat) (kret : Bool → Option ρ) (kexit0 : Option ρ) (rec : (List S25) → Int → Option ρ) (l0 : List S25) (i3 : Int) : Option ρ :=
bif (decide (i3 < (l0.length : Int))) then
bif (decide (i3 < 30)) then
cadastrelaw3_LogicExact_j4 k kret rec l0 i3
else
kexit0
else
kexit0
noncomputable def cadastrelaw3_LogicExact_l2 {ρ : Type} (k : Nat) (kret : Bool → Option ρ) (kexit0 : Option ρ) : Nat → (List S25) → Int → Option ρ
  | 0, _, _ => none
  | n + 1, l0, i3 => cadastrelaw3_LogicExact_l2_b k kret kexit0 (cadastrelaw3_LogicExact_l2 k kret kexit0 n) l0 i3

/-- cadastre/cadastrelaw3.LogicExact -/
noncomputable def cadastrelaw3_LogicExact (k : Nat) (l0 : List S25) : Option Bool :=
cadastrelaw3_LogicExact_l2 k (fun t2_108 =>
some t2_108) ((cadastrelaw3_wakes k).bind fun r_109 =>
some r_109) k l0 0

/-- cadastre/cadastrelaw7.num -/
noncomputable def cadastrelaw7_num (k : Nat) (e0 : Int) : Option Int :=
some e0

noncomputable def keys_Check_l3_b {ρ : Type} (k : Nat) (kret : Int → Option ρ) (kexit0 : Int → Option ρ) (rec : Int → (List (List S23)) → Int → Int → Option ρ) (e3 : Int) (t6 : List (List S23)) (t7 : Int) (t8 : Int) : Option ρ :=
bif (decide (t8 < t7)) then
chk (0 ≤ t8 ∧ t8 < (t6.length : Int)) <|
(value_All k (t6.getD t8.toNat [])).bind fun r_1 =>
bif (!r_1) then
kret 1
else
bif (decide (((t6.getD t8.toNat []).length : Int) > 17)) then
rec 7 t6 t7 (IntKind.i64.wrap (t8 + 1))
else
rec e3 t6 t7 (IntKind.i64.wrap (t8 + 1))
else
kexit0 e3
noncomputable def keys_Check_l3 {ρ : Type} (k : Nat) (kret : Int → Option ρ) (kexit0 : Int → Option ρ) : Nat → Int → (List (List S23)) → Int → Int → Option ρ
  | 0, _, _, _, _ => none
  | n + 1, e3, t6, t7, t8 => keys_Check_l3_b k kret kexit0 (keys_Check_l3 k kret kexit0 n) e3 t6 t7 t8

/-- cadastre/keys.Check -/
noncomputable def keys_Check (k : Nat) (l0 : List (List S23)) : Option Int :=
keys_Check_l3 k (fun t2_2 =>
some t2_2) (fun e3_3 =>
some e3_3) k 0 l0 (l0.length : Int) 0

noncomputable def keys_Order_j4 {ρ : Type} (k : Nat) (kgoto0 : List S23 → List S23 → Int → Option ρ) (kret : Int → Option ρ) (a0 : List S23) (b1 : List S23) (i6 : Int) : Option ρ :=
chk (0 ≤ i6 ∧ i6 < (a0.length : Int)) <|
chk (0 ≤ i6 ∧ i6 < (b1.length : Int)) <|
(value_Order k (a0.getD i6.toNat default) (b1.getD i6.toNat default)).bind fun r_1 =>
bif (r_1 == 0) then
kgoto0 a0 b1 (IntKind.i64.wrap (i6 + 1))
else
kret r_1

noncomputable def keys_Order_j8 {ρ : Type} (k : Nat) (kret : Int → Option ρ) (a0 : List S23) (b1 : List S23) : Option ρ :=
bif (decide ((a0.length : Int) < (b1.length : Int))) then
kret (-1)
else
bif (decide ((a0.length : Int) > (b1.length : Int))) then
kret 1
else
kret 0

noncomputable def keys_Order_j3 {ρ : Type} (k : Nat) (kgoto0 : List S23 → List S23 → Int → Option ρ) (kret : Int → Option ρ) (a0 : List S23) (b1 : List S23) (i6 : Int) : Option ρ :=
bif (decide (i6 < (a0.length : Int))) then
bif (decide (i6 < (b1.length : Int))) then
keys_Order_j4 k kgoto0 kret a0 b1 i6
else
keys_Order_j8 k kret a0 b1
else
keys_Order_j8 k kret a0 b1

noncomputable def keys_Order_g0_b {ρ : Type} (k : Nat) (kret : Int → Option ρ) (rec : (List S23) → (List S23) → Int → Option ρ) (a0 : List S23) (b1 : List S23) (i6 : Int) : Option ρ :=
keys_Order_j3 k rec kret a0 b1 i6
noncomputable def keys_Order_g0 {ρ : Type} (k : Nat) (kret : Int → Option ρ) : Nat → (List S23) → (List S23) → Int → Option ρ
  | 0, _, _, _ => none
  | n + 1, a0, b1, i6 => keys_Order_g0_b k kret (keys_Order_g0 k kret n) a0 b1 i6

/-- cadastre/keys.Order -/
noncomputable def keys_Order (k : Nat) (a0 : List S23) (b1 : List S23) : Option Int :=
keys_Order_j3 k (fun a0_8 b1_9 i6_10 =>
keys_Order_g0 k (fun t4_15 =>
some t4_15) k a0_8 b1_9 i6_10) (fun t4_16 =>
some t4_16) a0 b1 0

/-- cadastre/keys.Cmp -/
noncomputable def keys_Cmp (k : Nat) (a0 : List S23) (b1 : List S23) : Option (Int × Int) :=
(keys_Check k [a0, b1]).bind fun r_1 =>
bif (r_1 != 0) then
some (0, r_1)
else
(keys_Order k a0 b1).bind fun r_2 =>
some (r_2, 0)

/-- cadastre/cadastrelaw7.wakes -/
noncomputable def cadastrelaw7_wakes (k : Nat) : Option Bool :=
(keys_Cmp k [(⟨1, 1, ByteArray.empty⟩ : S23)] [(⟨1, 1, ByteArray.empty⟩ : S23), (⟨0, 0, ByteArray.empty⟩ : S23)]).bind fun r_1 =>
(cadastrelaw7_num k r_1.2).bind fun r_2 =>
bif (r_2 == 0) then
some (r_1.1 == (-1))
else
some false
end Go.Proofs.Ytahgjfdndpnpfaa.T
