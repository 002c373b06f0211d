/-
  The program's functions as plain functions over plain data, as a program has printed them.
-/
import Derived.Test.YtcongmnnacmbmaaAxDef
namespace Go.Proofs.Ytcongmnnacmbmaa.K
open Go Go.AX
/-- cadastre/api.Value -/
structure S41 where
  f0 : Int
  f1 : Int
  f2 : ByteArray
instance : Inhabited S41 := ⟨⟨0, 0, ByteArray.empty⟩⟩
/-- cadastre/cadastrelaw7.Ask -/
structure S25 where
  f0 : List S41
  f1 : List S41
  f2 : List (List S41)
instance : Inhabited S25 := ⟨⟨[], [], []⟩⟩
noncomputable def cadastrelaw0_Light_l5_b {ρ : Type} (k : Nat) (kexit0 : Int → Int → Option ρ) (rec : (List S41) → Int → Int → Int → Option ρ) (l0 : List S41) (most1 : Int) (n5 : Int) (i6 : Int) : Option ρ :=
bif (decide (i6 < (l0.length : Int))) then
chk (0 ≤ i6 ∧ i6 < (l0.length : Int)) <|
rec l0 most1 (IntKind.i64.wrap (n5 + ((l0.getD i6.toNat default).f2.size : Int))) (IntKind.i64.wrap (i6 + 1))
else
kexit0 most1 n5
noncomputable def cadastrelaw0_Light_l5 {ρ : Type} (k : Nat) (kexit0 : Int → Int → Option ρ) : Nat → (List S41) → Int → Int → Int → Option ρ
  | 0, _, _, _, _ => none
  | n + 1, l0, most1, n5, i6 => cadastrelaw0_Light_l5_b k kexit0 (cadastrelaw0_Light_l5 k kexit0 n) l0 most1 n5 i6

/-- cadastre/cadastrelaw0.Light -/
noncomputable def cadastrelaw0_Light (k : Nat) (l0 : List S41) (most1 : Int) : Option Bool :=
bif (decide ((l0.length : Int) > 200)) then
some false
else
cadastrelaw0_Light_l5 k (fun most1_1 n5_2 =>
some (decide (n5_2 ≤ most1_1))) k l0 most1 0 0

noncomputable def cadastrelaw0_LightLists_l10_b {ρ : Type} (k : Nat) (kexit2 : List (List S41) → Int → Int → Int → Option ρ) (rec : (List (List S41)) → Int → Int → Int → Int → Option ρ) (l0 : List (List S41)) (most1 : Int) (n5 : Int) (i6 : Int) (k7 : Int) : Option ρ :=
chk (0 ≤ i6 ∧ i6 < (l0.length : Int)) <|
bif (decide (k7 < ((l0.getD i6.toNat []).length : Int))) then
chk (0 ≤ i6 ∧ i6 < (l0.length : Int)) <|
chk (0 ≤ k7 ∧ k7 < ((l0.getD i6.toNat []).length : Int)) <|
let v_1 : Int := (IntKind.i64.wrap ((IntKind.i64.wrap (n5 + 1)) + (((l0.getD i6.toNat []).getD k7.toNat default).f2.size : Int)))
rec l0 most1 v_1 i6 (IntKind.i64.wrap (k7 + 1))
else
kexit2 l0 most1 n5 i6
noncomputable def cadastrelaw0_LightLists_l10 {ρ : Type} (k : Nat) (kexit2 : List (List S41) → Int → Int → Int → Option ρ) : Nat → (List (List S41)) → Int → Int → Int → Int → Option ρ
  | 0, _, _, _, _, _ => none
  | n + 1, l0, most1, n5, i6, k7 => cadastrelaw0_LightLists_l10_b k kexit2 (cadastrelaw0_LightLists_l10 k kexit2 n) l0 most1 n5 i6 k7

noncomputable def cadastrelaw0_LightLists_l5_b {ρ : Type} (k : Nat) (kret : Bool → Option ρ) (kexit0 : Int → Int → Option ρ) (rec : (List (List S41)) → Int → Int → Int → Option ρ) (l0 : List (List S41)) (most1 : Int) (n5 : Int) (i6 : Int) : Option ρ :=
bif (decide (i6 < (l0.length : Int))) then
chk (0 ≤ i6 ∧ i6 < (l0.length : Int)) <|
bif (decide (((l0.getD i6.toNat []).length : Int) > 100)) then
kret false
else
cadastrelaw0_LightLists_l10 k (fun l0_2 most1_3 n5_4 i6_5 =>
rec l0_2 most1_3 n5_4 (IntKind.i64.wrap (i6_5 + 1))) k l0 most1 n5 i6 0
else
kexit0 most1 n5
noncomputable def cadastrelaw0_LightLists_l5 {ρ : Type} (k : Nat) (kret : Bool → Option ρ) (kexit0 : Int → Int → Option ρ) : Nat → (List (List S41)) → Int → Int → Int → Option ρ
  | 0, _, _, _, _ => none
  | n + 1, l0, most1, n5, i6 => cadastrelaw0_LightLists_l5_b k kret kexit0 (cadastrelaw0_LightLists_l5 k kret kexit0 n) l0 most1 n5 i6

/-- cadastre/cadastrelaw0.LightLists -/
noncomputable def cadastrelaw0_LightLists (k : Nat) (l0 : List (List S41)) (most1 : Int) : Option Bool :=
bif (decide ((l0.length : Int) > 200)) then
some false
else
cadastrelaw0_LightLists_l5 k (fun t4_6 =>
some t4_6) (fun most1_7 n5_8 =>
some (decide (n5_8 ≤ most1_7))) k l0 most1 0 0

/-- cadastre/cadastrelaw7.heavy -/
noncomputable def cadastrelaw7_heavy (k : Nat) (p0 : S25) : Option Bool :=
(cadastrelaw0_Light k p0.f0 5000).bind fun r_1 =>
bif (!r_1) then
some true
else
(cadastrelaw0_Light k p0.f1 5000).bind fun r_2 =>
bif (!r_2) then
some true
else
(cadastrelaw0_LightLists k p0.f2 5000).bind fun r_3 =>
some (!r_3)

noncomputable def value_Good_j8 {ρ : Type} (k : Nat) (kret : Bool → Option ρ) (v1 : S41) : Option ρ :=
bif (v1.f1 == 0) then
kret (big (decide ((v1.f2.size : Int) ≤ 4096)))
else
kret false

/-- cadastre/value.Good -/
noncomputable def value_Good (k : Nat) (v0 : S41) : Option Bool :=
bif (v0.f0 == 0) then
some ((v0.f0 == 0) && ((v0.f1 == 0) && (v0.f2 == ByteArray.empty)))
else
bif (v0.f0 == 1) then
some (v0.f2.toList == ByteArray.empty.toList)
else
bif (v0.f0 == 2) then
value_Good_j8 k (fun t2_1 =>
some t2_1) v0
else
bif (v0.f0 == 3) then
value_Good_j8 k (fun t2_2 =>
some t2_2) v0
else
some false

noncomputable def value_All_j2 {ρ : Type} (k : Nat) (kret : Bool → Option ρ) (kgoto0 : List S41 → Int → Option ρ) (l0 : List S41) (i3 : Int) : Option ρ :=
bif (i3 == (l0.length : Int)) then
kret true
else
chk (0 ≤ i3 ∧ i3 < (l0.length : Int)) <|
(value_Good k (l0.getD i3.toNat default)).bind fun r_1 =>
bif r_1 then
kgoto0 l0 (IntKind.i64.wrap (i3 + 1))
else
kret false

noncomputable def value_All_g0_b {ρ : Type} (k : Nat) (kret : Bool → Option ρ) (rec : (List S41) → Int → Option ρ) (l0 : List S41) (i3 : Int) : Option ρ :=
value_All_j2 k kret rec l0 i3
noncomputable def value_All_g0 {ρ : Type} (k : Nat) (kret : Bool → Option ρ) : Nat → (List S41) → Int → Option ρ
  | 0, _, _ => none
  | n + 1, l0, i3 => value_All_g0_b k kret (value_All_g0 k kret n) l0 i3

/-- cadastre/value.All -/
noncomputable def value_All (k : Nat) (l0 : List S41) : Option Bool :=
value_All_j2 k (fun t2_2 =>
some t2_2) (fun l0_3 i3_4 =>
value_All_g0 k (fun t2_8 =>
some t2_8) k l0_3 i3_4) l0 0

noncomputable def keys_Check_l3_b {ρ : Type} (k : Nat) (kret : Int → Option ρ) (kexit0 : Int → Option ρ) (rec : Int → (List (List S41)) → Int → Int → Option ρ) (e3 : Int) (t6 : List (List S41)) (t7 : Int) (t8 : Int) : Option ρ :=
bif (decide (t8 < t7)) then
chk (0 ≤ t8 ∧ t8 < (t6.length : Int)) <|
(value_All k (t6.getD t8.toNat [])).bind fun r_1 =>
bif (!r_1) then
kret 1
else
bif (decide (((t6.getD t8.toNat []).length : Int) > 17)) then
rec 7 t6 t7 (IntKind.i64.wrap (t8 + 1))
else
rec e3 t6 t7 (IntKind.i64.wrap (t8 + 1))
else
kexit0 e3
noncomputable def keys_Check_l3 {ρ : Type} (k : Nat) (kret : Int → Option ρ) (kexit0 : Int → Option ρ) : Nat → Int → (List (List S41)) → Int → Int → Option ρ
  | 0, _, _, _, _ => none
  | n + 1, e3, t6, t7, t8 => keys_Check_l3_b k kret kexit0 (keys_Check_l3 k kret kexit0 n) e3 t6 t7 t8

/-- cadastre/keys.Check -/
noncomputable def keys_Check (k : Nat) (l0 : List (List S41)) : Option Int :=
keys_Check_l3 k (fun t2_2 =>
some t2_2) (fun e3_3 =>
some e3_3) k 0 l0 (l0.length : Int) 0

/-- cadastre/value.sign -/
noncomputable def value_sign (k : Nat) (a0 : Int) (b1 : Int) : Option Int :=
bif (decide (a0 < b1)) then
some (-1)
else
bif (decide (a0 > b1)) then
some 1
else
some 0

noncomputable def value_text_j3 {ρ : Type} (k : Nat) (kgoto0 : ByteArray → ByteArray → Int → Option ρ) (knxt : ByteArray → ByteArray → Int → Option ρ) (a0 : ByteArray) (b1 : ByteArray) (i5 : Int) : Option ρ :=
chk (0 ≤ i5 ∧ i5 < (a0.size : Int)) <|
chk (0 ≤ i5 ∧ i5 < (b1.size : Int)) <|
let v_1 : Bool := (((a0.data.toList.getD i5.toNat 0).toNat : Int) != ((b1.data.toList.getD i5.toNat 0).toNat : Int))
bif v_1 then
kgoto0 a0 b1 i5
else
knxt a0 b1 (IntKind.i64.wrap (i5 + 1))

noncomputable def value_text_l2_b {ρ : Type} (k : Nat) (kgoto0 : ByteArray → ByteArray → Int → Option ρ) (kexit0 : ByteArray → ByteArray → Option ρ) (rec : ByteArray → ByteArray → Int → Option ρ) (a0 : ByteArray) (b1 : ByteArray) (i5 : Int) : Option ρ :=
bif (decide (i5 < (a0.size : Int))) then
bif (decide (i5 < (b1.size : Int))) then
value_text_j3 k kgoto0 rec a0 b1 i5
else
kexit0 a0 b1
else
kexit0 a0 b1
noncomputable def value_text_l2 {ρ : Type} (k : Nat) (kgoto0 : ByteArray → ByteArray → Int → Option ρ) (kexit0 : ByteArray → ByteArray → Option ρ) : Nat → ByteArray → ByteArray → Int → Option ρ
  | 0, _, _, _ => none
  | n + 1, a0, b1, i5 => value_text_l2_b k kgoto0 kexit0 (value_text_l2 k kgoto0 kexit0 n) a0 b1 i5

/-- cadastre/value.text -/
noncomputable def value_text (k : Nat) (a0 : ByteArray) (b1 : ByteArray) : Option Int :=
value_text_l2 k (fun a0_8 b1_9 i5_10 =>
chk (0 ≤ i5_10 ∧ i5_10 < (a0_8.size : Int)) <|
chk (0 ≤ i5_10 ∧ i5_10 < (b1_9.size : Int)) <|
(value_sign k (IntKind.i64.wrap ((a0_8.data.toList.getD i5_10.toNat 0).toNat : Int)) (IntKind.i64.wrap ((b1_9.data.toList.getD i5_10.toNat 0).toNat : Int))).bind fun r_11 =>
some r_11) (fun a0_12 b1_13 =>
(value_sign k (a0_12.size : Int) (b1_13.size : Int)).bind fun r_14 =>
some r_14) k a0 b1 0

/-- cadastre/value.Order -/
noncomputable def value_Order (k : Nat) (a0 : S41) (b1 : S41) : Option Int :=
bif (a0.f0 != b1.f0) then
(value_sign k a0.f0 b1.f0).bind fun r_1 =>
some r_1
else
bif (a0.f0 == 1) then
(value_sign k a0.f1 b1.f1).bind fun r_2 =>
some r_2
else
(value_text k a0.f2 b1.f2).bind fun r_3 =>
some r_3

noncomputable def keys_Order_j4 {ρ : Type} (k : Nat) (kgoto0 : List S41 → List S41 → Int → Option ρ) (kret : Int → Option ρ) (a0 : List S41) (b1 : List S41) (i6 : Int) : Option ρ :=
chk (0 ≤ i6 ∧ i6 < (a0.length : Int)) <|
chk (0 ≤ i6 ∧ i6 < (b1.length : Int)) <|
(value_Order k (a0.getD i6.toNat default) (b1.getD i6.toNat default)).bind fun r_1 =>
bif (r_1 == 0) then
kgoto0 a0 b1 (IntKind.i64.wrap (i6 + 1))
else
kret r_1

noncomputable def keys_Order_j8 {ρ : Type} (k : Nat) (kret : Int → Option ρ) (a0 : List S41) (b1 : List S41) : Option ρ :=
bif (decide ((a0.length : Int) < (b1.length : Int))) then
kret (-1)
else
bif (decide ((a0.length : Int) > (b1.length : Int))) then
kret 1
else
kret 0

noncomputable def keys_Order_j3 {ρ : Type} (k : Nat) (kgoto0 : List S41 → List S41 → Int → Option ρ) (kret : Int → Option ρ) (a0 : List S41) (b1 : List S41) (i6 : Int) : Option ρ :=
bif (decide (i6 < (a0.length : Int))) then
bif (decide (i6 < (b1.length : Int))) then
keys_Order_j4 k kgoto0 kret a0 b1 i6
else
keys_Order_j8 k kret a0 b1
else
keys_Order_j8 k kret a0 b1

noncomputable def keys_Order_g0_b {ρ : Type} (k : Nat) (kret : Int → Option ρ) (rec : (List S41) → (List S41) → Int → Option ρ) (a0 : List S41) (b1 : List S41) (i6 : Int) : Option ρ :=
keys_Order_j3 k rec kret a0 b1 i6
noncomputable def keys_Order_g0 {ρ : Type} (k : Nat) (kret : Int → Option ρ) : Nat → (List S41) → (List S41) → Int → Option ρ
  | 0, _, _, _ => none
  | n + 1, a0, b1, i6 => keys_Order_g0_b k kret (keys_Order_g0 k kret n) a0 b1 i6

/-- cadastre/keys.Order -/
noncomputable def keys_Order (k : Nat) (a0 : List S41) (b1 : List S41) : Option Int :=
keys_Order_j3 k (fun a0_8 b1_9 i6_10 =>
keys_Order_g0 k (fun t4_15 =>
some t4_15) k a0_8 b1_9 i6_10) (fun t4_16 =>
some t4_16) a0 b1 0

/-- cadastre/keys.Find$1 -/
noncomputable def keys_Find_1_r1_r2 (k : Nat) (i0 : Int) (t1 : List (List S41)) (t2 : List S41) : Option Bool :=
chk (0 ≤ i0 ∧ i0 < (t1.length : Int)) <|
(keys_Order k (t1.getD i0.toNat []) t2).bind fun r_1 =>
some (decide (r_1 < 0))

noncomputable def keys_Place_f14_j2 {ρ : Type} (k : Nat) (kret : Int → Option ρ) (kgoto0 : List (List S41) → List S41 → Int → Int → Option ρ) (below1_c0 : List (List S41)) (below1_c1 : List S41) (lo5 : Int) (hi6 : Int) : Option ρ :=
bif (lo5 == hi6) then
kret lo5
else
(keys_Find_1_r1_r2 k (IntKind.i64.wrap (Int.tdiv (IntKind.i64.wrap (lo5 + hi6)) 2)) below1_c0 below1_c1).bind fun r_1 =>
bif r_1 then
let v_2 : Int := (IntKind.i64.wrap ((IntKind.i64.wrap (Int.tdiv (IntKind.i64.wrap (lo5 + hi6)) 2)) + 1))
kgoto0 below1_c0 below1_c1 v_2 hi6
else
kgoto0 below1_c0 below1_c1 lo5 (IntKind.i64.wrap (Int.tdiv (IntKind.i64.wrap (lo5 + hi6)) 2))

noncomputable def keys_Place_f14_g0_b {ρ : Type} (k : Nat) (kret : Int → Option ρ) (rec : (List (List S41)) → (List S41) → Int → Int → Option ρ) (below1_c0 : List (List S41)) (below1_c1 : List S41) (lo5 : Int) (hi6 : Int) : Option ρ :=
keys_Place_f14_j2 k kret rec below1_c0 below1_c1 lo5 hi6
noncomputable def keys_Place_f14_g0 {ρ : Type} (k : Nat) (kret : Int → Option ρ) : Nat → (List (List S41)) → (List S41) → Int → Int → Option ρ
  | 0, _, _, _, _ => none
  | n + 1, below1_c0, below1_c1, lo5, hi6 => keys_Place_f14_g0_b k kret (keys_Place_f14_g0 k kret n) below1_c0 below1_c1 lo5 hi6

/-- cadastre/keys.Place -/
noncomputable def keys_Place_f14 (k : Nat) (n0 : Int) (below1_0 : List (List S41)) (below1_1 : List S41) : Option Int :=
keys_Place_f14_j2 k (fun t4_3 =>
some t4_3) (fun below1_4 below1_5 lo5_6 hi6_7 =>
keys_Place_f14_g0 k (fun t4_13 =>
some t4_13) k below1_4 below1_5 lo5_6 hi6_7) below1_0 below1_1 0 n0

noncomputable def keys_Find_l5_b {ρ : Type} (k : Nat) (kret : Int → Int → Option ρ) (kexit0 : List (List S41) → List S41 → Option ρ) (rec : Int → (List (List S41)) → (List S41) → Option ρ) (i7 : Int) (l2_0 : List (List S41)) (k3_0 : List S41) : Option ρ :=
bif (decide (i7 < (l2_0.length : Int))) then
chk (0 ≤ (IntKind.i64.wrap (i7 - 1)) ∧ (IntKind.i64.wrap (i7 - 1)) < (l2_0.length : Int)) <|
chk (0 ≤ i7 ∧ i7 < (l2_0.length : Int)) <|
(keys_Order k (l2_0.getD (IntKind.i64.wrap (i7 - 1)).toNat []) (l2_0.getD i7.toNat [])).bind fun r_2 =>
bif (decide (r_2 ≥ 0)) then
kret 0 1
else
rec (IntKind.i64.wrap (i7 + 1)) l2_0 k3_0
else
kexit0 l2_0 k3_0
noncomputable def keys_Find_l5 {ρ : Type} (k : Nat) (kret : Int → Int → Option ρ) (kexit0 : List (List S41) → List S41 → Option ρ) : Nat → Int → (List (List S41)) → (List S41) → Option ρ
  | 0, _, _, _ => none
  | n + 1, i7, l2_0, k3_0 => keys_Find_l5_b k kret kexit0 (keys_Find_l5 k kret kexit0 n) i7 l2_0 k3_0

/-- cadastre/keys.Find -/
noncomputable def keys_Find (k : Nat) (l0 : List (List S41)) (k1 : List S41) : Option (Int × Int) :=
chk ((0 + l0.length) * 24 ≤ 140737488355328) <|
chk (((([] : List (List S41)) ++ l0).length + [k1].length) * 24 ≤ 140737488355328) <|
(keys_Check k ((([] : List (List S41)) ++ l0) ++ [k1])).bind fun r_1 =>
bif (r_1 != 0) then
some (0, r_1)
else
keys_Find_l5 k (fun t4_3 t5_4 =>
some (t4_3, t5_4)) (fun l2_5 k3_6 =>
(keys_Place_f14 k (l2_5.length : Int) l2_5 k3_6).bind fun r_7 =>
some (r_7, 0)) k 1 l0 k1

/-- cadastre/cadastrelaw7.num -/
noncomputable def cadastrelaw7_num (k : Nat) (e0 : Int) : Option Int :=
some e0

/-- cadastre/keys.Cmp -/
noncomputable def keys_Cmp (k : Nat) (a0 : List S41) (b1 : List S41) : Option (Int × Int) :=
(keys_Check k [a0, b1]).bind fun r_1 =>
bif (r_1 != 0) then
some (0, r_1)
else
(keys_Order k a0 b1).bind fun r_2 =>
some (r_2, 0)

/-- cadastre/cadastrelaw7.wakes -/
noncomputable def cadastrelaw7_wakes (k : Nat) : Option Bool :=
(keys_Cmp k [(⟨1, 1, ByteArray.empty⟩ : S41)] [(⟨1, 1, ByteArray.empty⟩ : S41), (⟨0, 0, ByteArray.empty⟩ : S41)]).bind fun r_1 =>
(cadastrelaw7_num k r_1.2).bind fun r_2 =>
bif (r_2 == 0) then
some (r_1.1 == (-1))
else
some false

noncomputable def cadastrelaw7_KeysFinds_l10_b {ρ : Type} (k : Nat) (kret : Bool → Option ρ) (kexit2 : List S25 → Int → S25 → Option ρ) (rec : (List S25) → Int → Int → Int → S25 → Option ρ) (l0 : List S25) (i3 : Int) (n5 : Int) (k7 : Int) (p4 : S25) : Option ρ :=
bif (decide (k7 < (p4.f2.length : Int))) then
chk (0 ≤ k7 ∧ k7 < (p4.f2.length : Int)) <|
(keys_Cmp k (p4.f2.getD k7.toNat []) p4.f0).bind fun r_4 =>
chk (0 ≤ k7 ∧ k7 < (p4.f2.length : Int)) <|
(keys_Find k p4.f2 (p4.f2.getD k7.toNat [])).bind fun r_5 =>
(cadastrelaw7_num k r_4.2).bind fun r_6 =>
bif (r_6 != 0) then
kret false
else
(cadastrelaw7_num k r_5.2).bind fun r_7 =>
bif (r_7 != 0) then
kret false
else
bif (r_5.1 != k7) then
kret false
else
bif (decide (k7 < n5)) then
bif (decide (r_4.1 ≥ 0)) then
kret false
else
bif (decide (k7 ≥ n5)) then
bif (decide (r_4.1 < 0)) then
kret false
else
rec l0 i3 n5 (IntKind.i64.wrap (k7 + 1)) p4
else
rec l0 i3 n5 (IntKind.i64.wrap (k7 + 1)) p4
else
bif (decide (k7 ≥ n5)) then
bif (decide (r_4.1 < 0)) then
kret false
else
rec l0 i3 n5 (IntKind.i64.wrap (k7 + 1)) p4
else
rec l0 i3 n5 (IntKind.i64.wrap (k7 + 1)) p4
else
kexit2 l0 i3 p4
noncomputable def cadastrelaw7_KeysFinds_l10 {ρ : Type} (k : Nat) (kret : Bool → Option ρ) (kexit2 : List S25 → Int → S25 → Option ρ) : Nat → (List S25) → Int → Int → Int → S25 → Option ρ
  | 0, _, _, _, _, _ => none
  | n + 1, l0, i3, n5, k7, p4 => cadastrelaw7_KeysFinds_l10_b k kret kexit2 (cadastrelaw7_KeysFinds_l10 k kret kexit2 n) l0 i3 n5 k7 p4

noncomputable def cadastrelaw7_KeysFinds_j4 {ρ : Type} (k : Nat) (kret : Bool → Option ρ) (knxt : List S25 → Int → Option ρ) (l0 : List S25) (i3 : Int) : Option ρ :=
chk (0 ≤ i3 ∧ i3 < (l0.length : Int)) <|
(cadastrelaw7_heavy k (l0.getD i3.toNat default)).bind fun r_1 =>
bif r_1 then
kret true
else
(keys_Find k (l0.getD i3.toNat default).f2 (l0.getD i3.toNat default).f0).bind fun r_2 =>
(cadastrelaw7_num k r_2.2).bind fun r_3 =>
bif (r_3 != 0) then
knxt l0 (IntKind.i64.wrap (i3 + 1))
else
cadastrelaw7_KeysFinds_l10 k kret (fun l0_9 i3_10 p4_11 =>
(keys_Find k [] p4_11.f0).bind fun r_12 =>
(cadastrelaw7_num k r_12.2).bind fun r_13 =>
bif (r_13 != 0) then
kret false
else
bif (r_12.1 != 0) then
kret false
else
knxt l0_9 (IntKind.i64.wrap (i3_10 + 1))) k l0 i3 r_2.1 0 (l0.getD i3.toNat default)

noncomputable def cadastrelaw7_KeysFinds_l2_b {ρ : Type} (k : Nat) (kret : Bool → Option ρ) (kexit0 : Option ρ) (rec : (List S25) → Int → Option ρ) (l0 : List S25) (i3 : Int) : Option ρ :=
bif (decide (i3 < (l0.length : Int))) then
bif (decide (i3 < 12)) then
cadastrelaw7_KeysFinds_j4 k kret rec l0 i3
else
kexit0
else
kexit0
noncomputable def cadastrelaw7_KeysFinds_l2 {ρ : Type} (k : Nat) (kret : Bool → Option ρ) (kexit0 : Option ρ) : Nat → (List S25) → Int → Option ρ
  | 0, _, _ => none
  | n + 1, l0, i3 => cadastrelaw7_KeysFinds_l2_b k kret kexit0 (cadastrelaw7_KeysFinds_l2 k kret kexit0 n) l0 i3

/-- cadastre/cadastrelaw7.KeysFinds -/
noncomputable def cadastrelaw7_KeysFinds (k : Nat) (l0 : List S25) : Option Bool :=
cadastrelaw7_KeysFinds_l2 k (fun t2_17 =>
some t2_17) ((cadastrelaw7_wakes k).bind fun r_18 =>
some r_18) k l0 0
end Go.Proofs.Ytcongmnnacmbmaa.K
