/-
  The program's functions as plain functions over plain data, as a program has printed them.
-/
import Derived.Test.YtekjibpkkgldgaaAxDef
namespace Go.Proofs.Ytekjibpkkgldgaa.R
open Go Go.AX
/-- cadastre/api.Value -/
structure S44 where
  f0 : Int
  f1 : Int
  f2 : ByteArray
instance : Inhabited S44 := ⟨⟨0, 0, ByteArray.empty⟩⟩
/-- cadastre/cadastrelaw6.Ask -/
structure S34 where
  f0 : List S44
  f1 : List Int
instance : Inhabited S34 := ⟨⟨[], []⟩⟩
noncomputable def cadastrelaw0_Light_l5_b {ρ : Type} (k : Nat) (kexit0 : Int → Int → Option ρ) (rec : (List S44) → Int → Int → Int → Option ρ) (l0 : List S44) (most1 : Int) (n5 : Int) (i6 : Int) : Option ρ :=
bif (decide (i6 < (l0.length : Int))) then
chk (0 ≤ i6 ∧ i6 < (l0.length : Int)) <|
rec l0 most1 (IntKind.i64.wrap (n5 + ((l0.getD i6.toNat default).f2.size : Int))) (IntKind.i64.wrap (i6 + 1))
else
kexit0 most1 n5
noncomputable def cadastrelaw0_Light_l5 {ρ : Type} (k : Nat) (kexit0 : Int → Int → Option ρ) : Nat → (List S44) → Int → Int → Int → Option ρ
  | 0, _, _, _, _ => none
  | n + 1, l0, most1, n5, i6 => cadastrelaw0_Light_l5_b k kexit0 (cadastrelaw0_Light_l5 k kexit0 n) l0 most1 n5 i6

/-- cadastre/cadastrelaw0.Light -/
noncomputable def cadastrelaw0_Light (k : Nat) (l0 : List S44) (most1 : Int) : Option Bool :=
bif (decide ((l0.length : Int) > 200)) then
some false
else
cadastrelaw0_Light_l5 k (fun most1_1 n5_2 =>
some (decide (n5_2 ≤ most1_1))) k l0 most1 0 0

/-- cadastre/cadastrelaw6.heavy -/
noncomputable def cadastrelaw6_heavy (k : Nat) (p0 : S34) : Option Bool :=
(cadastrelaw0_Light k p0.f0 20000).bind fun r_1 =>
bif (!r_1) then
some true
else
some (big (decide ((p0.f1.length : Int) > 3000)))

noncomputable def cadastreref2_May_j8 {ρ : Type} (k : Nat) (kret : Bool → Option ρ) (v1 : S44) : Option ρ :=
bif (v1.f1 == 0) then
kret (big (decide ((v1.f2.size : Int) ≤ 4096)))
else
kret false

/-- cadastre/cadastreref2.May -/
noncomputable def cadastreref2_May (k : Nat) (v0 : S44) : Option Bool :=
bif (v0.f0 == 0) then
some ((v0.f0 == 0) && ((v0.f1 == 0) && (v0.f2 == ByteArray.empty)))
else
bif (v0.f0 == 1) then
some (v0.f2.toList == ByteArray.empty.toList)
else
bif (v0.f0 == 2) then
cadastreref2_May_j8 k (fun t2_1 =>
some t2_1) v0
else
bif (v0.f0 == 3) then
cadastreref2_May_j8 k (fun t2_2 =>
some t2_2) v0
else
some false

noncomputable def cadastreref2_All_l2_b {ρ : Type} (k : Nat) (kret : Bool → Option ρ) (kexit0 : Option ρ) (rec : (List S44) → Int → Option ρ) (l0 : List S44) (i3 : Int) : Option ρ :=
bif (decide (i3 < (l0.length : Int))) then
chk (0 ≤ i3 ∧ i3 < (l0.length : Int)) <|
(cadastreref2_May k (l0.getD i3.toNat default)).bind fun r_1 =>
bif (!r_1) then
kret false
else
rec l0 (IntKind.i64.wrap (i3 + 1))
else
kexit0
noncomputable def cadastreref2_All_l2 {ρ : Type} (k : Nat) (kret : Bool → Option ρ) (kexit0 : Option ρ) : Nat → (List S44) → Int → Option ρ
  | 0, _, _ => none
  | n + 1, l0, i3 => cadastreref2_All_l2_b k kret kexit0 (cadastreref2_All_l2 k kret kexit0 n) l0 i3

/-- cadastre/cadastreref2.All -/
noncomputable def cadastreref2_All (k : Nat) (l0 : List S44) : Option Bool :=
cadastreref2_All_l2 k (fun t2_2 =>
some t2_2) (some true) k l0 0

noncomputable def cadastreref1_Put_l5_b {ρ : Type} (k : Nat) (kexit0 : List Int → Option ρ) (rec : Int → (List Int) → Int → Option ρ) (n0 : Int) (b3 : List Int) (i4 : Int) : Option ρ :=
bif (decide (i4 < 8)) then
let v_1 : Int := (IntKind.u8.wrap (BitVec.ofInt (IntKind.u8).bits (IntKind.u8.wrap (Int.tmod n0 128)) ||| BitVec.ofInt (IntKind.u8).bits 128).toNat)
chk (([v_1].length + b3.length) * 1 ≤ 140737488355328) <|
rec (IntKind.u64.wrap (Int.tdiv n0 128)) ([v_1] ++ b3) (IntKind.i64.wrap (i4 + 1))
else
kexit0 b3
noncomputable def cadastreref1_Put_l5 {ρ : Type} (k : Nat) (kexit0 : List Int → Option ρ) : Nat → Int → (List Int) → Int → Option ρ
  | 0, _, _, _ => none
  | n + 1, n0, b3, i4 => cadastreref1_Put_l5_b k kexit0 (cadastreref1_Put_l5 k kexit0 n) n0 b3 i4

noncomputable def cadastreref1_Put_l12_b {ρ : Type} (k : Nat) (kexit2 : List Int → Option ρ) (rec : Int → (List Int) → Option ρ) (n0 : Int) (b5 : List Int) : Option ρ :=
bif (decide (n0 > 0)) then
let v_3 : Int := (IntKind.u8.wrap (BitVec.ofInt (IntKind.u8).bits (IntKind.u8.wrap (Int.tmod n0 128)) ||| BitVec.ofInt (IntKind.u8).bits 128).toNat)
chk (([v_3].length + b5.length) * 1 ≤ 140737488355328) <|
rec (IntKind.u64.wrap (Int.tdiv n0 128)) ([v_3] ++ b5)
else
kexit2 b5
noncomputable def cadastreref1_Put_l12 {ρ : Type} (k : Nat) (kexit2 : List Int → Option ρ) : Nat → Int → (List Int) → Option ρ
  | 0, _, _ => none
  | n + 1, n0, b5 => cadastreref1_Put_l12_b k kexit2 (cadastreref1_Put_l12 k kexit2 n) n0 b5

/-- cadastre/cadastreref1.Put -/
noncomputable def cadastreref1_Put (k : Nat) (n0 : Int) : Option (List Int) :=
bif (big (decide (n0 ≥ 72057594037927936))) then
cadastreref1_Put_l5 k (fun b3_2 =>
some b3_2) k (Int.fdiv n0 (2 ^ (min (8 : Int).toNat (IntKind.u64).bits))) [(IntKind.u8.wrap n0)] 0
else
cadastreref1_Put_l12 k (fun b5_4 =>
some b5_4) k (IntKind.u64.wrap (Int.tdiv n0 128)) [(IntKind.u8.wrap (Int.tmod n0 128))]

/-- cadastre/cadastreref6.size -/
noncomputable def cadastreref6_size (k : Nat) (t0 : Int) : Option Int :=
bif (t0 == 1) then
some 1
else
bif (t0 == 2) then
some 2
else
bif (t0 == 3) then
some 4
else
bif (t0 == 4) then
some 8
else
some 0

/-- cadastre/cadastreref6.holds -/
noncomputable def cadastreref6_holds (k : Nat) (n0 : Int) (bytes1 : Int) : Option Bool :=
bif (bytes1 == 8) then
some true
else
if (IntKind.i64.wrap ((IntKind.i64.wrap (8 * bytes1)) - 1)) < 0 then none else
let v_1 : Int := (IntKind.i64.wrap ((-1) * 2 ^ (min (IntKind.i64.wrap ((IntKind.i64.wrap (8 * bytes1)) - 1)).toNat (IntKind.i64).bits)))
bif (decide (n0 ≥ v_1)) then
if (IntKind.i64.wrap ((IntKind.i64.wrap (8 * bytes1)) - 1)) < 0 then none else
let v_2 : Int := (IntKind.i64.wrap ((1 : Int) * 2 ^ (min (IntKind.i64.wrap ((IntKind.i64.wrap (8 * bytes1)) - 1)).toNat (IntKind.i64).bits)))
some (decide (n0 < v_2))
else
some false

noncomputable def cadastreref6_kind_l13_b {ρ : Type} (k : Nat) (kret : Int → Option ρ) (kexit1 : Option ρ) (rec : Int → S44 → Option ρ) (t3 : Int) (v1 : S44) : Option ρ :=
bif (decide (t3 < 4)) then
(cadastreref6_size k t3).bind fun r_3 =>
(cadastreref6_holds k v1.f1 r_3).bind fun r_4 =>
bif r_4 then
kret t3
else
rec (IntKind.u64.wrap (t3 + 1)) v1
else
kexit1
noncomputable def cadastreref6_kind_l13 {ρ : Type} (k : Nat) (kret : Int → Option ρ) (kexit1 : Option ρ) : Nat → Int → S44 → Option ρ
  | 0, _, _ => none
  | n + 1, t3, v1 => cadastreref6_kind_l13_b k kret kexit1 (cadastreref6_kind_l13 k kret kexit1 n) t3 v1

/-- cadastre/cadastreref6.kind -/
noncomputable def cadastreref6_kind (k : Nat) (v0 : S44) : Option Int :=
bif (v0.f0 == 0) then
some 0
else
bif (v0.f0 == 2) then
let v_1 : Int := (IntKind.u64.wrap (IntKind.i64.wrap (13 + (IntKind.i64.wrap (2 * (v0.f2.size : Int))))))
some v_1
else
bif (v0.f0 == 3) then
let v_2 : Int := (IntKind.u64.wrap (IntKind.i64.wrap (12 + (IntKind.i64.wrap (2 * (v0.f2.size : Int))))))
some v_2
else
bif (v0.f1 == 0) then
some 5
else
bif (v0.f1 == 1) then
some 6
else
cadastreref6_kind_l13 k (fun t2_5 =>
some t2_5) (some 4) k 1 v0

noncomputable def cadastreref6_body_l5_b {ρ : Type} (k : Nat) (kexit0 : List Int → Option ρ) (rec : (List Int) → Int → S44 → Option ρ) (b3 : List Int) (i4 : Int) (v1 : S44) : Option ρ :=
bif (decide (i4 ≥ 0)) then
if (IntKind.i64.wrap (8 * i4)) < 0 then none else
let v_3 : Int := (Int.fdiv v1.f1 (2 ^ (min (IntKind.i64.wrap (8 * i4)).toNat (IntKind.i64).bits)))
chk ((b3.length + [(IntKind.u8.wrap v_3)].length) * 1 ≤ 140737488355328) <|
rec (b3 ++ [(IntKind.u8.wrap v_3)]) (IntKind.i64.wrap (i4 - 1)) v1
else
kexit0 b3
noncomputable def cadastreref6_body_l5 {ρ : Type} (k : Nat) (kexit0 : List Int → Option ρ) : Nat → (List Int) → Int → S44 → Option ρ
  | 0, _, _, _ => none
  | n + 1, b3, i4, v1 => cadastreref6_body_l5_b k kexit0 (cadastreref6_body_l5 k kexit0 n) b3 i4 v1

/-- cadastre/cadastreref6.body -/
noncomputable def cadastreref6_body (k : Nat) (v0 : S44) : Option (List Int) :=
bif (v0.f0 != 1) then
some (bytesOf v0.f2)
else
(cadastreref6_kind k v0).bind fun r_1 =>
(cadastreref6_size k r_1).bind fun r_2 =>
cadastreref6_body_l5 k (fun b3_4 =>
some b3_4) k [] (IntKind.i64.wrap (r_2 - 1)) v0

noncomputable def cadastreref6_Record_l3_b {ρ : Type} (k : Nat) (kexit0 : List S44 → List Int → Option ρ) (rec : (List S44) → (List Int) → Int → Option ρ) (l0 : List S44) (b3 : List Int) (i4 : Int) : Option ρ :=
bif (decide (i4 < (l0.length : Int))) then
chk (0 ≤ i4 ∧ i4 < (l0.length : Int)) <|
(cadastreref6_kind k (l0.getD i4.toNat default)).bind fun r_2 =>
(cadastreref1_Put k r_2).bind fun r_3 =>
chk ((b3.length + r_3.length) * 1 ≤ 140737488355328) <|
rec l0 (b3 ++ r_3) (IntKind.i64.wrap (i4 + 1))
else
kexit0 l0 b3
noncomputable def cadastreref6_Record_l3 {ρ : Type} (k : Nat) (kexit0 : List S44 → List Int → Option ρ) : Nat → (List S44) → (List Int) → Int → Option ρ
  | 0, _, _, _ => none
  | n + 1, l0, b3, i4 => cadastreref6_Record_l3_b k kexit0 (cadastreref6_Record_l3 k kexit0 n) l0 b3 i4

noncomputable def cadastreref6_Record_l7_b {ρ : Type} (k : Nat) (kexit2 : List Int → Option ρ) (rec : (List S44) → (List Int) → Int → Option ρ) (l0 : List S44) (b3 : List Int) (i5 : Int) : Option ρ :=
bif (decide (i5 < (l0.length : Int))) then
chk (0 ≤ i5 ∧ i5 < (l0.length : Int)) <|
(cadastreref6_body k (l0.getD i5.toNat default)).bind fun r_6 =>
chk ((b3.length + r_6.length) * 1 ≤ 140737488355328) <|
rec l0 (b3 ++ r_6) (IntKind.i64.wrap (i5 + 1))
else
kexit2 b3
noncomputable def cadastreref6_Record_l7 {ρ : Type} (k : Nat) (kexit2 : List Int → Option ρ) : Nat → (List S44) → (List Int) → Int → Option ρ
  | 0, _, _, _ => none
  | n + 1, l0, b3, i5 => cadastreref6_Record_l7_b k kexit2 (cadastreref6_Record_l7 k kexit2 n) l0 b3 i5

/-- cadastre/cadastreref6.Record -/
noncomputable def cadastreref6_Record (k : Nat) (l0 : List S44) : Option (List Int) :=
(cadastreref1_Put k (IntKind.u64.wrap (l0.length : Int))).bind fun r_1 =>
cadastreref6_Record_l3 k (fun l0_4 b3_5 =>
cadastreref6_Record_l7 k (fun b3_7 =>
some b3_7) k l0_4 b3_5 0) k l0 r_1 0

/-- cadastre/cadastreref6.Encode -/
noncomputable def cadastreref6_Encode (k : Nat) (l0 : List S44) : Option ((List Int) × Int) :=
(cadastreref2_All k l0).bind fun r_1 =>
bif (!r_1) then
some ([], 1)
else
bif (decide ((l0.length : Int) > 17)) then
some ([], 7)
else
(cadastreref6_Record k l0).bind fun r_2 =>
bif (big (decide ((r_2.length : Int) > 16384))) then
some ([], 7)
else
some (r_2, 0)

noncomputable def cadastreref0_CopyValues_l3_b {ρ : Type} (k : Nat) (kexit0 : List S44 → Option ρ) (rec : (List S44) → (List S44) → Int → Option ρ) (l0 : List S44) (m3 : List S44) (i4 : Int) : Option ρ :=
bif (decide (i4 < (l0.length : Int))) then
chk (0 ≤ i4 ∧ i4 < (l0.length : Int)) <|
chk ((m3.length + [(l0.getD i4.toNat default)].length) * 32 ≤ 140737488355328) <|
rec l0 (m3 ++ [(l0.getD i4.toNat default)]) (IntKind.i64.wrap (i4 + 1))
else
kexit0 m3
noncomputable def cadastreref0_CopyValues_l3 {ρ : Type} (k : Nat) (kexit0 : List S44 → Option ρ) : Nat → (List S44) → (List S44) → Int → Option ρ
  | 0, _, _, _ => none
  | n + 1, l0, m3, i4 => cadastreref0_CopyValues_l3_b k kexit0 (cadastreref0_CopyValues_l3 k kexit0 n) l0 m3 i4

/-- cadastre/cadastreref0.CopyValues -/
noncomputable def cadastreref0_CopyValues (k : Nat) (l0 : List S44) : Option (List S44) :=
cadastreref0_CopyValues_l3 k (fun m3_1 =>
some m3_1) k l0 [] 0

noncomputable def value_Good_j8 {ρ : Type} (k : Nat) (kret : Bool → Option ρ) (v1 : S44) : Option ρ :=
bif (v1.f1 == 0) then
kret (big (decide ((v1.f2.size : Int) ≤ 4096)))
else
kret false

/-- cadastre/value.Good -/
noncomputable def value_Good (k : Nat) (v0 : S44) : Option Bool :=
bif (v0.f0 == 0) then
some ((v0.f0 == 0) && ((v0.f1 == 0) && (v0.f2 == ByteArray.empty)))
else
bif (v0.f0 == 1) then
some (v0.f2.toList == ByteArray.empty.toList)
else
bif (v0.f0 == 2) then
value_Good_j8 k (fun t2_1 =>
some t2_1) v0
else
bif (v0.f0 == 3) then
value_Good_j8 k (fun t2_2 =>
some t2_2) v0
else
some false

noncomputable def value_All_j2 {ρ : Type} (k : Nat) (kret : Bool → Option ρ) (kgoto0 : List S44 → Int → Option ρ) (l0 : List S44) (i3 : Int) : Option ρ :=
bif (i3 == (l0.length : Int)) then
kret true
else
chk (0 ≤ i3 ∧ i3 < (l0.length : Int)) <|
(value_Good k (l0.getD i3.toNat default)).bind fun r_1 =>
bif r_1 then
kgoto0 l0 (IntKind.i64.wrap (i3 + 1))
else
kret false

noncomputable def value_All_g0_b {ρ : Type} (k : Nat) (kret : Bool → Option ρ) (rec : (List S44) → Int → Option ρ) (l0 : List S44) (i3 : Int) : Option ρ :=
value_All_j2 k kret rec l0 i3
noncomputable def value_All_g0 {ρ : Type} (k : Nat) (kret : Bool → Option ρ) : Nat → (List S44) → Int → Option ρ
  | 0, _, _ => none
  | n + 1, l0, i3 => value_All_g0_b k kret (value_All_g0 k kret n) l0 i3

/-- cadastre/value.All -/
noncomputable def value_All (k : Nat) (l0 : List S44) : Option Bool :=
value_All_j2 k (fun t2_2 =>
some t2_2) (fun l0_3 i3_4 =>
value_All_g0 k (fun t2_8 =>
some t2_8) k l0_3 i3_4) l0 0

noncomputable def varint_turned_o0_j2 {ρ : Type} (k : Nat) (kgoto0 : List Int → Int → Int → Option ρ) (kret : List Int → Option ρ) (b0 : List Int) (i3 : Int) (k4 : Int) : Option ρ :=
bif (decide (i3 < k4)) then
chk (0 ≤ k4 ∧ k4 < (b0.length : Int)) <|
chk (0 ≤ i3 ∧ i3 < (b0.length : Int)) <|
chk (0 ≤ i3 ∧ i3 < (b0.length : Int)) <|
chk (i3.toNat < b0.length) <|
chk (0 ≤ k4 ∧ k4 < ((b0.set i3.toNat (b0.getD k4.toNat 0)).length : Int)) <|
chk (k4.toNat < (b0.set i3.toNat (b0.getD k4.toNat 0)).length) <|
kgoto0 ((b0.set i3.toNat (b0.getD k4.toNat 0)).set k4.toNat (b0.getD i3.toNat 0)) (IntKind.i64.wrap (i3 + 1)) (IntKind.i64.wrap (k4 - 1))
else
kret b0

noncomputable def varint_turned_o0_g0_b {ρ : Type} (k : Nat) (kret : List Int → Option ρ) (rec : (List Int) → Int → Int → Option ρ) (b0 : List Int) (i3 : Int) (k4 : Int) : Option ρ :=
varint_turned_o0_j2 k rec kret b0 i3 k4
noncomputable def varint_turned_o0_g0 {ρ : Type} (k : Nat) (kret : List Int → Option ρ) : Nat → (List Int) → Int → Int → Option ρ
  | 0, _, _, _ => none
  | n + 1, b0, i3, k4 => varint_turned_o0_g0_b k kret (varint_turned_o0_g0 k kret n) b0 i3 k4

/-- cadastre/varint.turned -/
noncomputable def varint_turned_o0 (k : Nat) (b0 : List Int) : Option (List Int) :=
varint_turned_o0_j2 k (fun b0_1 i3_2 k4_3 =>
varint_turned_o0_g0 k (fun t2_8 =>
some t2_8) k b0_1 i3_2 k4_3) (fun t2_9 =>
some t2_9) b0 0 (IntKind.i64.wrap ((b0.length : Int) - 1))

noncomputable def varint_Put_l6_b {ρ : Type} (k : Nat) (kexit0 : List Int → Option ρ) (rec : Int → (List Int) → Int → Option ρ) (n0 : Int) (b2 : List Int) (t13 : Int) : Option ρ :=
bif (decide (t13 < 8)) then
let v_1 : Int := (IntKind.u8.wrap (BitVec.ofInt (IntKind.u8).bits (IntKind.u8.wrap n0) ||| BitVec.ofInt (IntKind.u8).bits 128).toNat)
chk ((b2.length + [v_1].length) * 1 ≤ 140737488355328) <|
rec (Int.fdiv n0 (2 ^ (min (7 : Int).toNat (IntKind.u64).bits))) (b2 ++ [v_1]) (IntKind.i64.wrap (t13 + 1))
else
kexit0 b2
noncomputable def varint_Put_l6 {ρ : Type} (k : Nat) (kexit0 : List Int → Option ρ) : Nat → Int → (List Int) → Int → Option ρ
  | 0, _, _, _ => none
  | n + 1, n0, b2, t13 => varint_Put_l6_b k kexit0 (varint_Put_l6 k kexit0 n) n0 b2 t13

noncomputable def varint_Put_j11 {ρ : Type} (k : Nat) (kgoto0 : Int → List Int → Int → Option ρ) (kret : List Int → Option ρ) (n0 : Int) (b2 : List Int) (low3 : Int) : Option ρ :=
let v_4 : Int := (IntKind.u8.wrap (BitVec.ofInt (IntKind.u8).bits (IntKind.u8.wrap n0) &&& BitVec.ofInt (IntKind.u8).bits 127).toNat)
let v_5 : Int := (IntKind.u8.wrap (BitVec.ofInt (IntKind.u8).bits v_4 ||| BitVec.ofInt (IntKind.u8).bits low3).toNat)
chk ((b2.length + [v_5].length) * 1 ≤ 140737488355328) <|
let v_6 : Bool := (decide ((Int.fdiv n0 (2 ^ (min (7 : Int).toNat (IntKind.u64).bits))) > 0))
bif v_6 then
kgoto0 (Int.fdiv n0 (2 ^ (min (7 : Int).toNat (IntKind.u64).bits))) (b2 ++ [v_5]) 128
else
(varint_turned_o0 k (b2 ++ [v_5])).bind fun r_7 =>
kret r_7

noncomputable def varint_Put_g0_b {ρ : Type} (k : Nat) (kret : List Int → Option ρ) (rec : Int → (List Int) → Int → Option ρ) (n0 : Int) (b2 : List Int) (low3 : Int) : Option ρ :=
varint_Put_j11 k rec kret n0 b2 low3
noncomputable def varint_Put_g0 {ρ : Type} (k : Nat) (kret : List Int → Option ρ) : Nat → Int → (List Int) → Int → Option ρ
  | 0, _, _, _ => none
  | n + 1, n0, b2, low3 => varint_Put_g0_b k kret (varint_Put_g0 k kret n) n0 b2 low3

/-- cadastre/varint.Put -/
noncomputable def varint_Put (k : Nat) (n0 : Int) : Option (List Int) :=
bif (big (decide (n0 ≥ 72057594037927936))) then
chk ((0 + [(IntKind.u8.wrap n0)].length) * 1 ≤ 140737488355328) <|
varint_Put_l6 k (fun b2_2 =>
(varint_turned_o0 k b2_2).bind fun r_3 =>
some r_3) k (Int.fdiv n0 (2 ^ (min (8 : Int).toNat (IntKind.u64).bits))) (([] : List Int) ++ [(IntKind.u8.wrap n0)]) 0
else
varint_Put_j11 k (fun n0_8 b2_9 low3_10 =>
varint_Put_g0 k (fun b2_15 =>
some b2_15) k n0_8 b2_9 low3_10) (fun b2_16 =>
some b2_16) n0 [] 0

/-- cadastre/record.kind -/
noncomputable def record_kind (k : Nat) (v0 : S44) : Option Int :=
bif (v0.f0 == 0) then
some 0
else
bif (v0.f0 == 3) then
let v_1 : Int := (IntKind.u64.wrap (12 + (IntKind.u64.wrap (2 * (IntKind.u64.wrap (v0.f2.size : Int))))))
some v_1
else
bif (v0.f0 == 2) then
let v_2 : Int := (IntKind.u64.wrap (13 + (IntKind.u64.wrap (2 * (IntKind.u64.wrap (v0.f2.size : Int))))))
some v_2
else
bif (v0.f1 == 0) then
some 5
else
bif (v0.f1 == 1) then
some 6
else
bif (v0.f1 == (IntKind.i64.wrap (IntKind.i8.wrap v0.f1))) then
some 1
else
bif (v0.f1 == (IntKind.i64.wrap (IntKind.i16.wrap v0.f1))) then
some 2
else
bif (v0.f1 == (IntKind.i64.wrap (IntKind.i32.wrap v0.f1))) then
some 3
else
some 4

/-- cadastre/record.widths -/
noncomputable def record_widths (k : Nat) : Option (List Int) :=
some [0, 1, 2, 4, 8]

noncomputable def record_put_o0_l7_b {ρ : Type} (k : Nat) (kexit0 : List Int → Option ρ) (rec : (List Int) → Int → S44 → Option ρ) (b0 : List Int) (k6 : Int) (v3 : S44) : Option ρ :=
bif (decide (k6 ≥ 0)) then
if (IntKind.i64.wrap (8 * k6)) < 0 then none else
let v_3 : Int := (Int.fdiv v3.f1 (2 ^ (min (IntKind.i64.wrap (8 * k6)).toNat (IntKind.i64).bits)))
chk ((b0.length + [(IntKind.u8.wrap v_3)].length) * 1 ≤ 140737488355328) <|
rec (b0 ++ [(IntKind.u8.wrap v_3)]) (IntKind.i64.wrap (k6 - 1)) v3
else
kexit0 b0
noncomputable def record_put_o0_l7 {ρ : Type} (k : Nat) (kexit0 : List Int → Option ρ) : Nat → (List Int) → Int → S44 → Option ρ
  | 0, _, _, _ => none
  | n + 1, b0, k6, v3 => record_put_o0_l7_b k kexit0 (record_put_o0_l7 k kexit0 n) b0 k6 v3

noncomputable def record_put_o0_j6 {ρ : Type} (k : Nat) (kret : List Int → Option ρ) (b0 : List Int) (t5 : Int) (v3 : S44) : Option ρ :=
(record_widths k).bind fun r_2 =>
chk (0 ≤ t5 ∧ t5 < (5 : Int)) <|
record_put_o0_l7 k kret k b0 (IntKind.i64.wrap ((r_2.getD t5.toNat 0) - 1)) v3

/-- cadastre/record.put -/
noncomputable def record_put_o0 (k : Nat) (b0 : List Int) (v1 : S44) : Option (List Int) :=
(record_kind k v1).bind fun r_1 =>
bif (decide (r_1 ≥ 12)) then
chk ((b0.length + (bytesOf v1.f2).length) * 1 ≤ 140737488355328) <|
some (b0 ++ (bytesOf v1.f2))
else
bif (decide (r_1 < 1)) then
some b0
else
bif (decide (r_1 > 4)) then
some b0
else
record_put_o0_j6 k (fun t4_5 =>
some t4_5) b0 r_1 v1

noncomputable def record_Encode_l7_b {ρ : Type} (k : Nat) (kexit0 : List S44 → List Int → Option ρ) (rec : (List S44) → (List Int) → (List S44) → Int → Int → Option ρ) (l0 : List S44) (b4 : List Int) (t19 : List S44) (t20 : Int) (t21 : Int) : Option ρ :=
bif (decide (t21 < t20)) then
chk (0 ≤ t21 ∧ t21 < (t19.length : Int)) <|
(record_kind k (t19.getD t21.toNat default)).bind fun r_3 =>
(varint_Put k r_3).bind fun r_4 =>
chk ((b4.length + r_4.length) * 1 ≤ 140737488355328) <|
rec l0 (b4 ++ r_4) t19 t20 (IntKind.i64.wrap (t21 + 1))
else
kexit0 l0 b4
noncomputable def record_Encode_l7 {ρ : Type} (k : Nat) (kexit0 : List S44 → List Int → Option ρ) : Nat → (List S44) → (List Int) → (List S44) → Int → Int → Option ρ
  | 0, _, _, _, _, _ => none
  | n + 1, l0, b4, t19, t20, t21 => record_Encode_l7_b k kexit0 (record_Encode_l7 k kexit0 n) l0 b4 t19 t20 t21

noncomputable def record_Encode_l12_b {ρ : Type} (k : Nat) (kexit2 : List Int → Option ρ) (rec : (List Int) → (List S44) → Int → Int → Option ρ) (b4 : List Int) (t31 : List S44) (t32 : Int) (t33 : Int) : Option ρ :=
bif (decide (t33 < t32)) then
chk (0 ≤ t33 ∧ t33 < (t31.length : Int)) <|
(record_put_o0 k b4 (t31.getD t33.toNat default)).bind fun r_7 =>
rec r_7 t31 t32 (IntKind.i64.wrap (t33 + 1))
else
kexit2 b4
noncomputable def record_Encode_l12 {ρ : Type} (k : Nat) (kexit2 : List Int → Option ρ) : Nat → (List Int) → (List S44) → Int → Int → Option ρ
  | 0, _, _, _, _ => none
  | n + 1, b4, t31, t32, t33 => record_Encode_l12_b k kexit2 (record_Encode_l12 k kexit2 n) b4 t31 t32 t33

/-- cadastre/record.Encode -/
noncomputable def record_Encode (k : Nat) (l0 : List S44) : Option ((List Int) × Int) :=
(value_All k l0).bind fun r_1 =>
bif (!r_1) then
some ([], 1)
else
bif (decide ((l0.length : Int) > 17)) then
some ([], 7)
else
(varint_Put k (IntKind.u64.wrap (l0.length : Int))).bind fun r_2 =>
record_Encode_l7 k (fun l0_5 b4_6 =>
record_Encode_l12 k (fun b4_8 =>
bif (big (decide ((b4_8.length : Int) > 16384))) then
some ([], 7)
else
some (b4_8, 0)) k b4_6 l0_5 (l0_5.length : Int) 0) k l0 r_2 l0 (l0.length : Int) 0

/-- cadastre/cadastrelaw6.num -/
noncomputable def cadastrelaw6_num (k : Nat) (e0 : Int) : Option Int :=
some e0

noncomputable def cadastreref0_EqBytes_l4_b {ρ : Type} (k : Nat) (kret : Bool → Option ρ) (kexit0 : Option ρ) (rec : (List Int) → (List Int) → Int → Option ρ) (a0 : List Int) (b1 : List Int) (i5 : Int) : Option ρ :=
bif (decide (i5 < (a0.length : Int))) then
chk (0 ≤ i5 ∧ i5 < (a0.length : Int)) <|
chk (0 ≤ i5 ∧ i5 < (b1.length : Int)) <|
bif ((a0.getD i5.toNat 0) != (b1.getD i5.toNat 0)) then
kret false
else
rec a0 b1 (IntKind.i64.wrap (i5 + 1))
else
kexit0
noncomputable def cadastreref0_EqBytes_l4 {ρ : Type} (k : Nat) (kret : Bool → Option ρ) (kexit0 : Option ρ) : Nat → (List Int) → (List Int) → Int → Option ρ
  | 0, _, _, _ => none
  | n + 1, a0, b1, i5 => cadastreref0_EqBytes_l4_b k kret kexit0 (cadastreref0_EqBytes_l4 k kret kexit0 n) a0 b1 i5

/-- cadastre/cadastreref0.EqBytes -/
noncomputable def cadastreref0_EqBytes (k : Nat) (a0 : List Int) (b1 : List Int) : Option Bool :=
bif ((a0.length : Int) != (b1.length : Int)) then
some false
else
cadastreref0_EqBytes_l4 k (fun t4_1 =>
some t4_1) (some true) k a0 b1 0

noncomputable def cadastreref0_EqValues_l4_b {ρ : Type} (k : Nat) (kret : Bool → Option ρ) (kexit0 : Option ρ) (rec : (List S44) → (List S44) → Int → Option ρ) (a0 : List S44) (b1 : List S44) (i5 : Int) : Option ρ :=
bif (decide (i5 < (a0.length : Int))) then
chk (0 ≤ i5 ∧ i5 < (a0.length : Int)) <|
chk (0 ≤ i5 ∧ i5 < (b1.length : Int)) <|
let v_1 : Bool := (!(((a0.getD i5.toNat default).f0 == (b1.getD i5.toNat default).f0) && (((a0.getD i5.toNat default).f1 == (b1.getD i5.toNat default).f1) && ((a0.getD i5.toNat default).f2 == (b1.getD i5.toNat default).f2))))
bif v_1 then
kret false
else
rec a0 b1 (IntKind.i64.wrap (i5 + 1))
else
kexit0
noncomputable def cadastreref0_EqValues_l4 {ρ : Type} (k : Nat) (kret : Bool → Option ρ) (kexit0 : Option ρ) : Nat → (List S44) → (List S44) → Int → Option ρ
  | 0, _, _, _ => none
  | n + 1, a0, b1, i5 => cadastreref0_EqValues_l4_b k kret kexit0 (cadastreref0_EqValues_l4 k kret kexit0 n) a0 b1 i5

/-- cadastre/cadastreref0.EqValues -/
noncomputable def cadastreref0_EqValues (k : Nat) (a0 : List S44) (b1 : List S44) : Option Bool :=
bif ((a0.length : Int) != (b1.length : Int)) then
some false
else
cadastreref0_EqValues_l4 k (fun t4_2 =>
some t4_2) (some true) k a0 b1 0

noncomputable def cadastreref1_same_l4_b {ρ : Type} (k : Nat) (kret : Bool → Option ρ) (kexit0 : Option ρ) (rec : (List Int) → (List Int) → Int → Option ρ) (a0 : List Int) (b1 : List Int) (i5 : Int) : Option ρ :=
bif (decide (i5 < (a0.length : Int))) then
chk (0 ≤ i5 ∧ i5 < (a0.length : Int)) <|
chk (0 ≤ i5 ∧ i5 < (b1.length : Int)) <|
bif ((a0.getD i5.toNat 0) != (b1.getD i5.toNat 0)) then
kret false
else
rec a0 b1 (IntKind.i64.wrap (i5 + 1))
else
kexit0
noncomputable def cadastreref1_same_l4 {ρ : Type} (k : Nat) (kret : Bool → Option ρ) (kexit0 : Option ρ) : Nat → (List Int) → (List Int) → Int → Option ρ
  | 0, _, _, _ => none
  | n + 1, a0, b1, i5 => cadastreref1_same_l4_b k kret kexit0 (cadastreref1_same_l4 k kret kexit0 n) a0 b1 i5

/-- cadastre/cadastreref1.same -/
noncomputable def cadastreref1_same (k : Nat) (a0 : List Int) (b1 : List Int) : Option Bool :=
bif ((a0.length : Int) != (b1.length : Int)) then
some false
else
cadastreref1_same_l4 k (fun t4_1 =>
some t4_1) (some true) k a0 b1 0

noncomputable def cadastreref1_Get_j9 {ρ : Type} (k : Nat) (kret : Int → Int → Option ρ) (b0 : List Int) (n4 : Int) (i5 : Int) : Option ρ :=
(cadastreref1_Put k n4).bind fun r_2 =>
chk (0 ≤ (0 : Int) ∧ (0 : Int) ≤ (IntKind.i64.wrap (i5 + 1)) ∧ (IntKind.i64.wrap (i5 + 1)) ≤ (b0.length : Int)) <|
(cadastreref1_same k r_2 ((b0.drop (0 : Int).toNat).take ((IntKind.i64.wrap (i5 + 1)).toNat - (0 : Int).toNat))).bind fun r_3 =>
bif r_3 then
kret n4 (IntKind.i64.wrap (i5 + 1))
else
kret 0 0

noncomputable def cadastreref1_Get_j8 {ρ : Type} (k : Nat) (kret : Int → Int → Option ρ) (knxt : List Int → Int → Int → Option ρ) (b0 : List Int) (n4 : Int) (i5 : Int) : Option ρ :=
bif (i5 == 8) then
cadastreref1_Get_j9 k kret b0 n4 i5
else
chk (0 ≤ i5 ∧ i5 < (b0.length : Int)) <|
bif (decide ((b0.getD i5.toNat 0) < 128)) then
cadastreref1_Get_j9 k kret b0 n4 i5
else
knxt b0 n4 i5

noncomputable def cadastreref1_Get_j5 {ρ : Type} (k : Nat) (kret : Int → Int → Option ρ) (knxt : List Int → Int → Int → Option ρ) (b0 : List Int) (n4 : Int) (i5 : Int) : Option ρ :=
bif (i5 == 8) then
chk (0 ≤ i5 ∧ i5 < (b0.length : Int)) <|
let v_1 : Int := (IntKind.u64.wrap (BitVec.ofInt (IntKind.u64).bits (IntKind.u64.wrap (n4 * 2 ^ (min (8 : Int).toNat (IntKind.u64).bits))) ||| BitVec.ofInt (IntKind.u64).bits (IntKind.u64.wrap (b0.getD i5.toNat 0))).toNat)
cadastreref1_Get_j8 k kret (fun b0_10 n4_11 i5_12 =>
knxt b0_10 n4_11 (IntKind.i64.wrap (i5_12 + 1))) b0 v_1 i5
else
chk (0 ≤ i5 ∧ i5 < (b0.length : Int)) <|
let v_13 : Int := (IntKind.u64.wrap (BitVec.ofInt (IntKind.u64).bits (IntKind.u64.wrap (n4 * 2 ^ (min (7 : Int).toNat (IntKind.u64).bits))) ||| BitVec.ofInt (IntKind.u64).bits (IntKind.u64.wrap (Int.tmod (b0.getD i5.toNat 0) 128))).toNat)
cadastreref1_Get_j8 k kret (fun b0_16 n4_17 i5_18 =>
knxt b0_16 n4_17 (IntKind.i64.wrap (i5_18 + 1))) b0 v_13 i5

noncomputable def cadastreref1_Get_l3_b {ρ : Type} (k : Nat) (kret : Int → Int → Option ρ) (kexit0 : Option ρ) (rec : (List Int) → Int → Int → Option ρ) (b0 : List Int) (n4 : Int) (i5 : Int) : Option ρ :=
bif (decide (i5 < (b0.length : Int))) then
bif (decide (i5 < 9)) then
cadastreref1_Get_j5 k kret rec b0 n4 i5
else
kexit0
else
kexit0
noncomputable def cadastreref1_Get_l3 {ρ : Type} (k : Nat) (kret : Int → Int → Option ρ) (kexit0 : Option ρ) : Nat → (List Int) → Int → Int → Option ρ
  | 0, _, _, _ => none
  | n + 1, b0, n4, i5 => cadastreref1_Get_l3_b k kret kexit0 (cadastreref1_Get_l3 k kret kexit0 n) b0 n4 i5

/-- cadastre/cadastreref1.Get -/
noncomputable def cadastreref1_Get (k : Nat) (b0 : List Int) : Option (Int × Int) :=
cadastreref1_Get_l3 k (fun t2_24 t3_25 =>
some (t2_24, t3_25)) (some (0, 0)) k b0 0 0

/-- cadastre/cadastreref2.Int -/
noncomputable def cadastreref2_Int (k : Nat) (n0 : Int) : Option S44 :=
some (⟨1, n0, ByteArray.empty⟩ : S44)

noncomputable def cadastreref6_value_l16_b {ρ : Type} (k : Nat) (kexit1 : Int → Int → S44 → Option ρ) (rec : (List Int) → Int → Int → Int → S44 → Option ρ) (b1 : List Int) (n7 : Int) (x8 : Int) (i9 : Int) (t4 : S44) : Option ρ :=
bif (decide (i9 < n7)) then
chk (0 ≤ i9 ∧ i9 < (b1.length : Int)) <|
let v_4 : Int := (IntKind.i64.wrap (BitVec.ofInt (IntKind.i64).bits (IntKind.i64.wrap (x8 * 2 ^ (min (8 : Int).toNat (IntKind.i64).bits))) ||| BitVec.ofInt (IntKind.i64).bits (IntKind.i64.wrap (b1.getD i9.toNat 0))).toNat)
rec b1 n7 v_4 (IntKind.i64.wrap (i9 + 1)) t4
else
kexit1 n7 x8 t4
noncomputable def cadastreref6_value_l16 {ρ : Type} (k : Nat) (kexit1 : Int → Int → S44 → Option ρ) : Nat → (List Int) → Int → Int → Int → S44 → Option ρ
  | 0, _, _, _, _, _ => none
  | n + 1, b1, n7, x8, i9, t4 => cadastreref6_value_l16_b k kexit1 (cadastreref6_value_l16 k kexit1 n) b1 n7 x8 i9 t4

noncomputable def cadastreref6_value_j11 {ρ : Type} (k : Nat) (kret : Int → Bool → S44 → Option ρ) (t0 : Int) (b1 : List Int) (t4 : S44) : Option ρ :=
(cadastreref6_size k t0).bind fun r_3 =>
bif (decide ((b1.length : Int) < r_3)) then
kret 0 false (⟨0, 0, ByteArray.empty⟩ : S44)
else
chk (0 ≤ (0 : Int) ∧ (0 : Int) < (b1.length : Int)) <|
cadastreref6_value_l16 k (fun n7_5 x8_6 t4_7 =>
(cadastreref2_Int k x8_6).bind fun r_8 =>
kret n7_5 true r_8) k b1 r_3 (IntKind.i64.wrap (IntKind.i8.wrap (b1.getD 0 0))) 1 t4

noncomputable def cadastreref6_value_j7 {ρ : Type} (k : Nat) (kret : Int → Bool → S44 → Option ρ) (knxt : Int → List Int → S44 → Option ρ) (t0 : Int) (b1 : List Int) (t12 : Int) (t4 : S44) : Option ρ :=
bif (t12 == 1) then
cadastreref6_value_j11 k kret t0 b1 t4
else
bif (t12 == 2) then
cadastreref6_value_j11 k kret t0 b1 t4
else
bif (t12 == 3) then
cadastreref6_value_j11 k kret t0 b1 t4
else
bif (t12 == 4) then
cadastreref6_value_j11 k kret t0 b1 t4
else
knxt t0 b1 t4

noncomputable def cadastreref6_value_j28 {ρ : Type} (k : Nat) (kret : Int → Bool → S44 → Option ρ) (b1 : List Int) (n10 : Int) (k11 : Int) (t4 : S44) : Option ρ :=
chk (0 ≤ (0 : Int) ∧ (0 : Int) ≤ n10 ∧ n10 ≤ (b1.length : Int)) <|
let v_28 : ByteArray := (strOfNums ((b1.drop (0 : Int).toNat).take (n10.toNat - (0 : Int).toNat)))
kret n10 true (⟨k11, 0, v_28⟩ : S44)

noncomputable def cadastreref6_value_j22 {ρ : Type} (k : Nat) (kret : Int → Bool → S44 → Option ρ) (t0 : Int) (b1 : List Int) (t4 : S44) : Option ρ :=
let v_27 : Int := (IntKind.i64.wrap (Int.tdiv (IntKind.i64.wrap (IntKind.u64.wrap (t0 - 12))) 2))
bif (decide ((b1.length : Int) < v_27)) then
kret 0 false (⟨0, 0, ByteArray.empty⟩ : S44)
else
bif ((Int.tmod t0 2) == 1) then
cadastreref6_value_j28 k kret b1 v_27 2 t4
else
cadastreref6_value_j28 k kret b1 v_27 3 t4

noncomputable def cadastreref6_value_j20 {ρ : Type} (k : Nat) (kret : Int → Bool → S44 → Option ρ) (t0 : Int) (b1 : List Int) (t4 : S44) : Option ρ :=
bif (decide (t0 < 12)) then
kret 0 false (⟨0, 0, ByteArray.empty⟩ : S44)
else
bif (big (decide (t0 > 8205))) then
kret 0 false (⟨0, 0, ByteArray.empty⟩ : S44)
else
cadastreref6_value_j22 k kret t0 b1 t4

/-- cadastre/cadastreref6.value -/
noncomputable def cadastreref6_value (k : Nat) (t0 : Int) (b1 : List Int) : Option (S44 × Int × Bool) :=
bif (t0 == 0) then
some ((⟨0, 0, ByteArray.empty⟩ : S44), 0, true)
else
bif (t0 == 5) then
(cadastreref2_Int k (IntKind.i64.wrap (IntKind.u64.wrap (t0 - 5)))).bind fun r_1 =>
some (r_1, 0, true)
else
bif (t0 == 6) then
(cadastreref2_Int k (IntKind.i64.wrap (IntKind.u64.wrap (t0 - 5)))).bind fun r_2 =>
some (r_2, 0, true)
else
cadastreref6_value_j7 k (fun t5_21 t6_22 t4_23 =>
some (t4_23, t5_21, t6_22)) (fun t0_24 b1_25 t4_26 =>
cadastreref6_value_j20 k (fun t5_38 t6_39 t4_40 =>
some (t4_40, t5_38, t6_39)) t0_24 b1_25 t4_26) t0 b1 t0 (⟨0, 0, ByteArray.empty⟩ : S44)

noncomputable def cadastreref6_Decode_l6_b {ρ : Type} (k : Nat) (kret : List S44 → Bool → Option ρ) (kexit0 : List Int → Int → List Int → Option ρ) (rec : (List Int) → Int → Int → (List Int) → Int → Option ρ) (b0 : List Int) (n4 : Int) (at5 : Int) (types6 : List Int) (i7 : Int) : Option ρ :=
bif (decide (i7 < n4)) then
chk (0 ≤ at5 ∧ at5 ≤ (b0.length : Int) ∧ (b0.length : Int) ≤ (b0.length : Int)) <|
(cadastreref1_Get k ((b0.drop at5.toNat).take ((b0.length : Int).toNat - at5.toNat))).bind fun r_2 =>
bif (r_2.2 == 0) then
kret [] false
else
chk ((types6.length + [r_2.1].length) * 8 ≤ 140737488355328) <|
rec b0 n4 (IntKind.i64.wrap (at5 + r_2.2)) (types6 ++ [r_2.1]) (IntKind.u64.wrap (i7 + 1))
else
kexit0 b0 at5 types6
noncomputable def cadastreref6_Decode_l6 {ρ : Type} (k : Nat) (kret : List S44 → Bool → Option ρ) (kexit0 : List Int → Int → List Int → Option ρ) : Nat → (List Int) → Int → Int → (List Int) → Int → Option ρ
  | 0, _, _, _, _, _ => none
  | n + 1, b0, n4, at5, types6, i7 => cadastreref6_Decode_l6_b k kret kexit0 (cadastreref6_Decode_l6 k kret kexit0 n) b0 n4 at5 types6 i7

noncomputable def cadastreref6_Decode_l15_b {ρ : Type} (k : Nat) (kret : List S44 → Bool → Option ρ) (kexit2 : List Int → Int → List S44 → Option ρ) (rec : (List Int) → Int → (List Int) → (List S44) → Int → Option ρ) (b0 : List Int) (at5 : Int) (types6 : List Int) (l10 : List S44) (i11 : Int) : Option ρ :=
bif (decide (i11 < (types6.length : Int))) then
chk (0 ≤ i11 ∧ i11 < (types6.length : Int)) <|
chk (0 ≤ at5 ∧ at5 ≤ (b0.length : Int) ∧ (b0.length : Int) ≤ (b0.length : Int)) <|
(cadastreref6_value k (types6.getD i11.toNat 0) ((b0.drop at5.toNat).take ((b0.length : Int).toNat - at5.toNat))).bind fun r_8 =>
bif (!r_8.2.2) then
kret [] false
else
chk ((l10.length + [r_8.1].length) * 32 ≤ 140737488355328) <|
rec b0 (IntKind.i64.wrap (at5 + r_8.2.1)) types6 (l10 ++ [r_8.1]) (IntKind.i64.wrap (i11 + 1))
else
kexit2 b0 at5 l10
noncomputable def cadastreref6_Decode_l15 {ρ : Type} (k : Nat) (kret : List S44 → Bool → Option ρ) (kexit2 : List Int → Int → List S44 → Option ρ) : Nat → (List Int) → Int → (List Int) → (List S44) → Int → Option ρ
  | 0, _, _, _, _, _ => none
  | n + 1, b0, at5, types6, l10, i11 => cadastreref6_Decode_l15_b k kret kexit2 (cadastreref6_Decode_l15 k kret kexit2 n) b0 at5 types6 l10 i11

noncomputable def cadastreref6_Decode_j4 {ρ : Type} (k : Nat) (kret : List S44 → Bool → Option ρ) (kretv1 : List S44 → Bool → Option ρ) (b0 : List Int) (n4 : Int) (at5 : Int) : Option ρ :=
cadastreref6_Decode_l6 k kret (fun b0_5 at5_6 types6_7 =>
cadastreref6_Decode_l15 k kret (fun b0_11 at5_12 l10_13 =>
bif (at5_12 != (b0_11.length : Int)) then
kret [] false
else
(cadastreref6_Record k l10_13).bind fun r_14 =>
(cadastreref0_EqBytes k r_14 b0_11).bind fun r_15 =>
bif (!r_15) then
kret [] false
else
kretv1 l10_13 true) k b0_5 at5_6 types6_7 [] 0) k b0 n4 at5 [] 0

/-- cadastre/cadastreref6.Decode -/
noncomputable def cadastreref6_Decode (k : Nat) (b0 : List Int) : Option ((List S44) × Bool) :=
(cadastreref1_Get k b0).bind fun r_1 =>
bif (r_1.2 == 0) then
some ([], false)
else
bif (decide (r_1.1 > 17)) then
some ([], false)
else
bif (big (decide ((b0.length : Int) > 16384))) then
some ([], false)
else
cadastreref6_Decode_j4 k (fun t2_16 t3_17 =>
some (t2_16, t3_17)) (fun t2_18 t3_19 =>
some (t2_18, t3_19)) b0 r_1.1 r_1.2

noncomputable def cadastreref0_CopyBytes_l3_b {ρ : Type} (k : Nat) (kexit0 : List Int → Option ρ) (rec : (List Int) → (List Int) → Int → Option ρ) (l0 : List Int) (m3 : List Int) (i4 : Int) : Option ρ :=
bif (decide (i4 < (l0.length : Int))) then
chk (0 ≤ i4 ∧ i4 < (l0.length : Int)) <|
chk ((m3.length + [(l0.getD i4.toNat 0)].length) * 1 ≤ 140737488355328) <|
rec l0 (m3 ++ [(l0.getD i4.toNat 0)]) (IntKind.i64.wrap (i4 + 1))
else
kexit0 m3
noncomputable def cadastreref0_CopyBytes_l3 {ρ : Type} (k : Nat) (kexit0 : List Int → Option ρ) : Nat → (List Int) → (List Int) → Int → Option ρ
  | 0, _, _, _ => none
  | n + 1, l0, m3, i4 => cadastreref0_CopyBytes_l3_b k kexit0 (cadastreref0_CopyBytes_l3 k kexit0 n) l0 m3 i4

/-- cadastre/cadastreref0.CopyBytes -/
noncomputable def cadastreref0_CopyBytes (k : Nat) (l0 : List Int) : Option (List Int) :=
cadastreref0_CopyBytes_l3 k (fun m3_1 =>
some m3_1) k l0 [] 0

noncomputable def varint_Get_j1 {ρ : Type} (k : Nat) (kret : Int → Int → Int → Option ρ) (kgoto0 : List Int → Int → Int → Option ρ) (b0 : List Int) (n2 : Int) (size3 : Int) : Option ρ :=
bif (size3 == (b0.length : Int)) then
kret 0 0 1
else
chk (0 ≤ size3 ∧ size3 < (b0.length : Int)) <|
bif ((IntKind.i64.wrap (size3 + 1)) == 9) then
let v_1 : Int := (IntKind.u64.wrap (BitVec.ofInt (IntKind.u64).bits (IntKind.u64.wrap (n2 * 2 ^ (min (8 : Int).toNat (IntKind.u64).bits))) ||| BitVec.ofInt (IntKind.u64).bits (IntKind.u64.wrap (b0.getD size3.toNat 0))).toNat)
bif (big (decide (v_1 < 72057594037927936))) then
kret 0 0 1
else
kret v_1 (IntKind.i64.wrap (size3 + 1)) 0
else
let v_2 : Int := (IntKind.u8.wrap (BitVec.ofInt (IntKind.u8).bits (b0.getD size3.toNat 0) &&& BitVec.ofInt (IntKind.u8).bits 127).toNat)
let v_3 : Int := (IntKind.u64.wrap (BitVec.ofInt (IntKind.u64).bits (IntKind.u64.wrap (n2 * 2 ^ (min (7 : Int).toNat (IntKind.u64).bits))) ||| BitVec.ofInt (IntKind.u64).bits (IntKind.u64.wrap v_2)).toNat)
bif (decide ((b0.getD size3.toNat 0) ≥ 128)) then
kgoto0 b0 v_3 (IntKind.i64.wrap (size3 + 1))
else
bif (decide ((IntKind.i64.wrap (size3 + 1)) > 1)) then
let v_4 : Int := (IntKind.i64.wrap (7 * (IntKind.i64.wrap ((IntKind.i64.wrap (size3 + 1)) - 1))))
if v_4 < 0 then none else
let v_5 : Int := (IntKind.u64.wrap ((1 : Int) * 2 ^ (min v_4.toNat (IntKind.u64).bits)))
bif (decide (v_3 < v_5)) then
kret 0 0 1
else
kret v_3 (IntKind.i64.wrap (size3 + 1)) 0
else
kret v_3 (IntKind.i64.wrap (size3 + 1)) 0

noncomputable def varint_Get_g0_b {ρ : Type} (k : Nat) (kret : Int → Int → Int → Option ρ) (rec : (List Int) → Int → Int → Option ρ) (b0 : List Int) (n2 : Int) (size3 : Int) : Option ρ :=
varint_Get_j1 k kret rec b0 n2 size3
noncomputable def varint_Get_g0 {ρ : Type} (k : Nat) (kret : Int → Int → Int → Option ρ) : Nat → (List Int) → Int → Int → Option ρ
  | 0, _, _, _ => none
  | n + 1, b0, n2, size3 => varint_Get_g0_b k kret (varint_Get_g0 k kret n) b0 n2 size3

/-- cadastre/varint.Get -/
noncomputable def varint_Get (k : Nat) (b0 : List Int) : Option (Int × Int × Int) :=
varint_Get_j1 k (fun n2_6 size3_7 e4_8 =>
some (n2_6, size3_7, e4_8)) (fun b0_9 n2_10 size3_11 =>
varint_Get_g0 k (fun n2_18 size3_19 e4_20 =>
some (n2_18, size3_19, e4_20)) k b0_9 n2_10 size3_11) b0 0 0

/-- cadastre/value.Int -/
noncomputable def value_Int (k : Nat) (n0 : Int) : Option S44 :=
some (⟨1, n0, ByteArray.empty⟩ : S44)

noncomputable def record_take_j7 {ρ : Type} (k : Nat) (knxt : Int → List Int → Int → S44 → Option ρ) (kret : List Int → Bool → S44 → Option ρ) (t0 : Int) (b1 : List Int) (v4 : S44) : Option ρ :=
bif (decide (t0 ≤ 4)) then
(record_widths k).bind fun r_3 =>
chk (0 ≤ t0 ∧ t0 < (5 : Int)) <|
knxt t0 b1 (r_3.getD t0.toNat 0) v4
else
bif (decide (t0 < 12)) then
kret [] false (⟨0, 0, ByteArray.empty⟩ : S44)
else
bif (big (decide (t0 > 8205))) then
kret [] false (⟨0, 0, ByteArray.empty⟩ : S44)
else
let v_4 : Int := (IntKind.i64.wrap (Int.tdiv (IntKind.i64.wrap (IntKind.u64.wrap (t0 - 12))) 2))
knxt t0 b1 v_4 v4

noncomputable def record_take_j22 {ρ : Type} (k : Nat) (kret : List Int → Bool → S44 → Option ρ) (t0 : Int) (b1 : List Int) (n7 : Int) (v4 : S44) : Option ρ :=
chk (0 ≤ n7 ∧ n7 ≤ (b1.length : Int) ∧ (b1.length : Int) ≤ (b1.length : Int)) <|
(record_kind k v4).bind fun r_10 =>
kret ((b1.drop n7.toNat).take ((b1.length : Int).toNat - n7.toNat)) (r_10 == t0) v4

noncomputable def record_take_l17_b {ρ : Type} (k : Nat) (kexit1 : Int → List Int → Int → Int → S44 → Option ρ) (rec : Int → (List Int) → Int → Int → (List Int) → Int → Int → S44 → Option ρ) (t0 : Int) (b1 : List Int) (n7 : Int) (x8 : Int) (t69 : List Int) (t70 : Int) (t71 : Int) (v4 : S44) : Option ρ :=
bif (decide (t71 < t70)) then
chk (0 ≤ t71 ∧ t71 < (t69.length : Int)) <|
let v_15 : Int := (IntKind.i64.wrap (BitVec.ofInt (IntKind.i64).bits (IntKind.i64.wrap (x8 * 2 ^ (min (8 : Int).toNat (IntKind.i64).bits))) ||| BitVec.ofInt (IntKind.i64).bits (IntKind.i64.wrap (t69.getD t71.toNat 0))).toNat)
rec t0 b1 n7 v_15 t69 t70 (IntKind.i64.wrap (t71 + 1)) v4
else
kexit1 t0 b1 n7 x8 v4
noncomputable def record_take_l17 {ρ : Type} (k : Nat) (kexit1 : Int → List Int → Int → Int → S44 → Option ρ) : Nat → Int → (List Int) → Int → Int → (List Int) → Int → Int → S44 → Option ρ
  | 0, _, _, _, _, _, _, _, _ => none
  | n + 1, t0, b1, n7, x8, t69, t70, t71, v4 => record_take_l17_b k kexit1 (record_take_l17 k kexit1 n) t0 b1 n7 x8 t69 t70 t71 v4

noncomputable def record_take_j11 {ρ : Type} (k : Nat) (kret : List Int → Bool → S44 → Option ρ) (t0 : Int) (b1 : List Int) (n7 : Int) (v4 : S44) : Option ρ :=
bif (decide (n7 > (b1.length : Int))) then
kret [] false (⟨0, 0, ByteArray.empty⟩ : S44)
else
bif (decide (t0 ≥ 12)) then
chk (0 ≤ (0 : Int) ∧ (0 : Int) ≤ n7 ∧ n7 ≤ (b1.length : Int)) <|
let v_9 : ByteArray := (strOfNums ((b1.drop (0 : Int).toNat).take (n7.toNat - (0 : Int).toNat)))
record_take_j22 k kret t0 b1 n7 (⟨(IntKind.i64.wrap (3 - (IntKind.i64.wrap (Int.tmod t0 2)))), 0, v_9⟩ : S44)
else
chk (0 ≤ (0 : Int) ∧ (0 : Int) < (b1.length : Int)) <|
chk (0 ≤ (1 : Int) ∧ (1 : Int) ≤ n7 ∧ n7 ≤ (b1.length : Int)) <|
let v_14 : Int := (((b1.drop (1 : Int).toNat).take (n7.toNat - (1 : Int).toNat)).length : Int)
record_take_l17 k (fun t0_16 b1_17 n7_18 x8_19 v4_20 =>
(value_Int k x8_19).bind fun r_21 =>
record_take_j22 k kret t0_16 b1_17 n7_18 r_21) k t0 b1 n7 (IntKind.i64.wrap (IntKind.i8.wrap (b1.getD 0 0))) ((b1.drop (1 : Int).toNat).take (n7.toNat - (1 : Int).toNat)) v_14 0 v4

/-- cadastre/record.take -/
noncomputable def record_take (k : Nat) (t0 : Int) (b1 : List Int) : Option (S44 × (List Int) × Bool) :=
bif (t0 == 0) then
some ((⟨0, 0, ByteArray.empty⟩ : S44), b1, true)
else
bif (t0 == 5) then
(value_Int k (IntKind.i64.wrap (IntKind.u64.wrap (t0 - 5)))).bind fun r_1 =>
some (r_1, b1, true)
else
bif (t0 == 6) then
(value_Int k (IntKind.i64.wrap (IntKind.u64.wrap (t0 - 5)))).bind fun r_2 =>
some (r_2, b1, true)
else
record_take_j7 k (fun t0_5 b1_6 n7_7 v4_8 =>
record_take_j11 k (fun rest5_25 is6_26 v4_27 =>
some (v4_27, rest5_25, is6_26)) t0_5 b1_6 n7_7 v4_8) (fun rest5_28 is6_29 v4_30 =>
some (v4_30, rest5_28, is6_29)) t0 b1 (⟨0, 0, ByteArray.empty⟩ : S44)

noncomputable def record_Decode_l8_b {ρ : Type} (k : Nat) (kgoto0 : Option ρ) (kexit0 : List S44 → List Int → List Int → Option ρ) (rec : (List S44) → (List Int) → (List Int) → Int → Int → Option ρ) (l4 : List S44) (types5 : List Int) (rest6 : List Int) (t38 : Int) (t39 : Int) : Option ρ :=
bif (decide (t39 < t38)) then
(varint_Get k rest6).bind fun r_2 =>
bif (r_2.2.2 != 0) then
kgoto0
else
chk ((types5.length + [r_2.1].length) * 8 ≤ 140737488355328) <|
chk (0 ≤ r_2.2.1 ∧ r_2.2.1 ≤ (rest6.length : Int) ∧ (rest6.length : Int) ≤ (rest6.length : Int)) <|
rec l4 (types5 ++ [r_2.1]) ((rest6.drop r_2.2.1.toNat).take ((rest6.length : Int).toNat - r_2.2.1.toNat)) t38 (IntKind.u64.wrap (t39 + 1))
else
kexit0 l4 types5 rest6
noncomputable def record_Decode_l8 {ρ : Type} (k : Nat) (kgoto0 : Option ρ) (kexit0 : List S44 → List Int → List Int → Option ρ) : Nat → (List S44) → (List Int) → (List Int) → Int → Int → Option ρ
  | 0, _, _, _, _, _ => none
  | n + 1, l4, types5, rest6, t38, t39 => record_Decode_l8_b k kgoto0 kexit0 (record_Decode_l8 k kgoto0 kexit0 n) l4 types5 rest6 t38 t39

noncomputable def record_Decode_l15_b {ρ : Type} (k : Nat) (kgoto0 : Option ρ) (kexit2 : List S44 → List Int → Option ρ) (rec : (List S44) → (List Int) → (List Int) → Int → Int → Option ρ) (l4 : List S44) (types5 : List Int) (rest6 : List Int) (t58 : Int) (t59 : Int) : Option ρ :=
bif (decide (t59 < t58)) then
chk (0 ≤ t59 ∧ t59 < (types5.length : Int)) <|
(record_take k (types5.getD t59.toNat 0) rest6).bind fun r_6 =>
bif (!r_6.2.2) then
kgoto0
else
chk ((l4.length + [r_6.1].length) * 32 ≤ 140737488355328) <|
rec (l4 ++ [r_6.1]) types5 r_6.2.1 t58 (IntKind.i64.wrap (t59 + 1))
else
kexit2 l4 rest6
noncomputable def record_Decode_l15 {ρ : Type} (k : Nat) (kgoto0 : Option ρ) (kexit2 : List S44 → List Int → Option ρ) : Nat → (List S44) → (List Int) → (List Int) → Int → Int → Option ρ
  | 0, _, _, _, _, _ => none
  | n + 1, l4, types5, rest6, t58, t59 => record_Decode_l15_b k kgoto0 kexit2 (record_Decode_l15 k kgoto0 kexit2 n) l4 types5 rest6 t58 t59

noncomputable def record_Decode_j6 {ρ : Type} (k : Nat) (kgoto0 : Option ρ) (kret : List S44 → Int → Option ρ) (l4 : List S44) (types5 : List Int) (rest6 : List Int) (n7 : Int) (size8 : Int) : Option ρ :=
chk (0 ≤ size8 ∧ size8 ≤ (rest6.length : Int) ∧ (rest6.length : Int) ≤ (rest6.length : Int)) <|
record_Decode_l8 k kgoto0 (fun l4_3 types5_4 rest6_5 =>
record_Decode_l15 k kgoto0 (fun l4_7 rest6_8 =>
bif ((rest6_8.length : Int) == 0) then
kret l4_7 0
else
kret [] 1) k l4_3 types5_4 rest6_5 (types5_4.length : Int) 0) k l4 types5 ((rest6.drop size8.toNat).take ((rest6.length : Int).toNat - size8.toNat)) n7 0

/-- cadastre/record.Decode -/
noncomputable def record_Decode (k : Nat) (b0 : List Int) : Option ((List S44) × Int) :=
(varint_Get k b0).bind fun r_1 =>
bif (r_1.2.2 != 0) then
some ([], 1)
else
bif (decide (r_1.1 > 17)) then
some ([], 1)
else
bif (big (decide ((b0.length : Int) > 16384))) then
some ([], 1)
else
record_Decode_j6 k (some ([], 1)) (fun t2_9 t3_10 =>
some (t2_9, t3_10)) [] [] b0 r_1.1 r_1.2.1

noncomputable def cadastrelaw0_Values_o0_l1_b {ρ : Type} (k : Nat) (kexit0 : List S44 → Option ρ) (rec : (List S44) → Int → Option ρ) (l0 : List S44) (i2 : Int) : Option ρ :=
bif (decide (i2 < (l0.length : Int))) then
chk (0 ≤ i2 ∧ i2 < (l0.length : Int)) <|
chk (i2.toNat < l0.length) <|
rec (l0.set i2.toNat (⟨99, 0, ByteArray.empty⟩ : S44)) (IntKind.i64.wrap (i2 + 1))
else
kexit0 l0
noncomputable def cadastrelaw0_Values_o0_l1 {ρ : Type} (k : Nat) (kexit0 : List S44 → Option ρ) : Nat → (List S44) → Int → Option ρ
  | 0, _, _ => none
  | n + 1, l0, i2 => cadastrelaw0_Values_o0_l1_b k kexit0 (cadastrelaw0_Values_o0_l1 k kexit0 n) l0 i2

/-- cadastre/cadastrelaw0.Values -/
noncomputable def cadastrelaw0_Values_o0 (k : Nat) (l0 : List S44) : Option Unit :=
cadastrelaw0_Values_o0_l1 k (fun l0_1 =>
chk ((l0_1.length + [(⟨0, 0, ByteArray.empty⟩ : S44)].length) * 32 ≤ 140737488355328) <|
some ()) k l0 0

/-- cadastre/cadastrelaw6.wakes -/
noncomputable def cadastrelaw6_wakes (k : Nat) : Option Bool :=
(record_Encode k [(⟨0, 0, ByteArray.empty⟩ : S44), (⟨1, 1, ByteArray.empty⟩ : S44), (⟨2, 0, (⟨#[97]⟩ : ByteArray)⟩ : S44)]).bind fun r_1 =>
(cadastrelaw6_num k r_1.2).bind fun r_2 =>
bif (r_2 == 0) then
(cadastreref0_EqBytes k r_1.1 [3, 0, 6, 15, 97]).bind fun r_3 =>
some r_3
else
some false

noncomputable def cadastrelaw6_RecordExact_j17 {ρ : Type} (k : Nat) (kret : Bool → Option ρ) (knxt : List S34 → Int → Option ρ) (l0 : List S34) (i3 : Int) (in12 : List Int) (x13 : List S44) (p4 : S34) : Option ρ :=
(cadastrelaw0_Values_o0 k x13).bind fun r_14 =>
(cadastreref0_EqBytes k in12 p4.f1).bind fun r_15 =>
bif (!r_15) then
kret false
else
knxt l0 i3

noncomputable def cadastrelaw6_RecordExact_j12 {ρ : Type} (k : Nat) (kret : Bool → Option ρ) (knxt : List S34 → Int → Option ρ) (l0 : List S34) (i3 : Int) (p4 : S34) : Option ρ :=
(cadastreref6_Decode k p4.f1).bind fun r_8 =>
(cadastreref0_CopyBytes k p4.f1).bind fun r_9 =>
(record_Decode k r_9).bind fun r_10 =>
(cadastrelaw6_num k r_10.2).bind fun r_11 =>
bif (!((r_11 == 0) == r_8.2)) then
kret false
else
bif (!r_8.2) then
(cadastrelaw6_num k r_10.2).bind fun r_12 =>
bif (r_12 != 1) then
kret false
else
(cadastreref0_EqValues k r_10.1 r_8.1).bind fun r_13 =>
bif (!r_13) then
kret false
else
cadastrelaw6_RecordExact_j17 k kret knxt l0 i3 r_9 r_10.1 p4
else
(cadastreref0_EqValues k r_10.1 r_8.1).bind fun r_19 =>
bif (!r_19) then
kret false
else
cadastrelaw6_RecordExact_j17 k kret knxt l0 i3 r_9 r_10.1 p4

noncomputable def cadastrelaw6_RecordExact_j4 {ρ : Type} (k : Nat) (kret : Bool → Option ρ) (knxt : List S34 → Int → Option ρ) (l0 : List S34) (i3 : Int) : Option ρ :=
chk (0 ≤ i3 ∧ i3 < (l0.length : Int)) <|
(cadastrelaw6_heavy k (l0.getD i3.toNat default)).bind fun r_1 =>
bif r_1 then
kret true
else
(cadastreref6_Encode k (l0.getD i3.toNat default).f0).bind fun r_2 =>
(cadastreref0_CopyValues k (l0.getD i3.toNat default).f0).bind fun r_3 =>
(record_Encode k r_3).bind fun r_4 =>
(cadastrelaw6_num k r_4.2).bind fun r_5 =>
bif (r_5 != r_2.2) then
kret false
else
(cadastreref0_EqBytes k r_4.1 r_2.1).bind fun r_6 =>
bif (!r_6) then
kret false
else
(cadastreref0_EqValues k r_3 (l0.getD i3.toNat default).f0).bind fun r_7 =>
bif (!r_7) then
kret false
else
cadastrelaw6_RecordExact_j12 k kret (fun l0_24 i3_25 =>
knxt l0_24 (IntKind.i64.wrap (i3_25 + 1))) l0 i3 (l0.getD i3.toNat default)

noncomputable def cadastrelaw6_RecordExact_l2_b {ρ : Type} (k : Nat) (kret : Bool → Option ρ) (kexit0 : Option ρ) (rec : (List S34) → Int → Option ρ) (l0 : List S34) (i3 : Int) : Option ρ :=
bif (decide (i3 < (l0.length : Int))) then
bif (decide (i3 < 12)) then
cadastrelaw6_RecordExact_j4 k kret rec l0 i3
else
kexit0
else
kexit0
noncomputable def cadastrelaw6_RecordExact_l2 {ρ : Type} (k : Nat) (kret : Bool → Option ρ) (kexit0 : Option ρ) : Nat → (List S34) → Int → Option ρ
  | 0, _, _ => none
  | n + 1, l0, i3 => cadastrelaw6_RecordExact_l2_b k kret kexit0 (cadastrelaw6_RecordExact_l2 k kret kexit0 n) l0 i3

/-- cadastre/cadastrelaw6.RecordExact -/
noncomputable def cadastrelaw6_RecordExact (k : Nat) (l0 : List S34) : Option Bool :=
cadastrelaw6_RecordExact_l2 k (fun t2_29 =>
some t2_29) ((cadastrelaw6_wakes k).bind fun r_30 =>
some r_30) k l0 0
end Go.Proofs.Ytekjibpkkgldgaa.R
