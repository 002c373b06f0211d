/-
  The program's functions as plain functions over plain data, as a program has printed them.
-/
import Derived.Test.YtekjibpkkgldgaaAxDef
namespace Go.Proofs.Ytekjibpkkgldgaa.B
open Go Go.AX
/-- cadastre/cadastrelaw11.Ask -/
structure S26 where
  f0 : Int
  f1 : Int
  f2 : List (List Int)
  f3 : List Int
instance : Inhabited S26 := ⟨⟨0, 0, [], []⟩⟩
noncomputable def cadastrelaw11_heavy_j5 {ρ : Type} (k : Nat) (knxt : Int → Int → S26 → Option ρ) (n3 : Int) (i4 : Int) (p1 : S26) : Option ρ :=
chk (0 ≤ i4 ∧ i4 < (p1.f2.length : Int)) <|
knxt (IntKind.i64.wrap (n3 + ((p1.f2.getD i4.toNat []).length : Int))) (IntKind.i64.wrap (i4 + 1)) p1

noncomputable def cadastrelaw11_heavy_l3_b {ρ : Type} (k : Nat) (kexit0 : Int → S26 → Option ρ) (rec : Int → Int → S26 → Option ρ) (n3 : Int) (i4 : Int) (p1 : S26) : Option ρ :=
bif (decide (i4 < (p1.f2.length : Int))) then
bif (big (decide (i4 < 300))) then
cadastrelaw11_heavy_j5 k rec n3 i4 p1
else
kexit0 n3 p1
else
kexit0 n3 p1
noncomputable def cadastrelaw11_heavy_l3 {ρ : Type} (k : Nat) (kexit0 : Int → S26 → Option ρ) : Nat → Int → Int → S26 → Option ρ
  | 0, _, _, _ => none
  | n + 1, n3, i4, p1 => cadastrelaw11_heavy_l3_b k kexit0 (cadastrelaw11_heavy_l3 k kexit0 n) n3 i4 p1

/-- cadastre/cadastrelaw11.heavy -/
noncomputable def cadastrelaw11_heavy (k : Nat) (p0 : S26) : Option Bool :=
cadastrelaw11_heavy_l3 k (fun n3_4 p1_5 =>
bif (big (decide (n3_4 > 3000))) then
some true
else
some (big (decide ((p1_5.f2.length : Int) > 300)))) k (p0.f3.length : Int) 0 p0

/-- cadastre/cadastrelaw0.Within -/
noncomputable def cadastrelaw0_Within (k : Nat) (i0 : Int) (n1 : Int) : Option Int :=
if (IntKind.u64.wrap n1) = 0 then none else
let v_1 : Int := (IntKind.i64.wrap (Int.tmod (IntKind.u64.wrap i0) (IntKind.u64.wrap n1)))
some v_1

noncomputable def varint_turned_o0_j2 {ρ : Type} (k : Nat) (kgoto0 : List Int → Int → Int → Option ρ) (kret : List Int → Option ρ) (b0 : List Int) (i3 : Int) (k4 : Int) : Option ρ :=
bif (decide (i3 < k4)) then
chk (0 ≤ k4 ∧ k4 < (b0.length : Int)) <|
chk (0 ≤ i3 ∧ i3 < (b0.length : Int)) <|
chk (0 ≤ i3 ∧ i3 < (b0.length : Int)) <|
chk (i3.toNat < b0.length) <|
chk (0 ≤ k4 ∧ k4 < ((b0.set i3.toNat (b0.getD k4.toNat 0)).length : Int)) <|
chk (k4.toNat < (b0.set i3.toNat (b0.getD k4.toNat 0)).length) <|
kgoto0 ((b0.set i3.toNat (b0.getD k4.toNat 0)).set k4.toNat (b0.getD i3.toNat 0)) (IntKind.i64.wrap (i3 + 1)) (IntKind.i64.wrap (k4 - 1))
else
kret b0

noncomputable def varint_turned_o0_g0_b {ρ : Type} (k : Nat) (kret : List Int → Option ρ) (rec : (List Int) → Int → Int → Option ρ) (b0 : List Int) (i3 : Int) (k4 : Int) : Option ρ :=
varint_turned_o0_j2 k rec kret b0 i3 k4
noncomputable def varint_turned_o0_g0 {ρ : Type} (k : Nat) (kret : List Int → Option ρ) : Nat → (List Int) → Int → Int → Option ρ
  | 0, _, _, _ => none
  | n + 1, b0, i3, k4 => varint_turned_o0_g0_b k kret (varint_turned_o0_g0 k kret n) b0 i3 k4

/-- cadastre/varint.turned -/
noncomputable def varint_turned_o0 (k : Nat) (b0 : List Int) : Option (List Int) :=
varint_turned_o0_j2 k (fun b0_1 i3_2 k4_3 =>
varint_turned_o0_g0 k (fun t2_8 =>
some t2_8) k b0_1 i3_2 k4_3) (fun t2_9 =>
some t2_9) b0 0 (IntKind.i64.wrap ((b0.length : Int) - 1))

noncomputable def varint_Put_l6_b {ρ : Type} (k : Nat) (kexit0 : List Int → Option ρ) (rec : Int → (List Int) → Int → Option ρ) (n0 : Int) (b2 : List Int) (t13 : Int) : Option ρ :=
bif (decide (t13 < 8)) then
let v_1 : Int := (IntKind.u8.wrap (BitVec.ofInt (IntKind.u8).bits (IntKind.u8.wrap n0) ||| BitVec.ofInt (IntKind.u8).bits 128).toNat)
chk ((b2.length + [v_1].length) * 1 ≤ 140737488355328) <|
rec (Int.fdiv n0 (2 ^ (min (7 : Int).toNat (IntKind.u64).bits))) (b2 ++ [v_1]) (IntKind.i64.wrap (t13 + 1))
else
kexit0 b2
noncomputable def varint_Put_l6 {ρ : Type} (k : Nat) (kexit0 : List Int → Option ρ) : Nat → Int → (List Int) → Int → Option ρ
  | 0, _, _, _ => none
  | n + 1, n0, b2, t13 => varint_Put_l6_b k kexit0 (varint_Put_l6 k kexit0 n) n0 b2 t13

noncomputable def varint_Put_j11 {ρ : Type} (k : Nat) (kgoto0 : Int → List Int → Int → Option ρ) (kret : List Int → Option ρ) (n0 : Int) (b2 : List Int) (low3 : Int) : Option ρ :=
let v_4 : Int := (IntKind.u8.wrap (BitVec.ofInt (IntKind.u8).bits (IntKind.u8.wrap n0) &&& BitVec.ofInt (IntKind.u8).bits 127).toNat)
let v_5 : Int := (IntKind.u8.wrap (BitVec.ofInt (IntKind.u8).bits v_4 ||| BitVec.ofInt (IntKind.u8).bits low3).toNat)
chk ((b2.length + [v_5].length) * 1 ≤ 140737488355328) <|
let v_6 : Bool := (decide ((Int.fdiv n0 (2 ^ (min (7 : Int).toNat (IntKind.u64).bits))) > 0))
bif v_6 then
kgoto0 (Int.fdiv n0 (2 ^ (min (7 : Int).toNat (IntKind.u64).bits))) (b2 ++ [v_5]) 128
else
(varint_turned_o0 k (b2 ++ [v_5])).bind fun r_7 =>
kret r_7

noncomputable def varint_Put_g0_b {ρ : Type} (k : Nat) (kret : List Int → Option ρ) (rec : Int → (List Int) → Int → Option ρ) (n0 : Int) (b2 : List Int) (low3 : Int) : Option ρ :=
varint_Put_j11 k rec kret n0 b2 low3
noncomputable def varint_Put_g0 {ρ : Type} (k : Nat) (kret : List Int → Option ρ) : Nat → Int → (List Int) → Int → Option ρ
  | 0, _, _, _ => none
  | n + 1, n0, b2, low3 => varint_Put_g0_b k kret (varint_Put_g0 k kret n) n0 b2 low3

/-- cadastre/varint.Put -/
noncomputable def varint_Put (k : Nat) (n0 : Int) : Option (List Int) :=
bif (big (decide (n0 ≥ 72057594037927936))) then
chk ((0 + [(IntKind.u8.wrap n0)].length) * 1 ≤ 140737488355328) <|
varint_Put_l6 k (fun b2_2 =>
(varint_turned_o0 k b2_2).bind fun r_3 =>
some r_3) k (Int.fdiv n0 (2 ^ (min (8 : Int).toNat (IntKind.u64).bits))) (([] : List Int) ++ [(IntKind.u8.wrap n0)]) 0
else
varint_Put_j11 k (fun n0_8 b2_9 low3_10 =>
varint_Put_g0 k (fun b2_15 =>
some b2_15) k n0_8 b2_9 low3_10) (fun b2_16 =>
some b2_16) n0 [] 0

noncomputable def node_Room_l3_b {ρ : Type} (k : Nat) (kexit0 : Int → Option ρ) (rec : Int → (List (List Int)) → Int → Int → Option ρ) (n3 : Int) (t6 : List (List Int)) (t7 : Int) (t8 : Int) : Option ρ :=
bif (decide (t8 < t7)) then
chk (0 ≤ t8 ∧ t8 < (t6.length : Int)) <|
(varint_Put k (IntKind.u64.wrap ((t6.getD t8.toNat []).length : Int))).bind fun r_1 =>
let v_2 : Int := (IntKind.i64.wrap ((IntKind.i64.wrap (2 + (r_1.length : Int))) + ((t6.getD t8.toNat []).length : Int)))
rec (IntKind.i64.wrap (n3 - v_2)) t6 t7 (IntKind.i64.wrap (t8 + 1))
else
kexit0 n3
noncomputable def node_Room_l3 {ρ : Type} (k : Nat) (kexit0 : Int → Option ρ) : Nat → Int → (List (List Int)) → Int → Int → Option ρ
  | 0, _, _, _, _ => none
  | n + 1, n3, t6, t7, t8 => node_Room_l3_b k kexit0 (node_Room_l3 k kexit0 n) n3 t6 t7 t8

/-- cadastre/node.Room -/
noncomputable def node_Room (k : Nat) (cells0 : List (List Int)) : Option Int :=
node_Room_l3 k (fun n3_3 =>
some n3_3) k 505 cells0 (cells0.length : Int) 0

/-- slices.Grow[[]byte,byte] -/
noncomputable def slices_Grow_byte_byte__n0 (_ : Nat) (c1 : Int) : Option (List Int) :=
chk (0 ≤ c1 ∧ c1 ≤ 140737488355328) (some [])

noncomputable def slices_Concat_byte_byte__l3_b {ρ : Type} (k : Nat) (kexit0 : List (List Int) → Int → Option ρ) (rec : (List (List Int)) → Int → (List (List Int)) → Int → Int → Option ρ) (slices0 : List (List Int)) (size3 : Int) (t9 : List (List Int)) (t10 : Int) (t11 : Int) : Option ρ :=
bif (decide (t11 < t10)) then
chk (0 ≤ t11 ∧ t11 < (t9.length : Int)) <|
let v_1 : Bool := (decide ((IntKind.i64.wrap (size3 + ((t9.getD t11.toNat []).length : Int))) < 0))
bif v_1 then
none
else
rec slices0 (IntKind.i64.wrap (size3 + ((t9.getD t11.toNat []).length : Int))) t9 t10 (IntKind.i64.wrap (t11 + 1))
else
kexit0 slices0 size3
noncomputable def slices_Concat_byte_byte__l3 {ρ : Type} (k : Nat) (kexit0 : List (List Int) → Int → Option ρ) : Nat → (List (List Int)) → Int → (List (List Int)) → Int → Int → Option ρ
  | 0, _, _, _, _, _ => none
  | n + 1, slices0, size3, t9, t10, t11 => slices_Concat_byte_byte__l3_b k kexit0 (slices_Concat_byte_byte__l3 k kexit0 n) slices0 size3 t9 t10 t11

noncomputable def slices_Concat_byte_byte__l11_b {ρ : Type} (k : Nat) (kexit2 : List Int → Option ρ) (rec : (List Int) → (List (List Int)) → Int → Int → Option ρ) (newslice6 : List Int) (t25 : List (List Int)) (t26 : Int) (t27 : Int) : Option ρ :=
bif (decide (t27 < t26)) then
chk (0 ≤ t27 ∧ t27 < (t25.length : Int)) <|
chk ((newslice6.length + (t25.getD t27.toNat []).length) * 1 ≤ 140737488355328) <|
rec (newslice6 ++ (t25.getD t27.toNat [])) t25 t26 (IntKind.i64.wrap (t27 + 1))
else
kexit2 newslice6
noncomputable def slices_Concat_byte_byte__l11 {ρ : Type} (k : Nat) (kexit2 : List Int → Option ρ) : Nat → (List Int) → (List (List Int)) → Int → Int → Option ρ
  | 0, _, _, _, _ => none
  | n + 1, newslice6, t25, t26, t27 => slices_Concat_byte_byte__l11_b k kexit2 (slices_Concat_byte_byte__l11 k kexit2 n) newslice6 t25 t26 t27

/-- slices.Concat[[]byte,byte] -/
noncomputable def slices_Concat_byte_byte_ (k : Nat) (slices0 : List (List Int)) : Option (List Int) :=
slices_Concat_byte_byte__l3 k (fun slices0_2 size3_3 =>
(slices_Grow_byte_byte__n0 k size3_3).bind fun r_4 =>
slices_Concat_byte_byte__l11 k (fun newslice6_5 =>
some newslice6_5) k r_4 slices0_2 (slices0_2.length : Int) 0) k slices0 0 slices0 (slices0.length : Int) 0

noncomputable def node_Encode_l10_b {ρ : Type} (k : Nat) (kexit0 : List Int → Option ρ) (rec : (List Int) → Int → (List (List Int)) → Int → Int → Option ρ) (p8 : List Int) (end10 : Int) (t55 : List (List Int)) (t56 : Int) (t57 : Int) : Option ρ :=
bif (decide (t57 < t56)) then
chk (0 ≤ t57 ∧ t57 < (t55.length : Int)) <|
(varint_Put k (IntKind.u64.wrap ((t55.getD t57.toNat []).length : Int))).bind fun r_7 =>
(slices_Concat_byte_byte_ k [r_7, (t55.getD t57.toNat [])]).bind fun r_8 =>
chk (0 ≤ (IntKind.i64.wrap (end10 - (r_8.length : Int))) ∧ (IntKind.i64.wrap (end10 - (r_8.length : Int))) ≤ (p8.length : Int) ∧ (p8.length : Int) ≤ (p8.length : Int)) <|
chk ((IntKind.i64.wrap (end10 - (r_8.length : Int))).toNat + ((p8.length : Int).toNat - (IntKind.i64.wrap (end10 - (r_8.length : Int))).toNat) ≤ p8.length) <|
let v_9 : Int := (((min (r_8.length) (((p8.length : Int).toNat - (IntKind.i64.wrap (end10 - (r_8.length : Int))).toNat))) : Nat) : Int)
let v_10 : Int := (IntKind.i64.wrap ((IntKind.i64.wrap (7 + (IntKind.i64.wrap (2 * t57)))) + 1))
let v_11 : Int := (Int.fdiv (IntKind.i64.wrap (end10 - (r_8.length : Int))) (2 ^ (min (8 : Int).toNat (IntKind.i64).bits)))
chk (0 ≤ (IntKind.i64.wrap (7 + (IntKind.i64.wrap (2 * t57)))) ∧ (IntKind.i64.wrap (7 + (IntKind.i64.wrap (2 * t57)))) < ((overL p8 (IntKind.i64.wrap (end10 - (r_8.length : Int))).toNat (min (r_8.length) (((p8.length : Int).toNat - (IntKind.i64.wrap (end10 - (r_8.length : Int))).toNat))) r_8).length : Int)) <|
chk ((IntKind.i64.wrap (7 + (IntKind.i64.wrap (2 * t57)))).toNat < (overL p8 (IntKind.i64.wrap (end10 - (r_8.length : Int))).toNat (min (r_8.length) (((p8.length : Int).toNat - (IntKind.i64.wrap (end10 - (r_8.length : Int))).toNat))) r_8).length) <|
chk (0 ≤ v_10 ∧ v_10 < (((overL p8 (IntKind.i64.wrap (end10 - (r_8.length : Int))).toNat (min (r_8.length) (((p8.length : Int).toNat - (IntKind.i64.wrap (end10 - (r_8.length : Int))).toNat))) r_8).set (IntKind.i64.wrap (7 + (IntKind.i64.wrap (2 * t57)))).toNat (IntKind.u8.wrap v_11)).length : Int)) <|
chk (v_10.toNat < ((overL p8 (IntKind.i64.wrap (end10 - (r_8.length : Int))).toNat (min (r_8.length) (((p8.length : Int).toNat - (IntKind.i64.wrap (end10 - (r_8.length : Int))).toNat))) r_8).set (IntKind.i64.wrap (7 + (IntKind.i64.wrap (2 * t57)))).toNat (IntKind.u8.wrap v_11)).length) <|
rec (((overL p8 (IntKind.i64.wrap (end10 - (r_8.length : Int))).toNat (min (r_8.length) (((p8.length : Int).toNat - (IntKind.i64.wrap (end10 - (r_8.length : Int))).toNat))) r_8).set (IntKind.i64.wrap (7 + (IntKind.i64.wrap (2 * t57)))).toNat (IntKind.u8.wrap v_11)).set v_10.toNat (IntKind.u8.wrap (IntKind.i64.wrap (end10 - (r_8.length : Int))))) (IntKind.i64.wrap (end10 - (r_8.length : Int))) t55 t56 (IntKind.i64.wrap (t57 + 1))
else
kexit0 p8
noncomputable def node_Encode_l10 {ρ : Type} (k : Nat) (kexit0 : List Int → Option ρ) : Nat → (List Int) → Int → (List (List Int)) → Int → Int → Option ρ
  | 0, _, _, _, _, _ => none
  | n + 1, p8, end10, t55, t56, t57 => node_Encode_l10_b k kexit0 (node_Encode_l10 k kexit0 n) p8 end10 t55 t56 t57

noncomputable def node_Encode_j3 {ρ : Type} (k : Nat) (kret : List Int → Int → Option ρ) (kind0 : Int) (next1 : Int) (cells2 : List (List Int)) : Option ρ :=
(node_Room k cells2).bind fun r_1 =>
bif (decide (r_1 < 0)) then
kret [] 7
else
chk (0 ≤ (512 : Int) ∧ (512 : Int) ≤ (512 : Int) ∧ (512 : Int) * (1 : Int) ≤ 140737488355328) <|
let v_2 : Int := (Int.fdiv (cells2.length : Int) (2 ^ (min (8 : Int).toNat (IntKind.i64).bits)))
let v_3 : Int := (IntKind.u8.wrap (Int.fdiv next1 (2 ^ (min (24 : Int).toNat (IntKind.i64).bits))))
let v_4 : Int := (IntKind.u8.wrap (Int.fdiv next1 (2 ^ (min (16 : Int).toNat (IntKind.i64).bits))))
let v_5 : Int := (IntKind.u8.wrap (Int.fdiv next1 (2 ^ (min (8 : Int).toNat (IntKind.i64).bits))))
chk (0 + (List.replicate (512 : Int).toNat (0 : Int)).length ≤ (List.replicate (512 : Int).toNat (0 : Int)).length) <|
let v_6 : Int := (((min ([(IntKind.u8.wrap kind0), (IntKind.u8.wrap v_2), (IntKind.u8.wrap (cells2.length : Int)), v_3, v_4, v_5, (IntKind.u8.wrap next1)].length) ((List.replicate (512 : Int).toNat (0 : Int)).length)) : Nat) : Int)
node_Encode_l10 k (fun p8_12 =>
kret p8_12 0) k (overL (List.replicate (512 : Int).toNat (0 : Int)) 0 (min ([(IntKind.u8.wrap kind0), (IntKind.u8.wrap v_2), (IntKind.u8.wrap (cells2.length : Int)), v_3, v_4, v_5, (IntKind.u8.wrap next1)].length) ((List.replicate (512 : Int).toNat (0 : Int)).length)) [(IntKind.u8.wrap kind0), (IntKind.u8.wrap v_2), (IntKind.u8.wrap (cells2.length : Int)), v_3, v_4, v_5, (IntKind.u8.wrap next1)]) 512 cells2 (cells2.length : Int) 0

/-- cadastre/node.Encode -/
noncomputable def node_Encode (k : Nat) (kind0 : Int) (next1 : Int) (cells2 : List (List Int)) : Option ((List Int) × Int) :=
bif (decide (kind0 < 0)) then
some ([], 1)
else
bif (decide (kind0 > 255)) then
some ([], 1)
else
bif (decide (next1 < 0)) then
some ([], 1)
else
bif (big (decide (next1 ≥ 4294967296))) then
some ([], 1)
else
node_Encode_j3 k (fun t6_13 t7_14 =>
some (t6_13, t7_14)) kind0 next1 cells2

/-- cadastre/cadastrelaw11.num -/
noncomputable def cadastrelaw11_num (k : Nat) (e0 : Int) : Option Int :=
some e0

noncomputable def varint_Get_j1 {ρ : Type} (k : Nat) (kret : Int → Int → Int → Option ρ) (kgoto0 : List Int → Int → Int → Option ρ) (b0 : List Int) (n2 : Int) (size3 : Int) : Option ρ :=
bif (size3 == (b0.length : Int)) then
kret 0 0 1
else
chk (0 ≤ size3 ∧ size3 < (b0.length : Int)) <|
bif ((IntKind.i64.wrap (size3 + 1)) == 9) then
let v_1 : Int := (IntKind.u64.wrap (BitVec.ofInt (IntKind.u64).bits (IntKind.u64.wrap (n2 * 2 ^ (min (8 : Int).toNat (IntKind.u64).bits))) ||| BitVec.ofInt (IntKind.u64).bits (IntKind.u64.wrap (b0.getD size3.toNat 0))).toNat)
bif (big (decide (v_1 < 72057594037927936))) then
kret 0 0 1
else
kret v_1 (IntKind.i64.wrap (size3 + 1)) 0
else
let v_2 : Int := (IntKind.u8.wrap (BitVec.ofInt (IntKind.u8).bits (b0.getD size3.toNat 0) &&& BitVec.ofInt (IntKind.u8).bits 127).toNat)
let v_3 : Int := (IntKind.u64.wrap (BitVec.ofInt (IntKind.u64).bits (IntKind.u64.wrap (n2 * 2 ^ (min (7 : Int).toNat (IntKind.u64).bits))) ||| BitVec.ofInt (IntKind.u64).bits (IntKind.u64.wrap v_2)).toNat)
bif (decide ((b0.getD size3.toNat 0) ≥ 128)) then
kgoto0 b0 v_3 (IntKind.i64.wrap (size3 + 1))
else
bif (decide ((IntKind.i64.wrap (size3 + 1)) > 1)) then
let v_4 : Int := (IntKind.i64.wrap (7 * (IntKind.i64.wrap ((IntKind.i64.wrap (size3 + 1)) - 1))))
if v_4 < 0 then none else
let v_5 : Int := (IntKind.u64.wrap ((1 : Int) * 2 ^ (min v_4.toNat (IntKind.u64).bits)))
bif (decide (v_3 < v_5)) then
kret 0 0 1
else
kret v_3 (IntKind.i64.wrap (size3 + 1)) 0
else
kret v_3 (IntKind.i64.wrap (size3 + 1)) 0

noncomputable def varint_Get_g0_b {ρ : Type} (k : Nat) (kret : Int → Int → Int → Option ρ) (rec : (List Int) → Int → Int → Option ρ) (b0 : List Int) (n2 : Int) (size3 : Int) : Option ρ :=
varint_Get_j1 k kret rec b0 n2 size3
noncomputable def varint_Get_g0 {ρ : Type} (k : Nat) (kret : Int → Int → Int → Option ρ) : Nat → (List Int) → Int → Int → Option ρ
  | 0, _, _, _ => none
  | n + 1, b0, n2, size3 => varint_Get_g0_b k kret (varint_Get_g0 k kret n) b0 n2 size3

/-- cadastre/varint.Get -/
noncomputable def varint_Get (k : Nat) (b0 : List Int) : Option (Int × Int × Int) :=
varint_Get_j1 k (fun n2_6 size3_7 e4_8 =>
some (n2_6, size3_7, e4_8)) (fun b0_9 n2_10 size3_11 =>
varint_Get_g0 k (fun n2_18 size3_19 e4_20 =>
some (n2_18, size3_19, e4_20)) k b0_9 n2_10 size3_11) b0 0 0

/-- slices.Clone[[]byte,byte] -/
noncomputable def slices_Clone_byte_byte_ (k : Nat) (s0 : List Int) : Option (List Int) :=
nilT s0.length fun b_1 =>
bif b_1 then
some []
else
chk ((0 + s0.length) * 1 ≤ 140737488355328) <|
some (([] : List Int) ++ s0)

noncomputable def node_cell_j4 {ρ : Type} (k : Nat) (kret : List Int → Int → Option ρ) (p0 : List Int) (at1 : Int) (n6 : Int) (size7 : Int) : Option ρ :=
let v_3 : Int := (IntKind.i64.wrap ((IntKind.i64.wrap (at1 + size7)) + (IntKind.i64.wrap n6)))
chk (0 ≤ (IntKind.i64.wrap (at1 + size7)) ∧ (IntKind.i64.wrap (at1 + size7)) ≤ v_3 ∧ v_3 ≤ (p0.length : Int)) <|
(slices_Clone_byte_byte_ k ((p0.drop (IntKind.i64.wrap (at1 + size7)).toNat).take (v_3.toNat - (IntKind.i64.wrap (at1 + size7)).toNat))).bind fun r_4 =>
kret r_4 v_3

/-- cadastre/node.cell -/
noncomputable def node_cell (k : Nat) (p0 : List Int) (at1 : Int) : Option ((List Int) × Int) :=
chk (0 ≤ at1 ∧ at1 ≤ (p0.length : Int) ∧ (p0.length : Int) ≤ (p0.length : Int)) <|
(varint_Get k ((p0.drop at1.toNat).take ((p0.length : Int).toNat - at1.toNat))).bind fun r_1 =>
bif (r_1.2.2 != 0) then
some ([], 0)
else
let v_2 : Int := (IntKind.i64.wrap ((IntKind.i64.wrap ((p0.length : Int) - at1)) - r_1.2.1))
bif (decide (r_1.1 > (IntKind.u64.wrap v_2))) then
some ([], 0)
else
node_cell_j4 k (fun c4_5 end5_6 =>
some (c4_5, end5_6)) p0 at1 r_1.1 r_1.2.1

noncomputable def slices_Index_bool_bool__l2_b {ρ : Type} (k : Nat) (kret : Int → Option ρ) (kexit0 : Option ρ) (rec : (List Bool) → Bool → Int → Int → Option ρ) (s0 : List Bool) (v1 : Bool) (t7 : Int) (t8 : Int) : Option ρ :=
bif (decide (t8 < t7)) then
chk (0 ≤ t8 ∧ t8 < (s0.length : Int)) <|
bif (v1 == (s0.getD t8.toNat false)) then
kret t8
else
rec s0 v1 t7 (IntKind.i64.wrap (t8 + 1))
else
kexit0
noncomputable def slices_Index_bool_bool__l2 {ρ : Type} (k : Nat) (kret : Int → Option ρ) (kexit0 : Option ρ) : Nat → (List Bool) → Bool → Int → Int → Option ρ
  | 0, _, _, _, _ => none
  | n + 1, s0, v1, t7, t8 => slices_Index_bool_bool__l2_b k kret kexit0 (slices_Index_bool_bool__l2 k kret kexit0 n) s0 v1 t7 t8

/-- slices.Index[[]bool,bool] -/
noncomputable def slices_Index_bool_bool_ (k : Nat) (s0 : List Bool) (v1 : Bool) : Option Int :=
slices_Index_bool_bool__l2 k (fun t4_1 =>
some t4_1) (some (-1)) k s0 v1 (s0.length : Int) 0

/-- slices.Contains[[]bool,bool] -/
noncomputable def slices_Contains_bool_bool_ (k : Nat) (s0 : List Bool) (v1 : Bool) : Option Bool :=
(slices_Index_bool_bool_ k s0 v1).bind fun r_1 =>
some (decide (r_1 ≥ 0))

noncomputable def node_Decode_l14_b {ρ : Type} (k : Nat) (kexit0 : List Int → List (List Int) → Int → Int → Int → List Bool → List Int → Option ρ) (rec : (List Int) → (List (List Int)) → Int → Int → Int → (List Bool) → (List Int) → Int → Int → Option ρ) (p0 : List Int) (cells4 : List (List Int)) (n6 : Int) (i7 : Int) (places8 : Int) (used9 : List Bool) (c11 : List Int) (end12 : Int) (k13 : Int) : Option ρ :=
bif (decide (k13 < end12)) then
chk (0 ≤ k13 ∧ k13 < (used9.length : Int)) <|
chk (k13.toNat < used9.length) <|
rec p0 cells4 n6 i7 places8 (used9.set k13.toNat true) c11 end12 (IntKind.i64.wrap (k13 + 1))
else
kexit0 p0 cells4 n6 i7 places8 used9 c11
noncomputable def node_Decode_l14 {ρ : Type} (k : Nat) (kexit0 : List Int → List (List Int) → Int → Int → Int → List Bool → List Int → Option ρ) : Nat → (List Int) → (List (List Int)) → Int → Int → Int → (List Bool) → (List Int) → Int → Int → Option ρ
  | 0, _, _, _, _, _, _, _, _, _ => none
  | n + 1, p0, cells4, n6, i7, places8, used9, c11, end12, k13 => node_Decode_l14_b k kexit0 (node_Decode_l14 k kexit0 n) p0 cells4 n6 i7 places8 used9 c11 end12 k13

noncomputable def node_Decode_j13 {ρ : Type} (k : Nat) (kgoto1 : List Int → List (List Int) → Int → Int → Int → List Bool → Option ρ) (p0 : List Int) (cells4 : List (List Int)) (n6 : Int) (i7 : Int) (places8 : Int) (used9 : List Bool) (at10 : Int) (c11 : List Int) (end12 : Int) : Option ρ :=
node_Decode_l14 k (fun p0_10 cells4_11 n6_12 i7_13 places8_14 used9_15 c11_16 =>
chk ((cells4_11.length + [c11_16].length) * 24 ≤ 140737488355328) <|
kgoto1 p0_10 (cells4_11 ++ [c11_16]) n6_12 (IntKind.i64.wrap (i7_13 + 1)) places8_14 used9_15) k p0 cells4 n6 i7 places8 used9 c11 end12 at10

noncomputable def node_Decode_j11 {ρ : Type} (k : Nat) (kgoto0 : Option ρ) (kgoto1 : List Int → List (List Int) → Int → Int → Int → List Bool → Option ρ) (p0 : List Int) (cells4 : List (List Int)) (n6 : Int) (i7 : Int) (places8 : Int) (used9 : List Bool) (at10 : Int) : Option ρ :=
(node_cell k p0 at10).bind fun r_8 =>
bif (r_8.2 == 0) then
kgoto0
else
chk (0 ≤ at10 ∧ at10 ≤ r_8.2 ∧ r_8.2 ≤ (used9.length : Int)) <|
(slices_Contains_bool_bool_ k ((used9.drop at10.toNat).take (r_8.2.toNat - at10.toNat)) true).bind fun r_9 =>
bif r_9 then
kgoto0
else
node_Decode_j13 k kgoto1 p0 cells4 n6 i7 places8 used9 at10 r_8.1 r_8.2

noncomputable def node_Decode_j8 {ρ : Type} (k : Nat) (kgoto0 : Option ρ) (kgoto1 : List Int → List (List Int) → Int → Int → Int → List Bool → Option ρ) (kret : Int → Int → List (List Int) → Int → Option ρ) (p0 : List Int) (cells4 : List (List Int)) (n6 : Int) (i7 : Int) (places8 : Int) (used9 : List Bool) : Option ρ :=
bif (decide (i7 < n6)) then
chk (0 ≤ (IntKind.i64.wrap (7 + (IntKind.i64.wrap (2 * i7)))) ∧ (IntKind.i64.wrap (7 + (IntKind.i64.wrap (2 * i7)))) < (p0.length : Int)) <|
let v_4 : Int := (IntKind.i64.wrap (p0.getD (IntKind.i64.wrap (7 + (IntKind.i64.wrap (2 * i7)))).toNat 0))
let v_5 : Int := (IntKind.i64.wrap (v_4 * 2 ^ (min (8 : Int).toNat (IntKind.i64).bits)))
let v_6 : Int := (IntKind.i64.wrap ((IntKind.i64.wrap (7 + (IntKind.i64.wrap (2 * i7)))) + 1))
chk (0 ≤ v_6 ∧ v_6 < (p0.length : Int)) <|
let v_7 : Int := (IntKind.i64.wrap (BitVec.ofInt (IntKind.i64).bits v_5 ||| BitVec.ofInt (IntKind.i64).bits (IntKind.i64.wrap (p0.getD v_6.toNat 0))).toNat)
bif (decide (v_7 < places8)) then
kgoto0
else
bif (big (decide (v_7 ≥ 512))) then
kgoto0
else
node_Decode_j11 k kgoto0 kgoto1 p0 cells4 n6 i7 places8 used9 v_7
else
chk (0 ≤ (0 : Int) ∧ (0 : Int) < (p0.length : Int)) <|
chk (0 ≤ (3 : Int) ∧ (3 : Int) < (p0.length : Int)) <|
let v_29 : Int := (IntKind.i64.wrap ((IntKind.i64.wrap (p0.getD 3 0)) * 2 ^ (min (24 : Int).toNat (IntKind.i64).bits)))
chk (0 ≤ (4 : Int) ∧ (4 : Int) < (p0.length : Int)) <|
let v_30 : Int := (IntKind.i64.wrap ((IntKind.i64.wrap (p0.getD 4 0)) * 2 ^ (min (16 : Int).toNat (IntKind.i64).bits)))
let v_31 : Int := (IntKind.i64.wrap (BitVec.ofInt (IntKind.i64).bits v_29 ||| BitVec.ofInt (IntKind.i64).bits v_30).toNat)
chk (0 ≤ (5 : Int) ∧ (5 : Int) < (p0.length : Int)) <|
let v_32 : Int := (IntKind.i64.wrap ((IntKind.i64.wrap (p0.getD 5 0)) * 2 ^ (min (8 : Int).toNat (IntKind.i64).bits)))
let v_33 : Int := (IntKind.i64.wrap (BitVec.ofInt (IntKind.i64).bits v_31 ||| BitVec.ofInt (IntKind.i64).bits v_32).toNat)
chk (0 ≤ (6 : Int) ∧ (6 : Int) < (p0.length : Int)) <|
let v_34 : Int := (IntKind.i64.wrap (BitVec.ofInt (IntKind.i64).bits v_33 ||| BitVec.ofInt (IntKind.i64).bits (IntKind.i64.wrap (p0.getD 6 0))).toNat)
kret (IntKind.i64.wrap (p0.getD 0 0)) v_34 cells4 0

noncomputable def node_Decode_g1_b {ρ : Type} (k : Nat) (kret : Int → Int → List (List Int) → Int → Option ρ) (kretv1 : Int → Int → List (List Int) → Int → Option ρ) (rec : (List Int) → (List (List Int)) → Int → Int → Int → (List Bool) → Option ρ) (p0 : List Int) (cells4 : List (List Int)) (n6 : Int) (i7 : Int) (places8 : Int) (used9 : List Bool) : Option ρ :=
node_Decode_j8 k (kret 0 0 [] 1) rec kretv1 p0 cells4 n6 i7 places8 used9
noncomputable def node_Decode_g1 {ρ : Type} (k : Nat) (kret : Int → Int → List (List Int) → Int → Option ρ) (kretv1 : Int → Int → List (List Int) → Int → Option ρ) : Nat → (List Int) → (List (List Int)) → Int → Int → Int → (List Bool) → Option ρ
  | 0, _, _, _, _, _, _ => none
  | n + 1, p0, cells4, n6, i7, places8, used9 => node_Decode_g1_b k kret kretv1 (node_Decode_g1 k kret kretv1 n) p0 cells4 n6 i7 places8 used9

/-- cadastre/node.Decode -/
noncomputable def node_Decode (k : Nat) (p0 : List Int) : Option (Int × Int × (List (List Int)) × Int) :=
bif (big ((p0.length : Int) != 512)) then
some (0, 0, [], 1)
else
chk (0 ≤ (1 : Int) ∧ (1 : Int) < (p0.length : Int)) <|
let v_1 : Int := (IntKind.i64.wrap ((IntKind.i64.wrap (p0.getD 1 0)) * 2 ^ (min (8 : Int).toNat (IntKind.i64).bits)))
chk (0 ≤ (2 : Int) ∧ (2 : Int) < (p0.length : Int)) <|
let v_2 : Int := (IntKind.i64.wrap (BitVec.ofInt (IntKind.i64).bits v_1 ||| BitVec.ofInt (IntKind.i64).bits (IntKind.i64.wrap (p0.getD 2 0))).toNat)
let v_3 : Bool := (big (decide ((IntKind.i64.wrap (7 + (IntKind.i64.wrap (2 * v_2)))) > 512)))
bif v_3 then
some (0, 0, [], 1)
else
chk (0 ≤ (512 : Int) ∧ (512 : Int) ≤ (512 : Int) ∧ (512 : Int) * (1 : Int) ≤ 140737488355328) <|
node_Decode_j8 k (some (0, 0, [], 1)) (fun p0_35 cells4_36 n6_37 i7_38 places8_39 used9_40 =>
node_Decode_g1 k (fun kind2_51 next3_52 cells4_53 e5_54 =>
some (kind2_51, next3_52, cells4_53, e5_54)) (fun kind2_55 next3_56 cells4_57 e5_58 =>
some (kind2_55, next3_56, cells4_57, e5_58)) k p0_35 cells4_36 n6_37 i7_38 places8_39 used9_40) (fun kind2_59 next3_60 cells4_61 e5_62 =>
some (kind2_59, next3_60, cells4_61, e5_62)) p0 [] v_2 0 (IntKind.i64.wrap (7 + (IntKind.i64.wrap (2 * v_2)))) (List.replicate (512 : Int).toNat (false : Bool))

noncomputable def cadastreref0_EqBytes_l4_b {ρ : Type} (k : Nat) (kret : Bool → Option ρ) (kexit0 : Option ρ) (rec : (List Int) → (List Int) → Int → Option ρ) (a0 : List Int) (b1 : List Int) (i5 : Int) : Option ρ :=
bif (decide (i5 < (a0.length : Int))) then
chk (0 ≤ i5 ∧ i5 < (a0.length : Int)) <|
chk (0 ≤ i5 ∧ i5 < (b1.length : Int)) <|
bif ((a0.getD i5.toNat 0) != (b1.getD i5.toNat 0)) then
kret false
else
rec a0 b1 (IntKind.i64.wrap (i5 + 1))
else
kexit0
noncomputable def cadastreref0_EqBytes_l4 {ρ : Type} (k : Nat) (kret : Bool → Option ρ) (kexit0 : Option ρ) : Nat → (List Int) → (List Int) → Int → Option ρ
  | 0, _, _, _ => none
  | n + 1, a0, b1, i5 => cadastreref0_EqBytes_l4_b k kret kexit0 (cadastreref0_EqBytes_l4 k kret kexit0 n) a0 b1 i5

/-- cadastre/cadastreref0.EqBytes -/
noncomputable def cadastreref0_EqBytes (k : Nat) (a0 : List Int) (b1 : List Int) : Option Bool :=
bif ((a0.length : Int) != (b1.length : Int)) then
some false
else
cadastreref0_EqBytes_l4 k (fun t4_1 =>
some t4_1) (some true) k a0 b1 0

noncomputable def cadastreref0_EqCells_l4_b {ρ : Type} (k : Nat) (kret : Bool → Option ρ) (kexit0 : Option ρ) (rec : (List (List Int)) → (List (List Int)) → Int → Option ρ) (a0 : List (List Int)) (b1 : List (List Int)) (i5 : Int) : Option ρ :=
bif (decide (i5 < (a0.length : Int))) then
chk (0 ≤ i5 ∧ i5 < (a0.length : Int)) <|
chk (0 ≤ i5 ∧ i5 < (b1.length : Int)) <|
(cadastreref0_EqBytes k (a0.getD i5.toNat []) (b1.getD i5.toNat [])).bind fun r_1 =>
bif (!r_1) then
kret false
else
rec a0 b1 (IntKind.i64.wrap (i5 + 1))
else
kexit0
noncomputable def cadastreref0_EqCells_l4 {ρ : Type} (k : Nat) (kret : Bool → Option ρ) (kexit0 : Option ρ) : Nat → (List (List Int)) → (List (List Int)) → Int → Option ρ
  | 0, _, _, _ => none
  | n + 1, a0, b1, i5 => cadastreref0_EqCells_l4_b k kret kexit0 (cadastreref0_EqCells_l4 k kret kexit0 n) a0 b1 i5

/-- cadastre/cadastreref0.EqCells -/
noncomputable def cadastreref0_EqCells (k : Nat) (a0 : List (List Int)) (b1 : List (List Int)) : Option Bool :=
bif ((a0.length : Int) != (b1.length : Int)) then
some false
else
cadastreref0_EqCells_l4 k (fun t4_2 =>
some t4_2) (some true) k a0 b1 0

noncomputable def cadastreref0_CopyBytes_l3_b {ρ : Type} (k : Nat) (kexit0 : List Int → Option ρ) (rec : (List Int) → (List Int) → Int → Option ρ) (l0 : List Int) (m3 : List Int) (i4 : Int) : Option ρ :=
bif (decide (i4 < (l0.length : Int))) then
chk (0 ≤ i4 ∧ i4 < (l0.length : Int)) <|
chk ((m3.length + [(l0.getD i4.toNat 0)].length) * 1 ≤ 140737488355328) <|
rec l0 (m3 ++ [(l0.getD i4.toNat 0)]) (IntKind.i64.wrap (i4 + 1))
else
kexit0 m3
noncomputable def cadastreref0_CopyBytes_l3 {ρ : Type} (k : Nat) (kexit0 : List Int → Option ρ) : Nat → (List Int) → (List Int) → Int → Option ρ
  | 0, _, _, _ => none
  | n + 1, l0, m3, i4 => cadastreref0_CopyBytes_l3_b k kexit0 (cadastreref0_CopyBytes_l3 k kexit0 n) l0 m3 i4

/-- cadastre/cadastreref0.CopyBytes -/
noncomputable def cadastreref0_CopyBytes (k : Nat) (l0 : List Int) : Option (List Int) :=
cadastreref0_CopyBytes_l3 k (fun m3_1 =>
some m3_1) k l0 [] 0

noncomputable def cadastreref0_CopyCells_l3_b {ρ : Type} (k : Nat) (kexit0 : List (List Int) → Option ρ) (rec : (List (List Int)) → (List (List Int)) → Int → Option ρ) (a0 : List (List Int)) (l3 : List (List Int)) (i4 : Int) : Option ρ :=
bif (decide (i4 < (a0.length : Int))) then
chk (0 ≤ i4 ∧ i4 < (a0.length : Int)) <|
(cadastreref0_CopyBytes k (a0.getD i4.toNat [])).bind fun r_1 =>
chk ((l3.length + [r_1].length) * 24 ≤ 140737488355328) <|
rec a0 (l3 ++ [r_1]) (IntKind.i64.wrap (i4 + 1))
else
kexit0 l3
noncomputable def cadastreref0_CopyCells_l3 {ρ : Type} (k : Nat) (kexit0 : List (List Int) → Option ρ) : Nat → (List (List Int)) → (List (List Int)) → Int → Option ρ
  | 0, _, _, _ => none
  | n + 1, a0, l3, i4 => cadastreref0_CopyCells_l3_b k kexit0 (cadastreref0_CopyCells_l3 k kexit0 n) a0 l3 i4

/-- cadastre/cadastreref0.CopyCells -/
noncomputable def cadastreref0_CopyCells (k : Nat) (a0 : List (List Int)) : Option (List (List Int)) :=
cadastreref0_CopyCells_l3 k (fun l3_2 =>
some l3_2) k a0 [] 0

/-- cadastre/cadastrelaw11.wakes -/
noncomputable def cadastrelaw11_wakes (k : Nat) : Option Bool :=
(node_Encode k 1 0 []).bind fun r_1 =>
(cadastrelaw11_num k r_1.2).bind fun r_2 =>
bif (r_2 == 0) then
bif (big ((r_1.1.length : Int) == 512)) then
chk (0 ≤ (0 : Int) ∧ (0 : Int) < (r_1.1.length : Int)) <|
bif ((r_1.1.getD 0 0) == 1) then
(node_Room k []).bind fun r_3 =>
some (big (r_3 == 505))
else
some false
else
some false
else
some false

noncomputable def cadastrelaw11_NodeBack_j17 {ρ : Type} (k : Nat) (kret : Bool → Option ρ) (knxt : List S26 → Int → Option ρ) (l0 : List S26) (i3 : Int) (kind5 : Int) (next6 : Int) (room9 : Int) (p4 : S26) : Option ρ :=
(cadastreref0_CopyCells k p4.f2).bind fun r_13 =>
chk (0 ≤ (IntKind.i64.wrap (room9 + 1)) ∧ (IntKind.i64.wrap (room9 + 1)) ≤ (IntKind.i64.wrap (room9 + 1)) ∧ (IntKind.i64.wrap (room9 + 1)) * (1 : Int) ≤ 140737488355328) <|
chk ((r_13.length + [(List.replicate (IntKind.i64.wrap (room9 + 1)).toNat (0 : Int))].length) * 24 ≤ 140737488355328) <|
(node_Encode k kind5 next6 (r_13 ++ [(List.replicate (IntKind.i64.wrap (room9 + 1)).toNat (0 : Int))])).bind fun r_14 =>
(cadastrelaw11_num k r_14.2).bind fun r_15 =>
bif (r_15 != 7) then
kret false
else
(node_Room k (r_13 ++ [(List.replicate (IntKind.i64.wrap (room9 + 1)).toNat (0 : Int))])).bind fun r_16 =>
bif (decide (r_16 ≥ 0)) then
kret false
else
knxt l0 i3

noncomputable def cadastrelaw11_NodeBack_j13 {ρ : Type} (k : Nat) (kexit1 : List S26 → Int → Option ρ) (kret : Bool → Option ρ) (knxt : List S26 → Int → Option ρ) (l0 : List S26) (i3 : Int) (kind5 : Int) (next6 : Int) (b7 : List Int) (e8 : Int) (room9 : Int) (p4 : S26) : Option ρ :=
(cadastrelaw11_num k e8).bind fun r_9 =>
bif (r_9 != 0) then
kexit1 l0 i3
else
(node_Decode k b7).bind fun r_10 =>
(cadastrelaw11_num k r_10.2.2.2).bind fun r_11 =>
bif (r_11 != 0) then
kret false
else
bif (r_10.1 != kind5) then
kret false
else
bif (r_10.2.1 != next6) then
kret false
else
(cadastreref0_EqCells k r_10.2.2.1 p4.f2).bind fun r_12 =>
bif (!r_12) then
kret false
else
bif (big ((b7.length : Int) != 512)) then
kret false
else
cadastrelaw11_NodeBack_j17 k kret knxt l0 i3 kind5 next6 room9 p4

noncomputable def cadastrelaw11_NodeBack_j4 {ρ : Type} (k : Nat) (kret : Bool → Option ρ) (knxt : List S26 → Int → Option ρ) (l0 : List S26) (i3 : Int) : Option ρ :=
chk (0 ≤ i3 ∧ i3 < (l0.length : Int)) <|
(cadastrelaw11_heavy k (l0.getD i3.toNat default)).bind fun r_1 =>
bif r_1 then
kret true
else
(cadastrelaw0_Within k (l0.getD i3.toNat default).f0 256).bind fun r_2 =>
(cadastrelaw0_Within k (l0.getD i3.toNat default).f1 4294967296).bind fun r_3 =>
(node_Encode k r_2 r_3 (l0.getD i3.toNat default).f2).bind fun r_4 =>
(node_Room k (l0.getD i3.toNat default).f2).bind fun r_5 =>
(cadastrelaw11_num k r_4.2).bind fun r_6 =>
bif (!((r_6 == 0) == (decide (r_5 ≥ 0)))) then
kret false
else
(cadastrelaw11_num k r_4.2).bind fun r_7 =>
bif (r_7 != 0) then
(cadastrelaw11_num k r_4.2).bind fun r_8 =>
bif (r_8 != 7) then
kret false
else
cadastrelaw11_NodeBack_j13 k (fun l0_20 i3_21 =>
knxt l0_20 (IntKind.i64.wrap (i3_21 + 1))) kret (fun l0_23 i3_24 =>
knxt l0_23 (IntKind.i64.wrap (i3_24 + 1))) l0 i3 r_2 r_3 r_4.1 r_4.2 r_5 (l0.getD i3.toNat default)
else
cadastrelaw11_NodeBack_j13 k (fun l0_25 i3_26 =>
knxt l0_25 (IntKind.i64.wrap (i3_26 + 1))) kret (fun l0_28 i3_29 =>
knxt l0_28 (IntKind.i64.wrap (i3_29 + 1))) l0 i3 r_2 r_3 r_4.1 r_4.2 r_5 (l0.getD i3.toNat default)

noncomputable def cadastrelaw11_NodeBack_l2_b {ρ : Type} (k : Nat) (kret : Bool → Option ρ) (kexit0 : Option ρ) (rec : (List S26) → Int → Option ρ) (l0 : List S26) (i3 : Int) : Option ρ :=
bif (decide (i3 < (l0.length : Int))) then
bif (decide (i3 < 6)) then
cadastrelaw11_NodeBack_j4 k kret rec l0 i3
else
kexit0
else
kexit0
noncomputable def cadastrelaw11_NodeBack_l2 {ρ : Type} (k : Nat) (kret : Bool → Option ρ) (kexit0 : Option ρ) : Nat → (List S26) → Int → Option ρ
  | 0, _, _ => none
  | n + 1, l0, i3 => cadastrelaw11_NodeBack_l2_b k kret kexit0 (cadastrelaw11_NodeBack_l2 k kret kexit0 n) l0 i3

/-- cadastre/cadastrelaw11.NodeBack -/
noncomputable def cadastrelaw11_NodeBack (k : Nat) (l0 : List S26) : Option Bool :=
cadastrelaw11_NodeBack_l2 k (fun t2_33 =>
some t2_33) ((cadastrelaw11_wakes k).bind fun r_34 =>
some r_34) k l0 0
end Go.Proofs.Ytekjibpkkgldgaa.B
