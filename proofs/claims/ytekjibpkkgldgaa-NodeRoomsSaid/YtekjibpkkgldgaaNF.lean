/-
  The program's functions as plain functions over plain data, as a program has printed them.
-/
import Derived.Test.YtekjibpkkgldgaaAxDef
namespace Go.Proofs.Ytekjibpkkgldgaa.N
open Go Go.AX
/-- cadastre/cadastrelaw11.Ask -/
structure S26 where
  f0 : Int
  f1 : Int
  f2 : List (List Int)
  f3 : List Int
instance : Inhabited S26 := ⟨⟨0, 0, [], []⟩⟩
noncomputable def cadastrelaw11_heavy_j5 {ρ : Type} (k : Nat) (knxt : Int → Int → S26 → Option ρ) (n3 : Int) (i4 : Int) (p1 : S26) : Option ρ :=
chk (0 ≤ i4 ∧ i4 < (p1.f2.length : Int)) <|
knxt (IntKind.i64.wrap (n3 + ((p1.f2.getD i4.toNat []).length : Int))) (IntKind.i64.wrap (i4 + 1)) p1

noncomputable def cadastrelaw11_heavy_l3_b {ρ : Type} (k : Nat) (kexit0 : Int → S26 → Option ρ) (rec : Int → Int → S26 → Option ρ) (n3 : Int) (i4 : Int) (p1 : S26) : Option ρ :=
bif (decide (i4 < (p1.f2.length : Int))) then
bif (big (decide (i4 < 300))) then
cadastrelaw11_heavy_j5 k rec n3 i4 p1
else
kexit0 n3 p1
else
kexit0 n3 p1
noncomputable def cadastrelaw11_heavy_l3 {ρ : Type} (k : Nat) (kexit0 : Int → S26 → Option ρ) : Nat → Int → Int → S26 → Option ρ
  | 0, _, _, _ => none
  | n + 1, n3, i4, p1 => cadastrelaw11_heavy_l3_b k kexit0 (cadastrelaw11_heavy_l3 k kexit0 n) n3 i4 p1

/-- cadastre/cadastrelaw11.heavy -/
noncomputable def cadastrelaw11_heavy (k : Nat) (p0 : S26) : Option Bool :=
cadastrelaw11_heavy_l3 k (fun n3_4 p1_5 =>
bif (big (decide (n3_4 > 3000))) then
some true
else
some (big (decide ((p1_5.f2.length : Int) > 300)))) k (p0.f3.length : Int) 0 p0

noncomputable def varint_turned_o0_j2 {ρ : Type} (k : Nat) (kgoto0 : List Int → Int → Int → Option ρ) (kret : List Int → Option ρ) (b0 : List Int) (i3 : Int) (k4 : Int) : Option ρ :=
bif (decide (i3 < k4)) then
chk (0 ≤ k4 ∧ k4 < (b0.length : Int)) <|
chk (0 ≤ i3 ∧ i3 < (b0.length : Int)) <|
chk (0 ≤ i3 ∧ i3 < (b0.length : Int)) <|
chk (i3.toNat < b0.length) <|
chk (0 ≤ k4 ∧ k4 < ((b0.set i3.toNat (b0.getD k4.toNat 0)).length : Int)) <|
chk (k4.toNat < (b0.set i3.toNat (b0.getD k4.toNat 0)).length) <|
kgoto0 ((b0.set i3.toNat (b0.getD k4.toNat 0)).set k4.toNat (b0.getD i3.toNat 0)) (IntKind.i64.wrap (i3 + 1)) (IntKind.i64.wrap (k4 - 1))
else
kret b0

noncomputable def varint_turned_o0_g0_b {ρ : Type} (k : Nat) (kret : List Int → Option ρ) (rec : (List Int) → Int → Int → Option ρ) (b0 : List Int) (i3 : Int) (k4 : Int) : Option ρ :=
varint_turned_o0_j2 k rec kret b0 i3 k4
noncomputable def varint_turned_o0_g0 {ρ : Type} (k : Nat) (kret : List Int → Option ρ) : Nat → (List Int) → Int → Int → Option ρ
  | 0, _, _, _ => none
  | n + 1, b0, i3, k4 => varint_turned_o0_g0_b k kret (varint_turned_o0_g0 k kret n) b0 i3 k4

/-- cadastre/varint.turned -/
noncomputable def varint_turned_o0 (k : Nat) (b0 : List Int) : Option (List Int) :=
varint_turned_o0_j2 k (fun b0_1 i3_2 k4_3 =>
varint_turned_o0_g0 k (fun t2_8 =>
some t2_8) k b0_1 i3_2 k4_3) (fun t2_9 =>
some t2_9) b0 0 (IntKind.i64.wrap ((b0.length : Int) - 1))

noncomputable def varint_Put_l6_b {ρ : Type} (k : Nat) (kexit0 : List Int → Option ρ) (rec : Int → (List Int) → Int → Option ρ) (n0 : Int) (b2 : List Int) (t13 : Int) : Option ρ :=
bif (decide (t13 < 8)) then
let v_1 : Int := (IntKind.u8.wrap (BitVec.ofInt (IntKind.u8).bits (IntKind.u8.wrap n0) ||| BitVec.ofInt (IntKind.u8).bits 128).toNat)
chk ((b2.length + [v_1].length) * 1 ≤ 140737488355328) <|
rec (Int.fdiv n0 (2 ^ (min (7 : Int).toNat (IntKind.u64).bits))) (b2 ++ [v_1]) (IntKind.i64.wrap (t13 + 1))
else
kexit0 b2
noncomputable def varint_Put_l6 {ρ : Type} (k : Nat) (kexit0 : List Int → Option ρ) : Nat → Int → (List Int) → Int → Option ρ
  | 0, _, _, _ => none
  | n + 1, n0, b2, t13 => varint_Put_l6_b k kexit0 (varint_Put_l6 k kexit0 n) n0 b2 t13

noncomputable def varint_Put_j11 {ρ : Type} (k : Nat) (kgoto0 : Int → List Int → Int → Option ρ) (kret : List Int → Option ρ) (n0 : Int) (b2 : List Int) (low3 : Int) : Option ρ :=
let v_4 : Int := (IntKind.u8.wrap (BitVec.ofInt (IntKind.u8).bits (IntKind.u8.wrap n0) &&& BitVec.ofInt (IntKind.u8).bits 127).toNat)
let v_5 : Int := (IntKind.u8.wrap (BitVec.ofInt (IntKind.u8).bits v_4 ||| BitVec.ofInt (IntKind.u8).bits low3).toNat)
chk ((b2.length + [v_5].length) * 1 ≤ 140737488355328) <|
let v_6 : Bool := (decide ((Int.fdiv n0 (2 ^ (min (7 : Int).toNat (IntKind.u64).bits))) > 0))
bif v_6 then
kgoto0 (Int.fdiv n0 (2 ^ (min (7 : Int).toNat (IntKind.u64).bits))) (b2 ++ [v_5]) 128
else
(varint_turned_o0 k (b2 ++ [v_5])).bind fun r_7 =>
kret r_7

noncomputable def varint_Put_g0_b {ρ : Type} (k : Nat) (kret : List Int → Option ρ) (rec : Int → (List Int) → Int → Option ρ) (n0 : Int) (b2 : List Int) (low3 : Int) : Option ρ :=
varint_Put_j11 k rec kret n0 b2 low3
noncomputable def varint_Put_g0 {ρ : Type} (k : Nat) (kret : List Int → Option ρ) : Nat → Int → (List Int) → Int → Option ρ
  | 0, _, _, _ => none
  | n + 1, n0, b2, low3 => varint_Put_g0_b k kret (varint_Put_g0 k kret n) n0 b2 low3

/-- cadastre/varint.Put -/
noncomputable def varint_Put (k : Nat) (n0 : Int) : Option (List Int) :=
bif (big (decide (n0 ≥ 72057594037927936))) then
chk ((0 + [(IntKind.u8.wrap n0)].length) * 1 ≤ 140737488355328) <|
varint_Put_l6 k (fun b2_2 =>
(varint_turned_o0 k b2_2).bind fun r_3 =>
some r_3) k (Int.fdiv n0 (2 ^ (min (8 : Int).toNat (IntKind.u64).bits))) (([] : List Int) ++ [(IntKind.u8.wrap n0)]) 0
else
varint_Put_j11 k (fun n0_8 b2_9 low3_10 =>
varint_Put_g0 k (fun b2_15 =>
some b2_15) k n0_8 b2_9 low3_10) (fun b2_16 =>
some b2_16) n0 [] 0

noncomputable def node_Room_l3_b {ρ : Type} (k : Nat) (kexit0 : Int → Option ρ) (rec : Int → (List (List Int)) → Int → Int → Option ρ) (n3 : Int) (t6 : List (List Int)) (t7 : Int) (t8 : Int) : Option ρ :=
bif (decide (t8 < t7)) then
chk (0 ≤ t8 ∧ t8 < (t6.length : Int)) <|
(varint_Put k (IntKind.u64.wrap ((t6.getD t8.toNat []).length : Int))).bind fun r_1 =>
let v_2 : Int := (IntKind.i64.wrap ((IntKind.i64.wrap (2 + (r_1.length : Int))) + ((t6.getD t8.toNat []).length : Int)))
rec (IntKind.i64.wrap (n3 - v_2)) t6 t7 (IntKind.i64.wrap (t8 + 1))
else
kexit0 n3
noncomputable def node_Room_l3 {ρ : Type} (k : Nat) (kexit0 : Int → Option ρ) : Nat → Int → (List (List Int)) → Int → Int → Option ρ
  | 0, _, _, _, _ => none
  | n + 1, n3, t6, t7, t8 => node_Room_l3_b k kexit0 (node_Room_l3 k kexit0 n) n3 t6 t7 t8

/-- cadastre/node.Room -/
noncomputable def node_Room (k : Nat) (cells0 : List (List Int)) : Option Int :=
node_Room_l3 k (fun n3_3 =>
some n3_3) k 505 cells0 (cells0.length : Int) 0

noncomputable def cadastreref1_Put_l5_b {ρ : Type} (k : Nat) (kexit0 : List Int → Option ρ) (rec : Int → (List Int) → Int → Option ρ) (n0 : Int) (b3 : List Int) (i4 : Int) : Option ρ :=
bif (decide (i4 < 8)) then
let v_1 : Int := (IntKind.u8.wrap (BitVec.ofInt (IntKind.u8).bits (IntKind.u8.wrap (Int.tmod n0 128)) ||| BitVec.ofInt (IntKind.u8).bits 128).toNat)
chk (([v_1].length + b3.length) * 1 ≤ 140737488355328) <|
rec (IntKind.u64.wrap (Int.tdiv n0 128)) ([v_1] ++ b3) (IntKind.i64.wrap (i4 + 1))
else
kexit0 b3
noncomputable def cadastreref1_Put_l5 {ρ : Type} (k : Nat) (kexit0 : List Int → Option ρ) : Nat → Int → (List Int) → Int → Option ρ
  | 0, _, _, _ => none
  | n + 1, n0, b3, i4 => cadastreref1_Put_l5_b k kexit0 (cadastreref1_Put_l5 k kexit0 n) n0 b3 i4

noncomputable def cadastreref1_Put_l12_b {ρ : Type} (k : Nat) (kexit2 : List Int → Option ρ) (rec : Int → (List Int) → Option ρ) (n0 : Int) (b5 : List Int) : Option ρ :=
bif (decide (n0 > 0)) then
let v_3 : Int := (IntKind.u8.wrap (BitVec.ofInt (IntKind.u8).bits (IntKind.u8.wrap (Int.tmod n0 128)) ||| BitVec.ofInt (IntKind.u8).bits 128).toNat)
chk (([v_3].length + b5.length) * 1 ≤ 140737488355328) <|
rec (IntKind.u64.wrap (Int.tdiv n0 128)) ([v_3] ++ b5)
else
kexit2 b5
noncomputable def cadastreref1_Put_l12 {ρ : Type} (k : Nat) (kexit2 : List Int → Option ρ) : Nat → Int → (List Int) → Option ρ
  | 0, _, _ => none
  | n + 1, n0, b5 => cadastreref1_Put_l12_b k kexit2 (cadastreref1_Put_l12 k kexit2 n) n0 b5

/-- cadastre/cadastreref1.Put -/
noncomputable def cadastreref1_Put (k : Nat) (n0 : Int) : Option (List Int) :=
bif (big (decide (n0 ≥ 72057594037927936))) then
cadastreref1_Put_l5 k (fun b3_2 =>
some b3_2) k (Int.fdiv n0 (2 ^ (min (8 : Int).toNat (IntKind.u64).bits))) [(IntKind.u8.wrap n0)] 0
else
cadastreref1_Put_l12 k (fun b5_4 =>
some b5_4) k (IntKind.u64.wrap (Int.tdiv n0 128)) [(IntKind.u8.wrap (Int.tmod n0 128))]

noncomputable def cadastreref6_Room_l3_b {ρ : Type} (k : Nat) (kexit0 : Int → Option ρ) (rec : (List (List Int)) → Int → Int → Option ρ) (cells0 : List (List Int)) (n3 : Int) (i4 : Int) : Option ρ :=
bif (decide (i4 < (cells0.length : Int))) then
chk (0 ≤ i4 ∧ i4 < (cells0.length : Int)) <|
(cadastreref1_Put k (IntKind.u64.wrap ((cells0.getD i4.toNat []).length : Int))).bind fun r_1 =>
chk (0 ≤ i4 ∧ i4 < (cells0.length : Int)) <|
let v_2 : Int := (IntKind.i64.wrap ((IntKind.i64.wrap ((IntKind.i64.wrap (n3 - 2)) - (r_1.length : Int))) - ((cells0.getD i4.toNat []).length : Int)))
rec cells0 v_2 (IntKind.i64.wrap (i4 + 1))
else
kexit0 n3
noncomputable def cadastreref6_Room_l3 {ρ : Type} (k : Nat) (kexit0 : Int → Option ρ) : Nat → (List (List Int)) → Int → Int → Option ρ
  | 0, _, _, _ => none
  | n + 1, cells0, n3, i4 => cadastreref6_Room_l3_b k kexit0 (cadastreref6_Room_l3 k kexit0 n) cells0 n3 i4

/-- cadastre/cadastreref6.Room -/
noncomputable def cadastreref6_Room (k : Nat) (cells0 : List (List Int)) : Option Int :=
cadastreref6_Room_l3 k (fun n3_3 =>
some n3_3) k cells0 505 0

noncomputable def node_Encode_l10_b {ρ : Type} (k : Nat) (kexit0 : List Int → Option ρ) (rec : (List Int) → Int → (List (List Int)) → Int → Int → Option ρ) (p8 : List Int) (end10 : Int) (t55 : List (List Int)) (t56 : Int) (t57 : Int) : Option ρ :=
bif (decide (t57 < t56)) then
chk (0 ≤ t57 ∧ t57 < (t55.length : Int)) <|
(varint_Put k (IntKind.u64.wrap ((t55.getD t57.toNat []).length : Int))).bind fun r_7 =>
none
else
kexit0 p8
noncomputable def node_Encode_l10 {ρ : Type} (k : Nat) (kexit0 : List Int → Option ρ) : Nat → (List Int) → Int → (List (List Int)) → Int → Int → Option ρ
  | 0, _, _, _, _, _ => none
  | n + 1, p8, end10, t55, t56, t57 => node_Encode_l10_b k kexit0 (node_Encode_l10 k kexit0 n) p8 end10 t55 t56 t57

noncomputable def node_Encode_j3 {ρ : Type} (k : Nat) (kret : List Int → Int → Option ρ) (kind0 : Int) (next1 : Int) (cells2 : List (List Int)) : Option ρ :=
(node_Room k cells2).bind fun r_1 =>
bif (decide (r_1 < 0)) then
kret [] 7
else
chk (0 ≤ (512 : Int) ∧ (512 : Int) ≤ (512 : Int) ∧ (512 : Int) * (1 : Int) ≤ 140737488355328) <|
let v_2 : Int := (Int.fdiv (cells2.length : Int) (2 ^ (min (8 : Int).toNat (IntKind.i64).bits)))
let v_3 : Int := (IntKind.u8.wrap (Int.fdiv next1 (2 ^ (min (24 : Int).toNat (IntKind.i64).bits))))
let v_4 : Int := (IntKind.u8.wrap (Int.fdiv next1 (2 ^ (min (16 : Int).toNat (IntKind.i64).bits))))
let v_5 : Int := (IntKind.u8.wrap (Int.fdiv next1 (2 ^ (min (8 : Int).toNat (IntKind.i64).bits))))
chk (0 + (List.replicate (512 : Int).toNat (0 : Int)).length ≤ (List.replicate (512 : Int).toNat (0 : Int)).length) <|
let v_6 : Int := (((min ([(IntKind.u8.wrap kind0), (IntKind.u8.wrap v_2), (IntKind.u8.wrap (cells2.length : Int)), v_3, v_4, v_5, (IntKind.u8.wrap next1)].length) ((List.replicate (512 : Int).toNat (0 : Int)).length)) : Nat) : Int)
node_Encode_l10 k (fun p8_8 =>
kret p8_8 0) k (overL (List.replicate (512 : Int).toNat (0 : Int)) 0 (min ([(IntKind.u8.wrap kind0), (IntKind.u8.wrap v_2), (IntKind.u8.wrap (cells2.length : Int)), v_3, v_4, v_5, (IntKind.u8.wrap next1)].length) ((List.replicate (512 : Int).toNat (0 : Int)).length)) [(IntKind.u8.wrap kind0), (IntKind.u8.wrap v_2), (IntKind.u8.wrap (cells2.length : Int)), v_3, v_4, v_5, (IntKind.u8.wrap next1)]) 512 cells2 (cells2.length : Int) 0

/-- cadastre/node.Encode -/
noncomputable def node_Encode (k : Nat) (kind0 : Int) (next1 : Int) (cells2 : List (List Int)) : Option ((List Int) × Int) :=
bif (decide (kind0 < 0)) then
some ([], 1)
else
bif (decide (kind0 > 255)) then
some ([], 1)
else
bif (decide (next1 < 0)) then
some ([], 1)
else
bif (big (decide (next1 ≥ 4294967296))) then
some ([], 1)
else
node_Encode_j3 k (fun t6_9 t7_10 =>
some (t6_9, t7_10)) kind0 next1 cells2

/-- cadastre/cadastrelaw11.num -/
noncomputable def cadastrelaw11_num (k : Nat) (e0 : Int) : Option Int :=
some e0

/-- cadastre/cadastrelaw11.wakes -/
noncomputable def cadastrelaw11_wakes (k : Nat) : Option Bool :=
(node_Encode k 1 0 []).bind fun r_1 =>
(cadastrelaw11_num k r_1.2).bind fun r_2 =>
bif (r_2 == 0) then
bif (big ((r_1.1.length : Int) == 512)) then
chk (0 ≤ (0 : Int) ∧ (0 : Int) < (r_1.1.length : Int)) <|
bif ((r_1.1.getD 0 0) == 1) then
(node_Room k []).bind fun r_3 =>
some (big (r_3 == 505))
else
some false
else
some false
else
some false

noncomputable def cadastrelaw11_NodeRooms_j4 {ρ : Type} (k : Nat) (kret : Bool → Option ρ) (knxt : List S26 → Int → Option ρ) (l0 : List S26) (i3 : Int) : Option ρ :=
chk (0 ≤ i3 ∧ i3 < (l0.length : Int)) <|
(cadastrelaw11_heavy k (l0.getD i3.toNat default)).bind fun r_1 =>
bif r_1 then
kret true
else
chk (0 ≤ i3 ∧ i3 < (l0.length : Int)) <|
(node_Room k (l0.getD i3.toNat default).f2).bind fun r_2 =>
chk (0 ≤ i3 ∧ i3 < (l0.length : Int)) <|
(cadastreref6_Room k (l0.getD i3.toNat default).f2).bind fun r_3 =>
bif (r_2 != r_3) then
kret false
else
knxt l0 (IntKind.i64.wrap (i3 + 1))

noncomputable def cadastrelaw11_NodeRooms_l2_b {ρ : Type} (k : Nat) (kret : Bool → Option ρ) (kexit0 : Option ρ) (rec : (List S26) → Int → Option ρ) (l0 : List S26) (i3 : Int) : Option ρ :=
bif (decide (i3 < (l0.length : Int))) then
bif (decide (i3 < 6)) then
cadastrelaw11_NodeRooms_j4 k kret rec l0 i3
else
kexit0
else
kexit0
noncomputable def cadastrelaw11_NodeRooms_l2 {ρ : Type} (k : Nat) (kret : Bool → Option ρ) (kexit0 : Option ρ) : Nat → (List S26) → Int → Option ρ
  | 0, _, _ => none
  | n + 1, l0, i3 => cadastrelaw11_NodeRooms_l2_b k kret kexit0 (cadastrelaw11_NodeRooms_l2 k kret kexit0 n) l0 i3

/-- cadastre/cadastrelaw11.NodeRooms -/
noncomputable def cadastrelaw11_NodeRooms (k : Nat) (l0 : List S26) : Option Bool :=
cadastrelaw11_NodeRooms_l2 k (fun t2_7 =>
some t2_7) ((cadastrelaw11_wakes k).bind fun r_8 =>
some r_8) k l0 0
end Go.Proofs.Ytekjibpkkgldgaa.N
