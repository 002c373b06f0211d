/-
  The program's functions as plain functions over plain data, as a program has printed them.
-/
import Derived.Test.YtnoeedkbadoogaaDoorAxDef
import Derived.Lib.Bytealg
import Derived.Lib.ItoaNum
namespace Go.Proofs.YtnoeedkbadoogaaDoor.E
open Go Go.AX
/-- cadastre/api.Value -/
structure S23 where
  f0 : Int
  f1 : Int
  f2 : ByteArray
instance : Inhabited S23 := ⟨⟨0, 0, ByteArray.empty⟩⟩
/-- cadastre/api.Expr, as a part of itself -/
inductive T25 where
  | mk (f0 : Int) (f1 : S23) (f2 : ByteArray) (f3 : ByteArray) (f4 : List T25)
/-- cadastre/api.Expr -/
structure S25 where
  f0 : Int
  f1 : S23
  f2 : ByteArray
  f3 : ByteArray
  f4 : List T25
instance : Inhabited S25 := ⟨⟨0, default, ByteArray.empty, ByteArray.empty, []⟩⟩
instance : Inhabited T25 := ⟨.mk 0 default ByteArray.empty ByteArray.empty []⟩
noncomputable def T25.s : T25 → S25 | .mk a0 a1 a2 a3 a4 => ⟨a0, a1, a2, a3, a4⟩
noncomputable def S25.t (x : S25) : T25 := .mk x.f0 x.f1 x.f2 x.f3 x.f4
/-- cadastre/cadastrelaw23.Ask -/
structure S37 where
  f0 : S25
  f1 : List S23
instance : Inhabited S37 := ⟨⟨default, []⟩⟩
/-- cadastre/api.Token -/
structure S126 where
  f0 : Int
  f1 : ByteArray
  f2 : Int
instance : Inhabited S126 := ⟨⟨0, ByteArray.empty, 0⟩⟩
/-- what the functions that call each other answer -/
structure cadastrelaw21_Weight_R where
  cadastrelaw21_Weight : (List T25) → Int → Int → Option Int
noncomputable def cadastrelaw21_Weight_j6 {ρ : Type} (k : Nat) (rc : cadastrelaw21_Weight_R) (knxt : List T25 → Int → Int → Int → Option ρ) (l0 : List T25) (n1 : Int) (deep2 : Int) (i7 : Int) : Option ρ :=
chk (0 ≤ i7 ∧ i7 < (l0.length : Int)) <|
chk (0 ≤ i7 ∧ i7 < (l0.length : Int)) <|
let v_1 : Int := (IntKind.i64.wrap (Int.tdiv ((l0.getD i7.toNat default).s.f1.f2.size : Int) 50))
(rc.cadastrelaw21_Weight (l0.getD i7.toNat default).s.f4 (IntKind.i64.wrap ((IntKind.i64.wrap (n1 + 1)) + v_1)) (IntKind.i64.wrap (deep2 + 1))).bind fun r_2 =>
knxt l0 r_2 deep2 (IntKind.i64.wrap (i7 + 1))

noncomputable def cadastrelaw21_Weight_l4_b {ρ : Type} (k : Nat) (rc : cadastrelaw21_Weight_R) (kexit0 : Int → Option ρ) (rec : (List T25) → Int → Int → Int → Option ρ) (l0 : List T25) (n1 : Int) (deep2 : Int) (i7 : Int) : Option ρ :=
bif (decide (i7 < (l0.length : Int))) then
bif (big (decide (n1 < 10000))) then
cadastrelaw21_Weight_j6 k rc rec l0 n1 deep2 i7
else
kexit0 n1
else
kexit0 n1
noncomputable def cadastrelaw21_Weight_l4 {ρ : Type} (k : Nat) (rc : cadastrelaw21_Weight_R) (kexit0 : Int → Option ρ) : Nat → (List T25) → Int → Int → Int → Option ρ
  | 0, _, _, _, _ => none
  | n + 1, l0, n1, deep2, i7 => cadastrelaw21_Weight_l4_b k rc kexit0 (cadastrelaw21_Weight_l4 k rc kexit0 n) l0 n1 deep2 i7

/-- cadastre/cadastrelaw21.Weight -/
noncomputable def cadastrelaw21_Weight_r (k : Nat) (rc : cadastrelaw21_Weight_R) (l0 : List T25) (n1 : Int) (deep2 : Int) : Option Int :=
bif (decide (deep2 > 40)) then
some 10000
else
cadastrelaw21_Weight_l4 k rc (fun n1_7 =>
some n1_7) k l0 n1 deep2 0
noncomputable def cadastrelaw21_Weight_R_it (k : Nat) : Nat → cadastrelaw21_Weight_R
  | 0 => ⟨fun _ _ _ => none⟩
  | d + 1 => ⟨cadastrelaw21_Weight_r k (cadastrelaw21_Weight_R_it k d)⟩
/-- cadastre/cadastrelaw21.Weight -/
noncomputable def cadastrelaw21_Weight (k : Nat) (l0 : List T25) (n1 : Int) (deep2 : Int) : Option Int := (cadastrelaw21_Weight_R_it k k).cadastrelaw21_Weight l0 n1 deep2

noncomputable def cadastrelaw0_Light_l5_b {ρ : Type} (k : Nat) (kexit0 : Int → Int → Option ρ) (rec : (List S23) → Int → Int → Int → Option ρ) (l0 : List S23) (most1 : Int) (n5 : Int) (i6 : Int) : Option ρ :=
bif (decide (i6 < (l0.length : Int))) then
chk (0 ≤ i6 ∧ i6 < (l0.length : Int)) <|
rec l0 most1 (IntKind.i64.wrap (n5 + ((l0.getD i6.toNat default).f2.size : Int))) (IntKind.i64.wrap (i6 + 1))
else
kexit0 most1 n5
noncomputable def cadastrelaw0_Light_l5 {ρ : Type} (k : Nat) (kexit0 : Int → Int → Option ρ) : Nat → (List S23) → Int → Int → Int → Option ρ
  | 0, _, _, _, _ => none
  | n + 1, l0, most1, n5, i6 => cadastrelaw0_Light_l5_b k kexit0 (cadastrelaw0_Light_l5 k kexit0 n) l0 most1 n5 i6

/-- cadastre/cadastrelaw0.Light -/
noncomputable def cadastrelaw0_Light (k : Nat) (l0 : List S23) (most1 : Int) : Option Bool :=
bif (decide ((l0.length : Int) > 200)) then
some false
else
cadastrelaw0_Light_l5 k (fun most1_1 n5_2 =>
some (decide (n5_2 ≤ most1_1))) k l0 most1 0 0

/-- cadastre/cadastrelaw23.Heavy -/
noncomputable def cadastrelaw23_Heavy (k : Nat) (p0 : S37) : Option Bool :=
(cadastrelaw21_Weight k [p0.f0.t] 0 0).bind fun r_1 =>
bif (big (decide (r_1 > 1500))) then
some true
else
(cadastrelaw0_Light k p0.f1 20000).bind fun r_2 =>
some (!r_2)

noncomputable def value_Good_j8 {ρ : Type} (k : Nat) (kret : Bool → Option ρ) (v1 : S23) : Option ρ :=
bif (v1.f1 == 0) then
kret (big (decide ((v1.f2.size : Int) ≤ 4096)))
else
kret false

/-- cadastre/value.Good -/
noncomputable def value_Good (k : Nat) (v0 : S23) : Option Bool :=
bif (v0.f0 == 0) then
some ((v0.f0 == 0) && ((v0.f1 == 0) && (v0.f2 == ByteArray.empty)))
else
bif (v0.f0 == 1) then
some (v0.f2.toList == ByteArray.empty.toList)
else
bif (v0.f0 == 2) then
value_Good_j8 k (fun t2_1 =>
some t2_1) v0
else
bif (v0.f0 == 3) then
value_Good_j8 k (fun t2_2 =>
some t2_2) v0
else
some false

noncomputable def value_All_j2 {ρ : Type} (k : Nat) (kret : Bool → Option ρ) (kgoto0 : List S23 → Int → Option ρ) (l0 : List S23) (i3 : Int) : Option ρ :=
bif (i3 == (l0.length : Int)) then
kret true
else
chk (0 ≤ i3 ∧ i3 < (l0.length : Int)) <|
(value_Good k (l0.getD i3.toNat default)).bind fun r_1 =>
bif r_1 then
kgoto0 l0 (IntKind.i64.wrap (i3 + 1))
else
kret false

noncomputable def value_All_g0_b {ρ : Type} (k : Nat) (kret : Bool → Option ρ) (rec : (List S23) → Int → Option ρ) (l0 : List S23) (i3 : Int) : Option ρ :=
value_All_j2 k kret rec l0 i3
noncomputable def value_All_g0 {ρ : Type} (k : Nat) (kret : Bool → Option ρ) : Nat → (List S23) → Int → Option ρ
  | 0, _, _ => none
  | n + 1, l0, i3 => value_All_g0_b k kret (value_All_g0 k kret n) l0 i3

/-- cadastre/value.All -/
noncomputable def value_All (k : Nat) (l0 : List S23) : Option Bool :=
value_All_j2 k (fun t2_2 =>
some t2_2) (fun l0_3 i3_4 =>
value_All_g0 k (fun t2_8 =>
some t2_8) k l0_3 i3_4) l0 0

/-- what the functions that call each other answer -/
structure bind_Low_R where
  bind_Low : S25 → Int → Option Bool
noncomputable def bind_Low_l4_b {ρ : Type} (k : Nat) (rc : bind_Low_R) (kret : Bool → Option ρ) (kexit0 : Option ρ) (rec : Int → (List T25) → Int → Int → Option ρ) (high1 : Int) (t10 : List T25) (t11 : Int) (t12 : Int) : Option ρ :=
bif (decide (t12 < t11)) then
chk (0 ≤ t12 ∧ t12 < (t10.length : Int)) <|
(rc.bind_Low (t10.getD t12.toNat default).s (IntKind.i64.wrap (high1 - 1))).bind fun r_1 =>
bif (!r_1) then
kret false
else
rec high1 t10 t11 (IntKind.i64.wrap (t12 + 1))
else
kexit0
noncomputable def bind_Low_l4 {ρ : Type} (k : Nat) (rc : bind_Low_R) (kret : Bool → Option ρ) (kexit0 : Option ρ) : Nat → Int → (List T25) → Int → Int → Option ρ
  | 0, _, _, _, _ => none
  | n + 1, high1, t10, t11, t12 => bind_Low_l4_b k rc kret kexit0 (bind_Low_l4 k rc kret kexit0 n) high1 t10 t11 t12

/-- cadastre/bind.Low -/
noncomputable def bind_Low_r (k : Nat) (rc : bind_Low_R) (e0 : S25) (high1 : Int) : Option Bool :=
bif (high1 == 0) then
some false
else
bind_Low_l4 k rc (fun t4_2 =>
some t4_2) (some true) k high1 e0.f4 (e0.f4.length : Int) 0
noncomputable def bind_Low_R_it (k : Nat) : Nat → bind_Low_R
  | 0 => ⟨fun _ _ => none⟩
  | d + 1 => ⟨bind_Low_r k (bind_Low_R_it k d)⟩
/-- cadastre/bind.Low -/
noncomputable def bind_Low (k : Nat) (e0 : S25) (high1 : Int) : Option Bool := (bind_Low_R_it k k).bind_Low e0 high1

/-- cadastre/print.Aggregate -/
noncomputable def print_Aggregate (k : Nat) (op0 : Int) : Option Bool :=
bif (decide (op0 ≥ 23)) then
some (decide (op0 ≤ 26))
else
some false

/-- what the functions that call each other answer -/
structure eval_places_R where
  eval_places : S25 → Int → Option Bool
noncomputable def eval_places_l7_b {ρ : Type} (k : Nat) (rc : eval_places_R) (kret : Bool → Option ρ) (kexit0 : Option ρ) (rec : Int → (List T25) → Int → Int → Option ρ) (n1 : Int) (t42 : List T25) (t43 : Int) (t44 : Int) : Option ρ :=
bif (decide (t44 < t43)) then
chk (0 ≤ t44 ∧ t44 < (t42.length : Int)) <|
(rc.eval_places (t42.getD t44.toNat default).s n1).bind fun r_2 =>
bif (!r_2) then
kret false
else
rec n1 t42 t43 (IntKind.i64.wrap (t44 + 1))
else
kexit0
noncomputable def eval_places_l7 {ρ : Type} (k : Nat) (rc : eval_places_R) (kret : Bool → Option ρ) (kexit0 : Option ρ) : Nat → Int → (List T25) → Int → Int → Option ρ
  | 0, _, _, _, _ => none
  | n + 1, n1, t42, t43, t44 => eval_places_l7_b k rc kret kexit0 (eval_places_l7 k rc kret kexit0 n) n1 t42 t43 t44

noncomputable def eval_places_j6 {ρ : Type} (k : Nat) (rc : eval_places_R) (kret : Bool → Option ρ) (n1 : Int) (e2 : S25) : Option ρ :=
eval_places_l7 k rc kret (kret true) k n1 e2.f4 (e2.f4.length : Int) 0

/-- cadastre/eval.places -/
noncomputable def eval_places_r (k : Nat) (rc : eval_places_R) (e0 : S25) (n1 : Int) : Option Bool :=
(print_Aggregate k e0.f0).bind fun r_1 =>
bif r_1 then
some false
else
bif (e0.f0 == 2) then
bif (e0.f1.f0 != 1) then
some false
else
bif (!(e0.f1.f2.toList == ByteArray.empty.toList)) then
some false
else
bif (decide (e0.f1.f1 < 0)) then
some false
else
bif (decide (n1 ≥ 0)) then
bif (decide (e0.f1.f1 ≥ n1)) then
some false
else
eval_places_j6 k rc (fun t4_4 =>
some t4_4) n1 e0
else
eval_places_j6 k rc (fun t4_5 =>
some t4_5) n1 e0
else
eval_places_j6 k rc (fun t4_6 =>
some t4_6) n1 e0
noncomputable def eval_places_R_it (k : Nat) : Nat → eval_places_R
  | 0 => ⟨fun _ _ => none⟩
  | d + 1 => ⟨eval_places_r k (eval_places_R_it k d)⟩
/-- cadastre/eval.places -/
noncomputable def eval_places (k : Nat) (e0 : S25) (n1 : Int) : Option Bool := (eval_places_R_it k k).eval_places e0 n1

/-- slices.Clone[[]cadastre/api.Expr,cadastre/api.Expr] -/
noncomputable def api_Expr__95 (k : Nat) (s0 : List T25) : Option (List T25) :=
nilT s0.length fun b_1 =>
bif b_1 then
some []
else
chk ((0 + s0.length) * 96 ≤ 140737488355328) <|
some (([] : List T25) ++ s0)

/-- what the functions that call each other answer -/
structure bind_Plain_R where
  bind_Plain : S25 → Option S25
noncomputable def bind_Plain_l5_b {ρ : Type} (k : Nat) (rc : bind_Plain_R) (kexit0 : List T25 → S25 → S25 → Option ρ) (rec : (List T25) → Int → Int → S25 → S25 → Option ρ) (args3 : List T25) (t15 : Int) (t16 : Int) (e1 : S25) (t2 : S25) : Option ρ :=
bif (decide (t16 < t15)) then
chk (0 ≤ t16 ∧ t16 < (args3.length : Int)) <|
(rc.bind_Plain (args3.getD t16.toNat default).s).bind fun r_2 =>
chk (0 ≤ t16 ∧ t16 < (args3.length : Int)) <|
chk (t16.toNat < args3.length) <|
rec (args3.set t16.toNat r_2.t) t15 (IntKind.i64.wrap (t16 + 1)) e1 t2
else
kexit0 args3 e1 t2
noncomputable def bind_Plain_l5 {ρ : Type} (k : Nat) (rc : bind_Plain_R) (kexit0 : List T25 → S25 → S25 → Option ρ) : Nat → (List T25) → Int → Int → S25 → S25 → Option ρ
  | 0, _, _, _, _, _ => none
  | n + 1, args3, t15, t16, e1, t2 => bind_Plain_l5_b k rc kexit0 (bind_Plain_l5 k rc kexit0 n) args3 t15 t16 e1 t2

noncomputable def bind_Plain_j3 {ρ : Type} (k : Nat) (rc : bind_Plain_R) (kret : S25 → Option ρ) (e1 : S25) (t2 : S25) : Option ρ :=
(api_Expr__95 k e1.f4).bind fun r_1 =>
bind_Plain_l5 k rc (fun args3_3 e1_4 t2_5 =>
kret (⟨e1_4.f0, e1_4.f1, e1_4.f2, e1_4.f3, args3_3⟩ : S25)) k r_1 (r_1.length : Int) 0 e1 t2

/-- cadastre/bind.Plain -/
noncomputable def bind_Plain_r (k : Nat) (rc : bind_Plain_R) (e0 : S25) : Option S25 :=
bif (e0.f0 == 2) then
bind_Plain_j3 k rc (fun t2_6 =>
some t2_6) (⟨e0.f0, (⟨0, 0, ByteArray.empty⟩ : S23), e0.f2, e0.f3, e0.f4⟩ : S25) (⟨0, (⟨0, 0, ByteArray.empty⟩ : S23), ByteArray.empty, ByteArray.empty, []⟩ : S25)
else
bind_Plain_j3 k rc (fun t2_7 =>
some t2_7) e0 (⟨0, (⟨0, 0, ByteArray.empty⟩ : S23), ByteArray.empty, ByteArray.empty, []⟩ : S25)
noncomputable def bind_Plain_R_it (k : Nat) : Nat → bind_Plain_R
  | 0 => ⟨fun _ => none⟩
  | d + 1 => ⟨bind_Plain_r k (bind_Plain_R_it k d)⟩
/-- cadastre/bind.Plain -/
noncomputable def bind_Plain (k : Nat) (e0 : S25) : Option S25 := (bind_Plain_R_it k k).bind_Plain e0

noncomputable def print_args_j5 {ρ : Type} (k : Nat) (kret : Int → Option ρ) (knxt : Option ρ) (op0 : Int) : Option ρ :=
bif (decide (op0 ≥ 9)) then
bif (decide (op0 ≤ 22)) then
kret 2
else
knxt
else
knxt

noncomputable def print_args_j3 {ρ : Type} (k : Nat) (kret : Int → Option ρ) (knxt : Option ρ) (op0 : Int) : Option ρ :=
bif (decide (op0 ≥ 3)) then
bif (decide (op0 ≤ 8)) then
kret 1
else
bif (decide (op0 ≥ 24)) then
bif (decide (op0 ≤ 26)) then
kret 1
else
print_args_j5 k kret knxt op0
else
print_args_j5 k kret knxt op0
else
bif (decide (op0 ≥ 24)) then
bif (decide (op0 ≤ 26)) then
kret 1
else
print_args_j5 k kret knxt op0
else
print_args_j5 k kret knxt op0

/-- cadastre/print.args -/
noncomputable def print_args (k : Nat) (op0 : Int) : Option Int :=
bif (op0 == 1) then
some 0
else
bif (op0 == 2) then
some 0
else
bif (op0 == 23) then
some 0
else
print_args_j3 k (fun t2_5 =>
some t2_5) (some (-1)) op0

/-- cadastre/print.literal -/
noncomputable def print_literal (k : Nat) (v0 : S23) : Option Bool :=
(value_Good k v0).bind fun r_1 =>
bif r_1 then
bif (v0.f0 != 1) then
some true
else
some (decide (v0.f1 ≥ 0))
else
some false

/-- internal/stringslite.HasPrefix -/
noncomputable def stringslite_HasPrefix (k : Nat) (s0 : ByteArray) (prefix1 : ByteArray) : Option Bool :=
bif (decide ((s0.size : Int) ≥ (prefix1.size : Int))) then
chk (0 ≤ (0 : Int) ∧ (0 : Int) ≤ (prefix1.size : Int) ∧ (prefix1.size : Int) ≤ (s0.size : Int)) <|
let v_1 : Bool := ((s0.extract (0 : Int).toNat (prefix1.size : Int).toNat).toList == prefix1.toList)
some v_1
else
some false

/-- strings.HasPrefix -/
noncomputable def strings_HasPrefix (k : Nat) (s0 : ByteArray) (prefix1 : ByteArray) : Option Bool :=
(stringslite_HasPrefix k s0 prefix1).bind fun r_1 =>
some r_1

/-- cadastre/lex.skip$1 -/
noncomputable def lex_skip_1 (k : Nat) (c0 : Int) : Option Bool :=
bif (c0 == 9) then
some true
else
bif (c0 == 10) then
some true
else
bif (c0 == 13) then
some true
else
some (c0 == 32)

noncomputable def lex_span_f124_l1_b {ρ : Type} (k : Nat) (kexit0 : Int → Option ρ) (rec : ByteArray → Int → Option ρ) (s0 : ByteArray) (at1 : Int) : Option ρ :=
bif (decide (at1 < (s0.size : Int))) then
chk (0 ≤ at1 ∧ at1 < (s0.size : Int)) <|
(lex_skip_1 k ((s0.data.toList.getD at1.toNat 0).toNat : Int)).bind fun r_1 =>
bif r_1 then
rec s0 (IntKind.i64.wrap (at1 + 1))
else
kexit0 at1
else
kexit0 at1
noncomputable def lex_span_f124_l1 {ρ : Type} (k : Nat) (kexit0 : Int → Option ρ) : Nat → ByteArray → Int → Option ρ
  | 0, _, _ => none
  | n + 1, s0, at1 => lex_span_f124_l1_b k kexit0 (lex_span_f124_l1 k kexit0 n) s0 at1

/-- cadastre/lex.span -/
noncomputable def lex_span_f124 (k : Nat) (s0 : ByteArray) (at1 : Int) : Option Int :=
lex_span_f124_l1 k (fun at1_2 =>
some at1_2) k s0 at1

/-- cadastre/lex.skip$2 -/
noncomputable def lex_skip_2 (k : Nat) (c0 : Int) : Option Bool :=
some (c0 != 10)

noncomputable def lex_span_f126_l1_b {ρ : Type} (k : Nat) (kexit0 : Int → Option ρ) (rec : ByteArray → Int → Option ρ) (s0 : ByteArray) (at1 : Int) : Option ρ :=
bif (decide (at1 < (s0.size : Int))) then
chk (0 ≤ at1 ∧ at1 < (s0.size : Int)) <|
(lex_skip_2 k ((s0.data.toList.getD at1.toNat 0).toNat : Int)).bind fun r_1 =>
bif r_1 then
rec s0 (IntKind.i64.wrap (at1 + 1))
else
kexit0 at1
else
kexit0 at1
noncomputable def lex_span_f126_l1 {ρ : Type} (k : Nat) (kexit0 : Int → Option ρ) : Nat → ByteArray → Int → Option ρ
  | 0, _, _ => none
  | n + 1, s0, at1 => lex_span_f126_l1_b k kexit0 (lex_span_f126_l1 k kexit0 n) s0 at1

/-- cadastre/lex.span -/
noncomputable def lex_span_f126 (k : Nat) (s0 : ByteArray) (at1 : Int) : Option Int :=
lex_span_f126_l1 k (fun at1_2 =>
some at1_2) k s0 at1

noncomputable def lex_skip_j1 {ρ : Type} (k : Nat) (kgoto0 : ByteArray → Int → Option ρ) (kret : Int → Option ρ) (s0 : ByteArray) (at1 : Int) : Option ρ :=
(lex_span_f124 k s0 at1).bind fun r_1 =>
chk (0 ≤ r_1 ∧ r_1 ≤ (s0.size : Int) ∧ (s0.size : Int) ≤ (s0.size : Int)) <|
(strings_HasPrefix k (s0.extract r_1.toNat (s0.size : Int).toNat) (⟨#[45, 45]⟩ : ByteArray)).bind fun r_2 =>
bif r_2 then
(lex_span_f126 k s0 r_1).bind fun r_3 =>
kgoto0 s0 r_3
else
kret r_1

noncomputable def lex_skip_g0_b {ρ : Type} (k : Nat) (kret : Int → Option ρ) (rec : ByteArray → Int → Option ρ) (s0 : ByteArray) (at1 : Int) : Option ρ :=
lex_skip_j1 k rec kret s0 at1
noncomputable def lex_skip_g0 {ρ : Type} (k : Nat) (kret : Int → Option ρ) : Nat → ByteArray → Int → Option ρ
  | 0, _, _ => none
  | n + 1, s0, at1 => lex_skip_g0_b k kret (lex_skip_g0 k kret n) s0 at1

/-- cadastre/lex.skip -/
noncomputable def lex_skip (k : Nat) (s0 : ByteArray) (at1 : Int) : Option Int :=
lex_skip_j1 k (fun s0_4 at1_5 =>
lex_skip_g0 k (fun t4_9 =>
some t4_9) k s0_4 at1_5) (fun t4_10 =>
some t4_10) s0 at1

/-- cadastre/lex.letter -/
noncomputable def lex_letter (k : Nat) (c0 : Int) : Option Bool :=
bif (decide (c0 ≥ 97)) then
bif (decide (c0 ≤ 122)) then
some true
else
bif (decide (c0 ≥ 65)) then
bif (decide (c0 ≤ 90)) then
some true
else
some (c0 == 95)
else
some (c0 == 95)
else
bif (decide (c0 ≥ 65)) then
bif (decide (c0 ≤ 90)) then
some true
else
some (c0 == 95)
else
some (c0 == 95)

/-- cadastre/lex.digit -/
noncomputable def lex_digit (k : Nat) (c0 : Int) : Option Bool :=
bif (decide (c0 ≥ 48)) then
some (decide (c0 ≤ 57))
else
some false

/-- internal/stringslite.IndexByte -/
noncomputable def stringslite_IndexByte (_ : Nat) (s0 : ByteArray) (c1 : Int) : Option Int :=
some (Lib.indexByte s0.data.toList c1.toNat.toUInt8)

/-- strings.IndexByte -/
noncomputable def strings_IndexByte (k : Nat) (s0 : ByteArray) (c1 : Int) : Option Int :=
(stringslite_IndexByte k s0 c1).bind fun r_1 =>
some r_1

noncomputable def lex_mark_j9 {ρ : Type} (k : Nat) (kret : Int → Option ρ) (s0 : ByteArray) : Option ρ :=
chk (0 ≤ (0 : Int) ∧ (0 : Int) < (s0.size : Int)) <|
(strings_IndexByte k (⟨#[40, 41, 44, 46, 59, 42, 43, 45, 47, 37, 61, 60, 62]⟩ : ByteArray) ((s0.data.toList.getD 0 0).toNat : Int)).bind fun r_6 =>
bif (decide (r_6 ≥ 0)) then
kret 1
else
kret 0

/-- cadastre/lex.mark -/
noncomputable def lex_mark (k : Nat) (s0 : ByteArray) : Option Int :=
bif (decide ((s0.size : Int) ≥ 2)) then
chk (0 ≤ (0 : Int) ∧ (0 : Int) ≤ 2 ∧ (2 : Int) ≤ (s0.size : Int)) <|
let v_1 : Bool := ((s0.extract (0 : Int).toNat (2 : Int).toNat).toList == (⟨#[124, 124]⟩ : ByteArray).toList)
bif v_1 then
some 2
else
let v_2 : Bool := ((s0.extract (0 : Int).toNat (2 : Int).toNat).toList == (⟨#[60, 62]⟩ : ByteArray).toList)
bif v_2 then
some 2
else
let v_3 : Bool := ((s0.extract (0 : Int).toNat (2 : Int).toNat).toList == (⟨#[33, 61]⟩ : ByteArray).toList)
bif v_3 then
some 2
else
let v_4 : Bool := ((s0.extract (0 : Int).toNat (2 : Int).toNat).toList == (⟨#[60, 61]⟩ : ByteArray).toList)
bif v_4 then
some 2
else
let v_5 : Bool := ((s0.extract (0 : Int).toNat (2 : Int).toNat).toList == (⟨#[62, 61]⟩ : ByteArray).toList)
bif v_5 then
some 2
else
lex_mark_j9 k (fun t2_7 =>
some t2_7) s0
else
lex_mark_j9 k (fun t2_8 =>
some t2_8) s0

noncomputable def lex_nibble_j5 {ρ : Type} (k : Nat) (kret : Int → Bool → Option ρ) (knxt : Option ρ) (c0 : Int) : Option ρ :=
bif (decide (c0 ≥ 65)) then
bif (decide (c0 ≤ 70)) then
kret (IntKind.u8.wrap ((IntKind.u8.wrap (c0 - 65)) + 10)) true
else
knxt
else
knxt

/-- cadastre/lex.nibble -/
noncomputable def lex_nibble (k : Nat) (c0 : Int) : Option (Int × Bool) :=
(lex_digit k c0).bind fun r_1 =>
bif r_1 then
some ((IntKind.u8.wrap (c0 - 48)), true)
else
bif (decide (c0 ≥ 97)) then
bif (decide (c0 ≤ 102)) then
some ((IntKind.u8.wrap ((IntKind.u8.wrap (c0 - 97)) + 10)), true)
else
lex_nibble_j5 k (fun t2_2 t3_3 =>
some (t2_2, t3_3)) (some (0, false)) c0
else
lex_nibble_j5 k (fun t2_4 t3_5 =>
some (t2_4, t3_5)) (some (0, false)) c0

noncomputable def lex_blob_l6_b {ρ : Type} (k : Nat) (kret : ByteArray → Int → Bool → Option ρ) (kexit0 : Int → Int → List Int → Option ρ) (rec : ByteArray → Int → Int → (List Int) → Int → Option ρ) (s0 : ByteArray) (at1 : Int) (n7 : Int) (b8 : List Int) (k9 : Int) : Option ρ :=
bif (decide (k9 < (IntKind.i64.wrap (at1 + n7)))) then
chk (0 ≤ k9 ∧ k9 < (s0.size : Int)) <|
(lex_nibble k ((s0.data.toList.getD k9.toNat 0).toNat : Int)).bind fun r_2 =>
chk (0 ≤ (IntKind.i64.wrap (k9 + 1)) ∧ (IntKind.i64.wrap (k9 + 1)) < (s0.size : Int)) <|
let v_3 : Int := ((s0.data.toList.getD (IntKind.i64.wrap (k9 + 1)).toNat 0).toNat : Int)
(lex_nibble k v_3).bind fun r_4 =>
bif (!r_2.2) then
kret ByteArray.empty 0 false
else
bif (!r_4.2) then
kret ByteArray.empty 0 false
else
let v_5 : Int := (IntKind.u8.wrap (r_2.1 * 2 ^ (min (4 : Int).toNat (IntKind.u8).bits)))
let v_6 : Int := (IntKind.u8.wrap (BitVec.ofInt (IntKind.u8).bits v_5 ||| BitVec.ofInt (IntKind.u8).bits r_4.1).toNat)
chk ((b8.length + [v_6].length) * 1 ≤ 140737488355328) <|
rec s0 at1 n7 (b8 ++ [v_6]) (IntKind.i64.wrap (k9 + 2))
else
kexit0 at1 n7 b8
noncomputable def lex_blob_l6 {ρ : Type} (k : Nat) (kret : ByteArray → Int → Bool → Option ρ) (kexit0 : Int → Int → List Int → Option ρ) : Nat → ByteArray → Int → Int → (List Int) → Int → Option ρ
  | 0, _, _, _, _, _ => none
  | n + 1, s0, at1, n7, b8, k9 => lex_blob_l6_b k kret kexit0 (lex_blob_l6 k kret kexit0 n) s0 at1 n7 b8 k9

noncomputable def lex_blob_j4 {ρ : Type} (k : Nat) (kret : ByteArray → Int → Bool → Option ρ) (s0 : ByteArray) (at1 : Int) (n7 : Int) : Option ρ :=
lex_blob_l6 k kret (fun at1_10 n7_11 b8_12 =>
kret (strOfNums b8_12) (IntKind.i64.wrap ((IntKind.i64.wrap (at1_10 + n7_11)) + 1)) true) k s0 at1 n7 [] at1

/-- cadastre/lex.blob -/
noncomputable def lex_blob (k : Nat) (s0 : ByteArray) (at1 : Int) : Option (ByteArray × Int × Bool) :=
chk (0 ≤ at1 ∧ at1 ≤ (s0.size : Int) ∧ (s0.size : Int) ≤ (s0.size : Int)) <|
(strings_IndexByte k (s0.extract at1.toNat (s0.size : Int).toNat) 39).bind fun r_1 =>
bif (decide (r_1 < 0)) then
some (ByteArray.empty, 0, false)
else
bif ((Int.tmod r_1 2) != 0) then
some (ByteArray.empty, 0, false)
else
lex_blob_j4 k (fun text4_13 end5_14 ok6_15 =>
some (text4_13, end5_14, ok6_15)) s0 at1 r_1

noncomputable def lex_Small_l3_b {ρ : Type} (k : Nat) (kexit0 : List Int → Option ρ) (rec : (List Int) → Int → Int → Option ρ) (b3 : List Int) (t9 : Int) (t10 : Int) : Option ρ :=
bif (decide (t10 < t9)) then
chk (0 ≤ t10 ∧ t10 < (b3.length : Int)) <|
bif (decide ((b3.getD t10.toNat 0) ≥ 65)) then
bif (decide ((b3.getD t10.toNat 0) ≤ 90)) then
let v_1 : Int := (IntKind.u8.wrap ((IntKind.u8.wrap ((b3.getD t10.toNat 0) + 97)) - 65))
chk (0 ≤ t10 ∧ t10 < (b3.length : Int)) <|
chk (t10.toNat < b3.length) <|
rec (b3.set t10.toNat v_1) t9 (IntKind.i64.wrap (t10 + 1))
else
rec b3 t9 (IntKind.i64.wrap (t10 + 1))
else
rec b3 t9 (IntKind.i64.wrap (t10 + 1))
else
kexit0 b3
noncomputable def lex_Small_l3 {ρ : Type} (k : Nat) (kexit0 : List Int → Option ρ) : Nat → (List Int) → Int → Int → Option ρ
  | 0, _, _, _ => none
  | n + 1, b3, t9, t10 => lex_Small_l3_b k kexit0 (lex_Small_l3 k kexit0 n) b3 t9 t10

/-- cadastre/lex.Small -/
noncomputable def lex_Small (k : Nat) (s0 : ByteArray) : Option ByteArray :=
lex_Small_l3 k (fun b3_2 =>
some (strOfNums b3_2)) k (bytesOf s0) ((bytesOf s0).length : Int) 0

noncomputable def lex_integer_l2_b {ρ : Type} (k : Nat) (kret : Int → Bool → Option ρ) (kexit0 : Int → Option ρ) (rec : ByteArray → Int → Int → Int → Option ρ) (s0 : ByteArray) (n2 : Int) (t7 : Int) (t8 : Int) : Option ρ :=
bif (decide (t8 < t7)) then
chk (0 ≤ t8 ∧ t8 < (s0.size : Int)) <|
let v_1 : Int := (IntKind.u8.wrap (((s0.data.toList.getD t8.toNat 0).toNat : Int) - 48))
let v_2 : Int := (IntKind.i64.wrap (Int.tdiv (IntKind.i64.wrap (9223372036854775807 - (IntKind.i64.wrap v_1))) 10))
bif (decide (n2 > v_2)) then
kret 0 false
else
let v_3 : Int := (IntKind.i64.wrap ((IntKind.i64.wrap (10 * n2)) + (IntKind.i64.wrap v_1)))
rec s0 v_3 t7 (IntKind.i64.wrap (t8 + 1))
else
kexit0 n2
noncomputable def lex_integer_l2 {ρ : Type} (k : Nat) (kret : Int → Bool → Option ρ) (kexit0 : Int → Option ρ) : Nat → ByteArray → Int → Int → Int → Option ρ
  | 0, _, _, _, _ => none
  | n + 1, s0, n2, t7, t8 => lex_integer_l2_b k kret kexit0 (lex_integer_l2 k kret kexit0 n) s0 n2 t7 t8

/-- cadastre/lex.integer -/
noncomputable def lex_integer (k : Nat) (s0 : ByteArray) : Option (Int × Bool) :=
lex_integer_l2 k (fun n2_4 ok3_5 =>
some (n2_4, ok3_5)) (fun n2_6 =>
some (n2_6, true)) k s0 0 (s0.size : Int) 0

noncomputable def lex_quoted_j2 {ρ : Type} (k : Nat) (kret : ByteArray → Int → Bool → Option ρ) (kgoto0 : ByteArray → Int → List Int → Option ρ) (s0 : ByteArray) (at1 : Int) (b7 : List Int) : Option ρ :=
bif (at1 == (s0.size : Int)) then
kret ByteArray.empty 0 false
else
chk (0 ≤ at1 ∧ at1 < (s0.size : Int)) <|
bif (((s0.data.toList.getD at1.toNat 0).toNat : Int) != 39) then
chk (0 ≤ at1 ∧ at1 < (s0.size : Int)) <|
chk ((b7.length + [((s0.data.toList.getD at1.toNat 0).toNat : Int)].length) * 1 ≤ 140737488355328) <|
kgoto0 s0 (IntKind.i64.wrap (at1 + 1)) (b7 ++ [((s0.data.toList.getD at1.toNat 0).toNat : Int)])
else
bif (decide ((IntKind.i64.wrap (at1 + 1)) < (s0.size : Int))) then
chk (0 ≤ (IntKind.i64.wrap (at1 + 1)) ∧ (IntKind.i64.wrap (at1 + 1)) < (s0.size : Int)) <|
let v_1 : Int := ((s0.data.toList.getD (IntKind.i64.wrap (at1 + 1)).toNat 0).toNat : Int)
bif (v_1 == 39) then
chk ((b7.length + [39].length) * 1 ≤ 140737488355328) <|
kgoto0 s0 (IntKind.i64.wrap (at1 + 2)) (b7 ++ [39])
else
kret (strOfNums b7) (IntKind.i64.wrap (at1 + 1)) true
else
kret (strOfNums b7) (IntKind.i64.wrap (at1 + 1)) true

noncomputable def lex_quoted_g0_b {ρ : Type} (k : Nat) (kret : ByteArray → Int → Bool → Option ρ) (rec : ByteArray → Int → (List Int) → Option ρ) (s0 : ByteArray) (at1 : Int) (b7 : List Int) : Option ρ :=
lex_quoted_j2 k kret rec s0 at1 b7
noncomputable def lex_quoted_g0 {ρ : Type} (k : Nat) (kret : ByteArray → Int → Bool → Option ρ) : Nat → ByteArray → Int → (List Int) → Option ρ
  | 0, _, _, _ => none
  | n + 1, s0, at1, b7 => lex_quoted_g0_b k kret (lex_quoted_g0 k kret n) s0 at1 b7

/-- cadastre/lex.quoted -/
noncomputable def lex_quoted (k : Nat) (s0 : ByteArray) (at1 : Int) : Option (ByteArray × Int × Bool) :=
lex_quoted_j2 k (fun text4_2 end5_3 ok6_4 =>
some (text4_2, end5_3, ok6_4)) (fun s0_5 at1_6 b7_7 =>
lex_quoted_g0 k (fun text4_14 end5_15 ok6_16 =>
some (text4_14, end5_15, ok6_16)) k s0_5 at1_6 b7_7) s0 at1 []

/-- cadastre/lex.token$1 -/
noncomputable def lex_token_1 (k : Nat) (c0 : Int) : Option Bool :=
(lex_letter k c0).bind fun r_1 =>
bif r_1 then
some true
else
(lex_digit k c0).bind fun r_2 =>
some r_2

noncomputable def lex_span_f131_l1_b {ρ : Type} (k : Nat) (kexit0 : Int → Option ρ) (rec : ByteArray → Int → Option ρ) (s0 : ByteArray) (at1 : Int) : Option ρ :=
bif (decide (at1 < (s0.size : Int))) then
chk (0 ≤ at1 ∧ at1 < (s0.size : Int)) <|
(lex_token_1 k ((s0.data.toList.getD at1.toNat 0).toNat : Int)).bind fun r_1 =>
bif r_1 then
rec s0 (IntKind.i64.wrap (at1 + 1))
else
kexit0 at1
else
kexit0 at1
noncomputable def lex_span_f131_l1 {ρ : Type} (k : Nat) (kexit0 : Int → Option ρ) : Nat → ByteArray → Int → Option ρ
  | 0, _, _ => none
  | n + 1, s0, at1 => lex_span_f131_l1_b k kexit0 (lex_span_f131_l1 k kexit0 n) s0 at1

/-- cadastre/lex.span -/
noncomputable def lex_span_f131 (k : Nat) (s0 : ByteArray) (at1 : Int) : Option Int :=
lex_span_f131_l1 k (fun at1_2 =>
some at1_2) k s0 at1

noncomputable def lex_span_f128_l1_b {ρ : Type} (k : Nat) (kexit0 : Int → Option ρ) (rec : ByteArray → Int → Option ρ) (s0 : ByteArray) (at1 : Int) : Option ρ :=
bif (decide (at1 < (s0.size : Int))) then
chk (0 ≤ at1 ∧ at1 < (s0.size : Int)) <|
(lex_digit k ((s0.data.toList.getD at1.toNat 0).toNat : Int)).bind fun r_1 =>
bif r_1 then
rec s0 (IntKind.i64.wrap (at1 + 1))
else
kexit0 at1
else
kexit0 at1
noncomputable def lex_span_f128_l1 {ρ : Type} (k : Nat) (kexit0 : Int → Option ρ) : Nat → ByteArray → Int → Option ρ
  | 0, _, _ => none
  | n + 1, s0, at1 => lex_span_f128_l1_b k kexit0 (lex_span_f128_l1 k kexit0 n) s0 at1

/-- cadastre/lex.span -/
noncomputable def lex_span_f128 (k : Nat) (s0 : ByteArray) (at1 : Int) : Option Int :=
lex_span_f128_l1 k (fun at1_2 =>
some at1_2) k s0 at1

noncomputable def lex_token_j3 {ρ : Type} (k : Nat) (kgoto1 : ByteArray → Int → S126 → Option ρ) (kgoto2 : ByteArray → Int → S126 → Option ρ) (kgoto3 : ByteArray → Int → S126 → Option ρ) (kret : Int → Bool → S126 → Option ρ) (s0 : ByteArray) (at1 : Int) (c7 : Int) (t4 : S126) : Option ρ :=
(lex_letter k c7).bind fun r_3 =>
bif r_3 then
kgoto1 s0 at1 t4
else
(lex_digit k c7).bind fun r_4 =>
bif r_4 then
kgoto2 s0 at1 t4
else
bif (c7 == 39) then
kgoto3 s0 at1 t4
else
chk (0 ≤ at1 ∧ at1 ≤ (s0.size : Int) ∧ (s0.size : Int) ≤ (s0.size : Int)) <|
(lex_mark k (s0.extract at1.toNat (s0.size : Int).toNat)).bind fun r_5 =>
bif (decide (r_5 > 0)) then
chk (0 ≤ at1 ∧ at1 ≤ (IntKind.i64.wrap (at1 + r_5)) ∧ (IntKind.i64.wrap (at1 + r_5)) ≤ (s0.size : Int)) <|
let v_6 : Bool := ((s0.extract at1.toNat (IntKind.i64.wrap (at1 + r_5)).toNat).toList == (⟨#[33, 61]⟩ : ByteArray).toList)
bif v_6 then
kret (IntKind.i64.wrap (at1 + r_5)) true (⟨5, (⟨#[60, 62]⟩ : ByteArray), 0⟩ : S126)
else
kret (IntKind.i64.wrap (at1 + r_5)) true (⟨5, (s0.extract at1.toNat (IntKind.i64.wrap (at1 + r_5)).toNat), 0⟩ : S126)
else
kret 0 false (⟨0, ByteArray.empty, 0⟩ : S126)

/-- cadastre/lex.token -/
noncomputable def lex_token (k : Nat) (s0 : ByteArray) (at1 : Int) : Option (S126 × Int × Bool) :=
chk (0 ≤ at1 ∧ at1 < (s0.size : Int)) <|
bif (((s0.data.toList.getD at1.toNat 0).toNat : Int) == 120) then
bif (decide ((IntKind.i64.wrap (at1 + 1)) < (s0.size : Int))) then
chk (0 ≤ (IntKind.i64.wrap (at1 + 1)) ∧ (IntKind.i64.wrap (at1 + 1)) < (s0.size : Int)) <|
let v_1 : Int := ((s0.data.toList.getD (IntKind.i64.wrap (at1 + 1)).toNat 0).toNat : Int)
bif (v_1 == 39) then
(lex_blob k s0 (IntKind.i64.wrap (at1 + 2))).bind fun r_2 =>
some ((⟨4, r_2.1, 0⟩ : S126), r_2.2.1, r_2.2.2)
else
lex_token_j3 k (fun s0_7 at1_8 t4_9 =>
(lex_span_f131 k s0_7 at1_8).bind fun r_10 =>
chk (0 ≤ at1_8 ∧ at1_8 ≤ r_10 ∧ r_10 ≤ (s0_7.size : Int)) <|
(lex_Small k (s0_7.extract at1_8.toNat r_10.toNat)).bind fun r_11 =>
some ((⟨1, r_11, 0⟩ : S126), r_10, true)) (fun s0_12 at1_13 t4_14 =>
(lex_span_f128 k s0_12 at1_13).bind fun r_15 =>
chk (0 ≤ at1_13 ∧ at1_13 ≤ r_15 ∧ r_15 ≤ (s0_12.size : Int)) <|
(lex_integer k (s0_12.extract at1_13.toNat r_15.toNat)).bind fun r_16 =>
some ((⟨2, t4_14.f1, r_16.1⟩ : S126), r_15, r_16.2)) (fun s0_17 at1_18 t4_19 =>
(lex_quoted k s0_17 (IntKind.i64.wrap (at1_18 + 1))).bind fun r_20 =>
some ((⟨3, r_20.1, t4_19.f2⟩ : S126), r_20.2.1, r_20.2.2)) (fun end5_21 ok6_22 t4_23 =>
some (t4_23, end5_21, ok6_22)) s0 at1 ((s0.data.toList.getD at1.toNat 0).toNat : Int) (⟨0, ByteArray.empty, 0⟩ : S126)
else
lex_token_j3 k (fun s0_24 at1_25 t4_26 =>
(lex_span_f131 k s0_24 at1_25).bind fun r_27 =>
chk (0 ≤ at1_25 ∧ at1_25 ≤ r_27 ∧ r_27 ≤ (s0_24.size : Int)) <|
(lex_Small k (s0_24.extract at1_25.toNat r_27.toNat)).bind fun r_28 =>
some ((⟨1, r_28, 0⟩ : S126), r_27, true)) (fun s0_29 at1_30 t4_31 =>
(lex_span_f128 k s0_29 at1_30).bind fun r_32 =>
chk (0 ≤ at1_30 ∧ at1_30 ≤ r_32 ∧ r_32 ≤ (s0_29.size : Int)) <|
(lex_integer k (s0_29.extract at1_30.toNat r_32.toNat)).bind fun r_33 =>
some ((⟨2, t4_31.f1, r_33.1⟩ : S126), r_32, r_33.2)) (fun s0_34 at1_35 t4_36 =>
(lex_quoted k s0_34 (IntKind.i64.wrap (at1_35 + 1))).bind fun r_37 =>
some ((⟨3, r_37.1, t4_36.f2⟩ : S126), r_37.2.1, r_37.2.2)) (fun end5_38 ok6_39 t4_40 =>
some (t4_40, end5_38, ok6_39)) s0 at1 ((s0.data.toList.getD at1.toNat 0).toNat : Int) (⟨0, ByteArray.empty, 0⟩ : S126)
else
bif (((s0.data.toList.getD at1.toNat 0).toNat : Int) == 88) then
bif (decide ((IntKind.i64.wrap (at1 + 1)) < (s0.size : Int))) then
chk (0 ≤ (IntKind.i64.wrap (at1 + 1)) ∧ (IntKind.i64.wrap (at1 + 1)) < (s0.size : Int)) <|
let v_41 : Int := ((s0.data.toList.getD (IntKind.i64.wrap (at1 + 1)).toNat 0).toNat : Int)
bif (v_41 == 39) then
(lex_blob k s0 (IntKind.i64.wrap (at1 + 2))).bind fun r_42 =>
some ((⟨4, r_42.1, 0⟩ : S126), r_42.2.1, r_42.2.2)
else
lex_token_j3 k (fun s0_43 at1_44 t4_45 =>
(lex_span_f131 k s0_43 at1_44).bind fun r_46 =>
chk (0 ≤ at1_44 ∧ at1_44 ≤ r_46 ∧ r_46 ≤ (s0_43.size : Int)) <|
(lex_Small k (s0_43.extract at1_44.toNat r_46.toNat)).bind fun r_47 =>
some ((⟨1, r_47, 0⟩ : S126), r_46, true)) (fun s0_48 at1_49 t4_50 =>
(lex_span_f128 k s0_48 at1_49).bind fun r_51 =>
chk (0 ≤ at1_49 ∧ at1_49 ≤ r_51 ∧ r_51 ≤ (s0_48.size : Int)) <|
(lex_integer k (s0_48.extract at1_49.toNat r_51.toNat)).bind fun r_52 =>
some ((⟨2, t4_50.f1, r_52.1⟩ : S126), r_51, r_52.2)) (fun s0_53 at1_54 t4_55 =>
(lex_quoted k s0_53 (IntKind.i64.wrap (at1_54 + 1))).bind fun r_56 =>
some ((⟨3, r_56.1, t4_55.f2⟩ : S126), r_56.2.1, r_56.2.2)) (fun end5_57 ok6_58 t4_59 =>
some (t4_59, end5_57, ok6_58)) s0 at1 ((s0.data.toList.getD at1.toNat 0).toNat : Int) (⟨0, ByteArray.empty, 0⟩ : S126)
else
lex_token_j3 k (fun s0_60 at1_61 t4_62 =>
(lex_span_f131 k s0_60 at1_61).bind fun r_63 =>
chk (0 ≤ at1_61 ∧ at1_61 ≤ r_63 ∧ r_63 ≤ (s0_60.size : Int)) <|
(lex_Small k (s0_60.extract at1_61.toNat r_63.toNat)).bind fun r_64 =>
some ((⟨1, r_64, 0⟩ : S126), r_63, true)) (fun s0_65 at1_66 t4_67 =>
(lex_span_f128 k s0_65 at1_66).bind fun r_68 =>
chk (0 ≤ at1_66 ∧ at1_66 ≤ r_68 ∧ r_68 ≤ (s0_65.size : Int)) <|
(lex_integer k (s0_65.extract at1_66.toNat r_68.toNat)).bind fun r_69 =>
some ((⟨2, t4_67.f1, r_69.1⟩ : S126), r_68, r_69.2)) (fun s0_70 at1_71 t4_72 =>
(lex_quoted k s0_70 (IntKind.i64.wrap (at1_71 + 1))).bind fun r_73 =>
some ((⟨3, r_73.1, t4_72.f2⟩ : S126), r_73.2.1, r_73.2.2)) (fun end5_74 ok6_75 t4_76 =>
some (t4_76, end5_74, ok6_75)) s0 at1 ((s0.data.toList.getD at1.toNat 0).toNat : Int) (⟨0, ByteArray.empty, 0⟩ : S126)
else
lex_token_j3 k (fun s0_77 at1_78 t4_79 =>
(lex_span_f131 k s0_77 at1_78).bind fun r_80 =>
chk (0 ≤ at1_78 ∧ at1_78 ≤ r_80 ∧ r_80 ≤ (s0_77.size : Int)) <|
(lex_Small k (s0_77.extract at1_78.toNat r_80.toNat)).bind fun r_81 =>
some ((⟨1, r_81, 0⟩ : S126), r_80, true)) (fun s0_82 at1_83 t4_84 =>
(lex_span_f128 k s0_82 at1_83).bind fun r_85 =>
chk (0 ≤ at1_83 ∧ at1_83 ≤ r_85 ∧ r_85 ≤ (s0_82.size : Int)) <|
(lex_integer k (s0_82.extract at1_83.toNat r_85.toNat)).bind fun r_86 =>
some ((⟨2, t4_84.f1, r_86.1⟩ : S126), r_85, r_86.2)) (fun s0_87 at1_88 t4_89 =>
(lex_quoted k s0_87 (IntKind.i64.wrap (at1_88 + 1))).bind fun r_90 =>
some ((⟨3, r_90.1, t4_89.f2⟩ : S126), r_90.2.1, r_90.2.2)) (fun end5_91 ok6_92 t4_93 =>
some (t4_93, end5_91, ok6_92)) s0 at1 ((s0.data.toList.getD at1.toNat 0).toNat : Int) (⟨0, ByteArray.empty, 0⟩ : S126)

/-- cadastre/lex.long -/
noncomputable def lex_long (k : Nat) (t0 : S126) : Option Bool :=
bif (t0.f0 == 1) then
some (decide ((t0.f1.size : Int) > 32))
else
some (big (decide ((t0.f1.size : Int) > 4096)))

noncomputable def lex_Tokens_l6_b {ρ : Type} (k : Nat) (kret : List S126 → Int → Option ρ) (kexit0 : List S126 → Int → Option ρ) (rec : ByteArray → (List S126) → Int → Int → Option ρ) (s0 : ByteArray) (l4 : List S126) (e5 : Int) (at6 : Int) : Option ρ :=
bif (decide (at6 < (s0.size : Int))) then
(lex_token k s0 at6).bind fun r_2 =>
bif (!r_2.2.2) then
kret [] 1
else
(lex_long k r_2.1).bind fun r_3 =>
bif r_3 then
chk ((l4.length + [r_2.1].length) * 32 ≤ 140737488355328) <|
(lex_skip k s0 r_2.2.1).bind fun r_4 =>
rec s0 (l4 ++ [r_2.1]) 7 r_4
else
chk ((l4.length + [r_2.1].length) * 32 ≤ 140737488355328) <|
(lex_skip k s0 r_2.2.1).bind fun r_5 =>
rec s0 (l4 ++ [r_2.1]) e5 r_5
else
kexit0 l4 e5
noncomputable def lex_Tokens_l6 {ρ : Type} (k : Nat) (kret : List S126 → Int → Option ρ) (kexit0 : List S126 → Int → Option ρ) : Nat → ByteArray → (List S126) → Int → Int → Option ρ
  | 0, _, _, _, _ => none
  | n + 1, s0, l4, e5, at6 => lex_Tokens_l6_b k kret kexit0 (lex_Tokens_l6 k kret kexit0 n) s0 l4 e5 at6

/-- cadastre/lex.Tokens -/
noncomputable def lex_Tokens (k : Nat) (s0 : ByteArray) : Option ((List S126) × Int) :=
bif (big (decide ((s0.size : Int) > 8192))) then
some ([], 7)
else
(lex_skip k s0 0).bind fun r_1 =>
lex_Tokens_l6 k (fun t2_6 t3_7 =>
some (t2_6, t3_7)) (fun l4_8 e5_9 =>
bif (e5_9 != 0) then
some ([], e5_9)
else
some (l4_8, 0)) k s0 [] 0 r_1

/-- cadastre/parse.Keys -/
noncomputable def parse_Keys (k : Nat) : Option (List ByteArray) :=
some [(⟨#[97, 110, 100]⟩ : ByteArray), (⟨#[97, 110, 121]⟩ : ByteArray), (⟨#[98, 101, 103, 105, 110]⟩ : ByteArray), (⟨#[98, 108, 111, 98]⟩ : ByteArray), (⟨#[98, 121]⟩ : ByteArray), (⟨#[99, 111, 109, 109, 105, 116]⟩ : ByteArray), (⟨#[99, 111, 117, 110, 116]⟩ : ByteArray), (⟨#[99, 114, 101, 97, 116, 101]⟩ : ByteArray), (⟨#[100, 101, 108, 101, 116, 101]⟩ : ByteArray), (⟨#[100, 101, 115, 99]⟩ : ByteArray), (⟨#[100, 114, 111, 112]⟩ : ByteArray), (⟨#[102, 114, 111, 109]⟩ : ByteArray), (⟨#[105, 110, 100, 101, 120]⟩ : ByteArray), (⟨#[105, 110, 115, 101, 114, 116]⟩ : ByteArray), (⟨#[105, 110, 116, 101, 103, 101, 114]⟩ : ByteArray), (⟨#[105, 110, 116, 111]⟩ : ByteArray), (⟨#[105, 115]⟩ : ByteArray), (⟨#[108, 101, 110, 103, 116, 104]⟩ : ByteArray), (⟨#[109, 97, 120]⟩ : ByteArray), (⟨#[109, 105, 110]⟩ : ByteArray), (⟨#[110, 111, 116]⟩ : ByteArray), (⟨#[110, 117, 108, 108]⟩ : ByteArray), (⟨#[111, 110]⟩ : ByteArray), (⟨#[111, 114]⟩ : ByteArray), (⟨#[111, 114, 100, 101, 114]⟩ : ByteArray), (⟨#[114, 111, 108, 108, 98, 97, 99, 107]⟩ : ByteArray), (⟨#[114, 116, 114, 101, 101]⟩ : ByteArray), (⟨#[115, 101, 108, 101, 99, 116]⟩ : ByteArray), (⟨#[115, 101, 116]⟩ : ByteArray), (⟨#[115, 117, 109]⟩ : ByteArray), (⟨#[116, 97, 98, 108, 101]⟩ : ByteArray), (⟨#[116, 101, 120, 116]⟩ : ByteArray), (⟨#[116, 121, 112, 101, 111, 102]⟩ : ByteArray), (⟨#[117, 110, 105, 113, 117, 101]⟩ : ByteArray), (⟨#[117, 112, 100, 97, 116, 101]⟩ : ByteArray), (⟨#[117, 115, 105, 110, 103]⟩ : ByteArray), (⟨#[118, 97, 108, 117, 101, 115]⟩ : ByteArray), (⟨#[118, 105, 114, 116, 117, 97, 108]⟩ : ByteArray), (⟨#[119, 104, 101, 114, 101]⟩ : ByteArray)]

/-- cmp.isNaN[string] -/
noncomputable def cmp_isNaN_string_ (k : Nat) (x0 : ByteArray) : Option Bool :=
some (!(x0.toList == x0.toList))

/-- cmp.Less[string] -/
noncomputable def cmp_Less_string_ (k : Nat) (x0 : ByteArray) (y1 : ByteArray) : Option Bool :=
(cmp_isNaN_string_ k x0).bind fun r_1 =>
bif r_1 then
(cmp_isNaN_string_ k y1).bind fun r_2 =>
bif (!r_2) then
some true
else
some (Go.Op.bytesLess x0.toList y1.toList)
else
some (Go.Op.bytesLess x0.toList y1.toList)

/-- slices.isNaN[string] -/
noncomputable def slices_isNaN_string_ (k : Nat) (x0 : ByteArray) : Option Bool :=
some (!(x0.toList == x0.toList))

noncomputable def slices_BinarySearch_string_string__l3_b {ρ : Type} (k : Nat) (kexit0 : List ByteArray → ByteArray → Int → Int → Option ρ) (rec : (List ByteArray) → ByteArray → Int → Int → Int → Option ρ) (x0 : List ByteArray) (target1 : ByteArray) (n6 : Int) (i7 : Int) (j8 : Int) : Option ρ :=
bif (decide (i7 < j8)) then
let v_1 : Int := (Int.fdiv (IntKind.u64.wrap (IntKind.i64.wrap (i7 + j8))) (2 ^ (min (1 : Int).toNat (IntKind.u64).bits)))
chk (0 ≤ (IntKind.i64.wrap v_1) ∧ (IntKind.i64.wrap v_1) < (x0.length : Int)) <|
(cmp_Less_string_ k (x0.getD (IntKind.i64.wrap v_1).toNat ByteArray.empty) target1).bind fun r_2 =>
bif r_2 then
rec x0 target1 n6 (IntKind.i64.wrap ((IntKind.i64.wrap v_1) + 1)) j8
else
rec x0 target1 n6 i7 (IntKind.i64.wrap v_1)
else
kexit0 x0 target1 n6 i7
noncomputable def slices_BinarySearch_string_string__l3 {ρ : Type} (k : Nat) (kexit0 : List ByteArray → ByteArray → Int → Int → Option ρ) : Nat → (List ByteArray) → ByteArray → Int → Int → Int → Option ρ
  | 0, _, _, _, _, _ => none
  | n + 1, x0, target1, n6, i7, j8 => slices_BinarySearch_string_string__l3_b k kexit0 (slices_BinarySearch_string_string__l3 k kexit0 n) x0 target1 n6 i7 j8

/-- slices.BinarySearch[[]string,string] -/
noncomputable def slices_BinarySearch_string_string_ (k : Nat) (x0 : List ByteArray) (target1 : ByteArray) : Option (Int × Bool) :=
slices_BinarySearch_string_string__l3 k (fun x0_3 target1_4 n6_5 i7_6 =>
bif (decide (i7_6 < n6_5)) then
chk (0 ≤ i7_6 ∧ i7_6 < (x0_3.length : Int)) <|
bif ((x0_3.getD i7_6.toNat ByteArray.empty).toList == target1_4.toList) then
some (i7_6, true)
else
chk (0 ≤ i7_6 ∧ i7_6 < (x0_3.length : Int)) <|
(slices_isNaN_string_ k (x0_3.getD i7_6.toNat ByteArray.empty)).bind fun r_7 =>
bif r_7 then
(slices_isNaN_string_ k target1_4).bind fun r_8 =>
some (i7_6, r_8)
else
some (i7_6, false)
else
some (i7_6, false)) k x0 target1 (x0.length : Int) 0 (x0.length : Int)

/-- cadastre/parse.Name -/
noncomputable def parse_Name (k : Nat) (s0 : ByteArray) : Option Bool :=
(parse_Keys k).bind fun r_1 =>
(slices_BinarySearch_string_string_ k r_1 s0).bind fun r_2 =>
some (!r_2.2)

/-- cadastre/print.Name -/
noncomputable def print_Name (k : Nat) (s0 : ByteArray) : Option Bool :=
(lex_Tokens k s0).bind fun r_1 =>
bif (r_1.2 == 0) then
bif ((r_1.1.length : Int) == 1) then
chk (0 ≤ (0 : Int) ∧ (0 : Int) < (r_1.1.length : Int)) <|
bif ((r_1.1.getD 0 default).f0 == 1) then
chk (0 ≤ (0 : Int) ∧ (0 : Int) < (r_1.1.length : Int)) <|
bif ((r_1.1.getD 0 default).f1.toList == s0.toList) then
(parse_Name k s0).bind fun r_2 =>
some r_2
else
some false
else
some false
else
some false
else
some false

/-- cadastre/print.one -/
noncomputable def print_one (k : Nat) (e0 : S25) : Option Bool :=
(print_args k e0.f0).bind fun r_1 =>
bif ((e0.f4.length : Int) != r_1) then
some false
else
bif (e0.f0 == 1) then
(print_literal k e0.f1).bind fun r_2 =>
bif r_2 then
bif (e0.f2.toList == ByteArray.empty.toList) then
some (e0.f3.toList == ByteArray.empty.toList)
else
some false
else
some false
else
bif (e0.f0 == 2) then
let v_3 : Bool := ((e0.f1.f0 == 0) && ((e0.f1.f1 == 0) && (e0.f1.f2 == ByteArray.empty)))
bif v_3 then
(print_Name k e0.f3).bind fun r_4 =>
bif r_4 then
bif (e0.f2.toList == ByteArray.empty.toList) then
some true
else
(print_Name k e0.f2).bind fun r_5 =>
some r_5
else
some false
else
some false
else
let v_6 : Bool := ((e0.f1.f0 == 0) && ((e0.f1.f1 == 0) && (e0.f1.f2 == ByteArray.empty)))
bif v_6 then
bif (e0.f2.toList == ByteArray.empty.toList) then
some (e0.f3.toList == ByteArray.empty.toList)
else
some false
else
some false

/-- what the functions that call each other answer -/
structure print_count_R where
  print_count : S25 → Int → Option Int
noncomputable def print_count_l5_b {ρ : Type} (k : Nat) (rc : print_count_R) (kret : Int → Option ρ) (kexit0 : Int → Option ρ) (rec : Int → Int → (List T25) → Int → Int → Option ρ) (high1 : Int) (n5 : Int) (t17 : List T25) (t18 : Int) (t19 : Int) : Option ρ :=
bif (decide (t19 < t18)) then
chk (0 ≤ t19 ∧ t19 < (t17.length : Int)) <|
(rc.print_count (t17.getD t19.toNat default).s (IntKind.i64.wrap (high1 - 1))).bind fun r_2 =>
bif (decide (r_2 < 0)) then
kret (-1)
else
rec high1 (IntKind.i64.wrap (n5 + r_2)) t17 t18 (IntKind.i64.wrap (t19 + 1))
else
kexit0 n5
noncomputable def print_count_l5 {ρ : Type} (k : Nat) (rc : print_count_R) (kret : Int → Option ρ) (kexit0 : Int → Option ρ) : Nat → Int → Int → (List T25) → Int → Int → Option ρ
  | 0, _, _, _, _, _ => none
  | n + 1, high1, n5, t17, t18, t19 => print_count_l5_b k rc kret kexit0 (print_count_l5 k rc kret kexit0 n) high1 n5 t17 t18 t19

noncomputable def print_count_j3 {ρ : Type} (k : Nat) (rc : print_count_R) (kret : Int → Option ρ) (high1 : Int) (e2 : S25) : Option ρ :=
print_count_l5 k rc kret kret k high1 1 e2.f4 (e2.f4.length : Int) 0

/-- cadastre/print.count -/
noncomputable def print_count_r (k : Nat) (rc : print_count_R) (e0 : S25) (high1 : Int) : Option Int :=
bif (high1 == 0) then
some (-1)
else
(print_one k e0).bind fun r_1 =>
bif (!r_1) then
some (-1)
else
print_count_j3 k rc (fun t4_5 =>
some t4_5) high1 e0
noncomputable def print_count_R_it (k : Nat) : Nat → print_count_R
  | 0 => ⟨fun _ _ => none⟩
  | d + 1 => ⟨print_count_r k (print_count_R_it k d)⟩
/-- cadastre/print.count -/
noncomputable def print_count (k : Nat) (e0 : S25) (high1 : Int) : Option Int := (print_count_R_it k k).print_count e0 high1

/-- cadastre/print.Good -/
noncomputable def print_Good (k : Nat) (e0 : S25) : Option Bool :=
(print_count k e0 20).bind fun r_1 =>
bif (decide (r_1 > 0)) then
some (decide (r_1 ≤ 200))
else
some false

/-- cadastre/eval.Good -/
noncomputable def eval_Good (k : Nat) (e0 : S25) (n1 : Int) : Option Bool :=
(bind_Low k e0 20).bind fun r_1 =>
bif r_1 then
(eval_places k e0 n1).bind fun r_2 =>
bif r_2 then
(bind_Plain k e0).bind fun r_3 =>
(print_Good k r_3).bind fun r_4 =>
some r_4
else
some false
else
some false

/-- cadastre/eval.may -/
noncomputable def eval_may (k : Nat) (e0 : S25) (row1 : List S23) : Option Bool :=
(value_All k row1).bind fun r_1 =>
bif r_1 then
(eval_Good k e0 (row1.length : Int)).bind fun r_2 =>
some r_2
else
some false

/-- cadastre/value.Int -/
noncomputable def value_Int (k : Nat) (n0 : Int) : Option S23 :=
some (⟨1, n0, ByteArray.empty⟩ : S23)

/-- cadastre/arith.Neg -/
noncomputable def arith_Neg (k : Nat) (v0 : S23) : Option (S23 × Int) :=
(value_Good k v0).bind fun r_1 =>
bif (!r_1) then
some ((⟨0, 0, ByteArray.empty⟩ : S23), 1)
else
bif (v0.f0 == 0) then
some (v0, 0)
else
bif (v0.f0 != 1) then
some ((⟨0, 0, ByteArray.empty⟩ : S23), 4)
else
bif (big (v0.f1 == (-9223372036854775808))) then
some ((⟨0, 0, ByteArray.empty⟩ : S23), 5)
else
(value_Int k (IntKind.i64.wrap (0 - v0.f1))).bind fun r_2 =>
some (r_2, 0)

/-- cadastre/logic.truth -/
noncomputable def logic_truth (k : Nat) (v0 : S23) : Option (Int × Int) :=
(value_Good k v0).bind fun r_1 =>
bif (!r_1) then
some (0, 1)
else
bif (v0.f0 == 0) then
some (1, 0)
else
bif (v0.f0 != 1) then
some (0, 4)
else
bif (v0.f1 == 0) then
some (0, 0)
else
some (2, 0)

/-- cadastre/logic.answer -/
noncomputable def logic_answer (k : Nat) (t0 : Int) : Option S23 :=
(value_Int k 0).bind fun r_1 =>
(value_Int k 1).bind fun r_2 =>
chk (0 ≤ t0 ∧ t0 < ([r_1, (⟨0, 0, ByteArray.empty⟩ : S23), r_2].length : Int)) <|
some ([r_1, (⟨0, 0, ByteArray.empty⟩ : S23), r_2].getD t0.toNat default)

/-- cadastre/logic.Not -/
noncomputable def logic_Not (k : Nat) (v0 : S23) : Option (S23 × Int) :=
(logic_truth k v0).bind fun r_1 =>
bif (r_1.2 != 0) then
some ((⟨0, 0, ByteArray.empty⟩ : S23), r_1.2)
else
(logic_answer k (IntKind.i64.wrap (2 - r_1.1))).bind fun r_2 =>
some (r_2, 0)

/-- strconv.FormatInt -/
noncomputable def strconv_FormatInt (_ : Nat) (c0 : Int) (c1 : Int) : Option ByteArray :=
chk (c1 = 10 ∧ big (decide (-9223372036854775808 ≤ c0 ∧ c0 ≤ 9223372036854775807)) = true) (some ⟨(Lib.itoa c0).toArray⟩)

/-- cadastre/value.Text -/
noncomputable def value_Text (k : Nat) (s0 : ByteArray) : Option S23 :=
some (⟨2, 0, s0⟩ : S23)

/-- cadastre/arith.Text -/
noncomputable def arith_Text (k : Nat) (v0 : S23) : Option (S23 × Int) :=
(value_Good k v0).bind fun r_1 =>
bif (!r_1) then
some ((⟨0, 0, ByteArray.empty⟩ : S23), 1)
else
bif (v0.f0 == 1) then
(strconv_FormatInt k v0.f1 10).bind fun r_2 =>
(value_Text k r_2).bind fun r_3 =>
some (r_3, 0)
else
some (v0, 0)

/-- cadastre/arith.Length -/
noncomputable def arith_Length (k : Nat) (v0 : S23) : Option (S23 × Int) :=
(arith_Text k v0).bind fun r_1 =>
bif (r_1.2 != 0) then
some ((⟨0, 0, ByteArray.empty⟩ : S23), r_1.2)
else
bif (r_1.1.f0 == 0) then
some ((⟨0, 0, ByteArray.empty⟩ : S23), r_1.2)
else
(value_Int k (r_1.1.f2.size : Int)).bind fun r_2 =>
some (r_2, 0)

/-- cadastre/arith.Typeof -/
noncomputable def arith_Typeof (k : Nat) (v0 : S23) : Option (S23 × Int) :=
(value_Good k v0).bind fun r_1 =>
bif (!r_1) then
some ((⟨0, 0, ByteArray.empty⟩ : S23), 1)
else
chk (0 ≤ v0.f0 ∧ v0.f0 < ([(⟨#[110, 117, 108, 108]⟩ : ByteArray), (⟨#[105, 110, 116, 101, 103, 101, 114]⟩ : ByteArray), (⟨#[116, 101, 120, 116]⟩ : ByteArray), (⟨#[98, 108, 111, 98]⟩ : ByteArray)].length : Int)) <|
let v_2 : ByteArray := ([(⟨#[110, 117, 108, 108]⟩ : ByteArray), (⟨#[105, 110, 116, 101, 103, 101, 114]⟩ : ByteArray), (⟨#[116, 101, 120, 116]⟩ : ByteArray), (⟨#[98, 108, 111, 98]⟩ : ByteArray)].getD v0.f0.toNat ByteArray.empty)
(value_Text k v_2).bind fun r_3 =>
some (r_3, 0)

/-- cadastre/logic.said -/
noncomputable def logic_said (k : Nat) (so0 : Bool) : Option S23 :=
bif so0 then
(logic_answer k 2).bind fun r_1 =>
some r_1
else
(logic_answer k 0).bind fun r_2 =>
some r_2

/-- cadastre/logic.Null -/
noncomputable def logic_Null (k : Nat) (op0 : Int) (v1 : S23) : Option (S23 × Int) :=
bif (op0 != 5) then
bif (op0 != 6) then
some ((⟨0, 0, ByteArray.empty⟩ : S23), 1)
else
(value_Good k v1).bind fun r_1 =>
bif (!r_1) then
some ((⟨0, 0, ByteArray.empty⟩ : S23), 1)
else
(logic_said k ((v1.f0 == 0) == (op0 == 5))).bind fun r_2 =>
some (r_2, 0)
else
(value_Good k v1).bind fun r_3 =>
bif (!r_3) then
some ((⟨0, 0, ByteArray.empty⟩ : S23), 1)
else
(logic_said k ((v1.f0 == 0) == (op0 == 5))).bind fun r_4 =>
some (r_4, 0)

/-- cadastre/eval.Un -/
noncomputable def eval_Un (k : Nat) (op0 : Int) (v1 : S23) : Option (S23 × Int) :=
bif (op0 == 3) then
(arith_Neg k v1).bind fun r_1 =>
some (r_1.1, r_1.2)
else
bif (op0 == 4) then
(logic_Not k v1).bind fun r_2 =>
some (r_2.1, r_2.2)
else
bif (op0 == 7) then
(arith_Length k v1).bind fun r_3 =>
some (r_3.1, r_3.2)
else
bif (op0 == 8) then
(arith_Typeof k v1).bind fun r_4 =>
some (r_4.1, r_4.2)
else
(logic_Null k op0 v1).bind fun r_5 =>
some (r_5.1, r_5.2)

noncomputable def arith_Concat_j5 {ρ : Type} (k : Nat) (kret : Int → S23 → Option ρ) (knxt : S23 → S23 → S23 → Option ρ) (a2 : S23) (b3 : S23) (t4 : S23) : Option ρ :=
bif (a2.f0 == 3) then
kret 4 (⟨0, 0, ByteArray.empty⟩ : S23)
else
bif (b3.f0 == 3) then
kret 4 (⟨0, 0, ByteArray.empty⟩ : S23)
else
knxt a2 b3 t4

noncomputable def arith_Concat_j7 {ρ : Type} (k : Nat) (kret : Int → S23 → Option ρ) (a2 : S23) (b3 : S23) (t4 : S23) : Option ρ :=
(arith_Text k a2).bind fun r_7 =>
(arith_Text k b3).bind fun r_8 =>
let v_9 : Bool := (big (decide ((IntKind.i64.wrap ((r_7.1.f2.size : Int) + (r_8.1.f2.size : Int))) > 4096)))
bif v_9 then
kret 7 (⟨0, 0, ByteArray.empty⟩ : S23)
else
chk (strFits r_7.1.f2 r_8.1.f2) <|
(value_Text k (cat r_7.1.f2 r_8.1.f2)).bind fun r_10 =>
kret 0 r_10

/-- cadastre/arith.Concat -/
noncomputable def arith_Concat (k : Nat) (a0 : S23) (b1 : S23) : Option (S23 × Int) :=
(value_All k [a0, b1]).bind fun r_1 =>
bif (!r_1) then
some ((⟨0, 0, ByteArray.empty⟩ : S23), 1)
else
bif (a0.f0 == 0) then
some ((⟨0, 0, ByteArray.empty⟩ : S23), 0)
else
bif (b1.f0 == 0) then
some ((⟨0, 0, ByteArray.empty⟩ : S23), 0)
else
arith_Concat_j5 k (fun t5_2 t4_3 =>
some (t4_3, t5_2)) (fun a2_4 b3_5 t4_6 =>
arith_Concat_j7 k (fun t5_11 t4_12 =>
some (t4_12, t5_11)) a2_4 b3_5 t4_6) a0 b1 (⟨0, 0, ByteArray.empty⟩ : S23)

noncomputable def arith_reckon_j18 {ρ : Type} (k : Nat) (kret : Int → Int → Option ρ) (n6 : Int) : Option ρ :=
kret n6 0

noncomputable def arith_reckon_j13 {ρ : Type} (k : Nat) (kgoto0 : Option ρ) (knxt : Int → Option ρ) (a1 : Int) (b2 : Int) : Option ρ :=
bif (a1 == (-1)) then
bif (big (b2 == (-9223372036854775808))) then
kgoto0
else
bif (b2 == (-1)) then
bif (big (a1 == (-9223372036854775808))) then
kgoto0
else
if b2 = 0 then none else
bif ((IntKind.i64.wrap (Int.tdiv (IntKind.i64.wrap (a1 * b2)) b2)) != a1) then
kgoto0
else
knxt (IntKind.i64.wrap (a1 * b2))
else
if b2 = 0 then none else
bif ((IntKind.i64.wrap (Int.tdiv (IntKind.i64.wrap (a1 * b2)) b2)) != a1) then
kgoto0
else
knxt (IntKind.i64.wrap (a1 * b2))
else
bif (b2 == (-1)) then
bif (big (a1 == (-9223372036854775808))) then
kgoto0
else
if b2 = 0 then none else
bif ((IntKind.i64.wrap (Int.tdiv (IntKind.i64.wrap (a1 * b2)) b2)) != a1) then
kgoto0
else
knxt (IntKind.i64.wrap (a1 * b2))
else
if b2 = 0 then none else
bif ((IntKind.i64.wrap (Int.tdiv (IntKind.i64.wrap (a1 * b2)) b2)) != a1) then
kgoto0
else
knxt (IntKind.i64.wrap (a1 * b2))

/-- cadastre/arith.reckon -/
noncomputable def arith_reckon (k : Nat) (op0 : Int) (a1 : Int) (b2 : Int) : Option (Int × Int) :=
bif (op0 == 12) then
bif (decide (b2 > 0)) then
bif (decide (a1 > (IntKind.i64.wrap (9223372036854775807 - b2)))) then
some (0, 5)
else
bif (decide (b2 < 0)) then
bif (decide (a1 < (IntKind.i64.wrap ((-9223372036854775808) - b2)))) then
some (0, 5)
else
arith_reckon_j18 k (fun n6_1 e7_2 =>
some (n6_1, e7_2)) (IntKind.i64.wrap (a1 + b2))
else
arith_reckon_j18 k (fun n6_3 e7_4 =>
some (n6_3, e7_4)) (IntKind.i64.wrap (a1 + b2))
else
bif (decide (b2 < 0)) then
bif (decide (a1 < (IntKind.i64.wrap ((-9223372036854775808) - b2)))) then
some (0, 5)
else
arith_reckon_j18 k (fun n6_5 e7_6 =>
some (n6_5, e7_6)) (IntKind.i64.wrap (a1 + b2))
else
arith_reckon_j18 k (fun n6_7 e7_8 =>
some (n6_7, e7_8)) (IntKind.i64.wrap (a1 + b2))
else
bif (op0 == 13) then
bif (decide (b2 < 0)) then
bif (decide (a1 > (IntKind.i64.wrap (9223372036854775807 + b2)))) then
some (0, 5)
else
bif (decide (b2 > 0)) then
bif (decide (a1 < (IntKind.i64.wrap ((-9223372036854775808) + b2)))) then
some (0, 5)
else
arith_reckon_j18 k (fun n6_9 e7_10 =>
some (n6_9, e7_10)) (IntKind.i64.wrap (a1 - b2))
else
arith_reckon_j18 k (fun n6_11 e7_12 =>
some (n6_11, e7_12)) (IntKind.i64.wrap (a1 - b2))
else
bif (decide (b2 > 0)) then
bif (decide (a1 < (IntKind.i64.wrap ((-9223372036854775808) + b2)))) then
some (0, 5)
else
arith_reckon_j18 k (fun n6_13 e7_14 =>
some (n6_13, e7_14)) (IntKind.i64.wrap (a1 - b2))
else
arith_reckon_j18 k (fun n6_15 e7_16 =>
some (n6_15, e7_16)) (IntKind.i64.wrap (a1 - b2))
else
bif (op0 == 9) then
bif (a1 == 0) then
some (0, 0)
else
bif (b2 == 0) then
some (0, 0)
else
arith_reckon_j13 k (some (0, 5)) (fun n6_17 =>
arith_reckon_j18 k (fun n6_18 e7_19 =>
some (n6_18, e7_19)) n6_17) a1 b2
else
bif (op0 == 10) then
bif (big (a1 == (-9223372036854775808))) then
bif (b2 == (-1)) then
some (0, 5)
else
if b2 = 0 then none else
arith_reckon_j18 k (fun n6_20 e7_21 =>
some (n6_20, e7_21)) (IntKind.i64.wrap (Int.tdiv a1 b2))
else
if b2 = 0 then none else
arith_reckon_j18 k (fun n6_22 e7_23 =>
some (n6_22, e7_23)) (IntKind.i64.wrap (Int.tdiv a1 b2))
else
bif (b2 != (-1)) then
if b2 = 0 then none else
arith_reckon_j18 k (fun n6_24 e7_25 =>
some (n6_24, e7_25)) (Int.tmod a1 b2)
else
arith_reckon_j18 k (fun n6_26 e7_27 =>
some (n6_26, e7_27)) 0

noncomputable def arith_Do_j7 {ρ : Type} (k : Nat) (kret : Int → S23 → Option ρ) (knxt : Int → S23 → S23 → S23 → Option ρ) (op0 : Int) (a4 : S23) (b5 : S23) (t6 : S23) : Option ρ :=
bif (op0 == 10) then
bif (b5.f1 == 0) then
kret 0 (⟨0, 0, ByteArray.empty⟩ : S23)
else
knxt op0 a4 b5 t6
else
bif (op0 == 11) then
bif (b5.f1 == 0) then
kret 0 (⟨0, 0, ByteArray.empty⟩ : S23)
else
knxt op0 a4 b5 t6
else
knxt op0 a4 b5 t6

noncomputable def arith_Do_j5 {ρ : Type} (k : Nat) (kret : Int → S23 → Option ρ) (knxt : Int → S23 → S23 → S23 → Option ρ) (op0 : Int) (a4 : S23) (b5 : S23) (t6 : S23) : Option ρ :=
bif (a4.f0 != 1) then
kret 4 (⟨0, 0, ByteArray.empty⟩ : S23)
else
bif (b5.f0 != 1) then
kret 4 (⟨0, 0, ByteArray.empty⟩ : S23)
else
arith_Do_j7 k kret knxt op0 a4 b5 t6

noncomputable def arith_Do_j3 {ρ : Type} (k : Nat) (kret : Int → S23 → Option ρ) (knxt : Int → S23 → S23 → S23 → Option ρ) (op0 : Int) (a4 : S23) (b5 : S23) (t6 : S23) : Option ρ :=
bif (a4.f0 == 0) then
kret 0 (⟨0, 0, ByteArray.empty⟩ : S23)
else
bif (b5.f0 == 0) then
kret 0 (⟨0, 0, ByteArray.empty⟩ : S23)
else
arith_Do_j5 k kret knxt op0 a4 b5 t6

noncomputable def arith_Do_j9 {ρ : Type} (k : Nat) (kret : Int → S23 → Option ρ) (op0 : Int) (a4 : S23) (b5 : S23) (t6 : S23) : Option ρ :=
(arith_reckon k op0 a4.f1 b5.f1).bind fun r_20 =>
bif (r_20.2 != 0) then
kret r_20.2 (⟨0, 0, ByteArray.empty⟩ : S23)
else
(value_Int k r_20.1).bind fun r_21 =>
kret 0 r_21

/-- cadastre/arith.Do -/
noncomputable def arith_Do (k : Nat) (op0 : Int) (a1 : S23) (b2 : S23) : Option (S23 × Int) :=
bif (decide (op0 < 9)) then
some ((⟨0, 0, ByteArray.empty⟩ : S23), 1)
else
bif (decide (op0 > 13)) then
some ((⟨0, 0, ByteArray.empty⟩ : S23), 1)
else
(value_All k [a1, b2]).bind fun r_1 =>
bif (!r_1) then
some ((⟨0, 0, ByteArray.empty⟩ : S23), 1)
else
arith_Do_j3 k (fun t7_14 t6_15 =>
some (t6_15, t7_14)) (fun op0_16 a4_17 b5_18 t6_19 =>
arith_Do_j9 k (fun t7_22 t6_23 =>
some (t6_23, t7_22)) op0_16 a4_17 b5_18 t6_19) op0 a1 b2 (⟨0, 0, ByteArray.empty⟩ : S23)

/-- cadastre/value.sign -/
noncomputable def value_sign (k : Nat) (a0 : Int) (b1 : Int) : Option Int :=
bif (decide (a0 < b1)) then
some (-1)
else
bif (decide (a0 > b1)) then
some 1
else
some 0

noncomputable def value_text_j3 {ρ : Type} (k : Nat) (kgoto0 : ByteArray → ByteArray → Int → Option ρ) (knxt : ByteArray → ByteArray → Int → Option ρ) (a0 : ByteArray) (b1 : ByteArray) (i5 : Int) : Option ρ :=
chk (0 ≤ i5 ∧ i5 < (a0.size : Int)) <|
chk (0 ≤ i5 ∧ i5 < (b1.size : Int)) <|
let v_1 : Bool := (((a0.data.toList.getD i5.toNat 0).toNat : Int) != ((b1.data.toList.getD i5.toNat 0).toNat : Int))
bif v_1 then
kgoto0 a0 b1 i5
else
knxt a0 b1 (IntKind.i64.wrap (i5 + 1))

noncomputable def value_text_l2_b {ρ : Type} (k : Nat) (kgoto0 : ByteArray → ByteArray → Int → Option ρ) (kexit0 : ByteArray → ByteArray → Option ρ) (rec : ByteArray → ByteArray → Int → Option ρ) (a0 : ByteArray) (b1 : ByteArray) (i5 : Int) : Option ρ :=
bif (decide (i5 < (a0.size : Int))) then
bif (decide (i5 < (b1.size : Int))) then
value_text_j3 k kgoto0 rec a0 b1 i5
else
kexit0 a0 b1
else
kexit0 a0 b1
noncomputable def value_text_l2 {ρ : Type} (k : Nat) (kgoto0 : ByteArray → ByteArray → Int → Option ρ) (kexit0 : ByteArray → ByteArray → Option ρ) : Nat → ByteArray → ByteArray → Int → Option ρ
  | 0, _, _, _ => none
  | n + 1, a0, b1, i5 => value_text_l2_b k kgoto0 kexit0 (value_text_l2 k kgoto0 kexit0 n) a0 b1 i5

/-- cadastre/value.text -/
noncomputable def value_text (k : Nat) (a0 : ByteArray) (b1 : ByteArray) : Option Int :=
value_text_l2 k (fun a0_8 b1_9 i5_10 =>
chk (0 ≤ i5_10 ∧ i5_10 < (a0_8.size : Int)) <|
chk (0 ≤ i5_10 ∧ i5_10 < (b1_9.size : Int)) <|
(value_sign k (IntKind.i64.wrap ((a0_8.data.toList.getD i5_10.toNat 0).toNat : Int)) (IntKind.i64.wrap ((b1_9.data.toList.getD i5_10.toNat 0).toNat : Int))).bind fun r_11 =>
some r_11) (fun a0_12 b1_13 =>
(value_sign k (a0_12.size : Int) (b1_13.size : Int)).bind fun r_14 =>
some r_14) k a0 b1 0

/-- cadastre/value.Order -/
noncomputable def value_Order (k : Nat) (a0 : S23) (b1 : S23) : Option Int :=
bif (a0.f0 != b1.f0) then
(value_sign k a0.f0 b1.f0).bind fun r_1 =>
some r_1
else
bif (a0.f0 == 1) then
(value_sign k a0.f1 b1.f1).bind fun r_2 =>
some r_2
else
(value_text k a0.f2 b1.f2).bind fun r_3 =>
some r_3

noncomputable def logic_Test_j5 {ρ : Type} (k : Nat) (kret : Int → S23 → Option ρ) (op0 : Int) (a4 : S23) (b5 : S23) (t6 : S23) : Option ρ :=
(value_Order k a4 b5).bind fun r_2 =>
bif (op0 == 15) then
(logic_said k (r_2 == 0)).bind fun r_3 =>
kret 0 r_3
else
bif (op0 == 16) then
(logic_said k (r_2 != 0)).bind fun r_4 =>
kret 0 r_4
else
bif (op0 == 17) then
(logic_said k (decide (r_2 < 0))).bind fun r_5 =>
kret 0 r_5
else
bif (op0 == 18) then
(logic_said k (decide (r_2 ≤ 0))).bind fun r_6 =>
kret 0 r_6
else
bif (op0 == 19) then
(logic_said k (decide (r_2 > 0))).bind fun r_7 =>
kret 0 r_7
else
(logic_said k (decide (r_2 ≥ 0))).bind fun r_8 =>
kret 0 r_8

noncomputable def logic_Test_j3 {ρ : Type} (k : Nat) (kret : Int → S23 → Option ρ) (op0 : Int) (a4 : S23) (b5 : S23) (t6 : S23) : Option ρ :=
bif (a4.f0 == 0) then
kret 0 (⟨0, 0, ByteArray.empty⟩ : S23)
else
bif (b5.f0 == 0) then
kret 0 (⟨0, 0, ByteArray.empty⟩ : S23)
else
logic_Test_j5 k kret op0 a4 b5 t6

/-- cadastre/logic.Test -/
noncomputable def logic_Test (k : Nat) (op0 : Int) (a1 : S23) (b2 : S23) : Option (S23 × Int) :=
bif (decide (op0 < 15)) then
some ((⟨0, 0, ByteArray.empty⟩ : S23), 1)
else
bif (decide (op0 > 20)) then
some ((⟨0, 0, ByteArray.empty⟩ : S23), 1)
else
(value_All k [a1, b2]).bind fun r_1 =>
bif (!r_1) then
some ((⟨0, 0, ByteArray.empty⟩ : S23), 1)
else
logic_Test_j3 k (fun t7_11 t6_12 =>
some (t6_12, t7_11)) op0 a1 b2 (⟨0, 0, ByteArray.empty⟩ : S23)

noncomputable def logic_Join_j3 {ρ : Type} (k : Nat) (kret : Int → S23 → Option ρ) (op0 : Int) (a4 : S23) (b5 : S23) (t6 : S23) : Option ρ :=
(logic_truth k a4).bind fun r_2 =>
bif (r_2.2 != 0) then
kret r_2.2 (⟨0, 0, ByteArray.empty⟩ : S23)
else
(logic_truth k b5).bind fun r_3 =>
bif (r_3.2 != 0) then
kret r_3.2 (⟨0, 0, ByteArray.empty⟩ : S23)
else
bif (op0 == 21) then
(logic_answer k (if r_3.1 < r_2.1 then r_3.1 else r_2.1)).bind fun r_4 =>
kret 0 r_4
else
(logic_answer k (if r_3.1 > r_2.1 then r_3.1 else r_2.1)).bind fun r_5 =>
kret 0 r_5

/-- cadastre/logic.Join -/
noncomputable def logic_Join (k : Nat) (op0 : Int) (a1 : S23) (b2 : S23) : Option (S23 × Int) :=
bif (op0 != 21) then
bif (op0 != 22) then
some ((⟨0, 0, ByteArray.empty⟩ : S23), 1)
else
(value_All k [a1, b2]).bind fun r_1 =>
bif (!r_1) then
some ((⟨0, 0, ByteArray.empty⟩ : S23), 1)
else
logic_Join_j3 k (fun t7_6 t6_7 =>
some (t6_7, t7_6)) op0 a1 b2 (⟨0, 0, ByteArray.empty⟩ : S23)
else
(value_All k [a1, b2]).bind fun r_8 =>
bif (!r_8) then
some ((⟨0, 0, ByteArray.empty⟩ : S23), 1)
else
logic_Join_j3 k (fun t7_9 t6_10 =>
some (t6_10, t7_9)) op0 a1 b2 (⟨0, 0, ByteArray.empty⟩ : S23)

/-- cadastre/eval.Bin -/
noncomputable def eval_Bin (k : Nat) (op0 : Int) (a1 : S23) (b2 : S23) : Option (S23 × Int) :=
bif (op0 == 14) then
(arith_Concat k a1 b2).bind fun r_1 =>
some (r_1.1, r_1.2)
else
bif (decide (op0 ≤ 13)) then
(arith_Do k op0 a1 b2).bind fun r_2 =>
some (r_2.1, r_2.2)
else
bif (decide (op0 ≤ 20)) then
(logic_Test k op0 a1 b2).bind fun r_3 =>
some (r_3.1, r_3.2)
else
(logic_Join k op0 a1 b2).bind fun r_4 =>
some (r_4.1, r_4.2)

/-- what the functions that call each other answer -/
structure eval_Value_R where
  eval_Value : S25 → (List S23) → Option (S23 × Int)
noncomputable def eval_Value_j9 {ρ : Type} (k : Nat) (rc : eval_Value_R) (kgoto0 : Int → S23 → Option ρ) (kgoto1 : List S23 → Int → S25 → S23 → List S23 → Option ρ) (kret : Int → S23 → Option ρ) (row1 : List S23) (i8 : Int) (e2 : S25) (t4 : S23) (l6_0 : List S23) : Option ρ :=
bif (decide (i8 < (e2.f4.length : Int))) then
chk (0 ≤ i8 ∧ i8 < (e2.f4.length : Int)) <|
(rc.eval_Value (e2.f4.getD i8.toNat default).s row1).bind fun r_1 =>
chk (0 ≤ i8 ∧ i8 < (2 : Int)) <|
chk (i8.toNat < 2) <|
chk (i8.toNat < l6_0.length) <|
bif (r_1.2 != 0) then
kgoto0 r_1.2 t4
else
kgoto1 row1 (IntKind.i64.wrap (i8 + 1)) e2 t4 (l6_0.set i8.toNat r_1.1)
else
bif ((e2.f4.length : Int) == 1) then
chk (0 ≤ (0 : Int) ∧ (0 : Int) < (2 : Int)) <|
chk ((0 : Int).toNat < 2) <|
(eval_Un k e2.f0 (l6_0.getD 0 default)).bind fun r_2 =>
kret r_2.2 r_2.1
else
chk (0 ≤ (0 : Int) ∧ (0 : Int) < (2 : Int)) <|
chk ((0 : Int).toNat < 2) <|
chk (0 ≤ (1 : Int) ∧ (1 : Int) < (2 : Int)) <|
chk ((1 : Int).toNat < 2) <|
(eval_Bin k e2.f0 (l6_0.getD 0 default) (l6_0.getD 1 default)).bind fun r_3 =>
kret r_3.2 r_3.1

noncomputable def eval_Value_g1_b {ρ : Type} (k : Nat) (rc : eval_Value_R) (kret : Int → S23 → Option ρ) (rec : (List S23) → Int → S25 → S23 → (List S23) → Option ρ) (row1 : List S23) (i8 : Int) (e2 : S25) (t4 : S23) (l6_0 : List S23) : Option ρ :=
eval_Value_j9 k rc (fun bad7_11 t4_12 =>
kret bad7_11 (⟨0, 0, ByteArray.empty⟩ : S23)) rec kret row1 i8 e2 t4 l6_0
noncomputable def eval_Value_g1 {ρ : Type} (k : Nat) (rc : eval_Value_R) (kret : Int → S23 → Option ρ) : Nat → (List S23) → Int → S25 → S23 → (List S23) → Option ρ
  | 0, _, _, _, _, _ => none
  | n + 1, row1, i8, e2, t4, l6_0 => eval_Value_g1_b k rc kret (eval_Value_g1 k rc kret n) row1 i8 e2 t4 l6_0

/-- cadastre/eval.Value -/
noncomputable def eval_Value_r (k : Nat) (rc : eval_Value_R) (e0 : S25) (row1 : List S23) : Option (S23 × Int) :=
bif (e0.f0 == 1) then
some (e0.f1, 0)
else
bif (e0.f0 == 2) then
chk (0 ≤ e0.f1.f1 ∧ e0.f1.f1 < (row1.length : Int)) <|
some ((row1.getD e0.f1.f1.toNat default), 0)
else
eval_Value_j9 k rc (fun bad7_4 t4_5 =>
some ((⟨0, 0, ByteArray.empty⟩ : S23), bad7_4)) (fun row1_6 i8_7 e2_8 t4_9 l6_10 =>
eval_Value_g1 k rc (fun t5_20 t4_21 =>
some (t4_21, t5_20)) k row1_6 i8_7 e2_8 t4_9 l6_10) (fun t5_22 t4_23 =>
some (t4_23, t5_22)) row1 0 e0 (⟨0, 0, ByteArray.empty⟩ : S23) (List.replicate 2 default)
noncomputable def eval_Value_R_it (k : Nat) : Nat → eval_Value_R
  | 0 => ⟨fun _ _ => none⟩
  | d + 1 => ⟨eval_Value_r k (eval_Value_R_it k d)⟩
/-- cadastre/eval.Value -/
noncomputable def eval_Value (k : Nat) (e0 : S25) (row1 : List S23) : Option (S23 × Int) := (eval_Value_R_it k k).eval_Value e0 row1

/-- cadastre/eval.Eval -/
noncomputable def eval_Eval (k : Nat) (e0 : S25) (row1 : List S23) : Option (S23 × Int) :=
(eval_may k e0 row1).bind fun r_1 =>
bif (!r_1) then
some ((⟨0, 0, ByteArray.empty⟩ : S23), 1)
else
(eval_Value k e0 row1).bind fun r_2 =>
some (r_2.1, r_2.2)

/-- cadastre/logic.True -/
noncomputable def logic_True (k : Nat) (v0 : S23) : Option (Bool × Int) :=
(logic_truth k v0).bind fun r_1 =>
bif (r_1.2 == 0) then
some ((r_1.1 == 2), r_1.2)
else
some (false, r_1.2)

/-- cadastre/eval.True -/
noncomputable def eval_True (k : Nat) (e0 : S25) (row1 : List S23) : Option Bool :=
(eval_Value k e0 row1).bind fun r_1 =>
bif (r_1.2 != 0) then
some false
else
(logic_True k r_1.1).bind fun r_2 =>
some r_2.1

/-- cadastre/eval.Lets -/
noncomputable def eval_Lets (k : Nat) (e0 : S25) (row1 : List S23) : Option (Bool × Int) :=
(eval_may k e0 row1).bind fun r_1 =>
bif (!r_1) then
some (false, 1)
else
(eval_True k e0 row1).bind fun r_2 =>
some (r_2, 0)

/-- cadastre/cadastrelaw23.num -/
noncomputable def cadastrelaw23_num (k : Nat) (e0 : Int) : Option Int :=
some e0

/-- cadastre/cadastrelaw23.wakes -/
noncomputable def cadastrelaw23_wakes (k : Nat) : Option Bool :=
(eval_Eval k (⟨12, (⟨0, 0, ByteArray.empty⟩ : S23), ByteArray.empty, ByteArray.empty, [(⟨1, (⟨1, 1, ByteArray.empty⟩ : S23), ByteArray.empty, ByteArray.empty, []⟩ : S25).t, (⟨1, (⟨1, 1, ByteArray.empty⟩ : S23), ByteArray.empty, ByteArray.empty, []⟩ : S25).t]⟩ : S25) []).bind fun r_1 =>
(cadastrelaw23_num k r_1.2).bind fun r_2 =>
bif (r_2 == 0) then
let v_3 : Bool := ((r_1.1.f0 == 1) && ((r_1.1.f1 == 2) && (r_1.1.f2 == ByteArray.empty)))
some v_3
else
some false

noncomputable def cadastrelaw23_EvalLets_j14 {ρ : Type} (k : Nat) (kret : Bool → Option ρ) (knxt : List S37 → Int → Option ρ) (l0 : List S37) (i3 : Int) (lets7 : Bool) (p4 : S37) : Option ρ :=
(eval_Lets k (⟨4, (⟨0, 0, ByteArray.empty⟩ : S23), ByteArray.empty, ByteArray.empty, [p4.f0.t]⟩ : S25) p4.f1).bind fun r_8 =>
(cadastrelaw23_num k r_8.2).bind fun r_9 =>
bif (r_9 == 0) then
bif lets7 then
bif r_8.1 then
kret false
else
knxt l0 i3
else
knxt l0 i3
else
knxt l0 i3

noncomputable def cadastrelaw23_EvalLets_j4 {ρ : Type} (k : Nat) (kret : Bool → Option ρ) (knxt : List S37 → Int → Option ρ) (l0 : List S37) (i3 : Int) : Option ρ :=
chk (0 ≤ i3 ∧ i3 < (l0.length : Int)) <|
(cadastrelaw23_Heavy k (l0.getD i3.toNat default)).bind fun r_1 =>
bif r_1 then
kret true
else
(eval_Eval k (l0.getD i3.toNat default).f0 (l0.getD i3.toNat default).f1).bind fun r_2 =>
(eval_Lets k (l0.getD i3.toNat default).f0 (l0.getD i3.toNat default).f1).bind fun r_3 =>
(cadastrelaw23_num k r_2.2).bind fun r_4 =>
bif (r_4 == 1) then
(cadastrelaw23_num k r_3.2).bind fun r_5 =>
bif (r_5 != 1) then
kret false
else
bif r_3.1 then
kret false
else
knxt l0 (IntKind.i64.wrap (i3 + 1))
else
(cadastrelaw23_num k r_3.2).bind fun r_6 =>
bif (r_6 != 0) then
kret false
else
(cadastrelaw23_num k r_2.2).bind fun r_7 =>
bif (r_7 == 0) then
bif (r_2.1.f0 == 1) then
bif (!(r_3.1 == (r_2.1.f1 != 0))) then
kret false
else
cadastrelaw23_EvalLets_j14 k kret (fun l0_11 i3_12 =>
knxt l0_11 (IntKind.i64.wrap (i3_12 + 1))) l0 i3 r_3.1 (l0.getD i3.toNat default)
else
bif (!(r_3.1 == false)) then
kret false
else
cadastrelaw23_EvalLets_j14 k kret (fun l0_14 i3_15 =>
knxt l0_14 (IntKind.i64.wrap (i3_15 + 1))) l0 i3 r_3.1 (l0.getD i3.toNat default)
else
bif (!(r_3.1 == false)) then
kret false
else
cadastrelaw23_EvalLets_j14 k kret (fun l0_17 i3_18 =>
knxt l0_17 (IntKind.i64.wrap (i3_18 + 1))) l0 i3 r_3.1 (l0.getD i3.toNat default)

noncomputable def cadastrelaw23_EvalLets_l2_b {ρ : Type} (k : Nat) (kret : Bool → Option ρ) (kexit0 : Option ρ) (rec : (List S37) → Int → Option ρ) (l0 : List S37) (i3 : Int) : Option ρ :=
bif (decide (i3 < (l0.length : Int))) then
bif (decide (i3 < 12)) then
cadastrelaw23_EvalLets_j4 k kret rec l0 i3
else
kexit0
else
kexit0
noncomputable def cadastrelaw23_EvalLets_l2 {ρ : Type} (k : Nat) (kret : Bool → Option ρ) (kexit0 : Option ρ) : Nat → (List S37) → Int → Option ρ
  | 0, _, _ => none
  | n + 1, l0, i3 => cadastrelaw23_EvalLets_l2_b k kret kexit0 (cadastrelaw23_EvalLets_l2 k kret kexit0 n) l0 i3

/-- cadastre/cadastrelaw23.EvalLets -/
noncomputable def cadastrelaw23_EvalLets (k : Nat) (l0 : List S37) : Option Bool :=
cadastrelaw23_EvalLets_l2 k (fun t2_22 =>
some t2_22) ((cadastrelaw23_wakes k).bind fun r_23 =>
some r_23) k l0 0
end Go.Proofs.YtnoeedkbadoogaaDoor.E
