/-
  The plain data's types, and that the program's types are so.
-/
import Derived.Test.YtekjibpkkgldgaaAxGen
import Derived.Test.YtekjibpkkgldgaaRF
import Derived.Test.YtekjibpkkgldgaaProg
namespace Go.Proofs.Ytekjibpkkgldgaa.R
open Go Go.AX
inductive UU where
  | s44 (x : S44)
  | s34 (x : S34)
  | l44 (x : List S44)
  | li_u8 (x : List Int)
  | a109 (x : List Int)
  | li_u64 (x : List Int)
  | l34 (x : List S34)
noncomputable def uview : UU → View UU
  | .s44 x => .segs [.int .i64 x.f0, .int .i64 x.f1, .str x.f2]
  | .s34 x => .segs [.typ (.l44 x.f0), .typ (.li_u8 x.f1)]
  | .l44 x => .sl x.length fun i => .typ (.s44 (x.getD i default))
  | .li_u8 x => .sl x.length fun i => .int .u8 (x.getD i 0)
  | .a109 x => .arr 5 fun i => .int .i64 (x.getD i 0)
  | .li_u64 x => .sl x.length fun i => .int .u64 (x.getD i 0)
  | .l34 x => .sl x.length fun i => .typ (.s34 (x.getD i default))
noncomputable def uwidth : UU → Nat
  | .a109 _ => 5
  | _ => 1
noncomputable def uesz : UU → Nat
  | .l44 _ => 3
  | .li_u8 _ => 1
  | .a109 _ => 1
  | .li_u64 _ => 1
  | .l34 _ => 2
  | _ => 1
noncomputable def unil : List (Nat × UU) := [(25, .li_u8 []), (31, .l34 []), (33, .l44 []), (100, .li_u64 [])]
noncomputable def of_l44 (v : PV UU) : Option S44 := match v with | .typ (.s44 n) => some n | _ => none
theorem of_l44_inv (v : PV UU) (x : S44) (h : of_l44 v = some x) : v = .typ (.s44 x) := by
  unfold of_l44 at h
  split at h
  · cases h; rfl
  · cases h
noncomputable def of_li_u8 (v : PV UU) : Option Int := match v with | .int k n => if k = .u8 then some n else none | _ => none
theorem of_li_u8_inv (v : PV UU) (x : Int) (h : of_li_u8 v = some x) : v = .int .u8 x := by
  unfold of_li_u8 at h
  split at h
  · split at h
    · rename_i e; subst e; cases h; rfl
    · cases h
  · cases h
noncomputable def of_li_u64 (v : PV UU) : Option Int := match v with | .int k n => if k = .u64 then some n else none | _ => none
theorem of_li_u64_inv (v : PV UU) (x : Int) (h : of_li_u64 v = some x) : v = .int .u64 x := by
  unfold of_li_u64 at h
  split at h
  · split at h
    · rename_i e; subst e; cases h; rfl
    · cases h
  · cases h
noncomputable def of_l34 (v : PV UU) : Option S34 := match v with | .typ (.s34 n) => some n | _ => none
theorem of_l34_inv (v : PV UU) (x : S34) (h : of_l34 v = some x) : v = .typ (.s34 x) := by
  unfold of_l34 at h
  split at h
  · cases h; rfl
  · cases h
noncomputable def ulit (t : TypeId) (es : List (PV UU)) : Option UU :=
  if t = 25 then (mapO of_li_u8 es).map .li_u8 else
  if t = 31 then (mapO of_l34 es).map .l34 else
  if t = 33 then (mapO of_l44 es).map .l44 else
  if t = 100 then (mapO of_li_u64 es).map .li_u64 else
  none
noncomputable def as_s44 {ρ : Type} (v : AV UU) (K : S44 → Option ρ) : Option ρ := asU v fun u => match u with | .s44 x => K x | _ => none
theorem as_s44_inv {ρ : Type} {v : AV UU} {K : S44 → Option ρ} {r : ρ} (h : as_s44 v K = some r) : ∃ x, v = .pv (.typ (.s44 x)) ∧ K x = some r := by
  replace h := asU_inv h
  obtain ⟨u, rfl, h⟩ := h
  split at h
  · exact ⟨_, rfl, h⟩
  · cases h
noncomputable def as_s34 {ρ : Type} (v : AV UU) (K : S34 → Option ρ) : Option ρ := asU v fun u => match u with | .s34 x => K x | _ => none
theorem as_s34_inv {ρ : Type} {v : AV UU} {K : S34 → Option ρ} {r : ρ} (h : as_s34 v K = some r) : ∃ x, v = .pv (.typ (.s34 x)) ∧ K x = some r := by
  replace h := asU_inv h
  obtain ⟨u, rfl, h⟩ := h
  split at h
  · exact ⟨_, rfl, h⟩
  · cases h
noncomputable def as_l44 {ρ : Type} (v : AV UU) (K : List S44 → Option ρ) : Option ρ := asU v fun u => match u with | .l44 x => K x | _ => none
theorem as_l44_inv {ρ : Type} {v : AV UU} {K : List S44 → Option ρ} {r : ρ} (h : as_l44 v K = some r) : ∃ x, v = .pv (.typ (.l44 x)) ∧ K x = some r := by
  replace h := asU_inv h
  obtain ⟨u, rfl, h⟩ := h
  split at h
  · exact ⟨_, rfl, h⟩
  · cases h
noncomputable def asO_l44 {ρ : Type} (v : AV UU) (K : List S44 → Option ρ) : Option ρ := asO v fun u => match u with | .l44 x => K x | _ => none
noncomputable def asOT_l44 {ρ : Type} (v : AV UU) (K : List S44 → List (PV UU) → Option ρ) : Option ρ := asOT v fun u q => match u with | .l44 x => K x q | _ => none
theorem asOT_l44_inv {ρ : Type} {v : AV UU} {K : List S44 → List (PV UU) → Option ρ} {r : ρ} (h : asOT_l44 v K = some r) : ∃ x q, v = .otup (some (.l44 x)) q ∧ K x q = some r := by
  replace h := asOT_inv h
  obtain ⟨u, q, rfl, h⟩ := h
  split at h
  · exact ⟨_, _, rfl, h⟩
  · cases h
theorem asO_l44_inv {ρ : Type} {v : AV UU} {K : List S44 → Option ρ} {r : ρ} (h : asO_l44 v K = some r) : ∃ x, v = .own (.l44 x) ∧ K x = some r := by
  replace h := asO_inv h
  obtain ⟨u, rfl, h⟩ := h
  split at h
  · exact ⟨_, rfl, h⟩
  · cases h
noncomputable def as_li_u8 {ρ : Type} (v : AV UU) (K : List Int → Option ρ) : Option ρ := asU v fun u => match u with | .li_u8 x => K x | _ => none
theorem as_li_u8_inv {ρ : Type} {v : AV UU} {K : List Int → Option ρ} {r : ρ} (h : as_li_u8 v K = some r) : ∃ x, v = .pv (.typ (.li_u8 x)) ∧ K x = some r := by
  replace h := asU_inv h
  obtain ⟨u, rfl, h⟩ := h
  split at h
  · exact ⟨_, rfl, h⟩
  · cases h
noncomputable def asO_li_u8 {ρ : Type} (v : AV UU) (K : List Int → Option ρ) : Option ρ := asO v fun u => match u with | .li_u8 x => K x | _ => none
noncomputable def asOT_li_u8 {ρ : Type} (v : AV UU) (K : List Int → List (PV UU) → Option ρ) : Option ρ := asOT v fun u q => match u with | .li_u8 x => K x q | _ => none
theorem asOT_li_u8_inv {ρ : Type} {v : AV UU} {K : List Int → List (PV UU) → Option ρ} {r : ρ} (h : asOT_li_u8 v K = some r) : ∃ x q, v = .otup (some (.li_u8 x)) q ∧ K x q = some r := by
  replace h := asOT_inv h
  obtain ⟨u, q, rfl, h⟩ := h
  split at h
  · exact ⟨_, _, rfl, h⟩
  · cases h
theorem asO_li_u8_inv {ρ : Type} {v : AV UU} {K : List Int → Option ρ} {r : ρ} (h : asO_li_u8 v K = some r) : ∃ x, v = .own (.li_u8 x) ∧ K x = some r := by
  replace h := asO_inv h
  obtain ⟨u, rfl, h⟩ := h
  split at h
  · exact ⟨_, rfl, h⟩
  · cases h
noncomputable def as_a109 {ρ : Type} (v : AV UU) (K : List Int → Option ρ) : Option ρ := asU v fun u => match u with | .a109 x => K x | _ => none
theorem as_a109_inv {ρ : Type} {v : AV UU} {K : List Int → Option ρ} {r : ρ} (h : as_a109 v K = some r) : ∃ x, v = .pv (.typ (.a109 x)) ∧ K x = some r := by
  replace h := asU_inv h
  obtain ⟨u, rfl, h⟩ := h
  split at h
  · exact ⟨_, rfl, h⟩
  · cases h
noncomputable def as_li_u64 {ρ : Type} (v : AV UU) (K : List Int → Option ρ) : Option ρ := asU v fun u => match u with | .li_u64 x => K x | _ => none
theorem as_li_u64_inv {ρ : Type} {v : AV UU} {K : List Int → Option ρ} {r : ρ} (h : as_li_u64 v K = some r) : ∃ x, v = .pv (.typ (.li_u64 x)) ∧ K x = some r := by
  replace h := asU_inv h
  obtain ⟨u, rfl, h⟩ := h
  split at h
  · exact ⟨_, rfl, h⟩
  · cases h
noncomputable def asO_li_u64 {ρ : Type} (v : AV UU) (K : List Int → Option ρ) : Option ρ := asO v fun u => match u with | .li_u64 x => K x | _ => none
noncomputable def asOT_li_u64 {ρ : Type} (v : AV UU) (K : List Int → List (PV UU) → Option ρ) : Option ρ := asOT v fun u q => match u with | .li_u64 x => K x q | _ => none
theorem asOT_li_u64_inv {ρ : Type} {v : AV UU} {K : List Int → List (PV UU) → Option ρ} {r : ρ} (h : asOT_li_u64 v K = some r) : ∃ x q, v = .otup (some (.li_u64 x)) q ∧ K x q = some r := by
  replace h := asOT_inv h
  obtain ⟨u, q, rfl, h⟩ := h
  split at h
  · exact ⟨_, _, rfl, h⟩
  · cases h
theorem asO_li_u64_inv {ρ : Type} {v : AV UU} {K : List Int → Option ρ} {r : ρ} (h : asO_li_u64 v K = some r) : ∃ x, v = .own (.li_u64 x) ∧ K x = some r := by
  replace h := asO_inv h
  obtain ⟨u, rfl, h⟩ := h
  split at h
  · exact ⟨_, rfl, h⟩
  · cases h
noncomputable def as_l34 {ρ : Type} (v : AV UU) (K : List S34 → Option ρ) : Option ρ := asU v fun u => match u with | .l34 x => K x | _ => none
theorem as_l34_inv {ρ : Type} {v : AV UU} {K : List S34 → Option ρ} {r : ρ} (h : as_l34 v K = some r) : ∃ x, v = .pv (.typ (.l34 x)) ∧ K x = some r := by
  replace h := asU_inv h
  obtain ⟨u, rfl, h⟩ := h
  split at h
  · exact ⟨_, rfl, h⟩
  · cases h
noncomputable def asO_l34 {ρ : Type} (v : AV UU) (K : List S34 → Option ρ) : Option ρ := asO v fun u => match u with | .l34 x => K x | _ => none
noncomputable def asOT_l34 {ρ : Type} (v : AV UU) (K : List S34 → List (PV UU) → Option ρ) : Option ρ := asOT v fun u q => match u with | .l34 x => K x q | _ => none
theorem asOT_l34_inv {ρ : Type} {v : AV UU} {K : List S34 → List (PV UU) → Option ρ} {r : ρ} (h : asOT_l34 v K = some r) : ∃ x q, v = .otup (some (.l34 x)) q ∧ K x q = some r := by
  replace h := asOT_inv h
  obtain ⟨u, q, rfl, h⟩ := h
  split at h
  · exact ⟨_, _, rfl, h⟩
  · cases h
theorem asO_l34_inv {ρ : Type} {v : AV UU} {K : List S34 → Option ρ} {r : ρ} (h : asO_l34 v K = some r) : ∃ x, v = .own (.l34 x) ∧ K x = some r := by
  replace h := asO_inv h
  obtain ⟨u, rfl, h⟩ := h
  split at h
  · exact ⟨_, rfl, h⟩
  · cases h
noncomputable def pack_44 (cs : List (PV UU)) : Option (PV UU) :=
popA cs fun v1 a2 =>
asI .i64 (.pv v1) fun z0 =>
popA a2 fun v3 a4 =>
asI .i64 (.pv v3) fun z1 =>
popA a4 fun v5 a6 =>
asS (.pv v5) fun z2 =>
popN a6 <|
some (.typ (.s44 (⟨z0, z1, z2⟩ : S44)))
noncomputable def pack_34 (cs : List (PV UU)) : Option (PV UU) :=
popA cs fun v1 a2 =>
as_l44 (.pv v1) fun z0 =>
popA a2 fun v3 a4 =>
as_li_u8 (.pv v3) fun z1 =>
popN a4 <|
some (.typ (.s34 (⟨z0, z1⟩ : S34)))
noncomputable def packa_109 (cs : List (PV UU)) : Option (PV UU) :=
popA cs fun v1 a2 =>
asI .i64 (.pv v1) fun z0 =>
popA a2 fun v3 a4 =>
asI .i64 (.pv v3) fun z1 =>
popA a4 fun v5 a6 =>
asI .i64 (.pv v5) fun z2 =>
popA a6 fun v7 a8 =>
asI .i64 (.pv v7) fun z3 =>
popA a8 fun v9 a10 =>
asI .i64 (.pv v9) fun z4 =>
popN a10 <|
some (.typ (.a109 [z0, z1, z2, z3, z4]))
noncomputable def pack_109 (cs : List (PV UU)) : Option (PV UU) := match cs with | [.typ (.a109 l)] => some (.typ (.a109 l)) | _ => packa_109 cs
theorem pack_44_inv {cs : List (PV UU)} {v : PV UU} (h : pack_44 cs = some v) : ∃ u, v = .typ u ∧ uview u = .segs cs := by
  unfold pack_44 at h
  replace h := popA_inv h; obtain ⟨v1, a2, rfl, h⟩ := h
  replace h := asI_inv h; obtain ⟨z0, e, h⟩ := h; cases e
  replace h := popA_inv h; obtain ⟨v3, a4, rfl, h⟩ := h
  replace h := asI_inv h; obtain ⟨z1, e, h⟩ := h; cases e
  replace h := popA_inv h; obtain ⟨v5, a6, rfl, h⟩ := h
  replace h := asS_inv h; obtain ⟨z2, e, h⟩ := h; cases e
  replace h := popN_inv h; obtain ⟨rfl, h⟩ := h
  cases h
  exact ⟨_, rfl, rfl⟩
theorem pack_34_inv {cs : List (PV UU)} {v : PV UU} (h : pack_34 cs = some v) : ∃ u, v = .typ u ∧ uview u = .segs cs := by
  unfold pack_34 at h
  replace h := popA_inv h; obtain ⟨v1, a2, rfl, h⟩ := h
  replace h := as_l44_inv h; obtain ⟨z0, e, h⟩ := h; cases e
  replace h := popA_inv h; obtain ⟨v3, a4, rfl, h⟩ := h
  replace h := as_li_u8_inv h; obtain ⟨z1, e, h⟩ := h; cases e
  replace h := popN_inv h; obtain ⟨rfl, h⟩ := h
  cases h
  exact ⟨_, rfl, rfl⟩
noncomputable def upack (t : TypeId) (cs : List (PV UU)) : Option (PV UU) :=
  if t = 34 then pack_34 cs else
  if t = 35 then pack_34 cs else
  if t = 44 then pack_44 cs else
  if t = 45 then pack_44 cs else
  if t = 109 then pack_109 cs else
  none
noncomputable def uapp : UU → UU → Option UU
  | .l44 a, .l44 b => some (.l44 (a ++ b))
  | .li_u8 a, .li_u8 b => some (.li_u8 (a ++ b))
  | .li_u64 a, .li_u64 b => some (.li_u64 (a ++ b))
  | .l34 a, .l34 b => some (.l34 (a ++ b))
  | _, _ => none
noncomputable def ucut : UU → Nat → Nat → Option UU
  | .l44 l, lo, hi => some (.l44 ((l.drop lo).take (hi - lo)))
  | .li_u8 l, lo, hi => some (.li_u8 ((l.drop lo).take (hi - lo)))
  | .li_u64 l, lo, hi => some (.li_u64 ((l.drop lo).take (hi - lo)))
  | .l34 l, lo, hi => some (.l34 ((l.drop lo).take (hi - lo)))
  | _, _, _ => none
noncomputable def uzr (t : TypeId) (n : Nat) : Option UU :=
  none
noncomputable def uset : UU → Nat → PV UU → Option UU
  | .l44 l, i, v => (of_l44 v).map fun x => .l44 (l.set i x)
  | .li_u8 l, i, v => (of_li_u8 v).map fun x => .li_u8 (l.set i x)
  | .li_u64 l, i, v => (of_li_u64 v).map fun x => .li_u64 (l.set i x)
  | .l34 l, i, v => (of_l34 v).map fun x => .l34 (l.set i x)
  | _, _, _ => none
noncomputable def uover : UU → Nat → Nat → UU → Option UU
  | .li_u8 l, lo, n, .li_u8 q => some (.li_u8 (overL l lo n q))
  | _, _, _, _ => none
noncomputable def uofs (s : ByteArray) : Option UU := some (.li_u8 (bytesOf s))
noncomputable def utos : UU → Option ByteArray
  | .li_u8 l => some (strOfNums l)
  | _ => none
noncomputable def utab : List (Nat × TI) := [(2, ⟨.int .i64, 1, 8⟩),
  (3, ⟨.int .i64, 1, 8⟩),
  (4, ⟨.bool, 1, 1⟩),
  (5, ⟨.int .u8, 1, 1⟩),
  (6, ⟨.int .u8, 1, 1⟩),
  (9, ⟨.str, 1, 16⟩),
  (10, ⟨.str, 1, 16⟩),
  (11, ⟨.str, 1, 16⟩),
  (12, ⟨.int .u64, 1, 8⟩),
  (21, ⟨.int .i32, 1, 4⟩),
  (25, ⟨.slice 5, 1, 24⟩),
  (31, ⟨.slice 35, 1, 24⟩),
  (33, ⟨.slice 45, 1, 24⟩),
  (34, ⟨.struct [(0, 33), (1, 25)], 2, 48⟩),
  (35, ⟨.struct [(0, 33), (1, 25)], 2, 48⟩),
  (36, ⟨.int .i64, 1, 8⟩),
  (44, ⟨.struct [(0, 3), (1, 2), (2, 9)], 3, 32⟩),
  (45, ⟨.struct [(0, 3), (1, 2), (2, 9)], 3, 32⟩),
  (79, ⟨.int .u64, 1, 8⟩),
  (85, ⟨.int .u64, 1, 8⟩),
  (100, ⟨.slice 79, 1, 24⟩),
  (107, ⟨.int .i8, 1, 1⟩),
  (108, ⟨.int .i16, 1, 2⟩),
  (109, ⟨.array 5 3, 5, 40⟩),
  (146, ⟨.int .u32, 1, 4⟩),
  (147, ⟨.int .u8, 1, 1⟩),
  (148, ⟨.int .u8, 1, 1⟩),
  (151, ⟨.int .i32, 1, 4⟩),
  (152, ⟨.int .i32, 1, 4⟩)]
noncomputable def uinv (D : Nat → Prop) (w : World) : Prop := True
noncomputable def uzeros : List (Nat × List (AV UU)) := [(2, [.pv (.int .i64 0)]),
  (3, [.pv (.int .i64 0)]),
  (4, [.pv (.bool false)]),
  (5, [.pv (.int .u8 0)]),
  (6, [.pv (.int .u8 0)]),
  (9, [.pv (.str ByteArray.empty)]),
  (10, [.pv (.str ByteArray.empty)]),
  (11, [.pv (.str ByteArray.empty)]),
  (12, [.pv (.int .u64 0)]),
  (21, [.pv (.int .i32 0)]),
  (25, [.pv (.typ (.li_u8 []))]),
  (31, [.pv (.typ (.l34 []))]),
  (33, [.pv (.typ (.l44 []))]),
  (34, [.pv (.typ (.l44 [])), .pv (.typ (.li_u8 []))]),
  (35, [.pv (.typ (.l44 [])), .pv (.typ (.li_u8 []))]),
  (36, [.pv (.int .i64 0)]),
  (44, [.pv (.int .i64 0), .pv (.int .i64 0), .pv (.str ByteArray.empty)]),
  (45, [.pv (.int .i64 0), .pv (.int .i64 0), .pv (.str ByteArray.empty)]),
  (79, [.pv (.int .u64 0)]),
  (85, [.pv (.int .u64 0)]),
  (100, [.pv (.typ (.li_u64 []))]),
  (107, [.pv (.int .i8 0)]),
  (108, [.pv (.int .i16 0)]),
  (109, [.pv (.int .i64 0), .pv (.int .i64 0), .pv (.int .i64 0), .pv (.int .i64 0), .pv (.int .i64 0)]),
  (146, [.pv (.int .u32 0)]),
  (147, [.pv (.int .u8 0)]),
  (148, [.pv (.int .u8 0)]),
  (151, [.pv (.int .i32 0)]),
  (152, [.pv (.int .i32 0)])]
noncomputable def UX : Univ where
  U := UU
  view := uview
  width := uwidth
  esz := uesz
  nil := assoc unil
  lit := ulit
  zeros := uzr
  pack := upack
  app := uapp
  appS _ _ := none
  cut := ucut
  set := uset
  over := uover
  ofStr := uofs
  toStr := utos
  ty := assoc utab
  inv := uinv
  zero := assoc uzeros
theorem packa_109_inv {cs : List (PV UX.U)} {v : PV UX.U} (h : packa_109 cs = some v) : ∃ u n get, v = .typ u ∧ UX.view u = .arr n get ∧ cs.length = n ∧ (∀ i (h : i < cs.length), cs[i] = get i ∧ PV.segW UX cs[i] = UX.esz u) ∧ UX.width u = n * UX.esz u := by
  unfold packa_109 at h
  replace h := popA_inv h; obtain ⟨v1, a2, rfl, h⟩ := h
  replace h := asI_inv h; obtain ⟨z0, e, h⟩ := h; cases e
  replace h := popA_inv h; obtain ⟨v3, a4, rfl, h⟩ := h
  replace h := asI_inv h; obtain ⟨z1, e, h⟩ := h; cases e
  replace h := popA_inv h; obtain ⟨v5, a6, rfl, h⟩ := h
  replace h := asI_inv h; obtain ⟨z2, e, h⟩ := h; cases e
  replace h := popA_inv h; obtain ⟨v7, a8, rfl, h⟩ := h
  replace h := asI_inv h; obtain ⟨z3, e, h⟩ := h; cases e
  replace h := popA_inv h; obtain ⟨v9, a10, rfl, h⟩ := h
  replace h := asI_inv h; obtain ⟨z4, e, h⟩ := h; cases e
  replace h := popN_inv h; obtain ⟨rfl, h⟩ := h
  cases h
  exact ⟨.a109 [z0, z1, z2, z3, z4], 5, fun i => .int .i64 ([z0, z1, z2, z3, z4].getD i 0), rfl, rfl, rfl, pack_arr (X := UX) (e := 1) 5 rfl (⟨⟨rfl, rfl⟩, ⟨rfl, rfl⟩, ⟨rfl, rfl⟩, ⟨rfl, rfl⟩, ⟨rfl, rfl⟩, trivial⟩), rfl⟩
theorem pack_109_c {cs : List (PV UU)} {v : PV UU} (h : pack_109 cs = some v) : (∃ l, cs = [.typ (.a109 l)] ∧ v = .typ (.a109 l)) ∨ packa_109 cs = some v := by
  unfold pack_109 at h
  split at h
  · cases h; exact .inl ⟨_, rfl, rfl⟩
  · exact .inr h
theorem pack_109_inv {cs : List (PV UX.U)} {v : PV UX.U} (h : pack_109 cs = some v) : (∃ u n get, v = .typ u ∧ UX.view u = .arr n get ∧ cs.length = n ∧ (∀ i (h : i < cs.length), cs[i] = get i ∧ PV.segW UX cs[i] = UX.esz u) ∧ UX.width u = n * UX.esz u) ∨ ∃ u n get, v = .typ u ∧ UX.view u = .arr n get ∧ cs = [v] := by
  rcases pack_109_c h with ⟨l, rfl, rfl⟩ | h
  · exact .inr ⟨_, _, _, rfl, rfl, rfl⟩
  · exact .inl (packa_109_inv h)
theorem xok : XOK UX where
  wpos u := by cases u <;> exact of_decide_eq_true (by kernel_rfl)
  nil t u h := nilB_of (view := uview) (by kernel_rfl) h
  pack t cs v h := by
    change upack t cs = some v at h
    unfold upack at h
    split at h
    · exact .inl ( pack_34_inv h)
    split at h
    · exact .inl ( pack_34_inv h)
    split at h
    · exact .inl ( pack_44_inv h)
    split at h
    · exact .inl ( pack_44_inv h)
    split at h
    · exact .inr ( pack_109_inv h)
    cases h
  lit t es u h := by
    change ulit t es = some u at h
    unfold ulit at h
    split at h
    · exact lit_case (view := uview) (g := fun n => .int .u8 n) (0 : Int) of_li_u8_inv (fun _ => rfl) h
    split at h
    · exact lit_case (view := uview) (g := fun n => .typ (.s34 n)) default of_l34_inv (fun _ => rfl) h
    split at h
    · exact lit_case (view := uview) (g := fun n => .typ (.s44 n)) default of_l44_inv (fun _ => rfl) h
    split at h
    · exact lit_case (view := uview) (g := fun n => .int .u64 n) (0 : Int) of_li_u64_inv (fun _ => rfl) h
    cases h
  cut u lo hi u' n get h hv h1 h2 := by
    change ucut u lo hi = some u' at h
    change uview u = .sl n get at hv
    cases u with
    | l44 l => change some (UU.l44 _) = some u' at h; cases h; exact ⟨rfl, cut_case (view := uview) (C := .l44) (g := fun n => .typ (.s44 n)) default (fun _ => rfl) hv h1 h2⟩
    | li_u8 l => change some (UU.li_u8 _) = some u' at h; cases h; exact ⟨rfl, cut_case (view := uview) (C := .li_u8) (g := fun n => .int .u8 n) (0 : Int) (fun _ => rfl) hv h1 h2⟩
    | li_u64 l => change some (UU.li_u64 _) = some u' at h; cases h; exact ⟨rfl, cut_case (view := uview) (C := .li_u64) (g := fun n => .int .u64 n) (0 : Int) (fun _ => rfl) hv h1 h2⟩
    | l34 l => change some (UU.l34 _) = some u' at h; cases h; exact ⟨rfl, cut_case (view := uview) (C := .l34) (g := fun n => .typ (.s34 n)) default (fun _ => rfl) hv h1 h2⟩
    | _ => (change (none : Option UU) = some _ at h; cases h)
  app u v z n get k get' h hv hv' := by
    change uapp u v = some z at h
    change uview u = .sl n get at hv
    change uview v = .sl k get' at hv'
    cases u with
    | l44 a => cases v with
      | l44 b => change some (UU.l44 _) = some z at h; cases h; exact ⟨rfl, rfl, app_case (view := uview) (C := .l44) (g := fun n => .typ (.s44 n)) default (fun _ => rfl) hv hv'⟩
      | _ => (change (none : Option UU) = some _ at h; cases h)
    | li_u8 a => cases v with
      | li_u8 b => change some (UU.li_u8 _) = some z at h; cases h; exact ⟨rfl, rfl, app_case (view := uview) (C := .li_u8) (g := fun n => .int .u8 n) (0 : Int) (fun _ => rfl) hv hv'⟩
      | _ => (change (none : Option UU) = some _ at h; cases h)
    | li_u64 a => cases v with
      | li_u64 b => change some (UU.li_u64 _) = some z at h; cases h; exact ⟨rfl, rfl, app_case (view := uview) (C := .li_u64) (g := fun n => .int .u64 n) (0 : Int) (fun _ => rfl) hv hv'⟩
      | _ => (change (none : Option UU) = some _ at h; cases h)
    | l34 a => cases v with
      | l34 b => change some (UU.l34 _) = some z at h; cases h; exact ⟨rfl, rfl, app_case (view := uview) (C := .l34) (g := fun n => .typ (.s34 n)) default (fun _ => rfl) hv hv'⟩
      | _ => (change (none : Option UU) = some _ at h; cases h)
    | _ => cases v <;> (change (none : Option UU) = some _ at h; cases h)
  set u i v u' n get h hv hi := by
    change uset u i v = some u' at h
    change uview u = .sl n get at hv
    cases u with
    | l44 l => obtain ⟨x, hx, h⟩ := Option.map_eq_some_iff.1 h; subst h; exact ⟨rfl, set_case (view := uview) (C := .l44) (g := fun n => .typ (.s44 n)) default (fun _ => rfl) (of_l44_inv v x hx) hv hi⟩
    | li_u8 l => obtain ⟨x, hx, h⟩ := Option.map_eq_some_iff.1 h; subst h; exact ⟨rfl, set_case (view := uview) (C := .li_u8) (g := fun n => .int .u8 n) (0 : Int) (fun _ => rfl) (of_li_u8_inv v x hx) hv hi⟩
    | li_u64 l => obtain ⟨x, hx, h⟩ := Option.map_eq_some_iff.1 h; subst h; exact ⟨rfl, set_case (view := uview) (C := .li_u64) (g := fun n => .int .u64 n) (0 : Int) (fun _ => rfl) (of_li_u64_inv v x hx) hv hi⟩
    | l34 l => obtain ⟨x, hx, h⟩ := Option.map_eq_some_iff.1 h; subst h; exact ⟨rfl, set_case (view := uview) (C := .l34) (g := fun n => .typ (.s34 n)) default (fun _ => rfl) (of_l34_inv v x hx) hv hi⟩
    | _ => (change (none : Option UU) = some _ at h; cases h)
  over u lo n v u' N get k get2 h hv hv2 h1 h2 := by
    change uover u lo n v = some u' at h
    change uview u = .sl N get at hv
    change uview v = .sl k get2 at hv2
    cases u with
    | li_u8 a => cases v with
      | li_u8 b => change some (UU.li_u8 _) = some u' at h; cases h; exact ⟨rfl, over_case (view := uview) (C := .li_u8) (g := fun n => .int .u8 n) (0 : Int) (fun _ => rfl) hv hv2 h1 h2⟩
      | _ => (change (none : Option UU) = some _ at h; cases h)
    | _ => (change (none : Option UU) = some _ at h; cases h)
  zeros t n u h := by
    change uzr t n = some u at h
    unfold uzr at h
    cases h
  ofStr s u h := by
    change uofs s = some u at h
    cases h
    exact ⟨rfl, ofs_case (view := uview) (C := .li_u8) fun _ => rfl⟩
  inv D D' w w' h h1 h2 h3 := trivial
  toStr u s h := by
    change utos u = some s at h
    cases u with
    | li_u8 l => cases h; exact ⟨rfl, _, l, rfl, fun _ _ => rfl, rfl⟩
    | _ => (change (none : Option ByteArray) = some _ at h; cases h)
theorem tok : TOK Try.prog UX := tok_of rfl rfl (by kernel_rfl)end Go.Proofs.Ytekjibpkkgldgaa.R
