/-
  The plain data's types, and that the program's types are so.
-/
import Derived.Test.YtdfmfpbdggefpaaDoorAxGen
import Derived.Test.YtdfmfpbdggefpaaDoorDF
import Derived.Test.YtdfmfpbdggefpaaDoorProg
import Derived.Test.YtdfmfpbdggefpaaDoorAxTab
namespace Go.Proofs.YtdfmfpbdggefpaaDoor.D
open Go Go.AX
inductive UU where
  | s23 (x : S23)
  | s25 (x : S25)
  | s45 (x : S45)
  | li_u8 (x : List Int)
  | l25 (x : List S25)
  | l23 (x : List S23)
  | l45 (x : List S45)
  | ls (x : List ByteArray)
noncomputable def uview : UU → View UU
  | .s23 x => .segs [.int .i64 x.f0, .int .i64 x.f1, .str x.f2]
  | .s25 x => .segs [.str x.f0, .int .i64 x.f1.f0, .int .i64 x.f1.f1, .str x.f1.f2, .int .i64 x.f2]
  | .s45 x => .segs [.int .i64 x.f0.f0, .int .i64 x.f0.f1, .str x.f0.f2, .int .i64 x.f1.f0, .int .i64 x.f1.f1, .str x.f1.f2, .int .i64 x.f2]
  | .li_u8 x => .sl x.length fun i => .int .u8 (x.getD i 0)
  | .l25 x => .sl x.length fun i => .typ (.s25 (x.getD i default))
  | .l23 x => .sl x.length fun i => .typ (.s23 (x.getD i default))
  | .l45 x => .sl x.length fun i => .typ (.s45 (x.getD i default))
  | .ls x => .sl x.length fun i => .str (x.getD i ByteArray.empty)
noncomputable def uwidth : UU → Nat
  | _ => 1
noncomputable def uesz : UU → Nat
  | .li_u8 _ => 1
  | .l25 _ => 5
  | .l23 _ => 3
  | .l45 _ => 7
  | .ls _ => 1
  | _ => 1
noncomputable def unil : List (Nat × UU) := [(22, .l25 []), (44, .l45 []), (60, .ls []), (63, .l23 []), (65, .li_u8 [])]
noncomputable def of_li_u8 (v : PV UU) : Option Int := match v with | .int k n => if k = .u8 then some n else none | _ => none
theorem of_li_u8_inv (v : PV UU) (x : Int) (h : of_li_u8 v = some x) : v = .int .u8 x := by
  unfold of_li_u8 at h
  split at h
  · split at h
    · rename_i e; subst e; cases h; rfl
    · cases h
  · cases h
noncomputable def of_l25 (v : PV UU) : Option S25 := match v with | .typ (.s25 n) => some n | _ => none
theorem of_l25_inv (v : PV UU) (x : S25) (h : of_l25 v = some x) : v = .typ (.s25 x) := by
  unfold of_l25 at h
  split at h
  · cases h; rfl
  · cases h
noncomputable def of_l23 (v : PV UU) : Option S23 := match v with | .typ (.s23 n) => some n | _ => none
theorem of_l23_inv (v : PV UU) (x : S23) (h : of_l23 v = some x) : v = .typ (.s23 x) := by
  unfold of_l23 at h
  split at h
  · cases h; rfl
  · cases h
noncomputable def of_l45 (v : PV UU) : Option S45 := match v with | .typ (.s45 n) => some n | _ => none
theorem of_l45_inv (v : PV UU) (x : S45) (h : of_l45 v = some x) : v = .typ (.s45 x) := by
  unfold of_l45 at h
  split at h
  · cases h; rfl
  · cases h
noncomputable def of_ls (v : PV UU) : Option ByteArray := match v with | .str n => some n | _ => none
theorem of_ls_inv (v : PV UU) (x : ByteArray) (h : of_ls v = some x) : v = .str x := by
  unfold of_ls at h
  split at h
  · cases h; rfl
  · cases h
noncomputable def ulit (t : TypeId) (es : List (PV UU)) : Option UU :=
  if t = 22 then (mapO of_l25 es).map .l25 else
  if t = 44 then (mapO of_l45 es).map .l45 else
  if t = 60 then (mapO of_ls es).map .ls else
  if t = 63 then (mapO of_l23 es).map .l23 else
  if t = 65 then (mapO of_li_u8 es).map .li_u8 else
  none
noncomputable def as_s23 {ρ : Type} (v : AV UU) (K : S23 → Option ρ) : Option ρ := asU v fun u => match u with | .s23 x => K x | _ => none
theorem as_s23_inv {ρ : Type} {v : AV UU} {K : S23 → Option ρ} {r : ρ} (h : as_s23 v K = some r) : ∃ x, v = .pv (.typ (.s23 x)) ∧ K x = some r := by
  replace h := asU_inv h
  obtain ⟨u, rfl, h⟩ := h
  split at h
  · exact ⟨_, rfl, h⟩
  · cases h
noncomputable def as_s25 {ρ : Type} (v : AV UU) (K : S25 → Option ρ) : Option ρ := asU v fun u => match u with | .s25 x => K x | _ => none
theorem as_s25_inv {ρ : Type} {v : AV UU} {K : S25 → Option ρ} {r : ρ} (h : as_s25 v K = some r) : ∃ x, v = .pv (.typ (.s25 x)) ∧ K x = some r := by
  replace h := asU_inv h
  obtain ⟨u, rfl, h⟩ := h
  split at h
  · exact ⟨_, rfl, h⟩
  · cases h
noncomputable def as_s45 {ρ : Type} (v : AV UU) (K : S45 → Option ρ) : Option ρ := asU v fun u => match u with | .s45 x => K x | _ => none
theorem as_s45_inv {ρ : Type} {v : AV UU} {K : S45 → Option ρ} {r : ρ} (h : as_s45 v K = some r) : ∃ x, v = .pv (.typ (.s45 x)) ∧ K x = some r := by
  replace h := asU_inv h
  obtain ⟨u, rfl, h⟩ := h
  split at h
  · exact ⟨_, rfl, h⟩
  · cases h
noncomputable def as_li_u8 {ρ : Type} (v : AV UU) (K : List Int → Option ρ) : Option ρ := asU v fun u => match u with | .li_u8 x => K x | _ => none
theorem as_li_u8_inv {ρ : Type} {v : AV UU} {K : List Int → Option ρ} {r : ρ} (h : as_li_u8 v K = some r) : ∃ x, v = .pv (.typ (.li_u8 x)) ∧ K x = some r := by
  replace h := asU_inv h
  obtain ⟨u, rfl, h⟩ := h
  split at h
  · exact ⟨_, rfl, h⟩
  · cases h
noncomputable def asO_li_u8 {ρ : Type} (v : AV UU) (K : List Int → Option ρ) : Option ρ := asO v fun u => match u with | .li_u8 x => K x | _ => none
theorem asO_li_u8_inv {ρ : Type} {v : AV UU} {K : List Int → Option ρ} {r : ρ} (h : asO_li_u8 v K = some r) : ∃ x, v = .own (.li_u8 x) ∧ K x = some r := by
  replace h := asO_inv h
  obtain ⟨u, rfl, h⟩ := h
  split at h
  · exact ⟨_, rfl, h⟩
  · cases h
noncomputable def as_l25 {ρ : Type} (v : AV UU) (K : List S25 → Option ρ) : Option ρ := asU v fun u => match u with | .l25 x => K x | _ => none
theorem as_l25_inv {ρ : Type} {v : AV UU} {K : List S25 → Option ρ} {r : ρ} (h : as_l25 v K = some r) : ∃ x, v = .pv (.typ (.l25 x)) ∧ K x = some r := by
  replace h := asU_inv h
  obtain ⟨u, rfl, h⟩ := h
  split at h
  · exact ⟨_, rfl, h⟩
  · cases h
noncomputable def asO_l25 {ρ : Type} (v : AV UU) (K : List S25 → Option ρ) : Option ρ := asO v fun u => match u with | .l25 x => K x | _ => none
theorem asO_l25_inv {ρ : Type} {v : AV UU} {K : List S25 → Option ρ} {r : ρ} (h : asO_l25 v K = some r) : ∃ x, v = .own (.l25 x) ∧ K x = some r := by
  replace h := asO_inv h
  obtain ⟨u, rfl, h⟩ := h
  split at h
  · exact ⟨_, rfl, h⟩
  · cases h
noncomputable def as_l23 {ρ : Type} (v : AV UU) (K : List S23 → Option ρ) : Option ρ := asU v fun u => match u with | .l23 x => K x | _ => none
theorem as_l23_inv {ρ : Type} {v : AV UU} {K : List S23 → Option ρ} {r : ρ} (h : as_l23 v K = some r) : ∃ x, v = .pv (.typ (.l23 x)) ∧ K x = some r := by
  replace h := asU_inv h
  obtain ⟨u, rfl, h⟩ := h
  split at h
  · exact ⟨_, rfl, h⟩
  · cases h
noncomputable def asO_l23 {ρ : Type} (v : AV UU) (K : List S23 → Option ρ) : Option ρ := asO v fun u => match u with | .l23 x => K x | _ => none
theorem asO_l23_inv {ρ : Type} {v : AV UU} {K : List S23 → Option ρ} {r : ρ} (h : asO_l23 v K = some r) : ∃ x, v = .own (.l23 x) ∧ K x = some r := by
  replace h := asO_inv h
  obtain ⟨u, rfl, h⟩ := h
  split at h
  · exact ⟨_, rfl, h⟩
  · cases h
noncomputable def as_l45 {ρ : Type} (v : AV UU) (K : List S45 → Option ρ) : Option ρ := asU v fun u => match u with | .l45 x => K x | _ => none
theorem as_l45_inv {ρ : Type} {v : AV UU} {K : List S45 → Option ρ} {r : ρ} (h : as_l45 v K = some r) : ∃ x, v = .pv (.typ (.l45 x)) ∧ K x = some r := by
  replace h := asU_inv h
  obtain ⟨u, rfl, h⟩ := h
  split at h
  · exact ⟨_, rfl, h⟩
  · cases h
noncomputable def asO_l45 {ρ : Type} (v : AV UU) (K : List S45 → Option ρ) : Option ρ := asO v fun u => match u with | .l45 x => K x | _ => none
theorem asO_l45_inv {ρ : Type} {v : AV UU} {K : List S45 → Option ρ} {r : ρ} (h : asO_l45 v K = some r) : ∃ x, v = .own (.l45 x) ∧ K x = some r := by
  replace h := asO_inv h
  obtain ⟨u, rfl, h⟩ := h
  split at h
  · exact ⟨_, rfl, h⟩
  · cases h
noncomputable def as_ls {ρ : Type} (v : AV UU) (K : List ByteArray → Option ρ) : Option ρ := asU v fun u => match u with | .ls x => K x | _ => none
theorem as_ls_inv {ρ : Type} {v : AV UU} {K : List ByteArray → Option ρ} {r : ρ} (h : as_ls v K = some r) : ∃ x, v = .pv (.typ (.ls x)) ∧ K x = some r := by
  replace h := asU_inv h
  obtain ⟨u, rfl, h⟩ := h
  split at h
  · exact ⟨_, rfl, h⟩
  · cases h
noncomputable def asO_ls {ρ : Type} (v : AV UU) (K : List ByteArray → Option ρ) : Option ρ := asO v fun u => match u with | .ls x => K x | _ => none
theorem asO_ls_inv {ρ : Type} {v : AV UU} {K : List ByteArray → Option ρ} {r : ρ} (h : asO_ls v K = some r) : ∃ x, v = .own (.ls x) ∧ K x = some r := by
  replace h := asO_inv h
  obtain ⟨u, rfl, h⟩ := h
  split at h
  · exact ⟨_, rfl, h⟩
  · cases h
noncomputable def pack_23 (cs : List (PV UU)) : Option (PV UU) :=
popA cs fun v1 a2 =>
asI .i64 (.pv v1) fun z0 =>
popA a2 fun v3 a4 =>
asI .i64 (.pv v3) fun z1 =>
popA a4 fun v5 a6 =>
asS (.pv v5) fun z2 =>
popN a6 <|
some (.typ (.s23 (⟨z0, z1, z2⟩ : S23)))
noncomputable def pack_25 (cs : List (PV UU)) : Option (PV UU) :=
popA cs fun v1 a2 =>
asS (.pv v1) fun z0 =>
popA a2 fun v3 a4 =>
asI .i64 (.pv v3) fun z1 =>
popA a4 fun v5 a6 =>
asI .i64 (.pv v5) fun z2 =>
popA a6 fun v7 a8 =>
asS (.pv v7) fun z3 =>
popA a8 fun v9 a10 =>
asI .i64 (.pv v9) fun z4 =>
popN a10 <|
some (.typ (.s25 (⟨z0, (⟨z1, z2, z3⟩ : S23), z4⟩ : S25)))
noncomputable def pack_45 (cs : List (PV UU)) : Option (PV UU) :=
popA cs fun v1 a2 =>
asI .i64 (.pv v1) fun z0 =>
popA a2 fun v3 a4 =>
asI .i64 (.pv v3) fun z1 =>
popA a4 fun v5 a6 =>
asS (.pv v5) fun z2 =>
popA a6 fun v7 a8 =>
asI .i64 (.pv v7) fun z3 =>
popA a8 fun v9 a10 =>
asI .i64 (.pv v9) fun z4 =>
popA a10 fun v11 a12 =>
asS (.pv v11) fun z5 =>
popA a12 fun v13 a14 =>
asI .i64 (.pv v13) fun z6 =>
popN a14 <|
some (.typ (.s45 (⟨(⟨z0, z1, z2⟩ : S23), (⟨z3, z4, z5⟩ : S23), z6⟩ : S45)))
theorem pack_23_inv {cs : List (PV UU)} {v : PV UU} (h : pack_23 cs = some v) : ∃ u, v = .typ u ∧ uview u = .segs cs := by
  unfold pack_23 at h
  replace h := popA_inv h; obtain ⟨v1, a2, rfl, h⟩ := h
  replace h := asI_inv h; obtain ⟨z0, e, h⟩ := h; cases e
  replace h := popA_inv h; obtain ⟨v3, a4, rfl, h⟩ := h
  replace h := asI_inv h; obtain ⟨z1, e, h⟩ := h; cases e
  replace h := popA_inv h; obtain ⟨v5, a6, rfl, h⟩ := h
  replace h := asS_inv h; obtain ⟨z2, e, h⟩ := h; cases e
  replace h := popN_inv h; obtain ⟨rfl, h⟩ := h
  cases h
  exact ⟨_, rfl, rfl⟩
theorem pack_25_inv {cs : List (PV UU)} {v : PV UU} (h : pack_25 cs = some v) : ∃ u, v = .typ u ∧ uview u = .segs cs := by
  unfold pack_25 at h
  replace h := popA_inv h; obtain ⟨v1, a2, rfl, h⟩ := h
  replace h := asS_inv h; obtain ⟨z0, e, h⟩ := h; cases e
  replace h := popA_inv h; obtain ⟨v3, a4, rfl, h⟩ := h
  replace h := asI_inv h; obtain ⟨z1, e, h⟩ := h; cases e
  replace h := popA_inv h; obtain ⟨v5, a6, rfl, h⟩ := h
  replace h := asI_inv h; obtain ⟨z2, e, h⟩ := h; cases e
  replace h := popA_inv h; obtain ⟨v7, a8, rfl, h⟩ := h
  replace h := asS_inv h; obtain ⟨z3, e, h⟩ := h; cases e
  replace h := popA_inv h; obtain ⟨v9, a10, rfl, h⟩ := h
  replace h := asI_inv h; obtain ⟨z4, e, h⟩ := h; cases e
  replace h := popN_inv h; obtain ⟨rfl, h⟩ := h
  cases h
  exact ⟨_, rfl, rfl⟩
theorem pack_45_inv {cs : List (PV UU)} {v : PV UU} (h : pack_45 cs = some v) : ∃ u, v = .typ u ∧ uview u = .segs cs := by
  unfold pack_45 at h
  replace h := popA_inv h; obtain ⟨v1, a2, rfl, h⟩ := h
  replace h := asI_inv h; obtain ⟨z0, e, h⟩ := h; cases e
  replace h := popA_inv h; obtain ⟨v3, a4, rfl, h⟩ := h
  replace h := asI_inv h; obtain ⟨z1, e, h⟩ := h; cases e
  replace h := popA_inv h; obtain ⟨v5, a6, rfl, h⟩ := h
  replace h := asS_inv h; obtain ⟨z2, e, h⟩ := h; cases e
  replace h := popA_inv h; obtain ⟨v7, a8, rfl, h⟩ := h
  replace h := asI_inv h; obtain ⟨z3, e, h⟩ := h; cases e
  replace h := popA_inv h; obtain ⟨v9, a10, rfl, h⟩ := h
  replace h := asI_inv h; obtain ⟨z4, e, h⟩ := h; cases e
  replace h := popA_inv h; obtain ⟨v11, a12, rfl, h⟩ := h
  replace h := asS_inv h; obtain ⟨z5, e, h⟩ := h; cases e
  replace h := popA_inv h; obtain ⟨v13, a14, rfl, h⟩ := h
  replace h := asI_inv h; obtain ⟨z6, e, h⟩ := h; cases e
  replace h := popN_inv h; obtain ⟨rfl, h⟩ := h
  cases h
  exact ⟨_, rfl, rfl⟩
noncomputable def upack (t : TypeId) (cs : List (PV UU)) : Option (PV UU) :=
  if t = 23 then pack_23 cs else
  if t = 24 then pack_23 cs else
  if t = 25 then pack_25 cs else
  if t = 26 then pack_25 cs else
  if t = 45 then pack_45 cs else
  if t = 46 then pack_45 cs else
  none
noncomputable def uapp : UU → UU → Option UU
  | .li_u8 a, .li_u8 b => some (.li_u8 (a ++ b))
  | .l25 a, .l25 b => some (.l25 (a ++ b))
  | .l23 a, .l23 b => some (.l23 (a ++ b))
  | .l45 a, .l45 b => some (.l45 (a ++ b))
  | .ls a, .ls b => some (.ls (a ++ b))
  | _, _ => none
noncomputable def ucut : UU → Nat → Nat → Option UU
  | .li_u8 l, lo, hi => some (.li_u8 ((l.drop lo).take (hi - lo)))
  | .l25 l, lo, hi => some (.l25 ((l.drop lo).take (hi - lo)))
  | .l23 l, lo, hi => some (.l23 ((l.drop lo).take (hi - lo)))
  | .l45 l, lo, hi => some (.l45 ((l.drop lo).take (hi - lo)))
  | .ls l, lo, hi => some (.ls ((l.drop lo).take (hi - lo)))
  | _, _, _ => none
noncomputable def uzr (t : TypeId) (n : Nat) : Option UU :=
  none
noncomputable def uset : UU → Nat → PV UU → Option UU
  | .li_u8 l, i, v => (of_li_u8 v).map fun x => .li_u8 (l.set i x)
  | .l25 l, i, v => (of_l25 v).map fun x => .l25 (l.set i x)
  | .l23 l, i, v => (of_l23 v).map fun x => .l23 (l.set i x)
  | .l45 l, i, v => (of_l45 v).map fun x => .l45 (l.set i x)
  | .ls l, i, v => (of_ls v).map fun x => .ls (l.set i x)
  | _, _, _ => none
noncomputable def uofs (s : ByteArray) : Option UU := some (.li_u8 (bytesOf s))
noncomputable def utos : UU → Option ByteArray
  | .li_u8 l => some (strOfNums l)
  | _ => none
noncomputable def utab : List (Nat × TI) := [(2, ⟨.int .i64, 1, 8⟩),
  (3, ⟨.int .i64, 1, 8⟩),
  (4, ⟨.bool, 1, 1⟩),
  (5, ⟨.int .u8, 1, 1⟩),
  (6, ⟨.int .u8, 1, 1⟩),
  (9, ⟨.str, 1, 16⟩),
  (10, ⟨.str, 1, 16⟩),
  (11, ⟨.str, 1, 16⟩),
  (12, ⟨.int .u64, 1, 8⟩),
  (21, ⟨.int .i32, 1, 4⟩),
  (22, ⟨.slice 26, 1, 24⟩),
  (23, ⟨.struct [(0, 3), (1, 2), (2, 9)], 3, 32⟩),
  (24, ⟨.struct [(0, 3), (1, 2), (2, 9)], 3, 32⟩),
  (25, ⟨.struct [(0, 9), (1, 24), (4, 3)], 5, 56⟩),
  (26, ⟨.struct [(0, 9), (1, 24), (4, 3)], 5, 56⟩),
  (27, ⟨.int .i64, 1, 8⟩),
  (44, ⟨.slice 46, 1, 24⟩),
  (45, ⟨.struct [(0, 24), (3, 24), (6, 3)], 7, 72⟩),
  (46, ⟨.struct [(0, 24), (3, 24), (6, 3)], 7, 72⟩),
  (60, ⟨.slice 9, 1, 24⟩),
  (63, ⟨.slice 24, 1, 24⟩),
  (65, ⟨.slice 5, 1, 24⟩),
  (68, ⟨.int .u64, 1, 8⟩),
  (76, ⟨.int .u32, 1, 4⟩),
  (78, ⟨.int .u64, 1, 8⟩),
  (90, ⟨.int .u8, 1, 1⟩),
  (91, ⟨.int .u8, 1, 1⟩),
  (94, ⟨.int .i32, 1, 4⟩),
  (95, ⟨.int .i32, 1, 4⟩)]
noncomputable def uinv (D : Nat → Prop) (w : World) : Prop := TabOk Tryd.prog D w "internal/strconv.uint64pow10" .u64 Lib.pow10Tab
noncomputable def uzeros : List (Nat × List (AV UU)) := [(2, [.pv (.int .i64 0)]),
  (3, [.pv (.int .i64 0)]),
  (4, [.pv (.bool false)]),
  (5, [.pv (.int .u8 0)]),
  (6, [.pv (.int .u8 0)]),
  (9, [.pv (.str ByteArray.empty)]),
  (10, [.pv (.str ByteArray.empty)]),
  (11, [.pv (.str ByteArray.empty)]),
  (12, [.pv (.int .u64 0)]),
  (21, [.pv (.int .i32 0)]),
  (22, [.pv (.typ (.l25 []))]),
  (23, [.pv (.int .i64 0), .pv (.int .i64 0), .pv (.str ByteArray.empty)]),
  (24, [.pv (.int .i64 0), .pv (.int .i64 0), .pv (.str ByteArray.empty)]),
  (25, [.pv (.str ByteArray.empty), .pv (.int .i64 0), .pv (.int .i64 0), .pv (.str ByteArray.empty), .pv (.int .i64 0)]),
  (26, [.pv (.str ByteArray.empty), .pv (.int .i64 0), .pv (.int .i64 0), .pv (.str ByteArray.empty), .pv (.int .i64 0)]),
  (27, [.pv (.int .i64 0)]),
  (44, [.pv (.typ (.l45 []))]),
  (45, [.pv (.int .i64 0), .pv (.int .i64 0), .pv (.str ByteArray.empty), .pv (.int .i64 0), .pv (.int .i64 0), .pv (.str ByteArray.empty), .pv (.int .i64 0)]),
  (46, [.pv (.int .i64 0), .pv (.int .i64 0), .pv (.str ByteArray.empty), .pv (.int .i64 0), .pv (.int .i64 0), .pv (.str ByteArray.empty), .pv (.int .i64 0)]),
  (60, [.pv (.typ (.ls []))]),
  (63, [.pv (.typ (.l23 []))]),
  (65, [.pv (.typ (.li_u8 []))]),
  (68, [.pv (.int .u64 0)]),
  (76, [.pv (.int .u32 0)]),
  (78, [.pv (.int .u64 0)]),
  (90, [.pv (.int .u8 0)]),
  (91, [.pv (.int .u8 0)]),
  (94, [.pv (.int .i32 0)]),
  (95, [.pv (.int .i32 0)])]
noncomputable def UX : Univ where
  U := UU
  view := uview
  width := uwidth
  esz := uesz
  nil := assoc unil
  lit := ulit
  zeros := uzr
  pack := upack
  app := uapp
  appS _ _ := none
  cut := ucut
  set := uset
  ofStr := uofs
  toStr := utos
  ty := assoc utab
  inv := uinv
  zero := assoc uzeros
theorem xok : XOK UX where
  wpos u := by cases u <;> exact of_decide_eq_true (by kernel_rfl)
  nil t u h := nilB_of (view := uview) (by kernel_rfl) h
  pack t cs v h := by
    change upack t cs = some v at h
    unfold upack at h
    split at h
    · exact .inl ( pack_23_inv h)
    split at h
    · exact .inl ( pack_23_inv h)
    split at h
    · exact .inl ( pack_25_inv h)
    split at h
    · exact .inl ( pack_25_inv h)
    split at h
    · exact .inl ( pack_45_inv h)
    split at h
    · exact .inl ( pack_45_inv h)
    cases h
  lit t es u h := by
    change ulit t es = some u at h
    unfold ulit at h
    split at h
    · exact lit_case (view := uview) (g := fun n => .typ (.s25 n)) default of_l25_inv (fun _ => rfl) h
    split at h
    · exact lit_case (view := uview) (g := fun n => .typ (.s45 n)) default of_l45_inv (fun _ => rfl) h
    split at h
    · exact lit_case (view := uview) (g := fun n => .str n) ByteArray.empty of_ls_inv (fun _ => rfl) h
    split at h
    · exact lit_case (view := uview) (g := fun n => .typ (.s23 n)) default of_l23_inv (fun _ => rfl) h
    split at h
    · exact lit_case (view := uview) (g := fun n => .int .u8 n) (0 : Int) of_li_u8_inv (fun _ => rfl) h
    cases h
  cut u lo hi u' n get h hv h1 h2 := by
    change ucut u lo hi = some u' at h
    change uview u = .sl n get at hv
    cases u with
    | li_u8 l => change some (UU.li_u8 _) = some u' at h; cases h; exact ⟨rfl, cut_case (view := uview) (C := .li_u8) (g := fun n => .int .u8 n) (0 : Int) (fun _ => rfl) hv h1 h2⟩
    | l25 l => change some (UU.l25 _) = some u' at h; cases h; exact ⟨rfl, cut_case (view := uview) (C := .l25) (g := fun n => .typ (.s25 n)) default (fun _ => rfl) hv h1 h2⟩
    | l23 l => change some (UU.l23 _) = some u' at h; cases h; exact ⟨rfl, cut_case (view := uview) (C := .l23) (g := fun n => .typ (.s23 n)) default (fun _ => rfl) hv h1 h2⟩
    | l45 l => change some (UU.l45 _) = some u' at h; cases h; exact ⟨rfl, cut_case (view := uview) (C := .l45) (g := fun n => .typ (.s45 n)) default (fun _ => rfl) hv h1 h2⟩
    | ls l => change some (UU.ls _) = some u' at h; cases h; exact ⟨rfl, cut_case (view := uview) (C := .ls) (g := fun n => .str n) ByteArray.empty (fun _ => rfl) hv h1 h2⟩
    | _ => (change (none : Option UU) = some _ at h; cases h)
  app u v z n get k get' h hv hv' := by
    change uapp u v = some z at h
    change uview u = .sl n get at hv
    change uview v = .sl k get' at hv'
    cases u with
    | li_u8 a => cases v with
      | li_u8 b => change some (UU.li_u8 _) = some z at h; cases h; exact ⟨rfl, rfl, app_case (view := uview) (C := .li_u8) (g := fun n => .int .u8 n) (0 : Int) (fun _ => rfl) hv hv'⟩
      | _ => (change (none : Option UU) = some _ at h; cases h)
    | l25 a => cases v with
      | l25 b => change some (UU.l25 _) = some z at h; cases h; exact ⟨rfl, rfl, app_case (view := uview) (C := .l25) (g := fun n => .typ (.s25 n)) default (fun _ => rfl) hv hv'⟩
      | _ => (change (none : Option UU) = some _ at h; cases h)
    | l23 a => cases v with
      | l23 b => change some (UU.l23 _) = some z at h; cases h; exact ⟨rfl, rfl, app_case (view := uview) (C := .l23) (g := fun n => .typ (.s23 n)) default (fun _ => rfl) hv hv'⟩
      | _ => (change (none : Option UU) = some _ at h; cases h)
    | l45 a => cases v with
      | l45 b => change some (UU.l45 _) = some z at h; cases h; exact ⟨rfl, rfl, app_case (view := uview) (C := .l45) (g := fun n => .typ (.s45 n)) default (fun _ => rfl) hv hv'⟩
      | _ => (change (none : Option UU) = some _ at h; cases h)
    | ls a => cases v with
      | ls b => change some (UU.ls _) = some z at h; cases h; exact ⟨rfl, rfl, app_case (view := uview) (C := .ls) (g := fun n => .str n) ByteArray.empty (fun _ => rfl) hv hv'⟩
      | _ => (change (none : Option UU) = some _ at h; cases h)
    | _ => cases v <;> (change (none : Option UU) = some _ at h; cases h)
  set u i v u' n get h hv hi := by
    change uset u i v = some u' at h
    change uview u = .sl n get at hv
    cases u with
    | li_u8 l => obtain ⟨x, hx, h⟩ := Option.map_eq_some_iff.1 h; subst h; exact ⟨rfl, set_case (view := uview) (C := .li_u8) (g := fun n => .int .u8 n) (0 : Int) (fun _ => rfl) (of_li_u8_inv v x hx) hv hi⟩
    | l25 l => obtain ⟨x, hx, h⟩ := Option.map_eq_some_iff.1 h; subst h; exact ⟨rfl, set_case (view := uview) (C := .l25) (g := fun n => .typ (.s25 n)) default (fun _ => rfl) (of_l25_inv v x hx) hv hi⟩
    | l23 l => obtain ⟨x, hx, h⟩ := Option.map_eq_some_iff.1 h; subst h; exact ⟨rfl, set_case (view := uview) (C := .l23) (g := fun n => .typ (.s23 n)) default (fun _ => rfl) (of_l23_inv v x hx) hv hi⟩
    | l45 l => obtain ⟨x, hx, h⟩ := Option.map_eq_some_iff.1 h; subst h; exact ⟨rfl, set_case (view := uview) (C := .l45) (g := fun n => .typ (.s45 n)) default (fun _ => rfl) (of_l45_inv v x hx) hv hi⟩
    | ls l => obtain ⟨x, hx, h⟩ := Option.map_eq_some_iff.1 h; subst h; exact ⟨rfl, set_case (view := uview) (C := .ls) (g := fun n => .str n) ByteArray.empty (fun _ => rfl) (of_ls_inv v x hx) hv hi⟩
    | _ => (change (none : Option UU) = some _ at h; cases h)
  zeros t n u h := by
    change uzr t n = some u at h
    unfold uzr at h
    cases h
  ofStr s u h := by
    change uofs s = some u at h
    cases h
    exact ⟨rfl, ofs_case (view := uview) (C := .li_u8) fun _ => rfl⟩
  inv D D' w w' h h1 h2 h3 := tabOk_keep h h1 h2 h3
  toStr u s h := by
    change utos u = some s at h
    cases u with
    | li_u8 l => cases h; exact ⟨rfl, _, l, rfl, fun _ _ => rfl, rfl⟩
    | _ => (change (none : Option ByteArray) = some _ at h; cases h)
theorem tok : TOK Tryd.prog UX := tok_of rfl rfl (by kernel_rfl)end Go.Proofs.YtdfmfpbdggefpaaDoor.D
