/-
  The plain data's types, and that the program's types are so.
-/
import Derived.Test.YtahgjfdndpnpfaaAxGen
import Derived.Test.YtahgjfdndpnpfaaTF
import Derived.Test.YtahgjfdndpnpfaaProg
namespace Go.Proofs.Ytahgjfdndpnpfaa.T
open Go Go.AX
inductive UU where
  | s23 (x : S23)
  | s25 (x : S25)
  | s38 (x : S38)
  | l25 (x : List S25)
  | li_i64 (x : List Int)
  | l23 (x : List S23)
  | ll23 (x : List (List S23))
  | l38 (x : List S38)
  | a50 (x : List Int)
noncomputable def uview : UU → View UU
  | .s23 x => .segs [.int .i64 x.f0, .int .i64 x.f1, .str x.f2]
  | .s25 x => .segs [.int .i64 x.f0.f0, .int .i64 x.f0.f1, .str x.f0.f2, .int .i64 x.f1.f0, .int .i64 x.f1.f1, .str x.f1.f2, .int .i64 x.f2]
  | .s38 x => .segs [.typ (.l23 x.f0), .typ (.l23 x.f1), .typ (.ll23 x.f2)]
  | .l25 x => .sl x.length fun i => .typ (.s25 (x.getD i default))
  | .li_i64 x => .sl x.length fun i => .int .i64 (x.getD i 0)
  | .l23 x => .sl x.length fun i => .typ (.s23 (x.getD i default))
  | .ll23 x => .sl x.length fun i => .typ (.l23 (x.getD i []))
  | .l38 x => .sl x.length fun i => .typ (.s38 (x.getD i default))
  | .a50 x => .arr 6 fun i => .int .i64 (x.getD i 0)
noncomputable def uwidth : UU → Nat
  | .a50 _ => 6
  | _ => 1
noncomputable def uesz : UU → Nat
  | .l25 _ => 7
  | .li_i64 _ => 1
  | .l23 _ => 3
  | .ll23 _ => 1
  | .l38 _ => 3
  | .a50 _ => 1
  | _ => 1
noncomputable def unil : List (Nat × UU) := [(22, .l25 []), (28, .li_i64 []), (35, .l38 []), (36, .l23 []), (37, .ll23 []), (45, .l25 [])]
noncomputable def of_l25 (v : PV UU) : Option S25 := match v with | .typ (.s25 n) => some n | _ => none
theorem of_l25_inv (v : PV UU) (x : S25) (h : of_l25 v = some x) : v = .typ (.s25 x) := by
  unfold of_l25 at h
  split at h
  · cases h; rfl
  · cases h
noncomputable def of_li_i64 (v : PV UU) : Option Int := match v with | .int k n => if k = .i64 then some n else none | _ => none
theorem of_li_i64_inv (v : PV UU) (x : Int) (h : of_li_i64 v = some x) : v = .int .i64 x := by
  unfold of_li_i64 at h
  split at h
  · split at h
    · rename_i e; subst e; cases h; rfl
    · cases h
  · cases h
noncomputable def of_l23 (v : PV UU) : Option S23 := match v with | .typ (.s23 n) => some n | _ => none
theorem of_l23_inv (v : PV UU) (x : S23) (h : of_l23 v = some x) : v = .typ (.s23 x) := by
  unfold of_l23 at h
  split at h
  · cases h; rfl
  · cases h
noncomputable def of_ll23 (v : PV UU) : Option (List S23) := match v with | .typ (.l23 n) => some n | _ => none
theorem of_ll23_inv (v : PV UU) (x : List S23) (h : of_ll23 v = some x) : v = .typ (.l23 x) := by
  unfold of_ll23 at h
  split at h
  · cases h; rfl
  · cases h
noncomputable def of_l38 (v : PV UU) : Option S38 := match v with | .typ (.s38 n) => some n | _ => none
theorem of_l38_inv (v : PV UU) (x : S38) (h : of_l38 v = some x) : v = .typ (.s38 x) := by
  unfold of_l38 at h
  split at h
  · cases h; rfl
  · cases h
noncomputable def ulit (t : TypeId) (es : List (PV UU)) : Option UU :=
  if t = 22 then (mapO of_l25 es).map .l25 else
  if t = 28 then (mapO of_li_i64 es).map .li_i64 else
  if t = 35 then (mapO of_l38 es).map .l38 else
  if t = 36 then (mapO of_l23 es).map .l23 else
  if t = 37 then (mapO of_ll23 es).map .ll23 else
  if t = 45 then (mapO of_l25 es).map .l25 else
  none
noncomputable def as_s23 {ρ : Type} (v : AV UU) (K : S23 → Option ρ) : Option ρ := asU v fun u => match u with | .s23 x => K x | _ => none
theorem as_s23_inv {ρ : Type} {v : AV UU} {K : S23 → Option ρ} {r : ρ} (h : as_s23 v K = some r) : ∃ x, v = .pv (.typ (.s23 x)) ∧ K x = some r := by
  replace h := asU_inv h
  obtain ⟨u, rfl, h⟩ := h
  split at h
  · exact ⟨_, rfl, h⟩
  · cases h
noncomputable def as_s25 {ρ : Type} (v : AV UU) (K : S25 → Option ρ) : Option ρ := asU v fun u => match u with | .s25 x => K x | _ => none
theorem as_s25_inv {ρ : Type} {v : AV UU} {K : S25 → Option ρ} {r : ρ} (h : as_s25 v K = some r) : ∃ x, v = .pv (.typ (.s25 x)) ∧ K x = some r := by
  replace h := asU_inv h
  obtain ⟨u, rfl, h⟩ := h
  split at h
  · exact ⟨_, rfl, h⟩
  · cases h
noncomputable def as_s38 {ρ : Type} (v : AV UU) (K : S38 → Option ρ) : Option ρ := asU v fun u => match u with | .s38 x => K x | _ => none
theorem as_s38_inv {ρ : Type} {v : AV UU} {K : S38 → Option ρ} {r : ρ} (h : as_s38 v K = some r) : ∃ x, v = .pv (.typ (.s38 x)) ∧ K x = some r := by
  replace h := asU_inv h
  obtain ⟨u, rfl, h⟩ := h
  split at h
  · exact ⟨_, rfl, h⟩
  · cases h
noncomputable def as_l25 {ρ : Type} (v : AV UU) (K : List S25 → Option ρ) : Option ρ := asU v fun u => match u with | .l25 x => K x | _ => none
theorem as_l25_inv {ρ : Type} {v : AV UU} {K : List S25 → Option ρ} {r : ρ} (h : as_l25 v K = some r) : ∃ x, v = .pv (.typ (.l25 x)) ∧ K x = some r := by
  replace h := asU_inv h
  obtain ⟨u, rfl, h⟩ := h
  split at h
  · exact ⟨_, rfl, h⟩
  · cases h
noncomputable def asO_l25 {ρ : Type} (v : AV UU) (K : List S25 → Option ρ) : Option ρ := asO v fun u => match u with | .l25 x => K x | _ => none
theorem asO_l25_inv {ρ : Type} {v : AV UU} {K : List S25 → Option ρ} {r : ρ} (h : asO_l25 v K = some r) : ∃ x, v = .own (.l25 x) ∧ K x = some r := by
  replace h := asO_inv h
  obtain ⟨u, rfl, h⟩ := h
  split at h
  · exact ⟨_, rfl, h⟩
  · cases h
noncomputable def as_li_i64 {ρ : Type} (v : AV UU) (K : List Int → Option ρ) : Option ρ := asU v fun u => match u with | .li_i64 x => K x | _ => none
theorem as_li_i64_inv {ρ : Type} {v : AV UU} {K : List Int → Option ρ} {r : ρ} (h : as_li_i64 v K = some r) : ∃ x, v = .pv (.typ (.li_i64 x)) ∧ K x = some r := by
  replace h := asU_inv h
  obtain ⟨u, rfl, h⟩ := h
  split at h
  · exact ⟨_, rfl, h⟩
  · cases h
noncomputable def asO_li_i64 {ρ : Type} (v : AV UU) (K : List Int → Option ρ) : Option ρ := asO v fun u => match u with | .li_i64 x => K x | _ => none
theorem asO_li_i64_inv {ρ : Type} {v : AV UU} {K : List Int → Option ρ} {r : ρ} (h : asO_li_i64 v K = some r) : ∃ x, v = .own (.li_i64 x) ∧ K x = some r := by
  replace h := asO_inv h
  obtain ⟨u, rfl, h⟩ := h
  split at h
  · exact ⟨_, rfl, h⟩
  · cases h
noncomputable def as_l23 {ρ : Type} (v : AV UU) (K : List S23 → Option ρ) : Option ρ := asU v fun u => match u with | .l23 x => K x | _ => none
theorem as_l23_inv {ρ : Type} {v : AV UU} {K : List S23 → Option ρ} {r : ρ} (h : as_l23 v K = some r) : ∃ x, v = .pv (.typ (.l23 x)) ∧ K x = some r := by
  replace h := asU_inv h
  obtain ⟨u, rfl, h⟩ := h
  split at h
  · exact ⟨_, rfl, h⟩
  · cases h
noncomputable def asO_l23 {ρ : Type} (v : AV UU) (K : List S23 → Option ρ) : Option ρ := asO v fun u => match u with | .l23 x => K x | _ => none
theorem asO_l23_inv {ρ : Type} {v : AV UU} {K : List S23 → Option ρ} {r : ρ} (h : asO_l23 v K = some r) : ∃ x, v = .own (.l23 x) ∧ K x = some r := by
  replace h := asO_inv h
  obtain ⟨u, rfl, h⟩ := h
  split at h
  · exact ⟨_, rfl, h⟩
  · cases h
noncomputable def as_ll23 {ρ : Type} (v : AV UU) (K : List (List S23) → Option ρ) : Option ρ := asU v fun u => match u with | .ll23 x => K x | _ => none
theorem as_ll23_inv {ρ : Type} {v : AV UU} {K : List (List S23) → Option ρ} {r : ρ} (h : as_ll23 v K = some r) : ∃ x, v = .pv (.typ (.ll23 x)) ∧ K x = some r := by
  replace h := asU_inv h
  obtain ⟨u, rfl, h⟩ := h
  split at h
  · exact ⟨_, rfl, h⟩
  · cases h
noncomputable def asO_ll23 {ρ : Type} (v : AV UU) (K : List (List S23) → Option ρ) : Option ρ := asO v fun u => match u with | .ll23 x => K x | _ => none
theorem asO_ll23_inv {ρ : Type} {v : AV UU} {K : List (List S23) → Option ρ} {r : ρ} (h : asO_ll23 v K = some r) : ∃ x, v = .own (.ll23 x) ∧ K x = some r := by
  replace h := asO_inv h
  obtain ⟨u, rfl, h⟩ := h
  split at h
  · exact ⟨_, rfl, h⟩
  · cases h
noncomputable def as_l38 {ρ : Type} (v : AV UU) (K : List S38 → Option ρ) : Option ρ := asU v fun u => match u with | .l38 x => K x | _ => none
theorem as_l38_inv {ρ : Type} {v : AV UU} {K : List S38 → Option ρ} {r : ρ} (h : as_l38 v K = some r) : ∃ x, v = .pv (.typ (.l38 x)) ∧ K x = some r := by
  replace h := asU_inv h
  obtain ⟨u, rfl, h⟩ := h
  split at h
  · exact ⟨_, rfl, h⟩
  · cases h
noncomputable def asO_l38 {ρ : Type} (v : AV UU) (K : List S38 → Option ρ) : Option ρ := asO v fun u => match u with | .l38 x => K x | _ => none
theorem asO_l38_inv {ρ : Type} {v : AV UU} {K : List S38 → Option ρ} {r : ρ} (h : asO_l38 v K = some r) : ∃ x, v = .own (.l38 x) ∧ K x = some r := by
  replace h := asO_inv h
  obtain ⟨u, rfl, h⟩ := h
  split at h
  · exact ⟨_, rfl, h⟩
  · cases h
noncomputable def as_a50 {ρ : Type} (v : AV UU) (K : List Int → Option ρ) : Option ρ := asU v fun u => match u with | .a50 x => K x | _ => none
theorem as_a50_inv {ρ : Type} {v : AV UU} {K : List Int → Option ρ} {r : ρ} (h : as_a50 v K = some r) : ∃ x, v = .pv (.typ (.a50 x)) ∧ K x = some r := by
  replace h := asU_inv h
  obtain ⟨u, rfl, h⟩ := h
  split at h
  · exact ⟨_, rfl, h⟩
  · cases h
noncomputable def pack_23 (cs : List (PV UU)) : Option (PV UU) :=
popA cs fun v1 a2 =>
asI .i64 (.pv v1) fun z0 =>
popA a2 fun v3 a4 =>
asI .i64 (.pv v3) fun z1 =>
popA a4 fun v5 a6 =>
asS (.pv v5) fun z2 =>
popN a6 <|
some (.typ (.s23 (⟨z0, z1, z2⟩ : S23)))
noncomputable def pack_25 (cs : List (PV UU)) : Option (PV UU) :=
popA cs fun v1 a2 =>
asI .i64 (.pv v1) fun z0 =>
popA a2 fun v3 a4 =>
asI .i64 (.pv v3) fun z1 =>
popA a4 fun v5 a6 =>
asS (.pv v5) fun z2 =>
popA a6 fun v7 a8 =>
asI .i64 (.pv v7) fun z3 =>
popA a8 fun v9 a10 =>
asI .i64 (.pv v9) fun z4 =>
popA a10 fun v11 a12 =>
asS (.pv v11) fun z5 =>
popA a12 fun v13 a14 =>
asI .i64 (.pv v13) fun z6 =>
popN a14 <|
some (.typ (.s25 (⟨(⟨z0, z1, z2⟩ : S23), (⟨z3, z4, z5⟩ : S23), z6⟩ : S25)))
noncomputable def pack_38 (cs : List (PV UU)) : Option (PV UU) :=
popA cs fun v1 a2 =>
as_l23 (.pv v1) fun z0 =>
popA a2 fun v3 a4 =>
as_l23 (.pv v3) fun z1 =>
popA a4 fun v5 a6 =>
as_ll23 (.pv v5) fun z2 =>
popN a6 <|
some (.typ (.s38 (⟨z0, z1, z2⟩ : S38)))
noncomputable def pack_50 (cs : List (PV UU)) : Option (PV UU) :=
popA cs fun v1 a2 =>
asI .i64 (.pv v1) fun z0 =>
popA a2 fun v3 a4 =>
asI .i64 (.pv v3) fun z1 =>
popA a4 fun v5 a6 =>
asI .i64 (.pv v5) fun z2 =>
popA a6 fun v7 a8 =>
asI .i64 (.pv v7) fun z3 =>
popA a8 fun v9 a10 =>
asI .i64 (.pv v9) fun z4 =>
popA a10 fun v11 a12 =>
asI .i64 (.pv v11) fun z5 =>
popN a12 <|
some (.typ (.a50 [z0, z1, z2, z3, z4, z5]))
theorem pack_23_inv {cs : List (PV UU)} {v : PV UU} (h : pack_23 cs = some v) : ∃ u, v = .typ u ∧ uview u = .segs cs := by
  unfold pack_23 at h
  replace h := popA_inv h; obtain ⟨v1, a2, rfl, h⟩ := h
  replace h := asI_inv h; obtain ⟨z0, e, h⟩ := h; cases e
  replace h := popA_inv h; obtain ⟨v3, a4, rfl, h⟩ := h
  replace h := asI_inv h; obtain ⟨z1, e, h⟩ := h; cases e
  replace h := popA_inv h; obtain ⟨v5, a6, rfl, h⟩ := h
  replace h := asS_inv h; obtain ⟨z2, e, h⟩ := h; cases e
  replace h := popN_inv h; obtain ⟨rfl, h⟩ := h
  cases h
  exact ⟨_, rfl, rfl⟩
theorem pack_25_inv {cs : List (PV UU)} {v : PV UU} (h : pack_25 cs = some v) : ∃ u, v = .typ u ∧ uview u = .segs cs := by
  unfold pack_25 at h
  replace h := popA_inv h; obtain ⟨v1, a2, rfl, h⟩ := h
  replace h := asI_inv h; obtain ⟨z0, e, h⟩ := h; cases e
  replace h := popA_inv h; obtain ⟨v3, a4, rfl, h⟩ := h
  replace h := asI_inv h; obtain ⟨z1, e, h⟩ := h; cases e
  replace h := popA_inv h; obtain ⟨v5, a6, rfl, h⟩ := h
  replace h := asS_inv h; obtain ⟨z2, e, h⟩ := h; cases e
  replace h := popA_inv h; obtain ⟨v7, a8, rfl, h⟩ := h
  replace h := asI_inv h; obtain ⟨z3, e, h⟩ := h; cases e
  replace h := popA_inv h; obtain ⟨v9, a10, rfl, h⟩ := h
  replace h := asI_inv h; obtain ⟨z4, e, h⟩ := h; cases e
  replace h := popA_inv h; obtain ⟨v11, a12, rfl, h⟩ := h
  replace h := asS_inv h; obtain ⟨z5, e, h⟩ := h; cases e
  replace h := popA_inv h; obtain ⟨v13, a14, rfl, h⟩ := h
  replace h := asI_inv h; obtain ⟨z6, e, h⟩ := h; cases e
  replace h := popN_inv h; obtain ⟨rfl, h⟩ := h
  cases h
  exact ⟨_, rfl, rfl⟩
theorem pack_38_inv {cs : List (PV UU)} {v : PV UU} (h : pack_38 cs = some v) : ∃ u, v = .typ u ∧ uview u = .segs cs := by
  unfold pack_38 at h
  replace h := popA_inv h; obtain ⟨v1, a2, rfl, h⟩ := h
  replace h := as_l23_inv h; obtain ⟨z0, e, h⟩ := h; cases e
  replace h := popA_inv h; obtain ⟨v3, a4, rfl, h⟩ := h
  replace h := as_l23_inv h; obtain ⟨z1, e, h⟩ := h; cases e
  replace h := popA_inv h; obtain ⟨v5, a6, rfl, h⟩ := h
  replace h := as_ll23_inv h; obtain ⟨z2, e, h⟩ := h; cases e
  replace h := popN_inv h; obtain ⟨rfl, h⟩ := h
  cases h
  exact ⟨_, rfl, rfl⟩
noncomputable def upack (t : TypeId) (cs : List (PV UU)) : Option (PV UU) :=
  if t = 23 then pack_23 cs else
  if t = 24 then pack_23 cs else
  if t = 25 then pack_25 cs else
  if t = 26 then pack_25 cs else
  if t = 38 then pack_38 cs else
  if t = 39 then pack_38 cs else
  if t = 46 then pack_25 cs else
  if t = 50 then pack_50 cs else
  none
noncomputable def uapp : UU → UU → Option UU
  | .l25 a, .l25 b => some (.l25 (a ++ b))
  | .li_i64 a, .li_i64 b => some (.li_i64 (a ++ b))
  | .l23 a, .l23 b => some (.l23 (a ++ b))
  | .ll23 a, .ll23 b => some (.ll23 (a ++ b))
  | .l38 a, .l38 b => some (.l38 (a ++ b))
  | _, _ => none
noncomputable def ucut : UU → Nat → Nat → Option UU
  | .l25 l, lo, hi => some (.l25 ((l.drop lo).take (hi - lo)))
  | .li_i64 l, lo, hi => some (.li_i64 ((l.drop lo).take (hi - lo)))
  | .l23 l, lo, hi => some (.l23 ((l.drop lo).take (hi - lo)))
  | .ll23 l, lo, hi => some (.ll23 ((l.drop lo).take (hi - lo)))
  | .l38 l, lo, hi => some (.l38 ((l.drop lo).take (hi - lo)))
  | _, _, _ => none
noncomputable def utab : List (Nat × TI) := [(2, ⟨.int .i64, 1, 8⟩),
  (3, ⟨.int .i64, 1, 8⟩),
  (4, ⟨.bool, 1, 1⟩),
  (5, ⟨.int .u8, 1, 1⟩),
  (6, ⟨.int .u8, 1, 1⟩),
  (9, ⟨.str, 1, 16⟩),
  (10, ⟨.str, 1, 16⟩),
  (11, ⟨.str, 1, 16⟩),
  (12, ⟨.int .u64, 1, 8⟩),
  (21, ⟨.int .i32, 1, 4⟩),
  (22, ⟨.slice 26, 1, 24⟩),
  (23, ⟨.struct [(0, 3), (1, 2), (2, 9)], 3, 32⟩),
  (24, ⟨.struct [(0, 3), (1, 2), (2, 9)], 3, 32⟩),
  (25, ⟨.struct [(0, 24), (3, 24), (6, 3)], 7, 72⟩),
  (26, ⟨.struct [(0, 24), (3, 24), (6, 3)], 7, 72⟩),
  (28, ⟨.slice 3, 1, 24⟩),
  (29, ⟨.int .i64, 1, 8⟩),
  (35, ⟨.slice 39, 1, 24⟩),
  (36, ⟨.slice 24, 1, 24⟩),
  (37, ⟨.slice 36, 1, 24⟩),
  (38, ⟨.struct [(0, 36), (1, 36), (2, 37)], 3, 72⟩),
  (39, ⟨.struct [(0, 36), (1, 36), (2, 37)], 3, 72⟩),
  (45, ⟨.slice 46, 1, 24⟩),
  (46, ⟨.struct [(0, 24), (3, 24), (6, 3)], 7, 72⟩),
  (50, ⟨.array 6 3, 6, 48⟩),
  (83, ⟨.int .u32, 1, 4⟩),
  (84, ⟨.int .u8, 1, 1⟩),
  (85, ⟨.int .u8, 1, 1⟩),
  (88, ⟨.int .i32, 1, 4⟩),
  (89, ⟨.int .i32, 1, 4⟩)]
noncomputable def uzeros : List (Nat × List (AV UU)) := [(2, [.pv (.int .i64 0)]),
  (3, [.pv (.int .i64 0)]),
  (4, [.pv (.bool false)]),
  (5, [.pv (.int .u8 0)]),
  (6, [.pv (.int .u8 0)]),
  (9, [.pv (.str ByteArray.empty)]),
  (10, [.pv (.str ByteArray.empty)]),
  (11, [.pv (.str ByteArray.empty)]),
  (12, [.pv (.int .u64 0)]),
  (21, [.pv (.int .i32 0)]),
  (22, [.pv (.typ (.l25 []))]),
  (23, [.pv (.int .i64 0), .pv (.int .i64 0), .pv (.str ByteArray.empty)]),
  (24, [.pv (.int .i64 0), .pv (.int .i64 0), .pv (.str ByteArray.empty)]),
  (25, [.pv (.int .i64 0), .pv (.int .i64 0), .pv (.str ByteArray.empty), .pv (.int .i64 0), .pv (.int .i64 0), .pv (.str ByteArray.empty), .pv (.int .i64 0)]),
  (26, [.pv (.int .i64 0), .pv (.int .i64 0), .pv (.str ByteArray.empty), .pv (.int .i64 0), .pv (.int .i64 0), .pv (.str ByteArray.empty), .pv (.int .i64 0)]),
  (28, [.pv (.typ (.li_i64 []))]),
  (29, [.pv (.int .i64 0)]),
  (35, [.pv (.typ (.l38 []))]),
  (36, [.pv (.typ (.l23 []))]),
  (37, [.pv (.typ (.ll23 []))]),
  (38, [.pv (.typ (.l23 [])), .pv (.typ (.l23 [])), .pv (.typ (.ll23 []))]),
  (39, [.pv (.typ (.l23 [])), .pv (.typ (.l23 [])), .pv (.typ (.ll23 []))]),
  (45, [.pv (.typ (.l25 []))]),
  (46, [.pv (.int .i64 0), .pv (.int .i64 0), .pv (.str ByteArray.empty), .pv (.int .i64 0), .pv (.int .i64 0), .pv (.str ByteArray.empty), .pv (.int .i64 0)]),
  (50, [.pv (.int .i64 0), .pv (.int .i64 0), .pv (.int .i64 0), .pv (.int .i64 0), .pv (.int .i64 0), .pv (.int .i64 0)]),
  (83, [.pv (.int .u32 0)]),
  (84, [.pv (.int .u8 0)]),
  (85, [.pv (.int .u8 0)]),
  (88, [.pv (.int .i32 0)]),
  (89, [.pv (.int .i32 0)])]
noncomputable def UX : Univ where
  U := UU
  view := uview
  width := uwidth
  esz := uesz
  nil := assoc unil
  lit := ulit
  zeros _ _ := none
  pack := upack
  app := uapp
  appS _ _ := none
  cut := ucut
  set _ _ _ := none
  ofStr _ := none
  toStr _ := none
  ty := assoc utab
  zero := assoc uzeros
theorem pack_50_inv {cs : List (PV UX.U)} {v : PV UX.U} (h : pack_50 cs = some v) : ∃ u n get, v = .typ u ∧ UX.view u = .arr n get ∧ cs.length = n ∧ (∀ i (h : i < cs.length), cs[i] = get i ∧ PV.segW UX cs[i] = UX.esz u) ∧ UX.width u = n * UX.esz u := by
  unfold pack_50 at h
  replace h := popA_inv h; obtain ⟨v1, a2, rfl, h⟩ := h
  replace h := asI_inv h; obtain ⟨z0, e, h⟩ := h; cases e
  replace h := popA_inv h; obtain ⟨v3, a4, rfl, h⟩ := h
  replace h := asI_inv h; obtain ⟨z1, e, h⟩ := h; cases e
  replace h := popA_inv h; obtain ⟨v5, a6, rfl, h⟩ := h
  replace h := asI_inv h; obtain ⟨z2, e, h⟩ := h; cases e
  replace h := popA_inv h; obtain ⟨v7, a8, rfl, h⟩ := h
  replace h := asI_inv h; obtain ⟨z3, e, h⟩ := h; cases e
  replace h := popA_inv h; obtain ⟨v9, a10, rfl, h⟩ := h
  replace h := asI_inv h; obtain ⟨z4, e, h⟩ := h; cases e
  replace h := popA_inv h; obtain ⟨v11, a12, rfl, h⟩ := h
  replace h := asI_inv h; obtain ⟨z5, e, h⟩ := h; cases e
  replace h := popN_inv h; obtain ⟨rfl, h⟩ := h
  cases h
  exact ⟨.a50 [z0, z1, z2, z3, z4, z5], 6, fun i => .int .i64 ([z0, z1, z2, z3, z4, z5].getD i 0), rfl, rfl, rfl, pack_arr (X := UX) (e := 1) 6 rfl (⟨⟨rfl, rfl⟩, ⟨rfl, rfl⟩, ⟨rfl, rfl⟩, ⟨rfl, rfl⟩, ⟨rfl, rfl⟩, ⟨rfl, rfl⟩, trivial⟩), rfl⟩
theorem xok : XOK UX where
  wpos u := by cases u <;> exact of_decide_eq_true (by kernel_rfl)
  nil t u h := nilB_of (view := uview) (by kernel_rfl) h
  pack t cs v h := by
    change upack t cs = some v at h
    unfold upack at h
    split at h
    · exact .inl ( pack_23_inv h)
    split at h
    · exact .inl ( pack_23_inv h)
    split at h
    · exact .inl ( pack_25_inv h)
    split at h
    · exact .inl ( pack_25_inv h)
    split at h
    · exact .inl ( pack_38_inv h)
    split at h
    · exact .inl ( pack_38_inv h)
    split at h
    · exact .inl ( pack_25_inv h)
    split at h
    · exact .inr ( pack_50_inv h)
    cases h
  lit t es u h := by
    change ulit t es = some u at h
    unfold ulit at h
    split at h
    · exact lit_case (view := uview) (g := fun n => .typ (.s25 n)) default of_l25_inv (fun _ => rfl) h
    split at h
    · exact lit_case (view := uview) (g := fun n => .int .i64 n) (0 : Int) of_li_i64_inv (fun _ => rfl) h
    split at h
    · exact lit_case (view := uview) (g := fun n => .typ (.s38 n)) default of_l38_inv (fun _ => rfl) h
    split at h
    · exact lit_case (view := uview) (g := fun n => .typ (.s23 n)) default of_l23_inv (fun _ => rfl) h
    split at h
    · exact lit_case (view := uview) (g := fun n => .typ (.l23 n)) [] of_ll23_inv (fun _ => rfl) h
    split at h
    · exact lit_case (view := uview) (g := fun n => .typ (.s25 n)) default of_l25_inv (fun _ => rfl) h
    cases h
  cut u lo hi u' n get h hv h1 h2 := by
    change ucut u lo hi = some u' at h
    change uview u = .sl n get at hv
    cases u with
    | l25 l => change some (UU.l25 _) = some u' at h; cases h; exact ⟨rfl, cut_case (view := uview) (C := .l25) (g := fun n => .typ (.s25 n)) default (fun _ => rfl) hv h1 h2⟩
    | li_i64 l => change some (UU.li_i64 _) = some u' at h; cases h; exact ⟨rfl, cut_case (view := uview) (C := .li_i64) (g := fun n => .int .i64 n) (0 : Int) (fun _ => rfl) hv h1 h2⟩
    | l23 l => change some (UU.l23 _) = some u' at h; cases h; exact ⟨rfl, cut_case (view := uview) (C := .l23) (g := fun n => .typ (.s23 n)) default (fun _ => rfl) hv h1 h2⟩
    | ll23 l => change some (UU.ll23 _) = some u' at h; cases h; exact ⟨rfl, cut_case (view := uview) (C := .ll23) (g := fun n => .typ (.l23 n)) [] (fun _ => rfl) hv h1 h2⟩
    | l38 l => change some (UU.l38 _) = some u' at h; cases h; exact ⟨rfl, cut_case (view := uview) (C := .l38) (g := fun n => .typ (.s38 n)) default (fun _ => rfl) hv h1 h2⟩
    | _ => (change (none : Option UU) = some _ at h; cases h)
  app u v z n get k get' h hv hv' := by
    change uapp u v = some z at h
    change uview u = .sl n get at hv
    change uview v = .sl k get' at hv'
    cases u with
    | l25 a => cases v with
      | l25 b => change some (UU.l25 _) = some z at h; cases h; exact ⟨rfl, rfl, app_case (view := uview) (C := .l25) (g := fun n => .typ (.s25 n)) default (fun _ => rfl) hv hv'⟩
      | _ => (change (none : Option UU) = some _ at h; cases h)
    | li_i64 a => cases v with
      | li_i64 b => change some (UU.li_i64 _) = some z at h; cases h; exact ⟨rfl, rfl, app_case (view := uview) (C := .li_i64) (g := fun n => .int .i64 n) (0 : Int) (fun _ => rfl) hv hv'⟩
      | _ => (change (none : Option UU) = some _ at h; cases h)
    | l23 a => cases v with
      | l23 b => change some (UU.l23 _) = some z at h; cases h; exact ⟨rfl, rfl, app_case (view := uview) (C := .l23) (g := fun n => .typ (.s23 n)) default (fun _ => rfl) hv hv'⟩
      | _ => (change (none : Option UU) = some _ at h; cases h)
    | ll23 a => cases v with
      | ll23 b => change some (UU.ll23 _) = some z at h; cases h; exact ⟨rfl, rfl, app_case (view := uview) (C := .ll23) (g := fun n => .typ (.l23 n)) [] (fun _ => rfl) hv hv'⟩
      | _ => (change (none : Option UU) = some _ at h; cases h)
    | l38 a => cases v with
      | l38 b => change some (UU.l38 _) = some z at h; cases h; exact ⟨rfl, rfl, app_case (view := uview) (C := .l38) (g := fun n => .typ (.s38 n)) default (fun _ => rfl) hv hv'⟩
      | _ => (change (none : Option UU) = some _ at h; cases h)
    | _ => cases v <;> (change (none : Option UU) = some _ at h; cases h)
theorem tok : TOK Try.prog UX := tok_of rfl rfl (by kernel_rfl)end Go.Proofs.Ytahgjfdndpnpfaa.T
