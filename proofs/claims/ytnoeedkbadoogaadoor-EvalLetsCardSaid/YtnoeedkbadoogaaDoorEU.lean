/-
  The plain data's types, and that the program's types are so.
-/
import Derived.Test.YtnoeedkbadoogaaDoorAxGen
import Derived.Test.YtnoeedkbadoogaaDoorEF
import Derived.Test.YtnoeedkbadoogaaDoorProg
import Derived.Test.YtnoeedkbadoogaaDoorAxTab
namespace Go.Proofs.YtnoeedkbadoogaaDoor.E
open Go Go.AX
inductive UU where
  | s23 (x : S23)
  | s25 (x : S25)
  | s37 (x : S37)
  | s126 (x : S126)
  | l25 (x : List T25)
  | l23 (x : List S23)
  | li_u8 (x : List Int)
  | l126 (x : List S126)
  | ls (x : List ByteArray)
  | a77 (x : List S23)
  | l37 (x : List S37)
noncomputable def uview : UU → View UU
  | .s23 x => .segs [.int .i64 x.f0, .int .i64 x.f1, .str x.f2]
  | .s25 x => .segs [.int .i64 x.f0, .int .i64 x.f1.f0, .int .i64 x.f1.f1, .str x.f1.f2, .str x.f2, .str x.f3, .typ (.l25 x.f4)]
  | .s37 x => .segs [.int .i64 x.f0.f0, .int .i64 x.f0.f1.f0, .int .i64 x.f0.f1.f1, .str x.f0.f1.f2, .str x.f0.f2, .str x.f0.f3, .typ (.l25 x.f0.f4), .typ (.l23 x.f1)]
  | .s126 x => .segs [.int .i64 x.f0, .str x.f1, .int .i64 x.f2]
  | .l25 x => .sl x.length fun i => .typ (.s25 (x.getD i default).s)
  | .l23 x => .sl x.length fun i => .typ (.s23 (x.getD i default))
  | .li_u8 x => .sl x.length fun i => .int .u8 (x.getD i 0)
  | .l126 x => .sl x.length fun i => .typ (.s126 (x.getD i default))
  | .ls x => .sl x.length fun i => .str (x.getD i ByteArray.empty)
  | .a77 x => .arr 2 fun i => .typ (.s23 (x.getD i default))
  | .l37 x => .sl x.length fun i => .typ (.s37 (x.getD i default))
noncomputable def uwidth : UU → Nat
  | .a77 _ => 6
  | _ => 1
noncomputable def uesz : UU → Nat
  | .l25 _ => 7
  | .l23 _ => 3
  | .li_u8 _ => 1
  | .l126 _ => 3
  | .ls _ => 1
  | .a77 _ => 3
  | .l37 _ => 8
  | _ => 1
noncomputable def unil : List (Nat × UU) := [(22, .l25 []), (32, .li_u8 []), (35, .l37 []), (36, .l23 []), (55, .ls []), (123, .l126 [])]
noncomputable def of_l25 (v : PV UU) : Option T25 := match v with | .typ (.s25 n) => some n.t | _ => none
theorem of_l25_inv (v : PV UU) (x : T25) (h : of_l25 v = some x) : v = .typ (.s25 x.s) := by
  unfold of_l25 at h
  split at h
  · cases h; rfl
  · cases h
noncomputable def of_l23 (v : PV UU) : Option S23 := match v with | .typ (.s23 n) => some n | _ => none
theorem of_l23_inv (v : PV UU) (x : S23) (h : of_l23 v = some x) : v = .typ (.s23 x) := by
  unfold of_l23 at h
  split at h
  · cases h; rfl
  · cases h
noncomputable def of_li_u8 (v : PV UU) : Option Int := match v with | .int k n => if k = .u8 then some n else none | _ => none
theorem of_li_u8_inv (v : PV UU) (x : Int) (h : of_li_u8 v = some x) : v = .int .u8 x := by
  unfold of_li_u8 at h
  split at h
  · split at h
    · rename_i e; subst e; cases h; rfl
    · cases h
  · cases h
noncomputable def of_l126 (v : PV UU) : Option S126 := match v with | .typ (.s126 n) => some n | _ => none
theorem of_l126_inv (v : PV UU) (x : S126) (h : of_l126 v = some x) : v = .typ (.s126 x) := by
  unfold of_l126 at h
  split at h
  · cases h; rfl
  · cases h
noncomputable def of_ls (v : PV UU) : Option ByteArray := match v with | .str n => some n | _ => none
theorem of_ls_inv (v : PV UU) (x : ByteArray) (h : of_ls v = some x) : v = .str x := by
  unfold of_ls at h
  split at h
  · cases h; rfl
  · cases h
noncomputable def of_a77 (v : PV UU) : Option S23 := match v with | .typ (.s23 n) => some n | _ => none
theorem of_a77_inv (v : PV UU) (x : S23) (h : of_a77 v = some x) : v = .typ (.s23 x) := by
  unfold of_a77 at h
  split at h
  · cases h; rfl
  · cases h
noncomputable def of_l37 (v : PV UU) : Option S37 := match v with | .typ (.s37 n) => some n | _ => none
theorem of_l37_inv (v : PV UU) (x : S37) (h : of_l37 v = some x) : v = .typ (.s37 x) := by
  unfold of_l37 at h
  split at h
  · cases h; rfl
  · cases h
noncomputable def ulit (t : TypeId) (es : List (PV UU)) : Option UU :=
  if t = 22 then (mapO of_l25 es).map .l25 else
  if t = 32 then (mapO of_li_u8 es).map .li_u8 else
  if t = 35 then (mapO of_l37 es).map .l37 else
  if t = 36 then (mapO of_l23 es).map .l23 else
  if t = 55 then (mapO of_ls es).map .ls else
  if t = 123 then (mapO of_l126 es).map .l126 else
  none
noncomputable def as_s23 {ρ : Type} (v : AV UU) (K : S23 → Option ρ) : Option ρ := asU v fun u => match u with | .s23 x => K x | _ => none
theorem as_s23_inv {ρ : Type} {v : AV UU} {K : S23 → Option ρ} {r : ρ} (h : as_s23 v K = some r) : ∃ x, v = .pv (.typ (.s23 x)) ∧ K x = some r := by
  replace h := asU_inv h
  obtain ⟨u, rfl, h⟩ := h
  split at h
  · exact ⟨_, rfl, h⟩
  · cases h
noncomputable def as_s25 {ρ : Type} (v : AV UU) (K : S25 → Option ρ) : Option ρ := asU v fun u => match u with | .s25 x => K x | _ => none
theorem as_s25_inv {ρ : Type} {v : AV UU} {K : S25 → Option ρ} {r : ρ} (h : as_s25 v K = some r) : ∃ x, v = .pv (.typ (.s25 x)) ∧ K x = some r := by
  replace h := asU_inv h
  obtain ⟨u, rfl, h⟩ := h
  split at h
  · exact ⟨_, rfl, h⟩
  · cases h
noncomputable def as_s37 {ρ : Type} (v : AV UU) (K : S37 → Option ρ) : Option ρ := asU v fun u => match u with | .s37 x => K x | _ => none
theorem as_s37_inv {ρ : Type} {v : AV UU} {K : S37 → Option ρ} {r : ρ} (h : as_s37 v K = some r) : ∃ x, v = .pv (.typ (.s37 x)) ∧ K x = some r := by
  replace h := asU_inv h
  obtain ⟨u, rfl, h⟩ := h
  split at h
  · exact ⟨_, rfl, h⟩
  · cases h
noncomputable def as_s126 {ρ : Type} (v : AV UU) (K : S126 → Option ρ) : Option ρ := asU v fun u => match u with | .s126 x => K x | _ => none
theorem as_s126_inv {ρ : Type} {v : AV UU} {K : S126 → Option ρ} {r : ρ} (h : as_s126 v K = some r) : ∃ x, v = .pv (.typ (.s126 x)) ∧ K x = some r := by
  replace h := asU_inv h
  obtain ⟨u, rfl, h⟩ := h
  split at h
  · exact ⟨_, rfl, h⟩
  · cases h
noncomputable def as_l25 {ρ : Type} (v : AV UU) (K : List T25 → Option ρ) : Option ρ := asU v fun u => match u with | .l25 x => K x | _ => none
theorem as_l25_inv {ρ : Type} {v : AV UU} {K : List T25 → Option ρ} {r : ρ} (h : as_l25 v K = some r) : ∃ x, v = .pv (.typ (.l25 x)) ∧ K x = some r := by
  replace h := asU_inv h
  obtain ⟨u, rfl, h⟩ := h
  split at h
  · exact ⟨_, rfl, h⟩
  · cases h
noncomputable def asO_l25 {ρ : Type} (v : AV UU) (K : List T25 → Option ρ) : Option ρ := asO v fun u => match u with | .l25 x => K x | _ => none
noncomputable def asOT_l25 {ρ : Type} (v : AV UU) (K : List T25 → List (PV UU) → Option ρ) : Option ρ := asOT v fun u q => match u with | .l25 x => K x q | _ => none
theorem asOT_l25_inv {ρ : Type} {v : AV UU} {K : List T25 → List (PV UU) → Option ρ} {r : ρ} (h : asOT_l25 v K = some r) : ∃ x q, v = .otup (some (.l25 x)) q ∧ K x q = some r := by
  replace h := asOT_inv h
  obtain ⟨u, q, rfl, h⟩ := h
  split at h
  · exact ⟨_, _, rfl, h⟩
  · cases h
theorem asO_l25_inv {ρ : Type} {v : AV UU} {K : List T25 → Option ρ} {r : ρ} (h : asO_l25 v K = some r) : ∃ x, v = .own (.l25 x) ∧ K x = some r := by
  replace h := asO_inv h
  obtain ⟨u, rfl, h⟩ := h
  split at h
  · exact ⟨_, rfl, h⟩
  · cases h
noncomputable def as_l23 {ρ : Type} (v : AV UU) (K : List S23 → Option ρ) : Option ρ := asU v fun u => match u with | .l23 x => K x | _ => none
theorem as_l23_inv {ρ : Type} {v : AV UU} {K : List S23 → Option ρ} {r : ρ} (h : as_l23 v K = some r) : ∃ x, v = .pv (.typ (.l23 x)) ∧ K x = some r := by
  replace h := asU_inv h
  obtain ⟨u, rfl, h⟩ := h
  split at h
  · exact ⟨_, rfl, h⟩
  · cases h
noncomputable def asO_l23 {ρ : Type} (v : AV UU) (K : List S23 → Option ρ) : Option ρ := asO v fun u => match u with | .l23 x => K x | _ => none
noncomputable def asOT_l23 {ρ : Type} (v : AV UU) (K : List S23 → List (PV UU) → Option ρ) : Option ρ := asOT v fun u q => match u with | .l23 x => K x q | _ => none
theorem asOT_l23_inv {ρ : Type} {v : AV UU} {K : List S23 → List (PV UU) → Option ρ} {r : ρ} (h : asOT_l23 v K = some r) : ∃ x q, v = .otup (some (.l23 x)) q ∧ K x q = some r := by
  replace h := asOT_inv h
  obtain ⟨u, q, rfl, h⟩ := h
  split at h
  · exact ⟨_, _, rfl, h⟩
  · cases h
theorem asO_l23_inv {ρ : Type} {v : AV UU} {K : List S23 → Option ρ} {r : ρ} (h : asO_l23 v K = some r) : ∃ x, v = .own (.l23 x) ∧ K x = some r := by
  replace h := asO_inv h
  obtain ⟨u, rfl, h⟩ := h
  split at h
  · exact ⟨_, rfl, h⟩
  · cases h
noncomputable def as_li_u8 {ρ : Type} (v : AV UU) (K : List Int → Option ρ) : Option ρ := asU v fun u => match u with | .li_u8 x => K x | _ => none
theorem as_li_u8_inv {ρ : Type} {v : AV UU} {K : List Int → Option ρ} {r : ρ} (h : as_li_u8 v K = some r) : ∃ x, v = .pv (.typ (.li_u8 x)) ∧ K x = some r := by
  replace h := asU_inv h
  obtain ⟨u, rfl, h⟩ := h
  split at h
  · exact ⟨_, rfl, h⟩
  · cases h
noncomputable def asO_li_u8 {ρ : Type} (v : AV UU) (K : List Int → Option ρ) : Option ρ := asO v fun u => match u with | .li_u8 x => K x | _ => none
noncomputable def asOT_li_u8 {ρ : Type} (v : AV UU) (K : List Int → List (PV UU) → Option ρ) : Option ρ := asOT v fun u q => match u with | .li_u8 x => K x q | _ => none
theorem asOT_li_u8_inv {ρ : Type} {v : AV UU} {K : List Int → List (PV UU) → Option ρ} {r : ρ} (h : asOT_li_u8 v K = some r) : ∃ x q, v = .otup (some (.li_u8 x)) q ∧ K x q = some r := by
  replace h := asOT_inv h
  obtain ⟨u, q, rfl, h⟩ := h
  split at h
  · exact ⟨_, _, rfl, h⟩
  · cases h
theorem asO_li_u8_inv {ρ : Type} {v : AV UU} {K : List Int → Option ρ} {r : ρ} (h : asO_li_u8 v K = some r) : ∃ x, v = .own (.li_u8 x) ∧ K x = some r := by
  replace h := asO_inv h
  obtain ⟨u, rfl, h⟩ := h
  split at h
  · exact ⟨_, rfl, h⟩
  · cases h
noncomputable def as_l126 {ρ : Type} (v : AV UU) (K : List S126 → Option ρ) : Option ρ := asU v fun u => match u with | .l126 x => K x | _ => none
theorem as_l126_inv {ρ : Type} {v : AV UU} {K : List S126 → Option ρ} {r : ρ} (h : as_l126 v K = some r) : ∃ x, v = .pv (.typ (.l126 x)) ∧ K x = some r := by
  replace h := asU_inv h
  obtain ⟨u, rfl, h⟩ := h
  split at h
  · exact ⟨_, rfl, h⟩
  · cases h
noncomputable def asO_l126 {ρ : Type} (v : AV UU) (K : List S126 → Option ρ) : Option ρ := asO v fun u => match u with | .l126 x => K x | _ => none
noncomputable def asOT_l126 {ρ : Type} (v : AV UU) (K : List S126 → List (PV UU) → Option ρ) : Option ρ := asOT v fun u q => match u with | .l126 x => K x q | _ => none
theorem asOT_l126_inv {ρ : Type} {v : AV UU} {K : List S126 → List (PV UU) → Option ρ} {r : ρ} (h : asOT_l126 v K = some r) : ∃ x q, v = .otup (some (.l126 x)) q ∧ K x q = some r := by
  replace h := asOT_inv h
  obtain ⟨u, q, rfl, h⟩ := h
  split at h
  · exact ⟨_, _, rfl, h⟩
  · cases h
theorem asO_l126_inv {ρ : Type} {v : AV UU} {K : List S126 → Option ρ} {r : ρ} (h : asO_l126 v K = some r) : ∃ x, v = .own (.l126 x) ∧ K x = some r := by
  replace h := asO_inv h
  obtain ⟨u, rfl, h⟩ := h
  split at h
  · exact ⟨_, rfl, h⟩
  · cases h
noncomputable def as_ls {ρ : Type} (v : AV UU) (K : List ByteArray → Option ρ) : Option ρ := asU v fun u => match u with | .ls x => K x | _ => none
theorem as_ls_inv {ρ : Type} {v : AV UU} {K : List ByteArray → Option ρ} {r : ρ} (h : as_ls v K = some r) : ∃ x, v = .pv (.typ (.ls x)) ∧ K x = some r := by
  replace h := asU_inv h
  obtain ⟨u, rfl, h⟩ := h
  split at h
  · exact ⟨_, rfl, h⟩
  · cases h
noncomputable def asO_ls {ρ : Type} (v : AV UU) (K : List ByteArray → Option ρ) : Option ρ := asO v fun u => match u with | .ls x => K x | _ => none
noncomputable def asOT_ls {ρ : Type} (v : AV UU) (K : List ByteArray → List (PV UU) → Option ρ) : Option ρ := asOT v fun u q => match u with | .ls x => K x q | _ => none
theorem asOT_ls_inv {ρ : Type} {v : AV UU} {K : List ByteArray → List (PV UU) → Option ρ} {r : ρ} (h : asOT_ls v K = some r) : ∃ x q, v = .otup (some (.ls x)) q ∧ K x q = some r := by
  replace h := asOT_inv h
  obtain ⟨u, q, rfl, h⟩ := h
  split at h
  · exact ⟨_, _, rfl, h⟩
  · cases h
theorem asO_ls_inv {ρ : Type} {v : AV UU} {K : List ByteArray → Option ρ} {r : ρ} (h : asO_ls v K = some r) : ∃ x, v = .own (.ls x) ∧ K x = some r := by
  replace h := asO_inv h
  obtain ⟨u, rfl, h⟩ := h
  split at h
  · exact ⟨_, rfl, h⟩
  · cases h
noncomputable def as_a77 {ρ : Type} (v : AV UU) (K : List S23 → Option ρ) : Option ρ := asU v fun u => match u with | .a77 x => K x | _ => none
theorem as_a77_inv {ρ : Type} {v : AV UU} {K : List S23 → Option ρ} {r : ρ} (h : as_a77 v K = some r) : ∃ x, v = .pv (.typ (.a77 x)) ∧ K x = some r := by
  replace h := asU_inv h
  obtain ⟨u, rfl, h⟩ := h
  split at h
  · exact ⟨_, rfl, h⟩
  · cases h
noncomputable def as_l37 {ρ : Type} (v : AV UU) (K : List S37 → Option ρ) : Option ρ := asU v fun u => match u with | .l37 x => K x | _ => none
theorem as_l37_inv {ρ : Type} {v : AV UU} {K : List S37 → Option ρ} {r : ρ} (h : as_l37 v K = some r) : ∃ x, v = .pv (.typ (.l37 x)) ∧ K x = some r := by
  replace h := asU_inv h
  obtain ⟨u, rfl, h⟩ := h
  split at h
  · exact ⟨_, rfl, h⟩
  · cases h
noncomputable def asO_l37 {ρ : Type} (v : AV UU) (K : List S37 → Option ρ) : Option ρ := asO v fun u => match u with | .l37 x => K x | _ => none
noncomputable def asOT_l37 {ρ : Type} (v : AV UU) (K : List S37 → List (PV UU) → Option ρ) : Option ρ := asOT v fun u q => match u with | .l37 x => K x q | _ => none
theorem asOT_l37_inv {ρ : Type} {v : AV UU} {K : List S37 → List (PV UU) → Option ρ} {r : ρ} (h : asOT_l37 v K = some r) : ∃ x q, v = .otup (some (.l37 x)) q ∧ K x q = some r := by
  replace h := asOT_inv h
  obtain ⟨u, q, rfl, h⟩ := h
  split at h
  · exact ⟨_, _, rfl, h⟩
  · cases h
theorem asO_l37_inv {ρ : Type} {v : AV UU} {K : List S37 → Option ρ} {r : ρ} (h : asO_l37 v K = some r) : ∃ x, v = .own (.l37 x) ∧ K x = some r := by
  replace h := asO_inv h
  obtain ⟨u, rfl, h⟩ := h
  split at h
  · exact ⟨_, rfl, h⟩
  · cases h
noncomputable def pack_23 (cs : List (PV UU)) : Option (PV UU) :=
popA cs fun v1 a2 =>
asI .i64 (.pv v1) fun z0 =>
popA a2 fun v3 a4 =>
asI .i64 (.pv v3) fun z1 =>
popA a4 fun v5 a6 =>
asS (.pv v5) fun z2 =>
popN a6 <|
some (.typ (.s23 (⟨z0, z1, z2⟩ : S23)))
noncomputable def pack_25 (cs : List (PV UU)) : Option (PV UU) :=
popA cs fun v1 a2 =>
asI .i64 (.pv v1) fun z0 =>
popA a2 fun v3 a4 =>
asI .i64 (.pv v3) fun z1 =>
popA a4 fun v5 a6 =>
asI .i64 (.pv v5) fun z2 =>
popA a6 fun v7 a8 =>
asS (.pv v7) fun z3 =>
popA a8 fun v9 a10 =>
asS (.pv v9) fun z4 =>
popA a10 fun v11 a12 =>
asS (.pv v11) fun z5 =>
popA a12 fun v13 a14 =>
as_l25 (.pv v13) fun z6 =>
popN a14 <|
some (.typ (.s25 (⟨z0, (⟨z1, z2, z3⟩ : S23), z4, z5, z6⟩ : S25)))
noncomputable def pack_37 (cs : List (PV UU)) : Option (PV UU) :=
popA cs fun v1 a2 =>
asI .i64 (.pv v1) fun z0 =>
popA a2 fun v3 a4 =>
asI .i64 (.pv v3) fun z1 =>
popA a4 fun v5 a6 =>
asI .i64 (.pv v5) fun z2 =>
popA a6 fun v7 a8 =>
asS (.pv v7) fun z3 =>
popA a8 fun v9 a10 =>
asS (.pv v9) fun z4 =>
popA a10 fun v11 a12 =>
asS (.pv v11) fun z5 =>
popA a12 fun v13 a14 =>
as_l25 (.pv v13) fun z6 =>
popA a14 fun v15 a16 =>
as_l23 (.pv v15) fun z7 =>
popN a16 <|
some (.typ (.s37 (⟨(⟨z0, (⟨z1, z2, z3⟩ : S23), z4, z5, z6⟩ : S25), z7⟩ : S37)))
noncomputable def pack_126 (cs : List (PV UU)) : Option (PV UU) :=
popA cs fun v1 a2 =>
asI .i64 (.pv v1) fun z0 =>
popA a2 fun v3 a4 =>
asS (.pv v3) fun z1 =>
popA a4 fun v5 a6 =>
asI .i64 (.pv v5) fun z2 =>
popN a6 <|
some (.typ (.s126 (⟨z0, z1, z2⟩ : S126)))
noncomputable def packa_77 (_ : List (PV UU)) : Option (PV UU) := none
noncomputable def pack_77 (cs : List (PV UU)) : Option (PV UU) := match cs with | [.typ (.a77 l)] => some (.typ (.a77 l)) | _ => packa_77 cs
theorem pack_23_inv {cs : List (PV UU)} {v : PV UU} (h : pack_23 cs = some v) : ∃ u, v = .typ u ∧ uview u = .segs cs := by
  unfold pack_23 at h
  replace h := popA_inv h; obtain ⟨v1, a2, rfl, h⟩ := h
  replace h := asI_inv h; obtain ⟨z0, e, h⟩ := h; cases e
  replace h := popA_inv h; obtain ⟨v3, a4, rfl, h⟩ := h
  replace h := asI_inv h; obtain ⟨z1, e, h⟩ := h; cases e
  replace h := popA_inv h; obtain ⟨v5, a6, rfl, h⟩ := h
  replace h := asS_inv h; obtain ⟨z2, e, h⟩ := h; cases e
  replace h := popN_inv h; obtain ⟨rfl, h⟩ := h
  cases h
  exact ⟨_, rfl, rfl⟩
theorem pack_25_inv {cs : List (PV UU)} {v : PV UU} (h : pack_25 cs = some v) : ∃ u, v = .typ u ∧ uview u = .segs cs := by
  unfold pack_25 at h
  replace h := popA_inv h; obtain ⟨v1, a2, rfl, h⟩ := h
  replace h := asI_inv h; obtain ⟨z0, e, h⟩ := h; cases e
  replace h := popA_inv h; obtain ⟨v3, a4, rfl, h⟩ := h
  replace h := asI_inv h; obtain ⟨z1, e, h⟩ := h; cases e
  replace h := popA_inv h; obtain ⟨v5, a6, rfl, h⟩ := h
  replace h := asI_inv h; obtain ⟨z2, e, h⟩ := h; cases e
  replace h := popA_inv h; obtain ⟨v7, a8, rfl, h⟩ := h
  replace h := asS_inv h; obtain ⟨z3, e, h⟩ := h; cases e
  replace h := popA_inv h; obtain ⟨v9, a10, rfl, h⟩ := h
  replace h := asS_inv h; obtain ⟨z4, e, h⟩ := h; cases e
  replace h := popA_inv h; obtain ⟨v11, a12, rfl, h⟩ := h
  replace h := asS_inv h; obtain ⟨z5, e, h⟩ := h; cases e
  replace h := popA_inv h; obtain ⟨v13, a14, rfl, h⟩ := h
  replace h := as_l25_inv h; obtain ⟨z6, e, h⟩ := h; cases e
  replace h := popN_inv h; obtain ⟨rfl, h⟩ := h
  cases h
  exact ⟨_, rfl, rfl⟩
theorem pack_37_inv {cs : List (PV UU)} {v : PV UU} (h : pack_37 cs = some v) : ∃ u, v = .typ u ∧ uview u = .segs cs := by
  unfold pack_37 at h
  replace h := popA_inv h; obtain ⟨v1, a2, rfl, h⟩ := h
  replace h := asI_inv h; obtain ⟨z0, e, h⟩ := h; cases e
  replace h := popA_inv h; obtain ⟨v3, a4, rfl, h⟩ := h
  replace h := asI_inv h; obtain ⟨z1, e, h⟩ := h; cases e
  replace h := popA_inv h; obtain ⟨v5, a6, rfl, h⟩ := h
  replace h := asI_inv h; obtain ⟨z2, e, h⟩ := h; cases e
  replace h := popA_inv h; obtain ⟨v7, a8, rfl, h⟩ := h
  replace h := asS_inv h; obtain ⟨z3, e, h⟩ := h; cases e
  replace h := popA_inv h; obtain ⟨v9, a10, rfl, h⟩ := h
  replace h := asS_inv h; obtain ⟨z4, e, h⟩ := h; cases e
  replace h := popA_inv h; obtain ⟨v11, a12, rfl, h⟩ := h
  replace h := asS_inv h; obtain ⟨z5, e, h⟩ := h; cases e
  replace h := popA_inv h; obtain ⟨v13, a14, rfl, h⟩ := h
  replace h := as_l25_inv h; obtain ⟨z6, e, h⟩ := h; cases e
  replace h := popA_inv h; obtain ⟨v15, a16, rfl, h⟩ := h
  replace h := as_l23_inv h; obtain ⟨z7, e, h⟩ := h; cases e
  replace h := popN_inv h; obtain ⟨rfl, h⟩ := h
  cases h
  exact ⟨_, rfl, rfl⟩
theorem pack_126_inv {cs : List (PV UU)} {v : PV UU} (h : pack_126 cs = some v) : ∃ u, v = .typ u ∧ uview u = .segs cs := by
  unfold pack_126 at h
  replace h := popA_inv h; obtain ⟨v1, a2, rfl, h⟩ := h
  replace h := asI_inv h; obtain ⟨z0, e, h⟩ := h; cases e
  replace h := popA_inv h; obtain ⟨v3, a4, rfl, h⟩ := h
  replace h := asS_inv h; obtain ⟨z1, e, h⟩ := h; cases e
  replace h := popA_inv h; obtain ⟨v5, a6, rfl, h⟩ := h
  replace h := asI_inv h; obtain ⟨z2, e, h⟩ := h; cases e
  replace h := popN_inv h; obtain ⟨rfl, h⟩ := h
  cases h
  exact ⟨_, rfl, rfl⟩
noncomputable def upack (t : TypeId) (cs : List (PV UU)) : Option (PV UU) :=
  if t = 23 then pack_23 cs else
  if t = 24 then pack_23 cs else
  if t = 25 then pack_25 cs else
  if t = 26 then pack_25 cs else
  if t = 37 then pack_37 cs else
  if t = 38 then pack_37 cs else
  if t = 77 then pack_77 cs else
  if t = 126 then pack_126 cs else
  if t = 127 then pack_126 cs else
  none
noncomputable def uapp : UU → UU → Option UU
  | .l25 a, .l25 b => some (.l25 (a ++ b))
  | .l23 a, .l23 b => some (.l23 (a ++ b))
  | .li_u8 a, .li_u8 b => some (.li_u8 (a ++ b))
  | .l126 a, .l126 b => some (.l126 (a ++ b))
  | .ls a, .ls b => some (.ls (a ++ b))
  | .l37 a, .l37 b => some (.l37 (a ++ b))
  | _, _ => none
noncomputable def ucut : UU → Nat → Nat → Option UU
  | .l25 l, lo, hi => some (.l25 ((l.drop lo).take (hi - lo)))
  | .l23 l, lo, hi => some (.l23 ((l.drop lo).take (hi - lo)))
  | .li_u8 l, lo, hi => some (.li_u8 ((l.drop lo).take (hi - lo)))
  | .l126 l, lo, hi => some (.l126 ((l.drop lo).take (hi - lo)))
  | .ls l, lo, hi => some (.ls ((l.drop lo).take (hi - lo)))
  | .l37 l, lo, hi => some (.l37 ((l.drop lo).take (hi - lo)))
  | _, _, _ => none
noncomputable def uzr (t : TypeId) (n : Nat) : Option UU :=
  none
noncomputable def uset : UU → Nat → PV UU → Option UU
  | .l25 l, i, v => (of_l25 v).map fun x => .l25 (l.set i x)
  | .l23 l, i, v => (of_l23 v).map fun x => .l23 (l.set i x)
  | .li_u8 l, i, v => (of_li_u8 v).map fun x => .li_u8 (l.set i x)
  | .l126 l, i, v => (of_l126 v).map fun x => .l126 (l.set i x)
  | .ls l, i, v => (of_ls v).map fun x => .ls (l.set i x)
  | .l37 l, i, v => (of_l37 v).map fun x => .l37 (l.set i x)
  | _, _, _ => none
noncomputable def usetA : UU → Nat → PV UU → Option UU
  | .a77 l, i, v => (of_a77 v).map fun x => .a77 (l.set i x)
  | _, _, _ => none
noncomputable def ulenA : UU → Nat
  | .a77 l => l.length
  | _ => 0
noncomputable def uover : UU → Nat → Nat → UU → Option UU
  | .li_u8 l, lo, n, .li_u8 q => some (.li_u8 (overL l lo n q))
  | _, _, _, _ => none
noncomputable def uofs (s : ByteArray) : Option UU := some (.li_u8 (bytesOf s))
noncomputable def utos : UU → Option ByteArray
  | .li_u8 l => some (strOfNums l)
  | _ => none
noncomputable def utab : List (Nat × TI) := [(2, ⟨.int .i64, 1, 8⟩),
  (3, ⟨.int .i64, 1, 8⟩),
  (4, ⟨.bool, 1, 1⟩),
  (5, ⟨.int .u8, 1, 1⟩),
  (6, ⟨.int .u8, 1, 1⟩),
  (9, ⟨.str, 1, 16⟩),
  (10, ⟨.str, 1, 16⟩),
  (11, ⟨.str, 1, 16⟩),
  (12, ⟨.int .u64, 1, 8⟩),
  (21, ⟨.int .i32, 1, 4⟩),
  (22, ⟨.slice 26, 1, 24⟩),
  (23, ⟨.struct [(0, 3), (1, 2), (2, 9)], 3, 32⟩),
  (24, ⟨.struct [(0, 3), (1, 2), (2, 9)], 3, 32⟩),
  (25, ⟨.struct [(0, 3), (1, 24), (4, 9), (5, 9), (6, 22)], 7, 96⟩),
  (26, ⟨.struct [(0, 3), (1, 24), (4, 9), (5, 9), (6, 22)], 7, 96⟩),
  (28, ⟨.int .i64, 1, 8⟩),
  (32, ⟨.slice 5, 1, 24⟩),
  (35, ⟨.slice 38, 1, 24⟩),
  (36, ⟨.slice 24, 1, 24⟩),
  (37, ⟨.struct [(0, 26), (7, 36)], 8, 120⟩),
  (38, ⟨.struct [(0, 26), (7, 36)], 8, 120⟩),
  (55, ⟨.slice 9, 1, 24⟩),
  (77, ⟨.array 2 24, 6, 64⟩),
  (99, ⟨.int .u64, 1, 8⟩),
  (123, ⟨.slice 127, 1, 24⟩),
  (126, ⟨.struct [(0, 3), (1, 9), (2, 2)], 3, 32⟩),
  (127, ⟨.struct [(0, 3), (1, 9), (2, 2)], 3, 32⟩),
  (130, ⟨.int .u64, 1, 8⟩),
  (147, ⟨.int .u32, 1, 4⟩),
  (171, ⟨.int .u8, 1, 1⟩),
  (172, ⟨.int .u8, 1, 1⟩),
  (175, ⟨.int .i32, 1, 4⟩),
  (176, ⟨.int .i32, 1, 4⟩)]
noncomputable def uinv (D : Nat → Prop) (w : World) : Prop := TabOk Tryd.prog D w "internal/strconv.uint64pow10" .u64 Lib.pow10Tab
noncomputable def uzeros : List (Nat × List (AV UU)) := [(2, [.pv (.int .i64 0)]),
  (3, [.pv (.int .i64 0)]),
  (4, [.pv (.bool false)]),
  (5, [.pv (.int .u8 0)]),
  (6, [.pv (.int .u8 0)]),
  (9, [.pv (.str ByteArray.empty)]),
  (10, [.pv (.str ByteArray.empty)]),
  (11, [.pv (.str ByteArray.empty)]),
  (12, [.pv (.int .u64 0)]),
  (21, [.pv (.int .i32 0)]),
  (22, [.pv (.typ (.l25 []))]),
  (23, [.pv (.int .i64 0), .pv (.int .i64 0), .pv (.str ByteArray.empty)]),
  (24, [.pv (.int .i64 0), .pv (.int .i64 0), .pv (.str ByteArray.empty)]),
  (25, [.pv (.int .i64 0), .pv (.int .i64 0), .pv (.int .i64 0), .pv (.str ByteArray.empty), .pv (.str ByteArray.empty), .pv (.str ByteArray.empty), .pv (.typ (.l25 []))]),
  (26, [.pv (.int .i64 0), .pv (.int .i64 0), .pv (.int .i64 0), .pv (.str ByteArray.empty), .pv (.str ByteArray.empty), .pv (.str ByteArray.empty), .pv (.typ (.l25 []))]),
  (28, [.pv (.int .i64 0)]),
  (32, [.pv (.typ (.li_u8 []))]),
  (35, [.pv (.typ (.l37 []))]),
  (36, [.pv (.typ (.l23 []))]),
  (37, [.pv (.int .i64 0), .pv (.int .i64 0), .pv (.int .i64 0), .pv (.str ByteArray.empty), .pv (.str ByteArray.empty), .pv (.str ByteArray.empty), .pv (.typ (.l25 [])), .pv (.typ (.l23 []))]),
  (38, [.pv (.int .i64 0), .pv (.int .i64 0), .pv (.int .i64 0), .pv (.str ByteArray.empty), .pv (.str ByteArray.empty), .pv (.str ByteArray.empty), .pv (.typ (.l25 [])), .pv (.typ (.l23 []))]),
  (55, [.pv (.typ (.ls []))]),
  (77, [.pv (.typ (.a77 (List.replicate 2 default)))]),
  (99, [.pv (.int .u64 0)]),
  (123, [.pv (.typ (.l126 []))]),
  (126, [.pv (.int .i64 0), .pv (.str ByteArray.empty), .pv (.int .i64 0)]),
  (127, [.pv (.int .i64 0), .pv (.str ByteArray.empty), .pv (.int .i64 0)]),
  (130, [.pv (.int .u64 0)]),
  (147, [.pv (.int .u32 0)]),
  (171, [.pv (.int .u8 0)]),
  (172, [.pv (.int .u8 0)]),
  (175, [.pv (.int .i32 0)]),
  (176, [.pv (.int .i32 0)])]
noncomputable def UX : Univ where
  U := UU
  view := uview
  width := uwidth
  esz := uesz
  nil := assoc unil
  lit := ulit
  zeros := uzr
  pack := upack
  app := uapp
  appS _ _ := none
  cut := ucut
  set := uset
  setA := usetA
  lenA := ulenA
  over := uover
  ofStr := uofs
  toStr := utos
  ty := assoc utab
  inv := uinv
  zero := assoc uzeros
theorem packa_77_inv {cs : List (PV UX.U)} {v : PV UX.U} (h : packa_77 cs = some v) : ∃ u n get, v = .typ u ∧ UX.view u = .arr n get ∧ cs.length = n ∧ (∀ i (h : i < cs.length), cs[i] = get i ∧ PV.segW UX cs[i] = UX.esz u) ∧ UX.width u = n * UX.esz u := by
  unfold packa_77 at h
  cases h
theorem pack_77_c {cs : List (PV UU)} {v : PV UU} (h : pack_77 cs = some v) : (∃ l, cs = [.typ (.a77 l)] ∧ v = .typ (.a77 l)) ∨ packa_77 cs = some v := by
  unfold pack_77 at h
  split at h
  · cases h; exact .inl ⟨_, rfl, rfl⟩
  · exact .inr h
theorem pack_77_inv {cs : List (PV UX.U)} {v : PV UX.U} (h : pack_77 cs = some v) : (∃ u n get, v = .typ u ∧ UX.view u = .arr n get ∧ cs.length = n ∧ (∀ i (h : i < cs.length), cs[i] = get i ∧ PV.segW UX cs[i] = UX.esz u) ∧ UX.width u = n * UX.esz u) ∨ ∃ u n get, v = .typ u ∧ UX.view u = .arr n get ∧ cs = [v] := by
  rcases pack_77_c h with ⟨l, rfl, rfl⟩ | h
  · exact .inr ⟨_, _, _, rfl, rfl, rfl⟩
  · exact .inl (packa_77_inv h)
theorem xok : XOK UX where
  wpos u := by cases u <;> exact of_decide_eq_true (by kernel_rfl)
  nil t u h := nilB_of (view := uview) (by kernel_rfl) h
  pack t cs v h := by
    change upack t cs = some v at h
    unfold upack at h
    split at h
    · exact .inl ( pack_23_inv h)
    split at h
    · exact .inl ( pack_23_inv h)
    split at h
    · exact .inl ( pack_25_inv h)
    split at h
    · exact .inl ( pack_25_inv h)
    split at h
    · exact .inl ( pack_37_inv h)
    split at h
    · exact .inl ( pack_37_inv h)
    split at h
    · exact .inr ( pack_77_inv h)
    split at h
    · exact .inl ( pack_126_inv h)
    split at h
    · exact .inl ( pack_126_inv h)
    cases h
  lit t es u h := by
    change ulit t es = some u at h
    unfold ulit at h
    split at h
    · exact lit_case (view := uview) (g := fun n => .typ (.s25 n.s)) default of_l25_inv (fun _ => rfl) h
    split at h
    · exact lit_case (view := uview) (g := fun n => .int .u8 n) (0 : Int) of_li_u8_inv (fun _ => rfl) h
    split at h
    · exact lit_case (view := uview) (g := fun n => .typ (.s37 n)) default of_l37_inv (fun _ => rfl) h
    split at h
    · exact lit_case (view := uview) (g := fun n => .typ (.s23 n)) default of_l23_inv (fun _ => rfl) h
    split at h
    · exact lit_case (view := uview) (g := fun n => .str n) ByteArray.empty of_ls_inv (fun _ => rfl) h
    split at h
    · exact lit_case (view := uview) (g := fun n => .typ (.s126 n)) default of_l126_inv (fun _ => rfl) h
    cases h
  cut u lo hi u' n get h hv h1 h2 := by
    change ucut u lo hi = some u' at h
    change uview u = .sl n get at hv
    cases u with
    | l25 l => change some (UU.l25 _) = some u' at h; cases h; exact ⟨rfl, cut_case (view := uview) (C := .l25) (g := fun n => .typ (.s25 n.s)) default (fun _ => rfl) hv h1 h2⟩
    | l23 l => change some (UU.l23 _) = some u' at h; cases h; exact ⟨rfl, cut_case (view := uview) (C := .l23) (g := fun n => .typ (.s23 n)) default (fun _ => rfl) hv h1 h2⟩
    | li_u8 l => change some (UU.li_u8 _) = some u' at h; cases h; exact ⟨rfl, cut_case (view := uview) (C := .li_u8) (g := fun n => .int .u8 n) (0 : Int) (fun _ => rfl) hv h1 h2⟩
    | l126 l => change some (UU.l126 _) = some u' at h; cases h; exact ⟨rfl, cut_case (view := uview) (C := .l126) (g := fun n => .typ (.s126 n)) default (fun _ => rfl) hv h1 h2⟩
    | ls l => change some (UU.ls _) = some u' at h; cases h; exact ⟨rfl, cut_case (view := uview) (C := .ls) (g := fun n => .str n) ByteArray.empty (fun _ => rfl) hv h1 h2⟩
    | l37 l => change some (UU.l37 _) = some u' at h; cases h; exact ⟨rfl, cut_case (view := uview) (C := .l37) (g := fun n => .typ (.s37 n)) default (fun _ => rfl) hv h1 h2⟩
    | _ => (change (none : Option UU) = some _ at h; cases h)
  app u v z n get k get' h hv hv' := by
    change uapp u v = some z at h
    change uview u = .sl n get at hv
    change uview v = .sl k get' at hv'
    cases u with
    | l25 a => cases v with
      | l25 b => change some (UU.l25 _) = some z at h; cases h; exact ⟨rfl, rfl, app_case (view := uview) (C := .l25) (g := fun n => .typ (.s25 n.s)) default (fun _ => rfl) hv hv'⟩
      | _ => (change (none : Option UU) = some _ at h; cases h)
    | l23 a => cases v with
      | l23 b => change some (UU.l23 _) = some z at h; cases h; exact ⟨rfl, rfl, app_case (view := uview) (C := .l23) (g := fun n => .typ (.s23 n)) default (fun _ => rfl) hv hv'⟩
      | _ => (change (none : Option UU) = some _ at h; cases h)
    | li_u8 a => cases v with
      | li_u8 b => change some (UU.li_u8 _) = some z at h; cases h; exact ⟨rfl, rfl, app_case (view := uview) (C := .li_u8) (g := fun n => .int .u8 n) (0 : Int) (fun _ => rfl) hv hv'⟩
      | _ => (change (none : Option UU) = some _ at h; cases h)
    | l126 a => cases v with
      | l126 b => change some (UU.l126 _) = some z at h; cases h; exact ⟨rfl, rfl, app_case (view := uview) (C := .l126) (g := fun n => .typ (.s126 n)) default (fun _ => rfl) hv hv'⟩
      | _ => (change (none : Option UU) = some _ at h; cases h)
    | ls a => cases v with
      | ls b => change some (UU.ls _) = some z at h; cases h; exact ⟨rfl, rfl, app_case (view := uview) (C := .ls) (g := fun n => .str n) ByteArray.empty (fun _ => rfl) hv hv'⟩
      | _ => (change (none : Option UU) = some _ at h; cases h)
    | l37 a => cases v with
      | l37 b => change some (UU.l37 _) = some z at h; cases h; exact ⟨rfl, rfl, app_case (view := uview) (C := .l37) (g := fun n => .typ (.s37 n)) default (fun _ => rfl) hv hv'⟩
      | _ => (change (none : Option UU) = some _ at h; cases h)
    | _ => cases v <;> (change (none : Option UU) = some _ at h; cases h)
  set u i v u' n get h hv hi := by
    change uset u i v = some u' at h
    change uview u = .sl n get at hv
    cases u with
    | l25 l => obtain ⟨x, hx, h⟩ := Option.map_eq_some_iff.1 h; subst h; exact ⟨rfl, set_case (view := uview) (C := .l25) (g := fun n => .typ (.s25 n.s)) default (fun _ => rfl) (of_l25_inv v x hx) hv hi⟩
    | l23 l => obtain ⟨x, hx, h⟩ := Option.map_eq_some_iff.1 h; subst h; exact ⟨rfl, set_case (view := uview) (C := .l23) (g := fun n => .typ (.s23 n)) default (fun _ => rfl) (of_l23_inv v x hx) hv hi⟩
    | li_u8 l => obtain ⟨x, hx, h⟩ := Option.map_eq_some_iff.1 h; subst h; exact ⟨rfl, set_case (view := uview) (C := .li_u8) (g := fun n => .int .u8 n) (0 : Int) (fun _ => rfl) (of_li_u8_inv v x hx) hv hi⟩
    | l126 l => obtain ⟨x, hx, h⟩ := Option.map_eq_some_iff.1 h; subst h; exact ⟨rfl, set_case (view := uview) (C := .l126) (g := fun n => .typ (.s126 n)) default (fun _ => rfl) (of_l126_inv v x hx) hv hi⟩
    | ls l => obtain ⟨x, hx, h⟩ := Option.map_eq_some_iff.1 h; subst h; exact ⟨rfl, set_case (view := uview) (C := .ls) (g := fun n => .str n) ByteArray.empty (fun _ => rfl) (of_ls_inv v x hx) hv hi⟩
    | l37 l => obtain ⟨x, hx, h⟩ := Option.map_eq_some_iff.1 h; subst h; exact ⟨rfl, set_case (view := uview) (C := .l37) (g := fun n => .typ (.s37 n)) default (fun _ => rfl) (of_l37_inv v x hx) hv hi⟩
    | _ => (change (none : Option UU) = some _ at h; cases h)
  setA u i v u' n get h hv hi hi2 := by
    change usetA u i v = some u' at h
    change uview u = .arr n get at hv
    cases u with
    | a77 l => obtain ⟨x, hx, h⟩ := Option.map_eq_some_iff.1 h; subst h; exact ⟨rfl, rfl, seta_case (view := uview) (C := .a77) (g := fun n => .typ (.s23 n)) default (fun _ => rfl) (of_a77_inv v x hx) hv hi2⟩
    | _ => (change (none : Option UU) = some _ at h; cases h)
  over u lo n v u' N get k get2 h hv hv2 h1 h2 := by
    change uover u lo n v = some u' at h
    change uview u = .sl N get at hv
    change uview v = .sl k get2 at hv2
    cases u with
    | li_u8 a => cases v with
      | li_u8 b => change some (UU.li_u8 _) = some u' at h; cases h; exact ⟨rfl, over_case (view := uview) (C := .li_u8) (g := fun n => .int .u8 n) (0 : Int) (fun _ => rfl) hv hv2 h1 h2⟩
      | _ => (change (none : Option UU) = some _ at h; cases h)
    | _ => (change (none : Option UU) = some _ at h; cases h)
  zeros t n u h := by
    change uzr t n = some u at h
    unfold uzr at h
    cases h
  ofStr s u h := by
    change uofs s = some u at h
    cases h
    exact ⟨rfl, ofs_case (view := uview) (C := .li_u8) fun _ => rfl⟩
  inv D D' w w' h h1 h2 h3 := tabOk_keep h h1 h2 h3
  toStr u s h := by
    change utos u = some s at h
    cases u with
    | li_u8 l => cases h; exact ⟨rfl, _, l, rfl, fun _ _ => rfl, rfl⟩
    | _ => (change (none : Option ByteArray) = some _ at h; cases h)
theorem tok : TOK Tryd.prog UX := tok_of rfl rfl (by kernel_rfl)end Go.Proofs.YtnoeedkbadoogaaDoor.E
