/-
  The plain data's types, and that the program's types are so.
-/
import Derived.Test.YtjkgphpmdkbpfaaDoorAxGen
import Derived.Test.YtjkgphpmdkbpfaaDoorVF
import Derived.Test.YtjkgphpmdkbpfaaDoorProg
import Derived.Test.YtjkgphpmdkbpfaaDoorAxTab
namespace Go.Proofs.YtjkgphpmdkbpfaaDoor.V
open Go Go.AX
inductive UU where
  | s29 (x : S29)
  | s43 (x : S43)
  | s25 (x : S25)
  | s55 (x : S55)
  | l29 (x : List S29)
  | l43 (x : List S43)
  | li_u8 (x : List Int)
  | a49 (x : List S29)
  | ls (x : List ByteArray)
  | l25 (x : List S25)
noncomputable def uview : UU → View UU
  | .s29 x => .segs [.int .i64 x.f0, .int .i64 x.f1, .str x.f2]
  | .s43 x => .segs [.int .i64 x.f0, .int .i64 x.f1, .int .i64 x.f2, .int .i64 x.f3, .int .i64 x.f4.f0, .int .i64 x.f4.f1, .str x.f4.f2, .int .i64 x.f5]
  | .s25 x => .segs [.typ (.l43 x.f0), .typ (.l29 x.f1), .int .i64 x.f2, .int .i64 x.f3]
  | .s55 x => .segs [.typ (.a49 x.f0), .typ (.l29 x.f1)]
  | .l29 x => .sl x.length fun i => .typ (.s29 (x.getD i default))
  | .l43 x => .sl x.length fun i => .typ (.s43 (x.getD i default))
  | .li_u8 x => .sl x.length fun i => .int .u8 (x.getD i 0)
  | .a49 x => .arr 256 fun i => .typ (.s29 (x.getD i default))
  | .ls x => .sl x.length fun i => .str (x.getD i ByteArray.empty)
  | .l25 x => .sl x.length fun i => .typ (.s25 (x.getD i default))
noncomputable def uwidth : UU → Nat
  | .a49 _ => 768
  | _ => 1
noncomputable def uesz : UU → Nat
  | .l29 _ => 3
  | .l43 _ => 8
  | .li_u8 _ => 1
  | .a49 _ => 3
  | .ls _ => 1
  | .l25 _ => 4
  | _ => 1
noncomputable def unil : List (Nat × UU) := [(22, .l25 []), (23, .l43 []), (24, .l29 []), (84, .ls []), (87, .li_u8 [])]
noncomputable def of_l29 (v : PV UU) : Option S29 := match v with | .typ (.s29 n) => some n | _ => none
theorem of_l29_inv (v : PV UU) (x : S29) (h : of_l29 v = some x) : v = .typ (.s29 x) := by
  unfold of_l29 at h
  split at h
  · cases h; rfl
  · cases h
noncomputable def of_l43 (v : PV UU) : Option S43 := match v with | .typ (.s43 n) => some n | _ => none
theorem of_l43_inv (v : PV UU) (x : S43) (h : of_l43 v = some x) : v = .typ (.s43 x) := by
  unfold of_l43 at h
  split at h
  · cases h; rfl
  · cases h
noncomputable def of_li_u8 (v : PV UU) : Option Int := match v with | .int k n => if k = .u8 then some n else none | _ => none
theorem of_li_u8_inv (v : PV UU) (x : Int) (h : of_li_u8 v = some x) : v = .int .u8 x := by
  unfold of_li_u8 at h
  split at h
  · split at h
    · rename_i e; subst e; cases h; rfl
    · cases h
  · cases h
noncomputable def of_a49 (v : PV UU) : Option S29 := match v with | .typ (.s29 n) => some n | _ => none
theorem of_a49_inv (v : PV UU) (x : S29) (h : of_a49 v = some x) : v = .typ (.s29 x) := by
  unfold of_a49 at h
  split at h
  · cases h; rfl
  · cases h
noncomputable def of_ls (v : PV UU) : Option ByteArray := match v with | .str n => some n | _ => none
theorem of_ls_inv (v : PV UU) (x : ByteArray) (h : of_ls v = some x) : v = .str x := by
  unfold of_ls at h
  split at h
  · cases h; rfl
  · cases h
noncomputable def of_l25 (v : PV UU) : Option S25 := match v with | .typ (.s25 n) => some n | _ => none
theorem of_l25_inv (v : PV UU) (x : S25) (h : of_l25 v = some x) : v = .typ (.s25 x) := by
  unfold of_l25 at h
  split at h
  · cases h; rfl
  · cases h
noncomputable def ulit (t : TypeId) (es : List (PV UU)) : Option UU :=
  if t = 22 then (mapO of_l25 es).map .l25 else
  if t = 23 then (mapO of_l43 es).map .l43 else
  if t = 24 then (mapO of_l29 es).map .l29 else
  if t = 84 then (mapO of_ls es).map .ls else
  if t = 87 then (mapO of_li_u8 es).map .li_u8 else
  none
noncomputable def as_s29 {ρ : Type} (v : AV UU) (K : S29 → Option ρ) : Option ρ := asU v fun u => match u with | .s29 x => K x | _ => none
theorem as_s29_inv {ρ : Type} {v : AV UU} {K : S29 → Option ρ} {r : ρ} (h : as_s29 v K = some r) : ∃ x, v = .pv (.typ (.s29 x)) ∧ K x = some r := by
  replace h := asU_inv h
  obtain ⟨u, rfl, h⟩ := h
  split at h
  · exact ⟨_, rfl, h⟩
  · cases h
noncomputable def as_s43 {ρ : Type} (v : AV UU) (K : S43 → Option ρ) : Option ρ := asU v fun u => match u with | .s43 x => K x | _ => none
theorem as_s43_inv {ρ : Type} {v : AV UU} {K : S43 → Option ρ} {r : ρ} (h : as_s43 v K = some r) : ∃ x, v = .pv (.typ (.s43 x)) ∧ K x = some r := by
  replace h := asU_inv h
  obtain ⟨u, rfl, h⟩ := h
  split at h
  · exact ⟨_, rfl, h⟩
  · cases h
noncomputable def as_s25 {ρ : Type} (v : AV UU) (K : S25 → Option ρ) : Option ρ := asU v fun u => match u with | .s25 x => K x | _ => none
theorem as_s25_inv {ρ : Type} {v : AV UU} {K : S25 → Option ρ} {r : ρ} (h : as_s25 v K = some r) : ∃ x, v = .pv (.typ (.s25 x)) ∧ K x = some r := by
  replace h := asU_inv h
  obtain ⟨u, rfl, h⟩ := h
  split at h
  · exact ⟨_, rfl, h⟩
  · cases h
noncomputable def as_s55 {ρ : Type} (v : AV UU) (K : S55 → Option ρ) : Option ρ := asU v fun u => match u with | .s55 x => K x | _ => none
theorem as_s55_inv {ρ : Type} {v : AV UU} {K : S55 → Option ρ} {r : ρ} (h : as_s55 v K = some r) : ∃ x, v = .pv (.typ (.s55 x)) ∧ K x = some r := by
  replace h := asU_inv h
  obtain ⟨u, rfl, h⟩ := h
  split at h
  · exact ⟨_, rfl, h⟩
  · cases h
noncomputable def as_l29 {ρ : Type} (v : AV UU) (K : List S29 → Option ρ) : Option ρ := asU v fun u => match u with | .l29 x => K x | _ => none
theorem as_l29_inv {ρ : Type} {v : AV UU} {K : List S29 → Option ρ} {r : ρ} (h : as_l29 v K = some r) : ∃ x, v = .pv (.typ (.l29 x)) ∧ K x = some r := by
  replace h := asU_inv h
  obtain ⟨u, rfl, h⟩ := h
  split at h
  · exact ⟨_, rfl, h⟩
  · cases h
noncomputable def asO_l29 {ρ : Type} (v : AV UU) (K : List S29 → Option ρ) : Option ρ := asO v fun u => match u with | .l29 x => K x | _ => none
noncomputable def asOT_l29 {ρ : Type} (v : AV UU) (K : List S29 → List (PV UU) → Option ρ) : Option ρ := asOT v fun u q => match u with | .l29 x => K x q | _ => none
theorem asOT_l29_inv {ρ : Type} {v : AV UU} {K : List S29 → List (PV UU) → Option ρ} {r : ρ} (h : asOT_l29 v K = some r) : ∃ x q, v = .otup (some (.l29 x)) q ∧ K x q = some r := by
  replace h := asOT_inv h
  obtain ⟨u, q, rfl, h⟩ := h
  split at h
  · exact ⟨_, _, rfl, h⟩
  · cases h
theorem asO_l29_inv {ρ : Type} {v : AV UU} {K : List S29 → Option ρ} {r : ρ} (h : asO_l29 v K = some r) : ∃ x, v = .own (.l29 x) ∧ K x = some r := by
  replace h := asO_inv h
  obtain ⟨u, rfl, h⟩ := h
  split at h
  · exact ⟨_, rfl, h⟩
  · cases h
noncomputable def as_l43 {ρ : Type} (v : AV UU) (K : List S43 → Option ρ) : Option ρ := asU v fun u => match u with | .l43 x => K x | _ => none
theorem as_l43_inv {ρ : Type} {v : AV UU} {K : List S43 → Option ρ} {r : ρ} (h : as_l43 v K = some r) : ∃ x, v = .pv (.typ (.l43 x)) ∧ K x = some r := by
  replace h := asU_inv h
  obtain ⟨u, rfl, h⟩ := h
  split at h
  · exact ⟨_, rfl, h⟩
  · cases h
noncomputable def asO_l43 {ρ : Type} (v : AV UU) (K : List S43 → Option ρ) : Option ρ := asO v fun u => match u with | .l43 x => K x | _ => none
noncomputable def asOT_l43 {ρ : Type} (v : AV UU) (K : List S43 → List (PV UU) → Option ρ) : Option ρ := asOT v fun u q => match u with | .l43 x => K x q | _ => none
theorem asOT_l43_inv {ρ : Type} {v : AV UU} {K : List S43 → List (PV UU) → Option ρ} {r : ρ} (h : asOT_l43 v K = some r) : ∃ x q, v = .otup (some (.l43 x)) q ∧ K x q = some r := by
  replace h := asOT_inv h
  obtain ⟨u, q, rfl, h⟩ := h
  split at h
  · exact ⟨_, _, rfl, h⟩
  · cases h
theorem asO_l43_inv {ρ : Type} {v : AV UU} {K : List S43 → Option ρ} {r : ρ} (h : asO_l43 v K = some r) : ∃ x, v = .own (.l43 x) ∧ K x = some r := by
  replace h := asO_inv h
  obtain ⟨u, rfl, h⟩ := h
  split at h
  · exact ⟨_, rfl, h⟩
  · cases h
noncomputable def as_li_u8 {ρ : Type} (v : AV UU) (K : List Int → Option ρ) : Option ρ := asU v fun u => match u with | .li_u8 x => K x | _ => none
theorem as_li_u8_inv {ρ : Type} {v : AV UU} {K : List Int → Option ρ} {r : ρ} (h : as_li_u8 v K = some r) : ∃ x, v = .pv (.typ (.li_u8 x)) ∧ K x = some r := by
  replace h := asU_inv h
  obtain ⟨u, rfl, h⟩ := h
  split at h
  · exact ⟨_, rfl, h⟩
  · cases h
noncomputable def asO_li_u8 {ρ : Type} (v : AV UU) (K : List Int → Option ρ) : Option ρ := asO v fun u => match u with | .li_u8 x => K x | _ => none
noncomputable def asOT_li_u8 {ρ : Type} (v : AV UU) (K : List Int → List (PV UU) → Option ρ) : Option ρ := asOT v fun u q => match u with | .li_u8 x => K x q | _ => none
theorem asOT_li_u8_inv {ρ : Type} {v : AV UU} {K : List Int → List (PV UU) → Option ρ} {r : ρ} (h : asOT_li_u8 v K = some r) : ∃ x q, v = .otup (some (.li_u8 x)) q ∧ K x q = some r := by
  replace h := asOT_inv h
  obtain ⟨u, q, rfl, h⟩ := h
  split at h
  · exact ⟨_, _, rfl, h⟩
  · cases h
theorem asO_li_u8_inv {ρ : Type} {v : AV UU} {K : List Int → Option ρ} {r : ρ} (h : asO_li_u8 v K = some r) : ∃ x, v = .own (.li_u8 x) ∧ K x = some r := by
  replace h := asO_inv h
  obtain ⟨u, rfl, h⟩ := h
  split at h
  · exact ⟨_, rfl, h⟩
  · cases h
noncomputable def as_a49 {ρ : Type} (v : AV UU) (K : List S29 → Option ρ) : Option ρ := asU v fun u => match u with | .a49 x => K x | _ => none
theorem as_a49_inv {ρ : Type} {v : AV UU} {K : List S29 → Option ρ} {r : ρ} (h : as_a49 v K = some r) : ∃ x, v = .pv (.typ (.a49 x)) ∧ K x = some r := by
  replace h := asU_inv h
  obtain ⟨u, rfl, h⟩ := h
  split at h
  · exact ⟨_, rfl, h⟩
  · cases h
noncomputable def as_ls {ρ : Type} (v : AV UU) (K : List ByteArray → Option ρ) : Option ρ := asU v fun u => match u with | .ls x => K x | _ => none
theorem as_ls_inv {ρ : Type} {v : AV UU} {K : List ByteArray → Option ρ} {r : ρ} (h : as_ls v K = some r) : ∃ x, v = .pv (.typ (.ls x)) ∧ K x = some r := by
  replace h := asU_inv h
  obtain ⟨u, rfl, h⟩ := h
  split at h
  · exact ⟨_, rfl, h⟩
  · cases h
noncomputable def asO_ls {ρ : Type} (v : AV UU) (K : List ByteArray → Option ρ) : Option ρ := asO v fun u => match u with | .ls x => K x | _ => none
noncomputable def asOT_ls {ρ : Type} (v : AV UU) (K : List ByteArray → List (PV UU) → Option ρ) : Option ρ := asOT v fun u q => match u with | .ls x => K x q | _ => none
theorem asOT_ls_inv {ρ : Type} {v : AV UU} {K : List ByteArray → List (PV UU) → Option ρ} {r : ρ} (h : asOT_ls v K = some r) : ∃ x q, v = .otup (some (.ls x)) q ∧ K x q = some r := by
  replace h := asOT_inv h
  obtain ⟨u, q, rfl, h⟩ := h
  split at h
  · exact ⟨_, _, rfl, h⟩
  · cases h
theorem asO_ls_inv {ρ : Type} {v : AV UU} {K : List ByteArray → Option ρ} {r : ρ} (h : asO_ls v K = some r) : ∃ x, v = .own (.ls x) ∧ K x = some r := by
  replace h := asO_inv h
  obtain ⟨u, rfl, h⟩ := h
  split at h
  · exact ⟨_, rfl, h⟩
  · cases h
noncomputable def as_l25 {ρ : Type} (v : AV UU) (K : List S25 → Option ρ) : Option ρ := asU v fun u => match u with | .l25 x => K x | _ => none
theorem as_l25_inv {ρ : Type} {v : AV UU} {K : List S25 → Option ρ} {r : ρ} (h : as_l25 v K = some r) : ∃ x, v = .pv (.typ (.l25 x)) ∧ K x = some r := by
  replace h := asU_inv h
  obtain ⟨u, rfl, h⟩ := h
  split at h
  · exact ⟨_, rfl, h⟩
  · cases h
noncomputable def asO_l25 {ρ : Type} (v : AV UU) (K : List S25 → Option ρ) : Option ρ := asO v fun u => match u with | .l25 x => K x | _ => none
noncomputable def asOT_l25 {ρ : Type} (v : AV UU) (K : List S25 → List (PV UU) → Option ρ) : Option ρ := asOT v fun u q => match u with | .l25 x => K x q | _ => none
theorem asOT_l25_inv {ρ : Type} {v : AV UU} {K : List S25 → List (PV UU) → Option ρ} {r : ρ} (h : asOT_l25 v K = some r) : ∃ x q, v = .otup (some (.l25 x)) q ∧ K x q = some r := by
  replace h := asOT_inv h
  obtain ⟨u, q, rfl, h⟩ := h
  split at h
  · exact ⟨_, _, rfl, h⟩
  · cases h
theorem asO_l25_inv {ρ : Type} {v : AV UU} {K : List S25 → Option ρ} {r : ρ} (h : asO_l25 v K = some r) : ∃ x, v = .own (.l25 x) ∧ K x = some r := by
  replace h := asO_inv h
  obtain ⟨u, rfl, h⟩ := h
  split at h
  · exact ⟨_, rfl, h⟩
  · cases h
noncomputable def pack_29 (cs : List (PV UU)) : Option (PV UU) :=
popA cs fun v1 a2 =>
asI .i64 (.pv v1) fun z0 =>
popA a2 fun v3 a4 =>
asI .i64 (.pv v3) fun z1 =>
popA a4 fun v5 a6 =>
asS (.pv v5) fun z2 =>
popN a6 <|
some (.typ (.s29 (⟨z0, z1, z2⟩ : S29)))
noncomputable def pack_43 (cs : List (PV UU)) : Option (PV UU) :=
popA cs fun v1 a2 =>
asI .i64 (.pv v1) fun z0 =>
popA a2 fun v3 a4 =>
asI .i64 (.pv v3) fun z1 =>
popA a4 fun v5 a6 =>
asI .i64 (.pv v5) fun z2 =>
popA a6 fun v7 a8 =>
asI .i64 (.pv v7) fun z3 =>
popA a8 fun v9 a10 =>
asI .i64 (.pv v9) fun z4 =>
popA a10 fun v11 a12 =>
asI .i64 (.pv v11) fun z5 =>
popA a12 fun v13 a14 =>
asS (.pv v13) fun z6 =>
popA a14 fun v15 a16 =>
asI .i64 (.pv v15) fun z7 =>
popN a16 <|
some (.typ (.s43 (⟨z0, z1, z2, z3, (⟨z4, z5, z6⟩ : S29), z7⟩ : S43)))
noncomputable def pack_25 (cs : List (PV UU)) : Option (PV UU) :=
popA cs fun v1 a2 =>
as_l43 (.pv v1) fun z0 =>
popA a2 fun v3 a4 =>
as_l29 (.pv v3) fun z1 =>
popA a4 fun v5 a6 =>
asI .i64 (.pv v5) fun z2 =>
popA a6 fun v7 a8 =>
asI .i64 (.pv v7) fun z3 =>
popN a8 <|
some (.typ (.s25 (⟨z0, z1, z2, z3⟩ : S25)))
noncomputable def pack_55 (cs : List (PV UU)) : Option (PV UU) :=
popA cs fun v1 a2 =>
as_a49 (.pv v1) fun z0 =>
popA a2 fun v3 a4 =>
as_l29 (.pv v3) fun z1 =>
popN a4 <|
some (.typ (.s55 (⟨z0, z1⟩ : S55)))
noncomputable def packa_49 (_ : List (PV UU)) : Option (PV UU) := none
noncomputable def pack_49 (cs : List (PV UU)) : Option (PV UU) := match cs with | [.typ (.a49 l)] => some (.typ (.a49 l)) | _ => packa_49 cs
theorem pack_29_inv {cs : List (PV UU)} {v : PV UU} (h : pack_29 cs = some v) : ∃ u, v = .typ u ∧ uview u = .segs cs := by
  unfold pack_29 at h
  replace h := popA_inv h; obtain ⟨v1, a2, rfl, h⟩ := h
  replace h := asI_inv h; obtain ⟨z0, e, h⟩ := h; cases e
  replace h := popA_inv h; obtain ⟨v3, a4, rfl, h⟩ := h
  replace h := asI_inv h; obtain ⟨z1, e, h⟩ := h; cases e
  replace h := popA_inv h; obtain ⟨v5, a6, rfl, h⟩ := h
  replace h := asS_inv h; obtain ⟨z2, e, h⟩ := h; cases e
  replace h := popN_inv h; obtain ⟨rfl, h⟩ := h
  cases h
  exact ⟨_, rfl, rfl⟩
theorem pack_43_inv {cs : List (PV UU)} {v : PV UU} (h : pack_43 cs = some v) : ∃ u, v = .typ u ∧ uview u = .segs cs := by
  unfold pack_43 at h
  replace h := popA_inv h; obtain ⟨v1, a2, rfl, h⟩ := h
  replace h := asI_inv h; obtain ⟨z0, e, h⟩ := h; cases e
  replace h := popA_inv h; obtain ⟨v3, a4, rfl, h⟩ := h
  replace h := asI_inv h; obtain ⟨z1, e, h⟩ := h; cases e
  replace h := popA_inv h; obtain ⟨v5, a6, rfl, h⟩ := h
  replace h := asI_inv h; obtain ⟨z2, e, h⟩ := h; cases e
  replace h := popA_inv h; obtain ⟨v7, a8, rfl, h⟩ := h
  replace h := asI_inv h; obtain ⟨z3, e, h⟩ := h; cases e
  replace h := popA_inv h; obtain ⟨v9, a10, rfl, h⟩ := h
  replace h := asI_inv h; obtain ⟨z4, e, h⟩ := h; cases e
  replace h := popA_inv h; obtain ⟨v11, a12, rfl, h⟩ := h
  replace h := asI_inv h; obtain ⟨z5, e, h⟩ := h; cases e
  replace h := popA_inv h; obtain ⟨v13, a14, rfl, h⟩ := h
  replace h := asS_inv h; obtain ⟨z6, e, h⟩ := h; cases e
  replace h := popA_inv h; obtain ⟨v15, a16, rfl, h⟩ := h
  replace h := asI_inv h; obtain ⟨z7, e, h⟩ := h; cases e
  replace h := popN_inv h; obtain ⟨rfl, h⟩ := h
  cases h
  exact ⟨_, rfl, rfl⟩
theorem pack_25_inv {cs : List (PV UU)} {v : PV UU} (h : pack_25 cs = some v) : ∃ u, v = .typ u ∧ uview u = .segs cs := by
  unfold pack_25 at h
  replace h := popA_inv h; obtain ⟨v1, a2, rfl, h⟩ := h
  replace h := as_l43_inv h; obtain ⟨z0, e, h⟩ := h; cases e
  replace h := popA_inv h; obtain ⟨v3, a4, rfl, h⟩ := h
  replace h := as_l29_inv h; obtain ⟨z1, e, h⟩ := h; cases e
  replace h := popA_inv h; obtain ⟨v5, a6, rfl, h⟩ := h
  replace h := asI_inv h; obtain ⟨z2, e, h⟩ := h; cases e
  replace h := popA_inv h; obtain ⟨v7, a8, rfl, h⟩ := h
  replace h := asI_inv h; obtain ⟨z3, e, h⟩ := h; cases e
  replace h := popN_inv h; obtain ⟨rfl, h⟩ := h
  cases h
  exact ⟨_, rfl, rfl⟩
theorem pack_55_inv {cs : List (PV UU)} {v : PV UU} (h : pack_55 cs = some v) : ∃ u, v = .typ u ∧ uview u = .segs cs := by
  unfold pack_55 at h
  replace h := popA_inv h; obtain ⟨v1, a2, rfl, h⟩ := h
  replace h := as_a49_inv h; obtain ⟨z0, e, h⟩ := h; cases e
  replace h := popA_inv h; obtain ⟨v3, a4, rfl, h⟩ := h
  replace h := as_l29_inv h; obtain ⟨z1, e, h⟩ := h; cases e
  replace h := popN_inv h; obtain ⟨rfl, h⟩ := h
  cases h
  exact ⟨_, rfl, rfl⟩
noncomputable def upack (t : TypeId) (cs : List (PV UU)) : Option (PV UU) :=
  if t = 25 then pack_25 cs else
  if t = 26 then pack_25 cs else
  if t = 29 then pack_29 cs else
  if t = 30 then pack_29 cs else
  if t = 43 then pack_43 cs else
  if t = 44 then pack_43 cs else
  if t = 49 then pack_49 cs else
  if t = 55 then pack_55 cs else
  if t = 56 then pack_55 cs else
  none
noncomputable def uapp : UU → UU → Option UU
  | .l29 a, .l29 b => some (.l29 (a ++ b))
  | .l43 a, .l43 b => some (.l43 (a ++ b))
  | .li_u8 a, .li_u8 b => some (.li_u8 (a ++ b))
  | .ls a, .ls b => some (.ls (a ++ b))
  | .l25 a, .l25 b => some (.l25 (a ++ b))
  | _, _ => none
noncomputable def ucut : UU → Nat → Nat → Option UU
  | .l29 l, lo, hi => some (.l29 ((l.drop lo).take (hi - lo)))
  | .l43 l, lo, hi => some (.l43 ((l.drop lo).take (hi - lo)))
  | .li_u8 l, lo, hi => some (.li_u8 ((l.drop lo).take (hi - lo)))
  | .ls l, lo, hi => some (.ls ((l.drop lo).take (hi - lo)))
  | .l25 l, lo, hi => some (.l25 ((l.drop lo).take (hi - lo)))
  | _, _, _ => none
noncomputable def uzr (t : TypeId) (n : Nat) : Option UU :=
  none
noncomputable def uset : UU → Nat → PV UU → Option UU
  | .l29 l, i, v => (of_l29 v).map fun x => .l29 (l.set i x)
  | .l43 l, i, v => (of_l43 v).map fun x => .l43 (l.set i x)
  | .li_u8 l, i, v => (of_li_u8 v).map fun x => .li_u8 (l.set i x)
  | .ls l, i, v => (of_ls v).map fun x => .ls (l.set i x)
  | .l25 l, i, v => (of_l25 v).map fun x => .l25 (l.set i x)
  | _, _, _ => none
noncomputable def usetA : UU → Nat → PV UU → Option UU
  | .a49 l, i, v => (of_a49 v).map fun x => .a49 (l.set i x)
  | _, _, _ => none
noncomputable def ulenA : UU → Nat
  | .a49 l => l.length
  | _ => 0
noncomputable def uover : UU → Nat → Nat → UU → Option UU
  | .li_u8 l, lo, n, .li_u8 q => some (.li_u8 (overL l lo n q))
  | _, _, _, _ => none
noncomputable def uofs (s : ByteArray) : Option UU := some (.li_u8 (bytesOf s))
noncomputable def utos : UU → Option ByteArray
  | .li_u8 l => some (strOfNums l)
  | _ => none
noncomputable def utab : List (Nat × TI) := [(2, ⟨.int .i64, 1, 8⟩),
  (3, ⟨.int .i64, 1, 8⟩),
  (4, ⟨.bool, 1, 1⟩),
  (5, ⟨.int .u8, 1, 1⟩),
  (6, ⟨.int .u8, 1, 1⟩),
  (9, ⟨.str, 1, 16⟩),
  (10, ⟨.str, 1, 16⟩),
  (11, ⟨.str, 1, 16⟩),
  (12, ⟨.int .u64, 1, 8⟩),
  (21, ⟨.int .i32, 1, 4⟩),
  (22, ⟨.slice 26, 1, 24⟩),
  (23, ⟨.slice 44, 1, 24⟩),
  (24, ⟨.slice 30, 1, 24⟩),
  (25, ⟨.struct [(0, 23), (1, 24), (2, 3), (3, 3)], 4, 64⟩),
  (26, ⟨.struct [(0, 23), (1, 24), (2, 3), (3, 3)], 4, 64⟩),
  (29, ⟨.struct [(0, 3), (1, 2), (2, 9)], 3, 32⟩),
  (30, ⟨.struct [(0, 3), (1, 2), (2, 9)], 3, 32⟩),
  (35, ⟨.int .i64, 1, 8⟩),
  (43, ⟨.struct [(0, 3), (1, 3), (2, 3), (3, 3), (4, 30), (7, 3)], 8, 72⟩),
  (44, ⟨.struct [(0, 3), (1, 3), (2, 3), (3, 3), (4, 30), (7, 3)], 8, 72⟩),
  (49, ⟨.array 256 30, 768, 8192⟩),
  (55, ⟨.struct [(0, 49), (768, 24)], 769, 8216⟩),
  (56, ⟨.struct [(0, 49), (768, 24)], 769, 8216⟩),
  (84, ⟨.slice 9, 1, 24⟩),
  (87, ⟨.slice 5, 1, 24⟩),
  (92, ⟨.int .u64, 1, 8⟩),
  (100, ⟨.int .u32, 1, 4⟩),
  (102, ⟨.int .u64, 1, 8⟩),
  (114, ⟨.int .u8, 1, 1⟩),
  (115, ⟨.int .u8, 1, 1⟩),
  (118, ⟨.int .i32, 1, 4⟩),
  (119, ⟨.int .i32, 1, 4⟩)]
noncomputable def uinv (D : Nat → Prop) (w : World) : Prop := TabOk Tryd.prog D w "internal/strconv.uint64pow10" .u64 Lib.pow10Tab
noncomputable def uzeros : List (Nat × List (AV UU)) := [(2, [.pv (.int .i64 0)]),
  (3, [.pv (.int .i64 0)]),
  (4, [.pv (.bool false)]),
  (5, [.pv (.int .u8 0)]),
  (6, [.pv (.int .u8 0)]),
  (9, [.pv (.str ByteArray.empty)]),
  (10, [.pv (.str ByteArray.empty)]),
  (11, [.pv (.str ByteArray.empty)]),
  (12, [.pv (.int .u64 0)]),
  (21, [.pv (.int .i32 0)]),
  (22, [.pv (.typ (.l25 []))]),
  (23, [.pv (.typ (.l43 []))]),
  (24, [.pv (.typ (.l29 []))]),
  (25, [.pv (.typ (.l43 [])), .pv (.typ (.l29 [])), .pv (.int .i64 0), .pv (.int .i64 0)]),
  (26, [.pv (.typ (.l43 [])), .pv (.typ (.l29 [])), .pv (.int .i64 0), .pv (.int .i64 0)]),
  (29, [.pv (.int .i64 0), .pv (.int .i64 0), .pv (.str ByteArray.empty)]),
  (30, [.pv (.int .i64 0), .pv (.int .i64 0), .pv (.str ByteArray.empty)]),
  (35, [.pv (.int .i64 0)]),
  (43, [.pv (.int .i64 0), .pv (.int .i64 0), .pv (.int .i64 0), .pv (.int .i64 0), .pv (.int .i64 0), .pv (.int .i64 0), .pv (.str ByteArray.empty), .pv (.int .i64 0)]),
  (44, [.pv (.int .i64 0), .pv (.int .i64 0), .pv (.int .i64 0), .pv (.int .i64 0), .pv (.int .i64 0), .pv (.int .i64 0), .pv (.str ByteArray.empty), .pv (.int .i64 0)]),
  (49, [.pv (.typ (.a49 (List.replicate 256 default)))]),
  (55, [.pv (.typ (.a49 (List.replicate 256 default))), .pv (.typ (.l29 []))]),
  (56, [.pv (.typ (.a49 (List.replicate 256 default))), .pv (.typ (.l29 []))]),
  (84, [.pv (.typ (.ls []))]),
  (87, [.pv (.typ (.li_u8 []))]),
  (92, [.pv (.int .u64 0)]),
  (100, [.pv (.int .u32 0)]),
  (102, [.pv (.int .u64 0)]),
  (114, [.pv (.int .u8 0)]),
  (115, [.pv (.int .u8 0)]),
  (118, [.pv (.int .i32 0)]),
  (119, [.pv (.int .i32 0)])]
noncomputable def UX : Univ where
  U := UU
  view := uview
  width := uwidth
  esz := uesz
  nil := assoc unil
  lit := ulit
  zeros := uzr
  pack := upack
  app := uapp
  appS _ _ := none
  cut := ucut
  set := uset
  setA := usetA
  lenA := ulenA
  over := uover
  ofStr := uofs
  toStr := utos
  ty := assoc utab
  inv := uinv
  zero := assoc uzeros
theorem packa_49_inv {cs : List (PV UX.U)} {v : PV UX.U} (h : packa_49 cs = some v) : ∃ u n get, v = .typ u ∧ UX.view u = .arr n get ∧ cs.length = n ∧ (∀ i (h : i < cs.length), cs[i] = get i ∧ PV.segW UX cs[i] = UX.esz u) ∧ UX.width u = n * UX.esz u := by
  unfold packa_49 at h
  cases h
theorem pack_49_c {cs : List (PV UU)} {v : PV UU} (h : pack_49 cs = some v) : (∃ l, cs = [.typ (.a49 l)] ∧ v = .typ (.a49 l)) ∨ packa_49 cs = some v := by
  unfold pack_49 at h
  split at h
  · cases h; exact .inl ⟨_, rfl, rfl⟩
  · exact .inr h
theorem pack_49_inv {cs : List (PV UX.U)} {v : PV UX.U} (h : pack_49 cs = some v) : (∃ u n get, v = .typ u ∧ UX.view u = .arr n get ∧ cs.length = n ∧ (∀ i (h : i < cs.length), cs[i] = get i ∧ PV.segW UX cs[i] = UX.esz u) ∧ UX.width u = n * UX.esz u) ∨ ∃ u n get, v = .typ u ∧ UX.view u = .arr n get ∧ cs = [v] := by
  rcases pack_49_c h with ⟨l, rfl, rfl⟩ | h
  · exact .inr ⟨_, _, _, rfl, rfl, rfl⟩
  · exact .inl (packa_49_inv h)
theorem xok : XOK UX where
  wpos u := by cases u <;> exact of_decide_eq_true (by kernel_rfl)
  nil t u h := nilB_of (view := uview) (by kernel_rfl) h
  pack t cs v h := by
    change upack t cs = some v at h
    unfold upack at h
    split at h
    · exact .inl ( pack_25_inv h)
    split at h
    · exact .inl ( pack_25_inv h)
    split at h
    · exact .inl ( pack_29_inv h)
    split at h
    · exact .inl ( pack_29_inv h)
    split at h
    · exact .inl ( pack_43_inv h)
    split at h
    · exact .inl ( pack_43_inv h)
    split at h
    · exact .inr ( pack_49_inv h)
    split at h
    · exact .inl ( pack_55_inv h)
    split at h
    · exact .inl ( pack_55_inv h)
    cases h
  lit t es u h := by
    change ulit t es = some u at h
    unfold ulit at h
    split at h
    · exact lit_case (view := uview) (g := fun n => .typ (.s25 n)) default of_l25_inv (fun _ => rfl) h
    split at h
    · exact lit_case (view := uview) (g := fun n => .typ (.s43 n)) default of_l43_inv (fun _ => rfl) h
    split at h
    · exact lit_case (view := uview) (g := fun n => .typ (.s29 n)) default of_l29_inv (fun _ => rfl) h
    split at h
    · exact lit_case (view := uview) (g := fun n => .str n) ByteArray.empty of_ls_inv (fun _ => rfl) h
    split at h
    · exact lit_case (view := uview) (g := fun n => .int .u8 n) (0 : Int) of_li_u8_inv (fun _ => rfl) h
    cases h
  cut u lo hi u' n get h hv h1 h2 := by
    change ucut u lo hi = some u' at h
    change uview u = .sl n get at hv
    cases u with
    | l29 l => change some (UU.l29 _) = some u' at h; cases h; exact ⟨rfl, cut_case (view := uview) (C := .l29) (g := fun n => .typ (.s29 n)) default (fun _ => rfl) hv h1 h2⟩
    | l43 l => change some (UU.l43 _) = some u' at h; cases h; exact ⟨rfl, cut_case (view := uview) (C := .l43) (g := fun n => .typ (.s43 n)) default (fun _ => rfl) hv h1 h2⟩
    | li_u8 l => change some (UU.li_u8 _) = some u' at h; cases h; exact ⟨rfl, cut_case (view := uview) (C := .li_u8) (g := fun n => .int .u8 n) (0 : Int) (fun _ => rfl) hv h1 h2⟩
    | ls l => change some (UU.ls _) = some u' at h; cases h; exact ⟨rfl, cut_case (view := uview) (C := .ls) (g := fun n => .str n) ByteArray.empty (fun _ => rfl) hv h1 h2⟩
    | l25 l => change some (UU.l25 _) = some u' at h; cases h; exact ⟨rfl, cut_case (view := uview) (C := .l25) (g := fun n => .typ (.s25 n)) default (fun _ => rfl) hv h1 h2⟩
    | _ => (change (none : Option UU) = some _ at h; cases h)
  app u v z n get k get' h hv hv' := by
    change uapp u v = some z at h
    change uview u = .sl n get at hv
    change uview v = .sl k get' at hv'
    cases u with
    | l29 a => cases v with
      | l29 b => change some (UU.l29 _) = some z at h; cases h; exact ⟨rfl, rfl, app_case (view := uview) (C := .l29) (g := fun n => .typ (.s29 n)) default (fun _ => rfl) hv hv'⟩
      | _ => (change (none : Option UU) = some _ at h; cases h)
    | l43 a => cases v with
      | l43 b => change some (UU.l43 _) = some z at h; cases h; exact ⟨rfl, rfl, app_case (view := uview) (C := .l43) (g := fun n => .typ (.s43 n)) default (fun _ => rfl) hv hv'⟩
      | _ => (change (none : Option UU) = some _ at h; cases h)
    | li_u8 a => cases v with
      | li_u8 b => change some (UU.li_u8 _) = some z at h; cases h; exact ⟨rfl, rfl, app_case (view := uview) (C := .li_u8) (g := fun n => .int .u8 n) (0 : Int) (fun _ => rfl) hv hv'⟩
      | _ => (change (none : Option UU) = some _ at h; cases h)
    | ls a => cases v with
      | ls b => change some (UU.ls _) = some z at h; cases h; exact ⟨rfl, rfl, app_case (view := uview) (C := .ls) (g := fun n => .str n) ByteArray.empty (fun _ => rfl) hv hv'⟩
      | _ => (change (none : Option UU) = some _ at h; cases h)
    | l25 a => cases v with
      | l25 b => change some (UU.l25 _) = some z at h; cases h; exact ⟨rfl, rfl, app_case (view := uview) (C := .l25) (g := fun n => .typ (.s25 n)) default (fun _ => rfl) hv hv'⟩
      | _ => (change (none : Option UU) = some _ at h; cases h)
    | _ => cases v <;> (change (none : Option UU) = some _ at h; cases h)
  set u i v u' n get h hv hi := by
    change uset u i v = some u' at h
    change uview u = .sl n get at hv
    cases u with
    | l29 l => obtain ⟨x, hx, h⟩ := Option.map_eq_some_iff.1 h; subst h; exact ⟨rfl, set_case (view := uview) (C := .l29) (g := fun n => .typ (.s29 n)) default (fun _ => rfl) (of_l29_inv v x hx) hv hi⟩
    | l43 l => obtain ⟨x, hx, h⟩ := Option.map_eq_some_iff.1 h; subst h; exact ⟨rfl, set_case (view := uview) (C := .l43) (g := fun n => .typ (.s43 n)) default (fun _ => rfl) (of_l43_inv v x hx) hv hi⟩
    | li_u8 l => obtain ⟨x, hx, h⟩ := Option.map_eq_some_iff.1 h; subst h; exact ⟨rfl, set_case (view := uview) (C := .li_u8) (g := fun n => .int .u8 n) (0 : Int) (fun _ => rfl) (of_li_u8_inv v x hx) hv hi⟩
    | ls l => obtain ⟨x, hx, h⟩ := Option.map_eq_some_iff.1 h; subst h; exact ⟨rfl, set_case (view := uview) (C := .ls) (g := fun n => .str n) ByteArray.empty (fun _ => rfl) (of_ls_inv v x hx) hv hi⟩
    | l25 l => obtain ⟨x, hx, h⟩ := Option.map_eq_some_iff.1 h; subst h; exact ⟨rfl, set_case (view := uview) (C := .l25) (g := fun n => .typ (.s25 n)) default (fun _ => rfl) (of_l25_inv v x hx) hv hi⟩
    | _ => (change (none : Option UU) = some _ at h; cases h)
  setA u i v u' n get h hv hi hi2 := by
    change usetA u i v = some u' at h
    change uview u = .arr n get at hv
    cases u with
    | a49 l => obtain ⟨x, hx, h⟩ := Option.map_eq_some_iff.1 h; subst h; exact ⟨rfl, rfl, seta_case (view := uview) (C := .a49) (g := fun n => .typ (.s29 n)) default (fun _ => rfl) (of_a49_inv v x hx) hv hi2⟩
    | _ => (change (none : Option UU) = some _ at h; cases h)
  over u lo n v u' N get k get2 h hv hv2 h1 h2 := by
    change uover u lo n v = some u' at h
    change uview u = .sl N get at hv
    change uview v = .sl k get2 at hv2
    cases u with
    | li_u8 a => cases v with
      | li_u8 b => change some (UU.li_u8 _) = some u' at h; cases h; exact ⟨rfl, over_case (view := uview) (C := .li_u8) (g := fun n => .int .u8 n) (0 : Int) (fun _ => rfl) hv hv2 h1 h2⟩
      | _ => (change (none : Option UU) = some _ at h; cases h)
    | _ => (change (none : Option UU) = some _ at h; cases h)
  zeros t n u h := by
    change uzr t n = some u at h
    unfold uzr at h
    cases h
  ofStr s u h := by
    change uofs s = some u at h
    cases h
    exact ⟨rfl, ofs_case (view := uview) (C := .li_u8) fun _ => rfl⟩
  inv D D' w w' h h1 h2 h3 := tabOk_keep h h1 h2 h3
  toStr u s h := by
    change utos u = some s at h
    cases u with
    | li_u8 l => cases h; exact ⟨rfl, _, l, rfl, fun _ _ => rfl, rfl⟩
    | _ => (change (none : Option ByteArray) = some _ at h; cases h)
theorem tok : TOK Tryd.prog UX := tok_of rfl rfl (by kernel_rfl)end Go.Proofs.YtjkgphpmdkbpfaaDoor.V
