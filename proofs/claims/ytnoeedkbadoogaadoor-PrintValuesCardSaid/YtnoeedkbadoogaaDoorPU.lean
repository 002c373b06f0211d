/-
  The plain data's types, and that the program's types are so.
-/
import Derived.Test.YtnoeedkbadoogaaDoorAxGen
import Derived.Test.YtnoeedkbadoogaaDoorPF
import Derived.Test.YtnoeedkbadoogaaDoorProg
import Derived.Test.YtnoeedkbadoogaaDoorAxTab
namespace Go.Proofs.YtnoeedkbadoogaaDoor.P
open Go Go.AX
inductive UU where
  | s23 (x : S23)
  | s126 (x : S126)
  | s25 (x : S25)
  | s51 (x : S51)
  | s113 (x : S113)
  | s90 (x : S90)
  | s106 (x : S106)
  | s60 (x : S60)
  | li_u8 (x : List Int)
  | l126 (x : List S126)
  | ls (x : List ByteArray)
  | l25 (x : List T25)
  | l113 (x : List S113)
  | ll25 (x : List (List T25))
  | l90 (x : List S90)
  | l106 (x : List S106)
noncomputable def uview : UU → View UU
  | .s23 x => .segs [.int .i64 x.f0, .int .i64 x.f1, .str x.f2]
  | .s126 x => .segs [.int .i64 x.f0, .str x.f1, .int .i64 x.f2]
  | .s25 x => .segs [.int .i64 x.f0, .int .i64 x.f1.f0, .int .i64 x.f1.f1, .str x.f1.f2, .str x.f2, .str x.f3, .typ (.l25 x.f4)]
  | .s51 x => .segs [.typ (.li_u8 x.f0), .bool x.f1]
  | .s113 x => .segs [.str x.f0, .int .i64 x.f1, .bool x.f2]
  | .s90 x => .segs [.str x.f0, .int .i64 x.f1.f0, .int .i64 x.f1.f1.f0, .int .i64 x.f1.f1.f1, .str x.f1.f1.f2, .str x.f1.f2, .str x.f1.f3, .typ (.l25 x.f1.f4)]
  | .s106 x => .segs [.int .i64 x.f0.f0, .int .i64 x.f0.f1.f0, .int .i64 x.f0.f1.f1, .str x.f0.f1.f2, .str x.f0.f2, .str x.f0.f3, .typ (.l25 x.f0.f4), .bool x.f1]
  | .s60 x => .segs [.int .i64 x.f0, .str x.f1, .str x.f2, .bool x.f3, .typ (.l113 x.f4), .typ (.ls x.f5), .typ (.ll25 x.f6), .typ (.l90 x.f7), .typ (.ls x.f8), .bool x.f9, .typ (.l25 x.f10), .typ (.l25 x.f11), .typ (.l106 x.f12)]
  | .li_u8 x => .sl x.length fun i => .int .u8 (x.getD i 0)
  | .l126 x => .sl x.length fun i => .typ (.s126 (x.getD i default))
  | .ls x => .sl x.length fun i => .str (x.getD i ByteArray.empty)
  | .l25 x => .sl x.length fun i => .typ (.s25 (x.getD i default).s)
  | .l113 x => .sl x.length fun i => .typ (.s113 (x.getD i default))
  | .ll25 x => .sl x.length fun i => .typ (.l25 (x.getD i []))
  | .l90 x => .sl x.length fun i => .typ (.s90 (x.getD i default))
  | .l106 x => .sl x.length fun i => .typ (.s106 (x.getD i default))
noncomputable def uwidth : UU → Nat
  | _ => 1
noncomputable def uesz : UU → Nat
  | .li_u8 _ => 1
  | .l126 _ => 3
  | .ls _ => 1
  | .l25 _ => 7
  | .l113 _ => 3
  | .ll25 _ => 1
  | .l90 _ => 8
  | .l106 _ => 8
  | _ => 1
noncomputable def unil : List (Nat × UU) := [(22, .l25 []), (32, .li_u8 []), (55, .ls []), (56, .l113 []), (57, .ll25 []), (58, .l90 []), (59, .l106 []), (123, .l126 [])]
noncomputable def of_li_u8 (v : PV UU) : Option Int := match v with | .int k n => if k = .u8 then some n else none | _ => none
theorem of_li_u8_inv (v : PV UU) (x : Int) (h : of_li_u8 v = some x) : v = .int .u8 x := by
  unfold of_li_u8 at h
  split at h
  · split at h
    · rename_i e; subst e; cases h; rfl
    · cases h
  · cases h
noncomputable def of_l126 (v : PV UU) : Option S126 := match v with | .typ (.s126 n) => some n | _ => none
theorem of_l126_inv (v : PV UU) (x : S126) (h : of_l126 v = some x) : v = .typ (.s126 x) := by
  unfold of_l126 at h
  split at h
  · cases h; rfl
  · cases h
noncomputable def of_ls (v : PV UU) : Option ByteArray := match v with | .str n => some n | _ => none
theorem of_ls_inv (v : PV UU) (x : ByteArray) (h : of_ls v = some x) : v = .str x := by
  unfold of_ls at h
  split at h
  · cases h; rfl
  · cases h
noncomputable def of_l25 (v : PV UU) : Option T25 := match v with | .typ (.s25 n) => some n.t | _ => none
theorem of_l25_inv (v : PV UU) (x : T25) (h : of_l25 v = some x) : v = .typ (.s25 x.s) := by
  unfold of_l25 at h
  split at h
  · cases h; rfl
  · cases h
noncomputable def of_l113 (v : PV UU) : Option S113 := match v with | .typ (.s113 n) => some n | _ => none
theorem of_l113_inv (v : PV UU) (x : S113) (h : of_l113 v = some x) : v = .typ (.s113 x) := by
  unfold of_l113 at h
  split at h
  · cases h; rfl
  · cases h
noncomputable def of_ll25 (v : PV UU) : Option (List T25) := match v with | .typ (.l25 n) => some n | _ => none
theorem of_ll25_inv (v : PV UU) (x : List T25) (h : of_ll25 v = some x) : v = .typ (.l25 x) := by
  unfold of_ll25 at h
  split at h
  · cases h; rfl
  · cases h
noncomputable def of_l90 (v : PV UU) : Option S90 := match v with | .typ (.s90 n) => some n | _ => none
theorem of_l90_inv (v : PV UU) (x : S90) (h : of_l90 v = some x) : v = .typ (.s90 x) := by
  unfold of_l90 at h
  split at h
  · cases h; rfl
  · cases h
noncomputable def of_l106 (v : PV UU) : Option S106 := match v with | .typ (.s106 n) => some n | _ => none
theorem of_l106_inv (v : PV UU) (x : S106) (h : of_l106 v = some x) : v = .typ (.s106 x) := by
  unfold of_l106 at h
  split at h
  · cases h; rfl
  · cases h
noncomputable def ulit (t : TypeId) (es : List (PV UU)) : Option UU :=
  if t = 22 then (mapO of_l25 es).map .l25 else
  if t = 32 then (mapO of_li_u8 es).map .li_u8 else
  if t = 55 then (mapO of_ls es).map .ls else
  if t = 56 then (mapO of_l113 es).map .l113 else
  if t = 57 then (mapO of_ll25 es).map .ll25 else
  if t = 58 then (mapO of_l90 es).map .l90 else
  if t = 59 then (mapO of_l106 es).map .l106 else
  if t = 123 then (mapO of_l126 es).map .l126 else
  none
noncomputable def as_s23 {ρ : Type} (v : AV UU) (K : S23 → Option ρ) : Option ρ := asU v fun u => match u with | .s23 x => K x | _ => none
theorem as_s23_inv {ρ : Type} {v : AV UU} {K : S23 → Option ρ} {r : ρ} (h : as_s23 v K = some r) : ∃ x, v = .pv (.typ (.s23 x)) ∧ K x = some r := by
  replace h := asU_inv h
  obtain ⟨u, rfl, h⟩ := h
  split at h
  · exact ⟨_, rfl, h⟩
  · cases h
noncomputable def as_s126 {ρ : Type} (v : AV UU) (K : S126 → Option ρ) : Option ρ := asU v fun u => match u with | .s126 x => K x | _ => none
theorem as_s126_inv {ρ : Type} {v : AV UU} {K : S126 → Option ρ} {r : ρ} (h : as_s126 v K = some r) : ∃ x, v = .pv (.typ (.s126 x)) ∧ K x = some r := by
  replace h := asU_inv h
  obtain ⟨u, rfl, h⟩ := h
  split at h
  · exact ⟨_, rfl, h⟩
  · cases h
noncomputable def as_s25 {ρ : Type} (v : AV UU) (K : S25 → Option ρ) : Option ρ := asU v fun u => match u with | .s25 x => K x | _ => none
theorem as_s25_inv {ρ : Type} {v : AV UU} {K : S25 → Option ρ} {r : ρ} (h : as_s25 v K = some r) : ∃ x, v = .pv (.typ (.s25 x)) ∧ K x = some r := by
  replace h := asU_inv h
  obtain ⟨u, rfl, h⟩ := h
  split at h
  · exact ⟨_, rfl, h⟩
  · cases h
noncomputable def as_s51 {ρ : Type} (v : AV UU) (K : S51 → Option ρ) : Option ρ := asU v fun u => match u with | .s51 x => K x | _ => none
theorem as_s51_inv {ρ : Type} {v : AV UU} {K : S51 → Option ρ} {r : ρ} (h : as_s51 v K = some r) : ∃ x, v = .pv (.typ (.s51 x)) ∧ K x = some r := by
  replace h := asU_inv h
  obtain ⟨u, rfl, h⟩ := h
  split at h
  · exact ⟨_, rfl, h⟩
  · cases h
noncomputable def as_s113 {ρ : Type} (v : AV UU) (K : S113 → Option ρ) : Option ρ := asU v fun u => match u with | .s113 x => K x | _ => none
theorem as_s113_inv {ρ : Type} {v : AV UU} {K : S113 → Option ρ} {r : ρ} (h : as_s113 v K = some r) : ∃ x, v = .pv (.typ (.s113 x)) ∧ K x = some r := by
  replace h := asU_inv h
  obtain ⟨u, rfl, h⟩ := h
  split at h
  · exact ⟨_, rfl, h⟩
  · cases h
noncomputable def as_s90 {ρ : Type} (v : AV UU) (K : S90 → Option ρ) : Option ρ := asU v fun u => match u with | .s90 x => K x | _ => none
theorem as_s90_inv {ρ : Type} {v : AV UU} {K : S90 → Option ρ} {r : ρ} (h : as_s90 v K = some r) : ∃ x, v = .pv (.typ (.s90 x)) ∧ K x = some r := by
  replace h := asU_inv h
  obtain ⟨u, rfl, h⟩ := h
  split at h
  · exact ⟨_, rfl, h⟩
  · cases h
noncomputable def as_s106 {ρ : Type} (v : AV UU) (K : S106 → Option ρ) : Option ρ := asU v fun u => match u with | .s106 x => K x | _ => none
theorem as_s106_inv {ρ : Type} {v : AV UU} {K : S106 → Option ρ} {r : ρ} (h : as_s106 v K = some r) : ∃ x, v = .pv (.typ (.s106 x)) ∧ K x = some r := by
  replace h := asU_inv h
  obtain ⟨u, rfl, h⟩ := h
  split at h
  · exact ⟨_, rfl, h⟩
  · cases h
noncomputable def as_s60 {ρ : Type} (v : AV UU) (K : S60 → Option ρ) : Option ρ := asU v fun u => match u with | .s60 x => K x | _ => none
theorem as_s60_inv {ρ : Type} {v : AV UU} {K : S60 → Option ρ} {r : ρ} (h : as_s60 v K = some r) : ∃ x, v = .pv (.typ (.s60 x)) ∧ K x = some r := by
  replace h := asU_inv h
  obtain ⟨u, rfl, h⟩ := h
  split at h
  · exact ⟨_, rfl, h⟩
  · cases h
noncomputable def as_li_u8 {ρ : Type} (v : AV UU) (K : List Int → Option ρ) : Option ρ := asU v fun u => match u with | .li_u8 x => K x | _ => none
theorem as_li_u8_inv {ρ : Type} {v : AV UU} {K : List Int → Option ρ} {r : ρ} (h : as_li_u8 v K = some r) : ∃ x, v = .pv (.typ (.li_u8 x)) ∧ K x = some r := by
  replace h := asU_inv h
  obtain ⟨u, rfl, h⟩ := h
  split at h
  · exact ⟨_, rfl, h⟩
  · cases h
noncomputable def asO_li_u8 {ρ : Type} (v : AV UU) (K : List Int → Option ρ) : Option ρ := asO v fun u => match u with | .li_u8 x => K x | _ => none
noncomputable def asOT_li_u8 {ρ : Type} (v : AV UU) (K : List Int → List (PV UU) → Option ρ) : Option ρ := asOT v fun u q => match u with | .li_u8 x => K x q | _ => none
theorem asOT_li_u8_inv {ρ : Type} {v : AV UU} {K : List Int → List (PV UU) → Option ρ} {r : ρ} (h : asOT_li_u8 v K = some r) : ∃ x q, v = .otup (some (.li_u8 x)) q ∧ K x q = some r := by
  replace h := asOT_inv h
  obtain ⟨u, q, rfl, h⟩ := h
  split at h
  · exact ⟨_, _, rfl, h⟩
  · cases h
theorem asO_li_u8_inv {ρ : Type} {v : AV UU} {K : List Int → Option ρ} {r : ρ} (h : asO_li_u8 v K = some r) : ∃ x, v = .own (.li_u8 x) ∧ K x = some r := by
  replace h := asO_inv h
  obtain ⟨u, rfl, h⟩ := h
  split at h
  · exact ⟨_, rfl, h⟩
  · cases h
noncomputable def as_l126 {ρ : Type} (v : AV UU) (K : List S126 → Option ρ) : Option ρ := asU v fun u => match u with | .l126 x => K x | _ => none
theorem as_l126_inv {ρ : Type} {v : AV UU} {K : List S126 → Option ρ} {r : ρ} (h : as_l126 v K = some r) : ∃ x, v = .pv (.typ (.l126 x)) ∧ K x = some r := by
  replace h := asU_inv h
  obtain ⟨u, rfl, h⟩ := h
  split at h
  · exact ⟨_, rfl, h⟩
  · cases h
noncomputable def asO_l126 {ρ : Type} (v : AV UU) (K : List S126 → Option ρ) : Option ρ := asO v fun u => match u with | .l126 x => K x | _ => none
noncomputable def asOT_l126 {ρ : Type} (v : AV UU) (K : List S126 → List (PV UU) → Option ρ) : Option ρ := asOT v fun u q => match u with | .l126 x => K x q | _ => none
theorem asOT_l126_inv {ρ : Type} {v : AV UU} {K : List S126 → List (PV UU) → Option ρ} {r : ρ} (h : asOT_l126 v K = some r) : ∃ x q, v = .otup (some (.l126 x)) q ∧ K x q = some r := by
  replace h := asOT_inv h
  obtain ⟨u, q, rfl, h⟩ := h
  split at h
  · exact ⟨_, _, rfl, h⟩
  · cases h
theorem asO_l126_inv {ρ : Type} {v : AV UU} {K : List S126 → Option ρ} {r : ρ} (h : asO_l126 v K = some r) : ∃ x, v = .own (.l126 x) ∧ K x = some r := by
  replace h := asO_inv h
  obtain ⟨u, rfl, h⟩ := h
  split at h
  · exact ⟨_, rfl, h⟩
  · cases h
noncomputable def as_ls {ρ : Type} (v : AV UU) (K : List ByteArray → Option ρ) : Option ρ := asU v fun u => match u with | .ls x => K x | _ => none
theorem as_ls_inv {ρ : Type} {v : AV UU} {K : List ByteArray → Option ρ} {r : ρ} (h : as_ls v K = some r) : ∃ x, v = .pv (.typ (.ls x)) ∧ K x = some r := by
  replace h := asU_inv h
  obtain ⟨u, rfl, h⟩ := h
  split at h
  · exact ⟨_, rfl, h⟩
  · cases h
noncomputable def asO_ls {ρ : Type} (v : AV UU) (K : List ByteArray → Option ρ) : Option ρ := asO v fun u => match u with | .ls x => K x | _ => none
noncomputable def asOT_ls {ρ : Type} (v : AV UU) (K : List ByteArray → List (PV UU) → Option ρ) : Option ρ := asOT v fun u q => match u with | .ls x => K x q | _ => none
theorem asOT_ls_inv {ρ : Type} {v : AV UU} {K : List ByteArray → List (PV UU) → Option ρ} {r : ρ} (h : asOT_ls v K = some r) : ∃ x q, v = .otup (some (.ls x)) q ∧ K x q = some r := by
  replace h := asOT_inv h
  obtain ⟨u, q, rfl, h⟩ := h
  split at h
  · exact ⟨_, _, rfl, h⟩
  · cases h
theorem asO_ls_inv {ρ : Type} {v : AV UU} {K : List ByteArray → Option ρ} {r : ρ} (h : asO_ls v K = some r) : ∃ x, v = .own (.ls x) ∧ K x = some r := by
  replace h := asO_inv h
  obtain ⟨u, rfl, h⟩ := h
  split at h
  · exact ⟨_, rfl, h⟩
  · cases h
noncomputable def as_l25 {ρ : Type} (v : AV UU) (K : List T25 → Option ρ) : Option ρ := asU v fun u => match u with | .l25 x => K x | _ => none
theorem as_l25_inv {ρ : Type} {v : AV UU} {K : List T25 → Option ρ} {r : ρ} (h : as_l25 v K = some r) : ∃ x, v = .pv (.typ (.l25 x)) ∧ K x = some r := by
  replace h := asU_inv h
  obtain ⟨u, rfl, h⟩ := h
  split at h
  · exact ⟨_, rfl, h⟩
  · cases h
noncomputable def asO_l25 {ρ : Type} (v : AV UU) (K : List T25 → Option ρ) : Option ρ := asO v fun u => match u with | .l25 x => K x | _ => none
noncomputable def asOT_l25 {ρ : Type} (v : AV UU) (K : List T25 → List (PV UU) → Option ρ) : Option ρ := asOT v fun u q => match u with | .l25 x => K x q | _ => none
theorem asOT_l25_inv {ρ : Type} {v : AV UU} {K : List T25 → List (PV UU) → Option ρ} {r : ρ} (h : asOT_l25 v K = some r) : ∃ x q, v = .otup (some (.l25 x)) q ∧ K x q = some r := by
  replace h := asOT_inv h
  obtain ⟨u, q, rfl, h⟩ := h
  split at h
  · exact ⟨_, _, rfl, h⟩
  · cases h
theorem asO_l25_inv {ρ : Type} {v : AV UU} {K : List T25 → Option ρ} {r : ρ} (h : asO_l25 v K = some r) : ∃ x, v = .own (.l25 x) ∧ K x = some r := by
  replace h := asO_inv h
  obtain ⟨u, rfl, h⟩ := h
  split at h
  · exact ⟨_, rfl, h⟩
  · cases h
noncomputable def as_l113 {ρ : Type} (v : AV UU) (K : List S113 → Option ρ) : Option ρ := asU v fun u => match u with | .l113 x => K x | _ => none
theorem as_l113_inv {ρ : Type} {v : AV UU} {K : List S113 → Option ρ} {r : ρ} (h : as_l113 v K = some r) : ∃ x, v = .pv (.typ (.l113 x)) ∧ K x = some r := by
  replace h := asU_inv h
  obtain ⟨u, rfl, h⟩ := h
  split at h
  · exact ⟨_, rfl, h⟩
  · cases h
noncomputable def asO_l113 {ρ : Type} (v : AV UU) (K : List S113 → Option ρ) : Option ρ := asO v fun u => match u with | .l113 x => K x | _ => none
noncomputable def asOT_l113 {ρ : Type} (v : AV UU) (K : List S113 → List (PV UU) → Option ρ) : Option ρ := asOT v fun u q => match u with | .l113 x => K x q | _ => none
theorem asOT_l113_inv {ρ : Type} {v : AV UU} {K : List S113 → List (PV UU) → Option ρ} {r : ρ} (h : asOT_l113 v K = some r) : ∃ x q, v = .otup (some (.l113 x)) q ∧ K x q = some r := by
  replace h := asOT_inv h
  obtain ⟨u, q, rfl, h⟩ := h
  split at h
  · exact ⟨_, _, rfl, h⟩
  · cases h
theorem asO_l113_inv {ρ : Type} {v : AV UU} {K : List S113 → Option ρ} {r : ρ} (h : asO_l113 v K = some r) : ∃ x, v = .own (.l113 x) ∧ K x = some r := by
  replace h := asO_inv h
  obtain ⟨u, rfl, h⟩ := h
  split at h
  · exact ⟨_, rfl, h⟩
  · cases h
noncomputable def as_ll25 {ρ : Type} (v : AV UU) (K : List (List T25) → Option ρ) : Option ρ := asU v fun u => match u with | .ll25 x => K x | _ => none
theorem as_ll25_inv {ρ : Type} {v : AV UU} {K : List (List T25) → Option ρ} {r : ρ} (h : as_ll25 v K = some r) : ∃ x, v = .pv (.typ (.ll25 x)) ∧ K x = some r := by
  replace h := asU_inv h
  obtain ⟨u, rfl, h⟩ := h
  split at h
  · exact ⟨_, rfl, h⟩
  · cases h
noncomputable def asO_ll25 {ρ : Type} (v : AV UU) (K : List (List T25) → Option ρ) : Option ρ := asO v fun u => match u with | .ll25 x => K x | _ => none
noncomputable def asOT_ll25 {ρ : Type} (v : AV UU) (K : List (List T25) → List (PV UU) → Option ρ) : Option ρ := asOT v fun u q => match u with | .ll25 x => K x q | _ => none
theorem asOT_ll25_inv {ρ : Type} {v : AV UU} {K : List (List T25) → List (PV UU) → Option ρ} {r : ρ} (h : asOT_ll25 v K = some r) : ∃ x q, v = .otup (some (.ll25 x)) q ∧ K x q = some r := by
  replace h := asOT_inv h
  obtain ⟨u, q, rfl, h⟩ := h
  split at h
  · exact ⟨_, _, rfl, h⟩
  · cases h
theorem asO_ll25_inv {ρ : Type} {v : AV UU} {K : List (List T25) → Option ρ} {r : ρ} (h : asO_ll25 v K = some r) : ∃ x, v = .own (.ll25 x) ∧ K x = some r := by
  replace h := asO_inv h
  obtain ⟨u, rfl, h⟩ := h
  split at h
  · exact ⟨_, rfl, h⟩
  · cases h
noncomputable def as_l90 {ρ : Type} (v : AV UU) (K : List S90 → Option ρ) : Option ρ := asU v fun u => match u with | .l90 x => K x | _ => none
theorem as_l90_inv {ρ : Type} {v : AV UU} {K : List S90 → Option ρ} {r : ρ} (h : as_l90 v K = some r) : ∃ x, v = .pv (.typ (.l90 x)) ∧ K x = some r := by
  replace h := asU_inv h
  obtain ⟨u, rfl, h⟩ := h
  split at h
  · exact ⟨_, rfl, h⟩
  · cases h
noncomputable def asO_l90 {ρ : Type} (v : AV UU) (K : List S90 → Option ρ) : Option ρ := asO v fun u => match u with | .l90 x => K x | _ => none
noncomputable def asOT_l90 {ρ : Type} (v : AV UU) (K : List S90 → List (PV UU) → Option ρ) : Option ρ := asOT v fun u q => match u with | .l90 x => K x q | _ => none
theorem asOT_l90_inv {ρ : Type} {v : AV UU} {K : List S90 → List (PV UU) → Option ρ} {r : ρ} (h : asOT_l90 v K = some r) : ∃ x q, v = .otup (some (.l90 x)) q ∧ K x q = some r := by
  replace h := asOT_inv h
  obtain ⟨u, q, rfl, h⟩ := h
  split at h
  · exact ⟨_, _, rfl, h⟩
  · cases h
theorem asO_l90_inv {ρ : Type} {v : AV UU} {K : List S90 → Option ρ} {r : ρ} (h : asO_l90 v K = some r) : ∃ x, v = .own (.l90 x) ∧ K x = some r := by
  replace h := asO_inv h
  obtain ⟨u, rfl, h⟩ := h
  split at h
  · exact ⟨_, rfl, h⟩
  · cases h
noncomputable def as_l106 {ρ : Type} (v : AV UU) (K : List S106 → Option ρ) : Option ρ := asU v fun u => match u with | .l106 x => K x | _ => none
theorem as_l106_inv {ρ : Type} {v : AV UU} {K : List S106 → Option ρ} {r : ρ} (h : as_l106 v K = some r) : ∃ x, v = .pv (.typ (.l106 x)) ∧ K x = some r := by
  replace h := asU_inv h
  obtain ⟨u, rfl, h⟩ := h
  split at h
  · exact ⟨_, rfl, h⟩
  · cases h
noncomputable def asO_l106 {ρ : Type} (v : AV UU) (K : List S106 → Option ρ) : Option ρ := asO v fun u => match u with | .l106 x => K x | _ => none
noncomputable def asOT_l106 {ρ : Type} (v : AV UU) (K : List S106 → List (PV UU) → Option ρ) : Option ρ := asOT v fun u q => match u with | .l106 x => K x q | _ => none
theorem asOT_l106_inv {ρ : Type} {v : AV UU} {K : List S106 → List (PV UU) → Option ρ} {r : ρ} (h : asOT_l106 v K = some r) : ∃ x q, v = .otup (some (.l106 x)) q ∧ K x q = some r := by
  replace h := asOT_inv h
  obtain ⟨u, q, rfl, h⟩ := h
  split at h
  · exact ⟨_, _, rfl, h⟩
  · cases h
theorem asO_l106_inv {ρ : Type} {v : AV UU} {K : List S106 → Option ρ} {r : ρ} (h : asO_l106 v K = some r) : ∃ x, v = .own (.l106 x) ∧ K x = some r := by
  replace h := asO_inv h
  obtain ⟨u, rfl, h⟩ := h
  split at h
  · exact ⟨_, rfl, h⟩
  · cases h
noncomputable def pack_23 (cs : List (PV UU)) : Option (PV UU) :=
popA cs fun v1 a2 =>
asI .i64 (.pv v1) fun z0 =>
popA a2 fun v3 a4 =>
asI .i64 (.pv v3) fun z1 =>
popA a4 fun v5 a6 =>
asS (.pv v5) fun z2 =>
popN a6 <|
some (.typ (.s23 (⟨z0, z1, z2⟩ : S23)))
noncomputable def pack_126 (cs : List (PV UU)) : Option (PV UU) :=
popA cs fun v1 a2 =>
asI .i64 (.pv v1) fun z0 =>
popA a2 fun v3 a4 =>
asS (.pv v3) fun z1 =>
popA a4 fun v5 a6 =>
asI .i64 (.pv v5) fun z2 =>
popN a6 <|
some (.typ (.s126 (⟨z0, z1, z2⟩ : S126)))
noncomputable def pack_25 (cs : List (PV UU)) : Option (PV UU) :=
popA cs fun v1 a2 =>
asI .i64 (.pv v1) fun z0 =>
popA a2 fun v3 a4 =>
asI .i64 (.pv v3) fun z1 =>
popA a4 fun v5 a6 =>
asI .i64 (.pv v5) fun z2 =>
popA a6 fun v7 a8 =>
asS (.pv v7) fun z3 =>
popA a8 fun v9 a10 =>
asS (.pv v9) fun z4 =>
popA a10 fun v11 a12 =>
asS (.pv v11) fun z5 =>
popA a12 fun v13 a14 =>
as_l25 (.pv v13) fun z6 =>
popN a14 <|
some (.typ (.s25 (⟨z0, (⟨z1, z2, z3⟩ : S23), z4, z5, z6⟩ : S25)))
noncomputable def pack_51 (cs : List (PV UU)) : Option (PV UU) :=
popA cs fun v1 a2 =>
as_li_u8 (.pv v1) fun z0 =>
popA a2 fun v3 a4 =>
asB (.pv v3) fun z1 =>
popN a4 <|
some (.typ (.s51 (⟨z0, z1⟩ : S51)))
noncomputable def pack_113 (cs : List (PV UU)) : Option (PV UU) :=
popA cs fun v1 a2 =>
asS (.pv v1) fun z0 =>
popA a2 fun v3 a4 =>
asI .i64 (.pv v3) fun z1 =>
popA a4 fun v5 a6 =>
asB (.pv v5) fun z2 =>
popN a6 <|
some (.typ (.s113 (⟨z0, z1, z2⟩ : S113)))
noncomputable def pack_90 (cs : List (PV UU)) : Option (PV UU) :=
popA cs fun v1 a2 =>
asS (.pv v1) fun z0 =>
popA a2 fun v3 a4 =>
asI .i64 (.pv v3) fun z1 =>
popA a4 fun v5 a6 =>
asI .i64 (.pv v5) fun z2 =>
popA a6 fun v7 a8 =>
asI .i64 (.pv v7) fun z3 =>
popA a8 fun v9 a10 =>
asS (.pv v9) fun z4 =>
popA a10 fun v11 a12 =>
asS (.pv v11) fun z5 =>
popA a12 fun v13 a14 =>
asS (.pv v13) fun z6 =>
popA a14 fun v15 a16 =>
as_l25 (.pv v15) fun z7 =>
popN a16 <|
some (.typ (.s90 (⟨z0, (⟨z1, (⟨z2, z3, z4⟩ : S23), z5, z6, z7⟩ : S25)⟩ : S90)))
noncomputable def pack_106 (cs : List (PV UU)) : Option (PV UU) :=
popA cs fun v1 a2 =>
asI .i64 (.pv v1) fun z0 =>
popA a2 fun v3 a4 =>
asI .i64 (.pv v3) fun z1 =>
popA a4 fun v5 a6 =>
asI .i64 (.pv v5) fun z2 =>
popA a6 fun v7 a8 =>
asS (.pv v7) fun z3 =>
popA a8 fun v9 a10 =>
asS (.pv v9) fun z4 =>
popA a10 fun v11 a12 =>
asS (.pv v11) fun z5 =>
popA a12 fun v13 a14 =>
as_l25 (.pv v13) fun z6 =>
popA a14 fun v15 a16 =>
asB (.pv v15) fun z7 =>
popN a16 <|
some (.typ (.s106 (⟨(⟨z0, (⟨z1, z2, z3⟩ : S23), z4, z5, z6⟩ : S25), z7⟩ : S106)))
noncomputable def pack_60 (cs : List (PV UU)) : Option (PV UU) :=
popA cs fun v1 a2 =>
asI .i64 (.pv v1) fun z0 =>
popA a2 fun v3 a4 =>
asS (.pv v3) fun z1 =>
popA a4 fun v5 a6 =>
asS (.pv v5) fun z2 =>
popA a6 fun v7 a8 =>
asB (.pv v7) fun z3 =>
popA a8 fun v9 a10 =>
as_l113 (.pv v9) fun z4 =>
popA a10 fun v11 a12 =>
as_ls (.pv v11) fun z5 =>
popA a12 fun v13 a14 =>
as_ll25 (.pv v13) fun z6 =>
popA a14 fun v15 a16 =>
as_l90 (.pv v15) fun z7 =>
popA a16 fun v17 a18 =>
as_ls (.pv v17) fun z8 =>
popA a18 fun v19 a20 =>
asB (.pv v19) fun z9 =>
popA a20 fun v21 a22 =>
as_l25 (.pv v21) fun z10 =>
popA a22 fun v23 a24 =>
as_l25 (.pv v23) fun z11 =>
popA a24 fun v25 a26 =>
as_l106 (.pv v25) fun z12 =>
popN a26 <|
some (.typ (.s60 (⟨z0, z1, z2, z3, z4, z5, z6, z7, z8, z9, z10, z11, z12⟩ : S60)))
theorem pack_23_inv {cs : List (PV UU)} {v : PV UU} (h : pack_23 cs = some v) : ∃ u, v = .typ u ∧ uview u = .segs cs := by
  unfold pack_23 at h
  replace h := popA_inv h; obtain ⟨v1, a2, rfl, h⟩ := h
  replace h := asI_inv h; obtain ⟨z0, e, h⟩ := h; cases e
  replace h := popA_inv h; obtain ⟨v3, a4, rfl, h⟩ := h
  replace h := asI_inv h; obtain ⟨z1, e, h⟩ := h; cases e
  replace h := popA_inv h; obtain ⟨v5, a6, rfl, h⟩ := h
  replace h := asS_inv h; obtain ⟨z2, e, h⟩ := h; cases e
  replace h := popN_inv h; obtain ⟨rfl, h⟩ := h
  cases h
  exact ⟨_, rfl, rfl⟩
theorem pack_126_inv {cs : List (PV UU)} {v : PV UU} (h : pack_126 cs = some v) : ∃ u, v = .typ u ∧ uview u = .segs cs := by
  unfold pack_126 at h
  replace h := popA_inv h; obtain ⟨v1, a2, rfl, h⟩ := h
  replace h := asI_inv h; obtain ⟨z0, e, h⟩ := h; cases e
  replace h := popA_inv h; obtain ⟨v3, a4, rfl, h⟩ := h
  replace h := asS_inv h; obtain ⟨z1, e, h⟩ := h; cases e
  replace h := popA_inv h; obtain ⟨v5, a6, rfl, h⟩ := h
  replace h := asI_inv h; obtain ⟨z2, e, h⟩ := h; cases e
  replace h := popN_inv h; obtain ⟨rfl, h⟩ := h
  cases h
  exact ⟨_, rfl, rfl⟩
theorem pack_25_inv {cs : List (PV UU)} {v : PV UU} (h : pack_25 cs = some v) : ∃ u, v = .typ u ∧ uview u = .segs cs := by
  unfold pack_25 at h
  replace h := popA_inv h; obtain ⟨v1, a2, rfl, h⟩ := h
  replace h := asI_inv h; obtain ⟨z0, e, h⟩ := h; cases e
  replace h := popA_inv h; obtain ⟨v3, a4, rfl, h⟩ := h
  replace h := asI_inv h; obtain ⟨z1, e, h⟩ := h; cases e
  replace h := popA_inv h; obtain ⟨v5, a6, rfl, h⟩ := h
  replace h := asI_inv h; obtain ⟨z2, e, h⟩ := h; cases e
  replace h := popA_inv h; obtain ⟨v7, a8, rfl, h⟩ := h
  replace h := asS_inv h; obtain ⟨z3, e, h⟩ := h; cases e
  replace h := popA_inv h; obtain ⟨v9, a10, rfl, h⟩ := h
  replace h := asS_inv h; obtain ⟨z4, e, h⟩ := h; cases e
  replace h := popA_inv h; obtain ⟨v11, a12, rfl, h⟩ := h
  replace h := asS_inv h; obtain ⟨z5, e, h⟩ := h; cases e
  replace h := popA_inv h; obtain ⟨v13, a14, rfl, h⟩ := h
  replace h := as_l25_inv h; obtain ⟨z6, e, h⟩ := h; cases e
  replace h := popN_inv h; obtain ⟨rfl, h⟩ := h
  cases h
  exact ⟨_, rfl, rfl⟩
theorem pack_51_inv {cs : List (PV UU)} {v : PV UU} (h : pack_51 cs = some v) : ∃ u, v = .typ u ∧ uview u = .segs cs := by
  unfold pack_51 at h
  replace h := popA_inv h; obtain ⟨v1, a2, rfl, h⟩ := h
  replace h := as_li_u8_inv h; obtain ⟨z0, e, h⟩ := h; cases e
  replace h := popA_inv h; obtain ⟨v3, a4, rfl, h⟩ := h
  replace h := asB_inv h; obtain ⟨z1, e, h⟩ := h; cases e
  replace h := popN_inv h; obtain ⟨rfl, h⟩ := h
  cases h
  exact ⟨_, rfl, rfl⟩
theorem pack_113_inv {cs : List (PV UU)} {v : PV UU} (h : pack_113 cs = some v) : ∃ u, v = .typ u ∧ uview u = .segs cs := by
  unfold pack_113 at h
  replace h := popA_inv h; obtain ⟨v1, a2, rfl, h⟩ := h
  replace h := asS_inv h; obtain ⟨z0, e, h⟩ := h; cases e
  replace h := popA_inv h; obtain ⟨v3, a4, rfl, h⟩ := h
  replace h := asI_inv h; obtain ⟨z1, e, h⟩ := h; cases e
  replace h := popA_inv h; obtain ⟨v5, a6, rfl, h⟩ := h
  replace h := asB_inv h; obtain ⟨z2, e, h⟩ := h; cases e
  replace h := popN_inv h; obtain ⟨rfl, h⟩ := h
  cases h
  exact ⟨_, rfl, rfl⟩
theorem pack_90_inv {cs : List (PV UU)} {v : PV UU} (h : pack_90 cs = some v) : ∃ u, v = .typ u ∧ uview u = .segs cs := by
  unfold pack_90 at h
  replace h := popA_inv h; obtain ⟨v1, a2, rfl, h⟩ := h
  replace h := asS_inv h; obtain ⟨z0, e, h⟩ := h; cases e
  replace h := popA_inv h; obtain ⟨v3, a4, rfl, h⟩ := h
  replace h := asI_inv h; obtain ⟨z1, e, h⟩ := h; cases e
  replace h := popA_inv h; obtain ⟨v5, a6, rfl, h⟩ := h
  replace h := asI_inv h; obtain ⟨z2, e, h⟩ := h; cases e
  replace h := popA_inv h; obtain ⟨v7, a8, rfl, h⟩ := h
  replace h := asI_inv h; obtain ⟨z3, e, h⟩ := h; cases e
  replace h := popA_inv h; obtain ⟨v9, a10, rfl, h⟩ := h
  replace h := asS_inv h; obtain ⟨z4, e, h⟩ := h; cases e
  replace h := popA_inv h; obtain ⟨v11, a12, rfl, h⟩ := h
  replace h := asS_inv h; obtain ⟨z5, e, h⟩ := h; cases e
  replace h := popA_inv h; obtain ⟨v13, a14, rfl, h⟩ := h
  replace h := asS_inv h; obtain ⟨z6, e, h⟩ := h; cases e
  replace h := popA_inv h; obtain ⟨v15, a16, rfl, h⟩ := h
  replace h := as_l25_inv h; obtain ⟨z7, e, h⟩ := h; cases e
  replace h := popN_inv h; obtain ⟨rfl, h⟩ := h
  cases h
  exact ⟨_, rfl, rfl⟩
theorem pack_106_inv {cs : List (PV UU)} {v : PV UU} (h : pack_106 cs = some v) : ∃ u, v = .typ u ∧ uview u = .segs cs := by
  unfold pack_106 at h
  replace h := popA_inv h; obtain ⟨v1, a2, rfl, h⟩ := h
  replace h := asI_inv h; obtain ⟨z0, e, h⟩ := h; cases e
  replace h := popA_inv h; obtain ⟨v3, a4, rfl, h⟩ := h
  replace h := asI_inv h; obtain ⟨z1, e, h⟩ := h; cases e
  replace h := popA_inv h; obtain ⟨v5, a6, rfl, h⟩ := h
  replace h := asI_inv h; obtain ⟨z2, e, h⟩ := h; cases e
  replace h := popA_inv h; obtain ⟨v7, a8, rfl, h⟩ := h
  replace h := asS_inv h; obtain ⟨z3, e, h⟩ := h; cases e
  replace h := popA_inv h; obtain ⟨v9, a10, rfl, h⟩ := h
  replace h := asS_inv h; obtain ⟨z4, e, h⟩ := h; cases e
  replace h := popA_inv h; obtain ⟨v11, a12, rfl, h⟩ := h
  replace h := asS_inv h; obtain ⟨z5, e, h⟩ := h; cases e
  replace h := popA_inv h; obtain ⟨v13, a14, rfl, h⟩ := h
  replace h := as_l25_inv h; obtain ⟨z6, e, h⟩ := h; cases e
  replace h := popA_inv h; obtain ⟨v15, a16, rfl, h⟩ := h
  replace h := asB_inv h; obtain ⟨z7, e, h⟩ := h; cases e
  replace h := popN_inv h; obtain ⟨rfl, h⟩ := h
  cases h
  exact ⟨_, rfl, rfl⟩
theorem pack_60_inv {cs : List (PV UU)} {v : PV UU} (h : pack_60 cs = some v) : ∃ u, v = .typ u ∧ uview u = .segs cs := by
  unfold pack_60 at h
  replace h := popA_inv h; obtain ⟨v1, a2, rfl, h⟩ := h
  replace h := asI_inv h; obtain ⟨z0, e, h⟩ := h; cases e
  replace h := popA_inv h; obtain ⟨v3, a4, rfl, h⟩ := h
  replace h := asS_inv h; obtain ⟨z1, e, h⟩ := h; cases e
  replace h := popA_inv h; obtain ⟨v5, a6, rfl, h⟩ := h
  replace h := asS_inv h; obtain ⟨z2, e, h⟩ := h; cases e
  replace h := popA_inv h; obtain ⟨v7, a8, rfl, h⟩ := h
  replace h := asB_inv h; obtain ⟨z3, e, h⟩ := h; cases e
  replace h := popA_inv h; obtain ⟨v9, a10, rfl, h⟩ := h
  replace h := as_l113_inv h; obtain ⟨z4, e, h⟩ := h; cases e
  replace h := popA_inv h; obtain ⟨v11, a12, rfl, h⟩ := h
  replace h := as_ls_inv h; obtain ⟨z5, e, h⟩ := h; cases e
  replace h := popA_inv h; obtain ⟨v13, a14, rfl, h⟩ := h
  replace h := as_ll25_inv h; obtain ⟨z6, e, h⟩ := h; cases e
  replace h := popA_inv h; obtain ⟨v15, a16, rfl, h⟩ := h
  replace h := as_l90_inv h; obtain ⟨z7, e, h⟩ := h; cases e
  replace h := popA_inv h; obtain ⟨v17, a18, rfl, h⟩ := h
  replace h := as_ls_inv h; obtain ⟨z8, e, h⟩ := h; cases e
  replace h := popA_inv h; obtain ⟨v19, a20, rfl, h⟩ := h
  replace h := asB_inv h; obtain ⟨z9, e, h⟩ := h; cases e
  replace h := popA_inv h; obtain ⟨v21, a22, rfl, h⟩ := h
  replace h := as_l25_inv h; obtain ⟨z10, e, h⟩ := h; cases e
  replace h := popA_inv h; obtain ⟨v23, a24, rfl, h⟩ := h
  replace h := as_l25_inv h; obtain ⟨z11, e, h⟩ := h; cases e
  replace h := popA_inv h; obtain ⟨v25, a26, rfl, h⟩ := h
  replace h := as_l106_inv h; obtain ⟨z12, e, h⟩ := h; cases e
  replace h := popN_inv h; obtain ⟨rfl, h⟩ := h
  cases h
  exact ⟨_, rfl, rfl⟩
noncomputable def upack (t : TypeId) (cs : List (PV UU)) : Option (PV UU) :=
  if t = 23 then pack_23 cs else
  if t = 24 then pack_23 cs else
  if t = 25 then pack_25 cs else
  if t = 26 then pack_25 cs else
  if t = 51 then pack_51 cs else
  if t = 52 then pack_51 cs else
  if t = 60 then pack_60 cs else
  if t = 61 then pack_60 cs else
  if t = 90 then pack_90 cs else
  if t = 91 then pack_90 cs else
  if t = 106 then pack_106 cs else
  if t = 107 then pack_106 cs else
  if t = 113 then pack_113 cs else
  if t = 114 then pack_113 cs else
  if t = 126 then pack_126 cs else
  if t = 127 then pack_126 cs else
  none
noncomputable def uapp : UU → UU → Option UU
  | .li_u8 a, .li_u8 b => some (.li_u8 (a ++ b))
  | .l126 a, .l126 b => some (.l126 (a ++ b))
  | .ls a, .ls b => some (.ls (a ++ b))
  | .l25 a, .l25 b => some (.l25 (a ++ b))
  | .l113 a, .l113 b => some (.l113 (a ++ b))
  | .ll25 a, .ll25 b => some (.ll25 (a ++ b))
  | .l90 a, .l90 b => some (.l90 (a ++ b))
  | .l106 a, .l106 b => some (.l106 (a ++ b))
  | _, _ => none
noncomputable def ucut : UU → Nat → Nat → Option UU
  | .li_u8 l, lo, hi => some (.li_u8 ((l.drop lo).take (hi - lo)))
  | .l126 l, lo, hi => some (.l126 ((l.drop lo).take (hi - lo)))
  | .ls l, lo, hi => some (.ls ((l.drop lo).take (hi - lo)))
  | .l25 l, lo, hi => some (.l25 ((l.drop lo).take (hi - lo)))
  | .l113 l, lo, hi => some (.l113 ((l.drop lo).take (hi - lo)))
  | .ll25 l, lo, hi => some (.ll25 ((l.drop lo).take (hi - lo)))
  | .l90 l, lo, hi => some (.l90 ((l.drop lo).take (hi - lo)))
  | .l106 l, lo, hi => some (.l106 ((l.drop lo).take (hi - lo)))
  | _, _, _ => none
noncomputable def uzr (t : TypeId) (n : Nat) : Option UU :=
  none
noncomputable def uset : UU → Nat → PV UU → Option UU
  | .li_u8 l, i, v => (of_li_u8 v).map fun x => .li_u8 (l.set i x)
  | .l126 l, i, v => (of_l126 v).map fun x => .l126 (l.set i x)
  | .ls l, i, v => (of_ls v).map fun x => .ls (l.set i x)
  | .l25 l, i, v => (of_l25 v).map fun x => .l25 (l.set i x)
  | .l113 l, i, v => (of_l113 v).map fun x => .l113 (l.set i x)
  | .ll25 l, i, v => (of_ll25 v).map fun x => .ll25 (l.set i x)
  | .l90 l, i, v => (of_l90 v).map fun x => .l90 (l.set i x)
  | .l106 l, i, v => (of_l106 v).map fun x => .l106 (l.set i x)
  | _, _, _ => none
noncomputable def usetA : UU → Nat → PV UU → Option UU
  | _, _, _ => none
noncomputable def ulenA : UU → Nat
  | _ => 0
noncomputable def uover : UU → Nat → Nat → UU → Option UU
  | .li_u8 l, lo, n, .li_u8 q => some (.li_u8 (overL l lo n q))
  | _, _, _, _ => none
noncomputable def uofs (s : ByteArray) : Option UU := some (.li_u8 (bytesOf s))
noncomputable def utos : UU → Option ByteArray
  | .li_u8 l => some (strOfNums l)
  | _ => none
noncomputable def utab : List (Nat × TI) := [(2, ⟨.int .i64, 1, 8⟩),
  (3, ⟨.int .i64, 1, 8⟩),
  (4, ⟨.bool, 1, 1⟩),
  (5, ⟨.int .u8, 1, 1⟩),
  (6, ⟨.int .u8, 1, 1⟩),
  (9, ⟨.str, 1, 16⟩),
  (10, ⟨.str, 1, 16⟩),
  (11, ⟨.str, 1, 16⟩),
  (12, ⟨.int .u64, 1, 8⟩),
  (21, ⟨.int .i32, 1, 4⟩),
  (22, ⟨.slice 26, 1, 24⟩),
  (23, ⟨.struct [(0, 3), (1, 2), (2, 9)], 3, 32⟩),
  (24, ⟨.struct [(0, 3), (1, 2), (2, 9)], 3, 32⟩),
  (25, ⟨.struct [(0, 3), (1, 24), (4, 9), (5, 9), (6, 22)], 7, 96⟩),
  (26, ⟨.struct [(0, 3), (1, 24), (4, 9), (5, 9), (6, 22)], 7, 96⟩),
  (28, ⟨.int .i64, 1, 8⟩),
  (32, ⟨.slice 5, 1, 24⟩),
  (51, ⟨.struct [(0, 32), (1, 4)], 2, 32⟩),
  (52, ⟨.struct [(0, 32), (1, 4)], 2, 32⟩),
  (55, ⟨.slice 9, 1, 24⟩),
  (56, ⟨.slice 114, 1, 24⟩),
  (57, ⟨.slice 22, 1, 24⟩),
  (58, ⟨.slice 91, 1, 24⟩),
  (59, ⟨.slice 107, 1, 24⟩),
  (60, ⟨.struct [(0, 3), (1, 9), (2, 9), (3, 4), (4, 56), (5, 55), (6, 57), (7, 58), (8, 55), (9, 4), (10, 22), (11, 22), (12, 59)], 13, 248⟩),
  (61, ⟨.struct [(0, 3), (1, 9), (2, 9), (3, 4), (4, 56), (5, 55), (6, 57), (7, 58), (8, 55), (9, 4), (10, 22), (11, 22), (12, 59)], 13, 248⟩),
  (90, ⟨.struct [(0, 9), (1, 26)], 8, 112⟩),
  (91, ⟨.struct [(0, 9), (1, 26)], 8, 112⟩),
  (99, ⟨.int .u64, 1, 8⟩),
  (106, ⟨.struct [(0, 26), (7, 4)], 8, 104⟩),
  (107, ⟨.struct [(0, 26), (7, 4)], 8, 104⟩),
  (113, ⟨.struct [(0, 9), (1, 3), (2, 4)], 3, 32⟩),
  (114, ⟨.struct [(0, 9), (1, 3), (2, 4)], 3, 32⟩),
  (123, ⟨.slice 127, 1, 24⟩),
  (126, ⟨.struct [(0, 3), (1, 9), (2, 2)], 3, 32⟩),
  (127, ⟨.struct [(0, 3), (1, 9), (2, 2)], 3, 32⟩),
  (130, ⟨.int .u64, 1, 8⟩),
  (147, ⟨.int .u32, 1, 4⟩),
  (171, ⟨.int .u8, 1, 1⟩),
  (172, ⟨.int .u8, 1, 1⟩),
  (175, ⟨.int .i32, 1, 4⟩),
  (176, ⟨.int .i32, 1, 4⟩),
  (50, ⟨.other, 1, 8⟩)]
noncomputable def uinv (D : Nat → Prop) (w : World) : Prop := TabOk Tryd.prog D w "internal/strconv.uint64pow10" .u64 Lib.pow10Tab
noncomputable def uzeros : List (Nat × List (AV UU)) := [(2, [.pv (.int .i64 0)]),
  (3, [.pv (.int .i64 0)]),
  (4, [.pv (.bool false)]),
  (5, [.pv (.int .u8 0)]),
  (6, [.pv (.int .u8 0)]),
  (9, [.pv (.str ByteArray.empty)]),
  (10, [.pv (.str ByteArray.empty)]),
  (11, [.pv (.str ByteArray.empty)]),
  (12, [.pv (.int .u64 0)]),
  (21, [.pv (.int .i32 0)]),
  (22, [.pv (.typ (.l25 []))]),
  (23, [.pv (.int .i64 0), .pv (.int .i64 0), .pv (.str ByteArray.empty)]),
  (24, [.pv (.int .i64 0), .pv (.int .i64 0), .pv (.str ByteArray.empty)]),
  (25, [.pv (.int .i64 0), .pv (.int .i64 0), .pv (.int .i64 0), .pv (.str ByteArray.empty), .pv (.str ByteArray.empty), .pv (.str ByteArray.empty), .pv (.typ (.l25 []))]),
  (26, [.pv (.int .i64 0), .pv (.int .i64 0), .pv (.int .i64 0), .pv (.str ByteArray.empty), .pv (.str ByteArray.empty), .pv (.str ByteArray.empty), .pv (.typ (.l25 []))]),
  (28, [.pv (.int .i64 0)]),
  (32, [.pv (.typ (.li_u8 []))]),
  (51, [.own (.li_u8 []), .pv (.bool false)]),
  (52, [.own (.li_u8 []), .pv (.bool false)]),
  (55, [.pv (.typ (.ls []))]),
  (56, [.pv (.typ (.l113 []))]),
  (57, [.pv (.typ (.ll25 []))]),
  (58, [.pv (.typ (.l90 []))]),
  (59, [.pv (.typ (.l106 []))]),
  (60, [.pv (.int .i64 0), .pv (.str ByteArray.empty), .pv (.str ByteArray.empty), .pv (.bool false), .pv (.typ (.l113 [])), .pv (.typ (.ls [])), .pv (.typ (.ll25 [])), .pv (.typ (.l90 [])), .pv (.typ (.ls [])), .pv (.bool false), .pv (.typ (.l25 [])), .pv (.typ (.l25 [])), .pv (.typ (.l106 []))]),
  (61, [.pv (.int .i64 0), .pv (.str ByteArray.empty), .pv (.str ByteArray.empty), .pv (.bool false), .pv (.typ (.l113 [])), .pv (.typ (.ls [])), .pv (.typ (.ll25 [])), .pv (.typ (.l90 [])), .pv (.typ (.ls [])), .pv (.bool false), .pv (.typ (.l25 [])), .pv (.typ (.l25 [])), .pv (.typ (.l106 []))]),
  (90, [.pv (.str ByteArray.empty), .pv (.int .i64 0), .pv (.int .i64 0), .pv (.int .i64 0), .pv (.str ByteArray.empty), .pv (.str ByteArray.empty), .pv (.str ByteArray.empty), .pv (.typ (.l25 []))]),
  (91, [.pv (.str ByteArray.empty), .pv (.int .i64 0), .pv (.int .i64 0), .pv (.int .i64 0), .pv (.str ByteArray.empty), .pv (.str ByteArray.empty), .pv (.str ByteArray.empty), .pv (.typ (.l25 []))]),
  (99, [.pv (.int .u64 0)]),
  (106, [.pv (.int .i64 0), .pv (.int .i64 0), .pv (.int .i64 0), .pv (.str ByteArray.empty), .pv (.str ByteArray.empty), .pv (.str ByteArray.empty), .pv (.typ (.l25 [])), .pv (.bool false)]),
  (107, [.pv (.int .i64 0), .pv (.int .i64 0), .pv (.int .i64 0), .pv (.str ByteArray.empty), .pv (.str ByteArray.empty), .pv (.str ByteArray.empty), .pv (.typ (.l25 [])), .pv (.bool false)]),
  (113, [.pv (.str ByteArray.empty), .pv (.int .i64 0), .pv (.bool false)]),
  (114, [.pv (.str ByteArray.empty), .pv (.int .i64 0), .pv (.bool false)]),
  (123, [.pv (.typ (.l126 []))]),
  (126, [.pv (.int .i64 0), .pv (.str ByteArray.empty), .pv (.int .i64 0)]),
  (127, [.pv (.int .i64 0), .pv (.str ByteArray.empty), .pv (.int .i64 0)]),
  (130, [.pv (.int .u64 0)]),
  (147, [.pv (.int .u32 0)]),
  (171, [.pv (.int .u8 0)]),
  (172, [.pv (.int .u8 0)]),
  (175, [.pv (.int .i32 0)]),
  (176, [.pv (.int .i32 0)])]
noncomputable def UX : Univ where
  U := UU
  view := uview
  width := uwidth
  esz := uesz
  nil := assoc unil
  lit := ulit
  zeros := uzr
  pack := upack
  app := uapp
  appS _ _ := none
  cut := ucut
  set := uset
  setA := usetA
  lenA := ulenA
  over := uover
  ofStr := uofs
  toStr := utos
  ty := assoc utab
  inv := uinv
  zero := assoc uzeros
  zval t c := ∃ info v, Tryd.prog.info? t = some info ∧ info.zero = some v ∧ c.cells = v.cells
theorem xok : XOK UX where
  wpos u := by cases u <;> exact of_decide_eq_true (by kernel_rfl)
  nil t u h := nilB_of (view := uview) (by kernel_rfl) h
  pack t cs v h := by
    change upack t cs = some v at h
    unfold upack at h
    by_cases e : t = 23
    · rw [if_pos e] at h; exact .inl ( pack_23_inv h)
    rw [if_neg e] at h; clear e
    by_cases e : t = 24
    · rw [if_pos e] at h; exact .inl ( pack_23_inv h)
    rw [if_neg e] at h; clear e
    by_cases e : t = 25
    · rw [if_pos e] at h; exact .inl ( pack_25_inv h)
    rw [if_neg e] at h; clear e
    by_cases e : t = 26
    · rw [if_pos e] at h; exact .inl ( pack_25_inv h)
    rw [if_neg e] at h; clear e
    by_cases e : t = 51
    · rw [if_pos e] at h; exact .inl ( pack_51_inv h)
    rw [if_neg e] at h; clear e
    by_cases e : t = 52
    · rw [if_pos e] at h; exact .inl ( pack_51_inv h)
    rw [if_neg e] at h; clear e
    by_cases e : t = 60
    · rw [if_pos e] at h; exact .inl ( pack_60_inv h)
    rw [if_neg e] at h; clear e
    by_cases e : t = 61
    · rw [if_pos e] at h; exact .inl ( pack_60_inv h)
    rw [if_neg e] at h; clear e
    by_cases e : t = 90
    · rw [if_pos e] at h; exact .inl ( pack_90_inv h)
    rw [if_neg e] at h; clear e
    by_cases e : t = 91
    · rw [if_pos e] at h; exact .inl ( pack_90_inv h)
    rw [if_neg e] at h; clear e
    by_cases e : t = 106
    · rw [if_pos e] at h; exact .inl ( pack_106_inv h)
    rw [if_neg e] at h; clear e
    by_cases e : t = 107
    · rw [if_pos e] at h; exact .inl ( pack_106_inv h)
    rw [if_neg e] at h; clear e
    by_cases e : t = 113
    · rw [if_pos e] at h; exact .inl ( pack_113_inv h)
    rw [if_neg e] at h; clear e
    by_cases e : t = 114
    · rw [if_pos e] at h; exact .inl ( pack_113_inv h)
    rw [if_neg e] at h; clear e
    by_cases e : t = 126
    · rw [if_pos e] at h; exact .inl ( pack_126_inv h)
    rw [if_neg e] at h; clear e
    by_cases e : t = 127
    · rw [if_pos e] at h; exact .inl ( pack_126_inv h)
    rw [if_neg e] at h; clear e
    cases h
  lit t es u h := by
    change ulit t es = some u at h
    unfold ulit at h
    split at h
    · exact lit_case (view := uview) (g := fun n => .typ (.s25 n.s)) default of_l25_inv (fun _ => rfl) h
    split at h
    · exact lit_case (view := uview) (g := fun n => .int .u8 n) (0 : Int) of_li_u8_inv (fun _ => rfl) h
    split at h
    · exact lit_case (view := uview) (g := fun n => .str n) ByteArray.empty of_ls_inv (fun _ => rfl) h
    split at h
    · exact lit_case (view := uview) (g := fun n => .typ (.s113 n)) default of_l113_inv (fun _ => rfl) h
    split at h
    · exact lit_case (view := uview) (g := fun n => .typ (.l25 n)) [] of_ll25_inv (fun _ => rfl) h
    split at h
    · exact lit_case (view := uview) (g := fun n => .typ (.s90 n)) default of_l90_inv (fun _ => rfl) h
    split at h
    · exact lit_case (view := uview) (g := fun n => .typ (.s106 n)) default of_l106_inv (fun _ => rfl) h
    split at h
    · exact lit_case (view := uview) (g := fun n => .typ (.s126 n)) default of_l126_inv (fun _ => rfl) h
    cases h
  cut u lo hi u' n get h hv h1 h2 := by
    change ucut u lo hi = some u' at h
    change uview u = .sl n get at hv
    cases u with
    | li_u8 l => change some (UU.li_u8 _) = some u' at h; cases h; exact ⟨rfl, cut_case (view := uview) (C := .li_u8) (g := fun n => .int .u8 n) (0 : Int) (fun _ => rfl) hv h1 h2⟩
    | l126 l => change some (UU.l126 _) = some u' at h; cases h; exact ⟨rfl, cut_case (view := uview) (C := .l126) (g := fun n => .typ (.s126 n)) default (fun _ => rfl) hv h1 h2⟩
    | ls l => change some (UU.ls _) = some u' at h; cases h; exact ⟨rfl, cut_case (view := uview) (C := .ls) (g := fun n => .str n) ByteArray.empty (fun _ => rfl) hv h1 h2⟩
    | l25 l => change some (UU.l25 _) = some u' at h; cases h; exact ⟨rfl, cut_case (view := uview) (C := .l25) (g := fun n => .typ (.s25 n.s)) default (fun _ => rfl) hv h1 h2⟩
    | l113 l => change some (UU.l113 _) = some u' at h; cases h; exact ⟨rfl, cut_case (view := uview) (C := .l113) (g := fun n => .typ (.s113 n)) default (fun _ => rfl) hv h1 h2⟩
    | ll25 l => change some (UU.ll25 _) = some u' at h; cases h; exact ⟨rfl, cut_case (view := uview) (C := .ll25) (g := fun n => .typ (.l25 n)) [] (fun _ => rfl) hv h1 h2⟩
    | l90 l => change some (UU.l90 _) = some u' at h; cases h; exact ⟨rfl, cut_case (view := uview) (C := .l90) (g := fun n => .typ (.s90 n)) default (fun _ => rfl) hv h1 h2⟩
    | l106 l => change some (UU.l106 _) = some u' at h; cases h; exact ⟨rfl, cut_case (view := uview) (C := .l106) (g := fun n => .typ (.s106 n)) default (fun _ => rfl) hv h1 h2⟩
    | _ => (change (none : Option UU) = some _ at h; cases h)
  app u v z n get k get' h hv hv' := by
    change uapp u v = some z at h
    change uview u = .sl n get at hv
    change uview v = .sl k get' at hv'
    cases u with
    | li_u8 a => cases v with
      | li_u8 b => change some (UU.li_u8 _) = some z at h; cases h; exact ⟨rfl, rfl, app_case (view := uview) (C := .li_u8) (g := fun n => .int .u8 n) (0 : Int) (fun _ => rfl) hv hv'⟩
      | _ => (change (none : Option UU) = some _ at h; cases h)
    | l126 a => cases v with
      | l126 b => change some (UU.l126 _) = some z at h; cases h; exact ⟨rfl, rfl, app_case (view := uview) (C := .l126) (g := fun n => .typ (.s126 n)) default (fun _ => rfl) hv hv'⟩
      | _ => (change (none : Option UU) = some _ at h; cases h)
    | ls a => cases v with
      | ls b => change some (UU.ls _) = some z at h; cases h; exact ⟨rfl, rfl, app_case (view := uview) (C := .ls) (g := fun n => .str n) ByteArray.empty (fun _ => rfl) hv hv'⟩
      | _ => (change (none : Option UU) = some _ at h; cases h)
    | l25 a => cases v with
      | l25 b => change some (UU.l25 _) = some z at h; cases h; exact ⟨rfl, rfl, app_case (view := uview) (C := .l25) (g := fun n => .typ (.s25 n.s)) default (fun _ => rfl) hv hv'⟩
      | _ => (change (none : Option UU) = some _ at h; cases h)
    | l113 a => cases v with
      | l113 b => change some (UU.l113 _) = some z at h; cases h; exact ⟨rfl, rfl, app_case (view := uview) (C := .l113) (g := fun n => .typ (.s113 n)) default (fun _ => rfl) hv hv'⟩
      | _ => (change (none : Option UU) = some _ at h; cases h)
    | ll25 a => cases v with
      | ll25 b => change some (UU.ll25 _) = some z at h; cases h; exact ⟨rfl, rfl, app_case (view := uview) (C := .ll25) (g := fun n => .typ (.l25 n)) [] (fun _ => rfl) hv hv'⟩
      | _ => (change (none : Option UU) = some _ at h; cases h)
    | l90 a => cases v with
      | l90 b => change some (UU.l90 _) = some z at h; cases h; exact ⟨rfl, rfl, app_case (view := uview) (C := .l90) (g := fun n => .typ (.s90 n)) default (fun _ => rfl) hv hv'⟩
      | _ => (change (none : Option UU) = some _ at h; cases h)
    | l106 a => cases v with
      | l106 b => change some (UU.l106 _) = some z at h; cases h; exact ⟨rfl, rfl, app_case (view := uview) (C := .l106) (g := fun n => .typ (.s106 n)) default (fun _ => rfl) hv hv'⟩
      | _ => (change (none : Option UU) = some _ at h; cases h)
    | _ => cases v <;> (change (none : Option UU) = some _ at h; cases h)
  set u i v u' n get h hv hi := by
    change uset u i v = some u' at h
    change uview u = .sl n get at hv
    cases u with
    | li_u8 l => obtain ⟨x, hx, h⟩ := Option.map_eq_some_iff.1 h; subst h; exact ⟨rfl, set_case (view := uview) (C := .li_u8) (g := fun n => .int .u8 n) (0 : Int) (fun _ => rfl) (of_li_u8_inv v x hx) hv hi⟩
    | l126 l => obtain ⟨x, hx, h⟩ := Option.map_eq_some_iff.1 h; subst h; exact ⟨rfl, set_case (view := uview) (C := .l126) (g := fun n => .typ (.s126 n)) default (fun _ => rfl) (of_l126_inv v x hx) hv hi⟩
    | ls l => obtain ⟨x, hx, h⟩ := Option.map_eq_some_iff.1 h; subst h; exact ⟨rfl, set_case (view := uview) (C := .ls) (g := fun n => .str n) ByteArray.empty (fun _ => rfl) (of_ls_inv v x hx) hv hi⟩
    | l25 l => obtain ⟨x, hx, h⟩ := Option.map_eq_some_iff.1 h; subst h; exact ⟨rfl, set_case (view := uview) (C := .l25) (g := fun n => .typ (.s25 n.s)) default (fun _ => rfl) (of_l25_inv v x hx) hv hi⟩
    | l113 l => obtain ⟨x, hx, h⟩ := Option.map_eq_some_iff.1 h; subst h; exact ⟨rfl, set_case (view := uview) (C := .l113) (g := fun n => .typ (.s113 n)) default (fun _ => rfl) (of_l113_inv v x hx) hv hi⟩
    | ll25 l => obtain ⟨x, hx, h⟩ := Option.map_eq_some_iff.1 h; subst h; exact ⟨rfl, set_case (view := uview) (C := .ll25) (g := fun n => .typ (.l25 n)) [] (fun _ => rfl) (of_ll25_inv v x hx) hv hi⟩
    | l90 l => obtain ⟨x, hx, h⟩ := Option.map_eq_some_iff.1 h; subst h; exact ⟨rfl, set_case (view := uview) (C := .l90) (g := fun n => .typ (.s90 n)) default (fun _ => rfl) (of_l90_inv v x hx) hv hi⟩
    | l106 l => obtain ⟨x, hx, h⟩ := Option.map_eq_some_iff.1 h; subst h; exact ⟨rfl, set_case (view := uview) (C := .l106) (g := fun n => .typ (.s106 n)) default (fun _ => rfl) (of_l106_inv v x hx) hv hi⟩
    | _ => (change (none : Option UU) = some _ at h; cases h)
  setA u i v u' n get h hv hi hi2 := by
    change usetA u i v = some u' at h
    change uview u = .arr n get at hv
    cases u with
    | _ => (change (none : Option UU) = some _ at h; cases h)
  over u lo n v u' N get k get2 h hv hv2 h1 h2 := by
    change uover u lo n v = some u' at h
    change uview u = .sl N get at hv
    change uview v = .sl k get2 at hv2
    cases u with
    | li_u8 a => cases v with
      | li_u8 b => change some (UU.li_u8 _) = some u' at h; cases h; exact ⟨rfl, over_case (view := uview) (C := .li_u8) (g := fun n => .int .u8 n) (0 : Int) (fun _ => rfl) hv hv2 h1 h2⟩
      | _ => (change (none : Option UU) = some _ at h; cases h)
    | _ => (change (none : Option UU) = some _ at h; cases h)
  zeros t n u h := by
    change uzr t n = some u at h
    unfold uzr at h
    cases h
  ofStr s u h := by
    change uofs s = some u at h
    cases h
    exact ⟨rfl, ofs_case (view := uview) (C := .li_u8) fun _ => rfl⟩
  inv D D' w w' h h1 h2 h3 := tabOk_keep h h1 h2 h3
  toStr u s h := by
    change utos u = some s at h
    cases u with
    | li_u8 l => cases h; exact ⟨rfl, _, l, rfl, fun _ _ => rfl, rfl⟩
    | _ => (change (none : Option ByteArray) = some _ at h; cases h)
theorem tok : TOK Tryd.prog UX := tok_of rfl rfl (fun _ _ => Iff.rfl) (by kernel_rfl)end Go.Proofs.YtnoeedkbadoogaaDoor.P
