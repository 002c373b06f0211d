/-
  The plain data's types, and that the program's types are so.
-/
import Derived.Test.YtcongmnnacmbmaaAxGen
import Derived.Test.YtcongmnnacmbmaaKF
import Derived.Test.YtcongmnnacmbmaaProg
namespace Go.Proofs.Ytcongmnnacmbmaa.K
open Go Go.AX
inductive UU where
  | s41 (x : S41)
  | s25 (x : S25)
  | l41 (x : List S41)
  | ll41 (x : List (List S41))
  | l25 (x : List S25)
noncomputable def uview : UU → View UU
  | .s41 x => .segs [.int .i64 x.f0, .int .i64 x.f1, .str x.f2]
  | .s25 x => .segs [.typ (.l41 x.f0), .typ (.l41 x.f1), .typ (.ll41 x.f2)]
  | .l41 x => .sl x.length fun i => .typ (.s41 (x.getD i default))
  | .ll41 x => .sl x.length fun i => .typ (.l41 (x.getD i []))
  | .l25 x => .sl x.length fun i => .typ (.s25 (x.getD i default))
noncomputable def uwidth : UU → Nat
  | _ => 1
noncomputable def uesz : UU → Nat
  | .l41 _ => 3
  | .ll41 _ => 1
  | .l25 _ => 3
  | _ => 1
noncomputable def unil : List (Nat × UU) := [(22, .l25 []), (23, .l41 []), (24, .ll41 [])]
noncomputable def of_l41 (v : PV UU) : Option S41 := match v with | .typ (.s41 n) => some n | _ => none
theorem of_l41_inv (v : PV UU) (x : S41) (h : of_l41 v = some x) : v = .typ (.s41 x) := by
  unfold of_l41 at h
  split at h
  · cases h; rfl
  · cases h
noncomputable def of_ll41 (v : PV UU) : Option (List S41) := match v with | .typ (.l41 n) => some n | _ => none
theorem of_ll41_inv (v : PV UU) (x : List S41) (h : of_ll41 v = some x) : v = .typ (.l41 x) := by
  unfold of_ll41 at h
  split at h
  · cases h; rfl
  · cases h
noncomputable def of_l25 (v : PV UU) : Option S25 := match v with | .typ (.s25 n) => some n | _ => none
theorem of_l25_inv (v : PV UU) (x : S25) (h : of_l25 v = some x) : v = .typ (.s25 x) := by
  unfold of_l25 at h
  split at h
  · cases h; rfl
  · cases h
noncomputable def ulit (t : TypeId) (es : List (PV UU)) : Option UU :=
  if t = 22 then (mapO of_l25 es).map .l25 else
  if t = 23 then (mapO of_l41 es).map .l41 else
  if t = 24 then (mapO of_ll41 es).map .ll41 else
  none
noncomputable def as_s41 {ρ : Type} (v : AV UU) (K : S41 → Option ρ) : Option ρ := asU v fun u => match u with | .s41 x => K x | _ => none
theorem as_s41_inv {ρ : Type} {v : AV UU} {K : S41 → Option ρ} {r : ρ} (h : as_s41 v K = some r) : ∃ x, v = .pv (.typ (.s41 x)) ∧ K x = some r := by
  replace h := asU_inv h
  obtain ⟨u, rfl, h⟩ := h
  split at h
  · exact ⟨_, rfl, h⟩
  · cases h
noncomputable def as_s25 {ρ : Type} (v : AV UU) (K : S25 → Option ρ) : Option ρ := asU v fun u => match u with | .s25 x => K x | _ => none
theorem as_s25_inv {ρ : Type} {v : AV UU} {K : S25 → Option ρ} {r : ρ} (h : as_s25 v K = some r) : ∃ x, v = .pv (.typ (.s25 x)) ∧ K x = some r := by
  replace h := asU_inv h
  obtain ⟨u, rfl, h⟩ := h
  split at h
  · exact ⟨_, rfl, h⟩
  · cases h
noncomputable def as_l41 {ρ : Type} (v : AV UU) (K : List S41 → Option ρ) : Option ρ := asU v fun u => match u with | .l41 x => K x | _ => none
theorem as_l41_inv {ρ : Type} {v : AV UU} {K : List S41 → Option ρ} {r : ρ} (h : as_l41 v K = some r) : ∃ x, v = .pv (.typ (.l41 x)) ∧ K x = some r := by
  replace h := asU_inv h
  obtain ⟨u, rfl, h⟩ := h
  split at h
  · exact ⟨_, rfl, h⟩
  · cases h
noncomputable def asO_l41 {ρ : Type} (v : AV UU) (K : List S41 → Option ρ) : Option ρ := asO v fun u => match u with | .l41 x => K x | _ => none
noncomputable def asOT_l41 {ρ : Type} (v : AV UU) (K : List S41 → List (PV UU) → Option ρ) : Option ρ := asOT v fun u q => match u with | .l41 x => K x q | _ => none
theorem asOT_l41_inv {ρ : Type} {v : AV UU} {K : List S41 → List (PV UU) → Option ρ} {r : ρ} (h : asOT_l41 v K = some r) : ∃ x q, v = .otup (some (.l41 x)) q ∧ K x q = some r := by
  replace h := asOT_inv h
  obtain ⟨u, q, rfl, h⟩ := h
  split at h
  · exact ⟨_, _, rfl, h⟩
  · cases h
theorem asO_l41_inv {ρ : Type} {v : AV UU} {K : List S41 → Option ρ} {r : ρ} (h : asO_l41 v K = some r) : ∃ x, v = .own (.l41 x) ∧ K x = some r := by
  replace h := asO_inv h
  obtain ⟨u, rfl, h⟩ := h
  split at h
  · exact ⟨_, rfl, h⟩
  · cases h
noncomputable def as_ll41 {ρ : Type} (v : AV UU) (K : List (List S41) → Option ρ) : Option ρ := asU v fun u => match u with | .ll41 x => K x | _ => none
theorem as_ll41_inv {ρ : Type} {v : AV UU} {K : List (List S41) → Option ρ} {r : ρ} (h : as_ll41 v K = some r) : ∃ x, v = .pv (.typ (.ll41 x)) ∧ K x = some r := by
  replace h := asU_inv h
  obtain ⟨u, rfl, h⟩ := h
  split at h
  · exact ⟨_, rfl, h⟩
  · cases h
noncomputable def asO_ll41 {ρ : Type} (v : AV UU) (K : List (List S41) → Option ρ) : Option ρ := asO v fun u => match u with | .ll41 x => K x | _ => none
noncomputable def asOT_ll41 {ρ : Type} (v : AV UU) (K : List (List S41) → List (PV UU) → Option ρ) : Option ρ := asOT v fun u q => match u with | .ll41 x => K x q | _ => none
theorem asOT_ll41_inv {ρ : Type} {v : AV UU} {K : List (List S41) → List (PV UU) → Option ρ} {r : ρ} (h : asOT_ll41 v K = some r) : ∃ x q, v = .otup (some (.ll41 x)) q ∧ K x q = some r := by
  replace h := asOT_inv h
  obtain ⟨u, q, rfl, h⟩ := h
  split at h
  · exact ⟨_, _, rfl, h⟩
  · cases h
theorem asO_ll41_inv {ρ : Type} {v : AV UU} {K : List (List S41) → Option ρ} {r : ρ} (h : asO_ll41 v K = some r) : ∃ x, v = .own (.ll41 x) ∧ K x = some r := by
  replace h := asO_inv h
  obtain ⟨u, rfl, h⟩ := h
  split at h
  · exact ⟨_, rfl, h⟩
  · cases h
noncomputable def as_l25 {ρ : Type} (v : AV UU) (K : List S25 → Option ρ) : Option ρ := asU v fun u => match u with | .l25 x => K x | _ => none
theorem as_l25_inv {ρ : Type} {v : AV UU} {K : List S25 → Option ρ} {r : ρ} (h : as_l25 v K = some r) : ∃ x, v = .pv (.typ (.l25 x)) ∧ K x = some r := by
  replace h := asU_inv h
  obtain ⟨u, rfl, h⟩ := h
  split at h
  · exact ⟨_, rfl, h⟩
  · cases h
noncomputable def asO_l25 {ρ : Type} (v : AV UU) (K : List S25 → Option ρ) : Option ρ := asO v fun u => match u with | .l25 x => K x | _ => none
noncomputable def asOT_l25 {ρ : Type} (v : AV UU) (K : List S25 → List (PV UU) → Option ρ) : Option ρ := asOT v fun u q => match u with | .l25 x => K x q | _ => none
theorem asOT_l25_inv {ρ : Type} {v : AV UU} {K : List S25 → List (PV UU) → Option ρ} {r : ρ} (h : asOT_l25 v K = some r) : ∃ x q, v = .otup (some (.l25 x)) q ∧ K x q = some r := by
  replace h := asOT_inv h
  obtain ⟨u, q, rfl, h⟩ := h
  split at h
  · exact ⟨_, _, rfl, h⟩
  · cases h
theorem asO_l25_inv {ρ : Type} {v : AV UU} {K : List S25 → Option ρ} {r : ρ} (h : asO_l25 v K = some r) : ∃ x, v = .own (.l25 x) ∧ K x = some r := by
  replace h := asO_inv h
  obtain ⟨u, rfl, h⟩ := h
  split at h
  · exact ⟨_, rfl, h⟩
  · cases h
noncomputable def pack_41 (cs : List (PV UU)) : Option (PV UU) :=
popA cs fun v1 a2 =>
asI .i64 (.pv v1) fun z0 =>
popA a2 fun v3 a4 =>
asI .i64 (.pv v3) fun z1 =>
popA a4 fun v5 a6 =>
asS (.pv v5) fun z2 =>
popN a6 <|
some (.typ (.s41 (⟨z0, z1, z2⟩ : S41)))
noncomputable def pack_25 (cs : List (PV UU)) : Option (PV UU) :=
popA cs fun v1 a2 =>
as_l41 (.pv v1) fun z0 =>
popA a2 fun v3 a4 =>
as_l41 (.pv v3) fun z1 =>
popA a4 fun v5 a6 =>
as_ll41 (.pv v5) fun z2 =>
popN a6 <|
some (.typ (.s25 (⟨z0, z1, z2⟩ : S25)))
theorem pack_41_inv {cs : List (PV UU)} {v : PV UU} (h : pack_41 cs = some v) : ∃ u, v = .typ u ∧ uview u = .segs cs := by
  unfold pack_41 at h
  replace h := popA_inv h; obtain ⟨v1, a2, rfl, h⟩ := h
  replace h := asI_inv h; obtain ⟨z0, e, h⟩ := h; cases e
  replace h := popA_inv h; obtain ⟨v3, a4, rfl, h⟩ := h
  replace h := asI_inv h; obtain ⟨z1, e, h⟩ := h; cases e
  replace h := popA_inv h; obtain ⟨v5, a6, rfl, h⟩ := h
  replace h := asS_inv h; obtain ⟨z2, e, h⟩ := h; cases e
  replace h := popN_inv h; obtain ⟨rfl, h⟩ := h
  cases h
  exact ⟨_, rfl, rfl⟩
theorem pack_25_inv {cs : List (PV UU)} {v : PV UU} (h : pack_25 cs = some v) : ∃ u, v = .typ u ∧ uview u = .segs cs := by
  unfold pack_25 at h
  replace h := popA_inv h; obtain ⟨v1, a2, rfl, h⟩ := h
  replace h := as_l41_inv h; obtain ⟨z0, e, h⟩ := h; cases e
  replace h := popA_inv h; obtain ⟨v3, a4, rfl, h⟩ := h
  replace h := as_l41_inv h; obtain ⟨z1, e, h⟩ := h; cases e
  replace h := popA_inv h; obtain ⟨v5, a6, rfl, h⟩ := h
  replace h := as_ll41_inv h; obtain ⟨z2, e, h⟩ := h; cases e
  replace h := popN_inv h; obtain ⟨rfl, h⟩ := h
  cases h
  exact ⟨_, rfl, rfl⟩
noncomputable def upack (t : TypeId) (cs : List (PV UU)) : Option (PV UU) :=
  if t = 25 then pack_25 cs else
  if t = 26 then pack_25 cs else
  if t = 41 then pack_41 cs else
  if t = 42 then pack_41 cs else
  none
noncomputable def uapp : UU → UU → Option UU
  | .l41 a, .l41 b => some (.l41 (a ++ b))
  | .ll41 a, .ll41 b => some (.ll41 (a ++ b))
  | .l25 a, .l25 b => some (.l25 (a ++ b))
  | _, _ => none
noncomputable def ucut : UU → Nat → Nat → Option UU
  | .l41 l, lo, hi => some (.l41 ((l.drop lo).take (hi - lo)))
  | .ll41 l, lo, hi => some (.ll41 ((l.drop lo).take (hi - lo)))
  | .l25 l, lo, hi => some (.l25 ((l.drop lo).take (hi - lo)))
  | _, _, _ => none
noncomputable def uzr (t : TypeId) (n : Nat) : Option UU :=
  none
noncomputable def uset : UU → Nat → PV UU → Option UU
  | .l41 l, i, v => (of_l41 v).map fun x => .l41 (l.set i x)
  | .ll41 l, i, v => (of_ll41 v).map fun x => .ll41 (l.set i x)
  | .l25 l, i, v => (of_l25 v).map fun x => .l25 (l.set i x)
  | _, _, _ => none
noncomputable def uover : UU → Nat → Nat → UU → Option UU
  | _, _, _, _ => none
noncomputable def uofs (s : ByteArray) : Option UU := none
noncomputable def utos : UU → Option ByteArray
  | _ => none
noncomputable def utab : List (Nat × TI) := [(2, ⟨.int .i64, 1, 8⟩),
  (3, ⟨.int .i64, 1, 8⟩),
  (4, ⟨.bool, 1, 1⟩),
  (5, ⟨.int .u8, 1, 1⟩),
  (6, ⟨.int .u8, 1, 1⟩),
  (9, ⟨.str, 1, 16⟩),
  (10, ⟨.str, 1, 16⟩),
  (11, ⟨.str, 1, 16⟩),
  (12, ⟨.int .u64, 1, 8⟩),
  (21, ⟨.int .i32, 1, 4⟩),
  (22, ⟨.slice 26, 1, 24⟩),
  (23, ⟨.slice 42, 1, 24⟩),
  (24, ⟨.slice 23, 1, 24⟩),
  (25, ⟨.struct [(0, 23), (1, 23), (2, 24)], 3, 72⟩),
  (26, ⟨.struct [(0, 23), (1, 23), (2, 24)], 3, 72⟩),
  (28, ⟨.int .i64, 1, 8⟩),
  (41, ⟨.struct [(0, 3), (1, 2), (2, 9)], 3, 32⟩),
  (42, ⟨.struct [(0, 3), (1, 2), (2, 9)], 3, 32⟩),
  (55, ⟨.int .u32, 1, 4⟩),
  (56, ⟨.int .u8, 1, 1⟩),
  (57, ⟨.int .u8, 1, 1⟩),
  (60, ⟨.int .i32, 1, 4⟩),
  (61, ⟨.int .i32, 1, 4⟩)]
noncomputable def uinv (D : Nat → Prop) (w : World) : Prop := True
noncomputable def uzeros : List (Nat × List (AV UU)) := [(2, [.pv (.int .i64 0)]),
  (3, [.pv (.int .i64 0)]),
  (4, [.pv (.bool false)]),
  (5, [.pv (.int .u8 0)]),
  (6, [.pv (.int .u8 0)]),
  (9, [.pv (.str ByteArray.empty)]),
  (10, [.pv (.str ByteArray.empty)]),
  (11, [.pv (.str ByteArray.empty)]),
  (12, [.pv (.int .u64 0)]),
  (21, [.pv (.int .i32 0)]),
  (22, [.pv (.typ (.l25 []))]),
  (23, [.pv (.typ (.l41 []))]),
  (24, [.pv (.typ (.ll41 []))]),
  (25, [.pv (.typ (.l41 [])), .pv (.typ (.l41 [])), .pv (.typ (.ll41 []))]),
  (26, [.pv (.typ (.l41 [])), .pv (.typ (.l41 [])), .pv (.typ (.ll41 []))]),
  (28, [.pv (.int .i64 0)]),
  (41, [.pv (.int .i64 0), .pv (.int .i64 0), .pv (.str ByteArray.empty)]),
  (42, [.pv (.int .i64 0), .pv (.int .i64 0), .pv (.str ByteArray.empty)]),
  (55, [.pv (.int .u32 0)]),
  (56, [.pv (.int .u8 0)]),
  (57, [.pv (.int .u8 0)]),
  (60, [.pv (.int .i32 0)]),
  (61, [.pv (.int .i32 0)])]
noncomputable def UX : Univ where
  U := UU
  view := uview
  width := uwidth
  esz := uesz
  nil := assoc unil
  lit := ulit
  zeros := uzr
  pack := upack
  app := uapp
  appS _ _ := none
  cut := ucut
  set := uset
  over := uover
  ofStr := uofs
  toStr := utos
  ty := assoc utab
  inv := uinv
  zero := assoc uzeros
theorem xok : XOK UX where
  wpos u := by cases u <;> exact of_decide_eq_true (by kernel_rfl)
  nil t u h := nilB_of (view := uview) (by kernel_rfl) h
  pack t cs v h := by
    change upack t cs = some v at h
    unfold upack at h
    split at h
    · exact .inl ( pack_25_inv h)
    split at h
    · exact .inl ( pack_25_inv h)
    split at h
    · exact .inl ( pack_41_inv h)
    split at h
    · exact .inl ( pack_41_inv h)
    cases h
  lit t es u h := by
    change ulit t es = some u at h
    unfold ulit at h
    split at h
    · exact lit_case (view := uview) (g := fun n => .typ (.s25 n)) default of_l25_inv (fun _ => rfl) h
    split at h
    · exact lit_case (view := uview) (g := fun n => .typ (.s41 n)) default of_l41_inv (fun _ => rfl) h
    split at h
    · exact lit_case (view := uview) (g := fun n => .typ (.l41 n)) [] of_ll41_inv (fun _ => rfl) h
    cases h
  cut u lo hi u' n get h hv h1 h2 := by
    change ucut u lo hi = some u' at h
    change uview u = .sl n get at hv
    cases u with
    | l41 l => change some (UU.l41 _) = some u' at h; cases h; exact ⟨rfl, cut_case (view := uview) (C := .l41) (g := fun n => .typ (.s41 n)) default (fun _ => rfl) hv h1 h2⟩
    | ll41 l => change some (UU.ll41 _) = some u' at h; cases h; exact ⟨rfl, cut_case (view := uview) (C := .ll41) (g := fun n => .typ (.l41 n)) [] (fun _ => rfl) hv h1 h2⟩
    | l25 l => change some (UU.l25 _) = some u' at h; cases h; exact ⟨rfl, cut_case (view := uview) (C := .l25) (g := fun n => .typ (.s25 n)) default (fun _ => rfl) hv h1 h2⟩
    | _ => (change (none : Option UU) = some _ at h; cases h)
  app u v z n get k get' h hv hv' := by
    change uapp u v = some z at h
    change uview u = .sl n get at hv
    change uview v = .sl k get' at hv'
    cases u with
    | l41 a => cases v with
      | l41 b => change some (UU.l41 _) = some z at h; cases h; exact ⟨rfl, rfl, app_case (view := uview) (C := .l41) (g := fun n => .typ (.s41 n)) default (fun _ => rfl) hv hv'⟩
      | _ => (change (none : Option UU) = some _ at h; cases h)
    | ll41 a => cases v with
      | ll41 b => change some (UU.ll41 _) = some z at h; cases h; exact ⟨rfl, rfl, app_case (view := uview) (C := .ll41) (g := fun n => .typ (.l41 n)) [] (fun _ => rfl) hv hv'⟩
      | _ => (change (none : Option UU) = some _ at h; cases h)
    | l25 a => cases v with
      | l25 b => change some (UU.l25 _) = some z at h; cases h; exact ⟨rfl, rfl, app_case (view := uview) (C := .l25) (g := fun n => .typ (.s25 n)) default (fun _ => rfl) hv hv'⟩
      | _ => (change (none : Option UU) = some _ at h; cases h)
    | _ => cases v <;> (change (none : Option UU) = some _ at h; cases h)
  set u i v u' n get h hv hi := by
    change uset u i v = some u' at h
    change uview u = .sl n get at hv
    cases u with
    | l41 l => obtain ⟨x, hx, h⟩ := Option.map_eq_some_iff.1 h; subst h; exact ⟨rfl, set_case (view := uview) (C := .l41) (g := fun n => .typ (.s41 n)) default (fun _ => rfl) (of_l41_inv v x hx) hv hi⟩
    | ll41 l => obtain ⟨x, hx, h⟩ := Option.map_eq_some_iff.1 h; subst h; exact ⟨rfl, set_case (view := uview) (C := .ll41) (g := fun n => .typ (.l41 n)) [] (fun _ => rfl) (of_ll41_inv v x hx) hv hi⟩
    | l25 l => obtain ⟨x, hx, h⟩ := Option.map_eq_some_iff.1 h; subst h; exact ⟨rfl, set_case (view := uview) (C := .l25) (g := fun n => .typ (.s25 n)) default (fun _ => rfl) (of_l25_inv v x hx) hv hi⟩
    | _ => (change (none : Option UU) = some _ at h; cases h)
  over u lo n v u' N get k get2 h hv hv2 h1 h2 := by
    change uover u lo n v = some u' at h
    change uview u = .sl N get at hv
    change uview v = .sl k get2 at hv2
    cases u with
    | _ => (change (none : Option UU) = some _ at h; cases h)
  zeros t n u h := by
    change uzr t n = some u at h
    unfold uzr at h
    cases h
  ofStr s u h := by
    change uofs s = some u at h
    cases h
  inv D D' w w' h h1 h2 h3 := trivial
  toStr u s h := by
    change utos u = some s at h
    cases u with
    | _ => (change (none : Option ByteArray) = some _ at h; cases h)
theorem tok : TOK Try.prog UX := tok_of rfl rfl (by kernel_rfl)end Go.Proofs.Ytcongmnnacmbmaa.K
