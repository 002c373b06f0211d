/-
  The plain data's types, and that the program's types are so.
-/
import Derived.Test.YtekjibpkkgldgaaAxGen
import Derived.Test.YtekjibpkkgldgaaBF
import Derived.Test.YtekjibpkkgldgaaProg
namespace Go.Proofs.Ytekjibpkkgldgaa.B
open Go Go.AX
inductive UU where
  | s26 (x : S26)
  | li_u8 (x : List Int)
  | lli_u8 (x : List (List Int))
  | lb (x : List Bool)
  | l26 (x : List S26)
noncomputable def uview : UU → View UU
  | .s26 x => .segs [.int .i64 x.f0, .int .i64 x.f1, .typ (.lli_u8 x.f2), .typ (.li_u8 x.f3)]
  | .li_u8 x => .sl x.length fun i => .int .u8 (x.getD i 0)
  | .lli_u8 x => .sl x.length fun i => .typ (.li_u8 (x.getD i []))
  | .lb x => .sl x.length fun i => .bool (x.getD i false)
  | .l26 x => .sl x.length fun i => .typ (.s26 (x.getD i default))
noncomputable def uwidth : UU → Nat
  | _ => 1
noncomputable def uesz : UU → Nat
  | .li_u8 _ => 1
  | .lli_u8 _ => 1
  | .lb _ => 1
  | .l26 _ => 4
  | _ => 1
noncomputable def unil : List (Nat × UU) := [(22, .l26 []), (24, .lli_u8 []), (25, .li_u8 []), (87, .lb [])]
noncomputable def of_li_u8 (v : PV UU) : Option Int := match v with | .int k n => if k = .u8 then some n else none | _ => none
theorem of_li_u8_inv (v : PV UU) (x : Int) (h : of_li_u8 v = some x) : v = .int .u8 x := by
  unfold of_li_u8 at h
  split at h
  · split at h
    · rename_i e; subst e; cases h; rfl
    · cases h
  · cases h
noncomputable def of_lli_u8 (v : PV UU) : Option (List Int) := match v with | .typ (.li_u8 n) => some n | _ => none
theorem of_lli_u8_inv (v : PV UU) (x : List Int) (h : of_lli_u8 v = some x) : v = .typ (.li_u8 x) := by
  unfold of_lli_u8 at h
  split at h
  · cases h; rfl
  · cases h
noncomputable def of_lb (v : PV UU) : Option Bool := match v with | .bool n => some n | _ => none
theorem of_lb_inv (v : PV UU) (x : Bool) (h : of_lb v = some x) : v = .bool x := by
  unfold of_lb at h
  split at h
  · cases h; rfl
  · cases h
noncomputable def of_l26 (v : PV UU) : Option S26 := match v with | .typ (.s26 n) => some n | _ => none
theorem of_l26_inv (v : PV UU) (x : S26) (h : of_l26 v = some x) : v = .typ (.s26 x) := by
  unfold of_l26 at h
  split at h
  · cases h; rfl
  · cases h
noncomputable def ulit (t : TypeId) (es : List (PV UU)) : Option UU :=
  if t = 22 then (mapO of_l26 es).map .l26 else
  if t = 24 then (mapO of_lli_u8 es).map .lli_u8 else
  if t = 25 then (mapO of_li_u8 es).map .li_u8 else
  if t = 87 then (mapO of_lb es).map .lb else
  none
noncomputable def as_s26 {ρ : Type} (v : AV UU) (K : S26 → Option ρ) : Option ρ := asU v fun u => match u with | .s26 x => K x | _ => none
theorem as_s26_inv {ρ : Type} {v : AV UU} {K : S26 → Option ρ} {r : ρ} (h : as_s26 v K = some r) : ∃ x, v = .pv (.typ (.s26 x)) ∧ K x = some r := by
  replace h := asU_inv h
  obtain ⟨u, rfl, h⟩ := h
  split at h
  · exact ⟨_, rfl, h⟩
  · cases h
noncomputable def as_li_u8 {ρ : Type} (v : AV UU) (K : List Int → Option ρ) : Option ρ := asU v fun u => match u with | .li_u8 x => K x | _ => none
theorem as_li_u8_inv {ρ : Type} {v : AV UU} {K : List Int → Option ρ} {r : ρ} (h : as_li_u8 v K = some r) : ∃ x, v = .pv (.typ (.li_u8 x)) ∧ K x = some r := by
  replace h := asU_inv h
  obtain ⟨u, rfl, h⟩ := h
  split at h
  · exact ⟨_, rfl, h⟩
  · cases h
noncomputable def asO_li_u8 {ρ : Type} (v : AV UU) (K : List Int → Option ρ) : Option ρ := asO v fun u => match u with | .li_u8 x => K x | _ => none
noncomputable def asOT_li_u8 {ρ : Type} (v : AV UU) (K : List Int → List (PV UU) → Option ρ) : Option ρ := asOT v fun u q => match u with | .li_u8 x => K x q | _ => none
theorem asOT_li_u8_inv {ρ : Type} {v : AV UU} {K : List Int → List (PV UU) → Option ρ} {r : ρ} (h : asOT_li_u8 v K = some r) : ∃ x q, v = .otup (some (.li_u8 x)) q ∧ K x q = some r := by
  replace h := asOT_inv h
  obtain ⟨u, q, rfl, h⟩ := h
  split at h
  · exact ⟨_, _, rfl, h⟩
  · cases h
theorem asO_li_u8_inv {ρ : Type} {v : AV UU} {K : List Int → Option ρ} {r : ρ} (h : asO_li_u8 v K = some r) : ∃ x, v = .own (.li_u8 x) ∧ K x = some r := by
  replace h := asO_inv h
  obtain ⟨u, rfl, h⟩ := h
  split at h
  · exact ⟨_, rfl, h⟩
  · cases h
noncomputable def as_lli_u8 {ρ : Type} (v : AV UU) (K : List (List Int) → Option ρ) : Option ρ := asU v fun u => match u with | .lli_u8 x => K x | _ => none
theorem as_lli_u8_inv {ρ : Type} {v : AV UU} {K : List (List Int) → Option ρ} {r : ρ} (h : as_lli_u8 v K = some r) : ∃ x, v = .pv (.typ (.lli_u8 x)) ∧ K x = some r := by
  replace h := asU_inv h
  obtain ⟨u, rfl, h⟩ := h
  split at h
  · exact ⟨_, rfl, h⟩
  · cases h
noncomputable def asO_lli_u8 {ρ : Type} (v : AV UU) (K : List (List Int) → Option ρ) : Option ρ := asO v fun u => match u with | .lli_u8 x => K x | _ => none
noncomputable def asOT_lli_u8 {ρ : Type} (v : AV UU) (K : List (List Int) → List (PV UU) → Option ρ) : Option ρ := asOT v fun u q => match u with | .lli_u8 x => K x q | _ => none
theorem asOT_lli_u8_inv {ρ : Type} {v : AV UU} {K : List (List Int) → List (PV UU) → Option ρ} {r : ρ} (h : asOT_lli_u8 v K = some r) : ∃ x q, v = .otup (some (.lli_u8 x)) q ∧ K x q = some r := by
  replace h := asOT_inv h
  obtain ⟨u, q, rfl, h⟩ := h
  split at h
  · exact ⟨_, _, rfl, h⟩
  · cases h
theorem asO_lli_u8_inv {ρ : Type} {v : AV UU} {K : List (List Int) → Option ρ} {r : ρ} (h : asO_lli_u8 v K = some r) : ∃ x, v = .own (.lli_u8 x) ∧ K x = some r := by
  replace h := asO_inv h
  obtain ⟨u, rfl, h⟩ := h
  split at h
  · exact ⟨_, rfl, h⟩
  · cases h
noncomputable def as_lb {ρ : Type} (v : AV UU) (K : List Bool → Option ρ) : Option ρ := asU v fun u => match u with | .lb x => K x | _ => none
theorem as_lb_inv {ρ : Type} {v : AV UU} {K : List Bool → Option ρ} {r : ρ} (h : as_lb v K = some r) : ∃ x, v = .pv (.typ (.lb x)) ∧ K x = some r := by
  replace h := asU_inv h
  obtain ⟨u, rfl, h⟩ := h
  split at h
  · exact ⟨_, rfl, h⟩
  · cases h
noncomputable def asO_lb {ρ : Type} (v : AV UU) (K : List Bool → Option ρ) : Option ρ := asO v fun u => match u with | .lb x => K x | _ => none
noncomputable def asOT_lb {ρ : Type} (v : AV UU) (K : List Bool → List (PV UU) → Option ρ) : Option ρ := asOT v fun u q => match u with | .lb x => K x q | _ => none
theorem asOT_lb_inv {ρ : Type} {v : AV UU} {K : List Bool → List (PV UU) → Option ρ} {r : ρ} (h : asOT_lb v K = some r) : ∃ x q, v = .otup (some (.lb x)) q ∧ K x q = some r := by
  replace h := asOT_inv h
  obtain ⟨u, q, rfl, h⟩ := h
  split at h
  · exact ⟨_, _, rfl, h⟩
  · cases h
theorem asO_lb_inv {ρ : Type} {v : AV UU} {K : List Bool → Option ρ} {r : ρ} (h : asO_lb v K = some r) : ∃ x, v = .own (.lb x) ∧ K x = some r := by
  replace h := asO_inv h
  obtain ⟨u, rfl, h⟩ := h
  split at h
  · exact ⟨_, rfl, h⟩
  · cases h
noncomputable def as_l26 {ρ : Type} (v : AV UU) (K : List S26 → Option ρ) : Option ρ := asU v fun u => match u with | .l26 x => K x | _ => none
theorem as_l26_inv {ρ : Type} {v : AV UU} {K : List S26 → Option ρ} {r : ρ} (h : as_l26 v K = some r) : ∃ x, v = .pv (.typ (.l26 x)) ∧ K x = some r := by
  replace h := asU_inv h
  obtain ⟨u, rfl, h⟩ := h
  split at h
  · exact ⟨_, rfl, h⟩
  · cases h
noncomputable def asO_l26 {ρ : Type} (v : AV UU) (K : List S26 → Option ρ) : Option ρ := asO v fun u => match u with | .l26 x => K x | _ => none
noncomputable def asOT_l26 {ρ : Type} (v : AV UU) (K : List S26 → List (PV UU) → Option ρ) : Option ρ := asOT v fun u q => match u with | .l26 x => K x q | _ => none
theorem asOT_l26_inv {ρ : Type} {v : AV UU} {K : List S26 → List (PV UU) → Option ρ} {r : ρ} (h : asOT_l26 v K = some r) : ∃ x q, v = .otup (some (.l26 x)) q ∧ K x q = some r := by
  replace h := asOT_inv h
  obtain ⟨u, q, rfl, h⟩ := h
  split at h
  · exact ⟨_, _, rfl, h⟩
  · cases h
theorem asO_l26_inv {ρ : Type} {v : AV UU} {K : List S26 → Option ρ} {r : ρ} (h : asO_l26 v K = some r) : ∃ x, v = .own (.l26 x) ∧ K x = some r := by
  replace h := asO_inv h
  obtain ⟨u, rfl, h⟩ := h
  split at h
  · exact ⟨_, rfl, h⟩
  · cases h
noncomputable def pack_26 (cs : List (PV UU)) : Option (PV UU) :=
popA cs fun v1 a2 =>
asI .i64 (.pv v1) fun z0 =>
popA a2 fun v3 a4 =>
asI .i64 (.pv v3) fun z1 =>
popA a4 fun v5 a6 =>
as_lli_u8 (.pv v5) fun z2 =>
popA a6 fun v7 a8 =>
as_li_u8 (.pv v7) fun z3 =>
popN a8 <|
some (.typ (.s26 (⟨z0, z1, z2, z3⟩ : S26)))
theorem pack_26_inv {cs : List (PV UU)} {v : PV UU} (h : pack_26 cs = some v) : ∃ u, v = .typ u ∧ uview u = .segs cs := by
  unfold pack_26 at h
  replace h := popA_inv h; obtain ⟨v1, a2, rfl, h⟩ := h
  replace h := asI_inv h; obtain ⟨z0, e, h⟩ := h; cases e
  replace h := popA_inv h; obtain ⟨v3, a4, rfl, h⟩ := h
  replace h := asI_inv h; obtain ⟨z1, e, h⟩ := h; cases e
  replace h := popA_inv h; obtain ⟨v5, a6, rfl, h⟩ := h
  replace h := as_lli_u8_inv h; obtain ⟨z2, e, h⟩ := h; cases e
  replace h := popA_inv h; obtain ⟨v7, a8, rfl, h⟩ := h
  replace h := as_li_u8_inv h; obtain ⟨z3, e, h⟩ := h; cases e
  replace h := popN_inv h; obtain ⟨rfl, h⟩ := h
  cases h
  exact ⟨_, rfl, rfl⟩
noncomputable def upack (t : TypeId) (cs : List (PV UU)) : Option (PV UU) :=
  if t = 26 then pack_26 cs else
  if t = 27 then pack_26 cs else
  none
noncomputable def uapp : UU → UU → Option UU
  | .li_u8 a, .li_u8 b => some (.li_u8 (a ++ b))
  | .lli_u8 a, .lli_u8 b => some (.lli_u8 (a ++ b))
  | .lb a, .lb b => some (.lb (a ++ b))
  | .l26 a, .l26 b => some (.l26 (a ++ b))
  | _, _ => none
noncomputable def ucut : UU → Nat → Nat → Option UU
  | .li_u8 l, lo, hi => some (.li_u8 ((l.drop lo).take (hi - lo)))
  | .lli_u8 l, lo, hi => some (.lli_u8 ((l.drop lo).take (hi - lo)))
  | .lb l, lo, hi => some (.lb ((l.drop lo).take (hi - lo)))
  | .l26 l, lo, hi => some (.l26 ((l.drop lo).take (hi - lo)))
  | _, _, _ => none
noncomputable def uzr (t : TypeId) (n : Nat) : Option UU :=
  if t = 25 then some (.li_u8 (List.replicate n 0)) else
  if t = 87 then some (.lb (List.replicate n false)) else
  none
noncomputable def uset : UU → Nat → PV UU → Option UU
  | .li_u8 l, i, v => (of_li_u8 v).map fun x => .li_u8 (l.set i x)
  | .lli_u8 l, i, v => (of_lli_u8 v).map fun x => .lli_u8 (l.set i x)
  | .lb l, i, v => (of_lb v).map fun x => .lb (l.set i x)
  | .l26 l, i, v => (of_l26 v).map fun x => .l26 (l.set i x)
  | _, _, _ => none
noncomputable def uover : UU → Nat → Nat → UU → Option UU
  | .li_u8 l, lo, n, .li_u8 q => some (.li_u8 (overL l lo n q))
  | _, _, _, _ => none
noncomputable def uofs (s : ByteArray) : Option UU := some (.li_u8 (bytesOf s))
noncomputable def utos : UU → Option ByteArray
  | .li_u8 l => some (strOfNums l)
  | _ => none
noncomputable def utab : List (Nat × TI) := [(2, ⟨.int .i64, 1, 8⟩),
  (3, ⟨.int .i64, 1, 8⟩),
  (4, ⟨.bool, 1, 1⟩),
  (5, ⟨.int .u8, 1, 1⟩),
  (6, ⟨.int .u8, 1, 1⟩),
  (9, ⟨.str, 1, 16⟩),
  (10, ⟨.str, 1, 16⟩),
  (11, ⟨.str, 1, 16⟩),
  (12, ⟨.int .u64, 1, 8⟩),
  (21, ⟨.int .i32, 1, 4⟩),
  (22, ⟨.slice 27, 1, 24⟩),
  (24, ⟨.slice 25, 1, 24⟩),
  (25, ⟨.slice 5, 1, 24⟩),
  (26, ⟨.struct [(0, 3), (1, 3), (2, 24), (3, 25)], 4, 64⟩),
  (27, ⟨.struct [(0, 3), (1, 3), (2, 24), (3, 25)], 4, 64⟩),
  (36, ⟨.int .i64, 1, 8⟩),
  (79, ⟨.int .u64, 1, 8⟩),
  (85, ⟨.int .u64, 1, 8⟩),
  (87, ⟨.slice 4, 1, 24⟩),
  (107, ⟨.int .i8, 1, 1⟩),
  (108, ⟨.int .i16, 1, 2⟩),
  (146, ⟨.int .u32, 1, 4⟩),
  (147, ⟨.int .u8, 1, 1⟩),
  (148, ⟨.int .u8, 1, 1⟩),
  (151, ⟨.int .i32, 1, 4⟩),
  (152, ⟨.int .i32, 1, 4⟩)]
noncomputable def uinv (D : Nat → Prop) (w : World) : Prop := True
noncomputable def uzeros : List (Nat × List (AV UU)) := [(2, [.pv (.int .i64 0)]),
  (3, [.pv (.int .i64 0)]),
  (4, [.pv (.bool false)]),
  (5, [.pv (.int .u8 0)]),
  (6, [.pv (.int .u8 0)]),
  (9, [.pv (.str ByteArray.empty)]),
  (10, [.pv (.str ByteArray.empty)]),
  (11, [.pv (.str ByteArray.empty)]),
  (12, [.pv (.int .u64 0)]),
  (21, [.pv (.int .i32 0)]),
  (22, [.pv (.typ (.l26 []))]),
  (24, [.pv (.typ (.lli_u8 []))]),
  (25, [.pv (.typ (.li_u8 []))]),
  (26, [.pv (.int .i64 0), .pv (.int .i64 0), .pv (.typ (.lli_u8 [])), .pv (.typ (.li_u8 []))]),
  (27, [.pv (.int .i64 0), .pv (.int .i64 0), .pv (.typ (.lli_u8 [])), .pv (.typ (.li_u8 []))]),
  (36, [.pv (.int .i64 0)]),
  (79, [.pv (.int .u64 0)]),
  (85, [.pv (.int .u64 0)]),
  (87, [.pv (.typ (.lb []))]),
  (107, [.pv (.int .i8 0)]),
  (108, [.pv (.int .i16 0)]),
  (146, [.pv (.int .u32 0)]),
  (147, [.pv (.int .u8 0)]),
  (148, [.pv (.int .u8 0)]),
  (151, [.pv (.int .i32 0)]),
  (152, [.pv (.int .i32 0)])]
noncomputable def UX : Univ where
  U := UU
  view := uview
  width := uwidth
  esz := uesz
  nil := assoc unil
  lit := ulit
  zeros := uzr
  pack := upack
  app := uapp
  appS _ _ := none
  cut := ucut
  set := uset
  over := uover
  ofStr := uofs
  toStr := utos
  ty := assoc utab
  inv := uinv
  zero := assoc uzeros
theorem xok : XOK UX where
  wpos u := by cases u <;> exact of_decide_eq_true (by kernel_rfl)
  nil t u h := nilB_of (view := uview) (by kernel_rfl) h
  pack t cs v h := by
    change upack t cs = some v at h
    unfold upack at h
    split at h
    · exact .inl ( pack_26_inv h)
    split at h
    · exact .inl ( pack_26_inv h)
    cases h
  lit t es u h := by
    change ulit t es = some u at h
    unfold ulit at h
    split at h
    · exact lit_case (view := uview) (g := fun n => .typ (.s26 n)) default of_l26_inv (fun _ => rfl) h
    split at h
    · exact lit_case (view := uview) (g := fun n => .typ (.li_u8 n)) [] of_lli_u8_inv (fun _ => rfl) h
    split at h
    · exact lit_case (view := uview) (g := fun n => .int .u8 n) (0 : Int) of_li_u8_inv (fun _ => rfl) h
    split at h
    · exact lit_case (view := uview) (g := fun n => .bool n) false of_lb_inv (fun _ => rfl) h
    cases h
  cut u lo hi u' n get h hv h1 h2 := by
    change ucut u lo hi = some u' at h
    change uview u = .sl n get at hv
    cases u with
    | li_u8 l => change some (UU.li_u8 _) = some u' at h; cases h; exact ⟨rfl, cut_case (view := uview) (C := .li_u8) (g := fun n => .int .u8 n) (0 : Int) (fun _ => rfl) hv h1 h2⟩
    | lli_u8 l => change some (UU.lli_u8 _) = some u' at h; cases h; exact ⟨rfl, cut_case (view := uview) (C := .lli_u8) (g := fun n => .typ (.li_u8 n)) [] (fun _ => rfl) hv h1 h2⟩
    | lb l => change some (UU.lb _) = some u' at h; cases h; exact ⟨rfl, cut_case (view := uview) (C := .lb) (g := fun n => .bool n) false (fun _ => rfl) hv h1 h2⟩
    | l26 l => change some (UU.l26 _) = some u' at h; cases h; exact ⟨rfl, cut_case (view := uview) (C := .l26) (g := fun n => .typ (.s26 n)) default (fun _ => rfl) hv h1 h2⟩
    | _ => (change (none : Option UU) = some _ at h; cases h)
  app u v z n get k get' h hv hv' := by
    change uapp u v = some z at h
    change uview u = .sl n get at hv
    change uview v = .sl k get' at hv'
    cases u with
    | li_u8 a => cases v with
      | li_u8 b => change some (UU.li_u8 _) = some z at h; cases h; exact ⟨rfl, rfl, app_case (view := uview) (C := .li_u8) (g := fun n => .int .u8 n) (0 : Int) (fun _ => rfl) hv hv'⟩
      | _ => (change (none : Option UU) = some _ at h; cases h)
    | lli_u8 a => cases v with
      | lli_u8 b => change some (UU.lli_u8 _) = some z at h; cases h; exact ⟨rfl, rfl, app_case (view := uview) (C := .lli_u8) (g := fun n => .typ (.li_u8 n)) [] (fun _ => rfl) hv hv'⟩
      | _ => (change (none : Option UU) = some _ at h; cases h)
    | lb a => cases v with
      | lb b => change some (UU.lb _) = some z at h; cases h; exact ⟨rfl, rfl, app_case (view := uview) (C := .lb) (g := fun n => .bool n) false (fun _ => rfl) hv hv'⟩
      | _ => (change (none : Option UU) = some _ at h; cases h)
    | l26 a => cases v with
      | l26 b => change some (UU.l26 _) = some z at h; cases h; exact ⟨rfl, rfl, app_case (view := uview) (C := .l26) (g := fun n => .typ (.s26 n)) default (fun _ => rfl) hv hv'⟩
      | _ => (change (none : Option UU) = some _ at h; cases h)
    | _ => cases v <;> (change (none : Option UU) = some _ at h; cases h)
  set u i v u' n get h hv hi := by
    change uset u i v = some u' at h
    change uview u = .sl n get at hv
    cases u with
    | li_u8 l => obtain ⟨x, hx, h⟩ := Option.map_eq_some_iff.1 h; subst h; exact ⟨rfl, set_case (view := uview) (C := .li_u8) (g := fun n => .int .u8 n) (0 : Int) (fun _ => rfl) (of_li_u8_inv v x hx) hv hi⟩
    | lli_u8 l => obtain ⟨x, hx, h⟩ := Option.map_eq_some_iff.1 h; subst h; exact ⟨rfl, set_case (view := uview) (C := .lli_u8) (g := fun n => .typ (.li_u8 n)) [] (fun _ => rfl) (of_lli_u8_inv v x hx) hv hi⟩
    | lb l => obtain ⟨x, hx, h⟩ := Option.map_eq_some_iff.1 h; subst h; exact ⟨rfl, set_case (view := uview) (C := .lb) (g := fun n => .bool n) false (fun _ => rfl) (of_lb_inv v x hx) hv hi⟩
    | l26 l => obtain ⟨x, hx, h⟩ := Option.map_eq_some_iff.1 h; subst h; exact ⟨rfl, set_case (view := uview) (C := .l26) (g := fun n => .typ (.s26 n)) default (fun _ => rfl) (of_l26_inv v x hx) hv hi⟩
    | _ => (change (none : Option UU) = some _ at h; cases h)
  over u lo n v u' N get k get2 h hv hv2 h1 h2 := by
    change uover u lo n v = some u' at h
    change uview u = .sl N get at hv
    change uview v = .sl k get2 at hv2
    cases u with
    | li_u8 a => cases v with
      | li_u8 b => change some (UU.li_u8 _) = some u' at h; cases h; exact ⟨rfl, over_case (view := uview) (C := .li_u8) (g := fun n => .int .u8 n) (0 : Int) (fun _ => rfl) hv hv2 h1 h2⟩
      | _ => (change (none : Option UU) = some _ at h; cases h)
    | _ => (change (none : Option UU) = some _ at h; cases h)
  zeros t n u h := by
    change uzr t n = some u at h
    unfold uzr at h
    split at h
    · rename_i e; subst e; cases h; exact ⟨_, 5, _, _, _, _, rfl, rfl, rfl, view_rep (view := uview) (C := .li_u8) (g := fun n => .int .u8 n) (0 : Int) (fun _ => rfl), fun i hi => rep_case (g := fun n => .int .u8 n) (0 : Int) hi⟩
    split at h
    · rename_i e; subst e; cases h; exact ⟨_, 4, _, _, _, _, rfl, rfl, rfl, view_rep (view := uview) (C := .lb) (g := fun n => .bool n) false (fun _ => rfl), fun i hi => rep_case (g := fun n => .bool n) false hi⟩
    cases h
  ofStr s u h := by
    change uofs s = some u at h
    cases h
    exact ⟨rfl, ofs_case (view := uview) (C := .li_u8) fun _ => rfl⟩
  inv D D' w w' h h1 h2 h3 := trivial
  toStr u s h := by
    change utos u = some s at h
    cases u with
    | li_u8 l => cases h; exact ⟨rfl, _, l, rfl, fun _ _ => rfl, rfl⟩
    | _ => (change (none : Option ByteArray) = some _ at h; cases h)
theorem tok : TOK Try.prog UX := tok_of rfl rfl (by kernel_rfl)end Go.Proofs.Ytekjibpkkgldgaa.B
