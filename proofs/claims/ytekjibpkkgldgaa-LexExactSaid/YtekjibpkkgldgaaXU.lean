/-
  The plain data's types, and that the program's types are so.
-/
import Derived.Test.YtekjibpkkgldgaaAxGen
import Derived.Test.YtekjibpkkgldgaaXF
import Derived.Test.YtekjibpkkgldgaaProg
namespace Go.Proofs.Ytekjibpkkgldgaa.X
open Go Go.AX
inductive UU where
  | s68 (x : S68)
  | s44 (x : S44)
  | li_u8 (x : List Int)
  | l68 (x : List S68)
  | ls (x : List ByteArray)
noncomputable def uview : UU → View UU
  | .s68 x => .segs [.int .i64 x.f0, .str x.f1, .int .i64 x.f2]
  | .s44 x => .segs [.int .i64 x.f0, .int .i64 x.f1, .str x.f2]
  | .li_u8 x => .sl x.length fun i => .int .u8 (x.getD i 0)
  | .l68 x => .sl x.length fun i => .typ (.s68 (x.getD i default))
  | .ls x => .sl x.length fun i => .str (x.getD i ByteArray.empty)
noncomputable def uwidth : UU → Nat
  | _ => 1
noncomputable def uesz : UU → Nat
  | .li_u8 _ => 1
  | .l68 _ => 3
  | .ls _ => 1
  | _ => 1
noncomputable def unil : List (Nat × UU) := [(25, .li_u8 []), (58, .ls []), (59, .l68 [])]
noncomputable def of_li_u8 (v : PV UU) : Option Int := match v with | .int k n => if k = .u8 then some n else none | _ => none
theorem of_li_u8_inv (v : PV UU) (x : Int) (h : of_li_u8 v = some x) : v = .int .u8 x := by
  unfold of_li_u8 at h
  split at h
  · split at h
    · rename_i e; subst e; cases h; rfl
    · cases h
  · cases h
noncomputable def of_l68 (v : PV UU) : Option S68 := match v with | .typ (.s68 n) => some n | _ => none
theorem of_l68_inv (v : PV UU) (x : S68) (h : of_l68 v = some x) : v = .typ (.s68 x) := by
  unfold of_l68 at h
  split at h
  · cases h; rfl
  · cases h
noncomputable def of_ls (v : PV UU) : Option ByteArray := match v with | .str n => some n | _ => none
theorem of_ls_inv (v : PV UU) (x : ByteArray) (h : of_ls v = some x) : v = .str x := by
  unfold of_ls at h
  split at h
  · cases h; rfl
  · cases h
noncomputable def ulit (t : TypeId) (es : List (PV UU)) : Option UU :=
  if t = 25 then (mapO of_li_u8 es).map .li_u8 else
  if t = 58 then (mapO of_ls es).map .ls else
  if t = 59 then (mapO of_l68 es).map .l68 else
  none
noncomputable def as_s68 {ρ : Type} (v : AV UU) (K : S68 → Option ρ) : Option ρ := asU v fun u => match u with | .s68 x => K x | _ => none
theorem as_s68_inv {ρ : Type} {v : AV UU} {K : S68 → Option ρ} {r : ρ} (h : as_s68 v K = some r) : ∃ x, v = .pv (.typ (.s68 x)) ∧ K x = some r := by
  replace h := asU_inv h
  obtain ⟨u, rfl, h⟩ := h
  split at h
  · exact ⟨_, rfl, h⟩
  · cases h
noncomputable def as_s44 {ρ : Type} (v : AV UU) (K : S44 → Option ρ) : Option ρ := asU v fun u => match u with | .s44 x => K x | _ => none
theorem as_s44_inv {ρ : Type} {v : AV UU} {K : S44 → Option ρ} {r : ρ} (h : as_s44 v K = some r) : ∃ x, v = .pv (.typ (.s44 x)) ∧ K x = some r := by
  replace h := asU_inv h
  obtain ⟨u, rfl, h⟩ := h
  split at h
  · exact ⟨_, rfl, h⟩
  · cases h
noncomputable def as_li_u8 {ρ : Type} (v : AV UU) (K : List Int → Option ρ) : Option ρ := asU v fun u => match u with | .li_u8 x => K x | _ => none
theorem as_li_u8_inv {ρ : Type} {v : AV UU} {K : List Int → Option ρ} {r : ρ} (h : as_li_u8 v K = some r) : ∃ x, v = .pv (.typ (.li_u8 x)) ∧ K x = some r := by
  replace h := asU_inv h
  obtain ⟨u, rfl, h⟩ := h
  split at h
  · exact ⟨_, rfl, h⟩
  · cases h
noncomputable def asO_li_u8 {ρ : Type} (v : AV UU) (K : List Int → Option ρ) : Option ρ := asO v fun u => match u with | .li_u8 x => K x | _ => none
noncomputable def asOT_li_u8 {ρ : Type} (v : AV UU) (K : List Int → List (PV UU) → Option ρ) : Option ρ := asOT v fun u q => match u with | .li_u8 x => K x q | _ => none
theorem asOT_li_u8_inv {ρ : Type} {v : AV UU} {K : List Int → List (PV UU) → Option ρ} {r : ρ} (h : asOT_li_u8 v K = some r) : ∃ x q, v = .otup (some (.li_u8 x)) q ∧ K x q = some r := by
  replace h := asOT_inv h
  obtain ⟨u, q, rfl, h⟩ := h
  split at h
  · exact ⟨_, _, rfl, h⟩
  · cases h
theorem asO_li_u8_inv {ρ : Type} {v : AV UU} {K : List Int → Option ρ} {r : ρ} (h : asO_li_u8 v K = some r) : ∃ x, v = .own (.li_u8 x) ∧ K x = some r := by
  replace h := asO_inv h
  obtain ⟨u, rfl, h⟩ := h
  split at h
  · exact ⟨_, rfl, h⟩
  · cases h
noncomputable def as_l68 {ρ : Type} (v : AV UU) (K : List S68 → Option ρ) : Option ρ := asU v fun u => match u with | .l68 x => K x | _ => none
theorem as_l68_inv {ρ : Type} {v : AV UU} {K : List S68 → Option ρ} {r : ρ} (h : as_l68 v K = some r) : ∃ x, v = .pv (.typ (.l68 x)) ∧ K x = some r := by
  replace h := asU_inv h
  obtain ⟨u, rfl, h⟩ := h
  split at h
  · exact ⟨_, rfl, h⟩
  · cases h
noncomputable def asO_l68 {ρ : Type} (v : AV UU) (K : List S68 → Option ρ) : Option ρ := asO v fun u => match u with | .l68 x => K x | _ => none
noncomputable def asOT_l68 {ρ : Type} (v : AV UU) (K : List S68 → List (PV UU) → Option ρ) : Option ρ := asOT v fun u q => match u with | .l68 x => K x q | _ => none
theorem asOT_l68_inv {ρ : Type} {v : AV UU} {K : List S68 → List (PV UU) → Option ρ} {r : ρ} (h : asOT_l68 v K = some r) : ∃ x q, v = .otup (some (.l68 x)) q ∧ K x q = some r := by
  replace h := asOT_inv h
  obtain ⟨u, q, rfl, h⟩ := h
  split at h
  · exact ⟨_, _, rfl, h⟩
  · cases h
theorem asO_l68_inv {ρ : Type} {v : AV UU} {K : List S68 → Option ρ} {r : ρ} (h : asO_l68 v K = some r) : ∃ x, v = .own (.l68 x) ∧ K x = some r := by
  replace h := asO_inv h
  obtain ⟨u, rfl, h⟩ := h
  split at h
  · exact ⟨_, rfl, h⟩
  · cases h
noncomputable def as_ls {ρ : Type} (v : AV UU) (K : List ByteArray → Option ρ) : Option ρ := asU v fun u => match u with | .ls x => K x | _ => none
theorem as_ls_inv {ρ : Type} {v : AV UU} {K : List ByteArray → Option ρ} {r : ρ} (h : as_ls v K = some r) : ∃ x, v = .pv (.typ (.ls x)) ∧ K x = some r := by
  replace h := asU_inv h
  obtain ⟨u, rfl, h⟩ := h
  split at h
  · exact ⟨_, rfl, h⟩
  · cases h
noncomputable def asO_ls {ρ : Type} (v : AV UU) (K : List ByteArray → Option ρ) : Option ρ := asO v fun u => match u with | .ls x => K x | _ => none
noncomputable def asOT_ls {ρ : Type} (v : AV UU) (K : List ByteArray → List (PV UU) → Option ρ) : Option ρ := asOT v fun u q => match u with | .ls x => K x q | _ => none
theorem asOT_ls_inv {ρ : Type} {v : AV UU} {K : List ByteArray → List (PV UU) → Option ρ} {r : ρ} (h : asOT_ls v K = some r) : ∃ x q, v = .otup (some (.ls x)) q ∧ K x q = some r := by
  replace h := asOT_inv h
  obtain ⟨u, q, rfl, h⟩ := h
  split at h
  · exact ⟨_, _, rfl, h⟩
  · cases h
theorem asO_ls_inv {ρ : Type} {v : AV UU} {K : List ByteArray → Option ρ} {r : ρ} (h : asO_ls v K = some r) : ∃ x, v = .own (.ls x) ∧ K x = some r := by
  replace h := asO_inv h
  obtain ⟨u, rfl, h⟩ := h
  split at h
  · exact ⟨_, rfl, h⟩
  · cases h
noncomputable def pack_68 (cs : List (PV UU)) : Option (PV UU) :=
popA cs fun v1 a2 =>
asI .i64 (.pv v1) fun z0 =>
popA a2 fun v3 a4 =>
asS (.pv v3) fun z1 =>
popA a4 fun v5 a6 =>
asI .i64 (.pv v5) fun z2 =>
popN a6 <|
some (.typ (.s68 (⟨z0, z1, z2⟩ : S68)))
noncomputable def pack_44 (cs : List (PV UU)) : Option (PV UU) :=
popA cs fun v1 a2 =>
asI .i64 (.pv v1) fun z0 =>
popA a2 fun v3 a4 =>
asI .i64 (.pv v3) fun z1 =>
popA a4 fun v5 a6 =>
asS (.pv v5) fun z2 =>
popN a6 <|
some (.typ (.s44 (⟨z0, z1, z2⟩ : S44)))
theorem pack_68_inv {cs : List (PV UU)} {v : PV UU} (h : pack_68 cs = some v) : ∃ u, v = .typ u ∧ uview u = .segs cs := by
  unfold pack_68 at h
  replace h := popA_inv h; obtain ⟨v1, a2, rfl, h⟩ := h
  replace h := asI_inv h; obtain ⟨z0, e, h⟩ := h; cases e
  replace h := popA_inv h; obtain ⟨v3, a4, rfl, h⟩ := h
  replace h := asS_inv h; obtain ⟨z1, e, h⟩ := h; cases e
  replace h := popA_inv h; obtain ⟨v5, a6, rfl, h⟩ := h
  replace h := asI_inv h; obtain ⟨z2, e, h⟩ := h; cases e
  replace h := popN_inv h; obtain ⟨rfl, h⟩ := h
  cases h
  exact ⟨_, rfl, rfl⟩
theorem pack_44_inv {cs : List (PV UU)} {v : PV UU} (h : pack_44 cs = some v) : ∃ u, v = .typ u ∧ uview u = .segs cs := by
  unfold pack_44 at h
  replace h := popA_inv h; obtain ⟨v1, a2, rfl, h⟩ := h
  replace h := asI_inv h; obtain ⟨z0, e, h⟩ := h; cases e
  replace h := popA_inv h; obtain ⟨v3, a4, rfl, h⟩ := h
  replace h := asI_inv h; obtain ⟨z1, e, h⟩ := h; cases e
  replace h := popA_inv h; obtain ⟨v5, a6, rfl, h⟩ := h
  replace h := asS_inv h; obtain ⟨z2, e, h⟩ := h; cases e
  replace h := popN_inv h; obtain ⟨rfl, h⟩ := h
  cases h
  exact ⟨_, rfl, rfl⟩
noncomputable def upack (t : TypeId) (cs : List (PV UU)) : Option (PV UU) :=
  if t = 44 then pack_44 cs else
  if t = 45 then pack_44 cs else
  if t = 68 then pack_68 cs else
  if t = 69 then pack_68 cs else
  none
noncomputable def uapp : UU → UU → Option UU
  | .li_u8 a, .li_u8 b => some (.li_u8 (a ++ b))
  | .l68 a, .l68 b => some (.l68 (a ++ b))
  | .ls a, .ls b => some (.ls (a ++ b))
  | _, _ => none
noncomputable def ucut : UU → Nat → Nat → Option UU
  | .li_u8 l, lo, hi => some (.li_u8 ((l.drop lo).take (hi - lo)))
  | .l68 l, lo, hi => some (.l68 ((l.drop lo).take (hi - lo)))
  | .ls l, lo, hi => some (.ls ((l.drop lo).take (hi - lo)))
  | _, _, _ => none
noncomputable def uzr (t : TypeId) (n : Nat) : Option UU :=
  none
noncomputable def uset : UU → Nat → PV UU → Option UU
  | .li_u8 l, i, v => (of_li_u8 v).map fun x => .li_u8 (l.set i x)
  | .l68 l, i, v => (of_l68 v).map fun x => .l68 (l.set i x)
  | .ls l, i, v => (of_ls v).map fun x => .ls (l.set i x)
  | _, _, _ => none
noncomputable def uover : UU → Nat → Nat → UU → Option UU
  | .li_u8 l, lo, n, .li_u8 q => some (.li_u8 (overL l lo n q))
  | _, _, _, _ => none
noncomputable def uofs (s : ByteArray) : Option UU := some (.li_u8 (bytesOf s))
noncomputable def utos : UU → Option ByteArray
  | .li_u8 l => some (strOfNums l)
  | _ => none
noncomputable def utab : List (Nat × TI) := [(2, ⟨.int .i64, 1, 8⟩),
  (3, ⟨.int .i64, 1, 8⟩),
  (4, ⟨.bool, 1, 1⟩),
  (5, ⟨.int .u8, 1, 1⟩),
  (6, ⟨.int .u8, 1, 1⟩),
  (9, ⟨.str, 1, 16⟩),
  (10, ⟨.str, 1, 16⟩),
  (11, ⟨.str, 1, 16⟩),
  (12, ⟨.int .u64, 1, 8⟩),
  (21, ⟨.int .i32, 1, 4⟩),
  (25, ⟨.slice 5, 1, 24⟩),
  (36, ⟨.int .i64, 1, 8⟩),
  (44, ⟨.struct [(0, 3), (1, 2), (2, 9)], 3, 32⟩),
  (45, ⟨.struct [(0, 3), (1, 2), (2, 9)], 3, 32⟩),
  (58, ⟨.slice 9, 1, 24⟩),
  (59, ⟨.slice 69, 1, 24⟩),
  (68, ⟨.struct [(0, 3), (1, 9), (2, 2)], 3, 32⟩),
  (69, ⟨.struct [(0, 3), (1, 9), (2, 2)], 3, 32⟩),
  (79, ⟨.int .u64, 1, 8⟩),
  (85, ⟨.int .u64, 1, 8⟩),
  (107, ⟨.int .i8, 1, 1⟩),
  (108, ⟨.int .i16, 1, 2⟩),
  (146, ⟨.int .u32, 1, 4⟩),
  (147, ⟨.int .u8, 1, 1⟩),
  (148, ⟨.int .u8, 1, 1⟩),
  (151, ⟨.int .i32, 1, 4⟩),
  (152, ⟨.int .i32, 1, 4⟩)]
noncomputable def uinv (D : Nat → Prop) (w : World) : Prop := True
noncomputable def uzeros : List (Nat × List (AV UU)) := [(2, [.pv (.int .i64 0)]),
  (3, [.pv (.int .i64 0)]),
  (4, [.pv (.bool false)]),
  (5, [.pv (.int .u8 0)]),
  (6, [.pv (.int .u8 0)]),
  (9, [.pv (.str ByteArray.empty)]),
  (10, [.pv (.str ByteArray.empty)]),
  (11, [.pv (.str ByteArray.empty)]),
  (12, [.pv (.int .u64 0)]),
  (21, [.pv (.int .i32 0)]),
  (25, [.pv (.typ (.li_u8 []))]),
  (36, [.pv (.int .i64 0)]),
  (44, [.pv (.int .i64 0), .pv (.int .i64 0), .pv (.str ByteArray.empty)]),
  (45, [.pv (.int .i64 0), .pv (.int .i64 0), .pv (.str ByteArray.empty)]),
  (58, [.pv (.typ (.ls []))]),
  (59, [.pv (.typ (.l68 []))]),
  (68, [.pv (.int .i64 0), .pv (.str ByteArray.empty), .pv (.int .i64 0)]),
  (69, [.pv (.int .i64 0), .pv (.str ByteArray.empty), .pv (.int .i64 0)]),
  (79, [.pv (.int .u64 0)]),
  (85, [.pv (.int .u64 0)]),
  (107, [.pv (.int .i8 0)]),
  (108, [.pv (.int .i16 0)]),
  (146, [.pv (.int .u32 0)]),
  (147, [.pv (.int .u8 0)]),
  (148, [.pv (.int .u8 0)]),
  (151, [.pv (.int .i32 0)]),
  (152, [.pv (.int .i32 0)])]
noncomputable def UX : Univ where
  U := UU
  view := uview
  width := uwidth
  esz := uesz
  nil := assoc unil
  lit := ulit
  zeros := uzr
  pack := upack
  app := uapp
  appS _ _ := none
  cut := ucut
  set := uset
  over := uover
  ofStr := uofs
  toStr := utos
  ty := assoc utab
  inv := uinv
  zero := assoc uzeros
theorem xok : XOK UX where
  wpos u := by cases u <;> exact of_decide_eq_true (by kernel_rfl)
  nil t u h := nilB_of (view := uview) (by kernel_rfl) h
  pack t cs v h := by
    change upack t cs = some v at h
    unfold upack at h
    split at h
    · exact .inl ( pack_44_inv h)
    split at h
    · exact .inl ( pack_44_inv h)
    split at h
    · exact .inl ( pack_68_inv h)
    split at h
    · exact .inl ( pack_68_inv h)
    cases h
  lit t es u h := by
    change ulit t es = some u at h
    unfold ulit at h
    split at h
    · exact lit_case (view := uview) (g := fun n => .int .u8 n) (0 : Int) of_li_u8_inv (fun _ => rfl) h
    split at h
    · exact lit_case (view := uview) (g := fun n => .str n) ByteArray.empty of_ls_inv (fun _ => rfl) h
    split at h
    · exact lit_case (view := uview) (g := fun n => .typ (.s68 n)) default of_l68_inv (fun _ => rfl) h
    cases h
  cut u lo hi u' n get h hv h1 h2 := by
    change ucut u lo hi = some u' at h
    change uview u = .sl n get at hv
    cases u with
    | li_u8 l => change some (UU.li_u8 _) = some u' at h; cases h; exact ⟨rfl, cut_case (view := uview) (C := .li_u8) (g := fun n => .int .u8 n) (0 : Int) (fun _ => rfl) hv h1 h2⟩
    | l68 l => change some (UU.l68 _) = some u' at h; cases h; exact ⟨rfl, cut_case (view := uview) (C := .l68) (g := fun n => .typ (.s68 n)) default (fun _ => rfl) hv h1 h2⟩
    | ls l => change some (UU.ls _) = some u' at h; cases h; exact ⟨rfl, cut_case (view := uview) (C := .ls) (g := fun n => .str n) ByteArray.empty (fun _ => rfl) hv h1 h2⟩
    | _ => (change (none : Option UU) = some _ at h; cases h)
  app u v z n get k get' h hv hv' := by
    change uapp u v = some z at h
    change uview u = .sl n get at hv
    change uview v = .sl k get' at hv'
    cases u with
    | li_u8 a => cases v with
      | li_u8 b => change some (UU.li_u8 _) = some z at h; cases h; exact ⟨rfl, rfl, app_case (view := uview) (C := .li_u8) (g := fun n => .int .u8 n) (0 : Int) (fun _ => rfl) hv hv'⟩
      | _ => (change (none : Option UU) = some _ at h; cases h)
    | l68 a => cases v with
      | l68 b => change some (UU.l68 _) = some z at h; cases h; exact ⟨rfl, rfl, app_case (view := uview) (C := .l68) (g := fun n => .typ (.s68 n)) default (fun _ => rfl) hv hv'⟩
      | _ => (change (none : Option UU) = some _ at h; cases h)
    | ls a => cases v with
      | ls b => change some (UU.ls _) = some z at h; cases h; exact ⟨rfl, rfl, app_case (view := uview) (C := .ls) (g := fun n => .str n) ByteArray.empty (fun _ => rfl) hv hv'⟩
      | _ => (change (none : Option UU) = some _ at h; cases h)
    | _ => cases v <;> (change (none : Option UU) = some _ at h; cases h)
  set u i v u' n get h hv hi := by
    change uset u i v = some u' at h
    change uview u = .sl n get at hv
    cases u with
    | li_u8 l => obtain ⟨x, hx, h⟩ := Option.map_eq_some_iff.1 h; subst h; exact ⟨rfl, set_case (view := uview) (C := .li_u8) (g := fun n => .int .u8 n) (0 : Int) (fun _ => rfl) (of_li_u8_inv v x hx) hv hi⟩
    | l68 l => obtain ⟨x, hx, h⟩ := Option.map_eq_some_iff.1 h; subst h; exact ⟨rfl, set_case (view := uview) (C := .l68) (g := fun n => .typ (.s68 n)) default (fun _ => rfl) (of_l68_inv v x hx) hv hi⟩
    | ls l => obtain ⟨x, hx, h⟩ := Option.map_eq_some_iff.1 h; subst h; exact ⟨rfl, set_case (view := uview) (C := .ls) (g := fun n => .str n) ByteArray.empty (fun _ => rfl) (of_ls_inv v x hx) hv hi⟩
    | _ => (change (none : Option UU) = some _ at h; cases h)
  over u lo n v u' N get k get2 h hv hv2 h1 h2 := by
    change uover u lo n v = some u' at h
    change uview u = .sl N get at hv
    change uview v = .sl k get2 at hv2
    cases u with
    | li_u8 a => cases v with
      | li_u8 b => change some (UU.li_u8 _) = some u' at h; cases h; exact ⟨rfl, over_case (view := uview) (C := .li_u8) (g := fun n => .int .u8 n) (0 : Int) (fun _ => rfl) hv hv2 h1 h2⟩
      | _ => (change (none : Option UU) = some _ at h; cases h)
    | _ => (change (none : Option UU) = some _ at h; cases h)
  zeros t n u h := by
    change uzr t n = some u at h
    unfold uzr at h
    cases h
  ofStr s u h := by
    change uofs s = some u at h
    cases h
    exact ⟨rfl, ofs_case (view := uview) (C := .li_u8) fun _ => rfl⟩
  inv D D' w w' h h1 h2 h3 := trivial
  toStr u s h := by
    change utos u = some s at h
    cases u with
    | li_u8 l => cases h; exact ⟨rfl, _, l, rfl, fun _ _ => rfl, rfl⟩
    | _ => (change (none : Option ByteArray) = some _ at h; cases h)
theorem tok : TOK Try.prog UX := tok_of rfl rfl (by kernel_rfl)end Go.Proofs.Ytekjibpkkgldgaa.X
