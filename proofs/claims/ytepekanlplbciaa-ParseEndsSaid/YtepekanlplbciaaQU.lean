/-
  The plain data's types, and that the program's types are so.
-/
import Derived.Test.YtepekanlplbciaaAxDc
import Derived.Test.YtepekanlplbciaaQF
import Derived.Test.YtepekanlplbciaaProg
namespace Go.Proofs.Ytepekanlplbciaa.Q
open Go Go.AX
inductive UU where
  | s56 (x : SToken)
  | s67 (x : SValue)
  | s69 (x : SExpr)
  | s64 (x : SColumn)
  | s71 (x : SSet)
  | s75 (x : SOrder)
  | s28 (x : SStmt)
  | s43 (x : Sreader)
  | s109 (x : Soper)
  | li_u8 (x : List Int)
  | l56 (x : List SToken)
  | ls (x : List ByteArray)
  | l69 (x : List TExpr)
  | l64 (x : List SColumn)
  | ll69 (x : List (List TExpr))
  | l71 (x : List SSet)
  | l75 (x : List SOrder)
  | l109 (x : List Soper)
  | lls (x : List (List ByteArray))
noncomputable def uview : UU → View UU
  | .s56 x => .segs [.int .i64 x.f0, .str x.f1, .int .i64 x.f2]
  | .s67 x => .segs [.int .i64 x.f0, .int .i64 x.f1, .str x.f2]
  | .s69 x => .segs [.int .i64 x.f0, .int .i64 x.f1.f0, .int .i64 x.f1.f1, .str x.f1.f2, .str x.f2, .str x.f3, .typ (.l69 x.f4)]
  | .s64 x => .segs [.str x.f0, .int .i64 x.f1, .bool x.f2]
  | .s71 x => .segs [.str x.f0, .int .i64 x.f1.f0, .int .i64 x.f1.f1.f0, .int .i64 x.f1.f1.f1, .str x.f1.f1.f2, .str x.f1.f2, .str x.f1.f3, .typ (.l69 x.f1.f4)]
  | .s75 x => .segs [.int .i64 x.f0.f0, .int .i64 x.f0.f1.f0, .int .i64 x.f0.f1.f1, .str x.f0.f1.f2, .str x.f0.f2, .str x.f0.f3, .typ (.l69 x.f0.f4), .bool x.f1]
  | .s28 x => .segs [.int .i64 x.f0, .str x.f1, .str x.f2, .bool x.f3, .typ (.l64 x.f4), .typ (.ls x.f5), .typ (.ll69 x.f6), .typ (.l71 x.f7), .typ (.ls x.f8), .bool x.f9, .typ (.l69 x.f10), .typ (.l69 x.f11), .typ (.l75 x.f12)]
  | .s43 x => .segs [.typ (.l56 x.f0), .bool x.f1, .bool x.f2, .int .i64 x.f3, .int .i64 x.f4]
  | .s109 x => .segs [.str x.f0, .int .i64 x.f1]
  | .li_u8 x => .sl x.length fun i => .int .u8 (x.getD i 0)
  | .l56 x => .sl x.length fun i => .typ (.s56 (x.getD i default))
  | .ls x => .sl x.length fun i => .str (x.getD i ByteArray.empty)
  | .l69 x => .sl x.length fun i => .typ (.s69 (x.getD i default).s)
  | .l64 x => .sl x.length fun i => .typ (.s64 (x.getD i default))
  | .ll69 x => .sl x.length fun i => .typ (.l69 (x.getD i []))
  | .l71 x => .sl x.length fun i => .typ (.s71 (x.getD i default))
  | .l75 x => .sl x.length fun i => .typ (.s75 (x.getD i default))
  | .l109 x => .sl x.length fun i => .typ (.s109 (x.getD i default))
  | .lls x => .sl x.length fun i => .typ (.ls (x.getD i []))
noncomputable def uwidth : UU → Nat
  | _ => 1
noncomputable def uesz : UU → Nat
  | .li_u8 _ => 1
  | .l56 _ => 3
  | .ls _ => 1
  | .l69 _ => 7
  | .l64 _ => 3
  | .ll69 _ => 1
  | .l71 _ => 8
  | .l75 _ => 8
  | .l109 _ => 2
  | .lls _ => 1
  | _ => 1
noncomputable def unil : List (Nat × UU) := [(22, .ls []), (23, .l64 []), (24, .ll69 []), (25, .l71 []), (26, .l69 []), (27, .l75 []), (37, .lls []), (39, .l56 []), (101, .li_u8 []), (111, .l109 [])]
noncomputable def of_li_u8 (v : PV UU) : Option Int := match v with | .int k n => if k = .u8 then some n else none | _ => none
theorem of_li_u8_inv (v : PV UU) (x : Int) (h : of_li_u8 v = some x) : v = .int .u8 x := by
  unfold of_li_u8 at h
  split at h
  · split at h
    · rename_i e; subst e; cases h; rfl
    · cases h
  · cases h
noncomputable def of_l56 (v : PV UU) : Option SToken := match v with | .typ (.s56 n) => some n | _ => none
theorem of_l56_inv (v : PV UU) (x : SToken) (h : of_l56 v = some x) : v = .typ (.s56 x) := by
  unfold of_l56 at h
  split at h
  · cases h; rfl
  · cases h
noncomputable def of_ls (v : PV UU) : Option ByteArray := match v with | .str n => some n | _ => none
theorem of_ls_inv (v : PV UU) (x : ByteArray) (h : of_ls v = some x) : v = .str x := by
  unfold of_ls at h
  split at h
  · cases h; rfl
  · cases h
noncomputable def of_l69 (v : PV UU) : Option TExpr := match v with | .typ (.s69 n) => some n.t | _ => none
theorem of_l69_inv (v : PV UU) (x : TExpr) (h : of_l69 v = some x) : v = .typ (.s69 x.s) := by
  unfold of_l69 at h
  split at h
  · cases h; rfl
  · cases h
noncomputable def of_l64 (v : PV UU) : Option SColumn := match v with | .typ (.s64 n) => some n | _ => none
theorem of_l64_inv (v : PV UU) (x : SColumn) (h : of_l64 v = some x) : v = .typ (.s64 x) := by
  unfold of_l64 at h
  split at h
  · cases h; rfl
  · cases h
noncomputable def of_ll69 (v : PV UU) : Option (List TExpr) := match v with | .typ (.l69 n) => some n | _ => none
theorem of_ll69_inv (v : PV UU) (x : List TExpr) (h : of_ll69 v = some x) : v = .typ (.l69 x) := by
  unfold of_ll69 at h
  split at h
  · cases h; rfl
  · cases h
noncomputable def of_l71 (v : PV UU) : Option SSet := match v with | .typ (.s71 n) => some n | _ => none
theorem of_l71_inv (v : PV UU) (x : SSet) (h : of_l71 v = some x) : v = .typ (.s71 x) := by
  unfold of_l71 at h
  split at h
  · cases h; rfl
  · cases h
noncomputable def of_l75 (v : PV UU) : Option SOrder := match v with | .typ (.s75 n) => some n | _ => none
theorem of_l75_inv (v : PV UU) (x : SOrder) (h : of_l75 v = some x) : v = .typ (.s75 x) := by
  unfold of_l75 at h
  split at h
  · cases h; rfl
  · cases h
noncomputable def of_l109 (v : PV UU) : Option Soper := match v with | .typ (.s109 n) => some n | _ => none
theorem of_l109_inv (v : PV UU) (x : Soper) (h : of_l109 v = some x) : v = .typ (.s109 x) := by
  unfold of_l109 at h
  split at h
  · cases h; rfl
  · cases h
noncomputable def of_lls (v : PV UU) : Option (List ByteArray) := match v with | .typ (.ls n) => some n | _ => none
theorem of_lls_inv (v : PV UU) (x : List ByteArray) (h : of_lls v = some x) : v = .typ (.ls x) := by
  unfold of_lls at h
  split at h
  · cases h; rfl
  · cases h
noncomputable def ulit (t : TypeId) (es : List (PV UU)) : Option UU :=
  if t = 22 then (mapO of_ls es).map .ls else
  if t = 23 then (mapO of_l64 es).map .l64 else
  if t = 24 then (mapO of_ll69 es).map .ll69 else
  if t = 25 then (mapO of_l71 es).map .l71 else
  if t = 26 then (mapO of_l69 es).map .l69 else
  if t = 27 then (mapO of_l75 es).map .l75 else
  if t = 37 then (mapO of_lls es).map .lls else
  if t = 39 then (mapO of_l56 es).map .l56 else
  if t = 101 then (mapO of_li_u8 es).map .li_u8 else
  if t = 111 then (mapO of_l109 es).map .l109 else
  none
abbrev P0 : Dc (List (PV UU)) Unit := Dc.nil
abbrev A0 : Dc (List (AV UU)) Unit := Dc.nil
abbrev B0 : Dc (List (List (AV UU))) Unit := Dc.nil
abbrev V0 : Dc (List (SV UU)) Unit := Dc.nil
abbrev E0 : Dc (List (Nat × AV UU)) Unit := Dc.nil
abbrev H0 : Dc (List (Nat × List (AV UU))) Unit := Dc.nil
abbrev one_ {α : Type} (d : Dc (AV UU) α) : Dc (AV UU × List (List (AV UU))) α := Dc.one d
abbrev pb : Dc (PV UU) Bool := Dc.b
abbrev ps : Dc (PV UU) ByteArray := Dc.s
abbrev pi_i8 : Dc (PV UU) Int := Dc.i .i8
abbrev pi_i16 : Dc (PV UU) Int := Dc.i .i16
abbrev pi_i32 : Dc (PV UU) Int := Dc.i .i32
abbrev pi_i64 : Dc (PV UU) Int := Dc.i .i64
abbrev pi_u8 : Dc (PV UU) Int := Dc.i .u8
abbrev pi_u16 : Dc (PV UU) Int := Dc.i .u16
abbrev pi_u32 : Dc (PV UU) Int := Dc.i .u32
abbrev pi_u64 : Dc (PV UU) Int := Dc.i .u64
noncomputable def D_s56 {ρ : Type} (u : UU) (K : SToken → Option ρ) : Option ρ := match u with | .s56 x => K x | _ => none
theorem h_s56 {ρ : Type} (u : UU) (K : SToken → Option ρ) (r : ρ) (h : D_s56 u K = some r) : ∃ a, u = .s56 a ∧ K a = some r := by
  unfold D_s56 at h
  split at h
  · exact ⟨_, rfl, h⟩
  · cases h
noncomputable def p_s56 : Dc (PV UU) SToken := Dc.typ .s56 D_s56 h_s56
noncomputable def D_s67 {ρ : Type} (u : UU) (K : SValue → Option ρ) : Option ρ := match u with | .s67 x => K x | _ => none
theorem h_s67 {ρ : Type} (u : UU) (K : SValue → Option ρ) (r : ρ) (h : D_s67 u K = some r) : ∃ a, u = .s67 a ∧ K a = some r := by
  unfold D_s67 at h
  split at h
  · exact ⟨_, rfl, h⟩
  · cases h
noncomputable def p_s67 : Dc (PV UU) SValue := Dc.typ .s67 D_s67 h_s67
noncomputable def D_s69 {ρ : Type} (u : UU) (K : SExpr → Option ρ) : Option ρ := match u with | .s69 x => K x | _ => none
theorem h_s69 {ρ : Type} (u : UU) (K : SExpr → Option ρ) (r : ρ) (h : D_s69 u K = some r) : ∃ a, u = .s69 a ∧ K a = some r := by
  unfold D_s69 at h
  split at h
  · exact ⟨_, rfl, h⟩
  · cases h
noncomputable def p_s69 : Dc (PV UU) SExpr := Dc.typ .s69 D_s69 h_s69
noncomputable def D_s64 {ρ : Type} (u : UU) (K : SColumn → Option ρ) : Option ρ := match u with | .s64 x => K x | _ => none
theorem h_s64 {ρ : Type} (u : UU) (K : SColumn → Option ρ) (r : ρ) (h : D_s64 u K = some r) : ∃ a, u = .s64 a ∧ K a = some r := by
  unfold D_s64 at h
  split at h
  · exact ⟨_, rfl, h⟩
  · cases h
noncomputable def p_s64 : Dc (PV UU) SColumn := Dc.typ .s64 D_s64 h_s64
noncomputable def D_s71 {ρ : Type} (u : UU) (K : SSet → Option ρ) : Option ρ := match u with | .s71 x => K x | _ => none
theorem h_s71 {ρ : Type} (u : UU) (K : SSet → Option ρ) (r : ρ) (h : D_s71 u K = some r) : ∃ a, u = .s71 a ∧ K a = some r := by
  unfold D_s71 at h
  split at h
  · exact ⟨_, rfl, h⟩
  · cases h
noncomputable def p_s71 : Dc (PV UU) SSet := Dc.typ .s71 D_s71 h_s71
noncomputable def D_s75 {ρ : Type} (u : UU) (K : SOrder → Option ρ) : Option ρ := match u with | .s75 x => K x | _ => none
theorem h_s75 {ρ : Type} (u : UU) (K : SOrder → Option ρ) (r : ρ) (h : D_s75 u K = some r) : ∃ a, u = .s75 a ∧ K a = some r := by
  unfold D_s75 at h
  split at h
  · exact ⟨_, rfl, h⟩
  · cases h
noncomputable def p_s75 : Dc (PV UU) SOrder := Dc.typ .s75 D_s75 h_s75
noncomputable def D_s28 {ρ : Type} (u : UU) (K : SStmt → Option ρ) : Option ρ := match u with | .s28 x => K x | _ => none
theorem h_s28 {ρ : Type} (u : UU) (K : SStmt → Option ρ) (r : ρ) (h : D_s28 u K = some r) : ∃ a, u = .s28 a ∧ K a = some r := by
  unfold D_s28 at h
  split at h
  · exact ⟨_, rfl, h⟩
  · cases h
noncomputable def p_s28 : Dc (PV UU) SStmt := Dc.typ .s28 D_s28 h_s28
noncomputable def D_s43 {ρ : Type} (u : UU) (K : Sreader → Option ρ) : Option ρ := match u with | .s43 x => K x | _ => none
theorem h_s43 {ρ : Type} (u : UU) (K : Sreader → Option ρ) (r : ρ) (h : D_s43 u K = some r) : ∃ a, u = .s43 a ∧ K a = some r := by
  unfold D_s43 at h
  split at h
  · exact ⟨_, rfl, h⟩
  · cases h
noncomputable def p_s43 : Dc (PV UU) Sreader := Dc.typ .s43 D_s43 h_s43
noncomputable def D_s109 {ρ : Type} (u : UU) (K : Soper → Option ρ) : Option ρ := match u with | .s109 x => K x | _ => none
theorem h_s109 {ρ : Type} (u : UU) (K : Soper → Option ρ) (r : ρ) (h : D_s109 u K = some r) : ∃ a, u = .s109 a ∧ K a = some r := by
  unfold D_s109 at h
  split at h
  · exact ⟨_, rfl, h⟩
  · cases h
noncomputable def p_s109 : Dc (PV UU) Soper := Dc.typ .s109 D_s109 h_s109
noncomputable def D_li_u8 {ρ : Type} (u : UU) (K : List Int → Option ρ) : Option ρ := match u with | .li_u8 x => K x | _ => none
theorem h_li_u8 {ρ : Type} (u : UU) (K : List Int → Option ρ) (r : ρ) (h : D_li_u8 u K = some r) : ∃ a, u = .li_u8 a ∧ K a = some r := by
  unfold D_li_u8 at h
  split at h
  · exact ⟨_, rfl, h⟩
  · cases h
noncomputable def p_li_u8 : Dc (PV UU) (List Int) := Dc.typ .li_u8 D_li_u8 h_li_u8
noncomputable def o_li_u8 : Dc (AV UU) (List Int) := Dc.own .li_u8 D_li_u8 h_li_u8
noncomputable def D_l56 {ρ : Type} (u : UU) (K : List SToken → Option ρ) : Option ρ := match u with | .l56 x => K x | _ => none
theorem h_l56 {ρ : Type} (u : UU) (K : List SToken → Option ρ) (r : ρ) (h : D_l56 u K = some r) : ∃ a, u = .l56 a ∧ K a = some r := by
  unfold D_l56 at h
  split at h
  · exact ⟨_, rfl, h⟩
  · cases h
noncomputable def p_l56 : Dc (PV UU) (List SToken) := Dc.typ .l56 D_l56 h_l56
noncomputable def o_l56 : Dc (AV UU) (List SToken) := Dc.own .l56 D_l56 h_l56
noncomputable def D_ls {ρ : Type} (u : UU) (K : List ByteArray → Option ρ) : Option ρ := match u with | .ls x => K x | _ => none
theorem h_ls {ρ : Type} (u : UU) (K : List ByteArray → Option ρ) (r : ρ) (h : D_ls u K = some r) : ∃ a, u = .ls a ∧ K a = some r := by
  unfold D_ls at h
  split at h
  · exact ⟨_, rfl, h⟩
  · cases h
noncomputable def p_ls : Dc (PV UU) (List ByteArray) := Dc.typ .ls D_ls h_ls
noncomputable def o_ls : Dc (AV UU) (List ByteArray) := Dc.own .ls D_ls h_ls
noncomputable def D_l69 {ρ : Type} (u : UU) (K : List TExpr → Option ρ) : Option ρ := match u with | .l69 x => K x | _ => none
theorem h_l69 {ρ : Type} (u : UU) (K : List TExpr → Option ρ) (r : ρ) (h : D_l69 u K = some r) : ∃ a, u = .l69 a ∧ K a = some r := by
  unfold D_l69 at h
  split at h
  · exact ⟨_, rfl, h⟩
  · cases h
noncomputable def p_l69 : Dc (PV UU) (List TExpr) := Dc.typ .l69 D_l69 h_l69
noncomputable def o_l69 : Dc (AV UU) (List TExpr) := Dc.own .l69 D_l69 h_l69
noncomputable def D_l64 {ρ : Type} (u : UU) (K : List SColumn → Option ρ) : Option ρ := match u with | .l64 x => K x | _ => none
theorem h_l64 {ρ : Type} (u : UU) (K : List SColumn → Option ρ) (r : ρ) (h : D_l64 u K = some r) : ∃ a, u = .l64 a ∧ K a = some r := by
  unfold D_l64 at h
  split at h
  · exact ⟨_, rfl, h⟩
  · cases h
noncomputable def p_l64 : Dc (PV UU) (List SColumn) := Dc.typ .l64 D_l64 h_l64
noncomputable def o_l64 : Dc (AV UU) (List SColumn) := Dc.own .l64 D_l64 h_l64
noncomputable def D_ll69 {ρ : Type} (u : UU) (K : List (List TExpr) → Option ρ) : Option ρ := match u with | .ll69 x => K x | _ => none
theorem h_ll69 {ρ : Type} (u : UU) (K : List (List TExpr) → Option ρ) (r : ρ) (h : D_ll69 u K = some r) : ∃ a, u = .ll69 a ∧ K a = some r := by
  unfold D_ll69 at h
  split at h
  · exact ⟨_, rfl, h⟩
  · cases h
noncomputable def p_ll69 : Dc (PV UU) (List (List TExpr)) := Dc.typ .ll69 D_ll69 h_ll69
noncomputable def o_ll69 : Dc (AV UU) (List (List TExpr)) := Dc.own .ll69 D_ll69 h_ll69
noncomputable def D_l71 {ρ : Type} (u : UU) (K : List SSet → Option ρ) : Option ρ := match u with | .l71 x => K x | _ => none
theorem h_l71 {ρ : Type} (u : UU) (K : List SSet → Option ρ) (r : ρ) (h : D_l71 u K = some r) : ∃ a, u = .l71 a ∧ K a = some r := by
  unfold D_l71 at h
  split at h
  · exact ⟨_, rfl, h⟩
  · cases h
noncomputable def p_l71 : Dc (PV UU) (List SSet) := Dc.typ .l71 D_l71 h_l71
noncomputable def o_l71 : Dc (AV UU) (List SSet) := Dc.own .l71 D_l71 h_l71
noncomputable def D_l75 {ρ : Type} (u : UU) (K : List SOrder → Option ρ) : Option ρ := match u with | .l75 x => K x | _ => none
theorem h_l75 {ρ : Type} (u : UU) (K : List SOrder → Option ρ) (r : ρ) (h : D_l75 u K = some r) : ∃ a, u = .l75 a ∧ K a = some r := by
  unfold D_l75 at h
  split at h
  · exact ⟨_, rfl, h⟩
  · cases h
noncomputable def p_l75 : Dc (PV UU) (List SOrder) := Dc.typ .l75 D_l75 h_l75
noncomputable def o_l75 : Dc (AV UU) (List SOrder) := Dc.own .l75 D_l75 h_l75
noncomputable def D_l109 {ρ : Type} (u : UU) (K : List Soper → Option ρ) : Option ρ := match u with | .l109 x => K x | _ => none
theorem h_l109 {ρ : Type} (u : UU) (K : List Soper → Option ρ) (r : ρ) (h : D_l109 u K = some r) : ∃ a, u = .l109 a ∧ K a = some r := by
  unfold D_l109 at h
  split at h
  · exact ⟨_, rfl, h⟩
  · cases h
noncomputable def p_l109 : Dc (PV UU) (List Soper) := Dc.typ .l109 D_l109 h_l109
noncomputable def o_l109 : Dc (AV UU) (List Soper) := Dc.own .l109 D_l109 h_l109
noncomputable def D_lls {ρ : Type} (u : UU) (K : List (List ByteArray) → Option ρ) : Option ρ := match u with | .lls x => K x | _ => none
theorem h_lls {ρ : Type} (u : UU) (K : List (List ByteArray) → Option ρ) (r : ρ) (h : D_lls u K = some r) : ∃ a, u = .lls a ∧ K a = some r := by
  unfold D_lls at h
  split at h
  · exact ⟨_, rfl, h⟩
  · cases h
noncomputable def p_lls : Dc (PV UU) (List (List ByteArray)) := Dc.typ .lls D_lls h_lls
noncomputable def o_lls : Dc (AV UU) (List (List ByteArray)) := Dc.own .lls D_lls h_lls
noncomputable def q56 := Dc.map (Dc.cons pi_i64 <| Dc.cons ps <| Dc.cons pi_i64 <| P0) (fun v => (⟨v.1, v.2.1, v.2.2.1⟩ : SToken)) (fun x => (x.f0, x.f1, x.f2, ())) fun _ => rfl
noncomputable def b56 : Dc (List (AV UU)) SToken := Dc.cells q56
noncomputable def pack_56 (cs : List (PV UU)) : Option (PV UU) := q56.dec cs fun x => some (.typ (.s56 x))
noncomputable def q67 := Dc.map (Dc.cons pi_i64 <| Dc.cons pi_i64 <| Dc.cons ps <| P0) (fun v => (⟨v.1, v.2.1, v.2.2.1⟩ : SValue)) (fun x => (x.f0, x.f1, x.f2, ())) fun _ => rfl
noncomputable def b67 : Dc (List (AV UU)) SValue := Dc.cells q67
noncomputable def pack_67 (cs : List (PV UU)) : Option (PV UU) := q67.dec cs fun x => some (.typ (.s67 x))
noncomputable def q69 := Dc.map (Dc.cons pi_i64 <| Dc.cons pi_i64 <| Dc.cons pi_i64 <| Dc.cons ps <| Dc.cons ps <| Dc.cons ps <| Dc.cons p_l69 <| P0) (fun v => (⟨v.1, (⟨v.2.1, v.2.2.1, v.2.2.2.1⟩ : SValue), v.2.2.2.2.1, v.2.2.2.2.2.1, v.2.2.2.2.2.2.1⟩ : SExpr)) (fun x => (x.f0, x.f1.f0, x.f1.f1, x.f1.f2, x.f2, x.f3, x.f4, ())) fun _ => rfl
noncomputable def b69 : Dc (List (AV UU)) SExpr := Dc.cells q69
noncomputable def pack_69 (cs : List (PV UU)) : Option (PV UU) := q69.dec cs fun x => some (.typ (.s69 x))
noncomputable def q64 := Dc.map (Dc.cons ps <| Dc.cons pi_i64 <| Dc.cons pb <| P0) (fun v => (⟨v.1, v.2.1, v.2.2.1⟩ : SColumn)) (fun x => (x.f0, x.f1, x.f2, ())) fun _ => rfl
noncomputable def b64 : Dc (List (AV UU)) SColumn := Dc.cells q64
noncomputable def pack_64 (cs : List (PV UU)) : Option (PV UU) := q64.dec cs fun x => some (.typ (.s64 x))
noncomputable def q71 := Dc.map (Dc.cons ps <| Dc.cons pi_i64 <| Dc.cons pi_i64 <| Dc.cons pi_i64 <| Dc.cons ps <| Dc.cons ps <| Dc.cons ps <| Dc.cons p_l69 <| P0) (fun v => (⟨v.1, (⟨v.2.1, (⟨v.2.2.1, v.2.2.2.1, v.2.2.2.2.1⟩ : SValue), v.2.2.2.2.2.1, v.2.2.2.2.2.2.1, v.2.2.2.2.2.2.2.1⟩ : SExpr)⟩ : SSet)) (fun x => (x.f0, x.f1.f0, x.f1.f1.f0, x.f1.f1.f1, x.f1.f1.f2, x.f1.f2, x.f1.f3, x.f1.f4, ())) fun _ => rfl
noncomputable def b71 : Dc (List (AV UU)) SSet := Dc.cells q71
noncomputable def pack_71 (cs : List (PV UU)) : Option (PV UU) := q71.dec cs fun x => some (.typ (.s71 x))
noncomputable def q75 := Dc.map (Dc.cons pi_i64 <| Dc.cons pi_i64 <| Dc.cons pi_i64 <| Dc.cons ps <| Dc.cons ps <| Dc.cons ps <| Dc.cons p_l69 <| Dc.cons pb <| P0) (fun v => (⟨(⟨v.1, (⟨v.2.1, v.2.2.1, v.2.2.2.1⟩ : SValue), v.2.2.2.2.1, v.2.2.2.2.2.1, v.2.2.2.2.2.2.1⟩ : SExpr), v.2.2.2.2.2.2.2.1⟩ : SOrder)) (fun x => (x.f0.f0, x.f0.f1.f0, x.f0.f1.f1, x.f0.f1.f2, x.f0.f2, x.f0.f3, x.f0.f4, x.f1, ())) fun _ => rfl
noncomputable def b75 : Dc (List (AV UU)) SOrder := Dc.cells q75
noncomputable def pack_75 (cs : List (PV UU)) : Option (PV UU) := q75.dec cs fun x => some (.typ (.s75 x))
noncomputable def q28 := Dc.map (Dc.cons pi_i64 <| Dc.cons ps <| Dc.cons ps <| Dc.cons pb <| Dc.cons p_l64 <| Dc.cons p_ls <| Dc.cons p_ll69 <| Dc.cons p_l71 <| Dc.cons p_ls <| Dc.cons pb <| Dc.cons p_l69 <| Dc.cons p_l69 <| Dc.cons p_l75 <| P0) (fun v => (⟨v.1, v.2.1, v.2.2.1, v.2.2.2.1, v.2.2.2.2.1, v.2.2.2.2.2.1, v.2.2.2.2.2.2.1, v.2.2.2.2.2.2.2.1, v.2.2.2.2.2.2.2.2.1, v.2.2.2.2.2.2.2.2.2.1, v.2.2.2.2.2.2.2.2.2.2.1, v.2.2.2.2.2.2.2.2.2.2.2.1, v.2.2.2.2.2.2.2.2.2.2.2.2.1⟩ : SStmt)) (fun x => (x.f0, x.f1, x.f2, x.f3, x.f4, x.f5, x.f6, x.f7, x.f8, x.f9, x.f10, x.f11, x.f12, ())) fun _ => rfl
noncomputable def b28 : Dc (List (AV UU)) SStmt := Dc.cells q28
noncomputable def pack_28 (cs : List (PV UU)) : Option (PV UU) := q28.dec cs fun x => some (.typ (.s28 x))
noncomputable def q43 := Dc.map (Dc.cons p_l56 <| Dc.cons pb <| Dc.cons pb <| Dc.cons pi_i64 <| Dc.cons pi_i64 <| P0) (fun v => (⟨v.1, v.2.1, v.2.2.1, v.2.2.2.1, v.2.2.2.2.1⟩ : Sreader)) (fun x => (x.f0, x.f1, x.f2, x.f3, x.f4, ())) fun _ => rfl
noncomputable def b43 : Dc (List (AV UU)) Sreader := Dc.cells q43
noncomputable def pack_43 (cs : List (PV UU)) : Option (PV UU) := q43.dec cs fun x => some (.typ (.s43 x))
noncomputable def q109 := Dc.map (Dc.cons ps <| Dc.cons pi_i64 <| P0) (fun v => (⟨v.1, v.2.1⟩ : Soper)) (fun x => (x.f0, x.f1, ())) fun _ => rfl
noncomputable def b109 : Dc (List (AV UU)) Soper := Dc.cells q109
noncomputable def pack_109 (cs : List (PV UU)) : Option (PV UU) := q109.dec cs fun x => some (.typ (.s109 x))
theorem pack_56_inv {cs : List (PV UU)} {v : PV UU} (h : pack_56 cs = some v) : ∃ u, v = .typ u ∧ uview u = .segs cs := by
  obtain ⟨x, rfl, h⟩ := q56.inv _ _ _ h
  cases h
  exact ⟨_, rfl, rfl⟩
theorem pack_67_inv {cs : List (PV UU)} {v : PV UU} (h : pack_67 cs = some v) : ∃ u, v = .typ u ∧ uview u = .segs cs := by
  obtain ⟨x, rfl, h⟩ := q67.inv _ _ _ h
  cases h
  exact ⟨_, rfl, rfl⟩
theorem pack_69_inv {cs : List (PV UU)} {v : PV UU} (h : pack_69 cs = some v) : ∃ u, v = .typ u ∧ uview u = .segs cs := by
  obtain ⟨x, rfl, h⟩ := q69.inv _ _ _ h
  cases h
  exact ⟨_, rfl, rfl⟩
theorem pack_64_inv {cs : List (PV UU)} {v : PV UU} (h : pack_64 cs = some v) : ∃ u, v = .typ u ∧ uview u = .segs cs := by
  obtain ⟨x, rfl, h⟩ := q64.inv _ _ _ h
  cases h
  exact ⟨_, rfl, rfl⟩
theorem pack_71_inv {cs : List (PV UU)} {v : PV UU} (h : pack_71 cs = some v) : ∃ u, v = .typ u ∧ uview u = .segs cs := by
  obtain ⟨x, rfl, h⟩ := q71.inv _ _ _ h
  cases h
  exact ⟨_, rfl, rfl⟩
theorem pack_75_inv {cs : List (PV UU)} {v : PV UU} (h : pack_75 cs = some v) : ∃ u, v = .typ u ∧ uview u = .segs cs := by
  obtain ⟨x, rfl, h⟩ := q75.inv _ _ _ h
  cases h
  exact ⟨_, rfl, rfl⟩
theorem pack_28_inv {cs : List (PV UU)} {v : PV UU} (h : pack_28 cs = some v) : ∃ u, v = .typ u ∧ uview u = .segs cs := by
  obtain ⟨x, rfl, h⟩ := q28.inv _ _ _ h
  cases h
  exact ⟨_, rfl, rfl⟩
theorem pack_43_inv {cs : List (PV UU)} {v : PV UU} (h : pack_43 cs = some v) : ∃ u, v = .typ u ∧ uview u = .segs cs := by
  obtain ⟨x, rfl, h⟩ := q43.inv _ _ _ h
  cases h
  exact ⟨_, rfl, rfl⟩
theorem pack_109_inv {cs : List (PV UU)} {v : PV UU} (h : pack_109 cs = some v) : ∃ u, v = .typ u ∧ uview u = .segs cs := by
  obtain ⟨x, rfl, h⟩ := q109.inv _ _ _ h
  cases h
  exact ⟨_, rfl, rfl⟩
noncomputable def upack (t : TypeId) (cs : List (PV UU)) : Option (PV UU) :=
  if t = 28 then pack_28 cs else
  if t = 29 then pack_28 cs else
  if t = 43 then pack_43 cs else
  if t = 44 then pack_43 cs else
  if t = 56 then pack_56 cs else
  if t = 57 then pack_56 cs else
  if t = 64 then pack_64 cs else
  if t = 65 then pack_64 cs else
  if t = 67 then pack_67 cs else
  if t = 68 then pack_67 cs else
  if t = 69 then pack_69 cs else
  if t = 70 then pack_69 cs else
  if t = 71 then pack_71 cs else
  if t = 72 then pack_71 cs else
  if t = 75 then pack_75 cs else
  if t = 76 then pack_75 cs else
  if t = 109 then pack_109 cs else
  if t = 110 then pack_109 cs else
  none
noncomputable def uapp : UU → UU → Option UU
  | .li_u8 a, .li_u8 b => some (.li_u8 (a ++ b))
  | .l56 a, .l56 b => some (.l56 (a ++ b))
  | .ls a, .ls b => some (.ls (a ++ b))
  | .l69 a, .l69 b => some (.l69 (a ++ b))
  | .l64 a, .l64 b => some (.l64 (a ++ b))
  | .ll69 a, .ll69 b => some (.ll69 (a ++ b))
  | .l71 a, .l71 b => some (.l71 (a ++ b))
  | .l75 a, .l75 b => some (.l75 (a ++ b))
  | .l109 a, .l109 b => some (.l109 (a ++ b))
  | .lls a, .lls b => some (.lls (a ++ b))
  | _, _ => none
noncomputable def ucut : UU → Nat → Nat → Option UU
  | .li_u8 l, lo, hi => some (.li_u8 ((l.drop lo).take (hi - lo)))
  | .l56 l, lo, hi => some (.l56 ((l.drop lo).take (hi - lo)))
  | .ls l, lo, hi => some (.ls ((l.drop lo).take (hi - lo)))
  | .l69 l, lo, hi => some (.l69 ((l.drop lo).take (hi - lo)))
  | .l64 l, lo, hi => some (.l64 ((l.drop lo).take (hi - lo)))
  | .ll69 l, lo, hi => some (.ll69 ((l.drop lo).take (hi - lo)))
  | .l71 l, lo, hi => some (.l71 ((l.drop lo).take (hi - lo)))
  | .l75 l, lo, hi => some (.l75 ((l.drop lo).take (hi - lo)))
  | .l109 l, lo, hi => some (.l109 ((l.drop lo).take (hi - lo)))
  | .lls l, lo, hi => some (.lls ((l.drop lo).take (hi - lo)))
  | _, _, _ => none
noncomputable def uzr (t : TypeId) (n : Nat) : Option UU :=
  none
noncomputable def uset : UU → Nat → PV UU → Option UU
  | .li_u8 l, i, v => (of_li_u8 v).map fun x => .li_u8 (l.set i x)
  | .l56 l, i, v => (of_l56 v).map fun x => .l56 (l.set i x)
  | .ls l, i, v => (of_ls v).map fun x => .ls (l.set i x)
  | .l69 l, i, v => (of_l69 v).map fun x => .l69 (l.set i x)
  | .l64 l, i, v => (of_l64 v).map fun x => .l64 (l.set i x)
  | .ll69 l, i, v => (of_ll69 v).map fun x => .ll69 (l.set i x)
  | .l71 l, i, v => (of_l71 v).map fun x => .l71 (l.set i x)
  | .l75 l, i, v => (of_l75 v).map fun x => .l75 (l.set i x)
  | .l109 l, i, v => (of_l109 v).map fun x => .l109 (l.set i x)
  | .lls l, i, v => (of_lls v).map fun x => .lls (l.set i x)
  | _, _, _ => none
noncomputable def usetA : UU → Nat → PV UU → Option UU
  | _, _, _ => none
noncomputable def ulenA : UU → Nat
  | _ => 0
noncomputable def uover : UU → Nat → Nat → UU → Option UU
  | .li_u8 l, lo, n, .li_u8 q => some (.li_u8 (overL l lo n q))
  | _, _, _, _ => none
noncomputable def uofs (s : ByteArray) : Option UU := some (.li_u8 (bytesOf s))
noncomputable def utos : UU → Option ByteArray
  | .li_u8 l => some (strOfNums l)
  | _ => none
noncomputable def utab : List (Nat × TI) := [(2, ⟨.int .i64, 1, 8⟩),
  (3, ⟨.int .i64, 1, 8⟩),
  (4, ⟨.bool, 1, 1⟩),
  (5, ⟨.int .u8, 1, 1⟩),
  (6, ⟨.int .u8, 1, 1⟩),
  (9, ⟨.str, 1, 16⟩),
  (10, ⟨.str, 1, 16⟩),
  (11, ⟨.str, 1, 16⟩),
  (12, ⟨.int .u64, 1, 8⟩),
  (21, ⟨.int .i32, 1, 4⟩),
  (22, ⟨.slice 9, 1, 24⟩),
  (23, ⟨.slice 65, 1, 24⟩),
  (24, ⟨.slice 26, 1, 24⟩),
  (25, ⟨.slice 72, 1, 24⟩),
  (26, ⟨.slice 70, 1, 24⟩),
  (27, ⟨.slice 76, 1, 24⟩),
  (28, ⟨.struct [(0, 3), (1, 9), (2, 9), (3, 4), (4, 23), (5, 22), (6, 24), (7, 25), (8, 22), (9, 4), (10, 26), (11, 26), (12, 27)], 13, 248⟩),
  (29, ⟨.struct [(0, 3), (1, 9), (2, 9), (3, 4), (4, 23), (5, 22), (6, 24), (7, 25), (8, 22), (9, 4), (10, 26), (11, 26), (12, 27)], 13, 248⟩),
  (30, ⟨.int .i64, 1, 8⟩),
  (37, ⟨.slice 22, 1, 24⟩),
  (39, ⟨.slice 57, 1, 24⟩),
  (43, ⟨.struct [(0, 39), (1, 4), (2, 4), (3, 3), (4, 3)], 5, 48⟩),
  (44, ⟨.struct [(0, 39), (1, 4), (2, 4), (3, 3), (4, 3)], 5, 48⟩),
  (54, ⟨.int .u64, 1, 8⟩),
  (56, ⟨.struct [(0, 3), (1, 9), (2, 2)], 3, 32⟩),
  (57, ⟨.struct [(0, 3), (1, 9), (2, 2)], 3, 32⟩),
  (64, ⟨.struct [(0, 9), (1, 3), (2, 4)], 3, 32⟩),
  (65, ⟨.struct [(0, 9), (1, 3), (2, 4)], 3, 32⟩),
  (67, ⟨.struct [(0, 3), (1, 2), (2, 9)], 3, 32⟩),
  (68, ⟨.struct [(0, 3), (1, 2), (2, 9)], 3, 32⟩),
  (69, ⟨.struct [(0, 3), (1, 68), (4, 9), (5, 9), (6, 26)], 7, 96⟩),
  (70, ⟨.struct [(0, 3), (1, 68), (4, 9), (5, 9), (6, 26)], 7, 96⟩),
  (71, ⟨.struct [(0, 9), (1, 70)], 8, 112⟩),
  (72, ⟨.struct [(0, 9), (1, 70)], 8, 112⟩),
  (75, ⟨.struct [(0, 70), (7, 4)], 8, 104⟩),
  (76, ⟨.struct [(0, 70), (7, 4)], 8, 104⟩),
  (101, ⟨.slice 5, 1, 24⟩),
  (109, ⟨.struct [(0, 9), (1, 3)], 2, 24⟩),
  (110, ⟨.struct [(0, 9), (1, 3)], 2, 24⟩),
  (111, ⟨.slice 110, 1, 24⟩),
  (126, ⟨.int .u32, 1, 4⟩),
  (127, ⟨.int .u8, 1, 1⟩),
  (128, ⟨.int .u8, 1, 1⟩),
  (131, ⟨.int .i32, 1, 4⟩),
  (132, ⟨.int .i32, 1, 4⟩),
  (42, ⟨.other, 1, 8⟩),
  (115, ⟨.map 9 3, 1, 8⟩)]
noncomputable def uinv (D : Nat → Prop) (w : World) : Prop := True
noncomputable def uzeros : List (Nat × List (AV UU)) := [(2, [.pv (.int .i64 0)]),
  (3, [.pv (.int .i64 0)]),
  (4, [.pv (.bool false)]),
  (5, [.pv (.int .u8 0)]),
  (6, [.pv (.int .u8 0)]),
  (9, [.pv (.str ByteArray.empty)]),
  (10, [.pv (.str ByteArray.empty)]),
  (11, [.pv (.str ByteArray.empty)]),
  (12, [.pv (.int .u64 0)]),
  (21, [.pv (.int .i32 0)]),
  (22, [.pv (.typ (.ls []))]),
  (23, [.pv (.typ (.l64 []))]),
  (24, [.pv (.typ (.ll69 []))]),
  (25, [.pv (.typ (.l71 []))]),
  (26, [.pv (.typ (.l69 []))]),
  (27, [.pv (.typ (.l75 []))]),
  (28, [.pv (.int .i64 0), .pv (.str ByteArray.empty), .pv (.str ByteArray.empty), .pv (.bool false), .pv (.typ (.l64 [])), .pv (.typ (.ls [])), .pv (.typ (.ll69 [])), .pv (.typ (.l71 [])), .pv (.typ (.ls [])), .pv (.bool false), .pv (.typ (.l69 [])), .pv (.typ (.l69 [])), .pv (.typ (.l75 []))]),
  (29, [.pv (.int .i64 0), .pv (.str ByteArray.empty), .pv (.str ByteArray.empty), .pv (.bool false), .pv (.typ (.l64 [])), .pv (.typ (.ls [])), .pv (.typ (.ll69 [])), .pv (.typ (.l71 [])), .pv (.typ (.ls [])), .pv (.bool false), .pv (.typ (.l69 [])), .pv (.typ (.l69 [])), .pv (.typ (.l75 []))]),
  (30, [.pv (.int .i64 0)]),
  (37, [.pv (.typ (.lls []))]),
  (39, [.pv (.typ (.l56 []))]),
  (43, [.pv (.typ (.l56 [])), .pv (.bool false), .pv (.bool false), .pv (.int .i64 0), .pv (.int .i64 0)]),
  (44, [.pv (.typ (.l56 [])), .pv (.bool false), .pv (.bool false), .pv (.int .i64 0), .pv (.int .i64 0)]),
  (54, [.pv (.int .u64 0)]),
  (56, [.pv (.int .i64 0), .pv (.str ByteArray.empty), .pv (.int .i64 0)]),
  (57, [.pv (.int .i64 0), .pv (.str ByteArray.empty), .pv (.int .i64 0)]),
  (64, [.pv (.str ByteArray.empty), .pv (.int .i64 0), .pv (.bool false)]),
  (65, [.pv (.str ByteArray.empty), .pv (.int .i64 0), .pv (.bool false)]),
  (67, [.pv (.int .i64 0), .pv (.int .i64 0), .pv (.str ByteArray.empty)]),
  (68, [.pv (.int .i64 0), .pv (.int .i64 0), .pv (.str ByteArray.empty)]),
  (69, [.pv (.int .i64 0), .pv (.int .i64 0), .pv (.int .i64 0), .pv (.str ByteArray.empty), .pv (.str ByteArray.empty), .pv (.str ByteArray.empty), .pv (.typ (.l69 []))]),
  (70, [.pv (.int .i64 0), .pv (.int .i64 0), .pv (.int .i64 0), .pv (.str ByteArray.empty), .pv (.str ByteArray.empty), .pv (.str ByteArray.empty), .pv (.typ (.l69 []))]),
  (71, [.pv (.str ByteArray.empty), .pv (.int .i64 0), .pv (.int .i64 0), .pv (.int .i64 0), .pv (.str ByteArray.empty), .pv (.str ByteArray.empty), .pv (.str ByteArray.empty), .pv (.typ (.l69 []))]),
  (72, [.pv (.str ByteArray.empty), .pv (.int .i64 0), .pv (.int .i64 0), .pv (.int .i64 0), .pv (.str ByteArray.empty), .pv (.str ByteArray.empty), .pv (.str ByteArray.empty), .pv (.typ (.l69 []))]),
  (75, [.pv (.int .i64 0), .pv (.int .i64 0), .pv (.int .i64 0), .pv (.str ByteArray.empty), .pv (.str ByteArray.empty), .pv (.str ByteArray.empty), .pv (.typ (.l69 [])), .pv (.bool false)]),
  (76, [.pv (.int .i64 0), .pv (.int .i64 0), .pv (.int .i64 0), .pv (.str ByteArray.empty), .pv (.str ByteArray.empty), .pv (.str ByteArray.empty), .pv (.typ (.l69 [])), .pv (.bool false)]),
  (101, [.pv (.typ (.li_u8 []))]),
  (109, [.pv (.str ByteArray.empty), .pv (.int .i64 0)]),
  (110, [.pv (.str ByteArray.empty), .pv (.int .i64 0)]),
  (111, [.pv (.typ (.l109 []))]),
  (126, [.pv (.int .u32 0)]),
  (127, [.pv (.int .u8 0)]),
  (128, [.pv (.int .u8 0)]),
  (131, [.pv (.int .i32 0)]),
  (132, [.pv (.int .i32 0)])]
noncomputable def UX : Univ where
  U := UU
  view := uview
  width := uwidth
  esz := uesz
  nil := assoc unil
  lit := ulit
  zeros := uzr
  pack := upack
  app := uapp
  appS _ _ := none
  cut := ucut
  set := uset
  setA := usetA
  lenA := ulenA
  over := uover
  ofStr := uofs
  toStr := utos
  ty := assoc utab
  inv := uinv
  zero := assoc uzeros
  zval t c := ∃ info v, Try.prog.info? t = some info ∧ info.zero = some v ∧ c.cells = v.cells
theorem xok : XOK UX where
  wpos u := by cases u <;> exact of_decide_eq_true (by kernel_rfl)
  nil t u h := nilB_of (view := uview) (by kernel_rfl) h
  pack t cs v h := by
    change upack t cs = some v at h
    unfold upack at h
    by_cases e : t = 28
    · rw [if_pos e] at h; exact .inl ( pack_28_inv h)
    rw [if_neg e] at h; clear e
    by_cases e : t = 29
    · rw [if_pos e] at h; exact .inl ( pack_28_inv h)
    rw [if_neg e] at h; clear e
    by_cases e : t = 43
    · rw [if_pos e] at h; exact .inl ( pack_43_inv h)
    rw [if_neg e] at h; clear e
    by_cases e : t = 44
    · rw [if_pos e] at h; exact .inl ( pack_43_inv h)
    rw [if_neg e] at h; clear e
    by_cases e : t = 56
    · rw [if_pos e] at h; exact .inl ( pack_56_inv h)
    rw [if_neg e] at h; clear e
    by_cases e : t = 57
    · rw [if_pos e] at h; exact .inl ( pack_56_inv h)
    rw [if_neg e] at h; clear e
    by_cases e : t = 64
    · rw [if_pos e] at h; exact .inl ( pack_64_inv h)
    rw [if_neg e] at h; clear e
    by_cases e : t = 65
    · rw [if_pos e] at h; exact .inl ( pack_64_inv h)
    rw [if_neg e] at h; clear e
    by_cases e : t = 67
    · rw [if_pos e] at h; exact .inl ( pack_67_inv h)
    rw [if_neg e] at h; clear e
    by_cases e : t = 68
    · rw [if_pos e] at h; exact .inl ( pack_67_inv h)
    rw [if_neg e] at h; clear e
    by_cases e : t = 69
    · rw [if_pos e] at h; exact .inl ( pack_69_inv h)
    rw [if_neg e] at h; clear e
    by_cases e : t = 70
    · rw [if_pos e] at h; exact .inl ( pack_69_inv h)
    rw [if_neg e] at h; clear e
    by_cases e : t = 71
    · rw [if_pos e] at h; exact .inl ( pack_71_inv h)
    rw [if_neg e] at h; clear e
    by_cases e : t = 72
    · rw [if_pos e] at h; exact .inl ( pack_71_inv h)
    rw [if_neg e] at h; clear e
    by_cases e : t = 75
    · rw [if_pos e] at h; exact .inl ( pack_75_inv h)
    rw [if_neg e] at h; clear e
    by_cases e : t = 76
    · rw [if_pos e] at h; exact .inl ( pack_75_inv h)
    rw [if_neg e] at h; clear e
    by_cases e : t = 109
    · rw [if_pos e] at h; exact .inl ( pack_109_inv h)
    rw [if_neg e] at h; clear e
    by_cases e : t = 110
    · rw [if_pos e] at h; exact .inl ( pack_109_inv h)
    rw [if_neg e] at h; clear e
    cases h
  lit t es u h := by
    change ulit t es = some u at h
    unfold ulit at h
    split at h
    · exact lit_case (view := uview) (g := fun n => .str n) ByteArray.empty of_ls_inv (fun _ => rfl) h
    split at h
    · exact lit_case (view := uview) (g := fun n => .typ (.s64 n)) default of_l64_inv (fun _ => rfl) h
    split at h
    · exact lit_case (view := uview) (g := fun n => .typ (.l69 n)) [] of_ll69_inv (fun _ => rfl) h
    split at h
    · exact lit_case (view := uview) (g := fun n => .typ (.s71 n)) default of_l71_inv (fun _ => rfl) h
    split at h
    · exact lit_case (view := uview) (g := fun n => .typ (.s69 n.s)) default of_l69_inv (fun _ => rfl) h
    split at h
    · exact lit_case (view := uview) (g := fun n => .typ (.s75 n)) default of_l75_inv (fun _ => rfl) h
    split at h
    · exact lit_case (view := uview) (g := fun n => .typ (.ls n)) [] of_lls_inv (fun _ => rfl) h
    split at h
    · exact lit_case (view := uview) (g := fun n => .typ (.s56 n)) default of_l56_inv (fun _ => rfl) h
    split at h
    · exact lit_case (view := uview) (g := fun n => .int .u8 n) (0 : Int) of_li_u8_inv (fun _ => rfl) h
    split at h
    · exact lit_case (view := uview) (g := fun n => .typ (.s109 n)) default of_l109_inv (fun _ => rfl) h
    cases h
  cut u lo hi u' n get h hv h1 h2 := by
    change ucut u lo hi = some u' at h
    change uview u = .sl n get at hv
    cases u with
    | li_u8 l => change some (UU.li_u8 _) = some u' at h; cases h; exact ⟨rfl, cut_case (view := uview) (C := .li_u8) (g := fun n => .int .u8 n) (0 : Int) (fun _ => rfl) hv h1 h2⟩
    | l56 l => change some (UU.l56 _) = some u' at h; cases h; exact ⟨rfl, cut_case (view := uview) (C := .l56) (g := fun n => .typ (.s56 n)) default (fun _ => rfl) hv h1 h2⟩
    | ls l => change some (UU.ls _) = some u' at h; cases h; exact ⟨rfl, cut_case (view := uview) (C := .ls) (g := fun n => .str n) ByteArray.empty (fun _ => rfl) hv h1 h2⟩
    | l69 l => change some (UU.l69 _) = some u' at h; cases h; exact ⟨rfl, cut_case (view := uview) (C := .l69) (g := fun n => .typ (.s69 n.s)) default (fun _ => rfl) hv h1 h2⟩
    | l64 l => change some (UU.l64 _) = some u' at h; cases h; exact ⟨rfl, cut_case (view := uview) (C := .l64) (g := fun n => .typ (.s64 n)) default (fun _ => rfl) hv h1 h2⟩
    | ll69 l => change some (UU.ll69 _) = some u' at h; cases h; exact ⟨rfl, cut_case (view := uview) (C := .ll69) (g := fun n => .typ (.l69 n)) [] (fun _ => rfl) hv h1 h2⟩
    | l71 l => change some (UU.l71 _) = some u' at h; cases h; exact ⟨rfl, cut_case (view := uview) (C := .l71) (g := fun n => .typ (.s71 n)) default (fun _ => rfl) hv h1 h2⟩
    | l75 l => change some (UU.l75 _) = some u' at h; cases h; exact ⟨rfl, cut_case (view := uview) (C := .l75) (g := fun n => .typ (.s75 n)) default (fun _ => rfl) hv h1 h2⟩
    | l109 l => change some (UU.l109 _) = some u' at h; cases h; exact ⟨rfl, cut_case (view := uview) (C := .l109) (g := fun n => .typ (.s109 n)) default (fun _ => rfl) hv h1 h2⟩
    | lls l => change some (UU.lls _) = some u' at h; cases h; exact ⟨rfl, cut_case (view := uview) (C := .lls) (g := fun n => .typ (.ls n)) [] (fun _ => rfl) hv h1 h2⟩
    | _ => (change (none : Option UU) = some _ at h; cases h)
  app u v z n get k get' h hv hv' := by
    change uapp u v = some z at h
    change uview u = .sl n get at hv
    change uview v = .sl k get' at hv'
    cases u with
    | li_u8 a => cases v with
      | li_u8 b => change some (UU.li_u8 _) = some z at h; cases h; exact ⟨rfl, rfl, app_case (view := uview) (C := .li_u8) (g := fun n => .int .u8 n) (0 : Int) (fun _ => rfl) hv hv'⟩
      | _ => (change (none : Option UU) = some _ at h; cases h)
    | l56 a => cases v with
      | l56 b => change some (UU.l56 _) = some z at h; cases h; exact ⟨rfl, rfl, app_case (view := uview) (C := .l56) (g := fun n => .typ (.s56 n)) default (fun _ => rfl) hv hv'⟩
      | _ => (change (none : Option UU) = some _ at h; cases h)
    | ls a => cases v with
      | ls b => change some (UU.ls _) = some z at h; cases h; exact ⟨rfl, rfl, app_case (view := uview) (C := .ls) (g := fun n => .str n) ByteArray.empty (fun _ => rfl) hv hv'⟩
      | _ => (change (none : Option UU) = some _ at h; cases h)
    | l69 a => cases v with
      | l69 b => change some (UU.l69 _) = some z at h; cases h; exact ⟨rfl, rfl, app_case (view := uview) (C := .l69) (g := fun n => .typ (.s69 n.s)) default (fun _ => rfl) hv hv'⟩
      | _ => (change (none : Option UU) = some _ at h; cases h)
    | l64 a => cases v with
      | l64 b => change some (UU.l64 _) = some z at h; cases h; exact ⟨rfl, rfl, app_case (view := uview) (C := .l64) (g := fun n => .typ (.s64 n)) default (fun _ => rfl) hv hv'⟩
      | _ => (change (none : Option UU) = some _ at h; cases h)
    | ll69 a => cases v with
      | ll69 b => change some (UU.ll69 _) = some z at h; cases h; exact ⟨rfl, rfl, app_case (view := uview) (C := .ll69) (g := fun n => .typ (.l69 n)) [] (fun _ => rfl) hv hv'⟩
      | _ => (change (none : Option UU) = some _ at h; cases h)
    | l71 a => cases v with
      | l71 b => change some (UU.l71 _) = some z at h; cases h; exact ⟨rfl, rfl, app_case (view := uview) (C := .l71) (g := fun n => .typ (.s71 n)) default (fun _ => rfl) hv hv'⟩
      | _ => (change (none : Option UU) = some _ at h; cases h)
    | l75 a => cases v with
      | l75 b => change some (UU.l75 _) = some z at h; cases h; exact ⟨rfl, rfl, app_case (view := uview) (C := .l75) (g := fun n => .typ (.s75 n)) default (fun _ => rfl) hv hv'⟩
      | _ => (change (none : Option UU) = some _ at h; cases h)
    | l109 a => cases v with
      | l109 b => change some (UU.l109 _) = some z at h; cases h; exact ⟨rfl, rfl, app_case (view := uview) (C := .l109) (g := fun n => .typ (.s109 n)) default (fun _ => rfl) hv hv'⟩
      | _ => (change (none : Option UU) = some _ at h; cases h)
    | lls a => cases v with
      | lls b => change some (UU.lls _) = some z at h; cases h; exact ⟨rfl, rfl, app_case (view := uview) (C := .lls) (g := fun n => .typ (.ls n)) [] (fun _ => rfl) hv hv'⟩
      | _ => (change (none : Option UU) = some _ at h; cases h)
    | _ => cases v <;> (change (none : Option UU) = some _ at h; cases h)
  set u i v u' n get h hv hi := by
    change uset u i v = some u' at h
    change uview u = .sl n get at hv
    cases u with
    | li_u8 l => obtain ⟨x, hx, h⟩ := Option.map_eq_some_iff.1 h; subst h; exact ⟨rfl, set_case (view := uview) (C := .li_u8) (g := fun n => .int .u8 n) (0 : Int) (fun _ => rfl) (of_li_u8_inv v x hx) hv hi⟩
    | l56 l => obtain ⟨x, hx, h⟩ := Option.map_eq_some_iff.1 h; subst h; exact ⟨rfl, set_case (view := uview) (C := .l56) (g := fun n => .typ (.s56 n)) default (fun _ => rfl) (of_l56_inv v x hx) hv hi⟩
    | ls l => obtain ⟨x, hx, h⟩ := Option.map_eq_some_iff.1 h; subst h; exact ⟨rfl, set_case (view := uview) (C := .ls) (g := fun n => .str n) ByteArray.empty (fun _ => rfl) (of_ls_inv v x hx) hv hi⟩
    | l69 l => obtain ⟨x, hx, h⟩ := Option.map_eq_some_iff.1 h; subst h; exact ⟨rfl, set_case (view := uview) (C := .l69) (g := fun n => .typ (.s69 n.s)) default (fun _ => rfl) (of_l69_inv v x hx) hv hi⟩
    | l64 l => obtain ⟨x, hx, h⟩ := Option.map_eq_some_iff.1 h; subst h; exact ⟨rfl, set_case (view := uview) (C := .l64) (g := fun n => .typ (.s64 n)) default (fun _ => rfl) (of_l64_inv v x hx) hv hi⟩
    | ll69 l => obtain ⟨x, hx, h⟩ := Option.map_eq_some_iff.1 h; subst h; exact ⟨rfl, set_case (view := uview) (C := .ll69) (g := fun n => .typ (.l69 n)) [] (fun _ => rfl) (of_ll69_inv v x hx) hv hi⟩
    | l71 l => obtain ⟨x, hx, h⟩ := Option.map_eq_some_iff.1 h; subst h; exact ⟨rfl, set_case (view := uview) (C := .l71) (g := fun n => .typ (.s71 n)) default (fun _ => rfl) (of_l71_inv v x hx) hv hi⟩
    | l75 l => obtain ⟨x, hx, h⟩ := Option.map_eq_some_iff.1 h; subst h; exact ⟨rfl, set_case (view := uview) (C := .l75) (g := fun n => .typ (.s75 n)) default (fun _ => rfl) (of_l75_inv v x hx) hv hi⟩
    | l109 l => obtain ⟨x, hx, h⟩ := Option.map_eq_some_iff.1 h; subst h; exact ⟨rfl, set_case (view := uview) (C := .l109) (g := fun n => .typ (.s109 n)) default (fun _ => rfl) (of_l109_inv v x hx) hv hi⟩
    | lls l => obtain ⟨x, hx, h⟩ := Option.map_eq_some_iff.1 h; subst h; exact ⟨rfl, set_case (view := uview) (C := .lls) (g := fun n => .typ (.ls n)) [] (fun _ => rfl) (of_lls_inv v x hx) hv hi⟩
    | _ => (change (none : Option UU) = some _ at h; cases h)
  setA u i v u' n get h hv hi hi2 := by
    change usetA u i v = some u' at h
    change uview u = .arr n get at hv
    cases u with
    | _ => (change (none : Option UU) = some _ at h; cases h)
  over u lo n v u' N get k get2 h hv hv2 h1 h2 := by
    change uover u lo n v = some u' at h
    change uview u = .sl N get at hv
    change uview v = .sl k get2 at hv2
    cases u with
    | li_u8 a => cases v with
      | li_u8 b => change some (UU.li_u8 _) = some u' at h; cases h; exact ⟨rfl, over_case (view := uview) (C := .li_u8) (g := fun n => .int .u8 n) (0 : Int) (fun _ => rfl) hv hv2 h1 h2⟩
      | _ => (change (none : Option UU) = some _ at h; cases h)
    | _ => (change (none : Option UU) = some _ at h; cases h)
  zeros t n u h := by
    change uzr t n = some u at h
    unfold uzr at h
    cases h
  ofStr s u h := by
    change uofs s = some u at h
    cases h
    exact ⟨rfl, ofs_case (view := uview) (C := .li_u8) fun _ => rfl⟩
  inv D D' w w' h h1 h2 h3 := trivial
  toStr u s h := by
    change utos u = some s at h
    cases u with
    | li_u8 l => cases h; exact ⟨rfl, _, l, rfl, fun _ _ => rfl, rfl⟩
    | _ => (change (none : Option ByteArray) = some _ at h; cases h)
theorem tok : TOK Try.prog UX := tok_of rfl rfl (fun _ _ => Iff.rfl) (by kernel_rfl)end Go.Proofs.Ytepekanlplbciaa.Q
