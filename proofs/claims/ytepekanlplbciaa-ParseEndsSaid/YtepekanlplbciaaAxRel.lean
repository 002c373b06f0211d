/-
  What it means that a world's values are as the reckoning machine has them; how that stands when memory grows.
-/
import Derived.Test.YtepekanlplbciaaAxDef
import Derived.Below
import Derived.Laws.StructEq
import Derived.Laws.CopyRow
namespace Go.AX
open Go

/-- A value of so many cells, each of which may stand in memory. -/
def oc (c : Value) (n : Nat) : Prop := c.cells.size = n ∧ ∀ x ∈ c.cells.toList, x.oneCell' = true

def flat (vs : List Value) : List Value := vs.flatMap fun v => v.cells.toList

theorem flat_nil : flat [] = [] := rfl
theorem flat_cons (v : Value) (r : List Value) : flat (v :: r) = v.cells.toList ++ flat r := rfl
theorem flat_append (a b : List Value) : flat (a ++ b) = flat a ++ flat b := by simp [flat]

/-- The cells from an address on are these, and no one writes them (cl: how far a block is told). -/
def MemAt (cl : Nat → Nat) (w : World) (ad : Addr) (cs : List Value) : Prop :=
  ad.spot = none ∧ ∀ j v, cs[j]? = some v → ad.off + j < cl ad.block ∧ w.cell? ⟨ad.block, ad.off + j, none⟩ = some v

/-- The row at an address: elements of sz cells. -/
def RowAt (cl : Nat → Nat) (w : World) (a : Option Addr) (sz : Nat) (vs : List Value) : Prop :=
  vs = [] ∨ ∃ ad, a = some ad ∧ ad.spot = none ∧ ∀ i v, vs[i]? = some v → MemAt cl w ⟨ad.block, ad.off + i * sz, none⟩ v.cells.toList

section
variable (X : Univ)
mutual
inductive VP (cl : Nat → Nat) (w : World) : PV X.U → Value → Prop
  | bool (b : Bool) : VP cl w (.bool b) (.bool b)
  | int (k : IntKind) (n : Int) : VP cl w (.int k n) (.int k n)
  | str (s : ByteArray) : VP cl w (.str s) (.string s)
  | agg {cs : List (PV X.U)} {vs : List Value} : VPs cl w cs vs → VP cl w (.agg cs) (.agg (flat vs).toArray)
  | tup {cs : List (PV X.U)} {vs : List Value} : VPt cl w cs vs → VP cl w (.tup cs) (.tuple vs.toArray)
  | seg {u : X.U} {cs : List (PV X.U)} {vs : List Value} : X.view u = .segs cs → VPs cl w cs vs → VP cl w (.typ u) (.agg (flat vs).toArray)
  | arr {u : X.U} {n : Nat} {get : Nat → PV X.U} {vs : List Value} : X.view u = .arr n get → vs.length = n → (∀ i (h : i < vs.length), VP cl w (get i) vs[i]) →
      (∀ v ∈ vs, oc v (X.esz u)) → X.width u = n * X.esz u → VP cl w (.typ u) (.agg (flat vs).toArray)
  | sl {u : X.U} {n cap : Nat} {get : Nat → PV X.U} {vs : List Value} {a : Option Addr} : X.view u = .sl n get → vs.length = n → (∀ i (h : i < vs.length), VP cl w (get i) vs[i]) →
      n ≤ cap → (∀ v ∈ vs, oc v (X.esz u)) → RowAt cl w a (X.esz u) vs → VP cl w (.typ u) (.slice a n cap)
  | mp {es : List (ByteArray × Int)} {b : Nat} {ents : Array MapEntry} {ck : Nat} : 0 < cl b → w.heap[b]? = some (.map ents ck) → ents.toList.map (fun e => (e.key, e.val)) = es.map (fun p => (Value.string p.1, Value.int .i64 p.2)) → VP cl w (.mp es) (.map (some b))
/-- Parts side by side, each as wide as it says. -/
inductive VPs (cl : Nat → Nat) (w : World) : List (PV X.U) → List Value → Prop
  | nil : VPs cl w [] []
  | cons {v : PV X.U} {c : Value} {r : List (PV X.U)} {cs : List Value} : VP cl w v c → oc c (v.segW X) → VPs cl w r cs → VPs cl w (v :: r) (c :: cs)
inductive VPt (cl : Nat → Nat) (w : World) : List (PV X.U) → List Value → Prop
  | nil : VPt cl w [] []
  | cons {v : PV X.U} {c : Value} {r : List (PV X.U)} {cs : List Value} : VP cl w v c → VPt cl w r cs → VPt cl w (v :: r) (c :: cs)
end

/-- What is told stays told and as it is: cells, maps. -/
def Ext (cl : Nat → Nat) (w : World) (cl' : Nat → Nat) (w' : World) : Prop :=
  (∀ b off v, off < cl b → w.cell? ⟨b, off, none⟩ = some v → off < cl' b ∧ w'.cell? ⟨b, off, none⟩ = some v) ∧
  ∀ b es ck, 0 < cl b → w.heap[b]? = some (.map es ck) → 0 < cl' b ∧ w'.heap[b]? = some (.map es ck)

variable {X}
theorem Ext.refl (cl : Nat → Nat) (w : World) : Ext cl w cl w := ⟨fun _ _ _ h h' => ⟨h, h'⟩, fun _ _ _ h h' => ⟨h, h'⟩⟩
theorem Ext.trans {c1 c2 c3 : Nat → Nat} {w1 w2 w3 : World} (h : Ext c1 w1 c2 w2) (k : Ext c2 w2 c3 w3) : Ext c1 w1 c3 w3 :=
  ⟨fun b off v h1 h2 => let ⟨a, c⟩ := h.1 b off v h1 h2; k.1 b off v a c, fun b es ck h1 h2 => let ⟨a, c⟩ := h.2 b es ck h1 h2; k.2 b es ck a c⟩
/-- Where blocks that are told stand as they stood. -/
theorem Ext.of {cl cl' : Nat → Nat} {w w' : World} (h : ∀ b, 0 < cl b → (∃ v, w.heap[b]? = some v) → w'.heap[b]? = w.heap[b]? ∧ cl b ≤ cl' b) : Ext cl w cl' w' := by
  refine ⟨fun b off v h1 h2 => ?_, fun b es ck h1 h2 => ?_⟩
  · have hb : ∃ o, w.heap[b]? = some o := by
      unfold World.cell? at h2
      cases hh : w.heap[b]? with
      | none => simp [hh] at h2
      | some o => exact ⟨o, rfl⟩
    obtain ⟨k1, k2⟩ := h b (by omega) hb
    refine ⟨by omega, ?_⟩
    rw [← h2]
    simp only [World.cell?, k1]
  · obtain ⟨k1, k2⟩ := h b h1 ⟨_, h2⟩
    exact ⟨by omega, by rw [k1, h2]⟩

variable {cl cl' : Nat → Nat} {w w' : World}
theorem MemAt.mono (e : Ext cl w cl' w') {ad : Addr} {cs : List Value} (h : MemAt cl w ad cs) : MemAt cl' w' ad cs :=
  ⟨h.1, fun j v hv => e.1 _ _ _ (h.2 j v hv).1 (h.2 j v hv).2⟩
theorem RowAt.mono (e : Ext cl w cl' w') {a : Option Addr} {sz : Nat} {vs : List Value} (h : RowAt cl w a sz vs) : RowAt cl' w' a sz vs := by
  rcases h with h | ⟨ad, ha, hs, h⟩
  · exact .inl h
  · exact .inr ⟨ad, ha, hs, fun i v hv => (h i v hv).mono e⟩
mutual
theorem VP.mono (e : Ext cl w cl' w') {v : PV X.U} {c : Value} (h : VP X cl w v c) : VP X cl' w' v c := by
  match h with
  | .bool b => exact .bool b
  | .int k n => exact .int k n
  | .str s => exact .str s
  | .agg h => exact .agg (VPs.mono e h)
  | .tup h => exact .tup (VPt.mono e h)
  | .seg hu h => exact .seg hu (VPs.mono e h)
  | .arr hu hn h hs hw => exact .arr hu hn (fun i hi => VP.mono e (h i hi)) hs hw
  | .sl hu hn h hc ho hr => exact .sl hu hn (fun i hi => VP.mono e (h i hi)) hc ho (hr.mono e)
  | .mp h1 h2 h3 => exact .mp (e.2 _ _ _ h1 h2).1 (e.2 _ _ _ h1 h2).2 h3
theorem VPs.mono (e : Ext cl w cl' w') {v : List (PV X.U)} {c : List Value} (h : VPs X cl w v c) : VPs X cl' w' v c := by
  match h with
  | .nil => exact .nil
  | .cons h1 h2 h3 => exact .cons (VP.mono e h1) h2 (VPs.mono e h3)
theorem VPt.mono (e : Ext cl w cl' w') {v : List (PV X.U)} {c : List Value} (h : VPt X cl w v c) : VPt X cl' w' v c := by
  match h with
  | .nil => exact .nil
  | .cons h1 h2 => exact .cons (VP.mono e h1) (VPt.mono e h2)
end

/-- A row that one value alone owns: its cells, room behind them, told to no one. -/
def OwnAt (X : Univ) (cl : Nat → Nat) (w : World) (u : X.U) (a : Option Addr) (n cap : Nat) : Prop :=
  ∃ (vs : List Value) (get : Nat → PV X.U), X.view u = .sl n get ∧ vs.length = n ∧ (∀ i (h : i < vs.length), VP X cl w (get i) vs[i]) ∧ (∀ v ∈ vs, oc v (X.esz u)) ∧ n ≤ cap ∧
    ((a = none ∧ cap = 0) ∨ ∃ ad arr e fz, a = some ad ∧ ad.spot = none ∧ cl ad.block = 0 ∧ w.heap[ad.block]? = some (.cells arr e fz) ∧ ad.off + cap * X.esz u ≤ arr.size ∧
      (∀ j, j < ad.off + cap * X.esz u → ¬ (fz.1 ≤ j ∧ j < fz.2)) ∧ ∀ j c, (flat vs)[j]? = some c → arr[ad.off + j]? = some c)

end
section
variable (X : Univ)
mutual
inductive VS (cl : Nat → Nat) (w : World) (m : Nat → Nat) : SV X.U → Value → Prop
  | pv {v : PV X.U} {c : Value} : VP X cl w v c → VS cl w m (.pv v) c
  | ref {v : PV X.U} {c : Value} {ad : Addr} : VP X cl w v c → MemAt cl w ad c.cells.toList → VS cl w m (.ref v) (.pointer (some ad))
  | ptr (id off : Nat) : VS cl w m (.ptr id off) (.pointer (some ⟨m id, off, none⟩))
  | fn {f : FuncId} {fs cs : List (SV X.U)} {a b : List Value} : VSs cl w m fs a → VSs cl w m cs b → VS cl w m (.fn f fs cs) (.func (.func f) a.toArray b.toArray)
  | rp {id : Nat} {ad : Addr} : MemAt cl w ad [.pointer (some ⟨m id, 0, none⟩)] → VS cl w m (.rp id) (.pointer (some ad))
inductive VSs (cl : Nat → Nat) (w : World) (m : Nat → Nat) : List (SV X.U) → List Value → Prop
  | nil : VSs cl w m [] []
  | cons {v : SV X.U} {c : Value} {r : List (SV X.U)} {cs : List Value} : VS cl w m v c → VSs cl w m r cs → VSs cl w m (v :: r) (c :: cs)
end
/-- A struct's parts, of which some are nil for good. -/
inductive Vz (cl : Nat → Nat) (w : World) : List (Option (PV X.U)) → List Value → Prop
  | nil : Vz cl w [] []
  | cons {v : PV X.U} {c : Value} {r : List (Option (PV X.U))} {cs : List Value} : VP X cl w v c → oc c (v.segW X) → Vz cl w r cs → Vz cl w (some v :: r) (c :: cs)
  | none {r : List (Option (PV X.U))} {cs : List Value} : Vz cl w r cs → Vz cl w (none :: r) (.slice none 0 0 :: cs)
inductive V (cl : Nat → Nat) (w : World) (m : Nat → Nat) (lv : Lc → Option Value) : AV X.U → Value → Prop
  | pv {v : PV X.U} {c : Value} : VP X cl w v c → V cl w m lv (.pv v) c
  | ptr (id off : Nat) : V cl w m lv (.ptr id off) (.pointer (some ⟨m id, off, none⟩))
  | aptr (id off i sz : Nat) : V cl w m lv (.aptr id off i sz) (.pointer (some ⟨m id, off + i * sz, none⟩))
  | ref {v : PV X.U} {c : Value} {ad : Addr} : VP X cl w v c → MemAt cl w ad c.cells.toList → V cl w m lv (.ref v) (.pointer (some ad))
  | fn {f : FuncId} {fs cs : List (SV X.U)} {a b : List Value} : VSs X cl w m fs a → VSs X cl w m cs b → V cl w m lv (.fn f fs cs) (.func (.func f) a.toArray b.toArray)
  | own {u : X.U} {a : Option Addr} {n cap : Nat} : OwnAt X cl w u a n cap → V cl w m lv (.own u) (.slice a n cap)
  | otup {o : Option X.U} {cs : List (PV X.U)} {c : Value} {vs : List Value} : VPt X cl w cs vs → (∀ u, o = some u → ∃ a n cap, c = .slice a n cap ∧ OwnAt X cl w u a n cap) → V cl w m lv (.otup o cs) (.tuple (c :: vs).toArray)
  | bor {l : Lc} {c : Value} : (∀ x, lv l = some x → c = x) → V cl w m lv (.bor l) c
  | sub {l : Lc} {lo hi sz : Nat} {c : Value} : (∀ x, lv l = some x → ∃ a n cap, x = .slice a n cap ∧ lo ≤ hi ∧ hi ≤ n ∧
      c = .slice (if cap = lo then a else a.map (·.add (lo * sz))) (hi - lo) (cap - lo)) → V cl w m lv (.sub l lo hi sz) c
  | eptr {l : Lc} {i sz : Nat} {c : Value} : (∀ x, lv l = some x → ∃ ad n cap, x = .slice (some ad) n cap ∧ i < n ∧ c = .pointer (some (ad.add (i * sz)))) → V cl w m lv (.eptr l i sz) c
  | nil : V cl w m lv .nil (.slice none 0 0)
  | rp {id : Nat} {ad : Addr} : MemAt cl w ad [.pointer (some ⟨m id, 0, none⟩)] → V cl w m lv (.rp id) (.pointer (some ad))
  | zer {t : TypeId} {c : Value} : X.zval t c → V cl w m lv (.zer t) c
  | zl {os : List (Option (PV X.U))} {c : Value} {vs : List Value} : Vz X cl w os vs → c.cells = (flat vs).toArray → V cl w m lv (.zl os) c
  | undef (c : Value) : V cl w m lv .undef c
/-- Parts side by side, each as wide as it says. -/
inductive Vs (cl : Nat → Nat) (w : World) (m : Nat → Nat) (lv : Lc → Option Value) : List (AV X.U) → List Value → Prop
  | nil : Vs cl w m lv [] []
  | cons {v : AV X.U} {c : Value} {r : List (AV X.U)} {cs : List Value} : V X cl w m lv v c → oc c (v.segW X) → Vs cl w m lv r cs → Vs cl w m lv (v :: r) (c :: cs)

/-- What a call begins with; D: the blocks that it may write. -/
structure Base where
  w : World
  cl : Nat → Nat
  D : Nat → Prop
  mb : Nat → Nat

structure Fr (B : Base) (cl : Nat → Nat) (w : World) : Prop where
  os : w.os = B.w.os
  tape : w.tape = B.w.tape
  output : w.output = B.w.output
  size : B.w.heap.size ≤ w.heap.size
  block : ∀ b, b < B.w.heap.size → ¬ B.D b → w.heap[b]? = B.w.heap[b]? ∧ cl b = B.cl b

def cval (m : Nat → Nat) (tm : Array Value) (w : World) : Lc → Value
  | .slot i => tm.getD i Go.undef
  | .cell id off => (w.cell? ⟨m id, off, none⟩).getD Go.undef
def lval {X : Univ} (m : Nat → Nat) (s : St X.U) (tm : Array Value) (w : World) (l : Lc) : Option Value := (s.own l).map fun _ => cval m tm w l

/-- Who owns a block. -/
inductive OL where
  | slot (i : Nat)
  | cell (id off : Nat)
  | box (id : Nat)

def blk {U : Type} : AV U → Value → Option Nat
  | .own _, .slice (some a) _ _ => some a.block
  | .otup (some _) _, .tuple vs => match vs.toList with | Value.slice (some a) _ _ :: _ => some a.block | _ => none
  | _, _ => none

variable {X}
def Ow (m : Nat → Nat) (s : St X.U) (tm : Array Value) (w : World) : OL → Nat → Prop
  | .slot i, b => blk (s.look i) (tm.getD i Go.undef) = some b
  | .cell id off, b => ∃ c u, assoc s.hp id = some c ∧ segAt X c off = some (.own u) ∧ blk (AV.own u) ((w.cell? ⟨m id, off, none⟩).getD Go.undef) = some b
  | .box id, b => (∃ c, assoc s.hp id = some c) ∧ b = m id

def BoxAt (cl : Nat → Nat) (w : World) (m : Nat → Nat) (lv : Lc → Option Value) (id : Nat) (c : List (AV X.U)) : Prop :=
  ∃ vs e, Vs X cl w m lv c vs ∧ w.heap[m id]? = some (.cells (flat vs).toArray e (0, 0))

structure Rel (B : Base) (cl m : Nat → Nat) (s : St X.U) (tm : Array Value) (w : World) : Prop where
  fr : Fr B cl w
  env : ∀ i, V X cl w m (lval m s tm w) (s.look i) (tm.getD i Go.undef)
  box : ∀ id c, assoc s.hp id = some c → BoxAt cl w m (lval m s tm w) id c
  sep : ∀ l l' b, Ow m s tm w l b → Ow m s tm w l' b → l = l'
  mine : ∀ l b, Ow m s tm w l b → b < w.heap.size ∧ (B.D b ∨ B.w.heap.size ≤ b) ∧ cl b = 0
  top : ∀ b, w.heap.size ≤ b → cl b = 0
  bok : ∀ id c, assoc s.hp id = some c → ∀ v ∈ c, v.at? = none
  inv : X.inv B.D B.w
end
end Go.AX
