/-
  A reckoning machine over plain data for the program's code: values without memory (lists, structs), the variables of one call in boxes of their own; what it answers is what the program answers (the texts behind this one).
-/
import Derived.Orders
import Derived.Laws.BytesArg
namespace Go.AX
open Go

/-- Plain data over a set U of typed values. -/
inductive PV (U : Type) where
  | bool (b : Bool)
  | int (k : IntKind) (n : Int)
  | str (s : ByteArray)
  | agg (cs : List (PV U))
  | tup (cs : List (PV U))
  | typ (u : U)
  | mp (es : List (ByteArray × Int))

/-- A typed value, one level deep: a struct's parts, an array, a slice. -/
inductive View (U : Type) where
  | segs (cs : List (PV U))
  | arr (n : Nat) (get : Nat → PV U)
  | sl (n : Nat) (get : Nat → PV U)

/-- Where a value that one owns stands: a slot, a box's cell. -/
inductive Lc where
  | slot (i : Nat)
  | cell (id off : Nat)
  deriving DecidableEq

/-- What a function value bears. -/
inductive SV (U : Type) where
  | pv (v : PV U)
  | ref (v : PV U)
  | ptr (id off : Nat)
  | fn (f : FuncId) (first caps : List (SV U))
  | rp (id : Nat)

/-- What a slot holds. -/
inductive AV (U : Type) where
  | pv (v : PV U)
  | ptr (id off : Nat)
  | aptr (id off i sz : Nat)
  | ref (v : PV U)
  | fn (f : FuncId) (first caps : List (SV U))
  | own (u : U)
  | otup (o : Option U) (cs : List (PV U))
  | bor (l : Lc)
  | sub (l : Lc) (lo hi sz : Nat)
  | eptr (l : Lc) (i sz : Nat)
  | nil
  | zer (t : TypeId)
  | zl (cs : List (Option (PV U)))
  | rp (id : Nat)
  | undef

inductive TD where
  | bool | int (k : IntKind) | str | slice (e : TypeId) | struct (fs : List (Nat × TypeId)) | array (n : Nat) (e : TypeId) | map (k e : TypeId) | other

/-- A row over which another's beginning is laid. -/
def overL {α : Type} (l : List α) (lo n : Nat) (q : List α) : List α := l.take lo ++ (q.take n ++ l.drop (lo + n))
/-- A text's bytes, as numbers. -/
def bytesOf (s : ByteArray) : List Int := s.data.toList.map fun b => (b.toNat : Int)
/-- A type: its form, how many cells it has, how many bytes. -/
structure TI where
  td : TD
  size : Nat
  bytes : Nat

structure Univ where
  U : Type
  view : U → View U
  width : U → Nat
  esz : U → Nat
  nil : TypeId → Option U
  lit : TypeId → List (PV U) → Option U
  zeros : TypeId → Nat → Option U
  pack : TypeId → List (PV U) → Option (PV U)
  app : U → U → Option U
  appS : U → ByteArray → Option U
  cut : U → Nat → Nat → Option U
  set : U → Nat → PV U → Option U
  setA : U → Nat → PV U → Option U
  lenA : U → Nat
  over : U → Nat → Nat → U → Option U
  ofStr : ByteArray → Option U
  toStr : U → Option ByteArray
  ty : TypeId → Option TI
  inv : (Nat → Prop) → World → Prop
  zero : TypeId → Option (List (AV U))
  zval : TypeId → Value → Prop

variable {X : Univ} {ρ : Type}

def PV.segs (X : Univ) : PV X.U → List (PV X.U)
  | .agg cs => cs
  | .typ u => match X.view u with | .segs cs => cs | _ => [.typ u]
  | v => [v]
def PV.segW (X : Univ) : PV X.U → Nat
  | .typ u => match X.view u with | .arr _ _ => X.width u | _ => 1
  | _ => 1
def AV.segs (X : Univ) : AV X.U → List (AV X.U)
  | .pv v => (v.segs X).map .pv
  | v => [v]
def AV.segW (X : Univ) : AV X.U → Nat
  | .pv v => v.segW X
  | _ => 1
def segsW (X : Univ) : List (AV X.U) → Nat
  | [] => 0
  | v :: r => v.segW X + segsW X r

/-- The part that begins at a cell. -/
def segAt (X : Univ) : List (AV X.U) → Nat → Option (AV X.U)
  | [], _ => none
  | v :: _, 0 => some v
  | v :: r, n + 1 => if v.segW X ≤ n + 1 then segAt X r (n + 1 - v.segW X) else none
def setAt (X : Univ) : List (AV X.U) → Nat → AV X.U → Option (List (AV X.U))
  | [], _, _ => none
  | v :: r, 0, x => if x.segW X = v.segW X then some (x :: r) else none
  | v :: r, n + 1, x => if v.segW X ≤ n + 1 then (setAt X r (n + 1 - v.segW X) x).map (v :: ·) else none
/-- Parts that fill n cells, and the rest. -/
def takeW (X : Univ) : List (AV X.U) → Nat → Option (List (AV X.U) × List (AV X.U))
  | l, 0 => some ([], l)
  | [], _ + 1 => none
  | v :: r, n + 1 => if v.segW X ≤ n + 1 then (takeW X r (n + 1 - v.segW X)).map fun p => (v :: p.1, p.2) else none
def spanAt (X : Univ) (l : List (AV X.U)) (off n : Nat) : Option (List (AV X.U)) :=
  match takeW X l off with
  | some (_, r) => (takeW X r n).map (·.1)
  | none => none
def putSpan (X : Univ) (l : List (AV X.U)) (off n : Nat) (new : List (AV X.U)) : Option (List (AV X.U)) :=
  match takeW X l off with
  | some (a, r) => match takeW X r n with
    | some (_, b) => if segsW X new = n then some (a ++ (new ++ b)) else none
    | none => none
  | none => none

def pvs : List (AV X.U) → Option (List (PV X.U))
  | [] => some []
  | .pv v :: r => (pvs r).map (v :: ·)
  | _ :: _ => none

def assoc {α : Type} : List (Nat × α) → Nat → Option α
  | [], _ => none
  | (j, v) :: r, i => if j = i then some v else assoc r i
def assocSet {α : Type} : List (Nat × α) → Nat → α → List (Nat × α)
  | [], _, _ => []
  | (j, x) :: r, i, v => if j = i then (j, v) :: r else (j, x) :: assocSet r i v

mutual
def SV.men {U : Type} (id : Nat) : SV U → Bool
  | .ptr j _ => j == id
  | .fn _ fs cs => menL id fs || menL id cs
  | .pv _ => false
  | .ref _ => false
  | .rp j => j == id
def menL {U : Type} (id : Nat) : List (SV U) → Bool
  | [] => false
  | v :: r => v.men id || menL id r
end
def AV.men {U : Type} (id : Nat) : AV U → Bool
  | .ptr j _ | .aptr j _ _ _ | .rp j => j == id
  | .fn _ fs cs => menL id fs || menL id cs
  | .bor (.cell j _) | .sub (.cell j _) _ _ _ | .eptr (.cell j _) _ _ => j == id
  | _ => false
def AV.atSlot {U : Type} (i : Nat) : AV U → Bool
  | .bor (.slot j) | .sub (.slot j) _ _ _ | .eptr (.slot j) _ _ => j == i
  | _ => false
def AV.atCell {U : Type} (id : Nat) : AV U → Bool
  | .bor (.cell j _) | .sub (.cell j _) _ _ _ | .eptr (.cell j _) _ _ => j == id
  | _ => false

/-- The place that a value points into. -/
def AV.at? {U : Type} : AV U → Option Lc
  | .bor l | .sub l _ _ _ | .eptr l _ _ => some l
  | _ => none
/-- What a box may hold, but for what is owned. -/
def AV.plain {U : Type} : AV U → Bool
  | .pv (.tup _) => false
  | .pv _ | .ptr _ _ | .fn _ _ _ => true
  | _ => false

structure St (U : Type) where
  env : List (Nat × AV U)
  hp : List (Nat × List (AV U))

def St.look {U : Type} (s : St U) (i : Nat) : AV U := (assoc s.env i).getD .undef
/-- A slot gets a value; who points into what stood there is forgotten. -/
def killSlot {U : Type} (d : Nat) : List (Nat × AV U) → List (Nat × AV U)
  | [] => []
  | (j, v) :: r => if j = d then killSlot d r else (j, if v.atSlot d then .undef else v) :: killSlot d r
def St.put {U : Type} (s : St U) (d : Option Nat) (v : AV U) : St U :=
  match d with
  | some d => { s with env := (d, v) :: killSlot d s.env }
  | none => s
def killCell {U : Type} (id : Nat) : List (Nat × AV U) → List (Nat × AV U)
  | [] => []
  | (j, v) :: r => (j, if v.atCell id then .undef else v) :: killCell id r
def killBox {U : Type} (id : Nat) : List (Nat × AV U) → List (Nat × AV U)
  | [] => []
  | (j, v) :: r => (j, if v.men id then .undef else v) :: killBox id r
def killBoxC {U : Type} (id : Nat) : List (AV U) → List (AV U)
  | [] => []
  | v :: r => (if v.men id then .undef else v) :: killBoxC id r
def killBoxH {U : Type} (id : Nat) : List (Nat × List (AV U)) → List (Nat × List (AV U))
  | [] => []
  | (j, v) :: r => if j = id then killBoxH id r else (j, killBoxC id v) :: killBoxH id r
def St.addBox {U : Type} (s : St U) (id : Nat) (c : List (AV U)) : St U := { env := killBox id s.env, hp := (id, c) :: killBoxH id s.hp }
def St.setBox {U : Type} (s : St U) (id : Nat) (c : List (AV U)) : St U := { env := killCell id s.env, hp := assocSet s.hp id c }
/-- What is still read is kept. -/
def St.keep {U : Type} (s : St U) (L B : List Nat) : St U :=
  { env := L.map fun i => (i, s.look i), hp := (B.filterMap fun id => (assoc s.hp id).map fun c => (id, c)) ++ s.hp.filter fun p => decide (1000 ≤ p.1) }

def St.own (s : St X.U) : Lc → Option X.U
  | .slot i => match s.look i with | .own u => some u | _ => none
  | .cell id off => match assoc s.hp id with
    | some c => match segAt X c off with | some (.own u) => some u | _ => none
    | none => none
/-- What one owns is told to all (v: `pv`), or is gone (v: `undef`). -/
def St.turn (s : St X.U) (l : Lc) (v : AV X.U) : Option (St X.U) :=
  match l with
  | .slot i => some (s.put (some i) v)
  | .cell _ _ => none

/-- A slot as it is read. -/
def St.rd (s : St X.U) (i : Nat) : AV X.U :=
  match s.look i with
  | .own _ => .bor (.slot i)
  | .otup _ cs => .otup none cs
  | v => v
def constAV (X : Univ) (t : TypeId) : Value → AV X.U
  | .bool b => .pv (.bool b)
  | .int k n => .pv (.int k n)
  | .string s => .pv (.str s)
  | .slice none 0 0 => match X.nil t with | some u => .pv (.typ u) | none => .undef
  | _ => .undef
def St.ev (s : St X.U) (t : TypeId) : Operand → AV X.U
  | .tmp i => s.rd i
  | .const v => constAV X t v
  | .func f => .fn f [] []
  | .global _ => .undef

/-- Whether nothing in it lies in memory. -/
def PV.flat1 {U : Type} : PV U → Bool
  | .bool _ | .int _ _ | .str _ => true
  | _ => false
def PV.flat {U : Type} : PV U → Bool
  | .tup cs | .agg cs => cs.all PV.flat1
  | v => v.flat1

def mkAgg (X : Univ) (t : TypeId) (l : List (AV X.U)) : Option (AV X.U) :=
  match pvs l with
  | some cs => match X.pack t cs with
    | some v => some (.pv v)
    | none => some (.pv (.agg cs))
  | none => none
def mkTup (X : Univ) (l : List (AV X.U)) : Option (AV X.U) :=
  match pvs l with
  | some cs => some (.pv (.tup cs))
  | none => none
def AV.toSV {U : Type} : AV U → Option (SV U)
  | .pv v => some (.pv v)
  | .ref v => some (.ref v)
  | .ptr i o => some (.ptr i o)
  | .fn f a b => some (.fn f a b)
  | .rp i => some (.rp i)
  | _ => none
def SV.av {U : Type} : SV U → AV U
  | .pv v => .pv v
  | .ref v => .ref v
  | .ptr i o => .ptr i o
  | .fn f a b => .fn f a b
  | .rp i => .rp i
def toSVs {U : Type} : List (AV U) → Option (List (SV U))
  | [] => some []
  | v :: r => match v.toSV, toSVs r with | some a, some b => some (a :: b) | _, _ => none
def aggTy (X : Univ) (t : TypeId) : Bool :=
  match X.ty t with
  | some ⟨.struct _, _, _⟩ => true
  | some ⟨.array _ _, _, _⟩ => true
  | _ => false
def isAggT (X : Univ) (t : TypeId) : Option (Bool × Nat) :=
  match X.ty t with
  | some ⟨.struct _, n, _⟩ | some ⟨.array _ _, n, _⟩ => some (true, n)
  | some ⟨_, n, _⟩ => some (false, n)
  | none => none

/-- What no memory of the call's own is named in. -/
def PV.bit {U : Type} : PV U → Option Bool
  | .bool b => some b
  | _ => none

/-- A truth that no reckoning looks into (a number compared with a great one would be counted down). -/
noncomputable def big (b : Bool) : Bool := Classical.choose (⟨b, rfl⟩ : ∃ c, c = b)
theorem big_eq (b : Bool) : big b = b := Classical.choose_spec (⟨b, rfl⟩ : ∃ c, c = b)
def bigC : Operand → Bool
  | .const (.int _ n) => Nat.ble 256 n.natAbs
  | _ => false

/-- What holds whichever way a test goes that no one can tell. -/
noncomputable def both (x y : Option ρ) : Option ρ := open Classical in if x = y then x else none
theorem both_inv {x y : Option ρ} {r : ρ} (h : both x y = some r) : x = some r ∧ y = some r := by
  unfold both at h
  split at h
  · rename_i e; exact ⟨h, e ▸ h⟩
  · cases h
/-- Whether a slice of so many elements is nil: an empty one may be, or not. -/
noncomputable def nilT (n : Nat) (K : Bool → Option ρ) : Option ρ := if n = 0 then both (K true) (K false) else K false
theorem nilT_inv {n : Nat} {K : Bool → Option ρ} {r : ρ} (h : nilT n K = some r) : K false = some r ∧ (n = 0 → K true = some r) := by
  unfold nilT at h
  split at h
  · exact ⟨(both_inv h).2, fun _ => (both_inv h).1⟩
  · rename_i hn; exact ⟨h, fun e => absurd e hn⟩
section ops
variable (X)

noncomputable def bigK (y : Operand) (K : AV X.U → Option ρ) : AV X.U → Option ρ := fun v =>
  match bigC y, v with
  | true, .pv (.bool b) => K (.pv (.bool (big b)))
  | _, v => K v
theorem bigK_eq (y : Operand) (K : AV X.U → Option ρ) (v : AV X.U) : bigK X y K v = K v := by
  unfold bigK
  split
  · rw [big_eq]
  · rfl
/-- Whether two texts put together are still a text (no reckoning looks into it: it would count down). -/
theorem strFitsX : ∃ f : ByteArray → ByteArray → Prop, f = fun x y => ((x.size + y.size : Nat) : Int) ≤ 9223372036854775807 := ⟨_, rfl⟩
noncomputable def strFits (x y : ByteArray) : Prop := Classical.choose strFitsX x y
theorem strFits_eq (x y : ByteArray) : strFits x y = (((x.size + y.size : Nat) : Int) ≤ 9223372036854775807) := congrFun (congrFun (Classical.choose_spec strFitsX) x) y
noncomputable instance (x y : ByteArray) : Decidable (strFits x y) := Classical.propDecidable _
/-- Two texts put together (no reckoning looks into it). -/
theorem catX : ∃ f : ByteArray → ByteArray → ByteArray, f = fun x y => x ++ y := ⟨_, rfl⟩
noncomputable def cat (x y : ByteArray) : ByteArray := Classical.choose catX x y
theorem cat_eq (x y : ByteArray) : cat x y = x ++ y := congrFun (congrFun (Classical.choose_spec catX) x) y
/-- Arithmetic, comparisons. -/
noncomputable def binK (op : BinOp) (a b : PV X.U) (K : AV X.U → Option ρ) : Option ρ :=
  match op, a, b with
  | .shl, .int k x, .int _ y => if y < 0 then none else K (.pv (.int k (k.wrap (x * 2 ^ (min y.toNat k.bits)))))
  | .shr, .int k x, .int _ y => if y < 0 then none else K (.pv (.int k (x.fdiv (2 ^ (min y.toNat k.bits)))))
  | .add, .int k x, .int k' y => if k = k' then K (.pv (.int k (k.wrap (x + y)))) else none
  | .sub, .int k x, .int k' y => if k = k' then K (.pv (.int k (k.wrap (x - y)))) else none
  | .mul, .int k x, .int k' y => if k = k' then K (.pv (.int k (k.wrap (x * y)))) else none
  | .quo, .int k x, .int k' y => if k = k' then (if y = 0 then none else K (.pv (.int k (k.wrap (x.tdiv y))))) else none
  | .rem, .int k x, .int k' y => if k = k' then (if y = 0 then none else K (.pv (.int k (x.tmod y)))) else none
  | .and, .int k x, .int k' y => if k = k' then K (.pv (.int k (k.wrap (BitVec.ofInt k.bits x &&& BitVec.ofInt k.bits y).toNat))) else none
  | .or, .int k x, .int k' y => if k = k' then K (.pv (.int k (k.wrap (BitVec.ofInt k.bits x ||| BitVec.ofInt k.bits y).toNat))) else none
  | .xor, .int k x, .int k' y => if k = k' then K (.pv (.int k (k.wrap (BitVec.ofInt k.bits x ^^^ BitVec.ofInt k.bits y).toNat))) else none
  | .eql, .int k x, .int k' y => if k = k' then K (.pv (.bool (x == y))) else none
  | .neq, .int k x, .int k' y => if k = k' then K (.pv (.bool (x != y))) else none
  | .lss, .int k x, .int k' y => if k = k' then K (.pv (.bool (decide (x < y)))) else none
  | .leq, .int k x, .int k' y => if k = k' then K (.pv (.bool (decide (x ≤ y)))) else none
  | .gtr, .int k x, .int k' y => if k = k' then K (.pv (.bool (decide (x > y)))) else none
  | .geq, .int k x, .int k' y => if k = k' then K (.pv (.bool (decide (x ≥ y)))) else none
  | .add, .str x, .str y => if strFits x y then K (.pv (.str (cat x y))) else none
  | .eql, .str x, .str y => K (.pv (.bool (x.toList == y.toList)))
  | .neq, .str x, .str y => K (.pv (.bool !(x.toList == y.toList)))
  | .lss, .str x, .str y => K (.pv (.bool (Go.Op.bytesLess x.toList y.toList)))
  | .leq, .str x, .str y => K (.pv (.bool (Go.Op.bytesLess x.toList y.toList || x.toList == y.toList)))
  | .gtr, .str x, .str y => K (.pv (.bool !(Go.Op.bytesLess x.toList y.toList || x.toList == y.toList)))
  | .geq, .str x, .str y => K (.pv (.bool !(Go.Op.bytesLess x.toList y.toList)))
  | .eql, .bool x, .bool y => K (.pv (.bool (x == y)))
  | .neq, .bool x, .bool y => K (.pv (.bool (!(x == y))))
  | _, _, _ => none

def eq1 : PV X.U → PV X.U → Option Bool
  | .int _ a, .int _ b => some (a == b)
  | .str a, .str b => some (a == b)
  | .bool a, .bool b => some (a == b)
  | _, _ => none
/-- Structs of plain parts, part by part. -/
def eqs : List (PV X.U) → List (PV X.U) → Option Bool
  | [a], [b] => eq1 X a b
  | a :: r, b :: r' => match eq1 X a b, eqs r r' with
    | some x, some y => some (x && y)
    | _, _ => none
  | _, _ => none
end ops

/-- A struct type's plain parts, laid side by side. -/
def flatFs (g : TypeId → Option (List TD)) : List (Nat × TypeId) → Nat → Option (List TD)
  | [], _ => some []
  | (off, t) :: r, k => if off = k then match g t with
      | some ks => match flatFs g r (k + ks.length) with | some q => some (ks ++ q) | none => none
      | none => none
    else none
def flatTy (X : Univ) : Nat → TypeId → Option (List TD)
  | 0, _ => none
  | f + 1, t => match X.ty t with
    | some ⟨.struct fs, n, _⟩ => match flatFs (flatTy X f) fs 0 with | some ks => if ks.length = n then some ks else none | none => none
    | some ⟨.int k, 1, _⟩ => some [.int k]
    | some ⟨.str, 1, _⟩ => some [.str]
    | some ⟨.bool, 1, _⟩ => some [.bool]
    | _ => none
def kinds {U : Type} : List (PV U) → List TD → Bool
  | [], [] => true
  | .int k _ :: r, .int k' :: q => k == k' && kinds r q
  | .str _ :: r, .str :: q => kinds r q
  | .bool _ :: r, .bool :: q => kinds r q
  | _, _ => false

/-- What an operation may look at. -/
structure Acc (X : Univ) where
  ev : TypeId → Operand → AV X.U
  own : Lc → Option X.U
  box : Nat → Option (List (AV X.U))

section ops
variable (X)

/-- The parts of a struct or array type's value, put in place: field or index, value. -/
def offOf (t : TypeId) (i : Nat) : Option Nat :=
  match X.ty t with
  | some ⟨.struct fs, _, _⟩ => (fs[i]?).map (·.1)
  | some ⟨.array _ e, _, _⟩ => match X.ty e with | some ⟨_, n, _⟩ => some (i * n) | none => none
  | _ => none
def partTy (t : TypeId) (i : Nat) : Option TypeId :=
  match X.ty t with
  | some ⟨.struct fs, _, _⟩ => (fs[i]?).map (·.2)
  | some ⟨.array _ e, _, _⟩ => some e
  | _ => none
def fillK (t : TypeId) (ev : TypeId → Operand → AV X.U) : List (Nat × Operand) → List (AV X.U) → Option (List (AV X.U))
  | [], l => some l
  | (i, x) :: r, l => match offOf X t i, partTy X t i with
    | some off, some pt => match X.ty pt with
      | some ⟨_, n, _⟩ => if (ev pt x).plain then (match putSpan X l off n ((ev pt x).segs X) with
          | some l' => fillK t ev r l'
          | none => none) else none
      | none => none
    | _, _ => none
/-- Of one cell. -/
def scalar : AV X.U → Bool
  | .pv (.bool _) | .pv (.int _ _) | .pv (.str _) | .pv (.mp _) => true
  | .pv (.typ u) => match X.view u with | .sl _ _ => true | _ => false
  | .ptr _ _ | .aptr _ _ _ _ | .ref _ | .fn _ _ _ | .own _ => true
  | _ => false
/-- A part of a value. -/
def partK (v : List (AV X.U)) (t : TypeId) (off : Nat) : Option (AV X.U) :=
  match isAggT X t with
  | some (true, n) => (spanAt X v off n).bind (mkAgg X t)
  | some (false, _) => match segAt X v off with
    | some x => if scalar X x then some x else none
    | none => none
  | none => none
def litElems (ev : TypeId → Operand → AV X.U) (e : TypeId) : Nat → List (Nat × Operand) → Option (List (PV X.U))
  | _, [] => some []
  | k, (i, x) :: r => if i = k then match ev e x with
      | .pv v => (litElems ev e (k + 1) r).map (v :: ·)
      | _ => none
    else none
/-- How long a slice or a string is. -/
def lenK (own : Lc → Option X.U) (t : TypeId) (v : AV X.U) : Option Nat :=
  match v with
  | .pv (.str s) => match X.ty t with | some ⟨.str, _, _⟩ => some s.size | _ => none
  | .pv (.typ u) => match X.view u with
    | .sl n _ => match X.ty t with | some ⟨.slice _, _, _⟩ => some n | _ => none
    | _ => none
  | .bor l => match own l with
    | some u => match X.view u with
      | .sl n _ => match X.ty t with | some ⟨.slice _, _, _⟩ => some n | _ => none
      | _ => none
    | none => none
  | _ => none
def sliceOf (own : Lc → Option X.U) : AV X.U → Option X.U
  | .pv (.typ u) => some u
  | .bor l => own l
  | .sub l lo hi sz => match own l with | some u => if X.esz u = sz then X.cut u lo hi else none | none => none
  | _ => none

/-- Whether a slice's elements are of the size that its type says. -/
def elemOk (t : TypeId) (u : X.U) : Bool :=
  match X.ty t with
  | some ⟨.slice e, _, _⟩ => match X.ty e with | some ⟨_, n, _⟩ => n == X.esz u | none => false
  | _ => false

def boundK (ev : TypeId → Operand → AV X.U) (d : Nat) : Option Operand → Option Int
  | none => some d
  | some x => match ev 3 x with | .pv (.int _ n) => some n | _ => none

/-- What stands in a map at a text, or 0. -/
def lookL : List (ByteArray × Int) → ByteArray → Int
  | [], _ => 0
  | (k, v) :: r, s => bif s.toList == k.toList then v else lookL r s
/-- The operations that only tell a value. -/
noncomputable def valK (A : Acc X) (o : Oper) (K : AV X.U → Option ρ) : Option ρ :=
  match o.op with
  | .move x | .assign x => K (A.ev o.type x)
  | .pick c a b => match A.ev 0 c with
    | .pv (.bool t) => bif t then K (A.ev o.type a) else K (A.ev o.type b)
    | _ => none
  | .build t parts => match X.zero t with
    | some z => match fillK X t A.ev parts.toList z with
      | some l => (match mkAgg X t l with | some v => if aggTy X t then K v else none | none => none)
      | none => none
    | none => none
  | .load t a => match A.ev 0 a with
    | .ref v => match isAggT X t with
      | some (true, n) => if (AV.pv v).plain && !scalar X (.pv v) then (if segsW X ((AV.pv v).segs X) = n then K (.pv v) else none) else none
      | some (false, _) => if scalar X (.pv v) then K (.pv v) else none
      | none => none
    | .rp id => match isAggT X t with
      | some (false, _) => K (.ptr id 0)
      | _ => none
    | .ptr id off => match A.box id with
      | some c => match isAggT X t with
        | some (true, n) => match spanAt X c off n with | some l => (match mkAgg X t l with | some v => K v | none => none) | none => none
        | some (false, _) => match segAt X c off with
          | some (.own _) => K (.bor (.cell id off))
          | some v => if scalar X v then K v else none
          | none => none
        | none => none
      | none => none
    | .aptr id off i sz => match A.box id with
      | some c => match segAt X c off with
        | some (.pv (.typ u)) => match X.view u, isAggT X t with
          | .arr n get, some (b, k) => if i < n then (if X.esz u = sz ∧ k = sz then (if (AV.pv (get i)).plain && b == !scalar X (.pv (get i)) then K (.pv (get i)) else none) else none) else none
          | _, _ => none
        | _ => none
      | none => none
    | .eptr l i sz => match A.own l with
      | some u => match X.view u, isAggT X t with
        | .sl n get, some (b, k) => if X.esz u = sz ∧ k = sz then (if (AV.pv (get i)).plain && b == !scalar X (.pv (get i)) then K (.pv (get i)) else none) else none
        | _, _ => none
      | none => none
    | _ => none
  | .fieldAddr t a f => match offOf X t f with
    | some off => match X.ty t with
      | some ⟨.struct _, _, _⟩ => match A.ev 0 a with
        | .ptr id o => K (.ptr id (o + off))
        | .ref v => match partTy X t f with
          | some ft => if (AV.pv v).plain then (match partK X ((AV.pv v).segs X) ft off with | some (.pv p) => K (.ref p) | _ => none) else none
          | none => none
        | _ => none
      | _ => none
    | none => none
  | .field t a f => match offOf X t f, partTy X t f with
    | some off, some ft => match X.ty t with
      | some ⟨.struct _, _, _⟩ => match A.ev t a with
        | .pv q => if (AV.pv q).plain && !scalar X (.pv q) then (match partK X ((AV.pv q).segs X) ft off with | some v => K v | none => none) else none
        | _ => none
      | _ => none
    | _, _ => none
  | .indexAddr t a i => match A.ev 3 i with
    | .pv (.int _ n) => match A.ev t a with
      | .pv (.typ u) => match X.view u with
        | .sl len get => if elemOk X t u then (if 0 ≤ n ∧ n < (len : Int) then K (.ref (get n.toNat)) else none) else none
        | _ => none
      | .bor l => match A.own l with
        | some u => match X.view u with | .sl len _ => if elemOk X t u then (if 0 ≤ n ∧ n < (len : Int) then K (.eptr l n.toNat (X.esz u)) else none) else none | _ => none
        | none => none
      | .ptr id off => match X.ty t with
        | some ⟨.array len e, _, _⟩ => match X.ty e with
          | some ⟨_, sz, _⟩ => if 0 ≤ n ∧ n < (len : Int) then (match (A.box id).bind fun c => segAt X c off with
            | some (.pv (.typ _)) => K (.aptr id off n.toNat sz)
            | _ => K (.ptr id (off + n.toNat * sz))) else none
          | none => none
        | _ => none
      | _ => none
    | _ => none
  | .index t a i => match A.ev 3 i with
    | .pv (.int _ n) => match X.ty t, A.ev t a with
      | some ⟨.str, _, _⟩, .pv (.str s) => if 0 ≤ n ∧ n < (s.size : Int) then K (.pv (.int .u8 ((s.data.toList.getD n.toNat 0).toNat : Int))) else none
      | some ⟨.array len e, _, _⟩, .pv (.typ u) => match X.view u, isAggT X e with
        | .arr len' get, some (b, k) => if 0 ≤ n ∧ n < (len : Int) then (if len = len' ∧ k = X.esz u then (if (AV.pv (get n.toNat)).plain && b == !scalar X (.pv (get n.toNat)) then K (.pv (get n.toNat)) else none) else none) else none
        | _, _ => none
      | _, _ => none
    | _ => none
  | .slice t x lo hi mx => match mx with
    | some _ => none
    | none => match X.ty t, A.ev t x with
      | some ⟨.str, _, _⟩, .pv (.str s) => match boundK X A.ev 0 lo, boundK X A.ev s.size hi with
        | some l, some h => if 0 ≤ l ∧ l ≤ h ∧ h ≤ (s.size : Int) then K (.pv (.str (s.extract l.toNat h.toNat))) else none
        | _, _ => none
      | _, .pv (.typ u) => match X.view u with
        | .sl n _ => match boundK X A.ev 0 lo, boundK X A.ev n hi with
          | some l, some h => if elemOk X t u then (if 0 ≤ l ∧ l ≤ h ∧ h ≤ (n : Int) then match X.cut u l.toNat h.toNat with | some u' => K (.pv (.typ u')) | none => none else none) else none
          | _, _ => none
        | _ => none
      | _, .bor c => match A.own c with
        | some u => match X.view u with
          | .sl n _ => match boundK X A.ev 0 lo, boundK X A.ev n hi with
            | some l, some h => if elemOk X t u then (if 0 ≤ l ∧ l ≤ h ∧ h ≤ (n : Int) then K (.sub c l.toNat h.toNat (X.esz u)) else none) else none
            | _, _ => none
          | _ => none
        | none => none
      | _, _ => none
  | .binOp op t x y _ => match A.ev t x, A.ev t y with
    | .pv a, .pv b => match X.ty t with
      | some ⟨.struct _, _, _⟩ => match flatTy X 5 t with
        | some ks => if kinds (a.segs X) ks && kinds (b.segs X) ks && (AV.pv a).plain && (AV.pv b).plain && !scalar X (.pv a) && !scalar X (.pv b) then (match op, eqs X (a.segs X) (b.segs X) with
          | .eql, some e => K (.pv (.bool e))
          | .neq, some e => K (.pv (.bool (!e)))
          | _, _ => none) else none
        | none => none
      | some ti => if (match a with | .bool _ => (match ti.td with | .bool => true | _ => false) | _ => true) then binK X op a b (bigK X y K) else none
      | none => none
    | _, _ => none
  | .unOp op t x => match op, A.ev t x with
    | .not, .pv (.bool b) => K (.pv (.bool (!b)))
    | .neg, .pv (.int k n) => K (.pv (.int k (k.wrap (0 - n))))
    | .xor, .pv (.int k n) => K (.pv (.int k (k.wrap (BitVec.ofInt k.bits (if k.signed then -1 else k.max) ^^^ BitVec.ofInt k.bits n).toNat)))
    | _, _ => none
  | .convert src dst x => match X.ty src, X.ty dst, A.ev src x with
    | some ⟨.int _, _, _⟩, some ⟨.int k, _, _⟩, .pv (.int _ n) => K (.pv (.int k (k.wrap n)))
    | some ⟨.str, _, _⟩, some ⟨.str, _, _⟩, .pv (.str s) => K (.pv (.str s))
    | some ⟨.slice e, _, _⟩, some ⟨.str, _, _⟩, v => match X.ty e, sliceOf X A.own v with
      | some ⟨.int .u8, _, _⟩, some u => match X.toStr u with | some s => K (.pv (.str s)) | none => none
      | _, _ => none
    | _, _, _ => none
  | .lookup t x y false => match X.ty t, A.ev 0 x, A.ev 0 y with
    | some ⟨.map kt _, _, _⟩, .pv (.mp es), .pv (.str s) => match X.ty kt with
      | some ⟨.str, _, _⟩ => K (.pv (.int .i64 (lookL es s)))
      | _ => none
    | _, _, _ => none
  | .extract x i => match A.ev 0 x with
    | .pv (.tup cs) => match cs[i]? with | some v => K (.pv v) | none => none
    | .otup _ cs => match i with | 0 => none | j + 1 => match cs[j]? with | some v => K (.pv v) | none => none
    | _ => none
  | .nilCheck x => match A.ev 0 x with
    | .ptr id off => K (.ptr id off)
    | .ref v => K (.ref v)
    | .fn f fs cs => K (.fn f fs cs)
    | _ => none
  | .makeFunc (.func f) first caps => match toSVs (first.toList.map (A.ev 0)), toSVs (caps.toList.map (A.ev 0)) with | some a, some b => K (.fn f a b) | _, _ => none
  | .call { callee := .builtin .len, args, argTypes } => match args.toList, argTypes.toList with
    | [x], [t] => match lenK X A.own t (A.ev t x) with | some n => K (.pv (.int .i64 n)) | none => none
    | _, _ => none
  | .call { callee := .builtin .min, args, argTypes } => match args.toList, argTypes.toList with
    | [x, y], [t, t'] => match A.ev t x, A.ev t' y with | .pv (.int k a), .pv (.int _ b) => K (.pv (.int k (if b < a then b else a))) | _, _ => none
    | _, _ => none
  | .call { callee := .builtin .max, args, argTypes } => match args.toList, argTypes.toList with
    | [x, y], [t, t'] => match A.ev t x, A.ev t' y with | .pv (.int k a), .pv (.int _ b) => K (.pv (.int k (if b > a then b else a))) | _, _ => none
    | _, _ => none
  | _ => none
end ops

/-- What the callees answer: number, arguments, boxes that are handed in; what follows. -/
abbrev Ans (X : Univ) (ρ : Type) := FuncId → List (AV X.U) → List (List (AV X.U)) → (AV X.U → List (List (AV X.U)) → Option ρ) → Option ρ

mutual
/-- The boxes that a value names. -/
def SV.ids {U : Type} : SV U → List Nat
  | .ptr j _ => [j]
  | .fn _ fs cs => idsS fs ++ idsS cs
  | .pv _ => []
  | .ref _ => []
  | .rp j => [j]
def idsS {U : Type} : List (SV U) → List Nat
  | [] => []
  | v :: r => v.ids ++ idsS r
end
def AV.ids {U : Type} : AV U → List Nat
  | .ptr j _ => [j]
  | .fn _ fs cs => idsS fs ++ idsS cs
  | .rp j => [j]
  | _ => []
def idsL {U : Type} : List (AV U) → List Nat
  | [] => []
  | v :: r => v.ids ++ idsL r
def dedup : List Nat → List Nat → List Nat
  | [], acc => acc
  | i :: r, acc => dedup r (if acc.contains i then acc else acc ++ [i])
/-- The boxes that are reached from some. -/
def reach {U : Type} (box : Nat → Option (List (AV U))) : Nat → List Nat → List Nat
  | 0, l => l
  | n + 1, l => reach box n (dedup (l.flatMap fun i => match box i with | some c => idsL c | none => []) l)
mutual
/-- The boxes by other numbers. -/
def SV.ren {U : Type} (f : Nat → Option Nat) : SV U → Option (SV U)
  | .ptr j off => (f j).map fun k => .ptr k off
  | .fn g fs cs => match renS f fs, renS f cs with | some a, some b => some (.fn g a b) | _, _ => none
  | .pv v => some (.pv v)
  | .ref v => some (.ref v)
  | .rp j => (f j).map .rp
def renS {U : Type} (f : Nat → Option Nat) : List (SV U) → Option (List (SV U))
  | [] => some []
  | v :: r => match v.ren f, renS f r with | some a, some b => some (a :: b) | _, _ => none
end
def AV.ren {U : Type} (f : Nat → Option Nat) : AV U → Option (AV U)
  | .ptr j off => (f j).map fun k => .ptr k off
  | .fn g fs cs => match renS f fs, renS f cs with | some a, some b => some (.fn g a b) | _, _ => none
  | .pv v => some (.pv v)
  | .ref v => some (.ref v)
  | .rp j => (f j).map .rp
  | .nil => some .nil
  | .undef => some .undef
  | _ => none
def renL {U : Type} (f : Nat → Option Nat) : List (AV U) → Option (List (AV U))
  | [] => some []
  | v :: r => match v.ren f, renL f r with | some a, some b => some (a :: b) | _, _ => none
def placeIn : List Nat → Nat → Nat → Option Nat
  | [], _, _ => none
  | j :: r, k, i => if j = i then some k else placeIn r (k + 1) i

section ops2
variable (X)

/-- An argument: what one owns is handed over, or lent. -/
def argK (own : Lc → Option X.U) (take : Bool) : AV X.U → Option (AV X.U × Option Lc)
  | .bor l => match own l with
    | some u => if take then some (.own u, some l) else some (.pv (.typ u), some l)
    | none => none
  | .sub l lo hi sz => if take then none else match sliceOf X own (.sub l lo hi sz) with | some u => some (.pv (.typ u), some l) | none => none
  | .pv v => some (.pv v, none)
  | .ref v => some (.ref v, none)
  | .ptr j off => if off = 0 then some (.ptr j 0, none) else none
  | .fn f fs cs => some (.fn f fs cs, none)
  | .nil => some (.nil, none)
  | .undef => some (.undef, none)
  | .rp j => some (.rp j, none)
  | _ => none
def argsK (own : Lc → Option X.U) (takes : List Nat) : Nat → List (AV X.U) → Option (List (AV X.U) × List (Lc × Bool))
  | _, [] => some ([], [])
  | k, v :: r => match argK X own (takes.contains k) v, argsK own takes (k + 1) r with
    | some (a, none), some (as, ls) => some (a :: as, ls)
    | some (a, some l), some (as, ls) => some (a :: as, (l, takes.contains k) :: ls)
    | _, _ => none
def turnAll (s : St X.U) : List (Lc × Bool) → Bool → Option (St X.U)
  | [], _ => some s
  | (l, true) :: r, tell => match s.turn l .undef with | some s' => turnAll s' r tell | none => none
  | (l, false) :: r, true => match s.own l with
    | some u => match s.turn l (.pv (.typ u)) with | some s' => turnAll s' r true | none => none
    | none => turnAll s r true
  | (_, false) :: r, false => turnAll s r false
def AV.flat {U : Type} : AV U → Bool
  | .pv v => v.flat
  | _ => false
def boxesAt (box : Nat → Option (List (AV X.U))) (f : Nat → Option Nat) : List Nat → Option (List (List (AV X.U)))
  | [] => some []
  | i :: r => match box i with
    | some c => match renL f c, boxesAt box f r with | some a, some b => some (a :: b) | _, _ => none
    | none => none
def putBoxes (f : Nat → Option Nat) : List Nat → List (List (AV X.U)) → St X.U → Option (St X.U)
  | [], [], s => some s
  | i :: r, c :: q, s => match renL f c with
    | some c' => putBoxes f r q (s.setBox i c')
    | none => none
  | _, _, _ => none
/-- Which places of its arguments a callee takes over. -/
abbrev Takes := FuncId → List Nat

/-- What an operation does beside its value: to a box, to a slot. -/
inductive Eff (U : Type) where
  | none
  | box (id : Nat) (c : List (AV U)) (new : Bool)
  | slot (i : Nat) (v : AV U)
def St.setSlot {U : Type} (s : St U) (i : Nat) (v : AV U) : St U := { s with env := assocSet s.env i v }
def St.eff {U : Type} (s : St U) : Eff U → St U
  | .none => s
  | .box id c true => s.addBox id c
  | .box id c false => s.setBox id c
  | .slot i v => s.setSlot i v
/-- Slots of a function that begin with an empty row of their own (no function has this number). -/
def nilOwn (tk : Takes) (d : Option Nat) : Bool := match d with | some d => (tk 1000000).contains d | none => false
/-- One argument at most is taken over, and it is lent to no one. -/
def takenOk (ls : List (Lc × Bool)) : Bool :=
  decide ((ls.filter (·.2)).length ≤ 1) && ls.all fun p => (match p.1 with | .slot _ => true | _ => false) && (p.2 || (ls.filter (·.2)).all fun q => decide (q.1 ≠ p.1))
def takeOne (s : St X.U) (ls : List (Lc × Bool)) : St X.U := match ls.filter (·.2) with | (.slot j, _) :: _ => s.setSlot j .undef | _ => s
noncomputable def callK (G : Ans X ρ) (tk : Takes) (s : St X.U) (f : FuncId) (args : List (AV X.U)) (K : AV X.U → St X.U → Option ρ) : Option ρ :=
  match argsK X s.own (tk f) 0 args with
  | some (as, ls) => if (idsL as).isEmpty && takenOk ls then G f as [] fun v _ =>
      match turnAll X s (ls.filter (!·.2)) (!v.flat) with
      | some s1 => match v with
          | .pv p => K (.pv p) (takeOne X s1 ls)
          | .own u => K (.own u) (takeOne X s1 ls)
          | .otup (some u) cs => K (.otup (some u) cs) (takeOne X s1 ls)
          | _ => none
      | none => none
    else none
  | none => none
def AV.isPv {U : Type} : AV U → Bool
  | .pv _ => true
  | _ => false
/-- What a box may hold that is handed in. -/
def AV.isPO {U : Type} : AV U → Bool
  | .pv _ | .own _ => true
  | _ => false
/-- Boxes that are handed in: what stands in them is told to all, or owned there. -/
def boxesPv {U : Type} (box : Nat → Option (List (AV U))) : List Nat → Option (List (List (AV U)))
  | [] => some []
  | i :: r => match box i, boxesPv box r with | some c, some q => if c.all AV.isPO then some (c :: q) else none | _, _ => none
def putB {U : Type} : List Nat → List (List (AV U)) → St U → Option (St U)
  | [], [], s => some s
  | i :: r, c :: q, s => putB r q (s.setBox i c)
  | _, _, _ => none
/-- A call that is handed boxes. -/
noncomputable def callB (G : Ans X ρ) (s : St X.U) (f : FuncId) (as : List (AV X.U)) (ls : List (Lc × Bool)) (K : AV X.U → St X.U → Option ρ) : Option ρ :=
  if ls.all (fun p => !p.2 && (match p.1 with | .slot _ => true | _ => false)) then
    match turnAll X s ls true with
    | some s1 => match renL (placeIn (dedup (idsL as) []) 1000) as, boxesPv (assoc s1.hp) (dedup (idsL as) []) with
      | some as', some bx => G f as' bx fun v bx' => if bx'.all (fun c => c.all AV.isPO) then (match putB (dedup (idsL as) []) bx' s1 with
          | some s2 => match v with
            | .pv p => K (.pv p) s2
            | .own u => K (.own u) s2
            | _ => none
          | none => none) else none
      | _, _ => none
    | none => none
  else none
noncomputable def callX (G : Ans X ρ) (tk : Takes) (s : St X.U) (f : FuncId) (args : List (AV X.U)) (K : AV X.U → St X.U → Option ρ) : Option ρ :=
  match argsK X s.own (tk f) 0 args with
  | some (as, ls) => bif (idsL as).isEmpty then callK X G tk s f args K else callB X G s f as ls K
  | none => none
/-- The row that is appended to. -/
def appBase (A : Acc X) (t : TypeId) (x : Operand) : Option (X.U × Eff X.U) :=
  match x with
  | .const (.slice none 0 0) => (X.nil t).map fun u => (u, .none)
  | .tmp i => match A.ev t (.tmp i) with
    | .bor (.slot j) => (A.own (.slot j)).map fun u => (u, .slot j .undef)
    | _ => none
  | _ => none
/-- What is appended. -/
def appMore (A : Acc X) (t : TypeId) (y : Operand) (e : Eff X.U) : Option X.U :=
  match X.ty t, A.ev t y with
  | some ⟨.str, _, _⟩, .pv (.str s) => X.ofStr s
  | some ⟨.slice _, _, _⟩, .pv (.typ u) => some u
  | some ⟨.slice _, _, _⟩, .bor (.slot j) => match e with
    | .slot j' _ => if j = j' then none else A.own (.slot j)
    | _ => A.own (.slot j)
  | _, _ => none
/-- Where is copied to: the slot, its row, from which place on, how many may go there. -/
def copyTo (A : Acc X) (t : TypeId) (x : Operand) : Option (Nat × X.U × Nat × Nat) :=
  match A.ev t x with
  | .bor (.slot j) => match A.own (.slot j) with
    | some u => match X.view u with | .sl n _ => some (j, u, 0, n) | _ => none
    | none => none
  | .sub (.slot j) lo hi sz => match A.own (.slot j) with | some u => if sz = 1 then some (j, u, lo, hi - lo) else none | none => none
  | _ => none
/-- How wide a type's zero is. -/
def zeroW (e : TypeId) : Option Nat := (X.zero e).map (segsW X)
/-- The slot of a row of one's own that a literal takes up: it is told to all. -/
def tellSlot (ev : TypeId → Operand → AV X.U) (e : TypeId) : List (Nat × Operand) → Option Nat
  | [] => none
  | (_, x) :: r => match ev e x with | .bor (.slot j) => some j | _ => tellSlot ev e r
def tellK (A : Acc X) (e : TypeId) (l : List (Nat × Operand)) : Option (Option (Nat × X.U)) :=
  match tellSlot X A.ev e l with
  | some j => (A.own (.slot j)).map fun u => some (j, u)
  | none => some none
def toldEv (tl : Option (Nat × X.U)) (ev : TypeId → Operand → AV X.U) : TypeId → Operand → AV X.U :=
  match tl with
  | none => ev
  | some (j, u) => fun t x => match ev t x with | .bor (.slot i) => if i = j then .pv (.typ u) else .bor (.slot i) | v => v
def tellEff (tl : Option (Nat × X.U)) : Eff X.U := match tl with | none => .none | some (j, u) => .slot j (.pv (.typ u))
/-- The operations that make rows of one's own, write them, hand them on. -/
noncomputable def ownK (A : Acc X) (tk : Takes) (o : Oper) (K : AV X.U → Eff X.U → Option ρ) : Option ρ :=
  match o.op with
  | .assign (.tmp i) => match A.ev 0 (.tmp i) with
    | .bor (.slot j) => match A.own (.slot j) with | some u => K (.own u) (.slot j .undef) | none => none
    | .bor _ => none
    | v => K v .none
  | .assign x => if nilOwn tk o.dst then (match x with
      | .const (.slice none 0 0) => match X.nil o.type with | some u => K (.own u) .none | none => none
      | _ => none) else K (A.ev o.type x) .none
  | .store t a x => match A.ev 0 a, X.ty t, A.ev t x with
    | .eptr (.slot j) i sz, some ⟨_, n, _⟩, .pv v => match A.own (.slot j) with
      | some u => match X.view u with
        | .sl len _ => if i < len then (if (AV.pv v).plain && segsW X ((AV.pv v).segs X) == sz && n == sz && X.esz u == sz then (match X.set u i v with | some u' => K (.pv (.tup [])) (.slot j (.own u')) | none => none) else none) else none
        | _ => none
      | none => none
    | _, _, _ => none
  | .buildSlice t n parts => match X.ty t with
    | some ⟨.slice e, _, _⟩ => match tellK X A e parts.toList with
      | some tl => match X.ty e, X.zero e, litElems X (toldEv X tl A.ev) e 0 parts.toList with
        | some ⟨_, sz, _⟩, some _, some l => if l.length = n ∧ n * sz ≤ 4096 then match X.lit t l with
            | some u => if X.esz u = sz ∧ l.all (fun v => (AV.pv v).plain && segsW X ((AV.pv v).segs X) == sz) then K (.own u) (tellEff X tl) else none
            | none => none
          else none
        | _, _, _ => none
      | none => none
    | _ => none
  | .makeSlice t l c => match A.ev 3 l, A.ev 3 c, X.ty t with
    | .pv (.int _ n), .pv (.int _ n'), some ⟨.slice e, _, _⟩ => match X.ty e with
      | some ⟨_, 1, b⟩ => if 0 ≤ n ∧ n ≤ n' ∧ n' * (b : Int) ≤ 140737488355328 then (if 0 < b then (match X.zeros t n.toNat with | some u => if X.esz u = 1 ∧ zeroW X e = some 1 then K (.own u) .none else none | none => none) else none) else none
      | _ => none
    | _, _, _ => none
  | .convert src dst x => match X.ty src, X.ty dst, A.ev src x with
    | some ⟨.str, _, _⟩, some ⟨.slice e, _, _⟩, .pv (.str s) => match X.ty e, X.ofStr s with
      | some ⟨.int .u8, _, _⟩, some u => K (.own u) .none
      | _, _ => none
    | _, _, _ => none
  | .call { callee := .builtin .append, args, argTypes } => match args.toList, argTypes.toList with
    | [x, y], [t, t'] => match appBase X A t x with
      | some (u, ef) => match appMore X A t' y ef with
        | some v => match X.view u, X.view v, X.ty t with
          | .sl n _, .sl k _, some ⟨.slice e, _, _⟩ => match X.ty e with
            | some ⟨_, sz, b⟩ => if (n + k) * b ≤ 140737488355328 then (if 0 < b ∧ 0 < sz ∧ X.esz u = sz ∧ zeroW X e = some sz then (match X.app u v with | some z => K (.own z) ef | none => none) else none) else none
            | none => none
          | _, _, _ => none
        | none => none
      | none => none
    | _, _ => none
  | .call { callee := .builtin .copy, args, argTypes } => match args.toList, argTypes.toList with
    | [x, y], [t, t'] => match copyTo X A t x with
      | some (j, u, lo, n) => match sliceOf X A.own (A.ev t' y), X.ty t with
        | some v, some ⟨.slice e, _, _⟩ => match X.view u, X.view v, X.ty e with
          | .sl N _, .sl k _, some ⟨_, 1, _⟩ => if X.esz u = 1 ∧ X.esz v = 1 then (if lo + n ≤ N then match X.over u lo (min k n) v with | some u' => K (.pv (.int .i64 ((min k n : Nat) : Int))) (.slot j (.own u')) | none => none else none) else none
          | _, _, _ => none
        | _, _ => none
      | none => none
    | _, _ => none
  | _ => none
def isOwn (o : Oper) : Bool :=
  match o.op with
  | .assign _ | .buildSlice _ _ _ | .makeSlice _ _ _ | .call { callee := .builtin .append, .. } | .call { callee := .builtin .copy, .. } => true
  | .convert _ dst _ => match X.ty dst with | some ⟨.slice _, _, _⟩ => true | _ => false
  | _ => false

/-- A part of an array in a box gets a value. -/
def storeA (s : St X.U) (t : TypeId) (x : Operand) (id off i sz n : Nat) : Option (List (AV X.U)) :=
  match assoc s.hp id with
  | some c => match segAt X c off with
    | some (.pv (.typ u)) => match X.view u, s.ev t x with
      | .arr len _, .pv v => if i < len then (if i < X.lenA u then (if (X.esz u = sz ∧ n = sz) ∧ (AV.pv v).plain = true ∧ segsW X ((AV.pv v).segs X) = sz then (match X.setA u i v with
          | some u' => match putSpan X c off (X.width u) [.pv (.typ u')] with
            | some c2 => if c2.all AV.isPv then some c2 else none
            | none => none
          | none => none) else none) else none) else none
      | _, _ => none
    | _ => none
  | none => none
/-- The same, told on. -/
def storeK (s : St X.U) (t : TypeId) (x : Operand) (id off i sz n : Nat) (K : List (AV X.U) → Option ρ) : Option ρ :=
  match assoc s.hp id with
  | some c => match segAt X c off with
    | some (.pv (.typ u)) => match X.view u, s.ev t x with
      | .arr len _, .pv v => if i < len then (if i < X.lenA u then (if (X.esz u = sz ∧ n = sz) ∧ (AV.pv v).plain = true ∧ segsW X ((AV.pv v).segs X) = sz then (match X.setA u i v with
          | some u' => match putSpan X c off (X.width u) [.pv (.typ u')] with
            | some c2 => if c2.all AV.isPv then K c2 else none
            | none => none
          | none => none) else none) else none) else none
      | _, _ => none
    | _ => none
  | none => none
/-- A box is no one's any more. -/
def St.drop {U : Type} (s : St U) (id : Nat) : St U := { s with hp := s.hp.filter fun p => p.1 != id }
/-- What a function value bears: its boxes are told to all for good. -/
def freezeK (s : St X.U) : List (SV X.U) → Option (List (SV X.U) × St X.U)
  | [] => some ([], s)
  | .ptr id 0 :: r => match assoc s.hp id with
    | some [.pv v] => match freezeK (s.drop id) r with | some (l, s') => some (.ref v :: l, s') | none => none
    | _ => none
  | x :: r => match freezeK s r with | some (l, s') => some (x :: l, s') | none => none
/-- Whether a function value's boxes are told to all when it is made (no function has this number). -/
def frozen (tk : Takes) (d : Option Nat) : Bool := match d with | some d => (tk 1000002).contains d | none => false
/-- An argument as it is read; of some functions the constant nil as such. -/
def evA (s : St X.U) (q : Bool) (p : Operand × TypeId) : AV X.U :=
  match q, p.1 with
  | true, .const (.slice none 0 0) => .nil
  | _, _ => s.ev p.2 p.1
/-- One operation: its value, and what it leaves. -/
noncomputable def opK (G : Ans X ρ) (tk : Takes) (s : St X.U) (o : Oper) (K : AV X.U → St X.U → Option ρ) : Option ρ :=
  match o.op with
  | .alloc e => match o.dst, X.zero e, X.ty e with
    | some d, some z, some _ => K (.ptr d 0) (s.addBox d z)
    | _, _, _ => none
  | .box e x => match o.dst, X.ty e with
    | some d, some ⟨_, n, _⟩ => let v := s.ev e x
      if v.plain && !v.men d then (if segsW X (v.segs X) = n then K (.ptr d 0) (s.addBox d (v.segs X)) else none) else none
    | _, _ => none
  | .store t a x => match s.ev 0 a, X.ty t with
    | .ptr id off, some ⟨_, n, _⟩ => match assoc s.hp id with
      | some c => if (s.ev t x).plain then (match putSpan X c off n ((s.ev t x).segs X) with
          | some c2 => K (.pv (.tup [])) (s.setBox id c2)
          | none => none) else none
      | none => none
    | .eptr _ _ _, _ => ownK X ⟨s.ev, s.own, assoc s.hp⟩ tk o fun v e => K v (s.eff e)
    | .aptr id off i sz, some ⟨_, n, _⟩ => storeK X s t x id off i sz n fun c2 => K (.pv (.tup [])) (s.setBox id c2)
    | _, _ => none
  | .call { callee := .value x, args, argTypes } => match s.ev 0 x with
    | .fn f first caps => if args.size != argTypes.size then none else callX X G tk s f (first.map SV.av ++ ((args.toList.zip argTypes.toList).map (evA X s ((tk (3000000 + f)).contains 1))) ++ caps.map SV.av) K
    | _ => none
  | .move (.tmp i) => match s.look i with
    | .otup (some u) cs => K (.otup (some u) cs) (s.setSlot i .undef)
    | _ => valK X ⟨s.ev, s.own, assoc s.hp⟩ o fun v => K v s
  | .extract (.tmp i) 0 => match s.look i with
    | .otup (some u) cs => K (.own u) (s.setSlot i (.otup none cs))
    | _ => valK X ⟨s.ev, s.own, assoc s.hp⟩ o fun v => K v s
  | .makeFunc (.func f) first caps => bif frozen tk o.dst then (match toSVs (first.toList.map (s.ev 0)), toSVs (caps.toList.map (s.ev 0)) with
      | some a, some b => match freezeK X s b with | some (b', s') => K (.fn f a b') s' | none => K .undef s
      | _, _ => none)
    else valK X ⟨s.ev, s.own, assoc s.hp⟩ o fun v => K v s
  | _ => bif isOwn X o then ownK X ⟨s.ev, s.own, assoc s.hp⟩ tk o fun v e => K v (s.eff e) else valK X ⟨s.ev, s.own, assoc s.hp⟩ o fun v => K v s

/-- A slice compared with nil: its length; whether it is 'alike' that is asked. -/
def nilQ (s : St X.U) (o : Oper) : Option (Nat × Bool) :=
  match o.op with
  | .binOp .eql t x (.const (.slice none 0 0)) _ => match X.ty t, s.ev t x with
    | some ⟨.slice _, _, _⟩, .pv (.typ u) => match X.view u with | .sl n _ => some (n, true) | _ => none
    | _, _ => none
  | .binOp .neq t x (.const (.slice none 0 0)) _ => match X.ty t, s.ev t x with
    | some ⟨.slice _, _, _⟩, .pv (.typ u) => match X.view u with | .sl n _ => some (n, false) | _ => none
    | _, _ => none
  | _ => none
noncomputable def opT0 (G : Ans X ρ) (tk : Takes) (s : St X.U) (o : Oper) (K : AV X.U → St X.U → Option ρ) : Option ρ :=
  match nilQ X s o with
  | some (n, e) => nilT n fun b => K (.pv (.bool (bif e then b else !b))) s
  | none => opK X G tk s o K
/-- The row of one's own that an operation is handed as a part of a value: it is told to all. -/
def preTell (s : St X.U) (o : Oper) : Option (Option (Nat × X.U)) :=
  match o.op with
  | .build _ parts => tellK X ⟨s.ev, s.own, assoc s.hp⟩ 0 parts.toList
  | .store t a x => match s.ev 0 a with
    | .ptr _ _ => tellK X ⟨s.ev, s.own, assoc s.hp⟩ t [(0, x)]
    | _ => none
  | _ => none
/-- Who was lent a row has it told now. -/
def borTo (j : Nat) (u : X.U) : AV X.U → AV X.U
  | .bor (.slot k) => if k = j then .pv (.typ u) else .bor (.slot k)
  | v => v
def St.tellTo (s : St X.U) (j : Nat) (u : X.U) : St X.U := { s with env := (s.setSlot j (.pv (.typ u))).env.map fun p => (p.1, borTo X j u p.2) }
/-- A row of one's own that is stored into a box's cell that bore one: its slot, the box, the box's parts then. -/
def ownStore (s : St X.U) (o : Oper) : Option (Nat × Nat × List (AV X.U)) :=
  match o.op with
  | .store t a x => match s.ev 0 a, s.ev t x, X.ty t with
    | .ptr id off, .bor (.slot i), some ⟨_, 1, _⟩ => match s.look i, assoc s.hp id with
      | .own u, some c => match segAt X c off with
        | some (.own _) => (putSpan X c off 1 [.own u]).map fun c' => (i, id, c')
        | some .undef => (putSpan X c off 1 [.own u]).map fun c' => (i, id, c')
        | _ => none
      | _, _ => none
    | _, _, _ => none
  | _ => none
/-- A row of one's own that is appended to where it stands in a box's cell: it is taken out first. -/
def preTake (s : St X.U) (o : Oper) : Option (Nat × Nat × X.U × List (AV X.U)) :=
  match o.op with
  | .call { callee := .builtin .append, args, .. } => match args.toList with
    | .tmp i :: _ => match s.look i with
      | .bor (.cell id off) => match s.own (.cell id off), assoc s.hp id with
        | some u, some c => (putSpan X c off 1 [.undef]).map fun c' => (i, id, u, c')
        | _, _ => none
      | _ => none
    | _ => none
  | _ => none
/-- A zero that may own rows, built, and boxed. -/
def isOwnA {U : Type} : AV U → Bool
  | .own _ => true
  | _ => false
def zeroK (s : St X.U) (o : Oper) : Option (AV X.U × St X.U) :=
  match o.op with
  | .build t parts => match parts.toList, X.ty t, X.zero t with
    | [], some ⟨.struct _, _, _⟩, some z => if z.any isOwnA then some (.zer t, s) else none
    | _, _, _ => none
  | .box e x => match s.ev e x, o.dst, X.zero e with
    | .zer t, some d, some z => if t = e then some (.ptr d 0, s.addBox d z) else none
    | _, _, _ => none
  | _ => none
/-- A struct built of which the rows left out are nil for good, and its store into a box: the rows at some cells are the box's own (no function has these numbers). -/
def AV.nilOf (X : Univ) : AV X.U → AV X.U
  | .pv (.typ u) => match X.view u with | .sl 0 _ => .nil | _ => .pv (.typ u)
  | v => v
def toOpt {U : Type} : List (AV U) → Option (List (Option (PV U)))
  | [] => some []
  | .pv v :: r => (toOpt r).map (some v :: ·)
  | .nil :: r => (toOpt r).map (none :: ·)
  | _ :: _ => none
def nilBuild (tk : Takes) (s : St X.U) (o : Oper) : Option (AV X.U) :=
  match o.op, o.dst with
  | .build t parts, some d => if (tk 5000001).contains d then (match X.ty t, X.zero t with
      | some ⟨.struct _, _, _⟩, some z => match fillK X t s.ev parts.toList (z.map (AV.nilOf X)) with
        | some l => (toOpt l).map .zl
        | none => none
      | _, _ => none) else none
  | _, _ => none
def ownAt (offs : List Nat) : Nat → List (Option (PV X.U)) → List (AV X.U) → Option (List (AV X.U))
  | _, [], [] => some []
  | k, some v :: r, _ :: q => (ownAt offs (k + v.segW X) r q).map (.pv v :: ·)
  | k, none :: r, .pv (.typ u) :: q => match X.view u with
    | .sl 0 _ => (ownAt offs (k + 1) r q).map ((if offs.contains k then .own u else .pv (.typ u)) :: ·)
    | _ => none
  | _, _, _ => none
def nilStore (tk : Takes) (s : St X.U) (o : Oper) : Option (Nat × List (AV X.U)) :=
  match o.op with
  | .store t a x => match s.ev 0 a, s.ev t x, X.ty t, X.zero t with
    | .ptr id 0, .zl os, some ⟨_, n, _⟩, some z => match assoc s.hp id, ownAt X (tk 5000002) 0 os z with
      | some c, some c' => if c.all AV.isPv ∧ segsW X c = n ∧ segsW X c' = n then some (id, c') else none
      | _, _ => none
    | _, _, _, _ => none
  | _ => none
/-- A row of a box's own is told, where it stands: its slot, the box, the row, the box's parts without it, and with it told. -/
def cellTell (tk : Takes) (s : St X.U) (o : Oper) : Option (Nat × Nat × X.U × List (AV X.U) × List (AV X.U)) :=
  match o.op with
  | .call { callee := .builtin .len, args, .. } => match args.toList with
    | [.tmp i] => if (tk 5000003).contains i then (match s.look i with
      | .bor (.cell id off) => match s.own (.cell id off), assoc s.hp id with
        | some u, some c => match putSpan X c off 1 [.undef] with
          | some c1 => match putSpan X c1 off 1 [.pv (.typ u)] with
            | some c2 => if c2.all AV.isPv then some (i, id, u, c1, c2) else none
            | none => none
          | none => none
        | _, _ => none
      | _ => none) else none
    | _ => none
  | _ => none
/-- A box that holds a pointer to another one for good: it is told when it is made (no function has this number). -/
def rpBox (tk : Takes) (s : St X.U) (o : Oper) : Option Nat :=
  match o.op, o.dst with
  | .box e x, some d => if (tk 4000001).contains d then (match s.ev e x, X.ty e with | .ptr id 0, some ⟨_, 1, _⟩ => some id | _, _ => none) else none
  | _, _ => none
/-- A row that is told to all when it is made (no function has this number). -/
noncomputable def birth (tk : Takes) (s : St X.U) (o : Oper) : Option X.U :=
  match o.op, o.dst with
  | .buildSlice _ _ _, some d => if (tk 4000000).contains d then (match ownK X ⟨s.ev, s.own, assoc s.hp⟩ tk o (fun v e => some (v, e)) with | some (.own u, .none) => some u | _ => none) else none
  | _, _ => none
/-- A row of texts of which the first one is left out. -/
def holeK (s : St X.U) (o : Oper) : Option X.U :=
  match o.op with
  | .buildSlice t n parts => match X.ty t with
    | some ⟨.slice e, _, _⟩ => match X.ty e, X.zero e, litElems X s.ev e 1 parts.toList with
      | some ⟨_, 1, _⟩, some [.pv (.str z)], some l => if l.length + 1 = n ∧ n ≤ 4096 then (match X.lit t (.str z :: l) with
          | some u => if X.esz u = 1 ∧ l.all (fun v => (AV.pv v).plain && segsW X ((AV.pv v).segs X) == 1) then some u else none
          | none => none) else none
      | _, _, _ => none
    | _ => none
  | _ => none
noncomputable def preK (tk : Takes) (s : St X.U) (o : Oper) : Option (AV X.U × St X.U) :=
  match rpBox X tk s o with
  | some id => some (.rp id, s)
  | none => match birth X tk s o with
    | some u => some (.pv (.typ u), s)
    | none => match holeK X s o with
      | some u => some (.own u, s)
      | none => match nilBuild X tk s o with
        | some v => some (v, s)
        | none => match nilStore X tk s o with
          | some (id, c') => some (.pv (.tup []), s.setBox id c')
          | none => zeroK X s o
noncomputable def opT (G : Ans X ρ) (tk : Takes) (s : St X.U) (o : Oper) (K : AV X.U → St X.U → Option ρ) : Option ρ :=
  match preK X tk s o with
  | some (v, s') => K v s'
  | none =>
  match ownStore X s o with
  | some (i, id, c') => K (.pv (.tup [])) ((s.setSlot i .undef).setBox id c')
  | none => match cellTell X tk s o with
    | some (i, id, u, c1, c2) => opT0 X G tk ((((s.setBox id c1).put (some i) (.own u)).put (some i) (.pv (.typ u))).setBox id c2) o K
    | none => match preTake X s o with
    | some (i, id, u, c') => opT0 X G tk ((s.setBox id c').put (some i) (.own u)) o K
    | none => match preTell X s o with
      | some (some (j, u)) => opT0 X G tk (s.tellTo X j u) o K
      | _ => opT0 X G tk s o K

def guardSlot (ops : Array Oper) (j : Nat) : Option Nat := (ops[j]?).bind (·.dst)
def St.lit {U : Type} (s : St U) (d : Nat) (b : Bool) : St U := { s with env := assocSet s.env d (.pv (.bool b)) }

/-- Where a value goes. -/
def dstOk {U : Type} (N : Nat) (o : Oper) (v : AV U) : Bool :=
  match o.dst with
  | some d => decide (d < N) && !v.atSlot d
  | none => true
def skipAV (U : Type) : AV U := .pv (.tup [])

noncomputable def runK (G : Ans X ρ) (tk : Takes) (N : Nat) (ops : Array Oper) : List Oper → St X.U → (St X.U → Option ρ) → Option ρ
  | [], s, K => K s
  | o :: r, s, K =>
    let go (s : St X.U) : Option ρ := opT X G tk s o fun v s' => if dstOk N o v then runK G tk N ops r (s'.put o.dst v) K else none
    let skip (s : St X.U) : Option ρ := if dstOk N o (skipAV X.U) then runK G tk N ops r (s.put o.dst (skipAV X.U)) K else none
    match o.guard with
    | none => go s
    | some (j, want) => match guardSlot ops j with
      | some d => match s.look d with
        | .pv (.bool b) => bif b
            then (match want with | true => go (s.lit d true) | false => skip (s.lit d true))
            else (match want with | false => go (s.lit d false) | true => skip (s.lit d false))
        | .pv (.tup []) => skip s
        | _ => none
      | none => none

inductive Ex where
  | nxt | exit (id : Nat) | goto (l : Nat) | ret

abbrev Run (X : Univ) (ρ : Type) := St X.U → (Ex → St X.U → Option ρ) → Option ρ

/-- Of a function: what is live where a region begins, which callees take arguments over; what loops, what stands behind labels that are jumped back to, what stands behind joins answers. -/
structure Cfg (ρ : Type) where
  live : Nat → List Nat
  boxes : Nat → List Nat
  tk : Takes
  n : Nat
  labelR : Nat → Nat
  loops : Nat → Option (Run X ρ)
  labels : Nat → Option (Run X ρ)
  joins : Nat → Option (Run X ρ)
  xl : Nat → Ex → Option (List Nat × List Nat)

/-- The first region of a piece of code. -/
def firstR : Code → Option Nat
  | .region id _ _ => some id
  | .seq a _ => firstR a
  | .block _ b | .loop b | .scope b => firstR b
  | _ => none
def St.at {U : Type} (s : St U) (live boxes : Nat → List Nat) : Option Nat → St U
  | some id => s.keep (live id) (boxes id)
  | none => s

/-- What is kept where a summarised piece is left. -/
def nrm {U : Type} (xl : Nat → Ex → Option (List Nat × List Nat)) (id : Nat) (e : Ex) (s : St U) : St U :=
  match xl id e with
  | some (L, B) => s.keep L B
  | none => s
/-- An answer if a condition stands. -/
def chk (p : Prop) [Decidable p] (x : Option ρ) : Option ρ := if p then x else none
def nrmK (c : Cfg X ρ) (id : Nat) (K : Ex → St X.U → Option ρ) : Ex → St X.U → Option ρ := fun e s => K e (nrm c.xl id e s)

def iterK (nf : St X.U → St X.U) (f : Run X ρ) : Nat → Run X ρ
  | 0, _, _ => none
  | n + 1, s, K => f s fun e s' => match e with | .nxt => iterK nf f n (nf s') K | e => K e s'
/-- A scope: what stands behind a label, once it is jumped to; B: the labels that are jumped back to. -/
def hopK (J B : Nat → Option (Run X ρ)) : Nat → Run X ρ → Run X ρ
  | 0, _, _, _ => none
  | n + 1, f, s, K => f s fun e s' => match e with
    | .goto l => match B l with
      | some g => g s' K
      | none => match J l with | some g => hopK J B n g s' K | none => K (.goto l) s'
    | e => K e s'
def scopeN (nf : Nat → St X.U → St X.U) (J : Nat → Option (Run X ρ)) (back : Nat → Bool) : Nat → Run X ρ → Run X ρ
  | 0, _, _, _ => none
  | n + 1, f, s, K => hopK X J (fun l => if back l then (match J l with | some g => some fun s K => scopeN nf J back n g (nf l s) K | none => none) else none) 9 f s K

def zipI {α : Type} : Nat → List α → List (Nat × α)
  | _, [] => []
  | k, v :: r => (k, v) :: zipI (k + 1) r
/-! A region that draws its order. -/
def slotOf : Operand → List Nat
  | .tmp i => [i]
  | _ => []
/-- The slots that an operation looks at. -/
def needs (ops : Array Oper) (o : Oper) : List Nat :=
  (o.op.operands.toList.flatMap slotOf) ++ (match o.guard with | some (j, _) => (guardSlot ops j).toList | none => [])
/-- An edge that binds whatever order is drawn. -/
def edgeB (e : Edge) : Bool := match e.ground with | .textOnly _ | .gcOnly _ => false | _ => true
def edgeOk (e : Edge) (i : Nat) : Bool := !edgeB e || decide (e.on < i)
def dependsOn (o : Oper) (j : Nat) : Bool := o.after.toList.any fun e => e.on == j && edgeB e
/-- Whether the text's order is one of the orders. -/
def freeOf (ops : Array Oper) : Bool := (zipI 0 ops.toList).all fun p => p.2.after.toList.all fun e => edgeOk e p.1
/-- The operations that lay a box. -/
def allocs (ops : Array Oper) : List (Nat × Nat) :=
  (zipI 0 ops.toList).filterMap fun p => match p.2.op, p.2.dst with | .alloc _, some d => some (p.1, d) | .box _ _, some d => some (p.1, d) | _, _ => none

/-- A place: a slot, a box; what stands there. -/
inductive Loc where
  | slot (i : Nat)
  | cont (i : Nat)
  | box (id : Nat)
  deriving DecidableEq
inductive Cn (U : Type) where
  | av (v : AV U)
  | ow (n sz : Nat)
  | bx (c : Option (List (AV U)))
/-- Of a row of one's own its length and its elements' width; of all else the whole. -/
def hdr (X : Univ) : AV X.U → Cn X.U
  | .own u => match X.view u with | .sl n _ => .ow n (X.esz u) | _ => .av (.own u)
  | v => .av v
def Eff.W {U : Type} : Eff U → List (Loc × Cn U)
  | .none => []
  | .box id c _ => [(.box id, .bx (some c))]
  | .slot i (.own u) => [(.cont i, .av (.own u))]
  | .slot i v => [(.slot i, .av v), (.cont i, .av v)]
def AV.reads {U : Type} : AV U → List Nat
  | .ptr j _ | .aptr j _ _ _ => [j]
  | .fn _ fs cs => idsS fs ++ idsS cs
  | _ => []
def boxesOf {U : Type} (s : St U) (L : List Nat) : List Nat := L.flatMap fun i => (s.look i).reads
def St.sub {U : Type} (s : St U) (L : List Nat) : St U := { env := L.map fun i => (i, s.look i), hp := s.hp.filter fun p => (boxesOf s L).contains p.1 }
/-- The slots that a region's operations fill. -/
def dsts (ops : Array Oper) : List Nat := ops.toList.filterMap (·.dst)
/-- A value that points into no slot that is filled. -/
def AV.okAt {U : Type} (D : List Nat) (v : AV U) : Bool := match v.at? with | none => true | some (.slot j) => !D.contains j | some (.cell _ _) => false
/-- The slots into which values point. -/
def refs {U : Type} (s : St U) (L : List Nat) : List Nat := L.filterMap fun i => match (s.look i).at? with | some (.slot j) => some j | _ => none
/-- All slots that an operation looks at. -/
def need {U : Type} (s : St U) (ops : Array Oper) (o : Oper) : List Nat := needs ops o ++ refs s (needs ops o)
/-- Whether a box is not named there. -/
def cnFree {U : Type} (d : Nat) : Loc → Cn U → Bool
  | _, .av v => !v.men d
  | _, .ow _ _ => true
  | .box id, .bx (some c) => id != d && c.all fun v => !v.men d
  | _, .bx _ => true

noncomputable def callD (G : Ans X ρ) (tk : Takes) (s : St X.U) (f : FuncId) (args : List (AV X.U)) (K : AV X.U → Eff X.U → Option ρ) : Option ρ :=
  match argsK X s.own (tk f) 0 args with
  | some (as, ls) => if (idsL as).isEmpty && ls.all (fun p => !p.2 && (match p.1 with | .slot _ => true | _ => false)) then G f as [] fun v _ =>
      bif ls.isEmpty || v.flat then (match v with | .pv p => K (.pv p) .none | .own u => K (.own u) .none | _ => none) else none else none
  | _ => none
/-- A call that is handed one box. -/
noncomputable def callBD (G : Ans X ρ) (s : St X.U) (f : FuncId) (as : List (AV X.U)) (ls : List (Lc × Bool)) (K : AV X.U → Eff X.U → Option ρ) : Option ρ :=
  match ls, dedup (idsL as) [] with
  | [], [id] => match renL (placeIn [id] 1000) as, assoc s.hp id with
    | some as', some c => if c.all AV.isPv then G f as' [c] fun v bx' => (match bx' with
        | [c'] => if c'.all AV.isPv then (match v with
          | .pv p => K (.pv p) (.box id c' false)
          | .own u => K (.own u) (.box id c' false)
          | _ => none) else none
        | _ => none) else none
    | _, _ => none
  | _, _ => none
noncomputable def callXD (G : Ans X ρ) (tk : Takes) (s : St X.U) (f : FuncId) (args : List (AV X.U)) (K : AV X.U → Eff X.U → Option ρ) : Option ρ :=
  match argsK X s.own (tk f) 0 args with
  | some (as, ls) => bif (idsL as).isEmpty then callD X G tk s f args K else callBD X G s f as ls K
  | none => none
/-- What a value points into is there. -/
def St.seen (s : St X.U) (v : AV X.U) : Bool := match v.at? with | none => true | some l => (s.own l).isSome
noncomputable def dK (G : Ans X ρ) (tk : Takes) (D : List Nat) (s : St X.U) (o : Oper) (K : AV X.U → Eff X.U → Option ρ) : Option ρ :=
  match o.op with
  | .move (.tmp i) => bif D.contains i then (match s.look i with
      | .own u => K (.own u) (.slot i .undef)
      | _ => valK X ⟨s.ev, s.own, assoc s.hp⟩ o fun v => if s.seen X v then K v .none else none)
    else valK X ⟨s.ev, s.own, assoc s.hp⟩ o fun v => if s.seen X v then K v .none else none
  | .buildSlice _ _ _ => match birth X tk s o with
    | some u => K (.pv (.typ u)) .none
    | none => ownK X ⟨s.ev, s.own, assoc s.hp⟩ tk o K
  | .alloc e => match o.dst, X.zero e, X.ty e with
    | some d, some z, some _ => K (.ptr d 0) (.box d z true)
    | _, _, _ => none
  | .box e x => match o.dst, X.ty e with
    | some d, some ⟨_, n, _⟩ => if (s.ev e x).plain && !(s.ev e x).men d then (if segsW X ((s.ev e x).segs X) = n then K (.ptr d 0) (.box d ((s.ev e x).segs X) true) else none) else none
    | _, _ => none
  | .store t a x => match s.ev 0 a, X.ty t with
    | .ptr id off, some ⟨_, n, _⟩ => match assoc s.hp id with
      | some c => if (s.ev t x).plain then (match putSpan X c off n ((s.ev t x).segs X) with
          | some c2 => K (.pv (.tup [])) (.box id c2 false)
          | none => none) else none
      | none => none
    | .eptr _ _ _, _ => ownK X ⟨s.ev, s.own, assoc s.hp⟩ tk o K
    | .aptr id off i sz, some ⟨_, n, _⟩ => storeK X s t x id off i sz n fun c2 => K (.pv (.tup [])) (.box id c2 false)
    | _, _ => none
  | .call { callee := .value x, args, argTypes } => match s.ev 0 x with
    | .fn f first caps => if args.size != argTypes.size then none else callXD X G tk s f (first.map SV.av ++ ((args.toList.zip argTypes.toList).map fun p => s.ev p.2 p.1) ++ caps.map SV.av) K
    | _ => none
  | _ => bif isOwn X o then ownK X ⟨s.ev, s.own, assoc s.hp⟩ tk o K else valK X ⟨s.ev, s.own, assoc s.hp⟩ o fun v => if s.seen X v then K v .none else none
def dOk {U : Type} (N : Nat) (D : List Nat) (o : Oper) (v : AV U) : Bool := dstOk N o v && v.okAt D
def dstW (X : Univ) (o : Oper) (v : AV X.U) (e : Eff X.U) : List (Loc × Cn X.U) := (match o.dst with | some d => [(.slot d, hdr X v), (.cont d, .av v)] | none => []) ++ e.W
/-- Whether an operation looks at a row's length alone. -/
def isHd (o : Oper) : Bool := match o.op with | .move _ | .indexAddr _ _ _ | .nilCheck _ | .fieldAddr _ _ _ => true | _ => false
/-- Whether an operation looks at no box. -/
def isPt (o : Oper) : Bool := match o.op with | .indexAddr _ _ _ => false | _ => isHd o
/-- The same in a region that fills these slots: a row that is moved out of one of them is taken along. -/
def hdOf (D : List Nat) (o : Oper) : Bool := isHd o && !(match o.op with | .move (.tmp i) => D.contains i | _ => false)
def ptOf (D : List Nat) (o : Oper) : Bool := isPt o && hdOf D o
def rdOf (s : St X.U) (ops : Array Oper) (o : Oper) : List Loc := (need s ops o).map .slot ++ ((bif hdOf (dsts ops) o then [] else (need s ops o).map .cont) ++ (bif ptOf (dsts ops) o then [] else (boxesOf s (need s ops o)).map .box))
/-- What the operations did before: number, places looked at, places changed. -/
abbrev Past := List (Nat × List Loc × List Loc)
def okD (ops : Array Oper) (k : Nat) (o : Oper) (rd : List Loc) (w : List (Loc × Cn X.U)) (past : Past) : Bool :=
  (past.all fun p => dependsOn o p.1 || (p.2.2.all (fun l => !rd.contains l && !(w.map (·.1)).contains l) && p.2.1.all fun l => !(w.map (·.1)).contains l)) &&
  (allocs ops).all fun p => p.1 == k || dependsOn o p.1 || w.all fun q => cnFree p.2 q.1 q.2
noncomputable def runD (G : Ans X ρ) (tk : Takes) (N : Nat) (ops : Array Oper) : Nat → Past → List Oper → St X.U → (St X.U → Option ρ) → Option ρ
  | _, _, [], s, K => K s
  | k, past, o :: r, s, K =>
    let next (s : St X.U) (v : AV X.U) (e : Eff X.U) : Option ρ :=
      if dOk N (dsts ops) o v && okD X ops k o (rdOf X s ops o) (dstW X o v e) past then runD G tk N ops (k + 1) ((k, rdOf X s ops o, (dstW X o v e).map (·.1)) :: past) r ((s.eff e).put o.dst v) K else none
    let go (s : St X.U) : Option ρ := dK X G tk (dsts ops) (s.sub (need s ops o)) o (next s)
    let skip (s : St X.U) : Option ρ := next s (skipAV X.U) .none
    match o.guard with
    | none => go s
    | some (j, want) => match guardSlot ops j with
      | some d => match s.look d with
        | .pv (.bool b) => bif b
            then (match want with | true => go (s.lit d true) | false => skip (s.lit d true))
            else (match want with | false => go (s.lit d false) | true => skip (s.lit d false))
        | .pv (.tup []) => skip s
        | _ => none
      | none => none
def noAt {U : Type} (D : List Nat) (s : St U) : Bool := s.env.all fun p => p.2.okAt D
/-- Whether a region that draws its order may be begun. -/
def drawOk {U : Type} (ops : Array Oper) (s : St U) : Bool :=
  freeOf ops && noAt (dsts ops) s && (allocs ops).all fun p => (s.env.all fun q => cnFree p.2 (.slot q.1) (.av q.2)) && s.hp.all fun q => cnFree p.2 (.box q.1) (.bx (some q.2))

/-- What stands behind a join: by its summary, if there is one. -/
def joinK (c : Cfg X ρ) (f : Run X ρ) (id : Option Nat) : Run X ρ := fun s K =>
  match id with
  | some id => match c.joins id with
    | some g => g s K
    | none => f s K
  | none => f s K

mutual
noncomputable def exec (c : Cfg X ρ) (G : Ans X ρ) : Code → Run X ρ
  | .skip, s, K => K .nxt s
  | .label _, s, K => K .nxt s
  | .region id ops draw, s, K => match draw with
    | false => runK X G c.tk c.n ops ops.toList (s.keep (c.live id) (c.boxes id)) fun s' => K .nxt s'
    | true => match turnAll X (s.keep (c.live id) (c.boxes id)) ((c.tk (2000000 + id)).map fun i => (Lc.slot i, false)) true with
      | some s1 => if drawOk ops s1 then runD X G c.tk c.n ops 0 [] ops.toList s1 fun s' => K .nxt s' else none
      | none => none
  | .seq a b, s, K => exec c G a s fun e s' => match e with
    | .nxt => joinK X c (exec c G b) (firstR b) (s'.at c.live c.boxes (firstR b)) K
    | e => K e s'
  | .cond x a b, s, K => match s.ev 4 x with
    | .pv (.bool t) => match x with
      | .tmp i => bif t then joinK X c (exec c G a) (firstR a) ((s.lit i true).at c.live c.boxes (firstR a)) K else joinK X c (exec c G b) (firstR b) ((s.lit i false).at c.live c.boxes (firstR b)) K
      | _ => bif t then joinK X c (exec c G a) (firstR a) (s.at c.live c.boxes (firstR a)) K else joinK X c (exec c G b) (firstR b) (s.at c.live c.boxes (firstR b)) K
    | _ => none
  | .block id b, s, K => exec c G b s fun e s' => match e with | .exit i => if i = id then K .nxt s' else K (.exit i) s' | e => K e s'
  | .loop b, s, K => match firstR b with
    | some id => match c.loops id with
      | some g => g (s.at c.live c.boxes (some id)) K
      | none => none
    | none => none
  | .scope b, s, K => hopK X (suff c G b) (fun l => match suff c G b l, c.labels l with | some _, some g => some fun s K => g (s.at c.live c.boxes (some (c.labelR l))) K | _, _ => none) 9 (exec c G b) s K
  | .exit i, s, K => K (.exit i) s
  | .goto l, s, K => K (.goto l) s
  | .ret, s, K => K .ret s
  | _, _, _ => none
/-- From what stands behind a label on. -/
noncomputable def suff (c : Cfg X ρ) (G : Ans X ρ) : Code → Nat → Option (Run X ρ)
  | .seq a b, l => match suff c G a l with
    | some f => some fun s K => f s fun e s' => match e with
      | .nxt => joinK X c (exec c G b) (firstR b) (s'.at c.live c.boxes (firstR b)) K
      | e => K e s'
    | none => suff c G b l
  | .label l', l => if l' = l then some fun s K => K .nxt s else none
  | _, _ => none
end

def told (X : Univ) : AV X.U → AV X.U
  | .own u => .pv (.typ u)
  | v => v
def resOne (s : St X.U) : ResultVar → Option (AV X.U)
  | .tmp t => match s.look t with
    | .pv p => some (.pv p)
    | .own u => some (.own u)
    | _ => none
  | .cell a t => match s.look a with
    | .ptr id off => match assoc s.hp id with
      | some c => match isAggT X t with
        | some (true, n) => (spanAt X c off n).bind (mkAgg X t)
        | some (false, _) => (match segAt X c off with
          | some (.pv p) => if scalar X (.pv p) then some (.pv p) else none
          | _ => none)
        | none => none
      | none => none
    | _ => none
def resK (s : St X.U) : List ResultVar → Option (List (AV X.U))
  | [] => some []
  | x :: r => match resOne X s x, resK s r with
    | some v, some l => some (v :: l)
    | _, _ => none
def backBoxes (s : St X.U) : Nat → Nat → Option (List (List (AV X.U)))
  | _, 0 => some []
  | k, n + 1 => match assoc s.hp k, backBoxes s (k + 1) n with | some c, some r => some (c :: r) | _, _ => none
/-- Several results, of which the first one is a row that one owns. -/
def tupOf : List (AV X.U) → Option (AV X.U)
  | .own u :: l => (pvs l).map fun cs => .otup (some u) cs
  | _ => none
/-- A function's answer. -/
noncomputable def bodyK (c : Cfg X ρ) (G : Ans X ρ) (fn : Func) (args : List (AV X.U)) (bx : List (List (AV X.U))) (K : AV X.U → List (List (AV X.U)) → Option ρ) : Option ρ :=
  match fn.body with
  | some code => exec X c G code { env := zipI 0 args, hp := zipI 1000 bx } fun e s =>
    let fin : Option ρ := match resK X s fn.results.toList, backBoxes X s 1000 bx.length with
      | some [v], some b => K v b
      | some l, some b => match (if (c.tk 1000001).isEmpty then none else tupOf X l) with
        | some v => K v b
        | none => (match mkTup X (l.map (told X)) with | some v => K v b | none => none)
      | _, _ => none
    match e with | .nxt | .ret => fin | _ => none
  | none => none
end ops2
end Go.AX
