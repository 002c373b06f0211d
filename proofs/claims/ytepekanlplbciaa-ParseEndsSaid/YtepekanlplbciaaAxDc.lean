/-
  How states, arguments and answers are read and written: one reading beside its writing, put together of small ones; a function's contract out of its pieces.
-/
import Derived.Test.YtepekanlplbciaaAxGen
namespace Go.AX
open Go
variable {X : Univ} {P : Program} {ρ : Type}

/-- How something of σ is read as an α, and how it is written. -/
structure Dc (σ α : Type) : Type 1 where
  enc : α → σ
  dec : {ρ : Type} → σ → (α → Option ρ) → Option ρ
  inv : ∀ {ρ : Type} (s : σ) (K : α → Option ρ) (r : ρ), dec s K = some r → ∃ a, s = enc a ∧ K a = some r
def unpv {U : Type} : List (AV U) → Option (List (PV U))
  | [] => some []
  | .pv v :: r => (unpv r).map (v :: ·)
  | _ :: _ => none
theorem pvs_eq {U : Type} : ∀ {l : List (AV U)} {q : List (PV U)}, unpv l = some q → l = q.map .pv
  | [], q, h => by cases h; rfl
  | v :: r, q, h => by
    cases v with
    | pv v =>
      simp only [unpv] at h
      cases hr : unpv r with
      | none => rw [hr] at h; cases h
      | some t => rw [hr] at h; cases h; rw [pvs_eq hr]; rfl
    | _ => cases h
namespace Dc
variable {σ τ α β : Type} {U : Type}
def map (d : Dc σ α) (f : α → β) (g : β → α) (h : ∀ a, g (f a) = a) : Dc σ β where
  enc b := d.enc (g b)
  dec s K := d.dec s fun a => K (f a)
  inv s K r e := by obtain ⟨a, rfl, e1⟩ := d.inv s _ r e; exact ⟨f a, by rw [h], e1⟩
def nil : Dc (List σ) Unit where
  enc _ := []
  dec s K := match s with | [] => K () | _ => none
  inv s K r e := by
    cases s with
    | nil => exact ⟨(), rfl, e⟩
    | cons => cases e
def cons (d : Dc σ α) (q : Dc (List σ) β) : Dc (List σ) (α × β) where
  enc v := d.enc v.1 :: q.enc v.2
  dec s K := match s with | x :: s => d.dec x fun a => q.dec s fun b => K (a, b) | [] => none
  inv s K r e := by
    cases s with
    | nil => cases e
    | cons x s =>
      obtain ⟨a, rfl, e2⟩ := d.inv x _ r e
      obtain ⟨b, rfl, e3⟩ := q.inv s _ r e2
      exact ⟨(a, b), rfl, e3⟩
def cons0 (d : Dc σ Unit) (q : Dc (List σ) β) : Dc (List σ) β := (cons d q).map (·.2) (fun b => ((), b)) fun _ => rfl
def last (d : Dc σ α) : Dc (List σ) α := (cons d nil).map (·.1) (fun a => (a, ())) fun _ => rfl
/-- A row with numbers. -/
def at_ (i : Nat) (d : Dc σ α) (q : Dc (List (Nat × σ)) β) : Dc (List (Nat × σ)) (α × β) where
  enc v := (i, d.enc v.1) :: q.enc v.2
  dec s K := match s with | (j, x) :: s => if j = i then d.dec x fun a => q.dec s fun b => K (a, b) else none | [] => none
  inv s K r e := by
    cases s with
    | nil => cases e
    | cons x s =>
      obtain ⟨j, x⟩ := x
      simp only at e
      split at e
      · rename_i hj; subst hj
        obtain ⟨a, rfl, e4⟩ := d.inv x _ r e
        obtain ⟨b, rfl, e5⟩ := q.inv s _ r e4
        exact ⟨(a, b), rfl, e5⟩
      · cases e
def at0 (i : Nat) (d : Dc σ Unit) (q : Dc (List (Nat × σ)) β) : Dc (List (Nat × σ)) β := (at_ i d q).map (·.2) (fun b => ((), b)) fun _ => rfl
def st (e : Dc (List (Nat × AV U)) α) (h : Dc (List (Nat × List (AV U))) β) : Dc (St U) (α × β) where
  enc v := ⟨e.enc v.1, h.enc v.2⟩
  dec s K := e.dec s.env fun a => h.dec s.hp fun b => K (a, b)
  inv s K r k := by
    obtain ⟨env, hp⟩ := s
    obtain ⟨a, rfl, k6⟩ := e.inv _ _ r k
    obtain ⟨b, rfl, k7⟩ := h.inv _ _ r k6
    exact ⟨(a, b), rfl, k7⟩
def two (d : Dc σ α) (q : Dc τ β) : Dc (σ × τ) (α × β) where
  enc v := (d.enc v.1, q.enc v.2)
  dec s K := d.dec s.1 fun a => q.dec s.2 fun b => K (a, b)
  inv s K r k := by
    obtain ⟨x, y⟩ := s
    obtain ⟨a, rfl, k8⟩ := d.inv _ _ r k
    obtain ⟨b, rfl, k9⟩ := q.inv _ _ r k8
    exact ⟨(a, b), rfl, k9⟩
def one (d : Dc σ α) : Dc (σ × List τ) α := (two d nil).map (·.1) (fun a => (a, ())) fun _ => rfl
/-- What is read as an α. -/
abbrev T {σ α : Type} (_ : Dc σ α) : Type := α
def const (x : σ) : Dc σ Unit where
  enc _ := x
  dec _ _ := none
  inv s K r e := by cases e
/-! plain values -/
def i (k : IntKind) : Dc (PV U) Int where
  enc n := .int k n
  dec s K := asI k (.pv s) K
  inv s K r e := by obtain ⟨n, h, e10⟩ := asI_inv e; cases h; exact ⟨n, rfl, e10⟩
def b : Dc (PV U) Bool where
  enc n := .bool n
  dec s K := asB (.pv s) K
  inv s K r e := by obtain ⟨n, h, e11⟩ := asB_inv e; cases h; exact ⟨n, rfl, e11⟩
def s : Dc (PV U) ByteArray where
  enc n := .str n
  dec s K := asS (.pv s) K
  inv s K r e := by obtain ⟨n, h, e12⟩ := asS_inv e; cases h; exact ⟨n, rfl, e12⟩
def typ (C : α → U) (D : {ρ : Type} → U → (α → Option ρ) → Option ρ) (h : ∀ {ρ : Type} (u : U) (K : α → Option ρ) (r : ρ), D u K = some r → ∃ a, u = C a ∧ K a = some r) : Dc (PV U) α where
  enc a := .typ (C a)
  dec v K := match v with | .typ u => D u K | _ => none
  inv v K r e := by
    cases v with
    | typ u => obtain ⟨a, rfl, e13⟩ := h u K r e; exact ⟨a, rfl, e13⟩
    | _ => cases e
def tup (q : Dc (List (PV U)) α) : Dc (PV U) α where
  enc a := .tup (q.enc a)
  dec v K := match v with | .tup l => q.dec l K | _ => none
  inv v K r e := by
    cases v with
    | tup u => obtain ⟨a, rfl, e14⟩ := q.inv u K r e; exact ⟨a, rfl, e14⟩
    | _ => cases e
/-! what a slot holds -/
def pv (d : Dc (PV U) α) : Dc (AV U) α where
  enc a := .pv (d.enc a)
  dec v K := match v with | .pv u => d.dec u K | _ => none
  inv v K r e := by
    cases v with
    | pv u => obtain ⟨a, rfl, e15⟩ := d.inv u K r e; exact ⟨a, rfl, e15⟩
    | _ => cases e
/-- A box's parts, all told. -/
def cells (d : Dc (List (PV U)) α) : Dc (List (AV U)) α where
  enc a := (d.enc a).map .pv
  dec s K := match unpv s with | some l => d.dec l K | none => none
  inv v K r e := by
    cases hv : unpv v with
    | none => simp only [hv] at e; cases e
    | some l =>
      simp only [hv] at e
      obtain ⟨a, rfl, e1⟩ := d.inv l K r e
      exact ⟨a, pvs_eq hv, e1⟩
def ref (d : Dc (PV U) α) : Dc (AV U) α where
  enc a := .ref (d.enc a)
  dec v K := match v with | .ref u => d.dec u K | _ => none
  inv v K r e := by
    cases v with
    | ref u => obtain ⟨a, rfl, e16⟩ := d.inv u K r e; exact ⟨a, rfl, e16⟩
    | _ => cases e
/-- A row of one's own: as its typed value, told, is read. -/
def own (C : α → U) (D : {ρ : Type} → U → (α → Option ρ) → Option ρ) (h : ∀ {ρ : Type} (u : U) (K : α → Option ρ) (r : ρ), D u K = some r → ∃ a, u = C a ∧ K a = some r) : Dc (AV U) α where
  enc a := .own (C a)
  dec v K := match v with | .own u => D u K | _ => none
  inv v K r e := by
    cases v with
    | own u => obtain ⟨a, rfl, e17⟩ := h u K r e; exact ⟨a, rfl, e17⟩
    | _ => cases e
def otup (C : α → U) (D : {ρ : Type} → U → (α → Option ρ) → Option ρ) (h : ∀ {ρ : Type} (u : U) (K : α → Option ρ) (r : ρ), D u K = some r → ∃ a, u = C a ∧ K a = some r) (q : Dc (List (PV U)) β) : Dc (AV U) (α × β) where
  enc a := .otup (some (C a.1)) (q.enc a.2)
  dec v K := match v with | .otup (some u) l => D u fun a => q.dec l fun b => K (a, b) | _ => none
  inv v K r e := by
    cases v with
    | otup o l =>
      cases o with
      | none => cases e
      | some u =>
        obtain ⟨a, rfl, e18⟩ := h u _ r e
        obtain ⟨b, rfl, e19⟩ := q.inv l _ r e18
        exact ⟨(a, b), rfl, e19⟩
    | _ => cases e
def otup0 (q : Dc (List (PV U)) β) : Dc (AV U) β where
  enc a := .otup none (q.enc a)
  dec v K := match v with | .otup none l => q.dec l K | _ => none
  inv v K r e := by
    cases v with
    | otup o l =>
      cases o with
      | none => obtain ⟨b, rfl, e20⟩ := q.inv l _ r e; exact ⟨b, rfl, e20⟩
      | some u => cases e
    | _ => cases e
def p (i o : Nat) : Dc (AV U) Unit where
  enc _ := .ptr i o
  dec v K := asP i o v (K ())
  inv v K r e := by obtain ⟨h, e21⟩ := asP_inv e; exact ⟨(), h, e21⟩
def rp (i : Nat) : Dc (AV U) Unit where
  enc _ := .rp i
  dec v K := asRp i v (K ())
  inv v K r e := by obtain ⟨h, e22⟩ := asRp_inv e; exact ⟨(), h, e22⟩
def l (i : Nat) : Dc (AV U) Unit where
  enc _ := .bor (.slot i)
  dec v K := asL i v (K ())
  inv v K r e := by obtain ⟨h, e23⟩ := asL_inv e; exact ⟨(), h, e23⟩
def nl : Dc (AV U) Unit where
  enc _ := .nil
  dec v K := asNil v (K ())
  inv v K r e := by obtain ⟨h, e24⟩ := asNil_inv e; exact ⟨(), h, e24⟩
def un : Dc (AV U) Unit where
  enc _ := .undef
  dec v K := asUn v (K ())
  inv v K r e := by obtain ⟨h, e25⟩ := asUn_inv e; exact ⟨(), h, e25⟩
def sp (i o : Nat) : Dc (SV U) Unit where
  enc _ := .ptr i o
  dec v K := asSP i o v (K ())
  inv v K r e := by obtain ⟨h, e26⟩ := asSP_inv e; exact ⟨(), h, e26⟩
def srp (i : Nat) : Dc (SV U) Unit where
  enc _ := .rp i
  dec v K := asSRp i v (K ())
  inv v K r e := by obtain ⟨h, e27⟩ := asSRp_inv e; exact ⟨(), h, e27⟩
def sref (d : Dc (PV U) α) : Dc (SV U) α where
  enc a := .ref (d.enc a)
  dec v K := match v with | .ref u => d.dec u K | _ => none
  inv v K r e := by
    cases v with
    | ref u => obtain ⟨a, rfl, e28⟩ := d.inv u K r e; exact ⟨a, rfl, e28⟩
    | _ => cases e
def fn (f : FuncId) (a : Dc (List (SV U)) α) (b : Dc (List (SV U)) β) : Dc (AV U) (α × β) where
  enc v := .fn f (a.enc v.1) (b.enc v.2)
  dec v K := asF f v fun x y => a.dec x fun p => b.dec y fun q => K (p, q)
  inv v K r e := by
    obtain ⟨x, y, rfl, e29⟩ := asF_inv e
    obtain ⟨p, rfl, e30⟩ := a.inv _ _ r e29
    obtain ⟨q, rfl, e31⟩ := b.inv _ _ r e30
    exact ⟨(p, q), rfl, e31⟩
end Dc

/-! A function's pieces. -/
def runD_ (ρ : Type) {V : Type} (d : Dc (St X.U) V) (L : (Ex → St X.U → Option ρ) → V → Option ρ) : Run X ρ := fun s K => d.dec s (L K)
theorem iterD {V : Type} {c : Cfg X ρ} {G : Ans X ρ} {b : Code} {id k : Nat} (d : Dc (St X.U) V) (L : (Ex → St X.U → Option ρ) → Nat → V → Option ρ) (B : (Ex → St X.U → Option ρ) → (V → Option ρ) → V → Option ρ)
    (hb : ∀ K n v, iterK X (fun s => s.at c.live c.boxes (some id)) (exec X c G b) (n + 1) (d.enc v) (nrmK X c id K) = B K (fun v' => iterK X (fun s => s.at c.live c.boxes (some id)) (exec X c G b) n (d.enc v') (nrmK X c id K)) v)
    (h0 : ∀ K v, L K 0 v = none) (hs : ∀ K n v, L K (n + 1) v = B K (L K n) v) : IterOK X c G b id (runD_ ρ d fun K => L K k) := by
  intro s K r h
  obtain ⟨v, rfl, h2⟩ := d.inv s _ r h
  exact ⟨k, (iter_rec (X := X) d.enc (B K) (L K) (hb K) (h0 K) (hs K) k v).trans h2⟩
theorem joinD {V : Type} {c : Cfg X ρ} {G : Ans X ρ} {b : Code} {id : Nat} (d : Dc (St X.U) V) (L : (Ex → St X.U → Option ρ) → V → Option ρ)
    (hb : ∀ K v, exec X c G b (d.enc v) (nrmK X c id K) = L K v) : JoinOK X c G b id (runD_ ρ d L) := by
  intro s K r h
  obtain ⟨v, rfl, h2⟩ := d.inv s _ r h
  exact (hb K v).trans h2
theorem labD {V : Type} {c : Cfg X ρ} {G : Ans X ρ} {b : Code} {l k : Nat} (d : Dc (St X.U) V) (L : (Ex → St X.U → Option ρ) → Nat → V → Option ρ) (B : (Ex → St X.U → Option ρ) → (V → Option ρ) → V → Option ρ)
    (hb : ∀ K n v, scopeN X (fun l s => s.at c.live c.boxes (some (c.labelR l))) (suff X c G b) (fun l => (c.labels l).isSome) (n + 1) ((suff X c G b l).getD fun _ _ => none) (d.enc v) (nrmK X c (c.labelR l) K) =
      B K (fun v' => scopeN X (fun l s => s.at c.live c.boxes (some (c.labelR l))) (suff X c G b) (fun l => (c.labels l).isSome) n ((suff X c G b l).getD fun _ _ => none) (d.enc v') (nrmK X c (c.labelR l) K)) v)
    (h0 : ∀ K v, L K 0 v = none) (hs : ∀ K n v, L K (n + 1) v = B K (L K n) v) : LabOK X c G b l (runD_ ρ d fun K => L K k) := by
  intro f hf s K r h
  obtain ⟨v, rfl, h2⟩ := d.inv s _ r h
  have e : (suff X c G b l).getD (fun _ _ => none) = f := by rw [hf]; rfl
  refine ⟨k, ?_⟩
  rw [← e]
  exact (scope_rec (X := X) (fun _ => (suff X c G b l).getD fun _ _ => none) d.enc (B K) (L K) (hb K) (h0 K) (hs K) k v).trans h2
theorem labNo {c : Cfg X ρ} {G : Ans X ρ} {b : Code} {l : Nat} {g : Run X ρ} (h : suff X c G b l = none) : LabOK X c G b l g := fun f hf => by rw [h] at hf; cases hf

/-- What is known of a function while it is walked. -/
def cfgOf (X : Univ) (ρ : Type) (n : Nat) (live boxes : List (Nat × List Nat)) (tk : List (Nat × List Nat) := []) (loops : List (Nat × Run X ρ) := []) (joins : List (Nat × Run X ρ) := []) (labels : List (Nat × Run X ρ) := []) (labelR : List (Nat × Nat) := [])
    (xn xr : List (Nat × List Nat × List Nat) := []) (xe xg : List (Nat × List (Nat × List Nat × List Nat)) := []) : Cfg X ρ where
  live i := (assoc live i).getD []
  boxes i := (assoc boxes i).getD []
  tk i := (assoc tk i).getD []
  n := n
  labelR l := (assoc labelR l).getD 0
  loops := assoc loops
  labels := assoc labels
  joins := assoc joins
  xl i e := match e with
    | .nxt => assoc xn i
    | .ret => assoc xr i
    | .exit j => (assoc xe i).bind fun l => assoc l j
    | .goto j => (assoc xg i).bind fun l => assoc l j

/-! Contracts. -/
section
variable {A B R : Type}
/-- A function's contract: what it answers to what it is handed. -/
def ConD (P : Program) (f : FuncId) (da : Dc (List (AV X.U)) A) (db : Dc (List (List (AV X.U))) B) (dr : Dc (AV X.U × List (List (AV X.U))) R) (F : A → B → Option R) : Prop :=
  ∀ a b r, F a b = some r → Con P f (da.enc a) (db.enc b) (dr.enc r).1 (dr.enc r).2
theorem ConD.zero {f : FuncId} {da : Dc (List (AV X.U)) A} {db : Dc (List (List (AV X.U))) B} {dr : Dc (AV X.U × List (List (AV X.U))) R} : ConD P f da db dr (fun _ _ => none) := fun _ _ _ h => by cases h
/-- A callee's answers. -/
abbrev AP (X : Univ) (P : Program) (ρ : Type) (f : FuncId) := {an : An X ρ // AnsOK P f an}
abbrev GP (X : Univ) (P : Program) (ρ : Type) := {G : Ans X ρ // GOK P G}
def bodyOf (fn : Func) : Code := match fn.body with | some c => c | none => .skip
/-- A function that is there, with a body. -/
def hasB (fn : Func) : Bool := fn.body.isSome && !(fn.name == "runtime.NumGoroutine")
theorem hasB_of {fn : Func} (h : hasB fn = true) : fn.body = some (bodyOf fn) ∧ (fn.name == "runtime.NumGoroutine") = false := by
  unfold hasB at h
  rw [Bool.and_eq_true, Bool.not_eq_true'] at h
  refine ⟨?_, h.2⟩
  unfold bodyOf
  cases hb : fn.body with
  | none => rw [hb] at h; simp at h
  | some c => rfl
def apD {f : FuncId} {fn : Func} (hf : P.funcs[f]? = some fn) (hb : hasB fn = true) (da : Dc (List (AV X.U)) A) (db : Dc (List (List (AV X.U))) B) (dr : Dc (AV X.U × List (List (AV X.U))) R) (F : A → B → Option R) (hc : ConD P f da db dr F) : AP X P ρ f :=
  ⟨fun args bx K => da.dec args fun a => db.dec bx fun b => (F a b).bind fun r => K (dr.enc r).1 (dr.enc r).2, by
    intro args bx K r h
    obtain ⟨a, rfl, h1⟩ := da.inv _ _ r h
    obtain ⟨b, rfl, h2⟩ := db.inv _ _ r h1
    obtain ⟨x, hx, h3⟩ := bind_inv h2
    exact ⟨there_of hf (hasB_of hb).2 (hasB_of hb).1, _, _, h3, hc a b x hx⟩⟩
def gN : GP X P ρ := ⟨gnil, gok_nil⟩
def gC (f : FuncId) (a : AP X P ρ f) (g : GP X P ρ) : GP X P ρ := ⟨gk f a.1 g.1, gok_cons a.2 g.2⟩
def gS {f : FuncId} (m : List Nat) (a b : AP X P ρ f) : AP X P ρ f := ⟨gsel m a.1 b.1, gsel_ok a.2 b.2⟩
theorem cok0 {c : Cfg X ρ} {G : Ans X ρ} {code : Code} (el : c.loops = assoc []) (ej : c.joins = assoc []) (eb : c.labels = assoc []) : COK c G code where
  loops b hb id g hf hl := by rw [el] at hl; cases hl
  joins b hb id g hf hl := by rw [ej] at hl; cases hl
  labels b hb l f g hs hl := by rw [eb] at hl; cases hl
/-- What the kernel finds of a function's sizes. -/
def sizesB (fn : Func) (na : Nat) : Bool := decide (na ≤ fn.ntmps) && decide (fn.ntmps ≤ 1000)
theorem conD (hX : XOK X) (hT : TOK P X) {f : FuncId} {fn : Func} (hf : P.funcs[f]? = some fn) (hb : hasB fn = true) {g : GP X P R} {c : Cfg X R} (hN : c.n = fn.ntmps) (hC : COK c g.1 (bodyOf fn))
    {da : Dc (List (AV X.U)) A} {db : Dc (List (List (AV X.U))) B} {dr : Dc (AV X.U × List (List (AV X.U))) R} {F : A → B → Option R} (hs : ∀ a, sizesB fn (da.enc a).length = true)
    (h : ∀ a b, bodyK X c g.1 fn (da.enc a) (db.enc b) (fun v q => dr.dec (v, q) some) = F a b) : ConD P f da db dr F := by
  intro a b r hr
  have h1 := hs a
  unfold sizesB at h1
  rw [Bool.and_eq_true, decide_eq_true_eq, decide_eq_true_eq] at h1
  exact con_of_bodyB hX hT hf (hasB_of hb).1 g.2 hN hC h1.1 (.inr h1.2) (enc := fun r => (dr.enc r).1) (encb := fun r => (dr.enc r).2) (fun v q r _ hd => by
    obtain ⟨x, hx, hd⟩ := dr.inv _ _ r hd
    cases hd
    rw [← hx]; exact ⟨rfl, rfl⟩) ((h a b).trans hr)
end
end Go.AX
