/-
  What the printed functions stand on: states taken apart, callees' answers side by side, a function's pieces one by one, the tables of types.
-/
import Derived.Test.YtepekanlplbciaaAxBody
import Derived.KernelRfl
import Derived.Laws.Strings
namespace Go.AX
open Go
variable {X : Univ} {P : Program} {ρ : Type} {N : Nat}

/-! States and arguments taken apart. -/
section
variable {U : Type}
def popS (i : Nat) (e : List (Nat × AV U)) (K : AV U → List (Nat × AV U) → Option ρ) : Option ρ :=
  match e with
  | (j, v) :: r => if j = i then K v r else none
  | [] => none
theorem popS_inv {i : Nat} {e : List (Nat × AV U)} {K : AV U → List (Nat × AV U) → Option ρ} {r : ρ} (h : popS i e K = some r) : ∃ v e', e = (i, v) :: e' ∧ K v e' = some r := by
  unfold popS at h
  split at h
  · rename_i j v e'
    split at h
    · rename_i hj; subst hj; exact ⟨v, e', rfl, h⟩
    · cases h
  · cases h
def popB (i : Nat) (e : List (Nat × List (AV U))) (K : List (AV U) → List (Nat × List (AV U)) → Option ρ) : Option ρ :=
  match e with
  | (j, v) :: r => if j = i then K v r else none
  | [] => none
theorem popB_inv {i : Nat} {e : List (Nat × List (AV U))} {K : List (AV U) → List (Nat × List (AV U)) → Option ρ} {r : ρ} (h : popB i e K = some r) : ∃ v e', e = (i, v) :: e' ∧ K v e' = some r := by
  unfold popB at h
  split at h
  · rename_i j v e'
    split at h
    · rename_i hj; subst hj; exact ⟨v, e', rfl, h⟩
    · cases h
  · cases h
def popA {α : Type} (e : List α) (K : α → List α → Option ρ) : Option ρ :=
  match e with
  | v :: r => K v r
  | [] => none
theorem popA_inv {α : Type} {e : List α} {K : α → List α → Option ρ} {r : ρ} (h : popA e K = some r) : ∃ v e', e = v :: e' ∧ K v e' = some r := by
  unfold popA at h
  split at h
  · exact ⟨_, _, rfl, h⟩
  · cases h
def popN {α : Type} (e : List α) (x : Option ρ) : Option ρ :=
  match e with
  | [] => x
  | _ => none
theorem popN_inv {α : Type} {e : List α} {x : Option ρ} {r : ρ} (h : popN e x = some r) : e = [] ∧ x = some r := by
  unfold popN at h
  split at h
  · exact ⟨rfl, h⟩
  · cases h
def asI (k : IntKind) (v : AV U) (K : Int → Option ρ) : Option ρ :=
  match v with
  | .pv (.int k' n) => if k' = k then K n else none
  | _ => none
theorem asI_inv {k : IntKind} {v : AV U} {K : Int → Option ρ} {r : ρ} (h : asI k v K = some r) : ∃ n, v = .pv (.int k n) ∧ K n = some r := by
  unfold asI at h
  split at h
  · split at h
    · rename_i e; subst e; exact ⟨_, rfl, h⟩
    · cases h
  · cases h
def asB (v : AV U) (K : Bool → Option ρ) : Option ρ :=
  match v with
  | .pv (.bool n) => K n
  | _ => none
theorem asB_inv {v : AV U} {K : Bool → Option ρ} {r : ρ} (h : asB v K = some r) : ∃ n, v = .pv (.bool n) ∧ K n = some r := by
  unfold asB at h
  split at h
  · exact ⟨_, rfl, h⟩
  · cases h
def asS (v : AV U) (K : ByteArray → Option ρ) : Option ρ :=
  match v with
  | .pv (.str n) => K n
  | _ => none
theorem asS_inv {v : AV U} {K : ByteArray → Option ρ} {r : ρ} (h : asS v K = some r) : ∃ n, v = .pv (.str n) ∧ K n = some r := by
  unfold asS at h
  split at h
  · exact ⟨_, rfl, h⟩
  · cases h
def asU (v : AV U) (K : U → Option ρ) : Option ρ :=
  match v with
  | .pv (.typ u) => K u
  | _ => none
theorem asU_inv {v : AV U} {K : U → Option ρ} {r : ρ} (h : asU v K = some r) : ∃ n, v = .pv (.typ n) ∧ K n = some r := by
  unfold asU at h
  split at h
  · exact ⟨_, rfl, h⟩
  · cases h
def asO (v : AV U) (K : U → Option ρ) : Option ρ :=
  match v with
  | .own u => K u
  | _ => none
theorem asO_inv {v : AV U} {K : U → Option ρ} {r : ρ} (h : asO v K = some r) : ∃ n, v = .own n ∧ K n = some r := by
  unfold asO at h
  split at h
  · exact ⟨_, rfl, h⟩
  · cases h
def asOT (v : AV U) (K : U → List (PV U) → Option ρ) : Option ρ :=
  match v with
  | .otup (some u) q => K u q
  | _ => none
theorem asOT_inv {v : AV U} {K : U → List (PV U) → Option ρ} {r : ρ} (h : asOT v K = some r) : ∃ n q, v = .otup (some n) q ∧ K n q = some r := by
  unfold asOT at h
  split at h
  · exact ⟨_, _, rfl, h⟩
  · cases h
def asON (v : AV U) (K : List (PV U) → Option ρ) : Option ρ :=
  match v with
  | .otup none q => K q
  | _ => none
theorem asON_inv {v : AV U} {K : List (PV U) → Option ρ} {r : ρ} (h : asON v K = some r) : ∃ q, v = .otup none q ∧ K q = some r := by
  unfold asON at h
  split at h
  · exact ⟨_, rfl, h⟩
  · cases h
def asT (v : AV U) (K : List (PV U) → Option ρ) : Option ρ :=
  match v with
  | .pv (.tup l) => K l
  | _ => none
theorem asT_inv {v : AV U} {K : List (PV U) → Option ρ} {r : ρ} (h : asT v K = some r) : ∃ n, v = .pv (.tup n) ∧ K n = some r := by
  unfold asT at h
  split at h
  · exact ⟨_, rfl, h⟩
  · cases h
def asR (v : AV U) (K : PV U → Option ρ) : Option ρ :=
  match v with
  | .ref u => K u
  | _ => none
theorem asR_inv {v : AV U} {K : PV U → Option ρ} {r : ρ} (h : asR v K = some r) : ∃ n, v = .ref n ∧ K n = some r := by
  unfold asR at h
  split at h
  · exact ⟨_, rfl, h⟩
  · cases h
def asNil (v : AV U) (x : Option ρ) : Option ρ :=
  match v with
  | .nil => x
  | _ => none
theorem asNil_inv {v : AV U} {x : Option ρ} {r : ρ} (h : asNil v x = some r) : v = .nil ∧ x = some r := by
  unfold asNil at h
  split at h
  · exact ⟨rfl, h⟩
  · cases h
def asUn (v : AV U) (x : Option ρ) : Option ρ :=
  match v with
  | .undef => x
  | _ => none
theorem asUn_inv {v : AV U} {x : Option ρ} {r : ρ} (h : asUn v x = some r) : v = .undef ∧ x = some r := by
  unfold asUn at h
  split at h
  · exact ⟨rfl, h⟩
  · cases h
def asSP (i o : Nat) (v : SV U) (x : Option ρ) : Option ρ :=
  match v with
  | .ptr j q => if j = i ∧ q = o then x else none
  | _ => none
theorem asSP_inv {i o : Nat} {v : SV U} {x : Option ρ} {r : ρ} (h : asSP i o v x = some r) : v = .ptr i o ∧ x = some r := by
  unfold asSP at h
  split at h
  · split at h
    · rename_i e; obtain ⟨rfl, rfl⟩ := e; exact ⟨rfl, h⟩
    · cases h
  · cases h
def asRp (i : Nat) (v : AV U) (x : Option ρ) : Option ρ :=
  match v with
  | .rp j => if j = i then x else none
  | _ => none
theorem asRp_inv {i : Nat} {v : AV U} {x : Option ρ} {r : ρ} (h : asRp i v x = some r) : v = .rp i ∧ x = some r := by
  unfold asRp at h
  split at h
  · split at h
    · rename_i e; subst e; exact ⟨rfl, h⟩
    · cases h
  · cases h
def asSRp (i : Nat) (v : SV U) (x : Option ρ) : Option ρ :=
  match v with
  | .rp j => if j = i then x else none
  | _ => none
theorem asSRp_inv {i : Nat} {v : SV U} {x : Option ρ} {r : ρ} (h : asSRp i v x = some r) : v = .rp i ∧ x = some r := by
  unfold asSRp at h
  split at h
  · split at h
    · rename_i e; subst e; exact ⟨rfl, h⟩
    · cases h
  · cases h
def asSR (v : SV U) (K : PV U → Option ρ) : Option ρ :=
  match v with
  | .ref u => K u
  | _ => none
theorem asSR_inv {v : SV U} {K : PV U → Option ρ} {r : ρ} (h : asSR v K = some r) : ∃ n, v = .ref n ∧ K n = some r := by
  unfold asSR at h
  split at h
  · exact ⟨_, rfl, h⟩
  · cases h
def asL (i : Nat) (v : AV U) (x : Option ρ) : Option ρ :=
  match v with
  | .bor (.slot j) => if j = i then x else none
  | _ => none
theorem asL_inv {i : Nat} {v : AV U} {x : Option ρ} {r : ρ} (h : asL i v x = some r) : v = .bor (.slot i) ∧ x = some r := by
  unfold asL at h
  split at h
  · split at h
    · rename_i e; subst e; exact ⟨rfl, h⟩
    · cases h
  · cases h
def asP (i o : Nat) (v : AV U) (x : Option ρ) : Option ρ :=
  match v with
  | .ptr j q => if j = i ∧ q = o then x else none
  | _ => none
theorem asP_inv {i o : Nat} {v : AV U} {x : Option ρ} {r : ρ} (h : asP i o v x = some r) : v = .ptr i o ∧ x = some r := by
  unfold asP at h
  split at h
  · split at h
    · rename_i e; rw [e.1, e.2]; exact ⟨rfl, h⟩
    · cases h
  · cases h
def asF (f : FuncId) (v : AV U) (K : List (SV U) → List (SV U) → Option ρ) : Option ρ :=
  match v with
  | .fn g a b => if g = f then K a b else none
  | _ => none
theorem asF_inv {f : FuncId} {v : AV U} {K : List (SV U) → List (SV U) → Option ρ} {r : ρ} (h : asF f v K = some r) : ∃ a b, v = .fn f a b ∧ K a b = some r := by
  unfold asF at h
  split at h
  · split at h
    · rename_i e; subst e; exact ⟨_, _, rfl, h⟩
    · cases h
  · cases h
end

/-! Callees. -/
def AnsOK (P : Program) (f : FuncId) (an : List (AV X.U) → List (List (AV X.U)) → (AV X.U → List (List (AV X.U)) → Option ρ) → Option ρ) : Prop :=
  ∀ args bx K r, an args bx K = some r → There P f ∧ ∃ v bx', K v bx' = some r ∧ Con P f args bx v bx'
abbrev An (X : Univ) (ρ : Type) := List (AV X.U) → List (List (AV X.U)) → (AV X.U → List (List (AV X.U)) → Option ρ) → Option ρ
def gnil {X : Univ} {ρ : Type} : Ans X ρ := fun _ _ _ _ => none
def gk {X : Univ} {ρ : Type} (f : FuncId) (an : An X ρ) (G : Ans X ρ) : Ans X ρ := fun g args bx K => if g = f then an args bx K else G g args bx K
theorem gok_nil : GOK (X := X) (ρ := ρ) P gnil := fun _ _ _ _ _ h => by cases h
theorem gok_cons {f : FuncId} {an : An X ρ} {G : Ans X ρ} (h : AnsOK P f an) (hG : GOK P G) : GOK P (gk f an G) := by
  intro g args bx K r hr
  unfold gk at hr
  split at hr
  · rename_i e; subst e; exact h args bx K r hr
  · exact hG g args bx K r hr
/-- How an argument comes: as a plain value, as a row of one's own, as a function. -/
def AV.shp {U : Type} : AV U → Nat
  | .own _ => 1
  | .fn g _ _ => g + 2
  | _ => 0
def shpL {U : Type} : List (AV U) → List Nat
  | [] => []
  | v :: r => v.shp :: shpL r
def eqL : List Nat → List Nat → Bool
  | [], [] => true
  | a :: r, b :: q => Nat.beq a b && eqL r q
  | _, _ => false
def gsel {X : Univ} {ρ : Type} (m : List Nat) (a b : An X ρ) : An X ρ := fun args bx K => bif eqL (shpL args) m then a args bx K else b args bx K
theorem gsel_ok {f : FuncId} {m : List Nat} {a b : An X ρ} (ha : AnsOK P f a) (hb : AnsOK P f b) : AnsOK P f (gsel m a b) := by
  intro args bx K r h
  unfold gsel at h
  cases hm : eqL (shpL args) m with
  | true => rw [hm, cond_true] at h; exact ha args bx K r h
  | false => rw [hm, cond_false] at h; exact hb args bx K r h
theorem there_of {f : FuncId} {fn : Func} {code : Code} (h : P.funcs[f]? = some fn) (hn : (fn.name == "runtime.NumGoroutine") = false) (hb : fn.body = some code) : There P f := ⟨fn, h, hn, by rw [hb]; rfl⟩

theorem assoc_in {α : Type} : ∀ {l : List (Nat × α)} {i : Nat} {v : α}, assoc l i = some v → (i, v) ∈ l
  | [], i, v, h => by cases h
  | (j, x) :: r, i, v, h => by
    by_cases hj : j = i
    · subst hj; simp [assoc] at h; subst h; simp
    · simp only [assoc, hj, if_false] at h; exact List.mem_cons_of_mem _ (assoc_in h)

/-! A function's pieces. -/
def AllI : Nat → (Nat → Prop) → Prop
  | 0, _ => True
  | n + 1, p => p n ∧ AllI n p
theorem allI_get : ∀ {n : Nat} {p : Nat → Prop}, AllI n p → ∀ i, i < n → p i
  | n + 1, p, h, i, hi => by
    by_cases e : i = n
    · rw [e]; exact h.1
    · exact allI_get h.2 i (by omega)
theorem pack_arr {X : Univ} {cs : List (PV X.U)} {get : Nat → PV X.U} {e : Nat} (n : Nat) (hn : cs.length = n) (h : AllI n fun i => cs[i]? = some (get i) ∧ (get i).segW X = e) : ∀ i (h : i < cs.length), cs[i] = get i ∧ cs[i].segW X = e := by
  intro i hi
  obtain ⟨h1, h2⟩ := allI_get h i (by omega)
  rw [List.getElem?_eq_getElem hi, Option.some.injEq] at h1
  rw [h1]; exact ⟨rfl, h2⟩
theorem all_nth {l : List Code} {Q : Code → Prop} (n : Nat) (hn : l.length = n) (h : AllI n fun i => Q (l.getD i .skip)) : ∀ b ∈ l, Q b := by
  intro b hb
  obtain ⟨i, hi, rfl⟩ := List.getElem_of_mem hb
  have := allI_get h i (by omega)
  rw [List.getD_eq_getElem?_getD, List.getElem?_eq_getElem hi] at this
  exact this
/-- The pieces that have a summary. -/
def selI (ids : List Nat) (l : List Code) : List Code := l.filter fun b => match firstR b with | some id => ids.contains id | none => false
theorem mem_selI {ids : List Nat} {l : List Code} {b : Code} {id : Nat} (hb : b ∈ l) (hf : firstR b = some id) (ht : id ∈ ids) : b ∈ selI ids l := by
  unfold selI
  rw [List.mem_filter]
  exact ⟨hb, by simp [hf, ht]⟩
theorem assoc_key {α : Type} : ∀ {l : List (Nat × α)} {i : Nat} {v : α}, assoc l i = some v → i ∈ l.map (·.1)
  | [], i, v, h => by cases h
  | (j, x) :: r, i, v, h => by
    by_cases hj : j = i
    · subst hj; simp
    · simp only [assoc, hj, if_false] at h; simp [assoc_key h]
def IterOK (X : Univ) {ρ : Type} (c : Cfg X ρ) (G : Ans X ρ) (b : Code) (id : Nat) (g : Run X ρ) : Prop :=
  ∀ s K r, g s K = some r → ∃ n, iterK X (fun s => s.at c.live c.boxes (some id)) (exec X c G b) n s (nrmK X c id K) = some r
def JoinOK (X : Univ) {ρ : Type} (c : Cfg X ρ) (G : Ans X ρ) (b : Code) (id : Nat) (g : Run X ρ) : Prop :=
  ∀ s K r, g s K = some r → exec X c G b s (nrmK X c id K) = some r
def LabOK (X : Univ) {ρ : Type} (c : Cfg X ρ) (G : Ans X ρ) (b : Code) (l : Nat) (g : Run X ρ) : Prop :=
  ∀ f, suff X c G b l = some f → ∀ s K r, g s K = some r → ∃ n, scopeN X (fun l s => s.at c.live c.boxes (some (c.labelR l))) (suff X c G b) (fun l => (c.labels l).isSome) n f s (nrmK X c (c.labelR l) K) = some r
theorem iter_case {c : Cfg X ρ} {G : Ans X ρ} {b : Code} {id0 : Nat} {g0 : Run X ρ} (hf : firstR b = some id0) (hl : c.loops id0 = some g0) (h : IterOK X c G b id0 g0) :
    ∀ id g, firstR b = some id → c.loops id = some g → IterOK X c G b id g := by
  intro id g h1 h2
  rw [hf] at h1; cases h1
  rw [hl] at h2; cases h2
  exact h
theorem join_case {c : Cfg X ρ} {G : Ans X ρ} {b : Code} {id0 : Nat} {g0 : Run X ρ} (hf : firstR b = some id0) (hl : c.joins id0 = some g0) (h : JoinOK X c G b id0 g0) :
    ∀ id g, firstR b = some id → c.joins id = some g → JoinOK X c G b id g := by
  intro id g h1 h2
  rw [hf] at h1; cases h1
  rw [hl] at h2; cases h2
  exact h
theorem cok_of {c : Cfg X ρ} {G : Ans X ρ} {code : Code} {tl tj tb : List (Nat × Run X ρ)} (el : c.loops = assoc tl) (ej : c.joins = assoc tj) (eb : c.labels = assoc tb)
    (h1 : ∀ b ∈ selI (tl.map (·.1)) (loopsOf code), ∀ id g, firstR b = some id → c.loops id = some g → IterOK X c G b id g)
    (h2 : ∀ b ∈ selI (tj.map (·.1)) (joinsOf code), ∀ id g, firstR b = some id → c.joins id = some g → JoinOK X c G b id g)
    (h3 : ∀ p ∈ tb, ∀ b ∈ scopesOf code, LabOK X c G b p.1 p.2) : COK c G code where
  loops b hb id g hf hl := h1 b (mem_selI hb hf (assoc_key (by rw [el] at hl; exact hl))) id g hf hl
  joins b hb id g hf hl := h2 b (mem_selI hb hf (assoc_key (by rw [ej] at hl; exact hl))) id g hf hl
  labels b hb l f g hs hl := h3 (l, g) (assoc_in (by rw [eb] at hl; exact hl)) b hb f hs
theorem nil_all {α : Type} {Q : α → Prop} {l : List α} (h : l.length = 0) : ∀ b ∈ l, Q b := by
  intro b hb
  rw [List.length_eq_zero_iff] at h
  rw [h] at hb; cases hb

/-! The tables of types. -/
def tdB : TD → TypeDesc → Bool
  | .bool, .bool => true
  | .int k, .int k' => k == k'
  | .str, .string => true
  | .slice e, .slice e' => e == e'
  | .array n e, .array n' e' => n == n' && e == e'
  | .map k e, .map k' e' => k == k' && e == e'
  | .struct fs, .struct fa => (fa.toList.map fun f => (f.offset, f.type)) == fs && fa.toList.all fun f => f.name != "_"
  | .other, d => match d with | .struct _ => false | .array _ _ => false | _ => true
  | _, _ => false
theorem tdB_of {td : TD} {d : TypeDesc} (h : tdB td d = true) : tdOf td d := by
  unfold tdB at h
  split at h
  · rfl
  · simp only [beq_iff_eq] at h; subst h; rfl
  · rfl
  · simp only [beq_iff_eq] at h; subst h; rfl
  · simp only [Bool.and_eq_true, beq_iff_eq] at h; obtain ⟨rfl, rfl⟩ := h; rfl
  · simp only [Bool.and_eq_true, beq_iff_eq] at h; obtain ⟨rfl, rfl⟩ := h; rfl
  · rename_i fs fa
    simp only [Bool.and_eq_true, beq_iff_eq, List.all_eq_true, bne_iff_ne] at h
    exact ⟨fa, rfl, h.1, h.2⟩
  · rename_i d
    refine ⟨fun fa e => ?_, fun n e he => ?_⟩
    · subst e; simp at h
    · subst he; simp at h
  · cases h
def rowB (P : Program) (p : Nat × TI) : Bool :=
  match P.info? p.1, P.underlying p.1 with
  | some info, some d => info.size == p.2.size && info.bytes == p.2.bytes && tdB p.2.td d
  | _, _ => false
def eqB (P : Program) (tab : List (Nat × TI)) (p : Nat × TI) : Bool :=
  match p.2.td with
  | .struct fs => !P.stoodInHeld p.1 && !P.eqGuardType P.depth p.1 && fs.all fun q => match assoc tab q.2 with | some ti => ti.size != 0 | none => false
  | _ => true
def arrB (tab : List (Nat × TI)) (p : Nat × TI) : Bool :=
  match p.2.td with
  | .array n e => match assoc tab e with | some ti => p.2.size == n * ti.size && decide (1 < n) | none => false
  | _ => true
/-- A cell's zero. -/
def cellB (X : Univ) : AV X.U → Value → Bool
  | .pv (.int k n), .int k' n' => k == k' && n == n'
  | .pv (.bool b), .bool b' => b == b'
  | .pv (.str s), .string s' => s.toList == s'.toList
  | .pv (.typ u), .slice none 0 0 => match X.view u with | .sl 0 _ => true | _ => false
  | .own u, .slice none 0 0 => match X.view u with | .sl 0 _ => true | _ => false
  | _, _ => false
def cellsB (X : Univ) : List (AV X.U) → List Value → Bool
  | [], [] => true
  | a :: r, c :: q => cellB X a c && cellsB X r q
  | _, _ => false
/-- An array's element's zero. -/
def elemB (X : Univ) (v : PV X.U) (cs : List Value) : Bool :=
  match v with
  | .typ w => match X.view w with | .segs ps => cellsB X (ps.map .pv) cs && decide (0 < cs.length) | _ => false
  | _ => false
def arrZ (X : Univ) (get : Nat → PV X.U) (e : Nat) : Nat → Nat → List Value → Bool
  | _, 0, cs => cs.isEmpty
  | i, n + 1, cs => decide (e ≤ cs.length) && elemB X (get i) (cs.take e) && arrZ X get e (i + 1) n (cs.drop e)
def zcellsB (X : Univ) : List (AV X.U) → List Value → Bool
  | [], [] => true
  | a :: r, cs => match a with
    | .pv (.typ u) => match X.view u with
      | .arr n get => decide (X.width u = n * X.esz u ∧ X.width u ≤ cs.length) && arrZ X get (X.esz u) 0 n (cs.take (X.width u)) && zcellsB X r (cs.drop (X.width u))
      | _ => match cs with | c :: q => cellB X a c && zcellsB X r q | [] => false
    | _ => match cs with | c :: q => cellB X a c && zcellsB X r q | [] => false
  | _, _ => false
def zeroB (P : Program) (X : Univ) (p : Nat × List (AV X.U)) : Bool :=
  match P.info? p.1 with
  | some info => match info.zero with
    | some v => zcellsB X p.2 v.cells.toList
    | none => false
  | none => false
theorem bytes_toList_inj {a b : ByteArray} (h : a.toList = b.toList) : a = b := by
  have : ∀ x : ByteArray, x.toList = x.data.toList := fun x => ByteArray.toList_eq x
  rw [this, this] at h
  exact ByteArray.ext (Array.ext' h)
theorem cellB_of {a : AV X.U} {c : Value} (h : cellB X a c = true) : (∀ cl w m lv, V X cl w m lv a c) ∧ oc c (a.segW X) ∧ (a.plain = true ∨ ∃ u, a = .own u) ∧ (∀ d, a.men d = false) ∧ c.cells = #[c] := by
  unfold cellB at h
  split at h
  · simp only [Bool.and_eq_true, beq_iff_eq] at h; obtain ⟨rfl, rfl⟩ := h
    exact ⟨fun _ _ _ _ => .pv (.int _ _), ⟨rfl, fun x hx => by simp [Value.cells] at hx; subst hx; rfl⟩, .inl rfl, fun _ => rfl, rfl⟩
  · simp only [beq_iff_eq] at h; subst h
    exact ⟨fun _ _ _ _ => .pv (.bool _), ⟨rfl, fun x hx => by simp [Value.cells] at hx; subst hx; rfl⟩, .inl rfl, fun _ => rfl, rfl⟩
  · simp only [beq_iff_eq] at h; have := bytes_toList_inj h; subst this
    exact ⟨fun _ _ _ _ => .pv (.str _), ⟨rfl, fun x hx => by simp [Value.cells] at hx; subst hx; rfl⟩, .inl rfl, fun _ => rfl, rfl⟩
  · rename_i u
    split at h
    · rename_i get hv
      refine ⟨fun _ _ _ _ => .pv (.sl hv (vs := []) rfl (fun i hi => by simp at hi) (Nat.le_refl _) (fun v hv => by cases hv) (.inl rfl)), ⟨?_, fun x hx => by simp [Value.cells] at hx; subst hx; rfl⟩, .inl rfl, fun _ => rfl, rfl⟩
      simp [AV.segW, PV.segW, hv, Value.cells]
    · cases h
  · rename_i u
    split at h
    · rename_i get hv
      exact ⟨fun _ _ _ _ => .own ⟨[], get, hv, rfl, (fun i hi => by simp at hi), (fun v hv => by simp at hv), Nat.le_refl _, .inl ⟨rfl, rfl⟩⟩, ⟨rfl, fun x hx => by simp [Value.cells] at hx; subst hx; rfl⟩, .inr ⟨u, rfl⟩, fun _ => rfl, rfl⟩
    · cases h
  · cases h
theorem cellsB_of : ∀ {l : List (AV X.U)} {cs : List Value}, cellsB X l cs = true → (∀ cl w m lv, Vs X cl w m lv l cs) ∧ flat cs = cs ∧ ∀ x ∈ l, (x.plain = true ∨ ∃ u, x = .own u) ∧ ∀ d, x.men d = false
  | [], [], _ => ⟨fun _ _ _ _ => .nil, rfl, fun x hx => by cases hx⟩
  | a :: r, c :: q, h => by
    simp only [cellsB, Bool.and_eq_true] at h
    obtain ⟨h1, h2, h3, h4, h5⟩ := cellB_of h.1
    obtain ⟨g1, g2, g3⟩ := cellsB_of h.2
    refine ⟨fun cl w m lv => .cons (h1 cl w m lv) h2 (g1 cl w m lv), by rw [flat_cons, g2, h5]; rfl, fun x hx => ?_⟩
    rcases List.mem_cons.mp hx with e | hx
    · subst e; exact ⟨h3, h4⟩
    · exact g3 x hx
  | [], _ :: _, h => by cases h
  | _ :: _, [], h => by cases h
theorem pvs_map : ∀ ps : List (PV X.U), pvs (X := X) (ps.map AV.pv) = some ps
  | [] => rfl
  | p :: r => by simp only [List.map_cons, pvs, pvs_map r, Option.map_some]
theorem elemB_of {v : PV X.U} {cs : List Value} (h : elemB X v cs = true) : (∀ cl w, VP X cl w v (.agg cs.toArray)) ∧ ∀ x ∈ cs, x.oneCell' = true := by
  unfold elemB at h
  split at h
  · rename_i u
    split at h
    · rename_i ps hv
      simp only [Bool.and_eq_true, decide_eq_true_eq] at h
      obtain ⟨g1, g2, _⟩ := cellsB_of h.1
      refine ⟨fun cl w => ?_, fun x hx => ?_⟩
      · have hp : pvs (ps.map AV.pv) = some ps := pvs_map ps
        have := VP.seg (X := X) (cl := cl) (w := w) hv ((g1 cl w (fun b => b) (fun _ => none)).pvs hp)
        rw [g2] at this; exact this
      · have := (g1 (fun _ => 0) (default : World) (fun b => b) (fun _ => none)).oc x (by rw [g2]; exact hx)
        exact this
    · cases h
  · cases h
theorem arrZ_of {get : Nat → PV X.U} {e : Nat} : ∀ (n i : Nat) (cs : List Value), arrZ X get e i n cs = true → ∃ vs : List Value, vs.length = n ∧ flat vs = cs ∧ (∀ cl w j (h : j < vs.length), VP X cl w (get (i + j)) vs[j]) ∧ ∀ v ∈ vs, oc v e
  | 0, i, cs, h => by
    simp only [arrZ, List.isEmpty_iff] at h; subst h
    exact ⟨[], rfl, rfl, fun _ _ j hj => absurd hj (by simp), fun v hv => by cases hv⟩
  | n + 1, i, cs, h => by
    simp only [arrZ, Bool.and_eq_true, decide_eq_true_eq] at h
    obtain ⟨⟨h0, h1⟩, h2⟩ := h
    obtain ⟨vs, g1, g2, g3, g4⟩ := arrZ_of n (i + 1) _ h2
    obtain ⟨k1, k2⟩ := elemB_of h1
    refine ⟨.agg (cs.take e).toArray :: vs, by simp [g1], ?_, fun cl w j hj => ?_, fun v hv => ?_⟩
    · rw [flat_cons, g2]
      simp only [Value.cells, List.toList_toArray]
      exact List.take_append_drop _ _
    · cases j with
      | zero => exact k1 cl w
      | succ j =>
        have := g3 cl w j (by simpa using hj)
        rw [show i + 1 + j = i + (j + 1) by omega] at this
        exact this
    · rcases List.mem_cons.1 hv with rfl | hv
      · refine ⟨by simp [Value.cells]; omega, fun x hx => ?_⟩
        simp only [Value.cells, List.toList_toArray] at hx
        exact k2 x hx
      · exact g4 v hv
theorem zcellsB_of : ∀ {l : List (AV X.U)} {cs : List Value}, zcellsB X l cs = true → ∃ vs, flat vs = cs ∧ (∀ cl w m lv, Vs X cl w m lv l vs) ∧ ∀ x ∈ l, (x.plain = true ∨ ∃ u, x = .own u) ∧ ∀ d, x.men d = false
  | [], [], _ => ⟨[], rfl, fun _ _ _ _ => .nil, fun x hx => by cases hx⟩
  | [], _ :: _, h => by simp [zcellsB] at h
  | a :: r, cs, h => by
    have one : ∀ {c : Value} {q : List Value}, cs = c :: q → cellB X a c = true → zcellsB X r q = true → ∃ vs, flat vs = cs ∧ (∀ cl w m lv, Vs X cl w m lv (a :: r) vs) ∧ ∀ x ∈ a :: r, (x.plain = true ∨ ∃ u, x = .own u) ∧ ∀ d, x.men d = false := by
      intro c q he hc hr
      obtain ⟨h1, h2, h3, h4, h5⟩ := cellB_of hc
      obtain ⟨vs, g1, g2, g3⟩ := zcellsB_of hr
      refine ⟨c :: vs, by rw [flat_cons, g1, h5, he]; rfl, fun cl w m lv => .cons (h1 cl w m lv) h2 (g2 cl w m lv), fun x hx => ?_⟩
      rcases List.mem_cons.mp hx with e | hx
      · subst e; exact ⟨h3, h4⟩
      · exact g3 x hx
    unfold zcellsB at h
    split at h
    · rename_i u
      split at h
      · rename_i n get hv
        simp only [Bool.and_eq_true, decide_eq_true_eq] at h
        obtain ⟨⟨⟨hw, hle⟩, ha⟩, hr⟩ := h
        obtain ⟨ws, k1, k2, k3, k4⟩ := arrZ_of n 0 _ ha
        obtain ⟨vs, g1, g2, g3⟩ := zcellsB_of hr
        have hseg : (AV.pv (.typ u) : AV X.U).segW X = X.width u := by simp only [AV.segW, PV.segW, hv]
        refine ⟨.agg (flat ws).toArray :: vs, ?_, fun cl w m lv => .cons (.pv (.arr hv k1 (fun j hj => by have := k3 cl w j hj; rw [Nat.zero_add] at this; exact this) k4 hw)) ⟨?_, fun x hx => ?_⟩ (g2 cl w m lv), fun x hx => ?_⟩
        · rw [flat_cons, g1, k2]
          simp only [Value.cells, List.toList_toArray]
          exact List.take_append_drop _ _
        · rw [hseg, k2]; simp [Value.cells]; omega
        · simp only [Value.cells, List.toList_toArray] at hx
          obtain ⟨v, hv', hx'⟩ := List.mem_flatMap.1 hx
          exact (k4 v hv').2 x hx'
        · rcases List.mem_cons.mp hx with e | hx
          · subst e; exact ⟨.inl rfl, fun _ => rfl⟩
          · exact g3 x hx
      · split at h
        · rename_i c q
          simp only [Bool.and_eq_true] at h
          exact one rfl h.1 h.2
        · cases h
    · split at h
      · rename_i c q
        simp only [Bool.and_eq_true] at h
        exact one rfl h.1 h.2
      · cases h
theorem nilOf_ne {a : AV X.U} (h : ∀ u get, a = .pv (.typ u) → X.view u ≠ .sl 0 get) : AV.nilOf X a = a := by
  unfold AV.nilOf
  split
  · rename_i u
    split
    · rename_i get hv; exact absurd hv (h u get rfl)
    · rfl
  · rfl
theorem cellN_of {a : AV X.U} {c : Value} (h : cellB X a c = true) : (∀ cl w m lv, V X cl w m lv (AV.nilOf X a) c) ∧ oc c ((AV.nilOf X a).segW X) := by
  obtain ⟨h1, h2, h3, h4, h5⟩ := cellB_of h
  by_cases hn : ∃ u get, a = .pv (.typ u) ∧ X.view u = .sl 0 get
  · obtain ⟨u, get, rfl, hv⟩ := hn
    have he : AV.nilOf X (.pv (.typ u)) = .nil := by simp only [AV.nilOf, hv]
    have hc : c = .slice none 0 0 := by
      unfold cellB at h
      split at h <;> first | rfl | (rename_i e; cases e; done) | cases h
      all_goals (rename_i e _; cases e)
    subst hc
    rw [he]
    exact ⟨fun _ _ _ _ => .nil, rfl, fun x hx => by simp [Value.cells] at hx; subst hx; rfl⟩
  · rw [nilOf_ne fun u get e hv => hn ⟨u, get, e, hv⟩]
    exact ⟨h1, h2⟩
theorem zcellsN_of : ∀ {l : List (AV X.U)} {cs : List Value}, zcellsB X l cs = true → ∃ vs, flat vs = cs ∧ ∀ cl w m lv, Vs X cl w m lv (l.map (AV.nilOf X)) vs
  | [], [], _ => ⟨[], rfl, fun _ _ _ _ => .nil⟩
  | [], _ :: _, h => by simp [zcellsB] at h
  | a :: r, cs, h => by
    have one : ∀ {c : Value} {q : List Value}, cs = c :: q → cellB X a c = true → zcellsB X r q = true → ∃ vs, flat vs = cs ∧ ∀ cl w m lv, Vs X cl w m lv ((a :: r).map (AV.nilOf X)) vs := by
      intro c q he hc hr
      obtain ⟨h1, h2⟩ := cellN_of hc
      obtain ⟨_, _, _, _, h5⟩ := cellB_of hc
      obtain ⟨vs, g1, g2⟩ := zcellsN_of hr
      exact ⟨c :: vs, by rw [flat_cons, g1, h5, he]; rfl, fun cl w m lv => .cons (h1 cl w m lv) h2 (g2 cl w m lv)⟩
    unfold zcellsB at h
    split at h
    · rename_i u
      split at h
      · rename_i n get hv
        simp only [Bool.and_eq_true, decide_eq_true_eq] at h
        obtain ⟨⟨⟨hw, hle⟩, ha⟩, hr⟩ := h
        obtain ⟨ws, k1, k2, k3, k4⟩ := arrZ_of n 0 _ ha
        obtain ⟨vs, g1, g2⟩ := zcellsN_of hr
        have hseg : (AV.pv (.typ u) : AV X.U).segW X = X.width u := by simp only [AV.segW, PV.segW, hv]
        have hn : AV.nilOf X (.pv (.typ u)) = .pv (.typ u) := nilOf_ne fun u' get' e hv' => by cases e; rw [hv] at hv'; cases hv'
        refine ⟨.agg (flat ws).toArray :: vs, ?_, fun cl w m lv => ?_⟩
        · rw [flat_cons, g1, k2]
          simp only [Value.cells, List.toList_toArray]
          exact List.take_append_drop _ _
        · rw [List.map_cons, hn]
          refine .cons (.pv (.arr hv k1 (fun j hj => by have := k3 cl w j hj; rw [Nat.zero_add] at this; exact this) k4 hw)) ⟨?_, fun x hx => ?_⟩ (g2 cl w m lv)
          · rw [hseg, k2]; simp [Value.cells]; omega
          · simp only [Value.cells, List.toList_toArray] at hx
            obtain ⟨v, hv', hx'⟩ := List.mem_flatMap.1 hx
            exact (k4 v hv').2 x hx'
      · split at h
        · rename_i c q
          simp only [Bool.and_eq_true] at h
          exact one rfl h.1 h.2
        · cases h
    · split at h
      · rename_i c q
        simp only [Bool.and_eq_true] at h
        exact one rfl h.1 h.2
      · cases h
/-- A map's element's zero. -/
def mapB (P : Program) (p : Nat × TI) : Bool :=
  match p.2.td with
  | .map _ e => match P.info? e with
    | some info => match info.zero with | some (.int .i64 0) => true | _ => false
    | none => false
  | _ => true
def tabB (P : Program) (X : Univ) (tab : List (Nat × TI)) (zs : List (Nat × List (AV X.U))) : Bool :=
  P.follows .mixedOrders && tab.all (rowB P) && tab.all (eqB P tab) && tab.all (arrB tab) && zs.all (zeroB P X) && tab.all (mapB P)
theorem tok_of {tab : List (Nat × TI)} {zs : List (Nat × List (AV X.U))} (ht : X.ty = assoc tab) (hz : X.zero = assoc zs) (hzv : ∀ t c, X.zval t c ↔ ∃ info v, P.info? t = some info ∧ info.zero = some v ∧ c.cells = v.cells) (h : tabB P X tab zs = true) : TOK P X := by
  simp only [tabB, Bool.and_eq_true, List.all_eq_true] at h
  obtain ⟨⟨⟨⟨⟨h0, h1⟩, h2⟩, h3⟩, h4⟩, h5⟩ := h
  refine ⟨h0, fun t ti hi => ?_, fun t fs n b hi => ?_, fun t n e sz b hi => ?_, fun t z hi => ?_, fun t z hi info v i1 i2 => ?_, hzv, fun t k e n b hi => ?_⟩
  rotate_left 5
  · rw [ht] at hi
    have := h5 _ (assoc_in hi)
    unfold mapB at this
    simp only at this
    split at this
    · rename_i info hi1
      split at this
      · rename_i hz1; exact ⟨info, hi1, hz1⟩
      · cases this
    · cases this
  · rw [ht] at hi
    have := h1 _ (assoc_in hi)
    unfold rowB at this
    split at this
    · rename_i info d e1 e2
      simp only [Bool.and_eq_true, beq_iff_eq] at this
      exact ⟨info, d, e1, this.1.1, this.1.2, e2, tdB_of this.2⟩
    · cases this
  · rw [ht] at hi
    have := h2 _ (assoc_in hi)
    simp only [eqB, Bool.and_eq_true, Bool.not_eq_true', List.all_eq_true] at this
    refine ⟨this.1.1, this.1.2, fun p hp => ?_⟩
    have := this.2 p hp
    split at this
    · rename_i ti e
      exact ⟨ti, by rw [ht]; exact e, by simpa using this⟩
    · cases this
  · rw [ht] at hi
    have := h3 _ (assoc_in hi)
    simp only [arrB] at this
    split at this
    · rename_i ti e1
      simp only [Bool.and_eq_true, beq_iff_eq, decide_eq_true_eq] at this
      exact ⟨ti, by rw [ht]; exact e1, this.1, this.2⟩
    · cases this
  · rw [hz] at hi
    have := h4 _ (assoc_in hi)
    unfold zeroB at this
    split at this
    · rename_i info e1
      split at this
      · rename_i v e2
        obtain ⟨vs, g1, g2, g3⟩ := zcellsB_of this
        exact ⟨info, v, vs, e1, e2, g1.symm, g2, g3⟩
      · cases this
    · cases this
  · rw [hz] at hi
    have := h4 _ (assoc_in hi)
    unfold zeroB at this
    simp only [i1, i2] at this
    obtain ⟨vs, g1, g2⟩ := zcellsN_of this
    exact ⟨vs, g1.symm, g2⟩

/-! Typed lists. -/
/-- The typed values of a row of plain ones. -/
def mapO {α β : Type} (f : α → Option β) : List α → Option (List β)
  | [] => some []
  | a :: r => match f a, mapO f r with
    | some x, some l => some (x :: l)
    | _, _ => none
theorem mapO_get {α β : Type} {f : α → Option β} {g : β → α} (hg : ∀ a x, f a = some x → a = g x) : ∀ {l : List α} {q : List β}, mapO f l = some q → q.length = l.length ∧ ∀ (d : β) i (h : i < l.length), l[i] = g (q.getD i d)
  | [], q, h => by simp only [mapO, Option.some.injEq] at h; subst h; exact ⟨rfl, fun d i h => by simp at h⟩
  | a :: r, q, h => by
    simp only [mapO] at h
    split at h
    · rename_i x l h1 h2
      cases h
      obtain ⟨g1, g2⟩ := mapO_get hg h2
      refine ⟨by simp [g1], fun d i hi => ?_⟩
      cases i with
      | zero => simpa using hg a x h1
      | succ i => simpa using g2 d i (by simpa using hi)
    · cases h
theorem getD_cut {α : Type} (l : List α) (lo n i : Nat) (d : α) (h : i < n) : ((l.drop lo).take n).getD i d = l.getD (lo + i) d := by
  simp [List.getD_eq_getElem?_getD, List.getElem?_take, h]
theorem lit_case {U α : Type} {view : U → View U} {C : List α → U} {f : PV U → Option α} {g : α → PV U} (d : α) (hg : ∀ a x, f a = some x → a = g x) (hv : ∀ l, view (C l) = .sl l.length fun i => g (l.getD i d)) {es : List (PV U)} {u : U}
    (h : (mapO f es).map C = some u) : ∃ get, view u = .sl es.length get ∧ ∀ i (h : i < es.length), es[i] = get i := by
  cases hm : mapO f es with
  | none => rw [hm] at h; cases h
  | some q =>
    rw [hm] at h
    simp only [Option.map_some, Option.some.injEq] at h
    subst h
    obtain ⟨h1, h2⟩ := mapO_get hg hm
    exact ⟨_, by rw [hv, h1], fun i hi => h2 d i hi⟩
theorem cut_case {U α : Type} {view : U → View U} {C : List α → U} {g : α → PV U} (d : α) (hv : ∀ l, view (C l) = .sl l.length fun i => g (l.getD i d)) {l : List α} {lo hi n : Nat} {get : Nat → PV U} (h : view (C l) = .sl n get) (h1 : lo ≤ hi) (h2 : hi ≤ n) :
    ∃ get', view (C ((l.drop lo).take (hi - lo))) = .sl (hi - lo) get' ∧ ∀ i, i < hi - lo → get' i = get (lo + i) := by
  rw [hv] at h
  cases h
  refine ⟨_, by rw [hv, List.length_take, List.length_drop, Nat.min_eq_left (by omega)], fun i hi' => ?_⟩
  simp only [getD_cut l lo (hi - lo) i d hi']
theorem app_case {U α : Type} {view : U → View U} {C : List α → U} {g : α → PV U} (d : α) (hv : ∀ l, view (C l) = .sl l.length fun i => g (l.getD i d)) {a b : List α} {n k : Nat} {get get' : Nat → PV U} (h : view (C a) = .sl n get) (h' : view (C b) = .sl k get') :
    ∃ gg, view (C (a ++ b)) = .sl (n + k) gg ∧ (∀ i, i < n → gg i = get i) ∧ ∀ i, i < k → gg (n + i) = get' i := by
  rw [hv] at h h'
  cases h; cases h'
  refine ⟨_, by rw [hv, List.length_append], fun i hi => ?_, fun i hi => ?_⟩
  · simp only [List.getD_eq_getElem?_getD, List.getElem?_append_left hi]
  · simp only [List.getD_eq_getElem?_getD, List.getElem?_append_right (Nat.le_add_right _ _), Nat.add_sub_cancel_left]
theorem over_case {U α : Type} {view : U → View U} {C : List α → U} {g : α → PV U} (d : α) (hv : ∀ l, view (C l) = .sl l.length fun i => g (l.getD i d)) {a b : List α} {lo n N k : Nat} {get get' : Nat → PV U} (h : view (C a) = .sl N get) (h' : view (C b) = .sl k get') (h1 : lo + n ≤ N) (h2 : n ≤ k) :
    ∃ gg, view (C (overL a lo n b)) = .sl N gg ∧ (∀ i, lo ≤ i → i < lo + n → gg i = get' (i - lo)) ∧ ∀ i, i < N → ¬ (lo ≤ i ∧ i < lo + n) → gg i = get i := by
  rw [hv] at h h'
  cases h; cases h'
  have la : (a.take lo).length = lo := by rw [List.length_take]; omega
  have lb : (b.take n).length = n := by rw [List.length_take]; omega
  refine ⟨_, by rw [hv]; congr 1; unfold overL; simp; omega, fun i h3 h4 => ?_, fun i hi hn => ?_⟩
  · simp only [overL, List.getD_eq_getElem?_getD]
    rw [List.getElem?_append_right (by omega), List.getElem?_append_left (by omega), la, List.getElem?_take, if_pos (by omega)]
  · simp only [overL, List.getD_eq_getElem?_getD]
    by_cases h5 : i < lo
    · rw [List.getElem?_append_left (by omega), List.getElem?_take, if_pos h5]
    · rw [List.getElem?_append_right (by omega), List.getElem?_append_right (by omega), la, lb, List.getElem?_drop]
      congr 3; omega
theorem set_case {U α : Type} {view : U → View U} {C : List α → U} {g : α → PV U} (d : α) (hv : ∀ l, view (C l) = .sl l.length fun i => g (l.getD i d)) {l : List α} {i n : Nat} {v : PV U} {x : α} {get : Nat → PV U} (hx : v = g x) (hl : view (C l) = .sl n get) (hi : i < n) :
    ∃ get', view (C (l.set i x)) = .sl n get' ∧ get' i = v ∧ ∀ j, j < n → j ≠ i → get' j = get j := by
  rw [hv] at hl; cases hl
  refine ⟨fun j => g ((l.set i x).getD j d), by rw [hv, List.length_set], by simp [hx, hi], fun j _ hne => ?_⟩
  show g ((l.set i x).getD j d) = g (l.getD j d)
  rw [List.getD_eq_getElem?_getD, List.getD_eq_getElem?_getD, List.getElem?_set, if_neg fun e : i = j => hne e.symm]
theorem seta_case {U α : Type} {view : U → View U} {C : List α → U} {g : α → PV U} {N : Nat} (d : α) (hv : ∀ l, view (C l) = .arr N fun i => g (l.getD i d)) {l : List α} {i n : Nat} {v : PV U} {x : α} {get : Nat → PV U} (hx : v = g x) (hl : view (C l) = .arr n get) (hi : i < l.length) :
    ∃ get', view (C (l.set i x)) = .arr n get' ∧ get' i = v ∧ ∀ j, j < n → j ≠ i → get' j = get j := by
  rw [hv] at hl; cases hl
  refine ⟨fun j => g ((l.set i x).getD j d), by rw [hv], by simp [hx, hi], fun j _ hne => ?_⟩
  show g ((l.set i x).getD j d) = g (l.getD j d)
  rw [List.getD_eq_getElem?_getD, List.getD_eq_getElem?_getD, List.getElem?_set, if_neg fun e : i = j => hne e.symm]
theorem view_rep {U α : Type} {view : U → View U} {C : List α → U} {g : α → PV U} (d : α) (hv : ∀ l, view (C l) = .sl l.length fun i => g (l.getD i d)) {x : α} {n : Nat} : view (C (List.replicate n x)) = .sl n fun i => g ((List.replicate n x).getD i d) := by rw [hv, List.length_replicate]
theorem rep_case {U α : Type} {g : α → PV U} (d : α) {x : α} {n i : Nat} (hi : i < n) : g ((List.replicate n x).getD i d) = g x := by simp [hi]
theorem ofs_case {U : Type} {view : U → View U} {C : List Int → U} (hv : ∀ l, view (C l) = .sl l.length fun i => .int .u8 (l.getD i 0)) {s : ByteArray} :
    ∃ get, view (C (bytesOf s)) = .sl s.size get ∧ ∀ i, i < s.size → get i = .int .u8 ((s.data.toList.getD i 0).toNat : Int) := by
  refine ⟨fun i => .int .u8 ((bytesOf s).getD i 0), by rw [hv, bytesOf, List.length_map]; rfl, fun i hi => ?_⟩
  have hi' : i < s.data.toList.length := by rw [Array.length_toList]; exact hi
  simp only [bytesOf, List.getD_eq_getElem?_getD, List.getElem?_map, List.getElem?_eq_getElem hi', Option.map_some, Option.getD_some]
def nilB {U : Type} (view : U → View U) (u : U) : Bool := match view u with | .sl 0 _ => true | _ => false
theorem nilB_of {U : Type} {view : U → View U} {tab : List (Nat × U)} (h : tab.all (fun p => nilB view p.2) = true) {t : Nat} {u : U} (ht : assoc tab t = some u) : ∃ get, view u = .sl 0 get := by
  rw [List.all_eq_true] at h
  have := h _ (assoc_in ht)
  unfold nilB at this
  split at this
  · rename_i g hv; exact ⟨g, hv⟩
  · cases this
theorem bind_inv {α β : Type} {o : Option α} {f : α → Option β} {r : β} (h : o.bind f = some r) : ∃ x, o = some x ∧ f x = some r := by
  cases o with
  | none => cases h
  | some x => exact ⟨x, rfl, h⟩
end Go.AX
