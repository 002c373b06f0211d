/-
  The operations that only tell a value: what the reckoning machine tells is what the program's operation tells.
-/
import Derived.Test.YtepekanlplbciaaAxRelC
import Derived.Laws.StructEq
import Derived.Laws.BytesArg
namespace Go.AX
open Go

/-- A type's row fits the program's. -/
def tdOf : TD → TypeDesc → Prop
  | .bool, d => d = .bool
  | .int k, d => d = .int k
  | .str, d => d = .string
  | .slice e, d => d = .slice e
  | .array n e, d => d = .array n e
  | .map k e, d => d = .map k e
  | .struct fs, d => ∃ fa : Array Field, d = .struct fa ∧ fa.toList.map (fun f => (f.offset, f.type)) = fs ∧ ∀ f ∈ fa.toList, f.name ≠ "_"
  | .other, d => (∀ fa, d ≠ .struct fa) ∧ ∀ n e, d ≠ .array n e

structure TOK (P : Program) (X : Univ) : Prop where
  mixed : P.follows .mixedOrders = true
  ty : ∀ t ti, X.ty t = some ti → ∃ info d, P.info? t = some info ∧ info.size = ti.size ∧ info.bytes = ti.bytes ∧ P.underlying t = some d ∧ tdOf ti.td d
  eq : ∀ t fs n b, X.ty t = some ⟨.struct fs, n, b⟩ → P.stoodInHeld t = false ∧ P.eqGuardType P.depth t = false ∧ ∀ p ∈ fs, ∃ ti, X.ty p.2 = some ti ∧ ti.size ≠ 0
  arr : ∀ t n e sz b, X.ty t = some ⟨.array n e, sz, b⟩ → ∃ ti, X.ty e = some ti ∧ sz = n * ti.size ∧ 1 < n
  zero : ∀ t z, X.zero t = some z → ∃ info v vs, P.info? t = some info ∧ info.zero = some v ∧ v.cells.toList = flat vs ∧ (∀ cl w m lv, Vs X cl w m lv z vs) ∧ ∀ x ∈ z, (x.plain = true ∨ ∃ u, x = .own u) ∧ ∀ d, x.men d = false
  zeroN : ∀ t z, X.zero t = some z → ∀ info v, P.info? t = some info → info.zero = some v → ∃ vs, v.cells.toList = flat vs ∧ ∀ cl w m lv, Vs X cl w m lv (z.map (AV.nilOf X)) vs
  zval : ∀ t c, X.zval t c ↔ ∃ info v, P.info? t = some info ∧ info.zero = some v ∧ c.cells = v.cells
  mapz : ∀ t k e n b, X.ty t = some ⟨.map k e, n, b⟩ → ∃ info, P.info? e = some info ∧ info.zero = some (.int .i64 0)

structure XOK (X : Univ) : Prop where
  wpos : ∀ u, 0 < X.width u
  nil : ∀ t u, X.nil t = some u → ∃ get, X.view u = .sl 0 get
  pack : ∀ t cs v, X.pack t cs = some v → (∃ u, v = .typ u ∧ X.view u = .segs cs) ∨ (∃ u n get, v = .typ u ∧ X.view u = .arr n get ∧ cs.length = n ∧ (∀ i (h : i < cs.length), cs[i] = get i ∧ cs[i].segW X = X.esz u) ∧ X.width u = n * X.esz u) ∨ ∃ u n get, v = .typ u ∧ X.view u = .arr n get ∧ cs = [v]
  lit : ∀ t es u, X.lit t es = some u → ∃ get, X.view u = .sl es.length get ∧ ∀ i (h : i < es.length), es[i] = get i
  cut : ∀ u lo hi u' n get, X.cut u lo hi = some u' → X.view u = .sl n get → lo ≤ hi → hi ≤ n → X.esz u' = X.esz u ∧ ∃ get', X.view u' = .sl (hi - lo) get' ∧ ∀ i, i < hi - lo → get' i = get (lo + i)
  app : ∀ u v z n get k get', X.app u v = some z → X.view u = .sl n get → X.view v = .sl k get' → X.esz z = X.esz u ∧ X.esz v = X.esz u ∧ ∃ g, X.view z = .sl (n + k) g ∧ (∀ i, i < n → g i = get i) ∧ ∀ i, i < k → g (n + i) = get' i
  set : ∀ u i v u' n get, X.set u i v = some u' → X.view u = .sl n get → i < n → X.esz u' = X.esz u ∧ ∃ get', X.view u' = .sl n get' ∧ get' i = v ∧ ∀ j, j < n → j ≠ i → get' j = get j
  setA : ∀ u i v u' n get, X.setA u i v = some u' → X.view u = .arr n get → i < n → i < X.lenA u → X.width u' = X.width u ∧ X.esz u' = X.esz u ∧ ∃ get', X.view u' = .arr n get' ∧ get' i = v ∧ ∀ j, j < n → j ≠ i → get' j = get j
  zeros : ∀ t n u, X.zeros t n = some u → ∃ get e td b1 b2 z, X.ty t = some ⟨.slice e, b1, b2⟩ ∧ X.ty e = some td ∧ X.zero e = some [.pv z] ∧ X.view u = .sl n get ∧ ∀ i, i < n → get i = z
  ofStr : ∀ s u, X.ofStr s = some u → X.esz u = 1 ∧ ∃ get, X.view u = .sl s.size get ∧ ∀ i, i < s.size → get i = .int .u8 ((s.data.toList.getD i 0).toNat : Int)
  inv : ∀ D D' w w', X.inv D w → w.heap.size ≤ w'.heap.size → (∀ b, b < w.heap.size → ¬ D b → w'.heap[b]? = w.heap[b]?) → (∀ b, D' b → D b ∨ w.heap.size ≤ b) → X.inv D' w'
  over : ∀ u lo n v u' N get k get2, X.over u lo n v = some u' → X.view u = .sl N get → X.view v = .sl k get2 → lo + n ≤ N → n ≤ k → X.esz u' = X.esz u ∧ ∃ get', X.view u' = .sl N get' ∧ (∀ i, lo ≤ i → i < lo + n → get' i = get2 (i - lo)) ∧ ∀ i, i < N → ¬ (lo ≤ i ∧ i < lo + n) → get' i = get i
  toStr : ∀ u s, X.toStr u = some s → X.esz u = 1 ∧ ∃ get ns, X.view u = .sl ns.length get ∧ (∀ i, i < ns.length → get i = .int .u8 (ns.getD i 0)) ∧ s = strOfNums ns

variable {X : Univ} {P : Program} {cl m : Nat → Nat} {w : World} {B : Base} {s : St X.U} {tm : Array Value} {ρ : Type}

theorem Rel.invAt (hX : XOK X) (h : Rel B cl m s tm w) {D : Nat → Prop} (hD : ∀ b, D b → ∃ l, Ow m s tm w l b) : X.inv D w :=
  hX.inv B.D D B.w w h.inv h.fr.size (fun b hb hd => (h.fr.block b hb hd).1) fun b hb => by obtain ⟨l, hl⟩ := hD b hb; exact (h.mine l b hl).2.1
theorem constV (hX : XOK X) (t : TypeId) (v : Value) (lv : Lc → Option Value) : V X cl w m lv (constAV X t v) v := by
  unfold constAV
  split
  · exact .pv (.bool _)
  · exact .pv (.int _ _)
  · exact .pv (.str _)
  · split
    · rename_i u hu
      obtain ⟨get, hg⟩ := hX.nil t u hu
      exact .pv (.sl (vs := []) hg rfl (fun i h => by simp at h) (Nat.le_refl _) (fun v h => by cases h) (.inl rfl))
    · exact .undef _
  · exact .undef _

theorem rdV (h : Rel B cl m s tm w) (i : Nat) : V X cl w m (lval m s tm w) (s.rd i) (tm.getD i Go.undef) := by
  unfold St.rd
  split
  · rename_i u hu
    refine .bor fun x hx => ?_
    obtain ⟨_, rfl⟩ := lval_some hx
    rfl
  · rename_i o cs hu
    have he := h.env i
    rw [hu] at he
    generalize tm.getD i Go.undef = c at he
    cases he with | otup h1 h2 => exact .otup h1 fun u hu => by cases hu
  · exact h.env i

theorem evV (hX : XOK X) {a : Act} (h : Rel B cl m s a.tmps w) (t : TypeId) (x : Operand) : V X cl w m (lval m s a.tmps w) (s.ev t x) (a.eval x) := by
  cases x with
  | tmp i => exact rdV h i
  | const v => exact constV hX t v _
  | global g => exact .undef _
  | func f => exact .fn .nil .nil

theorem ev_noown (t : TypeId) (x : Operand) : (s.ev t x).hold? = none := by
  cases x with
  | tmp i => simp only [St.ev, St.rd]; cases h : s.look i <;> rfl
  | const v =>
    simp only [St.ev, constAV]
    split <;> (try rfl)
    split <;> rfl
  | global g => rfl
  | func f => rfl

/-! Numbers, texts. -/
theorem eqGuard_plain (op : BinOp) (t : TypeId) (x y : Operand) (a b : Value) (h1 : ∀ l, a ≠ .agg l) (h2 : a ≠ .nilIface) : (eqGuard op t x y a b).run P w = .ok () w := by
  unfold eqGuard
  cases a <;> first
    | exact absurd rfl h2
    | exact absurd rfl (h1 _)
    | (cases op <;> rfl)

theorem binK_sound (op : BinOp) (t : TypeId) (d : TypeDesc) (hd : P.underlying t = some d) (a b : PV X.U) (x y : Operand) (K : AV X.U → Option ρ) (r : ρ)
    (hbool : ∀ q, a = .bool q → d = .bool) (h : binK X op a b K = some r) :
    ∃ v, K (.pv v) = some r ∧ ∀ (cl : Nat → Nat) (w : World) (ca cb : Value), VP X cl w a ca → VP X cl w b cb →
      ∃ c, VP X cl w v c ∧ (do eqGuard op t x y ca cb; Go.binOp op t ca cb : Sem Value).run P w = .ok c w := by
  unfold binK at h
  split at h
  all_goals (first | (simp only [reduceCtorEq] at h; done) | skip)
  all_goals first
    | (have hd' := hbool _ rfl; subst hd'
       exact ⟨_, h, fun cl w ca cb ha hb => by cases ha; cases hb; exact ⟨_, .bool _, by simp [eqGuard_plain, Go.binOp, run_equal_bool w t _ _ hd]⟩⟩)
    | exact ⟨_, h, fun cl w ca cb ha hb => by cases ha; cases hb; exact ⟨_, .bool _, by simp [eqGuard_plain, Go.binOp, Op.stringOp]⟩⟩
    | (split at h
       · simp only [reduceCtorEq] at h
       · rename_i hk
         exact ⟨_, h, fun cl w ca cb ha hb => by cases ha; cases hb; exact ⟨_, .int _ _, by simp [eqGuard_plain, Go.binOp, Op.shift, hk]⟩⟩)
    | (split at h
       · rename_i hk; subst hk
         first
         | (split at h
            · simp only [reduceCtorEq] at h
            · rename_i hz
              exact ⟨_, h, fun cl w ca cb ha hb => by cases ha; cases hb; exact ⟨_, .int _ _, by simp [eqGuard_plain, Go.binOp, Op.intDiv, hz]⟩⟩)
         | exact ⟨_, h, fun cl w ca cb ha hb => by cases ha; cases hb; exact ⟨_, .int _ _, by simp [eqGuard_plain, Go.binOp, Op.intArith, Op.intBits]⟩⟩
         | exact ⟨_, h, fun cl w ca cb ha hb => by cases ha; cases hb; exact ⟨_, .bool _, by simp [eqGuard_plain, Go.binOp, Op.intCmp]⟩⟩
       · simp only [reduceCtorEq] at h)
    | (split at h
       · rename_i hk
         exact ⟨_, h, fun cl w ca cb ha hb => by
          cases ha; cases hb
          refine ⟨_, .str _, ?_⟩
          simp only [cat_eq, Sem.run_bind, eqGuard_plain, ne_eq, reduceCtorEq, not_false_eq_true, implies_true, Result.andThen_ok, Go.binOp, Op.stringOp]
          rw [if_neg (by show ¬ _ > (9223372036854775807 : Int); rw [strFits_eq] at *; omega)]; rfl⟩
       · simp only [reduceCtorEq] at h)

/-! Structs of plain parts, held against each other. -/
inductive SC : List TD → List Value → Prop
  | nil : SC [] []
  | int (k : IntKind) (n : Int) {ks : List TD} {vs : List Value} : SC ks vs → SC (.int k :: ks) (.int k n :: vs)
  | str (s : ByteArray) {ks : List TD} {vs : List Value} : SC ks vs → SC (.str :: ks) (.string s :: vs)
  | bool (b : Bool) {ks : List TD} {vs : List Value} : SC ks vs → SC (.bool :: ks) (.bool b :: vs)
def sEq : Value → Value → Bool
  | .int _ a, .int _ b => a == b
  | .string a, .string b => a == b
  | .bool a, .bool b => a == b
  | _, _ => false
def sEqs : List Value → List Value → Bool
  | a :: r, b :: q => sEq a b && sEqs r q
  | _, _ => true
theorem SC.length : ∀ {ks : List TD} {vs : List Value}, SC ks vs → vs.length = ks.length
  | _, _, .nil => rfl
  | _, _, .int _ _ h | _, _, .str _ h | _, _, .bool _ h => by simp [h.length]
theorem SC.split : ∀ {ks ls : List TD} {vs : List Value}, SC (ks ++ ls) vs → SC ks (vs.take ks.length) ∧ SC ls (vs.drop ks.length)
  | [], _, _, h => ⟨.nil, by simpa using h⟩
  | _ :: ks, _, _, h => by
    cases h with
    | int k n h => have := h.split; exact ⟨.int _ _ (by simpa using this.1), by simpa using this.2⟩
    | str s h => have := h.split; exact ⟨.str _ (by simpa using this.1), by simpa using this.2⟩
    | bool b h => have := h.split; exact ⟨.bool _ (by simpa using this.1), by simpa using this.2⟩
theorem sEqs_split : ∀ (n : Nat) (a b : List Value), sEqs a b = (sEqs (a.take n) (b.take n) && sEqs (a.drop n) (b.drop n))
  | 0, a, b => by simp [sEqs]
  | n + 1, [], b => by simp [sEqs]
  | n + 1, a :: r, [] => by simp [sEqs]
  | n + 1, a :: r, b :: q => by simp [sEqs, sEqs_split n r q, Bool.and_assoc]
theorem VPs.sc : ∀ {cs : List (PV X.U)} {vs : List Value} {ks : List TD}, VPs X cl w cs vs → kinds cs ks = true → SC ks vs ∧ flat vs = vs
  | [], _, [], .nil, _ => ⟨.nil, rfl⟩
  | v :: r, _, ks, .cons h1 h2 h3, hk => by
    cases ks with
    | nil => cases v <;> simp [kinds] at hk
    | cons k ks =>
      cases v <;> cases k <;> simp only [kinds, Bool.false_eq_true, Bool.and_eq_true, beq_iff_eq] at hk
      · cases h1; have := h3.sc hk; exact ⟨.bool _ this.1, by rw [flat_cons, this.2]; rfl⟩
      · cases h1; obtain ⟨rfl, hk⟩ := hk; have := h3.sc hk; exact ⟨.int _ _ this.1, by rw [flat_cons, this.2]; rfl⟩
      · cases h1; have := h3.sc hk; exact ⟨.str _ this.1, by rw [flat_cons, this.2]; rfl⟩
theorem eqs_sound : ∀ {a b : List (PV X.U)} {va vb : List Value} {ks : List TD} {e : Bool}, VPs X cl w a va → VPs X cl w b vb → kinds a ks = true → kinds b ks = true → eqs X a b = some e → e = sEqs va vb
  | [], b, _, _, _, _, _, _, _, _, h => by simp [eqs] at h
  | x :: r, [], _, _, _, _, _, _, _, _, h => by cases r <;> simp [eqs] at h
  | x :: r, y :: q, _, _, ks, e, .cons a1 a2 a3, .cons b1 b2 b3, hk, hl, h => by
    cases ks with
    | nil => cases x <;> simp [kinds] at hk
    | cons k ks =>
      have one : ∀ {z : Bool} {cx cy : Value}, VP X cl w x cx → VP X cl w y cy → eq1 X x y = some z → z = sEq cx cy := by
        intro z cx cy h1 h2 h3
        cases h1 <;> cases h2 <;> simp [eq1] at h3 <;> subst h3 <;> rfl
      have hk' : kinds r ks = true := by cases x <;> cases k <;> simp [kinds] at hk <;> first | exact hk | exact hk.2
      have hl' : kinds q ks = true := by cases y <;> cases k <;> simp [kinds] at hl <;> first | exact hl | exact hl.2
      cases r with
      | nil =>
        cases q with
        | nil => cases a3; cases b3; simp only [eqs] at h; simp [sEqs, one a1 b1 h]
        | cons y' q' => cases ks <;> simp [kinds] at hk' hl'
      | cons x' r' =>
        cases q with
        | nil => cases ks <;> simp [kinds] at hk' hl'
        | cons y' q' =>
          simp only [eqs] at h
          cases h1 : eq1 X x y with
          | none => simp [h1] at h
          | some z =>
            cases h2 : eqs X (x' :: r') (y' :: q') with
            | none => simp [h1, h2] at h
            | some z' =>
              simp only [h1, h2, Option.some.injEq] at h
              rw [← h, sEqs, one a1 b1 h1, eqs_sound a3 b3 hk' hl' h2]

theorem sc_nil {vs : List Value} (h : SC [] vs) : vs = [] := by cases h; rfl
theorem sc_int {k : IntKind} {vs : List Value} (h : SC [.int k] vs) : ∃ n, vs = [.int k n] := by
  cases h with | int _ n h => exact ⟨n, by rw [sc_nil h]⟩
theorem sc_str {vs : List Value} (h : SC [.str] vs) : ∃ n, vs = [.string n] := by
  cases h with | str n h => exact ⟨n, by rw [sc_nil h]⟩
theorem sc_bool {vs : List Value} (h : SC [.bool] vs) : ∃ n, vs = [.bool n] := by
  cases h with | bool n h => exact ⟨n, by rw [sc_nil h]⟩
/-- Cells as a value of a type. -/
def valOf (agg : Bool) (vs : List Value) : Value := if agg then .agg vs.toArray else vs.headD Go.undef

theorem flatTy_eq (hT : TOK P X) : ∀ (f d : Nat) (t : TypeId) (ks : List TD) (xs ys : List Value) (agg : Bool), flatTy X f t = some ks → SC ks xs → SC ks ys → f ≤ d →
    ((∃ fs n b, X.ty t = some ⟨.struct fs, n, b⟩) ↔ agg = true) → (Go.Op.equalIn (d + 1) t (valOf agg xs) (valOf agg ys)).run P w = .ok (sEqs xs ys) w
  | 0, _, _, _, _, _, _, h, _, _, _, _ => by simp [flatTy] at h
  | f + 1, d, t, ks, xs, ys, agg, h, hx, hy, hd, ha => by
    unfold flatTy at h
    split at h
    · rename_i fs n b hty
      have hagg : agg = true := ha.mp ⟨_, _, _, hty⟩
      subst hagg
      obtain ⟨info, dd, h1, h2, h3, h4, fa, rfl, hfa, hnm⟩ := hT.ty t _ hty
      cases hf : flatFs (flatTy X f) fs 0 with
      | none => simp [hf] at h
      | some ks' =>
        simp only [hf] at h
        split at h
        case isFalse => simp at h
        rename_i hn
        simp only [Option.some.injEq] at h; subst h
        have hfo : P.fieldsOf t = fa := by simp [Program.fieldsOf, h4]
        show (Go.Op.equalIn (d + 1) t (.agg xs.toArray) (.agg ys.toArray)).run P w = _
        rw [run_equalIn_struct w d t _ _ (by rw [hfo]; exact h4) (hT.eq t _ _ _ hty).1, hfo]
        have hsz := (hT.eq t _ _ _ hty).2.2
        -- field by field
        have key : ∀ (fl : List Field) (k : Nat) (ls : List TD), flatFs (flatTy X f) (fl.map fun f => (f.offset, f.type)) k = some ls → (∀ g ∈ fl, g.name ≠ "_") →
            SC ls (xs.drop k) → SC ls (ys.drop k) → (Go.Op.eqFields d xs.toArray ys.toArray fl).run P w = .ok (sEqs (xs.drop k) (ys.drop k)) w := by
          intro fl
          induction fl with
          | nil =>
            intro k ls hl _ s1 s2
            simp only [List.map_nil, flatFs, Option.some.injEq] at hl; subst hl
            have e1 : xs.drop k = [] := by cases hq : xs.drop k with | nil => rfl | cons _ _ => rw [hq] at s1; cases s1
            rw [e1]; simp [Go.Op.eqFields, sEqs]
          | cons g fl ih =>
            intro k ls hl hg s1 s2
            simp only [List.map_cons, flatFs] at hl
            split at hl
            case isFalse => simp at hl
            rename_i hoff
            cases hk1 : flatTy X f g.type with
            | none => simp [hk1] at hl
            | some k1 =>
              simp only [hk1] at hl
              cases hk2 : flatFs (flatTy X f) (fl.map fun f => (f.offset, f.type)) (k + k1.length) with
              | none => simp [hk2] at hl
              | some k2 =>
                simp only [hk2, Option.some.injEq] at hl; subst hl
                have sx := s1.split
                have sy := s2.split
                rw [List.drop_drop] at sx sy
                have hrec := ih (k + k1.length) k2 hk2 (fun g' hg' => hg g' (List.mem_cons_of_mem _ hg')) sx.2 sy.2
                have hpart : ∃ ag, ((∃ fs n b, X.ty g.type = some ⟨.struct fs, n, b⟩) ↔ ag = true) ∧
                    ∀ zs : List Value, SC k1 ((zs.drop k).take k1.length) → (part g.type zs.toArray g.offset).run P w = .ok (valOf ag ((zs.drop k).take k1.length)) w := by
                  cases f with
                  | zero => simp [flatTy] at hk1
                  | succ f =>
                    unfold flatTy at hk1
                    split at hk1
                    · rename_i fs' n' b' hty'
                      refine ⟨true, ⟨fun _ => rfl, fun _ => ⟨_, _, _, hty'⟩⟩, fun zs _ => ?_⟩
                      obtain ⟨info', dd', q1, q2, q3, q4, fa', rfl, _, _⟩ := hT.ty _ _ hty'
                      have hn' : k1.length = n' := by
                        split at hk1
                        · split at hk1
                          · simp only [Option.some.injEq] at hk1; subst hk1; assumption
                          · simp at hk1
                        · simp at hk1
                      simp [part, isAgg, run_underlying q4, sizeOf, typeInfo, q1, valOf, hoff, q2, hn']
                    all_goals first
                      | (simp only [reduceCtorEq] at hk1; done)
                      | (rename_i hty'
                         refine ⟨false, ⟨fun ⟨_, _, _, e⟩ => (by rw [hty'] at e; cases e), fun e => (by cases e)⟩, fun zs sz => ?_⟩
                         obtain ⟨info', dd', q1, q2, q3, q4, q5⟩ := hT.ty _ _ hty'
                         simp only [tdOf] at q5; subst q5
                         simp only [Option.some.injEq] at hk1; subst hk1
                         have hlen := sz.length
                         simp only [List.length_cons, List.length_nil, List.length_take, List.length_drop] at hlen
                         have hlt : k < zs.length := by omega
                         simp only [part, isAgg, Sem.run_bind, run_underlying q4, Result.andThen_ok, Sem.run_pure, Bool.false_eq_true, if_false, hoff, List.getElem?_toArray, List.getElem?_eq_getElem hlt]
                         have : valOf false ((zs.drop k).take 1) = zs[k] := by
                           rw [List.drop_eq_getElem_cons hlt]; rfl
                         simp only [List.length_cons, List.length_nil, Nat.zero_add]
                         rw [this])
                obtain ⟨ag, hag, hpart⟩ := hpart
                simp only [Go.Op.eqFields, hg g List.mem_cons_self, ne_eq, not_false_eq_true, if_true, Sem.run_bind, hpart xs sx.1, hpart ys sy.1, Result.andThen_ok]
                obtain ⟨d', rfl⟩ : ∃ d', d = d' + 1 := ⟨d - 1, by omega⟩
                rw [flatTy_eq hT f d' g.type k1 _ _ ag hk1 sx.1 sy.1 (by omega) hag]
                simp only [Result.andThen_ok, Sem.run_ite, hrec, Sem.run_pure]
                rw [sEqs_split k1.length (xs.drop k), List.drop_drop, List.drop_drop]
                cases sEqs ((xs.drop k).take k1.length) ((ys.drop k).take k1.length) <;> simp
        have := key fa.toList 0 ks' (by rw [hfa]; exact hf) hnm (by simpa using hx) (by simpa using hy)
        simpa using this
    all_goals first
      | (simp only [reduceCtorEq] at h; done)
      | (rename_i hty
         obtain ⟨info, dd, h1, h2, h3, h4, h5⟩ := hT.ty t _ hty
         simp only [tdOf] at h5; subst h5
         simp only [Option.some.injEq] at h; subst h
         have hagg : agg = false := (by cases agg with | false => rfl | true => obtain ⟨_, _, _, e⟩ := ha.mpr rfl; rw [hty] at e; cases e)
         subst hagg
         first
         | (obtain ⟨a, rfl⟩ := sc_int hx; obtain ⟨b, rfl⟩ := sc_int hy
            simp [valOf, sEqs, sEq, run_equalIn_int w d t _ _ _ _ h4])
         | (obtain ⟨a, rfl⟩ := sc_str hx; obtain ⟨b, rfl⟩ := sc_str hy
            simp [valOf, sEqs, sEq, run_equalIn_string w d t _ _ h4, beq_toListBytes])
         | (obtain ⟨a, rfl⟩ := sc_bool hx; obtain ⟨b, rfl⟩ := sc_bool hy
            simp [valOf, sEqs, sEq, run_equalIn_bool w d t _ _ h4]))
end Go.AX
