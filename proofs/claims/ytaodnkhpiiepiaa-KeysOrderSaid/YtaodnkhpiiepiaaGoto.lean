/-
  A walk through a scope with labels: what holds at every jump to a label, with a number that every jump lowers (backward jumps); a jump goes on with what stands behind the label (forward jumps).
-/
import Derived.ScopeJumps
import Derived.Deep.LoopGhost
import Derived.WalkMore
import Derived.Test.YtaodnkhpiiepiaaWWords
namespace Go.Proofs.YtaodnkhpiiepiaaG
open Go

/-- From what stands behind a label of the scope c the run comes to an ending of which Q speaks, or to a jump that G lets out. -/
def Goes (P : Program) (c : Code) (G : Nat → Act → World → Prop) (rest : Code) (Q : Exit → Act → World → Prop) (a : Act) (w : World) : Prop :=
  ∀ (b : Frame) (k : List Item) (cs : List Frame), ∃ e a' w',
    (match e with | .goto l => G l a' w' ∨ (findLabel c l = none ∧ Q (.goto l) a' w') | e => Q e a' w') ∧ Arrives P (lone (b.at a (.code rest :: .inScope c :: k)) cs w) b (.inScope c :: k) cs e a' w'

/-- The post of code inside the scope c. -/
def Post (P : Program) (c : Code) (G : Nat → Act → World → Prop) (Q : Exit → Act → World → Prop) : Exit → Act → World → Prop
  | .goto l, a, w => (G l a w ∨ (findLabel c l = none ∧ Q (.goto l) a w)) ∨ ∃ rest, findLabel c l = some rest ∧ Goes P c G rest Q a w
  | e, a, w => Q e a w

section
variable {P : Program} {c : Code} {Q : Exit → Act → World → Prop} {G : Nat → Act → World → Prop} {a : Act} {w : World}

theorem gotoIn_scope {l : Nat} {rest : Code} (hf : findLabel c l = some rest) (k : List Item) : gotoIn l (.inScope c :: k) = some (.code rest :: .inScope c :: k) := by simp [gotoIn, hf]

theorem goes_of {rest : Code} (h : rest.wp P (Post P c G Q) a w) : Goes P c G rest Q a w := by
  intro b k cs
  obtain ⟨e, a₁, w₁, hq, harr⟩ := h b (.inScope c :: k) cs
  cases e with
  | goto l =>
    rcases hq with hq | ⟨r, hf, hg⟩
    · exact ⟨.goto l, a₁, w₁, hq, harr⟩
    · obtain ⟨e₂, a₂, w₂, hq₂, harr₂⟩ := hg b k cs
      exact ⟨e₂, a₂, w₂, hq₂, .of_steps (harr _ (gotoIn_scope hf k)) harr₂⟩
  | normal => exact ⟨_, a₁, w₁, hq, harr⟩
  | exit id => exact ⟨_, a₁, w₁, hq, harr⟩
  | ret => exact ⟨_, a₁, w₁, hq, harr⟩
  | panic ch => exact ⟨_, a₁, w₁, hq, harr⟩
  | outgrown => exact ⟨_, a₁, w₁, hq, harr⟩

theorem post_ret (hq : Q .ret a w) : Post P c G Q .ret a w := hq
theorem post_normal (hq : Q .normal a w) : Post P c G Q .normal a w := hq
theorem post_exit {id : Nat} (hq : Q (.exit id) a w) : Post P c G Q (.exit id) a w := hq
theorem post_out {l : Nat} (hf : findLabel c l = none) (hq : Q (.goto l) a w) : Post P c G Q (.goto l) a w := .inl (.inr ⟨hf, hq⟩)
/-- A jump goes on with what stands behind its label. -/
theorem hop {l : Nat} {rest : Code} (hf : findLabel c l = some rest) (hq : rest.wp P (Post P c G Q) a w) : Post P c G Q (.goto l) a w := .inr ⟨rest, hf, goes_of hq⟩

theorem wp_scope_in (C : Code) (hc : C = c) (h : ∀ G, c.wp P (Post P C G Q) a w) : (Code.scope c).wp P Q a w := by
  subst hc
  intro b k cs
  obtain ⟨e, a₁, w₁, hq, harr⟩ := goes_of (h fun _ _ _ => False) b k cs
  cases e with
  | normal => exact ⟨.normal, a₁, w₁, hq, .head step_scope (Steps.trans harr (.one step_inScope))⟩
  | exit id => exact ⟨.exit id, a₁, w₁, hq, fun k' hk => .head step_scope (harr k' (by simp [exitTo, hk]))⟩
  | goto l =>
    rcases hq with hq | ⟨hf, hq⟩
    · exact hq.elim
    · exact ⟨.goto l, a₁, w₁, hq, fun k' hk => .head step_scope (harr k' (by simp [gotoIn, hf, hk]))⟩
  | ret => exact ⟨_, a₁, w₁, hq, .of_steps (.one step_scope) harr⟩
  | panic ch => exact ⟨_, a₁, w₁, hq, .of_steps (.one step_scope) harr⟩
  | outgrown => exact ⟨_, a₁, w₁, hq, .of_steps (.one step_scope) harr⟩

theorem wp_skip_seq {X : Code} (h : X.wp P Q a w) : (Code.seq .skip X).wp P Q a w := wp_seq (wp_skip h)

/-- What stands behind a label to which the run jumps back: an invariant that bears a number. -/
theorem wp_label_loop (l : Nat) {R X : Code} (hf : findLabel c l = some R) (hR : R = Code.seq .skip X) {el : List Value} {D : List Deferred} (I : List Value → Nat → Act → World → Prop) (n₀ : Nat)
    (h₀ : I el n₀ ⟨el.toArray, D⟩ w)
    (round : ∀ n a w, I el n a w → ∀ (J : Nat → Act → World → Prop), (∀ k a' w', I el k a' w' → J k a' w') → ∀ G', (∀ a' w', Handed J n a' w' → Post P c G' Q (.goto l) a' w') →
      (∀ l' a' w', l' ≠ l → Post P c G Q (.goto l') a' w' → Post P c G' Q (.goto l') a' w') → X.wp P (Post P c G' Q) a w) : X.wp P (Post P c G Q) ⟨el.toArray, D⟩ w := by
  subst hR
  generalize ({ tmps := el.toArray, defers := D } : Act) = a at h₀ ⊢
  clear D
  have key : ∀ n a w, I el n a w → X.wp P (Post P c G Q) a w := by
    intro n
    induction n using Nat.strongRecOn with
    | _ n ih =>
      intro a w hI
      refine wp_mono (round n a w hI (I el) (fun _ _ _ h => h) (fun l' a' w' => (l' = l → Handed (I el) n a' w') ∧ (l' ≠ l → (Post P c G Q) (.goto l') a' w')) ?_ ?_) ?_
      · intro a' w' h
        exact .inl (.inl ⟨fun _ => h, fun h' => absurd rfl h'⟩)
      · intro l' a' w' hl h
        exact .inl (.inl ⟨fun h' => absurd h' hl, fun _ => h⟩)
      · have jump : ∀ l' a' w', ((l' = l → Handed (I el) n a' w') ∧ (l' ≠ l → (Post P c G Q) (.goto l') a' w')) → (Post P c G Q) (.goto l') a' w' := by
          intro l' a' w' h
          by_cases hl : l' = l
          · subst hl
            obtain ⟨n', hlt, hI'⟩ := h.1 rfl
            exact .inr ⟨_, hf, goes_of (wp_skip_seq (ih n' hlt a' w' hI'))⟩
          · exact h.2 hl
        have conv2 : ∀ rest a w, Goes P c (fun l' a' w' => (l' = l → Handed (I el) n a' w') ∧ (l' ≠ l → (Post P c G Q) (.goto l') a' w')) rest Q a w → Goes P c G rest Q a w := by
          intro rest a w h b k cs
          obtain ⟨e, a₁, w₁, hq, harr⟩ := h b k cs
          cases e with
          | goto l' =>
            rcases hq with hq | hq
            · rcases jump l' a₁ w₁ hq with hq | ⟨r, hf', hg⟩
              · exact ⟨.goto l', a₁, w₁, hq, harr⟩
              · obtain ⟨e₂, a₂, w₂, hq₂, harr₂⟩ := hg b k cs
                exact ⟨e₂, a₂, w₂, hq₂, .of_steps (harr _ (gotoIn_scope hf' k)) harr₂⟩
            · exact ⟨.goto l', a₁, w₁, .inr hq, harr⟩
          | normal => exact ⟨_, a₁, w₁, hq, harr⟩
          | exit id => exact ⟨_, a₁, w₁, hq, harr⟩
          | ret => exact ⟨_, a₁, w₁, hq, harr⟩
          | panic ch => exact ⟨_, a₁, w₁, hq, harr⟩
          | outgrown => exact ⟨_, a₁, w₁, hq, harr⟩
        intro e a' w' hq
        cases e with
        | goto l' =>
          rcases hq with (hq | hq) | ⟨r, hf', hg⟩
          · exact jump l' a' w' hq
          · exact .inl (.inr hq)
          · exact .inr ⟨r, hf', conv2 _ _ _ hg⟩
        | normal => exact hq
        | exit id => exact hq
        | ret => exact hq
        | panic ch => exact hq
        | outgrown => exact hq
  exact key n₀ a w h₀
end
/-- Sums of small unsigned numbers, as the walk spells them. -/
theorem u32_w (n : Int) : IntKind.u32.wrap n = n % 4294967296 := by simp [IntKind.wrap, IntKind.bits, IntKind.signed]
theorem u8_w (n : Int) : IntKind.u8.wrap n = n % 256 := by simp [IntKind.wrap, IntKind.bits, IntKind.signed]

theorem w64_m8 (x : Int) : Go.RowKit.wrap64 (x % 256) = x % 256 := by unfold Go.RowKit.wrap64; omega
theorem w64_m32 (x : Int) : Go.RowKit.wrap64 (x % 4294967296) = x % 4294967296 := by unfold Go.RowKit.wrap64; omega
theorem w64_bt (s : ByteArray) (i : Int) : Go.RowKit.wrap64 (Go.Proofs.YtaodnkhpiiepiaaW.PrintWords.bt s i) = Go.Proofs.YtaodnkhpiiepiaaW.PrintWords.bt s i := by have := Go.Proofs.YtaodnkhpiiepiaaW.PrintWords.bt_range s i; unfold Go.RowKit.wrap64; omega
/-- The code on the way to a scope. -/
def sub1 : Code → Code
  | .seq a _ => a | .cond _ a _ => a | .block _ c => c | .loop c => c | .scope c => c | _ => .skip
def sub2 : Code → Code
  | .seq _ b => b | .cond _ _ b => b | _ => .skip

/-- A slot of a frame. -/
def gt : List Value → Nat → Value
  | a :: _, 0 => a
  | _ :: l, n + 1 => gt l n
  | [], _ => undef
theorem gt_zero (a : Value) (l : List Value) : gt (a :: l) 0 = a := rfl
theorem gt_succ (a : Value) (l : List Value) (n : Nat) : gt (a :: l) (n + 1) = gt l n := rfl
end Go.Proofs.YtaodnkhpiiepiaaG
