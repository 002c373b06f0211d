/-
  Branches, loops, scopes, whole functions: what the reckoning machine answers is what the program's function answers.
-/
import Derived.Test.YtepekanlplbciaaAxDraw
import Derived.ScopeJumps
namespace Go.AX
open Go
variable {X : Univ} {P : Program} {cl cl' m : Nat → Nat} {w w' : World} {B : Base} {s s' : St X.U} {tm : Array Value} {ρ : Type} {N : Nat} {a : Act}

/-! Code. -/
def Post (B : Base) (N : Nat) (K : Ex → St X.U → Option ρ) (r : ρ) : Exit → Act → World → Prop
  | .normal, a, w => ∃ s, K .nxt s = some r ∧ Good B N s a w
  | .exit i, a, w => ∃ s, K (.exit i) s = some r ∧ Good B N s a w
  | .goto l, a, w => ∃ s, K (.goto l) s = some r ∧ Good B N s a w
  | .ret, a, w => ∃ s, K .ret s = some r ∧ Good B N s a w
  | .panic _, _, _ => False
  | .outgrown, _, _ => False

theorem Good.nrm (h : Good B N s a w) (xl : Nat → Ex → Option (List Nat × List Nat)) (id : Nat) (e : Ex) : Good B N (Go.AX.nrm xl id e s) a w := by
  unfold Go.AX.nrm
  split
  · exact h.keep _ _
  · exact h
theorem Post.nrm {c : Cfg X ρ} {id : Nat} {K : Ex → St X.U → Option ρ} {r : ρ} {e : Exit} (h : Post B N (nrmK X c id K) r e a w) : Post B N K r e a w := by
  cases e with
  | normal => obtain ⟨s, h1, h2⟩ := h; exact ⟨_, h1, h2.nrm _ _ _⟩
  | exit i => obtain ⟨s, h1, h2⟩ := h; exact ⟨_, h1, h2.nrm _ _ _⟩
  | goto l => obtain ⟨s, h1, h2⟩ := h; exact ⟨_, h1, h2.nrm _ _ _⟩
  | ret => obtain ⟨s, h1, h2⟩ := h; exact ⟨_, h1, h2.nrm _ _ _⟩
  | panic ch => exact h
  | outgrown => exact h

/-- The semantics f is that of the code. -/
def Sound (P : Program) (N : Nat) (f : Run X ρ) (c : Code) : Prop :=
  ∀ (B : Base) (s : St X.U) (K : Ex → St X.U → Option ρ) (r : ρ) (a : Act) (w : World), f s K = some r → Good B N s a w → c.wp P (Post B N K r) a w

def loopsOf : Code → List Code
  | .seq a b | .cond _ a b => loopsOf a ++ loopsOf b
  | .block _ b | .scope b => loopsOf b
  | .loop b => b :: loopsOf b
  | _ => []
def scopesOf : Code → List Code
  | .seq a b | .cond _ a b => scopesOf a ++ scopesOf b
  | .block _ b | .loop b => scopesOf b
  | .scope b => b :: scopesOf b
  | _ => []
def joinsOf : Code → List Code
  | .seq a b => b :: (joinsOf a ++ joinsOf b)
  | .cond _ a b => a :: b :: (joinsOf a ++ joinsOf b)
  | .block _ b | .loop b | .scope b => joinsOf b
  | _ => []

/-- What the summaries say is what they stand for. -/
structure COK (c : Cfg X ρ) (G : Ans X ρ) (code : Code) : Prop where
  loops : ∀ b ∈ loopsOf code, ∀ id g, firstR b = some id → c.loops id = some g → ∀ s K r, g s K = some r → ∃ n, iterK X (fun s => s.at c.live c.boxes (some id)) (exec X c G b) n s (nrmK X c id K) = some r
  labels : ∀ b ∈ scopesOf code, ∀ l f g, suff X c G b l = some f → c.labels l = some g → ∀ s K r, g s K = some r → ∃ n, scopeN X (fun l s => s.at c.live c.boxes (some (c.labelR l))) (suff X c G b) (fun l => (c.labels l).isSome) n f s (nrmK X c (c.labelR l) K) = some r
  joins : ∀ b ∈ joinsOf code, ∀ id g, firstR b = some id → c.joins id = some g → ∀ s K r, g s K = some r → exec X c G b s (nrmK X c id K) = some r

theorem iter_sound {nf : St X.U → St X.U} (hnf : ∀ (B : Base) (s : St X.U) (a : Act) (w : World), Good B N s a w → Good B N (nf s) a w) {f : Run X ρ} {b : Code} (hf : Sound P N f b) : ∀ (n : Nat), Sound P N (iterK X nf f n) (.loop b) := by
  intro n B s K r a w h hg bf k cs
  have key : ∀ n s a w, iterK X nf f n s K = some r → Good B N s a w → ∃ e a' w', Post B N K r e a' w' ∧ Arrives P (lone (bf.at a (.code b :: .inLoop b :: k)) cs w) bf k cs e a' w' := by
    intro n
    induction n with
    | zero => intro s a w h; cases h
    | succ n ih =>
      intro s a w h hg
      simp only [iterK] at h
      obtain ⟨e, a1, w1, hq, harr⟩ := hf B s _ r a w h hg bf (.inLoop b :: k) cs
      cases e with
      | normal =>
        obtain ⟨s1, h1, g1⟩ := hq
        obtain ⟨e2, a2, w2, hq2, harr2⟩ := ih _ a1 w1 h1 (hnf _ _ _ _ g1)
        exact ⟨e2, a2, w2, hq2, .of_steps (Steps.trans harr (.one step_inLoop)) harr2⟩
      | exit id => obtain ⟨s1, h1, g1⟩ := hq; exact ⟨.exit id, a1, w1, ⟨s1, h1, g1⟩, .pass (x := .inLoop b) rfl (fun _ _ => .inl (by simp)) harr⟩
      | goto l => obtain ⟨s1, h1, g1⟩ := hq; exact ⟨.goto l, a1, w1, ⟨s1, h1, g1⟩, .pass (x := .inLoop b) rfl (fun _ _ => .inl (by simp)) harr⟩
      | ret => obtain ⟨s1, h1, g1⟩ := hq; exact ⟨.ret, a1, w1, ⟨s1, h1, g1⟩, .pass (x := .inLoop b) rfl (fun _ _ => .inl (by simp)) harr⟩
      | panic ch => exact hq.elim
      | outgrown => exact hq.elim
  obtain ⟨e, a', w', hq, harr⟩ := key n s a w h hg
  exact ⟨e, a', w', hq, .of_steps (.one step_loop) harr⟩

/-- From some code inside a scope. -/
def Inside (P : Program) (N : Nat) (f : Run X ρ) (c b : Code) : Prop :=
  ∀ (B : Base) (s : St X.U) (K : Ex → St X.U → Option ρ) (r : ρ) (a : Act) (w : World), f s K = some r → Good B N s a w → ∀ (bf : Frame) (k : List Item) (cs : List Frame),
    ∃ e a' w', Post B N K r e a' w' ∧ Arrives P (lone (bf.at a (.code c :: .inScope b :: k)) cs w) bf k cs e a' w'

theorem hop_sound {J Bk : Nat → Option (Run X ρ)} {b : Code} (hJ : ∀ l f, J l = some f → ∃ c, findLabel b l = some c ∧ Sound P N f c) (hJn : ∀ l, J l = none → findLabel b l = none)
    (hB : ∀ l g, Bk l = some g → ∃ c, findLabel b l = some c ∧ Inside P N g c b) : ∀ (n : Nat) (f : Run X ρ) (c : Code), Sound P N f c → Inside P N (hopK X J Bk n f) c b
  | 0, f, c, _ => fun B s K r a w h => by cases h
  | n + 1, f, c, hf => by
    intro B s K r a w h hg bf k cs
    simp only [hopK] at h
    obtain ⟨e, a1, w1, hq, harr⟩ := hf B s _ r a w h hg bf (.inScope b :: k) cs
    cases e with
    | normal =>
      obtain ⟨s1, h1, g1⟩ := hq
      exact ⟨.normal, a1, w1, ⟨s1, h1, g1⟩, Steps.trans harr (.one step_inScope)⟩
    | exit id => obtain ⟨s1, h1, g1⟩ := hq; exact ⟨.exit id, a1, w1, ⟨s1, h1, g1⟩, fun k' hk => harr k' (by simp [exitTo, hk])⟩
    | goto l =>
      obtain ⟨s1, h1, g1⟩ := hq
      simp only at h1
      have jump : ∀ c', findLabel b l = some c' → Steps P (lone (bf.at a (.code c :: .inScope b :: k)) cs w) (lone (bf.at a1 (.code c' :: .inScope b :: k)) cs w1) := fun c' hc => harr _ (by simp [gotoIn, hc])
      split at h1
      · rename_i g hg'
        obtain ⟨c', hc, hin⟩ := hB l g hg'
        obtain ⟨e2, a2, w2, hq2, harr2⟩ := hin B s1 K r a1 w1 h1 g1 bf k cs
        exact ⟨e2, a2, w2, hq2, .of_steps (jump c' hc) harr2⟩
      · split at h1
        · rename_i g hg'
          obtain ⟨c', hc, hs⟩ := hJ l g hg'
          obtain ⟨e2, a2, w2, hq2, harr2⟩ := hop_sound hJ hJn hB n g c' hs B s1 K r a1 w1 h1 g1 bf k cs
          exact ⟨e2, a2, w2, hq2, .of_steps (jump c' hc) harr2⟩
        · rename_i hn
          exact ⟨.goto l, a1, w1, ⟨s1, h1, g1⟩, fun k' hk => harr k' (by simp [gotoIn, hJn l hn, hk])⟩
    | ret => obtain ⟨s1, h1, g1⟩ := hq; exact ⟨.ret, a1, w1, ⟨s1, h1, g1⟩, harr⟩
    | panic ch => exact hq.elim
    | outgrown => exact hq.elim

theorem scopeN_sound {nf : Nat → St X.U → St X.U} (hnf : ∀ (l : Nat) (B : Base) (s : St X.U) (a : Act) (w : World), Good B N s a w → Good B N (nf l s) a w) {J : Nat → Option (Run X ρ)} {back : Nat → Bool} {b : Code} (hJ : ∀ l f, J l = some f → ∃ c, findLabel b l = some c ∧ Sound P N f c) (hJn : ∀ l, J l = none → findLabel b l = none) :
    ∀ (n : Nat) (f : Run X ρ) (c : Code), Sound P N f c → Inside P N (scopeN X nf J back n f) c b
  | 0, f, c, _ => fun B s K r a w h => by cases h
  | n + 1, f, c, hf => by
    refine hop_sound hJ hJn (fun l g hg => ?_) 9 f c hf
    split at hg
    · split at hg
      · rename_i g' hg'
        cases hg
        obtain ⟨c', hc, hs⟩ := hJ l g' hg'
        exact ⟨c', hc, fun B s K r a w h hg => scopeN_sound hnf hJ hJn n g' c' hs B _ K r a w h (hnf l _ _ _ _ hg)⟩
      · cases hg
    · cases hg

theorem join_sound {G : Ans X ρ} {c : Cfg X ρ} {top y : Code} (hC : COK c G top) (f1 : Sound P N (exec X c G y) y) (hm : y ∈ joinsOf top) : Sound P N (fun s K => joinK X c (exec X c G y) (firstR y) (s.at c.live c.boxes (firstR y)) K) y := by
  intro B s K r a w q1 q2
  simp only at q1
  cases hfr : firstR y with
  | none => rw [hfr] at q1; exact f1 B _ K r a w q1 (q2.at _ _ _)
  | some id =>
    rw [hfr] at q1
    unfold joinK at q1
    simp only at q1
    split at q1
    · rename_i gj hgj
      have := hC.joins y hm id gj hfr hgj _ _ _ q1
      exact wp_mono (f1 B _ _ r a w this (q2.at _ _ _)) fun e a w hq => hq.nrm
    · exact f1 B _ K r a w q1 (q2.at _ _ _)

theorem exec_sound (hX : XOK X) (hT : TOK P X) {G : Ans X ρ} (hG : GOK P G) {c : Cfg X ρ} (hN : c.n = N) {top : Code} (hC : COK c G top) : ∀ (code : Code),
    (∀ b ∈ loopsOf code, b ∈ loopsOf top) → (∀ b ∈ scopesOf code, b ∈ scopesOf top) → (∀ b ∈ joinsOf code, b ∈ joinsOf top) →
    Sound P N (exec X c G code) code ∧ (∀ l f, suff X c G code l = some f → ∃ c', findLabel code l = some c' ∧ Sound P N f c') ∧ (∀ l, suff X c G code l = none → findLabel code l = none)
  | .skip, _, _, _ => ⟨fun B s K r a w h hg => wp_skip ⟨s, h, hg⟩, (fun l f h => by cases h), fun l _ => rfl⟩
  | .label l', _, _, _ => by
    refine ⟨fun B s K r a w h hg => wp_label ⟨s, h, hg⟩, fun l f h => ?_, fun l h => ?_⟩
    · simp only [suff] at h
      split at h
      · rename_i e; cases h
        exact ⟨.skip, by simp [findLabel, e], fun B s K r a w h hg => wp_skip ⟨s, h, hg⟩⟩
      · cases h
    · simp only [suff] at h
      split at h
      · cases h
      · rename_i e; simp [findLabel, e]
  | .region id ops draw, _, _, _ => by
    refine ⟨fun B s K r a w h hg => ?_, (fun l f h => by cases h), fun l _ => rfl⟩
    simp only [exec] at h
    cases draw with
    | false =>
      refine wp_region ?_
      have := runK_sound hX hT hG (ops := ops) (Q := Post B N K r) (fun s a w h1 h2 => ⟨s, h1, h2⟩) ops.toList [] _ a w rfl (hN ▸ h) (hg.keep _ _)
      simpa [List.range_eq_range'] using this
    | true =>
      simp only at h
      obtain ⟨cl, m, hR, hN', hD⟩ := hg.keep (c.live id) (c.boxes id)
      obtain ⟨cl', s1, t1, t2, _⟩ := tellAll hX ((c.tk (2000000 + id)).map fun i => (Lc.slot i, false)) _ cl (fun p hp => by
        obtain ⟨i, _, rfl⟩ := List.mem_map.1 hp; exact ⟨rfl, i, rfl⟩) hR
      rw [t1] at h
      simp only at h
      split at h
      case isFalse => cases h
      rename_i hf
      exact draw_sound hX hT hG (fun s a w h1 h2 => ⟨s, h1, h2⟩) hf (hN ▸ h) ⟨cl', m, t2, hN', hD⟩
  | .seq x y, h1, h2, h3 => by
    obtain ⟨e1, e2, e3⟩ := exec_sound hX hT hG hN hC x (fun b hb => h1 b (by simp [loopsOf, hb])) (fun b hb => h2 b (by simp [scopesOf, hb])) (fun b hb => h3 b (by simp [joinsOf, hb]))
    obtain ⟨f1, f2, f3⟩ := exec_sound hX hT hG hN hC y (fun b hb => h1 b (by simp [loopsOf, hb])) (fun b hb => h2 b (by simp [scopesOf, hb])) (fun b hb => h3 b (by simp [joinsOf, hb]))
    have hj := join_sound hC f1 (h3 y (by simp [joinsOf]))
    have hseq : ∀ (g : Run X ρ) (x' : Code), Sound P N g x' → Sound P N (fun s K => g s fun e s' => match e with
        | .nxt => joinK X c (exec X c G y) (firstR y) (s'.at c.live c.boxes (firstR y)) K
        | e => K e s') (.seq x' y) := by
      intro g x' hg' B s K r a w h hg
      refine wp_seq (wp_mono (hg' B s _ r a w h hg) fun e a' w' hq => ?_)
      cases e with
      | normal =>
        obtain ⟨s1, q1, q2⟩ := hq
        exact hj B s1 K r a' w' q1 q2
      | exit id => obtain ⟨s1, q1, q2⟩ := hq; exact ⟨s1, q1, q2⟩
      | goto l => obtain ⟨s1, q1, q2⟩ := hq; exact ⟨s1, q1, q2⟩
      | ret => obtain ⟨s1, q1, q2⟩ := hq; exact ⟨s1, q1, q2⟩
      | panic ch => exact hq.elim
      | outgrown => exact hq.elim
    refine ⟨fun B s K r a w h hg => hseq _ x e1 B s K r a w h hg, fun l f h => ?_, fun l h => ?_⟩
    · simp only [suff] at h
      split at h
      · rename_i g hg
        cases h
        obtain ⟨c', k1, k2⟩ := e2 l g hg
        exact ⟨.seq c' y, by simp [findLabel, k1], hseq g c' k2⟩
      · rename_i hn
        obtain ⟨c', k1, k2⟩ := f2 l f h
        exact ⟨c', by simp [findLabel, e3 l hn, k1], k2⟩
    · simp only [suff] at h
      split at h
      · cases h
      · rename_i hn
        simp [findLabel, e3 l hn, f3 l h]
  | .cond x t e, h1, h2, h3 => by
    obtain ⟨e1, _, _⟩ := exec_sound hX hT hG hN hC t (fun b hb => h1 b (by simp [loopsOf, hb])) (fun b hb => h2 b (by simp [scopesOf, hb])) (fun b hb => h3 b (by simp [joinsOf, hb]))
    obtain ⟨f1, _, _⟩ := exec_sound hX hT hG hN hC e (fun b hb => h1 b (by simp [loopsOf, hb])) (fun b hb => h2 b (by simp [scopesOf, hb])) (fun b hb => h3 b (by simp [joinsOf, hb]))
    refine ⟨fun B s K r a w h hg => ?_, (fun l f h => by cases h), fun l _ => rfl⟩
    simp only [exec] at h
    split at h
    case h_2 => cases h
    rename_i b hb
    have hev : a.eval x = .bool b := by
      obtain ⟨cl, m, hR, _⟩ := hg
      have := evV hX hR 4 x; rw [hb] at this; exact bool_inv this
    refine wp_cond hev ?_
    have je := join_sound hC e1 (h3 t (by simp [joinsOf]))
    have jf := join_sound hC f1 (h3 e (by simp [joinsOf]))
    split at h
    · rename_i i
      have hl : s.look i = .pv (.bool b) := by
        simp only [St.ev, St.rd] at hb
        split at hb
        · cases hb
        · cases hb
        · exact hb
      cases b with
      | true => exact je B _ K r a w (by simpa using h) (hg.lit hl)
      | false => exact jf B _ K r a w (by simpa using h) (hg.lit hl)
    · cases b with
      | true => exact je B _ K r a w (by simpa using h) hg
      | false => exact jf B _ K r a w (by simpa using h) hg
  | .block id b, h1, h2, h3 => by
    obtain ⟨e1, _, _⟩ := exec_sound hX hT hG hN hC b h1 h2 h3
    refine ⟨fun B s K r a w h hg => ?_, (fun l f h => by cases h), fun l _ => rfl⟩
    simp only [exec] at h
    refine wp_block (wp_mono (e1 B s _ r a w h hg) fun e a' w' hq => ?_)
    cases e with
    | exit i =>
      obtain ⟨s1, q1, q2⟩ := hq
      simp only at q1
      simp only [Exit.inBlock]
      split at q1
      · rename_i e; rw [if_pos e]; exact ⟨s1, q1, q2⟩
      · rename_i e; rw [if_neg e]; exact ⟨s1, q1, q2⟩
    | normal => obtain ⟨s1, q1, q2⟩ := hq; exact ⟨s1, q1, q2⟩
    | goto l => obtain ⟨s1, q1, q2⟩ := hq; exact ⟨s1, q1, q2⟩
    | ret => obtain ⟨s1, q1, q2⟩ := hq; exact ⟨s1, q1, q2⟩
    | panic ch => exact hq.elim
    | outgrown => exact hq.elim
  | .loop b, h1, h2, h3 => by
    obtain ⟨e1, _, _⟩ := exec_sound hX hT hG hN hC b (fun b' hb => h1 b' (by simp [loopsOf, hb])) h2 h3
    refine ⟨fun B s K r a w h hg => ?_, (fun l f h => by cases h), fun l _ => rfl⟩
    simp only [exec] at h
    split at h
    case h_2 => cases h
    rename_i id hfr
    split at h
    case h_2 => cases h
    rename_i g hgl
    obtain ⟨n, hn⟩ := hC.loops b (h1 b (by simp [loopsOf])) id g hfr hgl _ _ _ h
    exact wp_mono (iter_sound (fun B s a w hg => hg.at _ _ _) e1 n B _ _ r a w hn (hg.at _ _ _)) fun e a w hq => hq.nrm
  | .scope b, h1, h2, h3 => by
    obtain ⟨e1, e2, e3⟩ := exec_sound hX hT hG hN hC b h1 (fun b' hb => h2 b' (by simp [scopesOf, hb])) h3
    refine ⟨fun B s K r a w h hg bf k cs => ?_, (fun l f h => by cases h), fun l _ => rfl⟩
    simp only [exec] at h
    have hin := hop_sound (P := P) (N := N) e2 e3 (Bk := fun l => match suff X c G b l, c.labels l with | some _, some g => some fun s K => g (s.at c.live c.boxes (some (c.labelR l))) K | _, _ => none) (fun l g hgl => by
      split at hgl
      · rename_i f g' hf hg'
        cases hgl
        obtain ⟨c', k1, k2⟩ := e2 l f hf
        refine ⟨c', k1, fun B s K r a w hh hgood => ?_⟩
        obtain ⟨n, q2⟩ := hC.labels b (h2 b (by simp [scopesOf])) l f g' hf hg' _ _ _ hh
        intro bf k cs
        obtain ⟨e, a', w', z1, z2⟩ := scopeN_sound (fun l B s a w hg => hg.at _ _ _) e2 e3 n f c' k2 B _ _ r a w q2 (hgood.at _ _ _) bf k cs
        exact ⟨e, a', w', z1.nrm, z2⟩
      · cases hgl) 9 (exec X c G b) b e1 B s K r a w h hg bf k cs
    obtain ⟨e, a', w', hq, harr⟩ := hin
    exact ⟨e, a', w', hq, .of_steps (.one step_scope) harr⟩
  | .exit i, _, _, _ => ⟨fun B s K r a w h hg => wp_exit ⟨s, h, hg⟩, (fun l f h => by cases h), fun l _ => rfl⟩
  | .goto i, _, _, _ => ⟨fun B s K r a w h hg => wp_goto ⟨s, h, hg⟩, (fun l f h => by cases h), fun l _ => rfl⟩
  | .ret, _, _, _ => ⟨fun B s K r a w h hg => wp_ret ⟨s, h, hg⟩, (fun l f h => by cases h), fun l _ => rfl⟩
  | .refuse _, _, _, _ => ⟨(fun B s K r a w h => by cases h), (fun l f h => by cases h), fun l _ => rfl⟩
  | .rangeFunc _ _ _ _, _, _, _ => ⟨(fun B s K r a w h => by cases h), (fun l f h => by cases h), fun l _ => rfl⟩

/-! Loops by their equations. -/
theorem iter_rec {V : Type} {nf : St X.U → St X.U} {f : Run X ρ} {K : Ex → St X.U → Option ρ} (st : V → St X.U) (b : (V → Option ρ) → V → Option ρ) (l : Nat → V → Option ρ)
    (hb : ∀ n v, iterK X nf f (n + 1) (st v) K = b (fun v' => iterK X nf f n (st v') K) v) (h0 : ∀ v, l 0 v = none) (hs : ∀ n v, l (n + 1) v = b (l n) v) : ∀ n v, iterK X nf f n (st v) K = l n v
  | 0, v => (h0 v).symm
  | n + 1, v => by rw [hb, hs]; congr 1; funext v'; exact iter_rec st b l hb h0 hs n v'
theorem scope_rec {V : Type} {nf : Nat → St X.U → St X.U} {J : Nat → Option (Run X ρ)} {back : Nat → Bool} (f : V → Run X ρ) {K : Ex → St X.U → Option ρ} (st : V → St X.U) (b : (V → Option ρ) → V → Option ρ) (l : Nat → V → Option ρ)
    (hb : ∀ n v, scopeN X nf J back (n + 1) (f v) (st v) K = b (fun v' => scopeN X nf J back n (f v') (st v') K) v) (h0 : ∀ v, l 0 v = none) (hs : ∀ n v, l (n + 1) v = b (l n) v) : ∀ n v, scopeN X nf J back n (f v) (st v) K = l n v
  | 0, v => (h0 v).symm
  | n + 1, v => by rw [hb, hs]; congr 1; funext v'; exact scope_rec f st b l hb h0 hs n v'
end Go.AX
