/-
  Layer 20: statements as they are read, by rules; what is read by them is what the printed functions answer, given time enough; something is always read.
-/
import Derived.Test.YtepekanlplbciaaQPs3
namespace Go.Proofs.Ytepekanlplbciaa.Q
open Go Go.AX

abbrev kTable : ByteArray := (⟨#[116, 97, 98, 108, 101]⟩ : ByteArray)
abbrev kUsing : ByteArray := (⟨#[117, 115, 105, 110, 103]⟩ : ByteArray)
abbrev kRtree : ByteArray := (⟨#[114, 116, 114, 101, 101]⟩ : ByteArray)
abbrev kUnique : ByteArray := (⟨#[117, 110, 105, 113, 117, 101]⟩ : ByteArray)
abbrev kIndex : ByteArray := (⟨#[105, 110, 100, 101, 120]⟩ : ByteArray)
abbrev kOn : ByteArray := (⟨#[111, 110]⟩ : ByteArray)
abbrev kInto : ByteArray := (⟨#[105, 110, 116, 111]⟩ : ByteArray)
abbrev kValues : ByteArray := (⟨#[118, 97, 108, 117, 101, 115]⟩ : ByteArray)
abbrev kSet : ByteArray := (⟨#[115, 101, 116]⟩ : ByteArray)
abbrev kWhere : ByteArray := (⟨#[119, 104, 101, 114, 101]⟩ : ByteArray)
abbrev kFrom : ByteArray := (⟨#[102, 114, 111, 109]⟩ : ByteArray)
abbrev kOrder : ByteArray := (⟨#[111, 114, 100, 101, 114]⟩ : ByteArray)
abbrev kBy : ByteArray := (⟨#[98, 121]⟩ : ByteArray)
abbrev kDesc : ByteArray := (⟨#[100, 101, 115, 99]⟩ : ByteArray)
abbrev kCreate : ByteArray := (⟨#[99, 114, 101, 97, 116, 101]⟩ : ByteArray)
abbrev kDrop : ByteArray := (⟨#[100, 114, 111, 112]⟩ : ByteArray)
abbrev kInsert : ByteArray := (⟨#[105, 110, 115, 101, 114, 116]⟩ : ByteArray)
abbrev kDelete : ByteArray := (⟨#[100, 101, 108, 101, 116, 101]⟩ : ByteArray)
abbrev kUpdate : ByteArray := (⟨#[117, 112, 100, 97, 116, 101]⟩ : ByteArray)
abbrev kSelect : ByteArray := (⟨#[115, 101, 108, 101, 99, 116]⟩ : ByteArray)
abbrev kBegin : ByteArray := (⟨#[98, 101, 103, 105, 110]⟩ : ByteArray)
abbrev kCommit : ByteArray := (⟨#[99, 111, 109, 109, 105, 116]⟩ : ByteArray)
abbrev kRollback : ByteArray := (⟨#[114, 111, 108, 108, 98, 97, 99, 107]⟩ : ByteArray)
abbrev kVirtual : ByteArray := (⟨#[118, 105, 114, 116, 117, 97, 108]⟩ : ByteArray)
abbrev kEq : ByteArray := (⟨#[61]⟩ : ByteArray)

/-! ### lists -/
section
variable {α β : Type}
/-- One thing or more, with commas between. -/
inductive PL (one : Sreader → β → Sreader → Prop) (el : β → α) : List α → Sreader → List α → Sreader → Prop
  | stop {l : List α} {r : Sreader} : r.f1 = true → PL one el l r l r
  | last {l : List α} {r r1 : Sreader} {a : β} : r.f1 = false → one r a r1 → hd r1 kComma = false → PL one el l r (l ++ [el a]) r1
  | more {l q : List α} {r r1 r2 : Sreader} {a : β} : r.f1 = false → one r a r1 → hd r1 kComma = true → PL one el (l ++ [el a]) (tl r1) q r2 → PL one el l r q r2
def NoMore (one : Sreader → β → Sreader → Prop) : Prop := ∀ r a r1, one r a r1 → r1.f0.length ≤ r.f0.length
def AlwaysR (one : Sreader → β → Sreader → Prop) : Prop := ∀ r, ∃ a r1, one r a r1
theorem PL_tot {one : Sreader → β → Sreader → Prop} {el : β → α} (h1 : NoMore one) (h2 : AlwaysR one) : ∀ (n : Nat) (l : List α) (r : Sreader), r.f0.length ≤ n → ∃ q r', PL one el l r q r'
  | n, l, r, hn => by
    cases hb : r.f1 with
    | true => exact ⟨l, r, .stop hb⟩
    | false =>
      obtain ⟨a, r1, g1⟩ := h2 r
      have g2 := h1 _ _ _ g1
      cases hc : hd r1 kComma with
      | false => exact ⟨_, r1, .last hb g1 hc⟩
      | true =>
        have g3 := hd_len hc
        have g4 := tl_len r1
        match n, hn with
        | 0, hn => omega
        | n + 1, hn =>
          obtain ⟨q, r', g5⟩ := PL_tot h1 h2 n (l ++ [el a]) (tl r1) (by omega)
          exact ⟨q, r', .more hb g1 hc g5⟩
theorem PL_len {one : Sreader → β → Sreader → Prop} {el : β → α} (h1 : NoMore one) {l q : List α} {r r' : Sreader} (h : PL one el l r q r') : r'.f0.length ≤ r.f0.length ∧ q.length + r'.f0.length ≤ l.length + 1 + r.f0.length := by
  induction h with
  | stop => omega
  | last _ g1 _ => have := h1 _ _ _ g1; simp only [List.length_append, List.length_cons, List.length_nil]; omega
  | more _ g1 g2 _ ih =>
    have a1 := h1 _ _ _ g1
    have a2 := hd_len g2
    have a3 := tl_len ‹Sreader›
    rename_i r r1 r2 a _ _
    have a4 := tl_len r1
    simp only [List.length_append, List.length_cons, List.length_nil] at ih
    omega
noncomputable def gLi {ρ : Type} (k : Nat) (nx : Sreader → Option (β × Sreader)) (el : β → α) (w : Nat) (kx : List α → Sreader → Option ρ) : Nat → List α → Sreader → Option ρ
  | 0, _, _ => none
  | n + 1, l4, t1000 =>
    bif (!t1000.f1) then
    (nx t1000).bind fun r_1 =>
    chk ((l4.length + [el r_1.1].length) * w ≤ 140737488355328) <|
    (parse_reader_got_p0 k (⟨#[44]⟩ : ByteArray) r_1.2).bind fun r_2 =>
    bif (!r_2.1) then
    kx (l4 ++ [el r_1.1]) r_2.2
    else
    gLi k nx el w kx n (l4 ++ [el r_1.1]) r_2.2
    else
    kx l4 t1000
/-- What the printed functions answer, given time enough. -/
def Ev1 (p : Nat → Prop) : Prop := ∃ D, ∀ k, D ≤ k → p k
theorem gLi_eq {ρ : Type} {one : Sreader → β → Sreader → Prop} {el : β → α} {nx : Nat → Sreader → Option (β × Sreader)} (h1 : NoMore one) (hx : ∀ r a r1, r.f0.length ≤ 100000 → one r a r1 → Ev1 fun k => nx k r = some (a, r1)) (w : Nat) (hw : w ≤ 300) {l q : List α} {r r' : Sreader} (h : PL one el l r q r') :
    l.length + r.f0.length ≤ 100000 → ∃ D, ∀ k n, D ≤ k → D ≤ n → ∀ kx : List α → Sreader → Option ρ, gLi k (nx k) el w kx n l r = kx q r' := by
  induction h with
  | @stop l r hb =>
    intro _
    refine ⟨1, fun k n _ hn kx => ?_⟩
    obtain ⟨n, rfl⟩ := step n hn
    simp only [gLi, hb, Bool.not_true, cond_false]
  | @last l r r1 a hb g1 hc =>
    intro hl
    obtain ⟨D, g2⟩ := hx _ _ _ (by omega) g1
    refine ⟨D + 1, fun k n hk hn kx => ?_⟩
    obtain ⟨n, rfl⟩ := step n (by omega)
    simp only [gLi, hb, Bool.not_false, cond_true]
    rw [g2 k (by omega), some_bind]
    have hm : (l.length + 1) * w ≤ 100001 * 300 := Nat.mul_le_mul (by omega) hw
    rw [chk_pos (p := (l.length + [el a].length) * w ≤ 140737488355328) (show (l.length + 1) * w ≤ _ by omega), got_eq, some_bind]
    dsimp only
    rw [hc, Bool.not_false, cond_true, cond_false]
  | @more l q r r1 r2 a hb g1 hc _ ih =>
    intro hl
    have a1 := h1 _ _ _ g1
    have a2 := hd_len hc
    have a3 := tl_len r1
    obtain ⟨D, g2⟩ := hx _ _ _ (by omega) g1
    obtain ⟨D2, g3⟩ := ih (by simp only [List.length_append, List.length_cons, List.length_nil]; omega)
    refine ⟨D + D2 + 1, fun k n hk hn kx => ?_⟩
    obtain ⟨n, rfl⟩ := step n (by omega)
    simp only [gLi, hb, Bool.not_false, cond_true]
    rw [g2 k (by omega), some_bind]
    have hm : (l.length + 1) * w ≤ 100001 * 300 := Nat.mul_le_mul (by omega) hw
    rw [chk_pos (p := (l.length + [el a].length) * w ≤ 140737488355328) (show (l.length + 1) * w ≤ _ by omega), got_eq, some_bind]
    dsimp only
    rw [hc, Bool.not_true, cond_true, cond_false]
    exact g3 k n (by omega) (by omega) kx
end
theorem Ev1.bind {α β : Type} {f : Nat → Option α} {a : α} {g : Nat → α → Option β} {b : β} (h : Ev1 fun k => f k = some a) (h2 : Ev1 fun k => g k a = some b) : Ev1 fun k => (f k).bind (g k) = some b := by
  obtain ⟨D, h⟩ := h
  obtain ⟨D2, h2⟩ := h2
  exact ⟨D + D2, fun k hk => by show (f k).bind (g k) = some b; rw [show f k = some a from h k (by omega), some_bind]; exact h2 k (by omega)⟩
theorem Ev1.of {p : Nat → Prop} (h : ∀ k, 100 ≤ k → p k) : Ev1 p := ⟨100, h⟩
theorem Ev1.imp {p q : Nat → Prop} (h : Ev1 p) (g : ∀ k, 100 ≤ k → p k → q k) : Ev1 q := by
  obtain ⟨D, h⟩ := h
  exact ⟨D + 100, fun k hk => g k (by omega) (h k (by omega))⟩

/-! ### how high an expression is -/
mutual
noncomputable def hgtI : TExpr → Int
  | .mk _ _ _ _ l => IntKind.i64.wrap (hgtIL 0 l + 1)
noncomputable def hgtIL : Int → List TExpr → Int
  | h, [] => h
  | h, a :: r => hgtIL (if hgtI a > h then hgtI a else h) r
end
theorem hgt_l3 {ρ : Type} (k : Nat) (rc : parse_Height_R) (kx : Int → Option ρ) (l : List TExpr) (hl : l.length ≤ 100000) (hrc : ∀ a ∈ l, rc.parse_Height a.s = some (hgtI a)) : ∀ (d n i : Nat) (h : Int), i + d = l.length → d < n →
    parse_Height_l3 k rc kx n h l (l.length : Int) (i : Int) = kx (hgtIL h (l.drop i))
  | 0, n + 1, i, h, hi, _ => by
    simp only [parse_Height_l3, parse_Height_l3_b]
    rw [decide_eq_false (by omega), cond_false, List.drop_eq_nil_of_le (by omega), hgtIL]
  | d + 1, n + 1, i, h, hi, hn => by
    simp only [parse_Height_l3, parse_Height_l3_b]
    have hlt : i < l.length := by omega
    rw [decide_eq_true (by omega), cond_true, chk_pos (by omega), Int.toNat_natCast, getD_get _ i _ hlt, hrc _ (List.getElem_mem hlt), some_bind, List.drop_eq_getElem_cons hlt, hgtIL, w64n (by omega)]
    exact hgt_l3 k rc kx l hl hrc d n (i + 1) _ (by omega) (by omega)
/-- No part has many parts. -/
inductive Few : TExpr → Prop
  | mk {a : Int} {b : SValue} {c d : ByteArray} {l : List TExpr} : l.length ≤ 2 → (∀ x ∈ l, Few x) → Few (.mk a b c d l)
theorem s_t (x : SExpr) : x.t.s = x := rfl
theorem t_s (x : TExpr) : x.s.t = x := by cases x; rfl
theorem hgt_eq {e : TExpr} (h : Few e) : Ev2 fun k d => (parse_Height_R_it k d).parse_Height e.s = some (hgtI e) := by
  induction h with
  | @mk a b c d l hl _ ih =>
    have hD : ∃ D, ∀ x ∈ l, ∀ k d, D ≤ k → D ≤ d → (parse_Height_R_it k d).parse_Height x.s = some (hgtI x) := by
      clear hl
      induction l with
      | nil => exact ⟨0, fun x hx => by cases hx⟩
      | cons x r ihr =>
        obtain ⟨D1, h1⟩ := ih x List.mem_cons_self
        obtain ⟨D2, h2⟩ := ihr (fun y hy => ‹∀ x ∈ _, Few x› y (List.mem_cons_of_mem _ hy)) fun y hy => ih y (List.mem_cons_of_mem _ hy)
        refine ⟨D1 + D2, fun y hy k d hk hd => ?_⟩
        rcases List.mem_cons.1 hy with rfl | hy
        · exact h1 k d (by omega) (by omega)
        · exact h2 y hy k d (by omega) (by omega)
    obtain ⟨D, hD⟩ := hD
    refine ⟨D + 10, fun k d hk hd => ?_⟩
    obtain ⟨d, rfl⟩ := step d (by omega)
    show parse_Height_r k (parse_Height_R_it k d) ⟨a, b, c, _, l⟩ = _
    unfold parse_Height_r
    refine (hgt_l3 k _ _ l (by omega) (fun x hx => hD x hx k d (by omega) (by omega)) l.length k 0 0 (by omega) (by omega)).trans ?_
    rw [List.drop_zero, hgtI]
theorem height_eq {e : SExpr} (h : Few e.t) : Ev1 fun k => parse_Height k e = some (hgtI e.t) := by
  obtain ⟨D, h⟩ := hgt_eq h
  exact ⟨D, fun k hk => h k k hk hk⟩
theorem few_mk {op : Int} {l : List SExpr} (h : l.length ≤ 2) (h2 : ∀ x ∈ l, Few x.t) : Few (mkE op l).t := by
  show Few (.mk op v0 ByteArray.empty ByteArray.empty (l.map SExpr.t))
  exact .mk (by rw [List.length_map]; exact h) fun x hx => by
    obtain ⟨y, hy, rfl⟩ := List.mem_map.1 hx
    exact h2 y hy
def ntFew : Nt → Prop
  | .more _ e | .tmore e => Few e.t
  | _ => True
theorem PE_few {g : Nt} {r r' : Sreader} {e : SExpr} (h : PE g r e r') : ntFew g → Few e.t := by
  have hn : ∀ j, ntFew (nextT j) := fun j => match j with | 0 => trivial | 1 => trivial | 2 => trivial | 3 => trivial | _ + 4 => trivial
  induction h with
  | left _ _ ih1 ih2 => intro _; exact ih2 (ih1 (hn _))
  | mnone _ => intro h; exact h
  | msome _ _ _ ih1 ih2 =>
    intro h
    refine ih2 (few_mk (by simp) fun x hx => ?_)
    simp only [List.mem_cons, List.not_mem_nil, or_false] at hx
    rcases hx with rfl | rfl
    · exact h
    · exact ih1 (hn _)
  | not1 _ _ ih => intro _; exact few_mk (by simp) fun x hx => by simp only [List.mem_cons, List.not_mem_nil, or_false] at hx; subst hx; exact ih trivial
  | not0 _ _ ih => intro _; exact ih trivial
  | test _ _ ih1 ih2 => intro _; exact ih2 (ih1 trivial)
  | tnone _ => intro h; exact h
  | tis _ _ ih => intro h; exact ih (few_mk (by simp) fun x hx => by simp only [List.mem_cons, List.not_mem_nil, or_false] at hx; subst hx; exact h)
  | tsome _ _ _ ih1 ih2 =>
    intro h
    refine ih2 (few_mk (by simp) fun x hx => ?_)
    simp only [List.mem_cons, List.not_mem_nil, or_false] at hx
    rcases hx with rfl | rfl
    · exact h
    · exact ih1 trivial
  | neg1 _ _ ih => intro _; exact few_mk (by simp) fun x hx => by simp only [List.mem_cons, List.not_mem_nil, or_false] at hx; subst hx; exact ih trivial
  | neg0 _ _ ih => intro _; exact ih trivial
  | cbad _ => intro _; exact .mk (Nat.zero_le 2) fun x hx => by cases hx
  | clit _ => intro _; exact .mk (Nat.zero_le 2) fun x hx => by cases hx
  | cnull _ => intro _; exact .mk (Nat.zero_le 2) fun x hx => by cases hx
  | cpar _ _ ih => intro _; exact ih trivial
  | ccount _ => intro _; exact .mk (Nat.zero_le 2) fun x hx => by cases hx
  | cfun _ _ ih => intro _; exact few_mk (by simp) fun x hx => by simp only [List.mem_cons, List.not_mem_nil, or_false] at hx; subst hx; exact ih trivial
  | @ccol r _ =>
    intro _
    unfold colR
    cases hd (nameR r).2 kDot <;> exact .mk (Nat.zero_le 2) fun x hx => by cases hx
  | inside _ ih => intro _; exact ih trivial
theorem PE_len {g : Nt} {r r' : Sreader} {e : SExpr} (h : PE g r e r') : r'.f0.length ≤ r.f0.length := by
  induction h with
  | left _ _ ih1 ih2 => omega
  | mnone _ => omega
  | @msome j r r2 r3 e e2 e' op _ _ _ ih1 ih2 => have := tl_len r; have : (nodeR r2).f0.length = r2.f0.length := rfl; omega
  | @not1 r r1 e _ _ ih => have := tl_len r; show r1.f0.length ≤ _; omega
  | not0 _ _ ih => exact ih
  | test _ _ ih1 ih2 => omega
  | tnone _ => omega
  | @tis r r' e e' _ _ ih =>
    have h1 := tl_len r
    have h2 : (isRest (tl r)).f0.length ≤ (tl r).f0.length := by
      unfold isRest
      cases hd (tl r) kNot with
      | true => rw [cond_true, tl_len]; omega
      | false => exact Nat.le_refl _
    have h3 := mustR_len [kNull] (isRest (tl r))
    have : (nodeR (mustR [kNull] (isRest (tl r)))).f0.length = (mustR [kNull] (isRest (tl r))).f0.length := rfl
    omega
  | @tsome r r2 r3 e e2 e' op _ _ _ ih1 ih2 => have := tl_len r; have : (nodeR r2).f0.length = r2.f0.length := rfl; omega
  | @neg1 r r1 e _ _ ih => have := tl_len r; show r1.f0.length ≤ _; omega
  | neg0 _ _ ih => exact ih
  | cbad _ => exact Nat.le_refl _
  | @clit r t _ => have := tl_len r; show (tl r).f0.length ≤ _; omega
  | @cnull r _ => have := tl_len r; show (tl r).f0.length ≤ _; omega
  | cpar _ _ ih => exact ih
  | ccount _ => exact countR_len _
  | @cfun r r1 e op _ _ ih => have := tl_len r; show r1.f0.length ≤ _; omega
  | ccol _ => exact colR_len _
  | @inside r r3 e _ ih =>
    have h1 := mustR_len [kClose] r3
    have h2 := mustR_len [kOpen] (deepR r)
    have : (deepR r).f0.length = r.f0.length := rfl
    show (mustR [kClose] r3).f0.length ≤ _
    omega

/-! ### an expression that is no part of another one; names; columns -/
def PW (r : Sreader) (e : SExpr) (r' : Sreader) : Prop := ∃ r1, PE (.left 0) r e r1 ∧ r' = mostR (hgtI e.t) 20 r1
theorem PW_len : NoMore PW := fun r e r' ⟨r1, h, he⟩ => by rw [he]; have := PE_len h; exact this
theorem PW_tot : AlwaysR PW := fun r => by
  obtain ⟨e, r', h, _⟩ := expr_tot _ r (Nat.le_refl _)
  exact ⟨e, _, r', h, rfl⟩
theorem whole_eq {r r' : Sreader} {e : SExpr} (h : PW r e r') : Ev1 fun k => parse_reader_whole_p0 k r = some (e, r') := by
  obtain ⟨r1, h1, rfl⟩ := h
  refine Ev1.bind (PE_expr h1) (Ev1.bind (height_eq (PE_few h1 trivial)) (.of fun k hk => ?_))
  rw [most_eq]; rfl
def PN (r : Sreader) (s : ByteArray) (r' : Sreader) : Prop := nameR r = (s, r')
theorem PN_len : NoMore PN := fun r s r' h => by have := nameR_len r; rw [h] at this; exact this
theorem PN_tot : AlwaysR PN := fun r => ⟨_, _, rfl⟩
/-- A column's type: its place and what is left. -/
noncomputable def typeR (r : Sreader) : Int × Sreader := match findOp [⟨(⟨#[97, 110, 121]⟩ : ByteArray), 1⟩, ⟨(⟨#[105, 110, 116, 101, 103, 101, 114]⟩ : ByteArray), 2⟩, ⟨(⟨#[116, 101, 120, 116]⟩ : ByteArray), 3⟩, ⟨(⟨#[98, 108, 111, 98]⟩ : ByteArray), 4⟩] r with
  | some n => (n, tl r)
  | none => (1, r)
noncomputable def columnR (r : Sreader) : SColumn × Sreader :=
  bif hd (typeR (nameR r).2).2 kNot then (⟨(nameR r).1, (typeR (nameR r).2).1, true⟩, mustR [kNull] (tl (typeR (nameR r).2).2)) else (⟨(nameR r).1, (typeR (nameR r).2).1, false⟩, (typeR (nameR r).2).2)
theorem typeR_len (r : Sreader) : (typeR r).2.f0.length ≤ r.f0.length := by
  have := tl_len r
  unfold typeR
  split
  · show (tl r).f0.length ≤ _; omega
  · exact Nat.le_refl _
def PC (r : Sreader) (c : SColumn) (r' : Sreader) : Prop := columnR r = (c, r')
theorem PC_len : NoMore PC := fun r s r' h => by
  have h1 := nameR_len r
  have h2 := typeR_len (nameR r).2
  have h3 := mustR_len [kNull] (tl (typeR (nameR r).2).2)
  have h4 := tl_len (typeR (nameR r).2).2
  have h5 : (columnR r).2.f0.length ≤ r.f0.length := by
    unfold columnR
    cases hd (typeR (nameR r).2).2 kNot with
    | true => show (mustR [kNull] (tl (typeR (nameR r).2).2)).f0.length ≤ _; omega
    | false => show (typeR (nameR r).2).2.f0.length ≤ _; omega
  rw [h] at h5; exact h5
theorem PC_tot : AlwaysR PC := fun r => ⟨_, _, rfl⟩
theorem column_eq (k : Nat) (hk : 60 ≤ k) (r : Sreader) : parse_reader_column_p0 k r = some (columnR r) := by
  unfold parse_reader_column_p0
  rw [name_eq k (by omega), some_bind]
  obtain ⟨k', rfl⟩ : ∃ k', k = k' + 6 := ⟨k - 6, by omega⟩
  generalize hk' : k' + 6 = K
  have hgo : ∀ (kx : SColumn → SColumn → Sreader → Option (SColumn × Sreader)) (c : SColumn) (q : Sreader), c.f1 = 1 → parse_reader_column_p0_l3 K kx K [ByteArray.empty, (⟨#[97, 110, 121]⟩ : ByteArray), (⟨#[105, 110, 116, 101, 103, 101, 114]⟩ : ByteArray), (⟨#[116, 101, 120, 116]⟩ : ByteArray), (⟨#[98, 108, 111, 98]⟩ : ByteArray)] 5 0 ⟨ByteArray.empty, 0, false⟩ c q =
      kx ⟨ByteArray.empty, 0, false⟩ ⟨c.f0, (typeR q).1, c.f2⟩ (typeR q).2 := by
    intro kx c q hc
    have e1 : (!((ByteArray.empty).toList == ByteArray.empty.toList)) = false := by simp
    rw [show K = k' + 1 + 1 + 1 + 1 + 1 + 1 from hk'.symm]
    simp only [parse_reader_column_p0_l3, parse_reader_column_p0_l3_b]
    rw [show k' + 1 + 1 + 1 + 1 + 1 + 1 = K from hk']
    unfold typeR
    simp only [findOp]
    have hl : ([ByteArray.empty, (⟨#[97, 110, 121]⟩ : ByteArray), (⟨#[105, 110, 116, 101, 103, 101, 114]⟩ : ByteArray), (⟨#[116, 101, 120, 116]⟩ : ByteArray), (⟨#[98, 108, 111, 98]⟩ : ByteArray)].length : Int) = 5 := rfl
    have w0 : IntKind.i64.wrap (0 + 1) = 1 := rfl
    have w1 : IntKind.i64.wrap (1 + 1) = 2 := rfl
    have w2 : IntKind.i64.wrap (2 + 1) = 3 := rfl
    have w3 : IntKind.i64.wrap (3 + 1) = 4 := rfl
    have w4 : IntKind.i64.wrap (4 + 1) = 5 := rfl
    have d0 : decide ((0 : Int) < 5) = true := rfl
    have d1 : decide ((1 : Int) < 5) = true := rfl
    have d2 : decide ((2 : Int) < 5) = true := rfl
    have d3 : decide ((3 : Int) < 5) = true := rfl
    have d4 : decide ((4 : Int) < 5) = true := rfl
    have d5 : decide ((5 : Int) < 5) = false := rfl
    have n1 : (!((⟨#[97, 110, 121]⟩ : ByteArray).toList == ByteArray.empty.toList)) = true := by rw [by_toList, by_toList]; rfl
    have n2 : (!((⟨#[105, 110, 116, 101, 103, 101, 114]⟩ : ByteArray).toList == ByteArray.empty.toList)) = true := by rw [by_toList, by_toList]; rfl
    have n3 : (!((⟨#[116, 101, 120, 116]⟩ : ByteArray).toList == ByteArray.empty.toList)) = true := by rw [by_toList, by_toList]; rfl
    have n4 : (!((⟨#[98, 108, 111, 98]⟩ : ByteArray).toList == ByteArray.empty.toList)) = true := by rw [by_toList, by_toList]; rfl
    have t1 : (1 : Int).toNat = 1 := rfl
    have t2 : (2 : Int).toNat = 2 := rfl
    have t3 : (3 : Int).toNat = 3 := rfl
    have t4 : (4 : Int).toNat = 4 := rfl
    have t0 : (0 : Int).toNat = 0 := rfl
    simp only [d0, d1, d2, d3, d4, d5, cond_true, cond_false, hl, w0, w1, w2, w3, w4, t0, t1, t2, t3, t4, List.getD_cons_zero, List.getD_cons_succ, e1, n1, n2, n3, n4, got_eq, some_bind]
    rw [chk_pos (by omega), chk_pos (by omega)]
    cases hd q (⟨#[97, 110, 121]⟩ : ByteArray) with
    | true => rfl
    | false =>
      simp only [cond_false]
      rw [chk_pos (by omega)]
      cases hd q (⟨#[105, 110, 116, 101, 103, 101, 114]⟩ : ByteArray) with
      | true => rfl
      | false =>
        simp only [cond_false]
        rw [chk_pos (by omega)]
        cases hd q (⟨#[116, 101, 120, 116]⟩ : ByteArray) with
        | true => rfl
        | false =>
          simp only [cond_false]
          rw [chk_pos (by omega)]
          cases hd q (⟨#[98, 108, 111, 98]⟩ : ByteArray) with
          | true => rfl
          | false => obtain ⟨c0, c1, c2⟩ := c; cases hc; rfl
  refine (hgo _ _ _ rfl).trans ?_
  rw [got_eq, some_bind]
  unfold columnR
  cases hd (typeR (nameR r).2).2 kNot with
  | true =>
    simp only [cond_true]
    rw [must_eq K _ (by decide) (by simp only [List.length_cons, List.length_nil]; omega)]; rfl
  | false => rfl
end Go.Proofs.Ytepekanlplbciaa.Q
