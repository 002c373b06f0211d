/-
  Layer 20: what is read of a text, all in all.
-/
import Derived.Test.YtepekanlplbciaaQPs6
import Derived.Test.YtepekanlplbciaaQEs
import Derived.Test.YtepekanlplbciaaQLx4
namespace Go.Proofs.Ytepekanlplbciaa.Q
open Go Go.AX

theorem few_lim {e : TExpr} (h : Few e) : Lim e := by
  induction h with
  | mk hl _ ih => exact .mk (by omega) ih
theorem PL_all {α β : Type} {one : Sreader → β → Sreader → Prop} {el : β → α} {p : α → Prop} (h1 : ∀ r a r', one r a r' → p (el a)) {l q : List α} {r r' : Sreader} (h : PL one el l r q r') : (∀ y ∈ l, p y) → ∀ y ∈ q, p y := by
  induction h with
  | stop _ => exact id
  | last _ g _ =>
    intro hl y hy
    rcases List.mem_append.1 hy with hy | hy
    · exact hl y hy
    · rw [List.mem_singleton.1 hy]; exact h1 _ _ _ g
  | more _ g _ _ ih =>
    intro hl
    refine ih fun y hy => ?_
    rcases List.mem_append.1 hy with hy | hy
    · exact hl y hy
    · rw [List.mem_singleton.1 hy]; exact h1 _ _ _ g
theorem PW_few {r r' : Sreader} {e : SExpr} (h : PW r e r') : Lim e.t := by
  obtain ⟨_, h, _⟩ := h
  exact few_lim (PE_few h trivial)
theorem exprs_lim {r r' : Sreader} {q : List TExpr} (hl : r.f0.length ≤ 100000) (h : PL PW SExpr.t [] r q r') : LimL q := by
  have h1 := (PL_len PW_len h).2
  simp only [List.length_nil] at h1
  exact ⟨by omega, PL_all (p := Lim) (fun _ _ _ g => PW_few g) h (fun y hy => by cases hy)⟩
theorem where_lim {r r' : Sreader} {q : List TExpr} (h : PWh r q r') : LimL q := by
  cases h with
  | some _ h => exact ⟨by simp, fun y hy => by rw [List.mem_singleton.1 hy]; exact PW_few h⟩
  | none _ => exact ⟨by simp, fun y hy => by cases hy⟩
theorem lim_nil : LimL [] := ⟨by simp, fun y hy => by cases hy⟩
theorem PS_lim {r r' : Sreader} {s : SStmt} (hl : r.f0.length ≤ 100000) (h : PS r s r') : LimS s := by
  have t1 := tl_len r
  have N : ∀ {α : Type} {p : α → Prop}, ([] : List α).length ≤ 1000000000000000 ∧ ∀ x ∈ ([] : List α), p x := fun {α p} => ⟨by simp, fun x hx => by cases hx⟩
  have Z : ∀ {α : Type}, ([] : List α).length ≤ 1000000000000000 := fun {α} => by simp
  cases h with
  | none _ => exact ⟨Z, Z, N, N, Z, lim_nil, lim_nil, N⟩
  | create _ h =>
    have t2 := tl_len (tl r)
    cases h with
    | @table r3 cols hh h =>
      have a1 := nameR_len (tl (tl r))
      have a2 := mustR_len [kOpen] (nameR (tl (tl r))).2
      have a3 := (PL_len PC_len h).2
      simp only [List.length_nil] at a3
      exact ⟨show cols.length ≤ _ by omega, Z, N, N, Z, lim_nil, lim_nil, N⟩
    | @virt r6 ns hh hh2 h =>
      have h0 := mustR_len [kTable] (tl (tl r))
      have h1 := nameR_len (mustR [kTable] (tl (tl r)))
      have h2 := mustR_len [kUsing, kRtree] (nameR (mustR [kTable] (tl (tl r)))).2
      have hm := mustR_len [kOpen] (mustR [kUsing, kRtree] (nameR (mustR [kTable] (tl (tl r)))).2)
      have hlen := (PL_len PN_len h).2
      simp only [List.length_nil] at hlen
      exact ⟨by simp only [List.length_map]; omega, Z, N, N, Z, lim_nil, lim_nil, N⟩
    | @index r6 ns hh hh2 h =>
      have hq : (bif hd (tl r) kUnique then tl (tl r) else tl r).f0.length ≤ (tl r).f0.length := by
        cases hd (tl r) kUnique with
        | true => rw [cond_true]; omega
        | false => exact Nat.le_refl _
      have h1 := mustR_len [kIndex] (bif hd (tl r) kUnique then tl (tl r) else tl r)
      have h2 := nameR_len (mustR [kIndex] (bif hd (tl r) kUnique then tl (tl r) else tl r))
      have h3 := mustR_len [kOn] (nameR (mustR [kIndex] (bif hd (tl r) kUnique then tl (tl r) else tl r))).2
      have h4 := nameR_len (mustR [kOn] (nameR (mustR [kIndex] (bif hd (tl r) kUnique then tl (tl r) else tl r))).2)
      have h5 := mustR_len [kOpen] (nameR (mustR [kOn] (nameR (mustR [kIndex] (bif hd (tl r) kUnique then tl (tl r) else tl r))).2)).2
      have hlen := (PL_len PN_len h).2
      simp only [List.length_nil] at hlen
      exact ⟨Z, show ns.length ≤ _ by omega, N, N, Z, lim_nil, lim_nil, N⟩
  | drop _ =>
    unfold dropR
    cases hd (tl r) kTable <;> exact ⟨Z, Z, N, N, Z, lim_nil, lim_nil, N⟩
  | @insert r4 rows hh h =>
    have h1 := mustR_len [kInto] (tl r)
    have h2 := nameR_len (mustR [kInto] (tl r))
    have h3 := mustR_len [kValues] (nameR (mustR [kInto] (tl r))).2
    have h4 := (PL_len PRow_len h).2
    simp only [List.length_nil] at h4
    have hrow : ∀ x ∈ rows, LimL x := by
      have key : ∀ {l q : List (List TExpr)} {u u' : Sreader}, PL PRow id l u q u' → u.f0.length ≤ 100000 → (∀ y ∈ l, LimL y) → ∀ y ∈ q, LimL y := by
        intro l q u u' g
        induction g with
        | stop _ => exact fun _ h => h
        | @last l u u1 a _ g _ =>
          intro hu hl y hy
          rcases List.mem_append.1 hy with hy | hy
          · exact hl y hy
          · rw [List.mem_singleton.1 hy]
            obtain ⟨_, g, _⟩ := g
            have := mustR_len [kOpen] u
            exact exprs_lim (by omega) g
        | @more l q u u1 u2 a _ g hc _ ih =>
          intro hu hl
          have b1 := PRow_len _ _ _ g
          have b2 := tl_len u1
          refine ih (by omega) fun y hy => ?_
          rcases List.mem_append.1 hy with hy | hy
          · exact hl y hy
          · rw [List.mem_singleton.1 hy]
            obtain ⟨_, g, _⟩ := g
            have := mustR_len [kOpen] u
            exact exprs_lim (by omega) g
      exact key h (by omega) fun y hy => by cases hy
    exact ⟨Z, Z, ⟨show rows.length ≤ _ by omega, hrow⟩, N, Z, lim_nil, lim_nil, N⟩
  | delete _ h => exact ⟨Z, Z, N, N, Z, lim_nil, where_lim h, N⟩
  | @update r3 _ sets wh hh h g =>
    have h1 := nameR_len (tl r)
    have h2 := mustR_len [kSet] (nameR (tl r)).2
    have h3 := (PL_len PSet_len h).2
    simp only [List.length_nil] at h3
    exact ⟨Z, Z, N, ⟨show sets.length ≤ _ by omega, PL_all (p := fun x : SSet => Lim x.f1.t) (fun _ _ _ ⟨_, g, he⟩ => by rw [he]; exact PW_few g) h (fun y hy => by cases hy)⟩, Z, lim_nil, where_lim g, N⟩
  | select _ h =>
    cases h with
    | @mk r2 r4 r5 r8 out wh frm ord h1 h2 h3 h4 =>
      have a1 : LimL out ∧ r2.f0.length ≤ (tl r).f0.length := by
        rcases h1 with ⟨_, rfl, rfl⟩ | ⟨_, h⟩
        · exact ⟨lim_nil, by rw [tl_len]; omega⟩
        · exact ⟨exprs_lim (by omega) h, (PL_len PW_len h).1⟩
      have a2 := mustR_len [kFrom] r2
      have a3 := PL_len PN_len h2
      simp only [List.length_nil] at a3
      have a4 := PWh_len _ _ _ h3
      have a5 : ord.length ≤ 1000000000000000 ∧ ∀ x ∈ ord, Lim x.f0.t := by
        rcases h4 with ⟨_, h⟩ | ⟨_, rfl, rfl⟩
        · have b1 := (PL_len POrd_len h).2
          have b2 := mustR_len [kBy] (tl r5)
          have b3 := tl_len r5
          simp only [List.length_nil] at b1
          exact ⟨by omega, PL_all (p := fun x : SOrder => Lim x.f0.t) (fun _ _ _ ⟨_, _, g, he, _⟩ => by rw [he]; exact PW_few g) h (fun y hy => by cases hy)⟩
        · exact N
      exact ⟨Z, Z, N, N, show frm.length ≤ _ by omega, a1.1, where_lim h3, a5⟩
  | begin _ => exact ⟨Z, Z, N, N, Z, lim_nil, lim_nil, N⟩
  | commit _ => exact ⟨Z, Z, N, N, Z, lim_nil, lim_nil, N⟩
  | rollback _ => exact ⟨Z, Z, N, N, Z, lim_nil, lim_nil, N⟩

/-! ### a text -/
abbrev z0 : SStmt := ⟨0, ByteArray.empty, ByteArray.empty, false, [], [], [], [], [], false, [], [], []⟩
abbrev r0 (l : List SToken) : Sreader := ⟨l, false, false, 0, 0⟩
abbrev kSemi : ByteArray := (⟨#[59]⟩ : ByteArray)
/-- What is said of a statement that is read, and of what is left. -/
noncomputable def finR (s : SStmt) (r : Sreader) : SStmt × Int :=
  bif r.f1 then (z0, 1) else
  bif decide (((bif hd r kSemi then tl r else r).f0.length : Int) > 0) then (z0, 1) else
  bif decide (r.f3 > 200) || r.f2 then (z0, 7) else (s, 0)
theorem fin_eq {ρ : Type} (k : Nat) (s : SStmt) (r : Sreader) (F : SStmt × Int → Option ρ) :
    ((parse_reader_got_p0 k kSemi r).bind fun r_3 => (parse_reader_most_p0 k r_3.2.f3 200 r_3.2).bind fun r_4 =>
      bif r_4.2.f1 then F (z0, 1) else bif (decide ((r_4.2.f0.length : Int) > 0)) then F (z0, 1) else bif r_4.2.f2 then F (z0, 7) else F (s, 0)) = F (finR s r) := by
  rw [got_eq, some_bind]
  dsimp only
  rw [most_eq, some_bind]
  unfold finR
  dsimp only [mostR]
  have e1 : (bif hd r kSemi then tl r else r).f1 = r.f1 := by cases hd r kSemi <;> rfl
  have e2 : (bif hd r kSemi then tl r else r).f2 = r.f2 := by cases hd r kSemi <;> rfl
  have e3 : (bif hd r kSemi then tl r else r).f3 = r.f3 := by cases hd r kSemi <;> rfl
  rw [e1, e2, e3]
  cases r.f1 with
  | true => rfl
  | false =>
    rw [cond_false, cond_false]
    by_cases hp : ((bif hd r kSemi then tl r else r).f0.length : Int) > 0
    · simp only [hp, decide_true, cond_true]
    · simp only [hp, decide_false, cond_false]
      cases (decide (r.f3 > 200) || r.f2) <;> rfl
theorem parse_unf (k : Nat) (hk : 8194 < k) (t : ByteArray) : parse_Parse k t = bif ((toks (by' t)).2 != 0) then some (z0, (toks (by' t)).2) else
    (parse_reader_statement_p0 k (r0 (toks (by' t)).1)).bind fun x => some (finR x.1 x.2) := by
  unfold parse_Parse
  rw [tokens_eq k t hk, some_bind]
  cases ((toks (by' t)).2 != 0) with
  | true => rfl
  | false =>
    rw [cond_false, cond_false]
    cases parse_reader_statement_p0 k (r0 (toks (by' t)).1) with
    | none => rfl
    | some x => exact fin_eq k x.1 x.2 some
theorem toks_len (b : By) : (toks b).1.length ≤ 100000 := by
  by_cases h : (toks b).2 = 0
  · have := toks_ok h; omega
  · rw [toks_full] at h ⊢
    split
    · simp
    · rename_i hb
      rw [if_neg hb] at h
      split
      · simp
      · rename_i ts lg hf
        rw [hf] at h
        dsimp only at h ⊢
        split
        · simp
        · rename_i hlg; rw [if_neg hlg] at h; exact absurd rfl h
/-- What is read of a text, if its tokens are read as a statement. -/
theorem parse_ok {t : ByteArray} {l : List SToken} {s : SStmt} {r : Sreader} (ht : toks (by' t) = (l, 0)) (h : PS (r0 l) s r) : Ev1 fun k => parse_Parse k t = some (finR s r) := by
  have hl := toks_len (by' t)
  rw [ht] at hl
  obtain ⟨D, g⟩ := stmt_eq hl h
  refine ⟨D + 8195, fun k hk => ?_⟩
  show _ = _
  rw [parse_unf k (by omega), ht]
  show ((parse_reader_statement_p0 k (r0 l)).bind fun x => some (finR x.1 x.2)) = _
  rw [g k (by omega)]; rfl
theorem parse_no {t : ByteArray} (ht : (toks (by' t)).2 ≠ 0) : Ev1 fun k => parse_Parse k t = some (z0, (toks (by' t)).2) := ⟨8195, fun k hk => by
  show _ = _
  rw [parse_unf k (by omega), bne_iff_ne.2 ht]; rfl⟩
/-- Of every text something is said. -/
theorem parse_all (t : ByteArray) : ∃ x, Ev1 fun k => parse_Parse k t = some x := by
  by_cases h : (toks (by' t)).2 = 0
  · obtain ⟨s, r, g⟩ := PS_tot (r0 (toks (by' t)).1)
    exact ⟨_, parse_ok (l := (toks (by' t)).1) (by rw [← h]) g⟩
  · exact ⟨_, parse_no h⟩
theorem finR_ok {s s' : SStmt} {r : Sreader} (h : finR s r = (s', 0)) : s' = s ∧ r.f1 = false ∧ (bif hd r kSemi then tl r else r).f0 = [] ∧ (decide (r.f3 > 200) || r.f2) = false := by
  unfold finR at h
  cases h1 : r.f1 with
  | true => rw [h1] at h; cases h
  | false =>
    rw [h1, cond_false] at h
    cases h2 : decide (((bif hd r kSemi then tl r else r).f0.length : Int) > 0) with
    | true => rw [h2] at h; cases h
    | false =>
      rw [h2, cond_false] at h
      cases h3 : (decide (r.f3 > 200) || r.f2) with
      | true => rw [h3] at h; cases h
      | false =>
        rw [h3, cond_false] at h
        cases h
        rw [decide_eq_false_iff_not] at h2
        exact ⟨rfl, rfl, List.eq_nil_of_length_eq_zero (by omega), rfl⟩
/-- The other way round: a text that is read as a statement. -/
theorem parse_inv {t : ByteArray} {s : SStmt} (h : Ev1 fun k => parse_Parse k t = some (s, 0)) : ∃ l r, toks (by' t) = (l, 0) ∧ PS (r0 l) s r ∧ r.f1 = false ∧ (bif hd r kSemi then tl r else r).f0 = [] ∧ (decide (r.f3 > 200) || r.f2) = false := by
  obtain ⟨D1, h⟩ := h
  by_cases ht : (toks (by' t)).2 = 0
  · obtain ⟨s', r, g⟩ := PS_tot (r0 (toks (by' t)).1)
    obtain ⟨D2, g2⟩ := parse_ok (l := (toks (by' t)).1) (by rw [← ht]) g
    have e := (h (D1 + D2) (by omega)).symm.trans (g2 (D1 + D2) (by omega))
    obtain ⟨rfl, a1, a2, a3⟩ := finR_ok (Option.some.inj e).symm
    exact ⟨_, r, by rw [← ht], g, a1, a2, a3⟩
  · obtain ⟨D2, g2⟩ := parse_no ht
    have e := (h (D1 + D2) (by omega)).symm.trans (g2 (D1 + D2) (by omega))
    exact absurd (Prod.mk.inj (Option.some.inj e)).2.symm ht
end Go.Proofs.Ytepekanlplbciaa.Q
