/-
  Layer 20: expressions as they are read, by rules; whatever is read, the printed functions answer so, if they are given time enough; and something is always read.
-/
import Derived.Test.YtepekanlplbciaaQPs1
namespace Go.Proofs.Ytepekanlplbciaa.Q
open Go Go.AX

abbrev kOr : ByteArray := (⟨#[111, 114]⟩ : ByteArray)
abbrev kAnd : ByteArray := (⟨#[97, 110, 100]⟩ : ByteArray)
abbrev kNot : ByteArray := (⟨#[110, 111, 116]⟩ : ByteArray)
abbrev kIs : ByteArray := (⟨#[105, 115]⟩ : ByteArray)
abbrev kNull : ByteArray := (⟨#[110, 117, 108, 108]⟩ : ByteArray)
abbrev kMinus : ByteArray := (⟨#[45]⟩ : ByteArray)
abbrev kOpen : ByteArray := (⟨#[40]⟩ : ByteArray)
abbrev kClose : ByteArray := (⟨#[41]⟩ : ByteArray)
abbrev kCount : ByteArray := (⟨#[99, 111, 117, 110, 116]⟩ : ByteArray)
abbrev kStar : ByteArray := (⟨#[42]⟩ : ByteArray)
abbrev kDot : ByteArray := (⟨#[46]⟩ : ByteArray)
abbrev kComma : ByteArray := (⟨#[44]⟩ : ByteArray)
/-- What may be read: operations of a level, what follows them, the other kinds of expressions. -/
inductive Nt where
  | left (j : Nat)
  | more (j : Nat) (e : SExpr)
  | not
  | test
  | tmore (e : SExpr)
  | neg
  | close
  | inside
def nextT : Nat → Nt
  | 0 => .left 1
  | 1 => .not
  | 2 => .left 3
  | 3 => .left 4
  | _ => .neg
/-- The operations of a level. -/
def opsT : Nat → List Soper
  | 0 => [(⟨(⟨#[111, 114]⟩ : ByteArray), 22⟩ : Soper)]
  | 1 => [(⟨(⟨#[97, 110, 100]⟩ : ByteArray), 21⟩ : Soper)]
  | 2 => [(⟨(⟨#[43]⟩ : ByteArray), 12⟩ : Soper), (⟨(⟨#[45]⟩ : ByteArray), 13⟩ : Soper)]
  | 3 => [(⟨(⟨#[42]⟩ : ByteArray), 9⟩ : Soper), (⟨(⟨#[47]⟩ : ByteArray), 10⟩ : Soper), (⟨(⟨#[37]⟩ : ByteArray), 11⟩ : Soper)]
  | _ => [(⟨(⟨#[124, 124]⟩ : ByteArray), 14⟩ : Soper)]

noncomputable def testsB : List Soper := (parse_tests 0).getD []
abbrev v0 : SValue := ⟨0, 0, ByteArray.empty⟩
noncomputable def mkE (op : Int) (l : List SExpr) : SExpr := ⟨op, v0, ByteArray.empty, ByteArray.empty, l.map SExpr.t⟩
abbrev e0 : SExpr := ⟨0, v0, ByteArray.empty, ByteArray.empty, []⟩
noncomputable def findOp : List Soper → Sreader → Option Int
  | [], _ => none
  | o :: l, r => bif hd r o.f0 then some o.f1 else findOp l r
/-- The operation that stands there. -/
noncomputable def opAt (l : List Soper) (r : Sreader) : Option Int := bif r.f1 then none else findOp l r
noncomputable def isOp (r : Sreader) : Int := bif hd r kNot then 6 else 5
noncomputable def isRest (r : Sreader) : Sreader := bif hd r kNot then tl r else r
/-- What a comparison goes on with. -/
inductive TK where
  | stop | is | op (n : Int)
noncomputable def testAt (r : Sreader) : TK := bif r.f1 then .stop else bif hd r kIs then .is else match findOp testsB r with | none => .stop | some n => .op n
noncomputable def fnOp (s : ByteArray) : Int := lookL [((⟨#[108, 101, 110, 103, 116, 104]⟩ : ByteArray), (7 : Int)), ((⟨#[116, 121, 112, 101, 111, 102]⟩ : ByteArray), (8 : Int)), ((⟨#[115, 117, 109]⟩ : ByteArray), (24 : Int)), ((⟨#[109, 105, 110]⟩ : ByteArray), (25 : Int)), ((⟨#[109, 97, 120]⟩ : ByteArray), (26 : Int))] s
def valT (t : SToken) : SValue := bif t.f0 == 2 then ⟨1, t.f2, ByteArray.empty⟩ else bif t.f0 == 3 then ⟨2, 0, t.f1⟩ else ⟨3, 0, t.f1⟩
/-- What the closest expression is. -/
inductive CK where
  | bad | lit (t : SToken) | null | par | count | fn (op : Int) | col
noncomputable def closeAt (r : Sreader) : CK := bif r.f1 then .bad else match r.f0 with
  | [] => .bad
  | t :: _ => bif t.f0 == 2 || (t.f0 == 3 || t.f0 == 4) then .lit t else bif hd r kNull then .null else bif hd r kOpen then .par else bif hd r kCount then .count else bif t.f0 == 1 && fnOp t.f1 != 0 then .fn (fnOp t.f1) else .col
noncomputable def colR (r : Sreader) : SExpr × Sreader :=
  bif hd (nameR r).2 kDot then (⟨2, v0, (nameR r).1, (nameR (tl (nameR r).2)).1, []⟩, nodeR (nameR (tl (nameR r).2)).2) else (⟨2, v0, ByteArray.empty, (nameR r).1, []⟩, nodeR (nameR r).2)
def deepR (r : Sreader) : Sreader := mostR (IntKind.i64.wrap (r.f4 + 1)) 20 ⟨r.f0, r.f1, r.f2, r.f3, IntKind.i64.wrap (r.f4 + 1)⟩
def upR (r : Sreader) : Sreader := ⟨r.f0, r.f1, r.f2, r.f3, IntKind.i64.wrap (r.f4 - 1)⟩
noncomputable def countR (r : Sreader) : Sreader := nodeR (mustR [kOpen, kStar, kClose] (mostR (IntKind.i64.wrap ((tl r).f4 + 1)) 20 (tl r)))
/-- Expressions as they are read. -/
inductive PE : Nt → Sreader → SExpr → Sreader → Prop
  | left {j : Nat} {r r1 r2 : Sreader} {e e' : SExpr} : PE (nextT j) r e r1 → PE (.more j e) r1 e' r2 → PE (.left j) r e' r2
  | mnone {j : Nat} {r : Sreader} {e : SExpr} : opAt (opsT j) r = none → PE (.more j e) r e r
  | msome {j : Nat} {r r2 r3 : Sreader} {e e2 e' : SExpr} {op : Int} : opAt (opsT j) r = some op → PE (nextT j) (tl r) e2 r2 → PE (.more j (mkE op [e, e2])) (nodeR r2) e' r3 → PE (.more j e) r e' r3
  | not1 {r r1 : Sreader} {e : SExpr} : hd r kNot = true → PE .not (tl r) e r1 → PE .not r (mkE 4 [e]) (nodeR r1)
  | not0 {r r1 : Sreader} {e : SExpr} : hd r kNot = false → PE .test r e r1 → PE .not r e r1
  | test {r r1 r2 : Sreader} {e e' : SExpr} : PE (.left 2) r e r1 → PE (.tmore e) r1 e' r2 → PE .test r e' r2
  | tnone {r : Sreader} {e : SExpr} : testAt r = .stop → PE (.tmore e) r e r
  | tis {r r' : Sreader} {e e' : SExpr} : testAt r = .is → PE (.tmore (mkE (isOp (tl r)) [e])) (nodeR (mustR [kNull] (isRest (tl r)))) e' r' → PE (.tmore e) r e' r'
  | tsome {r r2 r3 : Sreader} {e e2 e' : SExpr} {op : Int} : testAt r = .op op → PE (.left 2) (tl r) e2 r2 → PE (.tmore (mkE op [e, e2])) (nodeR r2) e' r3 → PE (.tmore e) r e' r3
  | neg1 {r r1 : Sreader} {e : SExpr} : hd r kMinus = true → PE .neg (tl r) e r1 → PE .neg r (mkE 3 [e]) (nodeR r1)
  | neg0 {r r1 : Sreader} {e : SExpr} : hd r kMinus = false → PE .close r e r1 → PE .neg r e r1
  | cbad {r : Sreader} : closeAt r = .bad → PE .close r e0 (badR r)
  | clit {r : Sreader} {t : SToken} : closeAt r = .lit t → PE .close r ⟨1, valT t, ByteArray.empty, ByteArray.empty, []⟩ (nodeR (tl r))
  | cnull {r : Sreader} : closeAt r = .null → PE .close r ⟨1, v0, ByteArray.empty, ByteArray.empty, []⟩ (nodeR (tl r))
  | cpar {r r1 : Sreader} {e : SExpr} : closeAt r = .par → PE .inside r e r1 → PE .close r e r1
  | ccount {r : Sreader} : closeAt r = .count → PE .close r (mkE 23 []) (countR r)
  | cfun {r r1 : Sreader} {e : SExpr} {op : Int} : closeAt r = .fn op → PE .inside (tl r) e r1 → PE .close r (mkE op [e]) (nodeR r1)
  | ccol {r : Sreader} : closeAt r = .col → PE .close r (colR r).1 (colR r).2
  | inside {r r3 : Sreader} {e : SExpr} : PE (.left 0) (mustR [kOpen] (deepR r)) e r3 → PE .inside r e (upR (mustR [kClose] r3))


/-! ### something is always read -/
theorem tl_len (r : Sreader) : (tl r).f0.length = r.f0.length - 1 := by simp [tl]
theorem hd_len {r : Sreader} {s : ByteArray} (h : hd r s = true) : 0 < r.f0.length := by
  unfold hd hdL at h
  split at h
  · cases h
  · rename_i hl; rw [hl]; simp
theorem findOp_len : ∀ {l : List Soper} {r : Sreader} {n : Int}, findOp l r = some n → 0 < r.f0.length
  | o :: l, r, n, h => by
    unfold findOp at h
    cases hh : hd r o.f0 with
    | true => exact hd_len hh
    | false => rw [hh, cond_false] at h; exact findOp_len h
theorem opAt_len {l : List Soper} {r : Sreader} {n : Int} (h : opAt l r = some n) : 0 < r.f0.length := by
  unfold opAt at h
  cases hb : r.f1 with
  | true => rw [hb] at h; cases h
  | false => rw [hb, cond_false] at h; exact findOp_len h
theorem testAt_is {r : Sreader} (h : testAt r = .is) : 0 < r.f0.length := by
  unfold testAt at h
  cases hb : r.f1 with
  | true => rw [hb] at h; cases h
  | false =>
    rw [hb, cond_false] at h
    cases hh : hd r kIs with
    | true => exact hd_len hh
    | false =>
      rw [hh, cond_false] at h
      split at h <;> cases h
theorem testAt_op {r : Sreader} {n : Int} (h : testAt r = .op n) : 0 < r.f0.length := by
  unfold testAt at h
  cases hb : r.f1 with
  | true => rw [hb] at h; cases h
  | false =>
    rw [hb, cond_false] at h
    cases hh : hd r kIs with
    | true => rw [hh] at h; cases h
    | false =>
      rw [hh, cond_false] at h
      split at h
      · cases h
      · rename_i hf; exact findOp_len hf
theorem mustR_len : ∀ (l : List ByteArray) (r : Sreader), (mustR l r).f0.length ≤ r.f0.length
  | [], r => Nat.le_refl _
  | s :: l, r => by
    unfold mustR
    cases r.f1 with
    | true => exact Nat.le_refl _
    | false =>
      cases hd r s with
      | false => exact Nat.le_refl _
      | true =>
        have := mustR_len l (tl r)
        rw [tl_len] at this
        simp only [cond_false, cond_true]
        omega
theorem nameR_len (r : Sreader) : (nameR r).2.f0.length ≤ r.f0.length := by
  unfold nameR
  split
  · exact Nat.le_refl _
  · rename_i t l hl
    cases t.f0 == 1 && isName t.f1 with
    | true => rw [cond_true]; simp only [tl_len]; omega
    | false => exact Nat.le_refl _
theorem colR_len (r : Sreader) : (colR r).2.f0.length ≤ r.f0.length := by
  have h1 := nameR_len r
  have h2 := nameR_len (tl (nameR r).2)
  rw [tl_len] at h2
  unfold colR
  cases hd (nameR r).2 kDot with
  | true => rw [cond_true]; show (nameR (tl (nameR r).2)).2.f0.length ≤ _; omega
  | false => rw [cond_false]; exact h1
theorem countR_len (r : Sreader) : (countR r).f0.length ≤ r.f0.length := by
  have := mustR_len [kOpen, kStar, kClose] (mostR (IntKind.i64.wrap ((tl r).f4 + 1)) 20 (tl r))
  have h2 := tl_len r
  have h3 : (mostR (IntKind.i64.wrap ((tl r).f4 + 1)) 20 (tl r)).f0.length = (tl r).f0.length := rfl
  show (mustR [kOpen, kStar, kClose] (mostR (IntKind.i64.wrap ((tl r).f4 + 1)) 20 (tl r))).f0.length ≤ _
  omega
theorem closeAt_par {r : Sreader} (h : closeAt r = .par) : r.f1 = false ∧ hd r kOpen = true := by
  unfold closeAt at h
  cases hb : r.f1 with
  | true => rw [hb] at h; cases h
  | false =>
    rw [hb, cond_false] at h
    refine ⟨rfl, ?_⟩
    split at h
    · cases h
    · rename_i t l hl
      cases h1 : (t.f0 == 2 || (t.f0 == 3 || t.f0 == 4)) with
      | true => rw [h1] at h; cases h
      | false =>
        rw [h1, cond_false] at h
        cases h2 : hd r kNull with
        | true => rw [h2] at h; cases h
        | false =>
          rw [h2, cond_false] at h
          cases h3 : hd r kOpen with
          | true => rfl
          | false =>
            rw [h3, cond_false] at h
            cases h4 : hd r kCount with
            | true => rw [h4] at h; cases h
            | false =>
              rw [h4, cond_false] at h
              cases h5 : (t.f0 == 1 && fnOp t.f1 != 0) with
              | true => rw [h5] at h; cases h
              | false => rw [h5] at h; cases h
theorem closeAt_fn {r : Sreader} {n : Int} (h : closeAt r = .fn n) : 0 < r.f0.length := by
  unfold closeAt at h
  cases hb : r.f1 with
  | true => rw [hb] at h; cases h
  | false =>
    rw [hb, cond_false] at h
    split at h
    · cases h
    · rename_i hl; rw [hl]; simp
/-- Whatever stands there, if it is not longer, something is read of it. -/
def Tot (g : Nt) (n : Nat) : Prop := ∀ r : Sreader, r.f0.length ≤ n → ∃ e r', PE g r e r' ∧ r'.f0.length ≤ r.f0.length
theorem more_tot {j n : Nat} (h : Tot (nextT j) n) : ∀ m, m ≤ n → ∀ (e : SExpr) (r : Sreader), r.f0.length ≤ m → ∃ e' r', PE (.more j e) r e' r' ∧ r'.f0.length ≤ r.f0.length
  | m, hm, e, r, hr => by
    cases ho : opAt (opsT j) r with
    | none => exact ⟨e, r, .mnone ho, Nat.le_refl _⟩
    | some op =>
      have h0 := opAt_len ho
      have h1 := tl_len r
      obtain ⟨e2, r2, g1, g2⟩ := h (tl r) (by omega)
      match m, hm with
      | 0, _ => omega
      | m + 1, hm =>
        obtain ⟨e3, r3, g3, g4⟩ := more_tot h m (by omega) (mkE op [e, e2]) (nodeR r2) (show r2.f0.length ≤ m by omega)
        exact ⟨e3, r3, .msome ho g1 g3, by have : (nodeR r2).f0.length = r2.f0.length := rfl; omega⟩
theorem left_tot {j n : Nat} (h : Tot (nextT j) n) : Tot (.left j) n := by
  intro r hr
  obtain ⟨e, r1, g1, g2⟩ := h r hr
  obtain ⟨e', r2, g3, g4⟩ := more_tot h n (Nat.le_refl _) e r1 (by omega)
  exact ⟨e', r2, .left g1 g3, by omega⟩
theorem inside_tot {n : Nat} (h : Tot (.left 0) n) (r : Sreader) (hr : (mustR [kOpen] (deepR r)).f0.length ≤ n) : ∃ e r', PE .inside r e r' ∧ r'.f0.length ≤ r.f0.length := by
  obtain ⟨e, r3, g1, g2⟩ := h _ hr
  have h1 := mustR_len [kClose] r3
  have h2 := mustR_len [kOpen] (deepR r)
  exact ⟨e, _, .inside g1, by show (mustR [kClose] r3).f0.length ≤ _; have : (deepR r).f0.length = r.f0.length := rfl; omega⟩
theorem close_tot {n : Nat} (h : ∀ m, m < n → Tot (.left 0) m) : Tot .close n := by
  intro r hr
  cases hc : closeAt r with
  | bad => exact ⟨_, _, .cbad hc, Nat.le_refl _⟩
  | lit t => exact ⟨_, _, .clit hc, by show (tl r).f0.length ≤ _; rw [tl_len]; omega⟩
  | null => exact ⟨_, _, .cnull hc, by show (tl r).f0.length ≤ _; rw [tl_len]; omega⟩
  | par =>
    obtain ⟨h1, h2⟩ := closeAt_par hc
    have h3 := hd_len h2
    have e : mustR [kOpen] (deepR r) = tl (deepR r) := by
      have a1 : (deepR r).f1 = false := h1
      have a2 : hd (deepR r) kOpen = true := h2
      simp only [mustR, a1, a2, cond_false, cond_true]
    obtain ⟨e, r', g1, g2⟩ := inside_tot (h (n - 1) (by omega)) r (by rw [e, tl_len]; show r.f0.length - 1 ≤ _; omega)
    exact ⟨e, r', .cpar hc g1, g2⟩
  | count => exact ⟨_, _, .ccount hc, countR_len r⟩
  | fn op =>
    have h3 := closeAt_fn hc
    have h4 := tl_len r
    have h5 := mustR_len [kOpen] (deepR (tl r))
    have h6 : (deepR (tl r)).f0.length = (tl r).f0.length := rfl
    obtain ⟨e, r', g1, g2⟩ := inside_tot (h (n - 1) (by omega)) (tl r) (by omega)
    exact ⟨_, _, .cfun hc g1, by show r'.f0.length ≤ _; omega⟩
  | col => exact ⟨_, _, .ccol hc, colR_len r⟩
theorem neg_tot {n : Nat} (h : Tot .close n) : ∀ m, m ≤ n → Tot .neg m
  | m, hm, r, hr => by
    cases hh : hd r kMinus with
    | false =>
      obtain ⟨e, r', g1, g2⟩ := h r (by omega)
      exact ⟨e, r', .neg0 hh g1, g2⟩
    | true =>
      have h0 := hd_len hh
      have h1 := tl_len r
      match m, hm with
      | 0, _ => omega
      | m + 1, hm =>
        obtain ⟨e, r', g1, g2⟩ := neg_tot h m (by omega) (tl r) (by omega)
        exact ⟨_, _, .neg1 hh g1, by show r'.f0.length ≤ _; omega⟩
theorem tmore_tot {n : Nat} (h : Tot (.left 2) n) : ∀ m, m ≤ n → ∀ (e : SExpr) (r : Sreader), r.f0.length ≤ m → ∃ e' r', PE (.tmore e) r e' r' ∧ r'.f0.length ≤ r.f0.length
  | m, hm, e, r, hr => by
    cases ho : testAt r with
    | stop => exact ⟨e, r, .tnone ho, Nat.le_refl _⟩
    | is =>
      have h0 := testAt_is ho
      have h1 := tl_len r
      have h2 : (isRest (tl r)).f0.length ≤ (tl r).f0.length := by
        unfold isRest
        cases hd (tl r) kNot with
        | true => rw [cond_true, tl_len]; omega
        | false => exact Nat.le_refl _
      have h3 := mustR_len [kNull] (isRest (tl r))
      match m, hm with
      | 0, _ => omega
      | m + 1, hm =>
        obtain ⟨e3, r3, g3, g4⟩ := tmore_tot h m (by omega) (mkE (isOp (tl r)) [e]) (nodeR (mustR [kNull] (isRest (tl r)))) (show (mustR [kNull] (isRest (tl r))).f0.length ≤ m by omega)
        exact ⟨e3, r3, .tis ho g3, by have : (nodeR (mustR [kNull] (isRest (tl r)))).f0.length = (mustR [kNull] (isRest (tl r))).f0.length := rfl; omega⟩
    | op op =>
      have h0 := testAt_op ho
      have h1 := tl_len r
      obtain ⟨e2, r2, g1, g2⟩ := h (tl r) (by omega)
      match m, hm with
      | 0, _ => omega
      | m + 1, hm =>
        obtain ⟨e3, r3, g3, g4⟩ := tmore_tot h m (by omega) (mkE op [e, e2]) (nodeR r2) (show r2.f0.length ≤ m by omega)
        exact ⟨e3, r3, .tsome ho g1 g3, by have : (nodeR r2).f0.length = r2.f0.length := rfl; omega⟩
theorem test_tot {n : Nat} (h : Tot (.left 2) n) : Tot .test n := by
  intro r hr
  obtain ⟨e, r1, g1, g2⟩ := h r hr
  obtain ⟨e', r2, g3, g4⟩ := tmore_tot h n (Nat.le_refl _) e r1 (by omega)
  exact ⟨e', r2, .test g1 g3, by omega⟩
theorem not_tot {n : Nat} (h : Tot .test n) : ∀ m, m ≤ n → Tot .not m
  | m, hm, r, hr => by
    cases hh : hd r kNot with
    | false =>
      obtain ⟨e, r', g1, g2⟩ := h r (by omega)
      exact ⟨e, r', .not0 hh g1, g2⟩
    | true =>
      have h0 := hd_len hh
      have h1 := tl_len r
      match m, hm with
      | 0, _ => omega
      | m + 1, hm =>
        obtain ⟨e, r', g1, g2⟩ := not_tot h m (by omega) (tl r) (by omega)
        exact ⟨_, _, .not1 hh g1, by show r'.f0.length ≤ _; omega⟩
theorem expr_tot : ∀ n, Tot (.left 0) n := by
  intro n
  induction n using Nat.strongRecOn with
  | ind n ih =>
    have h1 : Tot (nextT 4) n := neg_tot (close_tot ih) n (Nat.le_refl _)
    have h2 : Tot (nextT 3) n := left_tot h1
    have h3 : Tot (nextT 2) n := left_tot h2
    have h4 : Tot (nextT 1) n := not_tot (test_tot (left_tot h3)) n (Nat.le_refl _)
    have h5 : Tot (nextT 0) n := left_tot h4
    exact left_tot h5
end Go.Proofs.Ytepekanlplbciaa.Q
