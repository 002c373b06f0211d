/-
  cadastre/cadastrelaw20.ParseEnds: what its printed function answers is true, for every list. No condition beyond the numbers' own bounds.
-/
import Derived.Test.YtepekanlplbciaaQPs7
import Derived.Test.YtepekanlplbciaaQOk
namespace Go.Proofs.Ytepekanlplbciaa.Q
open Go Go.AX

/-! ### expressions read by reckoning -/
noncomputable def evalPE : Nat → Nt → Sreader → Option (SExpr × Sreader)
  | 0, _, _ => none
  | n + 1, .left j, r => (evalPE n (nextT j) r).bind fun x => evalPE n (.more j x.1) x.2
  | n + 1, .more j e, r => match opAt (opsT j) r with
    | none => some (e, r)
    | some op => (evalPE n (nextT j) (tl r)).bind fun x => evalPE n (.more j (mkE op [e, x.1])) (nodeR x.2)
  | n + 1, .not, r => match hd r kNot with
    | true => (evalPE n .not (tl r)).bind fun x => some (mkE 4 [x.1], nodeR x.2)
    | false => evalPE n .test r
  | n + 1, .test, r => (evalPE n (.left 2) r).bind fun x => evalPE n (.tmore x.1) x.2
  | n + 1, .tmore e, r => match testAt r with
    | .stop => some (e, r)
    | .is => evalPE n (.tmore (mkE (isOp (tl r)) [e])) (nodeR (mustR [kNull] (isRest (tl r))))
    | .op op => (evalPE n (.left 2) (tl r)).bind fun x => evalPE n (.tmore (mkE op [e, x.1])) (nodeR x.2)
  | n + 1, .neg, r => match hd r kMinus with
    | true => (evalPE n .neg (tl r)).bind fun x => some (mkE 3 [x.1], nodeR x.2)
    | false => evalPE n .close r
  | n + 1, .close, r => match closeAt r with
    | .bad => some (e0, badR r)
    | .lit t => some (⟨1, valT t, ByteArray.empty, ByteArray.empty, []⟩, nodeR (tl r))
    | .null => some (⟨1, v0, ByteArray.empty, ByteArray.empty, []⟩, nodeR (tl r))
    | .par => evalPE n .inside r
    | .count => some (mkE 23 [], countR r)
    | .fn op => (evalPE n .inside (tl r)).bind fun x => some (mkE op [x.1], nodeR x.2)
    | .col => some (colR r)
  | n + 1, .inside, r => (evalPE n (.left 0) (mustR [kOpen] (deepR r))).bind fun x => some (x.1, upR (mustR [kClose] x.2))
theorem evalPE_ok : ∀ (n : Nat) (g : Nt) (r r' : Sreader) (e : SExpr), evalPE n g r = some (e, r') → PE g r e r'
  | 0, _, _, _, _, h => by simp [evalPE] at h
  | n + 1, .left j, r, r', e, h => by
    obtain ⟨x, h1, h2⟩ := bind_inv h
    exact .left (evalPE_ok n _ _ _ _ h1) (evalPE_ok n _ _ _ _ h2)
  | n + 1, .more j a, r, r', e, h => by
    simp only [evalPE] at h
    split at h
    · rename_i ho; cases h; exact .mnone ho
    · rename_i op ho
      obtain ⟨x, h1, h2⟩ := bind_inv h
      exact .msome ho (evalPE_ok n _ _ _ _ h1) (evalPE_ok n _ _ _ _ h2)
  | n + 1, .not, r, r', e, h => by
    simp only [evalPE] at h
    split at h
    · rename_i ho
      obtain ⟨x, h1, h2⟩ := bind_inv h
      cases h2
      exact .not1 ho (evalPE_ok n _ _ _ _ h1)
    · rename_i ho; exact .not0 ho (evalPE_ok n _ _ _ _ h)
  | n + 1, .test, r, r', e, h => by
    obtain ⟨x, h1, h2⟩ := bind_inv h
    exact .test (evalPE_ok n _ _ _ _ h1) (evalPE_ok n _ _ _ _ h2)
  | n + 1, .tmore a, r, r', e, h => by
    simp only [evalPE] at h
    split at h
    · rename_i ho; cases h; exact .tnone ho
    · rename_i ho; exact .tis ho (evalPE_ok n _ _ _ _ h)
    · rename_i op ho
      obtain ⟨x, h1, h2⟩ := bind_inv h
      exact .tsome ho (evalPE_ok n _ _ _ _ h1) (evalPE_ok n _ _ _ _ h2)
  | n + 1, .neg, r, r', e, h => by
    simp only [evalPE] at h
    split at h
    · rename_i ho
      obtain ⟨x, h1, h2⟩ := bind_inv h
      cases h2
      exact .neg1 ho (evalPE_ok n _ _ _ _ h1)
    · rename_i ho; exact .neg0 ho (evalPE_ok n _ _ _ _ h)
  | n + 1, .close, r, r', e, h => by
    simp only [evalPE] at h
    split at h
    · rename_i ho; cases h; exact .cbad ho
    · rename_i t ho; cases h; exact .clit ho
    · rename_i ho; cases h; exact .cnull ho
    · rename_i ho; exact .cpar ho (evalPE_ok n _ _ _ _ h)
    · rename_i ho; cases h; exact .ccount ho
    · rename_i op ho
      obtain ⟨x, h1, h2⟩ := bind_inv h
      cases h2
      exact .cfun ho (evalPE_ok n _ _ _ _ h1)
    · rename_i ho
      have e1 := Option.some.inj h
      have := PE.ccol ho
      rw [e1] at this
      exact this
  | n + 1, .inside, r, r', e, h => by
    obtain ⟨x, h1, h2⟩ := bind_inv h
    cases h2
    exact .inside (evalPE_ok n _ _ _ _ h1)
/-- A question of one expression and one table, read by reckoning. -/
noncomputable def evalQ (b : By) : Option (SExpr × ByteArray) :=
  bif (toks b).2 != 0 then none else match findOp stL (r0 (toks b).1) with
  | some 6 => bif hd (tl (r0 (toks b).1)) kStar then none else match evalPE 100 (.left 0) (tl (r0 (toks b).1)) with
    | some (e, r1) => bif hd (mostR (hgtI e.t) 20 r1) kComma || (mustR [kFrom] (mostR (hgtI e.t) 20 r1)).f1 then none else
      let x := nameR (mustR [kFrom] (mostR (hgtI e.t) 20 r1))
      bif hd x.2 kComma || (hd x.2 kWhere || (hd x.2 kOrder || (x.2.f1 || (decide (x.2.f0.length > 0) || (x.2.f2 || decide (x.2.f3 > 200)))))) then none else some (e, x.1)
    | none => none
  | _ => none
noncomputable def qS (e : SExpr) (s : ByteArray) : SStmt := ⟨9, ByteArray.empty, ByteArray.empty, false, [], [], [], [], [s], false, [e.t], [], []⟩
theorem evalQ_ok {b : By} {e : SExpr} {s : ByteArray} (h : evalQ b = some (e, s)) : Ev1 fun k => parse_Parse k (txt b) = some (qS e s, 0) := by
  unfold evalQ at h
  cases h0 : (toks b).2 != 0 with
  | true => rw [h0] at h; cases h
  | false =>
    rw [h0, cond_false] at h
    have ht : toks (by' (txt b)) = ((toks b).1, 0) := by
      rw [txt_by]
      rw [bne_eq_false_iff_eq] at h0
      rw [← h0]
    split at h
    · rename_i h6
      cases h7 : hd (tl (r0 (toks b).1)) kStar with
      | true => rw [h7] at h; cases h
      | false =>
        rw [h7, cond_false] at h
        split at h
        · rename_i e' r1 h8
          have g1 := evalPE_ok _ _ _ _ _ h8
          cases h9 : (hd (mostR (hgtI e'.t) 20 r1) kComma || (mustR [kFrom] (mostR (hgtI e'.t) 20 r1)).f1) with
          | true => rw [h9] at h; cases h
          | false =>
            rw [h9, cond_false] at h
            dsimp only at h
            rw [Bool.or_eq_false_iff] at h9
            generalize hx : nameR (mustR [kFrom] (mostR (hgtI e'.t) 20 r1)) = x at h
            cases h10 : (hd x.2 kComma || (hd x.2 kWhere || (hd x.2 kOrder || (x.2.f1 || (decide (x.2.f0.length > 0) || (x.2.f2 || decide (x.2.f3 > 200))))))) with
            | true => rw [h10] at h; cases h
            | false =>
              rw [h10, cond_false] at h
              have h := Option.some.inj h
              have he := (Prod.mk.inj h).1
              have hs0 := (Prod.mk.inj h).2
              subst he
              subst hs0
              simp only [Bool.or_eq_false_iff, decide_eq_false_iff_not] at h10
              obtain ⟨c1, c2, c3, c4, c5, c6, c7⟩ := h10
              have hb : (tl (r0 (toks b).1)).f1 = false := rfl
              have hq : PQ (tl (r0 (toks b).1)) _ _ := PQ.mk (q := tl (r0 (toks b).1)) (r2 := mostR (hgtI e'.t) 20 r1) (r4 := x.2) (r5 := x.2) (r8 := x.2) (out := [e'.t]) (wh := []) (frm := [x.1]) (ord := [])
                (.inr ⟨h7, .last hb ⟨_, g1, rfl⟩ h9.1⟩) (.last h9.2 (show nameR _ = (x.1, x.2) from hx) c1) (.none c2) (.inr ⟨c3, rfl, rfl⟩)
              have hs := PS.select h6 hq
              have := parse_ok ht hs
              refine this.imp fun k _ g => ?_
              rw [g]
              congr 1
              unfold finR
              have hlen : x.2.f0 = [] := List.eq_nil_of_length_eq_zero (by omega)
              have hs2 : hd x.2 kSemi = false := by unfold hd; rw [hlen]; rfl
              have e1 : hd (mostR (([] : List SOrder).length : Int) 16 (mostR (([x.1] : List ByteArray).length : Int) 3 (mostR (([e'.t] : List TExpr).length : Int) 16 x.2))) kSemi = false := hs2
              rw [e1, cond_false]
              show (bif x.2.f1 then _ else bif decide ((x.2.f0.length : Int) > 0) then _ else bif decide (x.2.f3 > 200) || (decide (((0 : Nat) : Int) > 16) || (decide (((1 : Nat) : Int) > 3) || (decide (((1 : Nat) : Int) > 16) || x.2.f2))) then _ else _) = _
              rw [c4, c6, decide_eq_false c7, hlen, h7]
              rfl
        · cases h
    · cases h
/-! ### the law -/
abbrev semiT : SToken := ⟨5, txt [59], 0⟩
abbrev beginT : SToken := ⟨1, txt [98, 101, 103, 105, 110], 0⟩
theorem words_out {x : SToken} (h : (wordsB.all fun s => !isT x s) = true) : ∀ s ∈ wordsB, isT x s = false := fun s hs => by
  have := List.all_eq_true.1 h s hs
  simpa using this
theorem semi_out : Out semiT := ⟨rfl, rfl, rfl, words_out (by kernel_rfl), rfl⟩
theorem begin_out : Out beginT := ⟨rfl, rfl, rfl, words_out (by kernel_rfl), by kernel_rfl⟩
theorem full0 : full [] = some ([], false) := by kernel_rfl
theorem full1 : full [59] = some ([semiT], false) := by kernel_rfl
theorem full2 : full [59, 59] = some ([semiT, semiT], false) := by kernel_rfl
theorem full3 : full [32, 98, 101, 103, 105, 110] = some ([beginT], false) := by kernel_rfl
theorem toks_app {t : ByteArray} {l us : List SToken} {c : By} (hs : t.size ≤ 4000) (hc : full c = some (us, false)) (hcl : c.length ≤ 100) (ht : toks (by' t) = (l, 0)) : toks (by' (cat t (txt (10 :: c)))) = (l ++ us, 0) := by
  have h1 := toks_ok (b := by' t) (by rw [ht])
  rw [ht] at h1
  have h2 := full_app (c := c) hc h1.2.1
  rw [by_cat, txt_by]
  refine toks_of ?_ (by rw [h2]; rfl)
  rw [List.length_append, List.length_cons, by_len]
  omega
theorem fin_ext {s : SStmt} {r : Sreader} {x : SToken} {xs : List SToken} (h1 : r.f1 = false) (h2 : (bif hd r kSemi then tl r else r).f0 = []) (h3 : (decide (r.f3 > 200) || r.f2) = false) :
    (xs = [] → hd r kSemi = false → isT x kSemi = true → finR s (ext (x :: xs) r) = (s, 0)) ∧ (xs ≠ [] ∨ hd r kSemi = true ∨ isT x kSemi = false → finR s (ext (x :: xs) r) = (z0, 1)) := by
  obtain ⟨l, a, b, c, d⟩ := r
  have h1 : a = false := h1
  subst h1
  unfold finR
  cases hh : hd ⟨l, false, b, c, d⟩ kSemi with
  | false =>
    rw [hh, cond_false] at h2
    have h2 : l = [] := h2
    subst h2
    have e : hd (ext (x :: xs) ⟨[], false, b, c, d⟩) kSemi = isT x kSemi := rfl
    rw [e]
    refine ⟨fun hx _ ht => ?_, fun h => ?_⟩
    · subst hx
      rw [ht]
      show (bif false then _ else bif decide ((([] : List SToken).length : Int) > 0) then _ else bif decide (c > 200) || b then _ else _) = _
      have h3 : (decide (c > 200) || b) = false := h3
      rw [h3]
      rfl
    · cases ht : isT x kSemi with
      | false =>
        have : decide ((((x :: xs) : List SToken).length : Int) > 0) = true := decide_eq_true (by simp only [List.length_cons]; omega)
        show (bif false then _ else bif decide ((((x :: xs) : List SToken).length : Int) > 0) then _ else _) = _
        rw [this]; rfl
      | true =>
        have hx : xs ≠ [] := by
          rcases h with h | h | h
          · exact h
          · cases h
          · rw [ht] at h; cases h
        cases xs with
        | nil => exact absurd rfl hx
        | cons y ys =>
          have : decide ((((y :: ys) : List SToken).length : Int) > 0) = true := decide_eq_true (by simp only [List.length_cons]; omega)
          show (bif false then _ else bif decide ((((y :: ys) : List SToken).length : Int) > 0) then _ else _) = _
          rw [this]; rfl
  | true =>
    rw [hh, cond_true] at h2
    cases l with
    | nil => cases hh
    | cons t l =>
      have h2 : l = [] := h2
      subst h2
      have e : hd (ext (x :: xs) ⟨[t], false, b, c, d⟩) kSemi = true := hh
      rw [e]
      refine ⟨(fun _ h => by cases h), fun _ => ?_⟩
      have : decide ((((x :: xs) : List SToken).length : Int) > 0) = true := decide_eq_true (by simp only [List.length_cons]; omega)
      show (bif false then _ else bif decide ((((x :: xs) : List SToken).length : Int) > 0) then _ else _) = _
      rw [this]; rfl
/-- What is said of one text. -/
def goodT (t : ByteArray) (k : Nat) : Prop := ∃ s e, parse_Parse k t = some (s, e) ∧ (e ≠ 0 ∨ (e = 0 ∧ ∃ u f v w, parse_Parse k (cat t (txt [10, 59])) = some (u, f) ∧ parse_Parse k (cat t (txt [10])) = some (s, 0) ∧
  parse_Parse k (cat t (txt [10, 59, 59])) = some (v, 1) ∧ parse_Parse k (cat t (txt [10, 32, 98, 101, 103, 105, 110])) = some (w, 1) ∧ ((f = 0 ∧ u = s) ∨ f = 1) ∧ cadastreref0_EqStmt k s s = some true))
theorem good_text {t : ByteArray} (hs : t.size ≤ 4000) : Ev1 (goodT t) := by
  obtain ⟨⟨s, e⟩, hx⟩ := parse_all t
  by_cases he : e = 0
  · subst he
    obtain ⟨l, r, h1, h2, h3, h4, h5⟩ := parse_inv hx
    obtain ⟨D0, g0⟩ := hx
    have e0 := toks_app hs full0 (by decide) h1
    rw [List.append_nil] at e0
    obtain ⟨D1, g1⟩ := parse_ok e0 h2
    have hfin : finR s r = (s, 0) := by
      obtain ⟨D2, g2⟩ := parse_ok h1 h2
      exact (Option.some.inj ((g0 (D0 + D2) (by omega)).symm.trans (g2 (D0 + D2) (by omega)))).symm
    have hext : ∀ (x : SToken) (xs : List SToken), Out x → PS (r0 (l ++ x :: xs)) s (ext (x :: xs) r) := fun x xs hx => PS_ext hx h2 h3
    obtain ⟨D2, g2⟩ := parse_ok (toks_app hs full1 (by decide) h1) (hext semiT [] semi_out)
    obtain ⟨D3, g3⟩ := parse_ok (toks_app hs full2 (by decide) h1) (hext semiT [semiT] semi_out)
    obtain ⟨D4, g4⟩ := parse_ok (toks_app hs full3 (by decide) h1) (hext beginT [] begin_out)
    have hlen := toks_len (by' t)
    rw [h1] at hlen
    obtain ⟨D5, g5⟩ := eqStmt_refl (PS_lim hlen h2)
    have f3 := (fin_ext (s := s) (x := semiT) (xs := [semiT]) h3 h4 h5).2 (.inl (by simp))
    have f4 := (fin_ext (s := s) (x := beginT) (xs := []) h3 h4 h5).2 (.inr (.inr (by kernel_rfl)))
    refine ⟨D0 + D1 + D2 + D3 + D4 + D5, fun k hk => ⟨s, 0, g0 k (by omega), .inr ⟨rfl, ?_⟩⟩⟩
    have q1 : parse_Parse k (cat t (txt [10])) = some (s, 0) := (g1 k (by omega)).trans (by rw [hfin])
    have q3 : parse_Parse k (cat t (txt [10, 59, 59])) = some (z0, 1) := (g3 k (by omega)).trans (by rw [f3])
    have q4 : parse_Parse k (cat t (txt [10, 32, 98, 101, 103, 105, 110])) = some (z0, 1) := (g4 k (by omega)).trans (by rw [f4])
    cases hh : hd r kSemi with
    | false =>
      have f2 := (fin_ext (s := s) (x := semiT) (xs := []) h3 h4 h5).1 rfl hh (by kernel_rfl)
      exact ⟨s, 0, z0, z0, (g2 k (by omega)).trans (by rw [f2]), q1, q3, q4, .inl ⟨rfl, rfl⟩, g5 k (by omega)⟩
    | true =>
      have f2 := (fin_ext (s := s) (x := semiT) (xs := []) h3 h4 h5).2 (.inr (.inl hh))
      exact ⟨z0, 1, z0, z0, (g2 k (by omega)).trans (by rw [f2]), q1, q3, q4, .inr rfl, g5 k (by omega)⟩
  · obtain ⟨D, g⟩ := hx
    exact ⟨D, fun k hk => ⟨s, e, g k hk, .inl he⟩⟩
theorem fits_app {t : ByteArray} {c : By} (hs : t.size ≤ 4000) (hc : c.length ≤ 100) : strFits t (txt c) := by
  rw [strFits_eq, txt_size]; omega
theorem ends_j4 {k : Nat} (kret : Bool → Option Bool) (knxt : List ByteArray → Int → Option Bool) (l : List ByteArray) (i : Nat) (hi : i < l.length) (hi9 : i < 10) (hg : l[i].size ≤ 4000 → goodT l[i] k) :
    cadastrelaw20_ParseEnds_j4 k kret knxt l (i : Int) = knxt l ((i + 1 : Nat) : Int) ∨ cadastrelaw20_ParseEnds_j4 k kret knxt l (i : Int) = kret true := by
  unfold cadastrelaw20_ParseEnds_j4
  rw [chk_pos (by omega), Int.toNat_natCast, getD_get _ i _ hi]
  dsimp only
  by_cases hs : l[i].size ≤ 4000
  · left
    rw [big_eq, decide_eq_false (by omega), cond_false, chk_pos (by omega)]
    obtain ⟨s, e, h1, h2⟩ := hg hs
    rw [h1, some_bind]
    unfold cadastrelaw20_num
    rw [some_bind]
    rcases h2 with he | ⟨rfl, u, f, v, w, p1, p2, p3, p4, p5, p6⟩
    · rw [show (e != 0) = true by rw [bne_iff_ne]; exact he, cond_true, w64n (by omega)]
    · have c1 : (⟨#[10, 59]⟩ : ByteArray) = txt [10, 59] := rfl
      have c2 : (⟨#[10]⟩ : ByteArray) = txt [10] := rfl
      have c3 : (⟨#[10, 59, 59]⟩ : ByteArray) = txt [10, 59, 59] := rfl
      have c4 : (⟨#[10, 32, 98, 101, 103, 105, 110]⟩ : ByteArray) = txt [10, 32, 98, 101, 103, 105, 110] := rfl
      have z1 : ((0 : Int) != 0) = false := rfl
      have z2 : ((1 : Int) != 0) = true := rfl
      have z3 : ((1 : Int) != 1) = false := rfl
      rw [z1, cond_false, chk_pos (by omega), c1, c2, c3, c4, chk_pos (fits_app hs (by decide)), p1, some_bind, chk_pos (by omega), chk_pos (fits_app hs (by decide)), p2, some_bind, chk_pos (by omega), chk_pos (fits_app hs (by decide)), p3, some_bind,
        chk_pos (by omega), chk_pos (fits_app hs (by decide)), p4]
      simp only [some_bind]
      rw [z1, cond_false, p6, some_bind]
      rcases p5 with ⟨rfl, rfl⟩ | rfl
      · rw [z1, p6]
        simp only [some_bind, Bool.not_true, Bool.not_false, cond_false, cond_true, z3]
        rw [w64n (by omega)]
      · rw [z2]
        simp only [Bool.not_true, cond_false, cond_true, z3]
        rw [w64n (by omega)]
  · right
    rw [big_eq, decide_eq_true (by omega), cond_true]
def aT : By := [115, 101, 108, 101, 99, 116, 32, 97, 32, 43, 32, 49, 32, 102, 114, 111, 109, 32, 116]
def bT : By := [115, 101, 108, 101, 99, 116, 32, 40, 40, 97, 41, 32, 43, 32, 40, 49, 41, 41, 32, 102, 114, 111, 109, 32, 116]
noncomputable def theE : SExpr := mkE 12 [⟨2, v0, ByteArray.empty, txt [97], []⟩, ⟨1, ⟨1, 1, ByteArray.empty⟩, ByteArray.empty, ByteArray.empty, []⟩]
theorem evalA : evalQ aT = some (theE, txt [116]) := by kernel_rfl
theorem evalB : evalQ bT = some (theE, txt [116]) := by kernel_rfl
theorem wakesT : toks (by' (txt [98, 101, 103, 105, 110, 59])) = ([beginT, semiT], 0) := by kernel_rfl
theorem wakes_ev : Ev1 fun k => cadastrelaw20_wakes k = some true := by
  have h : PS (r0 [beginT, semiT]) _ _ := PS.begin (r := r0 [beginT, semiT]) (by kernel_rfl)
  refine (parse_ok wakesT h).imp fun k hk g => ?_
  unfold cadastrelaw20_wakes cadastrelaw20_num
  rw [show (⟨#[98, 101, 103, 105, 110, 59]⟩ : ByteArray) = txt [98, 101, 103, 105, 110, 59] from rfl, g, some_bind, some_bind]
  kernel_rfl
theorem ParseEnds_pure : ∀ l : List ByteArray, (l.length * 16 ≤ 140737488351232 ∧ l.length ≤ 9223372036854775807 ∧ ∀ y ∈ l, (y.size ≤ 140737488351232)) → ∃ k, cadastrelaw20_ParseEnds k l = some true := by
  intro l _
  obtain ⟨D1, h1⟩ := uni (p := fun t k _ => t.size ≤ 4000 → goodT t k) l fun t _ => by
    by_cases hs : t.size ≤ 4000
    · obtain ⟨D, g⟩ := good_text hs
      exact ⟨D, fun k _ hk _ _ => g k hk⟩
    · exact ⟨0, fun _ _ _ _ h => absurd h hs⟩
  obtain ⟨D2, h2⟩ := evalQ_ok evalA
  obtain ⟨D3, h3⟩ := evalQ_ok evalB
  obtain ⟨D4, h4⟩ := wakes_ev
  obtain ⟨D5, h5⟩ := eqStmt_refl (a := qS theE (txt [116])) ⟨by simp [qS], by simp [qS], ⟨by simp [qS], fun x hx => by simp [qS] at hx⟩, ⟨by simp [qS], fun x hx => by simp [qS] at hx⟩, by simp [qS],
    ⟨by simp [qS], fun x hx => by
      simp only [qS, List.mem_cons, List.not_mem_nil, or_false] at hx
      subst hx
      exact few_lim (few_mk (by simp) fun y hy => by
        simp only [List.mem_cons, List.not_mem_nil, or_false] at hy
        rcases hy with rfl | rfl <;> exact .mk (Nat.zero_le 2) fun z hz => by cases hz)⟩, lim_nil, ⟨by simp [qS], fun x hx => by simp [qS] at hx⟩⟩
  refine ⟨D1 + D2 + D3 + D4 + D5 + l.length + 100, ?_⟩
  generalize hK : D1 + D2 + D3 + D4 + D5 + l.length + 100 = K
  have hend : ((parse_Parse K (txt aT)).bind fun r_27 => (parse_Parse K (txt bT)).bind fun r_28 => (cadastrelaw20_num K r_27.2).bind fun r_29 => bif (r_29 == 0) then (cadastrelaw20_num K r_28.2).bind fun r_30 => bif (r_30 == 0) then
      (cadastreref0_EqStmt K r_27.1 r_28.1).bind fun r_31 => bif r_31 then (cadastrelaw20_wakes K).bind fun r_32 => some r_32 else some false else some false else some false) = some true := by
    rw [h2 K (by omega), some_bind, h3 K (by omega), some_bind]
    unfold cadastrelaw20_num
    simp only [some_bind]
    have z : ((0 : Int) == 0) = true := rfl
    rw [z]
    simp only [cond_true, some_bind]
    rw [h5 K (by omega), some_bind, cond_true, show cadastrelaw20_wakes K = some true from h4 K (by omega)]; rfl
  unfold cadastrelaw20_ParseEnds
  have hloop : ∀ (ke : Option Bool), ke = some true → ∀ (d i n : Nat), i + d = l.length → d < n → cadastrelaw20_ParseEnds_l2 K (fun t => some t) ke n l (i : Int) = some true := by
    intro ke hke
    refine law_run l.length (fun n i => cadastrelaw20_ParseEnds_l2 K (fun t => some t) ke n l i) (fun n => ?_) (fun n i hi => ?_)
    · simp only [cadastrelaw20_ParseEnds_l2, cadastrelaw20_ParseEnds_l2_b]
      rw [decide_eq_false (by omega), cond_false, hke]
    · simp only [cadastrelaw20_ParseEnds_l2, cadastrelaw20_ParseEnds_l2_b]
      rw [decide_eq_true (by omega), cond_true]
      by_cases h10 : i < 10
      · rw [decide_eq_true (p := ((i : Int) < 10)) (by omega), cond_true]
        rcases ends_j4 (k := K) (fun t => some t) (cadastrelaw20_ParseEnds_l2 K (fun t => some t) ke n) l i hi h10 (h1 _ (List.getElem_mem hi) K K (by omega) (by omega)) with h | h
        · exact .inl h
        · exact .inr h
      · rw [decide_eq_false (p := ((i : Int) < 10)) (by omega), cond_false]
        exact .inr hke
  exact hloop _ hend l.length 0 K (by omega) (by omega)
end Go.Proofs.Ytepekanlplbciaa.Q
