/-
  Layer 20: what stands behind a statement changes nothing of how it is read, if no statement goes on with it.
-/
import Derived.Test.YtepekanlplbciaaQPs5
namespace Go.Proofs.Ytepekanlplbciaa.Q
open Go Go.AX

/-- The words and marks that a statement may go on with. -/
def wordsB : List ByteArray := [(⟨#[111, 114]⟩ : ByteArray), (⟨#[97, 110, 100]⟩ : ByteArray), (⟨#[110, 111, 116]⟩ : ByteArray), (⟨#[105, 115]⟩ : ByteArray), (⟨#[110, 117, 108, 108]⟩ : ByteArray), (⟨#[45]⟩ : ByteArray), (⟨#[40]⟩ : ByteArray), (⟨#[41]⟩ : ByteArray), (⟨#[99, 111, 117, 110, 116]⟩ : ByteArray), (⟨#[42]⟩ : ByteArray), (⟨#[46]⟩ : ByteArray), (⟨#[44]⟩ : ByteArray), (⟨#[116, 97, 98, 108, 101]⟩ : ByteArray), (⟨#[117, 115, 105, 110, 103]⟩ : ByteArray), (⟨#[114, 116, 114, 101, 101]⟩ : ByteArray), (⟨#[117, 110, 105, 113, 117, 101]⟩ : ByteArray), (⟨#[105, 110, 100, 101, 120]⟩ : ByteArray), (⟨#[111, 110]⟩ : ByteArray), (⟨#[105, 110, 116, 111]⟩ : ByteArray), (⟨#[118, 97, 108, 117, 101, 115]⟩ : ByteArray), (⟨#[115, 101, 116]⟩ : ByteArray), (⟨#[119, 104, 101, 114, 101]⟩ : ByteArray), (⟨#[102, 114, 111, 109]⟩ : ByteArray), (⟨#[111, 114, 100, 101, 114]⟩ : ByteArray), (⟨#[98, 121]⟩ : ByteArray), (⟨#[100, 101, 115, 99]⟩ : ByteArray), (⟨#[118, 105, 114, 116, 117, 97, 108]⟩ : ByteArray), (⟨#[61]⟩ : ByteArray), (⟨#[60, 62]⟩ : ByteArray), (⟨#[60]⟩ : ByteArray), (⟨#[60, 61]⟩ : ByteArray), (⟨#[62]⟩ : ByteArray), (⟨#[62, 61]⟩ : ByteArray), (⟨#[43]⟩ : ByteArray), (⟨#[47]⟩ : ByteArray), (⟨#[37]⟩ : ByteArray), (⟨#[124, 124]⟩ : ByteArray), (⟨#[97, 110, 121]⟩ : ByteArray), (⟨#[105, 110, 116, 101, 103, 101, 114]⟩ : ByteArray), (⟨#[116, 101, 120, 116]⟩ : ByteArray), (⟨#[98, 108, 111, 98]⟩ : ByteArray)]
/-- A token that no statement goes on with. -/
structure Out (x : SToken) : Prop where
  two : (x.f0 == 2) = false
  three : (x.f0 == 3) = false
  four : (x.f0 == 4) = false
  word : ∀ s ∈ wordsB, isT x s = false
  name : (x.f0 == 1 && isName x.f1) = false
def ext (xs : List SToken) (r : Sreader) : Sreader := ⟨r.f0 ++ xs, r.f1, r.f2, r.f3, r.f4⟩
section
variable {x : SToken} {xs : List SToken} (hx : Out x)
include hx
theorem hd_ext {s : ByteArray} (hs : s ∈ wordsB) (r : Sreader) : hd (ext (x :: xs) r) s = hd r s := by
  obtain ⟨l, a, b, c, d⟩ := r
  cases l with
  | nil => exact hx.word s hs
  | cons t l => rfl
omit hx in
theorem hd_ext' {s : ByteArray} {r : Sreader} (h : 0 < r.f0.length) : hd (ext xs r) s = hd r s := by
  obtain ⟨l, a, b, c, d⟩ := r
  cases l with
  | nil => simp at h
  | cons t l => rfl
omit hx in
theorem tl_ext {r : Sreader} (h : 0 < r.f0.length) : tl (ext xs r) = ext xs (tl r) := by
  obtain ⟨l, a, b, c, d⟩ := r
  cases l with
  | nil => simp at h
  | cons t l => rfl
theorem findOp_ext : ∀ (l : List Soper) (r : Sreader), (∀ o ∈ l, o.f0 ∈ wordsB) → findOp l (ext (x :: xs) r) = findOp l r
  | [], r, _ => rfl
  | o :: l, r, h => by
    simp only [findOp]
    rw [hd_ext hx (h o List.mem_cons_self), findOp_ext l r fun o ho => h o (List.mem_cons_of_mem _ ho)]
omit hx in
theorem findOp_ext' : ∀ (l : List Soper) (r : Sreader), 0 < r.f0.length → findOp l (ext xs r) = findOp l r
  | [], r, _ => rfl
  | o :: l, r, h => by
    simp only [findOp]
    rw [hd_ext' h, findOp_ext' l r h]
theorem opAt_ext {l : List Soper} (h : ∀ o ∈ l, o.f0 ∈ wordsB) (r : Sreader) : opAt l (ext (x :: xs) r) = opAt l r := by
  unfold opAt
  rw [findOp_ext hx l r h]; rfl
omit hx in
theorem opsT_words (j : Nat) : ∀ o ∈ opsT j, o.f0 ∈ wordsB := by
  have key : ∀ l : List Soper, (l.all fun o => wordsB.contains o.f0) = true → ∀ o ∈ l, o.f0 ∈ wordsB := fun l h o ho => by
    have := List.all_eq_true.1 h o ho
    simpa using this
  match j with
  | 0 => exact key _ (by kernel_rfl)
  | 1 => exact key _ (by kernel_rfl)
  | 2 => exact key _ (by kernel_rfl)
  | 3 => exact key _ (by kernel_rfl)
  | j + 4 => exact key (opsT 4) (by kernel_rfl)
omit hx in
theorem tests_words : ∀ o ∈ testsB, o.f0 ∈ wordsB := by
  have key : ∀ l : List Soper, (l.all fun o => wordsB.contains o.f0) = true → ∀ o ∈ l, o.f0 ∈ wordsB := fun l h o ho => by
    have := List.all_eq_true.1 h o ho
    simpa using this
  exact key _ (by kernel_rfl)
theorem testAt_ext (r : Sreader) : testAt (ext (x :: xs) r) = testAt r := by
  unfold testAt
  rw [findOp_ext hx _ r tests_words, hd_ext hx (by simp [wordsB])]; rfl
theorem mustR_ext : ∀ (l : List ByteArray) (r : Sreader), (∀ s ∈ l, s ∈ wordsB) → (mustR l r).f1 = false → mustR l (ext (x :: xs) r) = ext (x :: xs) (mustR l r)
  | [], r, _, _ => rfl
  | s :: l, r, h, hb => by
    simp only [mustR] at hb ⊢
    rw [hd_ext hx (h s List.mem_cons_self), show (ext (x :: xs) r).f1 = r.f1 from rfl]
    cases h1 : r.f1 with
    | true => rw [h1] at hb; cases hb
    | false =>
      rw [h1, cond_false] at hb
      cases h2 : hd r s with
      | false => rw [h2] at hb; cases hb
      | true =>
        rw [h2, cond_true] at hb
        rw [cond_false, cond_true, cond_false, cond_true, tl_ext (hd_len h2)]
        exact mustR_ext l (tl r) (fun s hs => h s (List.mem_cons_of_mem _ hs)) hb
omit hx in
theorem mustR_mono : ∀ (l : List ByteArray) (r : Sreader), (mustR l r).f1 = false → r.f1 = false
  | [], r, h => h
  | s :: l, r, h => by
    simp only [mustR] at h
    cases h1 : r.f1 with
    | true => rw [h1] at h; cases h
    | false => rfl
omit hx in
theorem nameR_mono (r : Sreader) (h : (nameR r).2.f1 = false) : r.f1 = false := by
  unfold nameR at h
  split at h
  · cases h
  · rename_i t l _
    cases h1 : (t.f0 == 1 && isName t.f1) with
    | true => rw [h1] at h; exact h
    | false => rw [h1] at h; cases h
omit hx in
theorem nameR_ext (r : Sreader) (h : (nameR r).2.f1 = false) : nameR (ext xs r) = ((nameR r).1, ext xs (nameR r).2) := by
  obtain ⟨l, a, b, c, d⟩ := r
  cases l with
  | nil => cases h
  | cons t l =>
    unfold nameR at h ⊢
    simp only [ext, List.cons_append] at h ⊢
    cases h1 : (t.f0 == 1 && isName t.f1) with
    | true => rfl
    | false => rw [h1] at h; cases h
omit hx in
theorem closeAt_ext (r : Sreader) (h : closeAt r ≠ .bad) : closeAt (ext (x :: xs) r) = closeAt r := by
  obtain ⟨l, a, b, c, d⟩ := r
  cases l with
  | nil => exfalso; apply h; unfold closeAt; cases a <;> rfl
  | cons t l => rfl
theorem isOp_ext (r : Sreader) : isOp (ext (x :: xs) r) = isOp r := by
  unfold isOp
  rw [hd_ext hx (by simp [wordsB])]
theorem isRest_ext (r : Sreader) : isRest (ext (x :: xs) r) = ext (x :: xs) (isRest r) := by
  unfold isRest
  rw [hd_ext hx (by simp [wordsB])]
  cases h : hd r kNot with
  | true => rw [cond_true, cond_true, tl_ext (hd_len h)]
  | false => rfl
omit hx in
theorem colR_mono (r : Sreader) (h : (colR r).2.f1 = false) : (nameR r).2.f1 = false ∧ (hd (nameR r).2 kDot = true → (nameR (tl (nameR r).2)).2.f1 = false) := by
  unfold colR at h
  cases h1 : hd (nameR r).2 kDot with
  | true =>
    rw [h1, cond_true] at h
    have h2 : (nameR (tl (nameR r).2)).2.f1 = false := h
    have h3 := nameR_mono _ h2
    exact ⟨h3, fun _ => h⟩
  | false =>
    rw [h1, cond_false] at h
    exact ⟨h, fun h => by cases h⟩
theorem colR_ext (r : Sreader) (h : (colR r).2.f1 = false) : colR (ext (x :: xs) r) = ((colR r).1, ext (x :: xs) (colR r).2) := by
  obtain ⟨h1, h2⟩ := colR_mono r h
  unfold colR
  rw [nameR_ext r h1]
  dsimp only
  rw [hd_ext hx (by simp [wordsB])]
  cases h3 : hd (nameR r).2 kDot with
  | true => rw [cond_true, cond_true, tl_ext (hd_len h3), nameR_ext _ (h2 h3)]; rfl
  | false => rfl
theorem countR_ext (r : Sreader) (hr : 0 < r.f0.length) (h : (countR r).f1 = false) : countR (ext (x :: xs) r) = ext (x :: xs) (countR r) := by
  have h2 : (mustR [kOpen, kStar, kClose] (mostR (IntKind.i64.wrap ((tl r).f4 + 1)) 20 (tl r))).f1 = false := h
  unfold countR
  rw [tl_ext hr]
  have := mustR_ext (xs := xs) hx [kOpen, kStar, kClose] (mostR (IntKind.i64.wrap ((tl r).f4 + 1)) 20 (tl r)) (by simp [wordsB]) h2
  exact congrArg nodeR this
omit hx in
theorem countR_mono (r : Sreader) (h : (countR r).f1 = false) : r.f1 = false := by
  have h1 := mustR_mono [kOpen, kStar, kClose] (mostR (IntKind.i64.wrap ((tl r).f4 + 1)) 20 (tl r)) h
  exact h1
omit hx in
theorem isRest_f1 (r : Sreader) : (isRest r).f1 = r.f1 := by
  unfold isRest
  cases hd r kNot <;> rfl
omit hx in
/-- What is no expression stays so. -/
theorem PE_mono {g : Nt} {r r' : Sreader} {e : SExpr} (h : PE g r e r') : r'.f1 = false → r.f1 = false := by
  induction h with
  | left _ _ ih1 ih2 => exact fun h => ih1 (ih2 h)
  | mnone _ => exact id
  | msome _ _ _ ih1 ih2 => exact fun h => ih1 (ih2 h)
  | not1 _ _ ih => exact ih
  | not0 _ _ ih => exact ih
  | test _ _ ih1 ih2 => exact fun h => ih1 (ih2 h)
  | tnone _ => exact id
  | @tis r r' e e' _ _ ih =>
    intro h
    have h1 := mustR_mono [kNull] _ (ih h)
    rw [isRest_f1] at h1
    exact h1
  | tsome _ _ _ ih1 ih2 => exact fun h => ih1 (ih2 h)
  | neg1 _ _ ih => exact ih
  | neg0 _ _ ih => exact ih
  | cbad _ => intro h; cases h
  | clit _ => exact id
  | cnull _ => exact id
  | cpar _ _ ih => exact ih
  | ccount _ => exact countR_mono _
  | cfun _ _ ih => exact ih
  | ccol _ => exact fun h => nameR_mono _ (colR_mono _ h).1
  | @inside r r3 e _ ih =>
    intro h
    have h1 := mustR_mono [kClose] r3 h
    have h2 := mustR_mono [kOpen] (deepR r) (ih h1)
    exact h2
omit hx in
theorem closeAt_len {r : Sreader} (h : closeAt r ≠ .bad) : 0 < r.f0.length := by
  obtain ⟨l, a, b, c, d⟩ := r
  cases l with
  | nil => exfalso; apply h; unfold closeAt; cases a <;> rfl
  | cons t l => simp
omit hx in
theorem opAt_pos {l : List Soper} {r : Sreader} {n : Int} (h : opAt l r = some n) : 0 < r.f0.length := opAt_len h
/-- An expression is read the same, whatever stands behind. -/
theorem PE_ext {g : Nt} {r r' : Sreader} {e : SExpr} (h : PE g r e r') : r'.f1 = false → PE g (ext (x :: xs) r) e (ext (x :: xs) r') := by
  induction h with
  | left _ h2 ih1 ih2 =>
    intro h
    have hm := PE_mono h2 h
    exact .left (ih1 hm) (ih2 h)
  | mnone ho => exact fun _ => .mnone (by rw [opAt_ext hx (opsT_words _)]; exact ho)
  | msome ho h1 h2 ih1 ih2 =>
    intro h
    have hm := PE_mono h2 h
    have g1 := ih1 hm
    rw [← tl_ext (opAt_len ho)] at g1
    exact .msome (by rw [opAt_ext hx (opsT_words _)]; exact ho) g1 (ih2 h)
  | not1 hh _ ih =>
    intro h
    have g1 := ih h
    rw [← tl_ext (hd_len hh)] at g1
    exact .not1 (by rw [hd_ext hx (by simp [wordsB])]; exact hh) g1
  | not0 hh _ ih => exact fun h => .not0 (by rw [hd_ext hx (by simp [wordsB])]; exact hh) (ih h)
  | test _ h2 ih1 ih2 =>
    intro h
    have hm := PE_mono h2 h
    exact .test (ih1 hm) (ih2 h)
  | tnone ho => exact fun _ => .tnone (by rw [testAt_ext hx]; exact ho)
  | @tis r r' e e' ho h1 ih =>
    intro h
    have hm := PE_mono h1 h
    have hb : (mustR [kNull] (isRest (tl r))).f1 = false := hm
    have g1 := ih h
    have e1 := mustR_ext (xs := xs) hx [kNull] (isRest (tl r)) (by simp [wordsB]) hb
    rw [← isRest_ext hx, ← tl_ext (testAt_is ho)] at e1
    refine .tis (by rw [testAt_ext hx]; exact ho) ?_
    rw [e1, tl_ext (testAt_is ho), isOp_ext hx]
    exact g1
  | tsome ho h1 h2 ih1 ih2 =>
    intro h
    have hm := PE_mono h2 h
    have g1 := ih1 hm
    rw [← tl_ext (testAt_op ho)] at g1
    exact .tsome (by rw [testAt_ext hx]; exact ho) g1 (ih2 h)
  | neg1 hh _ ih =>
    intro h
    have g1 := ih h
    rw [← tl_ext (hd_len hh)] at g1
    exact .neg1 (by rw [hd_ext hx (by simp [wordsB])]; exact hh) g1
  | neg0 hh _ ih => exact fun h => .neg0 (by rw [hd_ext hx (by simp [wordsB])]; exact hh) (ih h)
  | cbad _ => intro h; cases h
  | @clit r t hc =>
    intro _
    have hn : closeAt r ≠ .bad := by rw [hc]; exact fun h => by cases h
    have := PE.clit (r := ext (x :: xs) r) (t := t) (by rw [closeAt_ext r hn]; exact hc)
    rw [tl_ext (closeAt_len hn)] at this
    exact this
  | @cnull r hc =>
    intro _
    have hn : closeAt r ≠ .bad := by rw [hc]; exact fun h => by cases h
    have := PE.cnull (r := ext (x :: xs) r) (by rw [closeAt_ext r hn]; exact hc)
    rw [tl_ext (closeAt_len hn)] at this
    exact this
  | @cpar r r1 e hc _ ih => exact fun h => .cpar (by rw [closeAt_ext r (by rw [hc]; exact fun h => by cases h)]; exact hc) (ih h)
  | @ccount r hc =>
    intro h
    have hn : closeAt r ≠ .bad := by rw [hc]; exact fun h => by cases h
    have := PE.ccount (r := ext (x :: xs) r) (by rw [closeAt_ext r hn]; exact hc)
    rw [countR_ext hx r (closeAt_len hn) h] at this
    exact this
  | @cfun r r1 e op hc _ ih =>
    intro h
    have hn : closeAt r ≠ .bad := by rw [hc]; exact fun h => by cases h
    have g1 := ih h
    rw [← tl_ext (closeAt_len hn)] at g1
    exact .cfun (by rw [closeAt_ext r hn]; exact hc) g1
  | @ccol r hc =>
    intro h
    have hn : closeAt r ≠ .bad := by rw [hc]; exact fun h => by cases h
    have := PE.ccol (r := ext (x :: xs) r) (by rw [closeAt_ext r hn]; exact hc)
    rw [colR_ext hx r h] at this
    exact this
  | @inside r r3 e h1 ih =>
    intro h
    have h2 : (mustR [kClose] r3).f1 = false := h
    have h3 := mustR_mono [kClose] r3 h2
    have g1 := ih h3
    have h4 := PE_mono h1 h3
    have e1 : mustR [kOpen] (deepR (ext (x :: xs) r)) = ext (x :: xs) (mustR [kOpen] (deepR r)) := mustR_ext hx [kOpen] (deepR r) (by simp [wordsB]) h4
    have e2 := mustR_ext (xs := xs) hx [kClose] r3 (by simp [wordsB]) h2
    rw [← e1] at g1
    have := PE.inside g1
    rw [e2] at this
    exact this

/-! ### lists, statements -/
omit hx in
theorem PL_mono {α β : Type} {one : Sreader → β → Sreader → Prop} {el : β → α} (h1 : ∀ r a r', one r a r' → r'.f1 = false → r.f1 = false) {l q : List α} {r r' : Sreader} (h : PL one el l r q r') : r'.f1 = false → r.f1 = false := by
  induction h with
  | stop hb => exact id
  | last hb _ _ => exact fun _ => hb
  | more hb _ _ _ _ => exact fun _ => hb
theorem PL_ext {α β : Type} {one : Sreader → β → Sreader → Prop} {el : β → α} (h1 : ∀ r a r', one r a r' → r'.f1 = false → r.f1 = false) (h2 : ∀ r a r', one r a r' → r'.f1 = false → one (ext (x :: xs) r) a (ext (x :: xs) r'))
    {l q : List α} {r r' : Sreader} (h : PL one el l r q r') : r'.f1 = false → PL one el l (ext (x :: xs) r) q (ext (x :: xs) r') := by
  induction h with
  | stop hb => exact fun _ => .stop hb
  | last hb g hc => exact fun h => .last hb (h2 _ _ _ g h) (by rw [hd_ext hx (by simp [wordsB])]; exact hc)
  | @more l q r r1 r2 a hb g hc g2 ih =>
    intro h
    have hm := PL_mono h1 g2 h
    have h3 : r1.f1 = false := hm
    refine .more hb (h2 _ _ _ g h3) (by rw [hd_ext hx (by simp [wordsB])]; exact hc) ?_
    rw [tl_ext (hd_len hc)]
    exact ih h
omit hx in
theorem PW_mono : ∀ r a r', PW r a r' → r'.f1 = false → r.f1 = false := fun r a r' ⟨r1, h, he⟩ hb => by rw [he] at hb; exact PE_mono h hb
theorem PW_ext : ∀ r a r', PW r a r' → r'.f1 = false → PW (ext (x :: xs) r) a (ext (x :: xs) r') := fun r a r' ⟨r1, h, he⟩ hb => by
  rw [he] at hb ⊢
  exact ⟨_, PE_ext hx h hb, rfl⟩
omit hx in
theorem PN_mono : ∀ r a r', PN r a r' → r'.f1 = false → r.f1 = false := fun r a r' h hb => nameR_mono r (by rw [show nameR r = (a, r') from h]; exact hb)
omit hx in
theorem PN_ext : ∀ r a r', PN r a r' → r'.f1 = false → PN (ext (x :: xs) r) a (ext (x :: xs) r') := fun r a r' h hb => by
  have h : nameR r = (a, r') := h
  have := nameR_ext (xs := x :: xs) r (by rw [h]; exact hb)
  rw [h] at this
  exact this
omit hx in
theorem typeR_f1 (r : Sreader) : (typeR r).2.f1 = r.f1 := by
  unfold typeR
  split <;> rfl
theorem typeR_ext (r : Sreader) : typeR (ext (x :: xs) r) = ((typeR r).1, ext (x :: xs) (typeR r).2) := by
  unfold typeR
  rw [findOp_ext hx _ r (by simp [wordsB])]
  split
  · rename_i h; rw [tl_ext (findOp_len h)]
  · rfl
omit hx in
theorem columnR_mono (r : Sreader) (h : (columnR r).2.f1 = false) : (nameR r).2.f1 = false ∧ (hd (typeR (nameR r).2).2 kNot = true → (mustR [kNull] (tl (typeR (nameR r).2).2)).f1 = false) := by
  unfold columnR at h
  cases h1 : hd (typeR (nameR r).2).2 kNot with
  | true =>
    rw [h1, cond_true] at h
    have := mustR_mono _ _ h
    exact ⟨by rw [← typeR_f1]; exact this, fun _ => h⟩
  | false =>
    rw [h1, cond_false] at h
    exact ⟨by rw [← typeR_f1]; exact h, fun h => by cases h⟩
omit hx in
theorem PC_mono : ∀ r a r', PC r a r' → r'.f1 = false → r.f1 = false := fun r a r' h hb => nameR_mono r (columnR_mono r (by rw [show columnR r = (a, r') from h]; exact hb)).1
theorem PC_ext : ∀ r a r', PC r a r' → r'.f1 = false → PC (ext (x :: xs) r) a (ext (x :: xs) r') := fun r a r' h hb => by
  have h : columnR r = (a, r') := h
  obtain ⟨h1, h2⟩ := columnR_mono r (by rw [h]; exact hb)
  have e : columnR (ext (x :: xs) r) = ((columnR r).1, ext (x :: xs) (columnR r).2) := by
    unfold columnR
    rw [nameR_ext r h1]
    dsimp only
    rw [typeR_ext hx]
    dsimp only
    rw [hd_ext hx (by simp [wordsB])]
    cases h3 : hd (typeR (nameR r).2).2 kNot with
    | true => rw [cond_true, cond_true, tl_ext (hd_len h3), mustR_ext hx _ _ (by simp [wordsB]) (h2 h3)]
    | false => rfl
  unfold PC
  rw [e, h]
omit hx in
theorem PRow_mono : ∀ r a r', PRow r a r' → r'.f1 = false → r.f1 = false := fun r a r' ⟨r3, h, he⟩ hb => by
  rw [he] at hb
  exact mustR_mono _ _ (PL_mono PW_mono h (mustR_mono _ _ hb))
theorem PRow_ext : ∀ r a r', PRow r a r' → r'.f1 = false → PRow (ext (x :: xs) r) a (ext (x :: xs) r') := fun r a r' ⟨r3, h, he⟩ hb => by
  rw [he] at hb ⊢
  have h3 := mustR_mono _ _ hb
  have h4 := PL_mono PW_mono h h3
  have g := PL_ext (xs := xs) hx PW_mono (PW_ext hx) h h3
  rw [← mustR_ext hx [kOpen] r (by simp [wordsB]) h4] at g
  exact ⟨_, g, (mustR_ext hx [kClose] r3 (by simp [wordsB]) hb).symm⟩
omit hx in
theorem PSet_mono : ∀ r a r', PSet r a r' → r'.f1 = false → r.f1 = false := fun r a r' ⟨e, h, _⟩ hb => nameR_mono _ (mustR_mono _ _ (PW_mono _ _ _ h hb))
theorem PSet_ext : ∀ r a r', PSet r a r' → r'.f1 = false → PSet (ext (x :: xs) r) a (ext (x :: xs) r') := fun r a r' ⟨e, h, he⟩ hb => by
  have h1 := PW_mono _ _ _ h hb
  have h2 := mustR_mono _ _ h1
  have g := PW_ext (xs := xs) hx _ _ _ h hb
  refine ⟨e, ?_, ?_⟩
  · rw [nameR_ext r h2]
    dsimp only
    rw [mustR_ext hx [kEq] _ (by simp [wordsB]) h1]
    exact g
  · rw [nameR_ext r h2]; exact he
omit hx in
theorem POrd_mono : ∀ r a r', POrd r a r' → r'.f1 = false → r.f1 = false := fun r a r' ⟨e, r1, h, _, he⟩ hb => by
  rw [he] at hb
  refine PW_mono _ _ _ h ?_
  revert hb
  cases hd r1 kDesc <;> exact id
theorem POrd_ext : ∀ r a r', POrd r a r' → r'.f1 = false → POrd (ext (x :: xs) r) a (ext (x :: xs) r') := fun r a r' ⟨e, r1, h, ha, he⟩ hb => by
  rw [he] at hb ⊢
  have h1 : r1.f1 = false := by revert hb; cases hd r1 kDesc <;> exact id
  refine ⟨e, _, PW_ext hx _ _ _ h h1, ?_, ?_⟩
  · rw [hd_ext hx (by simp [wordsB])]; exact ha
  · rw [hd_ext hx (by simp [wordsB])]
    cases h2 : hd r1 kDesc with
    | true => rw [cond_true, cond_true, tl_ext (hd_len h2)]
    | false => rfl
omit hx in
theorem PWh_mono : ∀ r a r', PWh r a r' → r'.f1 = false → r.f1 = false := fun r a r' h hb => by
  cases h with
  | some _ h => have hm := PW_mono _ _ _ h hb; exact hm
  | none _ => exact hb
theorem PWh_ext : ∀ r a r', PWh r a r' → r'.f1 = false → PWh (ext (x :: xs) r) a (ext (x :: xs) r') := fun r a r' h hb => by
  cases h with
  | some hh h =>
    have g := PW_ext (xs := xs) hx _ _ _ h hb
    rw [← tl_ext (hd_len hh)] at g
    exact .some (by rw [hd_ext hx (by simp [wordsB])]; exact hh) g
  | none hh => exact .none (by rw [hd_ext hx (by simp [wordsB])]; exact hh)
omit hx in
theorem PCr_mono : ∀ r a r', PCr r a r' → r'.f1 = false → r.f1 = false := fun q s r' h hb => by
  cases h with
  | table _ h => exact nameR_mono (tl q) (mustR_mono _ _ (PL_mono PC_mono h (mustR_mono _ _ hb)))
  | @virt r6 ns _ _ h =>
    have h6 : (mustR [kClose] r6).f1 = false := by
      revert hb
      cases ((ns.length : Int) != 5) with
      | true => intro hb; cases hb
      | false => exact id
    exact mustR_mono [kTable] (tl q) (nameR_mono _ (mustR_mono _ _ (mustR_mono _ _ (PL_mono PN_mono h (mustR_mono _ _ h6)))))
  | index _ _ h =>
    have := mustR_mono _ _ (nameR_mono _ (mustR_mono _ _ (nameR_mono _ (mustR_mono _ _ (PL_mono PN_mono h (mustR_mono _ _ hb))))))
    revert this
    cases hd q kUnique <;> exact id
theorem PCr_ext : ∀ r a r', PCr r a r' → r'.f1 = false → PCr (ext (x :: xs) r) a (ext (x :: xs) r') := fun q s r' h hb => by
  cases h with
  | @table r3 cols hh h =>
    have hb : (mustR [kClose] r3).f1 = false := hb
    have h3 := mustR_mono _ _ hb
    have h4 := PL_mono PC_mono h h3
    have h5 := mustR_mono _ _ h4
    have g := PL_ext (xs := xs) hx PC_mono (PC_ext hx) h h3
    have en : nameR (tl (ext (x :: xs) q)) = ((nameR (tl q)).1, ext (x :: xs) (nameR (tl q)).2) := by rw [tl_ext (hd_len hh)]; exact nameR_ext _ h5
    have := PCr.table (q := ext (x :: xs) q) (r3 := ext (x :: xs) r3) (cols := cols) (by rw [hd_ext hx (by simp [wordsB])]; exact hh) (by rw [en]; dsimp only; rw [mustR_ext hx [kOpen] _ (by simp [wordsB]) h4]; exact g)
    rw [en, mustR_ext hx [kClose] r3 (by simp [wordsB]) hb] at this
    exact this
  | @virt r6 ns hh hh2 h =>
    have hn : ((ns.length : Int) != 5) = false ∧ (mustR [kClose] r6).f1 = false := by
      revert hb
      cases ((ns.length : Int) != 5) with
      | true => intro hb; cases hb
      | false => exact fun h => ⟨rfl, h⟩
    obtain ⟨hn, h6⟩ := hn
    have h3 := mustR_mono _ _ h6
    have h4 := PL_mono PN_mono h h3
    have h5 := mustR_mono _ _ h4
    have h7 := mustR_mono _ _ h5
    have h8 := nameR_mono _ h7
    have g := PL_ext (xs := xs) hx PN_mono (PN_ext) h h3
    have en : nameR (mustR [kTable] (tl (ext (x :: xs) q))) = ((nameR (mustR [kTable] (tl q))).1, ext (x :: xs) (nameR (mustR [kTable] (tl q))).2) := by
      rw [tl_ext (hd_len hh2), mustR_ext hx [kTable] _ (by simp [wordsB]) h8]; exact nameR_ext _ h7
    have := PCr.virt (q := ext (x :: xs) q) (r6 := ext (x :: xs) r6) (ns := ns) (by rw [hd_ext hx (by simp [wordsB])]; exact hh) (by rw [hd_ext hx (by simp [wordsB])]; exact hh2)
      (by rw [en]; dsimp only; rw [mustR_ext hx [kUsing, kRtree] _ (by simp [wordsB]) h5, mustR_ext hx [kOpen] _ (by simp [wordsB]) h4]; exact g)
    rw [en, mustR_ext hx [kClose] r6 (by simp [wordsB]) h6, hn] at this
    rw [hn]
    exact this
  | @index r6 ns hh hh2 h =>
    have hb : (mustR [kClose] r6).f1 = false := hb
    have h3 := mustR_mono _ _ hb
    have h4 := PL_mono PN_mono h h3
    have h5 := mustR_mono _ _ h4
    have h6 := nameR_mono _ h5
    have h7 := mustR_mono _ _ h6
    have h8 := nameR_mono _ h7
    have g := PL_ext (xs := xs) hx PN_mono (PN_ext) h h3
    have eu : hd (ext (x :: xs) q) kUnique = hd q kUnique := hd_ext hx (by simp [wordsB]) q
    have eq : (bif hd (ext (x :: xs) q) kUnique then tl (ext (x :: xs) q) else ext (x :: xs) q) = ext (x :: xs) (bif hd q kUnique then tl q else q) := by
      rw [eu]
      cases h9 : hd q kUnique with
      | true => rw [cond_true, cond_true, tl_ext (hd_len h9)]
      | false => rfl
    have en : nameR (mustR [kIndex] (bif hd (ext (x :: xs) q) kUnique then tl (ext (x :: xs) q) else ext (x :: xs) q)) = ((nameR (mustR [kIndex] (bif hd q kUnique then tl q else q))).1, ext (x :: xs) (nameR (mustR [kIndex] (bif hd q kUnique then tl q else q))).2) := by
      rw [eq, mustR_ext hx [kIndex] _ (by simp [wordsB]) h8]; exact nameR_ext _ h7
    have em : nameR (mustR [kOn] (nameR (mustR [kIndex] (bif hd (ext (x :: xs) q) kUnique then tl (ext (x :: xs) q) else ext (x :: xs) q))).2) = ((nameR (mustR [kOn] (nameR (mustR [kIndex] (bif hd q kUnique then tl q else q))).2)).1, ext (x :: xs) (nameR (mustR [kOn] (nameR (mustR [kIndex] (bif hd q kUnique then tl q else q))).2)).2) := by
      rw [en]; dsimp only
      rw [mustR_ext hx [kOn] _ (by simp [wordsB]) h6]; exact nameR_ext _ h5
    have := PCr.index (q := ext (x :: xs) q) (r6 := ext (x :: xs) r6) (ns := ns) (by rw [hd_ext hx (by simp [wordsB])]; exact hh) (by rw [hd_ext hx (by simp [wordsB])]; exact hh2)
      (by rw [em]; dsimp only; rw [mustR_ext hx [kOpen] _ (by simp [wordsB]) h4]; exact g)
    rw [em, en, eu, mustR_ext hx [kClose] r6 (by simp [wordsB]) hb] at this
    exact this
omit hx in
theorem PQ_mono : ∀ r a r', PQ r a r' → r'.f1 = false → r.f1 = false := fun q s r' h hb => by
  cases h with
  | @mk r2 r4 r5 r8 out wh frm ord h1 h2 h3 h4 =>
    have hb : r8.f1 = false := hb
    have a5 : r5.f1 = false := by
      rcases h4 with ⟨_, h⟩ | ⟨_, _, rfl⟩
      · exact mustR_mono [kBy] (tl r5) (PL_mono POrd_mono h hb)
      · exact hb
    have a2 := mustR_mono _ _ (PL_mono PN_mono h2 (PWh_mono _ _ _ h3 a5))
    rcases h1 with ⟨_, _, rfl⟩ | ⟨_, h⟩
    · exact a2
    · exact PL_mono PW_mono h a2
theorem PQ_ext : ∀ r a r', PQ r a r' → r'.f1 = false → PQ (ext (x :: xs) r) a (ext (x :: xs) r') := fun q s r' h hb => by
  cases h with
  | @mk r2 r4 r5 r8 out wh frm ord h1 h2 h3 h4 =>
    have hb : r8.f1 = false := hb
    have a5 : r5.f1 = false := by
      rcases h4 with ⟨_, h⟩ | ⟨_, _, rfl⟩
      · exact mustR_mono [kBy] (tl r5) (PL_mono POrd_mono h hb)
      · exact hb
    have a4 := PWh_mono _ _ _ h3 a5
    have a3 := PL_mono PN_mono h2 a4
    have a2 := mustR_mono _ _ a3
    have g2 := PL_ext (xs := xs) hx PN_mono (PN_ext) h2 a4
    rw [← mustR_ext hx [kFrom] r2 (by simp [wordsB]) a3] at g2
    have es : hd (ext (x :: xs) q) kStar = hd q kStar := hd_ext hx (by simp [wordsB]) q
    have := PQ.mk (q := ext (x :: xs) q) (r2 := ext (x :: xs) r2) (r4 := ext (x :: xs) r4) (r5 := ext (x :: xs) r5) (r8 := ext (x :: xs) r8) (out := out) (wh := wh) (frm := frm) (ord := ord) (by
        rw [es]
        rcases h1 with ⟨hh, ho, rfl⟩ | ⟨hh, h⟩
        · exact .inl ⟨hh, ho, (tl_ext (hd_len hh)).symm⟩
        · exact .inr ⟨hh, PL_ext hx PW_mono (PW_ext hx) h a2⟩) g2 (PWh_ext hx _ _ _ h3 a5) (by
        rw [hd_ext hx (by simp [wordsB])]
        rcases h4 with ⟨hh, h⟩ | ⟨hh, ho, rfl⟩
        · have g := PL_ext (xs := xs) hx POrd_mono (POrd_ext hx) h hb
          rw [← mustR_ext hx [kBy] (tl r5) (by simp [wordsB]) (PL_mono POrd_mono h hb), ← tl_ext (hd_len hh)] at g
          exact .inl ⟨hh, g⟩
        · exact .inr ⟨hh, ho, rfl⟩)
    rw [es] at this
    exact this
omit hx in
theorem dropR_mono (q : Sreader) (h : (dropR q).2.f1 = false) : (hd q kTable = true → (nameR (tl q)).2.f1 = false) ∧ (hd q kTable = false → (nameR (mustR [kIndex] q)).2.f1 = false) := by
  unfold dropR at h
  cases h1 : hd q kTable with
  | true => rw [h1] at h; exact ⟨fun _ => h, fun h => by cases h⟩
  | false => rw [h1] at h; exact ⟨fun h => (by cases h), fun _ => h⟩
theorem dropR_ext (q : Sreader) (h : (dropR q).2.f1 = false) : dropR (ext (x :: xs) q) = ((dropR q).1, ext (x :: xs) (dropR q).2) := by
  obtain ⟨h1, h2⟩ := dropR_mono q h
  unfold dropR
  rw [hd_ext hx (by simp [wordsB])]
  cases h3 : hd q kTable with
  | true => rw [cond_true, cond_true, tl_ext (hd_len h3), nameR_ext _ (h1 h3)]
  | false =>
    have h4 := h2 h3
    rw [cond_false, cond_false, mustR_ext hx [kIndex] q (by simp [wordsB]) (nameR_mono _ h4), nameR_ext _ h4]
omit hx in
theorem rowsR_f1 (l : List (List TExpr)) : ∀ r : Sreader, (rowsR l r).f1 = r.f1 := by
  induction l with
  | nil => intro r; rfl
  | cons y l ih => intro r; exact (ih (mostR (y.length : Int) 16 r)).trans rfl
omit hx in
theorem rowsR_ext (l : List (List TExpr)) : ∀ r : Sreader, rowsR l (ext xs r) = ext xs (rowsR l r) := by
  induction l with
  | nil => intro r; rfl
  | cons y l ih => intro r; exact ih (mostR (y.length : Int) 16 r)
/-- A statement is read the same, whatever stands behind. -/
theorem PS_ext {r r' : Sreader} {s : SStmt} (h : PS r s r') (hb : r'.f1 = false) : PS (ext (x :: xs) r) s (ext (x :: xs) r') := by
  have st : ∀ {n : Int}, findOp stL r = some n → findOp stL (ext (x :: xs) r) = some n ∧ tl (ext (x :: xs) r) = ext (x :: xs) (tl r) := fun h => ⟨by rw [findOp_ext' _ _ (findOp_len h)]; exact h, tl_ext (findOp_len h)⟩
  cases h with
  | none _ => cases hb
  | create hh h =>
    obtain ⟨a, b⟩ := st hh
    exact .create a (by rw [b]; exact PCr_ext hx _ _ _ h hb)
  | drop hh =>
    obtain ⟨a, b⟩ := st hh
    have := PS.drop a
    rw [b, dropR_ext hx _ hb] at this
    exact this
  | @insert r4 rows hh h =>
    obtain ⟨a, b⟩ := st hh
    rw [rowsR_f1] at hb
    have h1 := PL_mono PRow_mono h hb
    have h2 := mustR_mono _ _ h1
    have h3 := nameR_mono _ h2
    have g := PL_ext (xs := xs) hx PRow_mono (PRow_ext hx) h hb
    have en : nameR (mustR [kInto] (tl (ext (x :: xs) r))) = ((nameR (mustR [kInto] (tl r))).1, ext (x :: xs) (nameR (mustR [kInto] (tl r))).2) := by
      rw [b, mustR_ext hx [kInto] _ (by simp [wordsB]) h3]; exact nameR_ext _ h2
    have := PS.insert (rows := rows) (r4 := ext (x :: xs) r4) a (by rw [en]; dsimp only; rw [mustR_ext hx [kValues] _ (by simp [wordsB]) h1]; exact g)
    rw [en, rowsR_ext] at this
    exact this
  | @delete _ wh hh h =>
    obtain ⟨a, b⟩ := st hh
    have h1 := PWh_mono _ _ _ h hb
    have h2 := nameR_mono _ h1
    have en : nameR (mustR [kFrom] (tl (ext (x :: xs) r))) = ((nameR (mustR [kFrom] (tl r))).1, ext (x :: xs) (nameR (mustR [kFrom] (tl r))).2) := by
      rw [b, mustR_ext hx [kFrom] _ (by simp [wordsB]) h2]; exact nameR_ext _ h1
    have := PS.delete (wh := wh) (r' := ext (x :: xs) r') a (by rw [en]; exact PWh_ext hx _ _ _ h hb)
    rw [en] at this
    exact this
  | @update r3 _ sets wh hh h g =>
    obtain ⟨a, b⟩ := st hh
    have hm := PWh_mono _ _ _ g hb
    have h1 : r3.f1 = false := hm
    have h2 := PL_mono PSet_mono h h1
    have h3 := mustR_mono _ _ h2
    have g1 := PL_ext (xs := xs) hx PSet_mono (PSet_ext hx) h h1
    have en : nameR (tl (ext (x :: xs) r)) = ((nameR (tl r)).1, ext (x :: xs) (nameR (tl r)).2) := by rw [b]; exact nameR_ext _ h3
    have := PS.update (r3 := ext (x :: xs) r3) (r' := ext (x :: xs) r') (sets := sets) (wh := wh) a (by rw [en]; dsimp only; rw [mustR_ext hx [kSet] _ (by simp [wordsB]) h2]; exact g1) (PWh_ext hx _ _ _ g hb)
    rw [en] at this
    exact this
  | select hh h =>
    obtain ⟨a, b⟩ := st hh
    exact .select a (by rw [b]; exact PQ_ext hx _ _ _ h hb)
  | begin hh =>
    obtain ⟨a, b⟩ := st hh
    have := PS.begin a
    rw [b] at this
    exact this
  | commit hh =>
    obtain ⟨a, b⟩ := st hh
    have := PS.commit a
    rw [b] at this
    exact this
  | rollback hh =>
    obtain ⟨a, b⟩ := st hh
    have := PS.rollback a
    rw [b] at this
    exact this
end
end Go.Proofs.Ytepekanlplbciaa.Q
