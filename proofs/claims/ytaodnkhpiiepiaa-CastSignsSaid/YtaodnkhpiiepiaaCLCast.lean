/- Layer 5: a text read as a number: what the printed functions come to. -/
import Derived.Test.YtaodnkhpiiepiaaCLAri
import Derived.Test.YtaodnkhpiiepiaaCOk
import Derived.Test.YtaodnkhpiiepiaaCx0
import Derived.Test.YtaodnkhpiiepiaaCx1
import Derived.Test.YtaodnkhpiiepiaaCx4
import Derived.Test.YtaodnkhpiiepiaaCx5
namespace Go.Proofs.Ytaodnkhpiiepiaa.C
open Go Go.RowKit Go.Proofs.YtaodnkhpiiepiaaW.PrintWords Go.Proofs.YtaodnkhpiiepiaaW.PrintLast Go.Proofs.YtaodnkhpiiepiaaG
set_option linter.unusedVariables false
set_option linter.unusedSimpArgs false

def isD (c : UInt8) : Bool := decide (48 ≤ c.toNat) && decide (c.toNat ≤ 57)
def valF : Nat → List UInt8 → Nat
  | v, [] => v
  | v, c :: t => valF (10 * v + (c.toNat - 48)) t
def lim (neg : Bool) : Nat := if neg = true then 9223372036854775808 else 9223372036854775807
def sg (neg : Bool) (v : Nat) : Int := if neg = true then -(v : Int) else v
def fin_ (neg : Bool) (v : Nat) : Int × Int := if v ≤ lim neg then (sg neg v, 0) else (0, 5)
/-- What a row of digits behind a sign comes to. -/
def digs (neg : Bool) (ds : List UInt8) : Int × Int := if ds = [] then (0, 4) else if ds.all isD = true then fin_ neg (valF 0 ds) else (0, 4)
/-- What a text comes to. -/
def castR : List UInt8 → Int × Int
  | [] => (0, 4)
  | c :: t => if c.toNat = 45 then digs true t else if c.toNat = 43 then digs false t else digs false (c :: t)
theorem valF_ge : ∀ (t : List UInt8) (v : Nat), v ≤ valF v t
  | [], v => Nat.le_refl _
  | c :: t, v => by
    have := valF_ge t (10 * v + (c.toNat - 48))
    unfold valF; omega
theorem lim_le (neg : Bool) : lim neg ≤ 9223372036854775808 := by cases neg <;> decide
theorem fin_over {neg : Bool} {v : Nat} (h : lim neg < v) : fin_ neg v = (0, 5) := by unfold fin_; rw [if_neg (by omega)]
theorem digs_zero (neg : Bool) {ds : List UInt8} (h : ds ≠ []) : digs neg (48 :: ds) = digs neg ds := by
  unfold digs
  rw [if_neg (List.cons_ne_nil 48 ds), if_neg h]
  rfl
theorem by_extract (s : ByteArray) : by_ (s.extract 1 s.size) = (by_ s).drop 1 := by
  have := by_length s
  unfold by_ at *
  rw [ByteArray.data_extract, Array.toList_extract]
  rw [List.extract_eq_take_drop]
  rw [List.take_of_length_le]
  simp
theorem by_append (a b : ByteArray) : by_ (a ++ b) = by_ a ++ by_ b := by
  unfold by_; simp

theorem int_loop {s : ByteArray} (hs : s.size ≤ 140737488351232) (neg : Bool) : ∀ (d i : Nat), i + d = s.size → ∀ (n : Int) (over : Bool) (v : Nat),
    ((over = true ∧ 9223372036854775808 < v) ∨ (over = false ∧ v ≤ 9223372036854775808 ∧ n = -(v : Int))) →
    Ev (fun k => cast_Int.l0 k s neg n over i) (if ((by_ s).drop i).all isD = true then fin_ neg (valF v ((by_ s).drop i)) else (0, 4)) := by
  have ls := by_length s
  intro d
  induction d with
  | zero =>
    intro i hi n over v hv
    rw [show (by_ s).drop i = [] from List.drop_eq_nil_of_le (by omega)]
    refine Ev.cast (if_pos rfl).symm ?_
    show Ev _ (fin_ neg v)
    refine Ev.step (fun k => by rw [cast_Int.l0]) ?_
    refine Ev.ifp (by omega) ?_
    rcases hv with ⟨ho, hv⟩ | ⟨ho, hv, hn⟩
    · rw [ho, fin_over (by have := lim_le neg; omega)]
      refine Ev.ifp rfl ?_
      refine Ev.step (fun k => by rw [cast_Int.j4]) ?_
      exact Ev.ifp rfl (Ev.ret rfl)
    · rw [ho]
      refine Ev.ifn (by decide) ?_
      cases neg with
      | true =>
        refine Ev.ifp rfl ?_
        refine Ev.step (fun k => by rw [cast_Int.j4]) ?_
        refine Ev.ifn (by decide) (Ev.ifp rfl (Ev.ret ?_))
        unfold fin_; rw [if_pos (show v ≤ lim true from hv), hn]; rfl
      | false =>
        refine Ev.ifn (by decide) ?_
        refine Ev.step (fun k => by rw [cast_Int.j4]) ?_
        by_cases he : v = 9223372036854775808
        · refine Ev.ifp (by rw [beq_iff_eq]; omega) (Ev.ret ?_)
          rw [fin_over (by rw [he]; decide)]
        · refine Ev.ifn (by rw [beq_iff_eq]; omega) (Ev.ifn (by decide) (Ev.ret ?_))
          unfold fin_; rw [if_pos (show v ≤ lim false by show v ≤ 9223372036854775807; omega), w64 (by omega) (by omega)]
          show (-n, (0 : Int)) = ((v : Int), 0)
          rw [hn, Int.neg_neg]
  | succ d ih =>
    intro i hi n over v hv
    have hil : i < (by_ s).length := by omega
    rw [List.drop_eq_getElem_cons hil, List.all_cons]
    refine Ev.step (fun k => by rw [cast_Int.l0]) ?_
    refine Ev.ifn (by omega) (Ev.ifp (by omega) (Ev.ifp (by omega) ?_))
    rw [bt_get s i hil]
    generalize hc : (by_ s)[i] = c
    have bad : isD c = false → Ev (fun k => cast_Int.j5 k s neg n over i true) (if (isD c && ((by_ s).drop (i + 1)).all isD) = true then fin_ neg (valF v (c :: (by_ s).drop (i + 1))) else (0, 4)) := fun h => by
      rw [h]
      refine Ev.step (fun k => by rw [cast_Int.j5]) ?_
      exact Ev.ifp rfl (Ev.ret rfl)
    by_cases h1 : ((c.toNat : Int)) < 48
    · exact Ev.ifp h1 (bad (by unfold isD; rw [decide_eq_false (by omega)]; rfl))
    refine Ev.ifn h1 ?_
    by_cases h2 : ((c.toNat : Int)) > 57
    · rw [decide_eq_true h2]; exact bad (by unfold isD; rw [decide_eq_false (p := c.toNat ≤ 57) (by omega), Bool.and_false])
    rw [decide_eq_false h2]
    have hd : isD c = true := by unfold isD; rw [decide_eq_true (by omega), decide_eq_true (by omega)]; rfl
    rw [hd, Bool.true_and]
    show Ev _ (if ((by_ s).drop (i + 1)).all isD = true then fin_ neg (valF (10 * v + (c.toNat - 48)) ((by_ s).drop (i + 1))) else (0, 4))
    have e1 : wrap64 ((i : Int) + 1) = ((i + 1 : Nat) : Int) := by rw [w64 (by omega) (by omega)]; omega
    have e2 : ((c.toNat : Int) - 48) % 256 = ((c.toNat - 48 : Nat) : Int) := by omega
    refine Ev.step (fun k => by rw [cast_Int.j5]) ?_
    refine Ev.ifn (by decide) (Ev.ifp (by omega) (Ev.ifp (by omega) ?_))
    rw [bt_get s i hil, hc, e2]
    have over_ : 9223372036854775808 < 10 * v + (c.toNat - 48) → Ev (fun k => cast_Int.j6 k s neg n over i ((c.toNat - 48 : Nat) : Int) true) (if ((by_ s).drop (i + 1)).all isD = true then fin_ neg (valF (10 * v + (c.toNat - 48)) ((by_ s).drop (i + 1))) else (0, 4)) := fun h => by
      refine Ev.step (fun k => by rw [cast_Int.j6]) ?_
      refine Ev.ifp rfl ?_
      refine Ev.step (fun k => by rw [cast_Int.j7, e1]) ?_
      exact ih (i + 1) (by omega) n true _ (.inl ⟨rfl, h⟩)
    rcases hv with ⟨ho, hv⟩ | ⟨ho, hv, hn⟩
    · refine Ev.ifp ho (over_ (by omega))
    · refine Ev.ifn (by rw [ho]; decide) ?_
      have q : Int.tdiv (-9223372036854775808 + ((c.toNat - 48 : Nat) : Int)) 10 = -((9223372036854775808 - ((c.toNat - 48 : Nat) : Int)) / 10) := by
        rw [show (-9223372036854775808 + ((c.toNat - 48 : Nat) : Int)) = -(9223372036854775808 - ((c.toNat - 48 : Nat) : Int)) by omega, Int.neg_tdiv, Int.tdiv_eq_ediv_of_nonneg (by omega)]
      rw [q]
      by_cases h3 : n < -((9223372036854775808 - ((c.toNat - 48 : Nat) : Int)) / 10)
      · rw [decide_eq_true h3]; exact over_ (by omega)
      · rw [decide_eq_false h3]
        refine Ev.step (fun k => by rw [cast_Int.j6]) ?_
        refine Ev.ifn (by decide) ?_
        refine Ev.step (fun k => by rw [cast_Int.j7, e1]) ?_
        rw [w64 (x := 10 * n) (by omega) (by omega), w64 (by omega) (by omega)]
        exact ih (i + 1) (by omega) _ over _ (.inr ⟨ho, by omega, by omega⟩)

theorem int_digs {s : ByteArray} (hs : s.size ≤ 140737488351232) (neg : Bool) : Ev (fun k => cast_Int.j2 k s neg) (digs neg (by_ s)) := by
  refine Ev.step (fun k => by rw [cast_Int.j2]) ?_
  unfold digs
  by_cases h : by_ s = []
  · refine Ev.cast (if_pos h).symm ?_
    exact Ev.ifp (by rw [by_toList]; exact h) (Ev.ret rfl)
  · refine Ev.cast (if_neg h).symm ?_
    refine Ev.ifn (by rw [by_toList]; exact h) ?_
    have := int_loop hs neg s.size 0 (by omega) 0 false 0 (.inr ⟨rfl, by omega, by simp⟩)
    simpa using this

theorem int_ev {s : ByteArray} (hs : s.size ≤ 140737488351232) : Ev (fun k => cast_Int.f k s) (castR (by_ s)) := by
  have ls := by_length s
  refine Ev.congr (fun k => by rw [cast_Int.f]) ?_
  cases hb : by_ s with
  | nil =>
    rw [hb, List.length_nil] at ls
    refine Ev.ifn (by omega) ?_
    refine Ev.step (fun k => by rw [cast_Int.j0]) ?_
    refine Ev.ifn (by decide) (Ev.ifn (by omega) ?_)
    refine Ev.step (fun k => by rw [cast_Int.j1]) ?_
    refine Ev.ifn (by decide) ?_
    have := int_digs hs false
    rw [hb] at this
    exact this
  | cons c t =>
    rw [hb, List.length_cons] at ls
    have h0 : 0 < (by_ s).length := by rw [hb]; simp
    have g : bt s 0 = (c.toNat : Int) := by
      have := bt_get s 0 h0
      simp only [hb, List.getElem_cons_zero] at this
      exact this
    have cut : by_ (s.extract 1 s.size) = t := by rw [by_extract, hb]; rfl
    have hsz : (s.extract 1 s.size).size ≤ 140737488351232 := by
      have := by_length (s.extract 1 s.size); rw [cut] at this; omega
    have tail : ∀ neg, Ev (fun k => cast_Int.j1 k s neg true) (digs neg t) := fun neg => by
      refine Ev.step (fun k => by rw [cast_Int.j1]) ?_
      refine Ev.ifp rfl (Ev.ifp (by omega) ?_)
      have := int_digs hsz neg
      rw [cut] at this
      exact this
    refine Ev.ifp (by omega) (Ev.ifp (by omega) ?_)
    rw [g]
    unfold castR
    refine Ev.step (fun k => by rw [cast_Int.j0]) ?_
    by_cases h1 : c.toNat = 45
    · refine Ev.cast (if_pos h1).symm ?_
      have e : ((c.toNat : Int) == 45) = true := by rw [beq_iff_eq]; omega
      rw [e]
      exact Ev.ifp rfl (tail true)
    · refine Ev.cast (if_neg h1).symm ?_
      have e : ((c.toNat : Int) == 45) = false := by rw [beq_eq_false_iff_ne]; omega
      rw [e]
      refine Ev.ifn (by decide) (Ev.ifp (by omega) (Ev.ifp (by omega) ?_))
      rw [g]
      by_cases h2 : c.toNat = 43
      · refine Ev.cast (if_pos h2).symm ?_
        have e : ((c.toNat : Int) == 43) = true := by rw [beq_iff_eq]; omega
        rw [e]; exact tail false
      · refine Ev.cast (if_neg h2).symm ?_
        have e : ((c.toNat : Int) == 43) = false := by rw [beq_eq_false_iff_ne]; omega
        rw [e]
        refine Ev.step (fun k => by rw [cast_Int.j1]) ?_
        refine Ev.ifn (by decide) ?_
        have := int_digs hs false
        rw [hb] at this
        exact this

/-! ### the page's own -/
theorem rint_loop {s : ByteArray} (hs : s.size ≤ 140737488351232) (neg : Bool) : ∀ (d i : Nat), i + d = s.size → ∀ v : Nat, v ≤ lim neg → ((by_ s).drop i).all isD = true →
    Ev (fun k => cadastreref4_Int.l1 k s (if neg = true then 13 else 12) i 1 (sg neg v) ⟨#[]⟩) (fin_ neg (valF v ((by_ s).drop i))) := by
  have ls := by_length s
  intro d
  induction d with
  | zero =>
    intro i hi v hv _
    rw [show (by_ s).drop i = [] from List.drop_eq_nil_of_le (by omega)]
    show Ev _ (fin_ neg v)
    refine Ev.step (fun k => by rw [cadastreref4_Int.l1]) ?_
    exact Ev.ifn (by omega) (Ev.ret (by unfold fin_; rw [if_pos hv]))
  | succ d ih =>
    intro i hi v hv hall
    have hil : i < (by_ s).length := by omega
    rw [List.drop_eq_getElem_cons hil] at hall ⊢
    rw [List.all_cons, Bool.and_eq_true] at hall
    refine Ev.step (fun k => by rw [cadastreref4_Int.l1]) ?_
    refine Ev.ifp (by omega) (Ev.const rfl ?_)
    have hl := lim_le neg
    have hv1 : inr (sg neg v) = true := by
      unfold lim at hv; unfold sg; apply inr_iff.mpr
      cases neg <;> simp at hv ⊢ <;> omega
    refine Ev.bind (rdo_ev 9 1 (sg neg v) 1 10 ⟨#[]⟩ ⟨#[]⟩ (by decide) hv1 (by decide)) ?_
    have d1 : doR 9 ⟨1, sg neg v, ⟨#[]⟩⟩ ⟨1, 10, ⟨#[]⟩⟩ = if inr (sg neg v * 10) = true then some4 (sg neg v * 10) else none4 5 := by
      unfold doR; dsimp only
      rw [if_neg (by decide), if_pos (by decide), if_neg (by decide)]; rfl
    rw [d1]
    generalize hc : (by_ s)[i] = c
    have hD : isD c = true := by rw [← hc]; exact hall.1
    unfold isD at hD
    simp only [Bool.and_eq_true, decide_eq_true_eq] at hD
    have hge := valF_ge ((by_ s).drop (i + 1)) (10 * v + (c.toNat - 48))
    show Ev _ (fin_ neg (valF (10 * v + (c.toNat - 48)) ((by_ s).drop (i + 1))))
    by_cases hr : inr (sg neg v * 10) = true
    case neg =>
      rw [if_neg hr]
      refine Ev.ifn (by decide) (Ev.ret ?_)
      have : lim neg < 10 * v := by
        have := inr_not.mp (Bool.eq_false_iff.mpr hr)
        unfold sg at this; unfold lim
        cases neg <;> simp at this ⊢ <;> omega
      rw [fin_over (by omega)]; rfl
    rw [if_pos hr]
    have e2 : ((c.toNat : Int) - 48) % 256 = ((c.toNat - 48 : Nat) : Int) := by omega
    refine Ev.ifp rfl (Ev.ifp (by omega) ?_)
    rw [bt_get s i hil, hc, e2]
    refine Ev.const rfl (Ev.bind (rdo_ev _ 1 (sg neg v * 10) 1 ((c.toNat - 48 : Nat) : Int) ⟨#[]⟩ ⟨#[]⟩ (by cases neg <;> decide) hr (by apply inr_iff.mpr; omega)) ?_)
    have d2 : doR (if neg = true then 13 else 12) ⟨1, sg neg v * 10, ⟨#[]⟩⟩ ⟨1, ((c.toNat - 48 : Nat) : Int), ⟨#[]⟩⟩ = if inr (sg neg (10 * v + (c.toNat - 48))) = true then some4 (sg neg (10 * v + (c.toNat - 48))) else none4 5 := by
      have eo : opZ (if neg = true then 13 else 12) (sg neg v * 10) ((c.toNat - 48 : Nat) : Int) = sg neg (10 * v + (c.toNat - 48)) := by
        unfold sg
        cases neg
        · show ((v : Int) * 10 + ((c.toNat - 48 : Nat) : Int)) = ((10 * v + (c.toNat - 48) : Nat) : Int); omega
        · show (-(v : Int) * 10 - ((c.toNat - 48 : Nat) : Int)) = -((10 * v + (c.toNat - 48) : Nat) : Int); omega
      unfold doR; dsimp only
      rw [eo, if_neg (by decide), if_pos (by decide), if_neg (by cases neg <;> simp)]
    rw [d2]
    by_cases hr2 : inr (sg neg (10 * v + (c.toNat - 48))) = true
    case neg =>
      rw [if_neg hr2]
      refine Ev.ifn (by decide) (Ev.ret ?_)
      have : lim neg < 10 * v + (c.toNat - 48) := by
        have := inr_not.mp (Bool.eq_false_iff.mpr hr2)
        unfold sg at this; unfold lim
        cases neg <;> simp at this ⊢ <;> omega
      rw [fin_over (by omega)]; rfl
    rw [if_pos hr2]
    refine Ev.ifp rfl ?_
    have e1 : wrap64 ((i : Int) + 1) = ((i + 1 : Nat) : Int) := by rw [w64 (by omega) (by omega)]; omega
    rw [e1]
    refine ih (i + 1) (by omega) (10 * v + (c.toNat - 48)) ?_ hall.2
    have := inr_iff.mp hr2
    unfold sg at this; unfold lim
    cases neg <;> simp at this ⊢ <;> omega

theorem rint_check {s : ByteArray} (hs : s.size ≤ 140737488351232) (neg : Bool) (i0 : Nat) (hi0 : i0 ≤ s.size) : ∀ (d i : Nat), i + d = s.size → i0 ≤ i → ((((by_ s).drop i).all isD = true) → ((by_ s).drop i0).all isD = true) → ((((by_ s).drop i).all isD = false) → ((by_ s).drop i0).all isD = false) →
    Ev (fun k => cadastreref4_Int.l0 k s i0 neg i) (if ((by_ s).drop i0).all isD = true then fin_ neg (valF 0 ((by_ s).drop i0)) else (0, 4)) := by
  have ls := by_length s
  intro d
  induction d with
  | zero =>
    intro i hi hii ht hf
    have all0 := ht (by rw [show (by_ s).drop i = [] from List.drop_eq_nil_of_le (by omega)]; rfl)
    refine Ev.cast (if_pos all0).symm ?_
    refine Ev.step (fun k => by rw [cadastreref4_Int.l0]) ?_
    refine Ev.ifn (by omega) ?_
    have fin := rint_loop hs neg (s.size - i0) i0 (by omega) 0 (Nat.zero_le _) all0
    have z : sg neg 0 = 0 := by cases neg <;> rfl
    rw [z] at fin
    cases neg with
    | true =>
      refine Ev.ifp rfl ?_
      refine Ev.step (fun k => by rw [cadastreref4_Int.j4]) ?_
      exact fin
    | false =>
      refine Ev.ifn (by decide) ?_
      refine Ev.step (fun k => by rw [cadastreref4_Int.j4]) ?_
      exact fin
  | succ d ih =>
    intro i hi hii ht hf
    have hil : i < (by_ s).length := by omega
    rw [List.drop_eq_getElem_cons hil, List.all_cons] at ht hf
    refine Ev.step (fun k => by rw [cadastreref4_Int.l0]) ?_
    refine Ev.ifp (by omega) (Ev.ifp (by omega) ?_)
    rw [bt_get s i hil]
    generalize hc : (by_ s)[i] = c at ht hf
    by_cases h1 : ((c.toNat : Int)) < 48
    · have : isD c = false := by unfold isD; rw [decide_eq_false (by omega)]; rfl
      rw [if_neg (show ¬ ((by_ s).drop i0).all isD = true by rw [hf (by rw [this]; rfl)]; decide)]
      exact Ev.ifp h1 (Ev.ret rfl)
    refine Ev.ifn h1 ?_
    by_cases h2 : ((c.toNat : Int)) > 57
    · have : isD c = false := by unfold isD; rw [decide_eq_false (p := c.toNat ≤ 57) (by omega), Bool.and_false]
      rw [if_neg (show ¬ ((by_ s).drop i0).all isD = true by rw [hf (by rw [this]; rfl)]; decide)]
      exact Ev.ifp h2 (Ev.ret rfl)
    refine Ev.ifn h2 ?_
    have hd : isD c = true := by unfold isD; rw [decide_eq_true (by omega), decide_eq_true (by omega)]; rfl
    rw [hd, Bool.true_and] at ht hf
    have e1 : wrap64 ((i : Int) + 1) = ((i + 1 : Nat) : Int) := by rw [w64 (by omega) (by omega)]; omega
    rw [e1]
    exact ih (i + 1) (by omega) (by omega) ht hf

theorem rint_digs {s : ByteArray} (hs : s.size ≤ 140737488351232) (neg : Bool) (i0 : Nat) (hi0 : i0 ≤ s.size) : Ev (fun k => cadastreref4_Int.j2 k s i0 neg) (digs neg ((by_ s).drop i0)) := by
  have ls := by_length s
  refine Ev.step (fun k => by rw [cadastreref4_Int.j2]) ?_
  unfold digs
  by_cases h : i0 = s.size
  · refine Ev.cast (if_pos (List.drop_eq_nil_of_le (by omega))).symm ?_
    exact Ev.ifp (by omega) (Ev.ret rfl)
  · refine Ev.cast (if_neg (fun hn => by have := congrArg List.length hn; simp at this; omega)).symm ?_
    refine Ev.ifn (by omega) ?_
    exact rint_check hs neg i0 hi0 (s.size - i0) i0 (by omega) (Nat.le_refl _) id id

theorem rint_ev {s : ByteArray} (hs : s.size ≤ 140737488351232) : Ev (fun k => cadastreref4_Int.f k s) (castR (by_ s)) := by
  have ls := by_length s
  refine Ev.congr (fun k => by rw [cadastreref4_Int.f]) ?_
  cases hb : by_ s with
  | nil =>
    rw [hb, List.length_nil] at ls
    refine Ev.ifn (by omega) ?_
    refine Ev.step (fun k => by rw [cadastreref4_Int.j0]) ?_
    refine Ev.ifn (by decide) (Ev.ifn (by omega) ?_)
    refine Ev.step (fun k => by rw [cadastreref4_Int.j1]) ?_
    refine Ev.ifn (by decide) ?_
    have := rint_digs hs false 0 (by omega)
    rw [hb] at this
    exact this
  | cons c t =>
    rw [hb, List.length_cons] at ls
    have h0 : 0 < (by_ s).length := by rw [hb]; simp
    have g : bt s 0 = (c.toNat : Int) := by
      have := bt_get s 0 h0
      simp only [hb, List.getElem_cons_zero] at this
      exact this
    have tail : ∀ neg, Ev (fun k => cadastreref4_Int.j1 k s 0 neg true) (digs neg t) := fun neg => by
      refine Ev.step (fun k => by rw [cadastreref4_Int.j1]) ?_
      refine Ev.ifp rfl ?_
      have := rint_digs hs neg 1 (by omega)
      rw [hb] at this
      exact this
    refine Ev.ifp (by omega) (Ev.ifp (by omega) ?_)
    rw [g]
    unfold castR
    refine Ev.step (fun k => by rw [cadastreref4_Int.j0]) ?_
    by_cases h1 : c.toNat = 45
    · refine Ev.cast (if_pos h1).symm ?_
      have e : ((c.toNat : Int) == 45) = true := by rw [beq_iff_eq]; omega
      rw [e]
      exact Ev.ifp rfl (tail true)
    · refine Ev.cast (if_neg h1).symm ?_
      have e : ((c.toNat : Int) == 45) = false := by rw [beq_eq_false_iff_ne]; omega
      rw [e]
      refine Ev.ifn (by decide) (Ev.ifp (by omega) (Ev.ifp (by omega) ?_))
      rw [g]
      by_cases h2 : c.toNat = 43
      · refine Ev.cast (if_pos h2).symm ?_
        have e : ((c.toNat : Int) == 43) = true := by rw [beq_iff_eq]; omega
        rw [e]; exact tail false
      · refine Ev.cast (if_neg h2).symm ?_
        have e : ((c.toNat : Int) == 43) = false := by rw [beq_eq_false_iff_ne]; omega
        rw [e]
        refine Ev.step (fun k => by rw [cadastreref4_Int.j1]) ?_
        refine Ev.ifn (by decide) ?_
        have := rint_digs hs false 0 (by omega)
        rw [hb] at this
        exact this
theorem wakes5_ev : Ev (fun k => cadastrelaw5_wakes.f k) true := by
  refine Ev.congr (fun k => by rw [cadastrelaw5_wakes.f]) ?_
  have h : castR (by_ (⟨#[45, 48, 48, 55]⟩ : ByteArray)) = (-7, 0) := by decide
  refine Ev.bind (int_ev (by decide)) ?_
  rw [h]
  exact Ev.const rfl (Ev.ifp rfl (Ev.ret rfl))
end Go.Proofs.Ytaodnkhpiiepiaa.C
