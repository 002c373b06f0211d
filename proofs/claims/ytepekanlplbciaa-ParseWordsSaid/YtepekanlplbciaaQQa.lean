/-
  Layer 20: a text is read by its tokens; what two texts with an operation's mark between come to, by reckoning.
-/
import Derived.Test.YtepekanlplbciaaAxTxt
import Derived.Test.YtepekanlplbciaaQLx3
namespace Go.Proofs.Ytepekanlplbciaa.Q
open Go Go.AX

theorem cat_txt (a b : List UInt8) : cat (txt a) (txt b) = txt (a ++ b) := by
  rw [cat_eq]
  apply ByteArray.ext
  apply Array.ext'
  simp [txt]
theorem fits_txt {a b : List UInt8} (h : a.length + b.length ≤ 1000000) : strFits (txt a) (txt b) := by
  rw [strFits_eq]
  rw [txt_size, txt_size]
  omega
theorem chk_txt {ρ : Type} {a b : List UInt8} (h : a.length + b.length ≤ 1000000) (x : Option ρ) : chk (strFits (txt a) (txt b)) x = x := chk_pos (fits_txt h) x
/-- What is made of a text's tokens. -/
noncomputable def restP (k : Nat) (r_1 : List S56 × Int) : Option (S28 × Int) :=
  bif (r_1.2 != 0) then
  some ((⟨0, ByteArray.empty, ByteArray.empty, false, [], [], [], [], [], false, [], [], []⟩ : S28), r_1.2)
  else
  (parse_reader_statement_p0 k (⟨r_1.1, false, false, 0, 0⟩ : S43)).bind fun r_2 =>
  (parse_reader_got_p0 k (⟨#[59]⟩ : ByteArray) r_2.2).bind fun r_3 =>
  (parse_reader_most_p0 k r_3.2.f3 200 r_3.2).bind fun r_4 =>
  bif r_4.2.f1 then
  some ((⟨0, ByteArray.empty, ByteArray.empty, false, [], [], [], [], [], false, [], [], []⟩ : S28), 1)
  else
  bif (decide ((r_4.2.f0.length : Int) > 0)) then
  some ((⟨0, ByteArray.empty, ByteArray.empty, false, [], [], [], [], [], false, [], [], []⟩ : S28), 1)
  else
  parse_Parse_j10 k (fun t3_5 t2_6 =>
  some (t2_6, t3_5)) (fun t2_7 x7_8 =>
  some (x7_8, 0)) (⟨0, ByteArray.empty, ByteArray.empty, false, [], [], [], [], [], false, [], [], []⟩ : S28) r_2.1 r_4.2
theorem parse_eq (k : Nat) (hk : 8194 < k) (s : ByteArray) : parse_Parse k s = restP k (toks (by' s)) := by
  unfold parse_Parse
  rw [tokens_eq k s hk, some_bind]
  rfl
/-- What is read of a text. -/
noncomputable def readP (b : List UInt8) : Option (S28 × Int) := restP 9000 (toks b)
theorem read_eq (b : List UInt8) : parse_Parse 9000 (txt b) = readP b := parse_eq 9000 (by decide) (txt b)
/-- Two texts are read, and as the same statement. -/
noncomputable def sameP (a b : List UInt8) : Bool :=
  match readP a, readP b with
  | some (s, e), some (t, f) => e == 0 && f == 0 && (match cadastreref0_EqStmt 9000 s t with | some r => r | none => false)
  | _, _ => false
theorem same_of {a b : List UInt8} (h : sameP a b = true) : ∃ s t, readP a = some (s, 0) ∧ readP b = some (t, 0) ∧ cadastreref0_EqStmt 9000 s t = some true := by
  unfold sameP at h
  split at h
  · rename_i s e t f h1 h2
    simp only [Bool.and_eq_true, beq_iff_eq] at h
    obtain ⟨⟨rfl, rfl⟩, h3⟩ := h
    split at h3
    · rename_i r h4; subst h3; exact ⟨s, t, h1, h2, h4⟩
    · cases h3
  · cases h
theorem wakes_eq : cadastrelaw20_wakes 9000 = some true := by
  unfold cadastrelaw20_wakes
  rw [show (⟨#[98, 101, 103, 105, 110, 59]⟩ : ByteArray) = txt [98, 101, 103, 105, 110, 59] from rfl, read_eq]
  have h : (readP [98, 101, 103, 105, 110, 59]).map (fun r => (r.1.f0, r.2)) = some (10, 0) := by kernel_rfl
  obtain ⟨⟨s, e⟩, h1, h2⟩ := Option.map_eq_some_iff.1 h
  simp only [Prod.mk.injEq] at h2
  rw [h1, some_bind]
  unfold cadastrelaw20_num
  rw [some_bind, h2.2, h2.1]
  rfl
end Go.Proofs.Ytepekanlplbciaa.Q
