/- CastSigns: what its printed function answers is true, for every list. No condition beyond the numbers' own bounds. -/
import Derived.Test.YtaodnkhpiiepiaaCLCast
import Derived.Test.YtaodnkhpiiepiaaCOk
import Derived.Test.YtaodnkhpiiepiaaCx0
import Derived.Test.YtaodnkhpiiepiaaCx6
namespace Go.Proofs.Ytaodnkhpiiepiaa.C
open Go Go.RowKit Go.Proofs.YtaodnkhpiiepiaaW.PrintWords Go.Proofs.YtaodnkhpiiepiaaW.PrintLast Go.Proofs.YtaodnkhpiiepiaaG

theorem CastSigns_pure : ∀ l : List S26, (l.length * 56 ≤ 140737488351232 ∧ l.length ≤ 9223372036854775807 ∧ ∀ y ∈ l, (ok26 y)) → ∃ k, cadastrelaw5_CastSigns.f k l = some true := by
  rintro l ⟨hby, hlen, hok⟩
  refine Ev.rounds (g := fun k => cadastrelaw5_CastSigns.f k l) (Ev.congr (fun k => by rw [cadastrelaw5_CastSigns.f]) ?_)
  have tl : ∀ i, Ev (fun k => cadastrelaw5_CastSigns.j1 k l i false) true := fun i => by
    refine Ev.step (fun k => by rw [cadastrelaw5_CastSigns.j1]) ?_
    exact Ev.ifn (by decide) (Ev.bind wakes5_ev (Ev.ret rfl))
  refine ev_loop (g := fun i k => cadastrelaw5_CastSigns.l0 k l i) l.length ?_ ?_
  · refine Ev.step (fun k => by rw [cadastrelaw5_CastSigns.l0]) ?_
    exact Ev.ifn (by omega) (tl _)
  · intro i hi ih
    have e1 : wrap64 ((i : Int) + 1) = (i : Int) + 1 := w64 (by omega) (by omega)
    have hx : ok26 (rd_T26 l i) := hok _ (rdOf_mem hi)
    refine Ev.step (fun k => by rw [cadastrelaw5_CastSigns.l0]) ?_
    refine Ev.ifp (by omega) ?_
    by_cases h20 : (i : Int) < 30
    case neg => rw [decide_eq_false h20]; exact tl _
    rw [decide_eq_true h20]
    refine Ev.step (fun k => by rw [cadastrelaw5_CastSigns.j1]) ?_
    refine Ev.ifp rfl (Ev.ifp (by omega) (Ev.ifp (by omega) ?_))
    obtain ⟨p, hp⟩ : ∃ p, rd_T26 l i = p := ⟨_, rfl⟩
    rw [hp] at hx ⊢
    rw [← e1] at ih
    have hs : p.f0.size ≤ 140737488351232 := by simpa using hx.1
    have skip : Ev (fun k => cadastrelaw5_CastSigns.j2 k l i p.f0 true) true := by
      refine Ev.step (fun k => by rw [cadastrelaw5_CastSigns.j2]) ?_
      exact Ev.ifp rfl ih
    have ls := by_length p.f0
    by_cases h1 : (p.f0.size : Int) = 0
    · exact Ev.ifp h1 skip
    refine Ev.ifn h1 ?_
    by_cases h2 : (p.f0.size : Int) > 1000
    · exact Ev.ifp h2 skip
    refine Ev.ifn h2 (Ev.ifp (by omega) ?_)
    cases hb : by_ p.f0 with
    | nil => rw [hb] at ls; simp at ls; omega
    | cons c t =>
    have h0 : 0 < (by_ p.f0).length := by rw [hb]; simp
    have g : bt p.f0 0 = (c.toNat : Int) := by
      have := bt_get p.f0 0 h0
      simp only [hb, List.getElem_cons_zero] at this
      exact this
    rw [g]
    by_cases h3 : (c.toNat : Int) < 48
    · exact Ev.ifp h3 skip
    refine Ev.ifn h3 ?_
    by_cases h4 : (c.toNat : Int) > 57
    · rw [decide_eq_true h4]; exact skip
    rw [decide_eq_false h4]
    have hcD : isD c = true := by unfold isD; rw [decide_eq_true (by omega), decide_eq_true (by omega)]; rfl
    have eA : castR (by_ p.f0) = digs false (c :: t) := by
      rw [hb]
      show (if c.toNat = 45 then digs true t else if c.toNat = 43 then digs false t else digs false (c :: t)) = _
      rw [if_neg (by omega), if_neg (by omega)]
    have b48 : by_ (⟨#[48, 48]⟩ : ByteArray) = [48, 48] := rfl
    have b43 : by_ (⟨#[43]⟩ : ByteArray) = [43] := rfl
    have b45 : by_ (⟨#[45]⟩ : ByteArray) = [45] := rfl
    have b120 : by_ (⟨#[120]⟩ : ByteArray) = [120] := rfl
    have b32 : by_ (⟨#[32]⟩ : ByteArray) = [32] := rfl
    have s48 : ((⟨#[48, 48]⟩ : ByteArray) ++ p.f0).size ≤ 140737488351232 := by rw [ByteArray.size_append]; show 2 + p.f0.size ≤ _; omega
    have s43 : ((⟨#[43]⟩ : ByteArray) ++ p.f0).size ≤ 140737488351232 := by rw [ByteArray.size_append]; show 1 + p.f0.size ≤ _; omega
    have s45 : ((⟨#[45]⟩ : ByteArray) ++ p.f0).size ≤ 140737488351232 := by rw [ByteArray.size_append]; show 1 + p.f0.size ≤ _; omega
    have s32 : ((⟨#[32]⟩ : ByteArray) ++ p.f0).size ≤ 140737488351232 := by rw [ByteArray.size_append]; show 1 + p.f0.size ≤ _; omega
    have s120 : (p.f0 ++ (⟨#[120]⟩ : ByteArray)).size ≤ 140737488351232 := by rw [ByteArray.size_append]; show p.f0.size + 1 ≤ _; omega
    have eB : castR (by_ ((⟨#[48, 48]⟩ : ByteArray) ++ p.f0)) = digs false (c :: t) := by
      rw [by_append, b48, hb]
      show digs false (48 :: 48 :: c :: t) = _
      rw [digs_zero false (List.cons_ne_nil _ _), digs_zero false (List.cons_ne_nil _ _)]
    have eC : castR (by_ ((⟨#[43]⟩ : ByteArray) ++ p.f0)) = digs false (c :: t) := by rw [by_append, b43, hb]; rfl
    have eD : castR (by_ ((⟨#[45]⟩ : ByteArray) ++ p.f0)) = digs true (c :: t) := by rw [by_append, b45, hb]; rfl
    have eX : castR (by_ (p.f0 ++ (⟨#[120]⟩ : ByteArray))) = (0, 4) := by
      rw [by_append, b120, hb]
      show (if c.toNat = 45 then digs true (t ++ [120]) else if c.toNat = 43 then digs false (t ++ [120]) else digs false (c :: (t ++ [120]))) = _
      rw [if_neg (by omega), if_neg (by omega)]
      unfold digs
      rw [if_neg (by simp), if_neg]
      simp [isD]
    have eS : castR (by_ ((⟨#[32]⟩ : ByteArray) ++ p.f0)) = (0, 4) := by rw [by_append, b32, hb]; rfl
    refine Ev.step (fun k => by rw [cadastrelaw5_CastSigns.j2]) ?_
    refine Ev.ifn (by decide) (Ev.bind (int_ev hs) (Ev.ifp (by omega) (Ev.bind (int_ev s48) (Ev.ifp (by omega) (Ev.bind (int_ev s43) (Ev.bind (int_ev s45) ?_))))))
    rw [eA, eB, eC, eD]
    have last : Ev (fun k => cadastrelaw5_CastSigns.j3 k l i p.f0 false) true := by
      refine Ev.step (fun k => by rw [cadastrelaw5_CastSigns.j3]) ?_
      refine Ev.ifn (by decide) (Ev.ifp (by omega) (Ev.bind (int_ev s120) (Ev.ifp (by omega) (Ev.bind (int_ev s32) ?_))))
      rw [eX, eS]
      exact Ev.const rfl (Ev.ifp rfl (Ev.const rfl (Ev.ifp rfl ih)))
    refine Ev.const rfl (Ev.const rfl (Ev.ifp rfl (Ev.const rfl (Ev.const rfl (Ev.ifp rfl (Ev.ifp rfl (Ev.ifp rfl (Ev.const rfl ?_))))))))
    unfold digs
    rw [if_neg (show ¬ c :: t = [] by simp), if_neg (show ¬ c :: t = [] by simp)]
    by_cases ha : (c :: t).all isD = true
    case neg => rw [if_neg ha]; exact Ev.ifn (by decide) last
    rw [if_pos ha, if_pos ha]
    generalize valF 0 (c :: t) = v
    by_cases hv : v ≤ 9223372036854775807
    · have f1 : fin_ false v = ((v : Int), 0) := by unfold fin_; exact if_pos hv
      have f2 : fin_ true v = (-(v : Int), 0) := by unfold fin_; exact if_pos (by show v ≤ 9223372036854775808; omega)
      rw [f1, f2]
      refine Ev.ifp rfl (Ev.const rfl (Ev.ifp rfl ?_))
      rw [show ((-(v : Int), (0 : Int)).1 != wrap64 (-((v : Int), (0 : Int)).1)) = false by
        show (-(v : Int) != wrap64 (-(v : Int))) = false
        rw [w64 (by omega) (by omega)]; simp]
      exact last
    · have f1 : fin_ false v = (0, 5) := fin_over (by show 9223372036854775807 < v; omega)
      rw [f1]; exact Ev.ifn (by decide) last
end Go.Proofs.Ytaodnkhpiiepiaa.C
