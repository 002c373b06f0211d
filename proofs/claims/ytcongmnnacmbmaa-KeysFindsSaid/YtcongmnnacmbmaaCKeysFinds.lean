/- What KeysFinds reaches: its row's closed facts. No condition. -/
import Derived.Test.YtcongmnnacmbmaaRows
import Derived.Test.YtcongmnnacmbmaaCl
namespace Go.Proofs.Ytcongmnnacmbmaa.keysFindsC
open Go Go.Proofs.YtcongmnnacmbmaaG
set_option maxRecDepth 100000
theorem lead3 : lead Try.prog 3 = [4, 5, 6, 7, 5, 6, 6, 5, 6, 8] := by kernel_rfl
theorem lead4 : lead Try.prog 4 = [9, 9, 10] := by kernel_rfl
theorem lead9 : lead Try.prog 9 = [] := by kernel_rfl
theorem lead10 : lead Try.prog 10 = [] := by kernel_rfl
theorem lead5 : lead Try.prog 5 = [11, 12, 14, 13] := by kernel_rfl
theorem lead11 : lead Try.prog 11 = [15] := by kernel_rfl
theorem lead15 : lead Try.prog 15 = [17] := by kernel_rfl
theorem lead17 : lead Try.prog 17 = [] := by kernel_rfl
theorem lead12 : lead Try.prog 12 = [16] := by kernel_rfl
theorem lead16 : lead Try.prog 16 = [18, 18, 19] := by kernel_rfl
theorem lead18 : lead Try.prog 18 = [] := by kernel_rfl
theorem lead19 : lead Try.prog 19 = [18, 18] := by kernel_rfl
theorem lead14 : lead Try.prog 14 = [12] := by kernel_rfl
theorem lead13 : lead Try.prog 13 = [] := by kernel_rfl
theorem lead6 : lead Try.prog 6 = [] := by kernel_rfl
theorem lead7 : lead Try.prog 7 = [11, 12] := by kernel_rfl
theorem lead8 : lead Try.prog 8 = [7, 6] := by kernel_rfl
def T : List (Nat × List Nat) := [(3, [4, 5, 6, 7, 5, 6, 6, 5, 6, 8]), (4, [9, 9, 10]), (9, []), (10, []), (5, [11, 12, 14, 13]), (11, [15]), (15, [17]), (17, []), (12, [16]), (16, [18, 18, 19]), (18, []), (19, [18, 18]), (14, [12]), (13, []), (6, []), (7, [11, 12]), (8, [7, 6])]
def C : List (Nat × List Nat) := [(3, [3, 4, 9, 10, 5, 11, 15, 17, 12, 16, 18, 19, 14, 13, 6, 7, 8]), (4, [4, 9, 10]), (9, [9]), (10, [10]), (5, [5, 11, 15, 17, 12, 16, 18, 19, 14, 13]), (11, [11, 15, 17]), (15, [15, 17]), (17, [17]), (12, [12, 16, 18, 19]), (16, [16, 18, 19]), (18, [18]), (19, [19, 18]), (14, [14, 12, 16, 18, 19]), (13, [13]), (6, [6]), (7, [7, 11, 15, 17, 12, 16, 18, 19]), (8, [8, 7, 11, 15, 17, 12, 16, 18, 19, 6])]
theorem good : GoodT Try.prog T := ⟨lead3, lead4, lead9, lead10, lead5, lead11, lead15, lead17, lead12, lead16, lead18, lead19, lead14, lead13, lead6, lead7, lead8, trivial⟩
theorem size : Try.prog.funcs.size = 37 := by kernel_rfl
theorem fuel : decide (31 ≤ 1 + ((List.range 37).map fun i => ((lk T i).elim 0 List.length) + 1).sum) = true := by kernel_rfl
theorem runs : runsT T 31 C = true := by kernel_rfl
theorem clo {f : Nat} {R : List Nat} (h : lk C f = some R) : Try.prog.closure f = R := runs_ok good size fuel C runs h
theorem reach : Try.prog.closure 3 = [3, 4, 9, 10, 5, 11, 15, 17, 12, 16, 18, 19, 14, 13, 6, 7, 8] := clo (by kernel_rfl)
def wl : List Char := [Char.ofNat 104, Char.ofNat 97, Char.ofNat 114, Char.ofNat 110, Char.ofNat 101, Char.ofNat 115, Char.ofNat 115, Char.ofNat 32, Char.ofNat 54, Char.ofNat 97, Char.ofNat 101, Char.ofNat 53, Char.ofNat 53, Char.ofNat 102, Char.ofNat 97, Char.ofNat 57, Char.ofNat 101, Char.ofNat 99, Char.ofNat 98, Char.ofNat 101, Char.ofNat 51, Char.ofNat 56, Char.ofNat 97, Char.ofNat 98, Char.ofNat 97, Char.ofNat 101, Char.ofNat 52, Char.ofNat 98, Char.ofNat 52, Char.ofNat 100, Char.ofNat 98, Char.ofNat 55, Char.ofNat 100, Char.ofNat 48, Char.ofNat 99, Char.ofNat 99, Char.ofNat 51, Char.ofNat 102, Char.ofNat 98, Char.ofNat 99, Char.ofNat 56, Char.ofNat 52, Char.ofNat 102, Char.ofNat 53, Char.ofNat 52, Char.ofNat 100, Char.ofNat 55, Char.ofNat 49, Char.ofNat 50, Char.ofNat 49, Char.ofNat 97, Char.ofNat 100, Char.ofNat 54, Char.ofNat 50, Char.ofNat 56, Char.ofNat 101, Char.ofNat 48, Char.ofNat 55, Char.ofNat 57, Char.ofNat 52, Char.ofNat 97, Char.ofNat 98, Char.ofNat 50, Char.ofNat 52, Char.ofNat 56, Char.ofNat 55, Char.ofNat 48, Char.ofNat 52, Char.ofNat 99, Char.ofNat 49, Char.ofNat 49, Char.ofNat 52, Char.ofNat 32, Char.ofNat 99, Char.ofNat 117, Char.ofNat 116, Char.ofNat 32, Char.ofNat 97, Char.ofNat 116, Char.ofNat 32, Char.ofNat 99, Char.ofNat 97, Char.ofNat 100, Char.ofNat 97, Char.ofNat 115, Char.ofNat 116, Char.ofNat 114, Char.ofNat 101, Char.ofNat 47, Char.ofNat 99, Char.ofNat 97, Char.ofNat 100, Char.ofNat 97, Char.ofNat 115, Char.ofNat 116, Char.ofNat 114, Char.ofNat 101, Char.ofNat 108, Char.ofNat 97, Char.ofNat 119, Char.ofNat 55, Char.ofNat 46, Char.ofNat 75, Char.ofNat 101, Char.ofNat 121, Char.ofNat 115, Char.ofNat 70, Char.ofNat 105, Char.ofNat 110, Char.ofNat 100, Char.ofNat 115]
def ww : List (List Char) := [[Char.ofNat 104, Char.ofNat 97, Char.ofNat 114, Char.ofNat 110, Char.ofNat 101, Char.ofNat 115, Char.ofNat 115], [Char.ofNat 54, Char.ofNat 97, Char.ofNat 101, Char.ofNat 53, Char.ofNat 53, Char.ofNat 102, Char.ofNat 97, Char.ofNat 57, Char.ofNat 101, Char.ofNat 99, Char.ofNat 98, Char.ofNat 101, Char.ofNat 51, Char.ofNat 56, Char.ofNat 97, Char.ofNat 98, Char.ofNat 97, Char.ofNat 101, Char.ofNat 52, Char.ofNat 98, Char.ofNat 52, Char.ofNat 100, Char.ofNat 98, Char.ofNat 55, Char.ofNat 100, Char.ofNat 48, Char.ofNat 99, Char.ofNat 99, Char.ofNat 51, Char.ofNat 102, Char.ofNat 98, Char.ofNat 99, Char.ofNat 56, Char.ofNat 52, Char.ofNat 102, Char.ofNat 53, Char.ofNat 52, Char.ofNat 100, Char.ofNat 55, Char.ofNat 49, Char.ofNat 50, Char.ofNat 49, Char.ofNat 97, Char.ofNat 100, Char.ofNat 54, Char.ofNat 50, Char.ofNat 56, Char.ofNat 101, Char.ofNat 48, Char.ofNat 55, Char.ofNat 57, Char.ofNat 52, Char.ofNat 97, Char.ofNat 98, Char.ofNat 50, Char.ofNat 52, Char.ofNat 56, Char.ofNat 55, Char.ofNat 48, Char.ofNat 52, Char.ofNat 99, Char.ofNat 49, Char.ofNat 49, Char.ofNat 52], [Char.ofNat 99, Char.ofNat 117, Char.ofNat 116], [Char.ofNat 97, Char.ofNat 116], [Char.ofNat 99, Char.ofNat 97, Char.ofNat 100, Char.ofNat 97, Char.ofNat 115, Char.ofNat 116, Char.ofNat 114, Char.ofNat 101, Char.ofNat 47, Char.ofNat 99, Char.ofNat 97, Char.ofNat 100, Char.ofNat 97, Char.ofNat 115, Char.ofNat 116, Char.ofNat 114, Char.ofNat 101, Char.ofNat 108, Char.ofNat 97, Char.ofNat 119, Char.ofNat 55, Char.ofNat 46, Char.ofNat 75, Char.ofNat 101, Char.ofNat 121, Char.ofNat 115, Char.ofNat 70, Char.ofNat 105, Char.ofNat 110, Char.ofNat 100, Char.ofNat 115]]
theorem word : Try.prog.initOrder = String.ofList wl := by kernel_rfl
theorem words : wordsSigns Try.prog.initOrder.toList = ww := by rw [word, String.toList_ofList]; kernel_rfl
theorem head_ : behindMainWord ww = "cut".toList :: (ww.drop 3) := by kernel_rfl
theorem lays : Try.prog.laysLater = false := by kernel_rfl
theorem bears : Try.prog.bearsReflect = false := by kernel_rfl
theorem door : Try.prog.doorFits [] = true := by kernel_rfl
theorem enters : Try.prog.mayEnter = true := mayEnter_cut words head_ lays bears door
theorem lifts : (Rows.keysFindsRow.lifted == Try.prog.liftsFinal) = true := by rw [liftsFinal_cut words head_]; kernel_rfl
theorem makes : (Try.prog.make == some Rows.keysFindsRow.make) = true := by rw [make_cut words head_]; kernel_rfl
theorem inPlace : (Rows.keysFindsRow.inPlace == Try.prog.inPlace 3) = true := by rw [inPlace_of reach]; kernel_rfl
theorem nofollow : Try.prog.unfollowed 3 = true := by rw [unfollowed_of reach]; kernel_rfl
theorem unfol : (Rows.keysFindsRow.unfollowed == Try.prog.unfollowed 3) = true := by rw [nofollow]; kernel_rfl
theorem recs : (Rows.keysFindsRow.recurses == Try.prog.recurses 3) = true := by unfold Program.recurses; rw [nofollow, Bool.true_or]; kernel_rfl
theorem names : (Rows.keysFindsRow.named == Try.prog.varsNamed 3) = true := by rw [varsNamed_of reach]; kernel_rfl
theorem closed : joinedFacts Try.prog 3 Try.f3 Rows.keysFindsSpec Rows.keysFindsRow = true := by
  delta joinedFacts
  repeat' (with_reducible refine and_both ?_ ?_)
  all_goals first | (with_reducible exact inPlace) | (with_reducible exact unfol) | (with_reducible exact recs) | (with_reducible exact names) | (with_reducible exact enters) | (with_reducible exact lifts) | (with_reducible exact makes) | (as_aux_lemma => kernel_rfl)
end Go.Proofs.Ytcongmnnacmbmaa.keysFindsC
