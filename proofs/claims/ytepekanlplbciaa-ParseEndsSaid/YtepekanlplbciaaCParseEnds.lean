/- What ParseEnds reaches: its row's closed facts. No condition. -/
import Derived.Test.YtepekanlplbciaaRows
import Derived.Test.YtepekanlplbciaaCl
namespace Go.Proofs.Ytepekanlplbciaa.parseEndsC
open Go Go.Proofs.YtepekanlplbciaaG
set_option maxRecDepth 100000
theorem lead3 : lead Try.prog 3 = [6, 7, 6, 6, 6, 6, 7, 7, 8, 7, 8, 7, 7, 6, 6, 7, 7, 8, 9] := by kernel_rfl
theorem lead6 : lead Try.prog 6 = [11, 12, 13, 14] := by kernel_rfl
theorem lead11 : lead Try.prog 11 = [21, 22, 23, 21] := by kernel_rfl
theorem lead21 : lead Try.prog 21 = [37, 38, 39, 37, 40] := by kernel_rfl
theorem lead37 : lead Try.prog 37 = [] := by kernel_rfl
theorem lead38 : lead Try.prog 38 = [] := by kernel_rfl
theorem lead39 : lead Try.prog 39 = [66] := by kernel_rfl
theorem lead66 : lead Try.prog 66 = [] := by kernel_rfl
theorem lead40 : lead Try.prog 40 = [] := by kernel_rfl
theorem lead22 : lead Try.prog 22 = [41, 42, 43, 44, 37, 45, 46, 37, 42, 47, 48] := by kernel_rfl
theorem lead41 : lead Try.prog 41 = [] := by kernel_rfl
theorem lead42 : lead Try.prog 42 = [] := by kernel_rfl
theorem lead43 : lead Try.prog 43 = [67] := by kernel_rfl
theorem lead67 : lead Try.prog 67 = [75] := by kernel_rfl
theorem lead75 : lead Try.prog 75 = [80] := by kernel_rfl
theorem lead80 : lead Try.prog 80 = [] := by kernel_rfl
theorem lead44 : lead Try.prog 44 = [67, 68, 68] := by kernel_rfl
theorem lead68 : lead Try.prog 68 = [42] := by kernel_rfl
theorem lead45 : lead Try.prog 45 = [41, 42] := by kernel_rfl
theorem lead46 : lead Try.prog 46 = [] := by kernel_rfl
theorem lead47 : lead Try.prog 47 = [] := by kernel_rfl
theorem lead48 : lead Try.prog 48 = [] := by kernel_rfl
theorem lead23 : lead Try.prog 23 = [] := by kernel_rfl
theorem lead12 : lead Try.prog 12 = [13, 24, 13, 25, 13, 26, 13, 27, 28, 29, 13, 30, 13, 31, 13, 13, 13, 32] := by kernel_rfl
theorem lead13 : lead Try.prog 13 = [33] := by kernel_rfl
theorem lead33 : lead Try.prog 33 = [] := by kernel_rfl
theorem lead24 : lead Try.prog 24 = [13, 28, 50, 49, 14, 13, 27, 28, 27, 53, 32, 13, 27, 28, 27, 28, 53, 14] := by kernel_rfl
theorem lead28 : lead Try.prog 28 = [60, 32] := by kernel_rfl
theorem lead60 : lead Try.prog 60 = [74, 73] := by kernel_rfl
theorem lead74 : lead Try.prog 74 = [] := by kernel_rfl
theorem lead73 : lead Try.prog 73 = [78, 79, 79] := by kernel_rfl
theorem lead78 : lead Try.prog 78 = [83, 83] := by kernel_rfl
theorem lead83 : lead Try.prog 83 = [] := by kernel_rfl
theorem lead79 : lead Try.prog 79 = [] := by kernel_rfl
theorem lead32 : lead Try.prog 32 = [] := by kernel_rfl
theorem lead50 : lead Try.prog 50 = [52, 51] := by kernel_rfl
theorem lead52 : lead Try.prog 52 = [28, 13, 13, 27] := by kernel_rfl
theorem lead27 : lead Try.prog 27 = [13, 32] := by kernel_rfl
theorem lead51 : lead Try.prog 51 = [13] := by kernel_rfl
theorem lead49 : lead Try.prog 49 = [27, 27] := by kernel_rfl
theorem lead14 : lead Try.prog 14 = [] := by kernel_rfl
theorem lead53 : lead Try.prog 53 = [70, 69] := by kernel_rfl
theorem lead70 : lead Try.prog 70 = [28, 63] := by kernel_rfl
theorem lead63 : lead Try.prog 63 = [13] := by kernel_rfl
theorem lead69 : lead Try.prog 69 = [27, 27] := by kernel_rfl
theorem lead25 : lead Try.prog 25 = [13, 27, 28] := by kernel_rfl
theorem lead26 : lead Try.prog 26 = [27, 28, 27, 55, 54, 14] := by kernel_rfl
theorem lead55 : lead Try.prog 55 = [57, 56] := by kernel_rfl
theorem lead57 : lead Try.prog 57 = [59, 58] := by kernel_rfl
theorem lead59 : lead Try.prog 59 = [71, 72, 14] := by kernel_rfl
theorem lead71 : lead Try.prog 71 = [77, 76] := by kernel_rfl
theorem lead77 : lead Try.prog 77 = [82, 76] := by kernel_rfl
theorem lead82 : lead Try.prog 82 = [13, 82, 81, 84] := by kernel_rfl
theorem lead81 : lead Try.prog 81 = [] := by kernel_rfl
theorem lead84 : lead Try.prog 84 = [85, 13, 13, 27, 81, 86, 13, 85, 81] := by kernel_rfl
theorem lead85 : lead Try.prog 85 = [87, 76] := by kernel_rfl
theorem lead87 : lead Try.prog 87 = [88, 76] := by kernel_rfl
theorem lead88 : lead Try.prog 88 = [89, 76] := by kernel_rfl
theorem lead89 : lead Try.prog 89 = [13, 89, 81, 90] := by kernel_rfl
theorem lead90 : lead Try.prog 90 = [32, 91, 81, 13, 81, 33, 92, 13, 14, 27, 81, 93, 92, 81, 28, 13, 28, 81] := by kernel_rfl
theorem lead91 : lead Try.prog 91 = [94, 95] := by kernel_rfl
theorem lead94 : lead Try.prog 94 = [] := by kernel_rfl
theorem lead95 : lead Try.prog 95 = [] := by kernel_rfl
theorem lead92 : lead Try.prog 92 = [14, 71, 96] := by kernel_rfl
theorem lead96 : lead Try.prog 96 = [27, 27] := by kernel_rfl
theorem lead93 : lead Try.prog 93 = [] := by kernel_rfl
theorem lead76 : lead Try.prog 76 = [13, 81] := by kernel_rfl
theorem lead86 : lead Try.prog 86 = [] := by kernel_rfl
theorem lead72 : lead Try.prog 72 = [72] := by kernel_rfl
theorem lead58 : lead Try.prog 58 = [13] := by kernel_rfl
theorem lead56 : lead Try.prog 56 = [27, 27] := by kernel_rfl
theorem lead54 : lead Try.prog 54 = [13] := by kernel_rfl
theorem lead29 : lead Try.prog 29 = [13, 59] := by kernel_rfl
theorem lead30 : lead Try.prog 30 = [28, 27, 62, 61, 14, 29] := by kernel_rfl
theorem lead62 : lead Try.prog 62 = [28, 27, 59] := by kernel_rfl
theorem lead61 : lead Try.prog 61 = [13] := by kernel_rfl
theorem lead31 : lead Try.prog 31 = [13, 59, 58, 27, 28, 63, 29, 13, 27, 65, 64, 14, 14, 14] := by kernel_rfl
theorem lead65 : lead Try.prog 65 = [59, 13] := by kernel_rfl
theorem lead64 : lead Try.prog 64 = [13] := by kernel_rfl
theorem lead7 : lead Try.prog 7 = [] := by kernel_rfl
theorem lead8 : lead Try.prog 8 = [15, 16, 17, 18, 16, 19, 19, 20] := by kernel_rfl
theorem lead15 : lead Try.prog 15 = [] := by kernel_rfl
theorem lead16 : lead Try.prog 16 = [] := by kernel_rfl
theorem lead17 : lead Try.prog 17 = [19] := by kernel_rfl
theorem lead19 : lead Try.prog 19 = [35] := by kernel_rfl
theorem lead35 : lead Try.prog 35 = [19] := by kernel_rfl
theorem lead18 : lead Try.prog 18 = [34] := by kernel_rfl
theorem lead34 : lead Try.prog 34 = [35] := by kernel_rfl
theorem lead20 : lead Try.prog 20 = [36] := by kernel_rfl
theorem lead36 : lead Try.prog 36 = [35] := by kernel_rfl
theorem lead9 : lead Try.prog 9 = [6, 7] := by kernel_rfl
def T : List (Nat × List Nat) := [(3, [6, 7, 6, 6, 6, 6, 7, 7, 8, 7, 8, 7, 7, 6, 6, 7, 7, 8, 9]), (6, [11, 12, 13, 14]), (11, [21, 22, 23, 21]), (21, [37, 38, 39, 37, 40]), (37, []), (38, []), (39, [66]), (66, []), (40, []), (22, [41, 42, 43, 44, 37, 45, 46, 37, 42, 47, 48]), (41, []), (42, []), (43, [67]), (67, [75]), (75, [80]), (80, []), (44, [67, 68, 68]), (68, [42]), (45, [41, 42]), (46, []), (47, []), (48, []), (23, []), (12, [13, 24, 13, 25, 13, 26, 13, 27, 28, 29, 13, 30, 13, 31, 13, 13, 13, 32]), (13, [33]), (33, []), (24, [13, 28, 50, 49, 14, 13, 27, 28, 27, 53, 32, 13, 27, 28, 27, 28, 53, 14]), (28, [60, 32]), (60, [74, 73]), (74, []), (73, [78, 79, 79]), (78, [83, 83]), (83, []), (79, []), (32, []), (50, [52, 51]), (52, [28, 13, 13, 27]), (27, [13, 32]), (51, [13]), (49, [27, 27]), (14, []), (53, [70, 69]), (70, [28, 63]), (63, [13]), (69, [27, 27]), (25, [13, 27, 28]), (26, [27, 28, 27, 55, 54, 14]), (55, [57, 56]), (57, [59, 58]), (59, [71, 72, 14]), (71, [77, 76]), (77, [82, 76]), (82, [13, 82, 81, 84]), (81, []), (84, [85, 13, 13, 27, 81, 86, 13, 85, 81]), (85, [87, 76]), (87, [88, 76]), (88, [89, 76]), (89, [13, 89, 81, 90]), (90, [32, 91, 81, 13, 81, 33, 92, 13, 14, 27, 81, 93, 92, 81, 28, 13, 28, 81]), (91, [94, 95]), (94, []), (95, []), (92, [14, 71, 96]), (96, [27, 27]), (93, []), (76, [13, 81]), (86, []), (72, [72]), (58, [13]), (56, [27, 27]), (54, [13]), (29, [13, 59]), (30, [28, 27, 62, 61, 14, 29]), (62, [28, 27, 59]), (61, [13]), (31, [13, 59, 58, 27, 28, 63, 29, 13, 27, 65, 64, 14, 14, 14]), (65, [59, 13]), (64, [13]), (7, []), (8, [15, 16, 17, 18, 16, 19, 19, 20]), (15, []), (16, []), (17, [19]), (19, [35]), (35, [19]), (18, [34]), (34, [35]), (20, [36]), (36, [35]), (9, [6, 7])]
def C : List (Nat × List Nat) := [(3, [3, 6, 11, 21, 37, 38, 39, 66, 40, 22, 41, 42, 43, 67, 75, 80, 44, 68, 45, 46, 47, 48, 23, 12, 13, 33, 24, 28, 60, 74, 73, 78, 83, 79, 32, 50, 52, 27, 51, 49, 14, 53, 70, 63, 69, 25, 26, 55, 57, 59, 71, 77, 82, 81, 84, 85, 87, 88, 89, 90, 91, 94, 95, 92, 96, 93, 76, 86, 72, 58, 56, 54, 29, 30, 62, 61, 31, 65, 64, 7, 8, 15, 16, 17, 19, 35, 18, 34, 20, 36, 9]), (6, [6, 11, 21, 37, 38, 39, 66, 40, 22, 41, 42, 43, 67, 75, 80, 44, 68, 45, 46, 47, 48, 23, 12, 13, 33, 24, 28, 60, 74, 73, 78, 83, 79, 32, 50, 52, 27, 51, 49, 14, 53, 70, 63, 69, 25, 26, 55, 57, 59, 71, 77, 82, 81, 84, 85, 87, 88, 89, 90, 91, 94, 95, 92, 96, 93, 76, 86, 72, 58, 56, 54, 29, 30, 62, 61, 31, 65, 64]), (11, [11, 21, 37, 38, 39, 66, 40, 22, 41, 42, 43, 67, 75, 80, 44, 68, 45, 46, 47, 48, 23]), (21, [21, 37, 38, 39, 66, 40]), (37, [37]), (38, [38]), (39, [39, 66]), (66, [66]), (40, [40]), (22, [22, 41, 42, 43, 67, 75, 80, 44, 68, 37, 45, 46, 47, 48]), (41, [41]), (42, [42]), (43, [43, 67, 75, 80]), (67, [67, 75, 80]), (75, [75, 80]), (80, [80]), (44, [44, 67, 75, 80, 68, 42]), (68, [68, 42]), (45, [45, 41, 42]), (46, [46]), (47, [47]), (48, [48]), (23, [23]), (12, [12, 13, 33, 24, 28, 60, 74, 73, 78, 83, 79, 32, 50, 52, 27, 51, 49, 14, 53, 70, 63, 69, 25, 26, 55, 57, 59, 71, 77, 82, 81, 84, 85, 87, 88, 89, 90, 91, 94, 95, 92, 96, 93, 76, 86, 72, 58, 56, 54, 29, 30, 62, 61, 31, 65, 64]), (13, [13, 33]), (33, [33]), (24, [24, 13, 33, 28, 60, 74, 73, 78, 83, 79, 32, 50, 52, 27, 51, 49, 14, 53, 70, 63, 69]), (28, [28, 60, 74, 73, 78, 83, 79, 32]), (60, [60, 74, 73, 78, 83, 79]), (74, [74]), (73, [73, 78, 83, 79]), (78, [78, 83]), (83, [83]), (79, [79]), (32, [32]), (50, [50, 52, 28, 60, 74, 73, 78, 83, 79, 32, 13, 33, 27, 51]), (52, [52, 28, 60, 74, 73, 78, 83, 79, 32, 13, 33, 27]), (27, [27, 13, 33, 32]), (51, [51, 13, 33]), (49, [49, 27, 13, 33, 32]), (14, [14]), (53, [53, 70, 28, 60, 74, 73, 78, 83, 79, 32, 63, 13, 33, 69, 27]), (70, [70, 28, 60, 74, 73, 78, 83, 79, 32, 63, 13, 33]), (63, [63, 13, 33]), (69, [69, 27, 13, 33, 32]), (25, [25, 13, 33, 27, 32, 28, 60, 74, 73, 78, 83, 79]), (26, [26, 27, 13, 33, 32, 28, 60, 74, 73, 78, 83, 79, 55, 57, 59, 71, 77, 82, 81, 84, 85, 87, 88, 89, 90, 91, 94, 95, 92, 14, 96, 93, 76, 86, 72, 58, 56, 54]), (55, [55, 57, 59, 71, 77, 82, 13, 33, 81, 84, 85, 87, 88, 89, 90, 32, 91, 94, 95, 92, 14, 96, 27, 93, 28, 60, 74, 73, 78, 83, 79, 76, 86, 72, 58, 56]), (57, [57, 59, 71, 77, 82, 13, 33, 81, 84, 85, 87, 88, 89, 90, 32, 91, 94, 95, 92, 14, 96, 27, 93, 28, 60, 74, 73, 78, 83, 79, 76, 86, 72, 58]), (59, [59, 71, 77, 82, 13, 33, 81, 84, 85, 87, 88, 89, 90, 32, 91, 94, 95, 92, 14, 96, 27, 93, 28, 60, 74, 73, 78, 83, 79, 76, 86, 72]), (71, [71, 77, 82, 13, 33, 81, 84, 85, 87, 88, 89, 90, 32, 91, 94, 95, 92, 14, 96, 27, 93, 28, 60, 74, 73, 78, 83, 79, 76, 86]), (77, [77, 82, 13, 33, 81, 84, 85, 87, 88, 89, 90, 32, 91, 94, 95, 92, 14, 71, 76, 96, 27, 93, 28, 60, 74, 73, 78, 83, 79, 86]), (82, [82, 13, 33, 81, 84, 85, 87, 88, 89, 90, 32, 91, 94, 95, 92, 14, 71, 77, 76, 96, 27, 93, 28, 60, 74, 73, 78, 83, 79, 86]), (81, [81]), (84, [84, 85, 87, 88, 89, 13, 33, 81, 90, 32, 91, 94, 95, 92, 14, 71, 77, 82, 76, 96, 27, 93, 28, 60, 74, 73, 78, 83, 79, 86]), (85, [85, 87, 88, 89, 13, 33, 81, 90, 32, 91, 94, 95, 92, 14, 71, 77, 82, 84, 27, 86, 76, 96, 93, 28, 60, 74, 73, 78, 83, 79]), (87, [87, 88, 89, 13, 33, 81, 90, 32, 91, 94, 95, 92, 14, 71, 77, 82, 84, 85, 76, 27, 86, 96, 93, 28, 60, 74, 73, 78, 83, 79]), (88, [88, 89, 13, 33, 81, 90, 32, 91, 94, 95, 92, 14, 71, 77, 82, 84, 85, 87, 76, 27, 86, 96, 93, 28, 60, 74, 73, 78, 83, 79]), (89, [89, 13, 33, 81, 90, 32, 91, 94, 95, 92, 14, 71, 77, 82, 84, 85, 87, 88, 76, 27, 86, 96, 93, 28, 60, 74, 73, 78, 83, 79]), (90, [90, 32, 91, 94, 95, 81, 13, 33, 92, 14, 71, 77, 82, 84, 85, 87, 88, 89, 76, 27, 86, 96, 93, 28, 60, 74, 73, 78, 83, 79]), (91, [91, 94, 95]), (94, [94]), (95, [95]), (92, [92, 14, 71, 77, 82, 13, 33, 81, 84, 85, 87, 88, 89, 90, 32, 91, 94, 95, 27, 93, 28, 60, 74, 73, 78, 83, 79, 76, 86, 96]), (96, [96, 27, 13, 33, 32]), (93, [93]), (76, [76, 13, 33, 81]), (86, [86]), (72, [72]), (58, [58, 13, 33]), (56, [56, 27, 13, 33, 32]), (54, [54, 13, 33]), (29, [29, 13, 33, 59, 71, 77, 82, 81, 84, 85, 87, 88, 89, 90, 32, 91, 94, 95, 92, 14, 96, 27, 93, 28, 60, 74, 73, 78, 83, 79, 76, 86, 72]), (30, [30, 28, 60, 74, 73, 78, 83, 79, 32, 27, 13, 33, 62, 59, 71, 77, 82, 81, 84, 85, 87, 88, 89, 90, 91, 94, 95, 92, 14, 96, 93, 76, 86, 72, 61, 29]), (62, [62, 28, 60, 74, 73, 78, 83, 79, 32, 27, 13, 33, 59, 71, 77, 82, 81, 84, 85, 87, 88, 89, 90, 91, 94, 95, 92, 14, 96, 93, 76, 86, 72]), (61, [61, 13, 33]), (31, [31, 13, 33, 59, 71, 77, 82, 81, 84, 85, 87, 88, 89, 90, 32, 91, 94, 95, 92, 14, 96, 27, 93, 28, 60, 74, 73, 78, 83, 79, 76, 86, 72, 58, 63, 29, 65, 64]), (65, [65, 59, 71, 77, 82, 13, 33, 81, 84, 85, 87, 88, 89, 90, 32, 91, 94, 95, 92, 14, 96, 27, 93, 28, 60, 74, 73, 78, 83, 79, 76, 86, 72]), (64, [64, 13, 33]), (7, [7]), (8, [8, 15, 16, 17, 19, 35, 18, 34, 20, 36]), (15, [15]), (16, [16]), (17, [17, 19, 35]), (19, [19, 35]), (35, [35, 19]), (18, [18, 34, 35, 19]), (34, [34, 35, 19]), (20, [20, 36, 35, 19]), (36, [36, 35, 19]), (9, [9, 6, 11, 21, 37, 38, 39, 66, 40, 22, 41, 42, 43, 67, 75, 80, 44, 68, 45, 46, 47, 48, 23, 12, 13, 33, 24, 28, 60, 74, 73, 78, 83, 79, 32, 50, 52, 27, 51, 49, 14, 53, 70, 63, 69, 25, 26, 55, 57, 59, 71, 77, 82, 81, 84, 85, 87, 88, 89, 90, 91, 94, 95, 92, 96, 93, 76, 86, 72, 58, 56, 54, 29, 30, 62, 61, 31, 65, 64, 7])]
theorem good : GoodT Try.prog T := ⟨lead3, lead6, lead11, lead21, lead37, lead38, lead39, lead66, lead40, lead22, lead41, lead42, lead43, lead67, lead75, lead80, lead44, lead68, lead45, lead46, lead47, lead48, lead23, lead12, lead13, lead33, lead24, lead28, lead60, lead74, lead73, lead78, lead83, lead79, lead32, lead50, lead52, lead27, lead51, lead49, lead14, lead53, lead70, lead63, lead69, lead25, lead26, lead55, lead57, lead59, lead71, lead77, lead82, lead81, lead84, lead85, lead87, lead88, lead89, lead90, lead91, lead94, lead95, lead92, lead96, lead93, lead76, lead86, lead72, lead58, lead56, lead54, lead29, lead30, lead62, lead61, lead31, lead65, lead64, lead7, lead8, lead15, lead16, lead17, lead19, lead35, lead18, lead34, lead20, lead36, lead9, trivial⟩
theorem size : Try.prog.funcs.size = 114 := by kernel_rfl
theorem fuel : decide (239 ≤ 1 + ((List.range 114).map fun i => ((lk T i).elim 0 List.length) + 1).sum) = true := by kernel_rfl
theorem runs : runsT T 239 C = true := by kernel_rfl
theorem clo {f : Nat} {R : List Nat} (h : lk C f = some R) : Try.prog.closure f = R := runs_ok good size fuel C runs h
theorem reach : Try.prog.closure 3 = [3, 6, 11, 21, 37, 38, 39, 66, 40, 22, 41, 42, 43, 67, 75, 80, 44, 68, 45, 46, 47, 48, 23, 12, 13, 33, 24, 28, 60, 74, 73, 78, 83, 79, 32, 50, 52, 27, 51, 49, 14, 53, 70, 63, 69, 25, 26, 55, 57, 59, 71, 77, 82, 81, 84, 85, 87, 88, 89, 90, 91, 94, 95, 92, 96, 93, 76, 86, 72, 58, 56, 54, 29, 30, 62, 61, 31, 65, 64, 7, 8, 15, 16, 17, 19, 35, 18, 34, 20, 36, 9] := clo (by kernel_rfl)
def wl : List Char := [Char.ofNat 104, Char.ofNat 97, Char.ofNat 114, Char.ofNat 110, Char.ofNat 101, Char.ofNat 115, Char.ofNat 115, Char.ofNat 32, Char.ofNat 100, Char.ofNat 54, Char.ofNat 56, Char.ofNat 56, Char.ofNat 99, Char.ofNat 51, Char.ofNat 53, Char.ofNat 100, Char.ofNat 57, Char.ofNat 97, Char.ofNat 54, Char.ofNat 99, Char.ofNat 102, Char.ofNat 49, Char.ofNat 54, Char.ofNat 53, Char.ofNat 48, Char.ofNat 53, Char.ofNat 55, Char.ofNat 100, Char.ofNat 98, Char.ofNat 101, Char.ofNat 52, Char.ofNat 52, Char.ofNat 49, Char.ofNat 50, Char.ofNat 52, Char.ofNat 48, Char.ofNat 48, Char.ofNat 49, Char.ofNat 53, Char.ofNat 48, Char.ofNat 54, Char.ofNat 51, Char.ofNat 97, Char.ofNat 54, Char.ofNat 101, Char.ofNat 100, Char.ofNat 50, Char.ofNat 97, Char.ofNat 99, Char.ofNat 48, Char.ofNat 52, Char.ofNat 57, Char.ofNat 101, Char.ofNat 56, Char.ofNat 100, Char.ofNat 49, Char.ofNat 100, Char.ofNat 99, Char.ofNat 55, Char.ofNat 100, Char.ofNat 57, Char.ofNat 48, Char.ofNat 51, Char.ofNat 52, Char.ofNat 53, Char.ofNat 54, Char.ofNat 54, Char.ofNat 97, Char.ofNat 55, Char.ofNat 98, Char.ofNat 55, Char.ofNat 50, Char.ofNat 32, Char.ofNat 99, Char.ofNat 117, Char.ofNat 116, Char.ofNat 32, Char.ofNat 97, Char.ofNat 116, Char.ofNat 32, Char.ofNat 99, Char.ofNat 97, Char.ofNat 100, Char.ofNat 97, Char.ofNat 115, Char.ofNat 116, Char.ofNat 114, Char.ofNat 101, Char.ofNat 47, Char.ofNat 99, Char.ofNat 97, Char.ofNat 100, Char.ofNat 97, Char.ofNat 115, Char.ofNat 116, Char.ofNat 114, Char.ofNat 101, Char.ofNat 108, Char.ofNat 97, Char.ofNat 119, Char.ofNat 50, Char.ofNat 48, Char.ofNat 46, Char.ofNat 80, Char.ofNat 97, Char.ofNat 114, Char.ofNat 115, Char.ofNat 101, Char.ofNat 69, Char.ofNat 110, Char.ofNat 100, Char.ofNat 115, Char.ofNat 32, Char.ofNat 99, Char.ofNat 97, Char.ofNat 100, Char.ofNat 97, Char.ofNat 115, Char.ofNat 116, Char.ofNat 114, Char.ofNat 101, Char.ofNat 47, Char.ofNat 99, Char.ofNat 97, Char.ofNat 100, Char.ofNat 97, Char.ofNat 115, Char.ofNat 116, Char.ofNat 114, Char.ofNat 101, Char.ofNat 108, Char.ofNat 97, Char.ofNat 119, Char.ofNat 50, Char.ofNat 48, Char.ofNat 46, Char.ofNat 80, Char.ofNat 97, Char.ofNat 114, Char.ofNat 115, Char.ofNat 101, Char.ofNat 76, Char.ofNat 101, Char.ofNat 118, Char.ofNat 101, Char.ofNat 108, Char.ofNat 115, Char.ofNat 32, Char.ofNat 99, Char.ofNat 97, Char.ofNat 100, Char.ofNat 97, Char.ofNat 115, Char.ofNat 116, Char.ofNat 114, Char.ofNat 101, Char.ofNat 47, Char.ofNat 99, Char.ofNat 97, Char.ofNat 100, Char.ofNat 97, Char.ofNat 115, Char.ofNat 116, Char.ofNat 114, Char.ofNat 101, Char.ofNat 108, Char.ofNat 97, Char.ofNat 119, Char.ofNat 50, Char.ofNat 48, Char.ofNat 46, Char.ofNat 80, Char.ofNat 97, Char.ofNat 114, Char.ofNat 115, Char.ofNat 101, Char.ofNat 87, Char.ofNat 111, Char.ofNat 114, Char.ofNat 100, Char.ofNat 115]
def ww : List (List Char) := [[Char.ofNat 104, Char.ofNat 97, Char.ofNat 114, Char.ofNat 110, Char.ofNat 101, Char.ofNat 115, Char.ofNat 115], [Char.ofNat 100, Char.ofNat 54, Char.ofNat 56, Char.ofNat 56, Char.ofNat 99, Char.ofNat 51, Char.ofNat 53, Char.ofNat 100, Char.ofNat 57, Char.ofNat 97, Char.ofNat 54, Char.ofNat 99, Char.ofNat 102, Char.ofNat 49, Char.ofNat 54, Char.ofNat 53, Char.ofNat 48, Char.ofNat 53, Char.ofNat 55, Char.ofNat 100, Char.ofNat 98, Char.ofNat 101, Char.ofNat 52, Char.ofNat 52, Char.ofNat 49, Char.ofNat 50, Char.ofNat 52, Char.ofNat 48, Char.ofNat 48, Char.ofNat 49, Char.ofNat 53, Char.ofNat 48, Char.ofNat 54, Char.ofNat 51, Char.ofNat 97, Char.ofNat 54, Char.ofNat 101, Char.ofNat 100, Char.ofNat 50, Char.ofNat 97, Char.ofNat 99, Char.ofNat 48, Char.ofNat 52, Char.ofNat 57, Char.ofNat 101, Char.ofNat 56, Char.ofNat 100, Char.ofNat 49, Char.ofNat 100, Char.ofNat 99, Char.ofNat 55, Char.ofNat 100, Char.ofNat 57, Char.ofNat 48, Char.ofNat 51, Char.ofNat 52, Char.ofNat 53, Char.ofNat 54, Char.ofNat 54, Char.ofNat 97, Char.ofNat 55, Char.ofNat 98, Char.ofNat 55, Char.ofNat 50], [Char.ofNat 99, Char.ofNat 117, Char.ofNat 116], [Char.ofNat 97, Char.ofNat 116], [Char.ofNat 99, Char.ofNat 97, Char.ofNat 100, Char.ofNat 97, Char.ofNat 115, Char.ofNat 116, Char.ofNat 114, Char.ofNat 101, Char.ofNat 47, Char.ofNat 99, Char.ofNat 97, Char.ofNat 100, Char.ofNat 97, Char.ofNat 115, Char.ofNat 116, Char.ofNat 114, Char.ofNat 101, Char.ofNat 108, Char.ofNat 97, Char.ofNat 119, Char.ofNat 50, Char.ofNat 48, Char.ofNat 46, Char.ofNat 80, Char.ofNat 97, Char.ofNat 114, Char.ofNat 115, Char.ofNat 101, Char.ofNat 69, Char.ofNat 110, Char.ofNat 100, Char.ofNat 115], [Char.ofNat 99, Char.ofNat 97, Char.ofNat 100, Char.ofNat 97, Char.ofNat 115, Char.ofNat 116, Char.ofNat 114, Char.ofNat 101, Char.ofNat 47, Char.ofNat 99, Char.ofNat 97, Char.ofNat 100, Char.ofNat 97, Char.ofNat 115, Char.ofNat 116, Char.ofNat 114, Char.ofNat 101, Char.ofNat 108, Char.ofNat 97, Char.ofNat 119, Char.ofNat 50, Char.ofNat 48, Char.ofNat 46, Char.ofNat 80, Char.ofNat 97, Char.ofNat 114, Char.ofNat 115, Char.ofNat 101, Char.ofNat 76, Char.ofNat 101, Char.ofNat 118, Char.ofNat 101, Char.ofNat 108, Char.ofNat 115], [Char.ofNat 99, Char.ofNat 97, Char.ofNat 100, Char.ofNat 97, Char.ofNat 115, Char.ofNat 116, Char.ofNat 114, Char.ofNat 101, Char.ofNat 47, Char.ofNat 99, Char.ofNat 97, Char.ofNat 100, Char.ofNat 97, Char.ofNat 115, Char.ofNat 116, Char.ofNat 114, Char.ofNat 101, Char.ofNat 108, Char.ofNat 97, Char.ofNat 119, Char.ofNat 50, Char.ofNat 48, Char.ofNat 46, Char.ofNat 80, Char.ofNat 97, Char.ofNat 114, Char.ofNat 115, Char.ofNat 101, Char.ofNat 87, Char.ofNat 111, Char.ofNat 114, Char.ofNat 100, Char.ofNat 115]]
theorem word : Try.prog.initOrder = String.ofList wl := by kernel_rfl
theorem words : wordsSigns Try.prog.initOrder.toList = ww := by rw [word, String.toList_ofList]; kernel_rfl
theorem head_ : behindMainWord ww = "cut".toList :: (ww.drop 3) := by kernel_rfl
theorem lays : Try.prog.laysLater = false := by kernel_rfl
theorem bears : Try.prog.bearsReflect = false := by kernel_rfl
theorem door : Try.prog.doorFits [] = true := by kernel_rfl
theorem enters : Try.prog.mayEnter = true := mayEnter_cut words head_ lays bears door
theorem lifts : (Rows.parseEndsRow.lifted == Try.prog.liftsFinal) = true := by rw [liftsFinal_cut words head_]; kernel_rfl
theorem makes : (Try.prog.make == some Rows.parseEndsRow.make) = true := by rw [make_cut words head_]; kernel_rfl
theorem inPlace : (Rows.parseEndsRow.inPlace == Try.prog.inPlace 3) = true := by rw [inPlace_of reach]; kernel_rfl
theorem nofollow : Try.prog.unfollowed 3 = true := by rw [unfollowed_of reach]; kernel_rfl
theorem unfol : (Rows.parseEndsRow.unfollowed == Try.prog.unfollowed 3) = true := by rw [nofollow]; kernel_rfl
theorem recs : (Rows.parseEndsRow.recurses == Try.prog.recurses 3) = true := by unfold Program.recurses; rw [nofollow, Bool.true_or]; kernel_rfl
theorem names : (Rows.parseEndsRow.named == Try.prog.varsNamed 3) = true := by rw [varsNamed_of reach]; kernel_rfl
theorem closed : joinedFacts Try.prog 3 Try.f3 Rows.parseEndsSpec Rows.parseEndsRow = true := by
  delta joinedFacts
  repeat' (with_reducible refine and_both ?_ ?_)
  all_goals first | (with_reducible exact inPlace) | (with_reducible exact unfol) | (with_reducible exact recs) | (with_reducible exact names) | (with_reducible exact enters) | (with_reducible exact lifts) | (with_reducible exact makes) | (as_aux_lemma => kernel_rfl)
end Go.Proofs.Ytepekanlplbciaa.parseEndsC
