/- The code of functions, for the abstract machine, and that it is theirs. Printed by vc2.py. -/
import Derived.Test.YtdjgfjnnafddnaaIds
set_option linter.unusedVariables false
set_option maxRecDepth 100000
namespace Go.Proofs.Ytdjgfjnnafddnaa
open Go Go.Vm

/- usher/usherlaw02.PackWrites -/
def vc_law02_PackWrites_o1_1 : List VO := ⟨(some 63), none, (.pick (.t 59) (.t 62) (.c (.val (.bool false))))⟩ :: ⟨none, none, .kp [63]⟩ :: ⟨(some 64), none, (.mv (.t 63))⟩ :: ⟨(some 65), (some (64, true)), (.call 36 [] [])⟩ :: ⟨(some 66), none, (.pick (.t 64) (.t 65) (.c (.val (.bool false))))⟩ :: ⟨none, none, .kp [66]⟩ :: ⟨(some 10), none, (.mv (.t 66))⟩ :: []
def vc_law02_PackWrites_o1 : List VO := ⟨(some 58), none, (.mv (.t 12))⟩ :: ⟨(some 59), none, (.mv (.t 58))⟩ :: ⟨none, none, .kp [0, 11, 59]⟩ :: ⟨(some 60), (some (59, true)), (.mv (.t 0))⟩ :: ⟨(some 61), (some (59, true)), (.mv (.t 11))⟩ :: ⟨none, none, .kp [59, 60, 61]⟩ :: ⟨(some 62), (some (59, true)), (.call 25 [] [(.t 60), (.t 61)])⟩ :: ⟨none, none, .kp [59, 62]⟩ :: vc_law02_PackWrites_o1_1
def vc_law02_PackWrites_r1 : VCode := (.keep [0, 11, 12] (.seq (.region false vc_law02_PackWrites_o1) (.keep [10] .ret)))
def vc_law02_PackWrites_o2_8 : List VO := ⟨(some 55), (some (49, true)), (.call 35 [] [(.t 53), (.t 54)])⟩ :: ⟨none, none, .kp [0, 11, 49, 52, 55]⟩ :: ⟨(some 56), (some (49, true)), (.call 25 [] [(.t 52), (.t 55)])⟩ :: ⟨none, none, .kp [0, 11, 49, 56]⟩ :: ⟨(some 57), none, (.pick (.t 49) (.t 56) (.c (.val (.bool false))))⟩ :: ⟨none, none, .kp [0, 11, 57]⟩ :: ⟨(some 12), none, (.mv (.t 57))⟩ :: []
def vc_law02_PackWrites_o2_7 : List VO := ⟨(some 50), (some (49, true)), (.mv (.t 0))⟩ :: ⟨(some 51), (some (49, true)), (.mv (.t 4))⟩ :: ⟨(some 52), (some (49, true)), (.call 34 [] [(.t 50), (.t 51)])⟩ :: ⟨none, none, .kp [0, 4, 11, 49, 52]⟩ :: ⟨(some 53), (some (49, true)), (.mv (.t 11))⟩ :: ⟨(some 54), (some (49, true)), (.mv (.t 4))⟩ :: vc_law02_PackWrites_o2_8
def vc_law02_PackWrites_o2_6 : List VO := ⟨(some 45), (some (40, true)), (.mv (.t 3))⟩ :: ⟨(some 46), (some (40, true)), (.call 33 [] [(.t 44), (.t 45)])⟩ :: ⟨none, none, .kp [0, 4, 11, 40, 43, 46]⟩ :: ⟨(some 47), (some (40, true)), (.call 25 [] [(.t 43), (.t 46)])⟩ :: ⟨none, none, .kp [0, 4, 11, 40, 47]⟩ :: ⟨(some 48), none, (.pick (.t 40) (.t 47) (.c (.val (.bool false))))⟩ :: ⟨none, none, .kp [0, 4, 11, 48]⟩ :: ⟨(some 49), none, (.mv (.t 48))⟩ :: vc_law02_PackWrites_o2_7
def vc_law02_PackWrites_o2_5 : List VO := ⟨(some 40), none, (.mv (.t 39))⟩ :: ⟨(some 41), (some (40, true)), (.mv (.t 0))⟩ :: ⟨(some 42), (some (40, true)), (.mv (.t 3))⟩ :: ⟨(some 43), (some (40, true)), (.call 32 [] [(.t 41), (.t 42)])⟩ :: ⟨none, none, .kp [0, 3, 4, 11, 40, 43]⟩ :: ⟨(some 44), (some (40, true)), (.mv (.t 11))⟩ :: vc_law02_PackWrites_o2_6
def vc_law02_PackWrites_o2_4 : List VO := ⟨(some 35), (some (31, true)), (.mv (.t 11))⟩ :: ⟨(some 36), (some (31, true)), (.mv (.t 2))⟩ :: ⟨(some 37), (some (31, true)), (.call 31 [] [(.t 35), (.t 36)])⟩ :: ⟨none, none, .kp [0, 3, 4, 11, 31, 34, 37]⟩ :: ⟨(some 38), (some (31, true)), (.call 25 [] [(.t 34), (.t 37)])⟩ :: ⟨none, none, .kp [0, 3, 4, 11, 31, 38]⟩ :: ⟨(some 39), none, (.pick (.t 31) (.t 38) (.c (.val (.bool false))))⟩ :: ⟨none, none, .kp [0, 3, 4, 11, 39]⟩ :: vc_law02_PackWrites_o2_5
def vc_law02_PackWrites_o2_3 : List VO := ⟨(some 30), none, (.pick (.t 22) (.t 29) (.c (.val (.bool false))))⟩ :: ⟨none, none, .kp [0, 2, 3, 4, 11, 30]⟩ :: ⟨(some 31), none, (.mv (.t 30))⟩ :: ⟨(some 32), (some (31, true)), (.mv (.t 0))⟩ :: ⟨(some 33), (some (31, true)), (.mv (.t 2))⟩ :: ⟨(some 34), (some (31, true)), (.call 30 [] [(.t 32), (.t 33)])⟩ :: ⟨none, none, .kp [0, 2, 3, 4, 11, 31, 34]⟩ :: vc_law02_PackWrites_o2_4
def vc_law02_PackWrites_o2_2 : List VO := ⟨(some 25), (some (22, true)), (.call 28 [] [(.t 23), (.t 24)])⟩ :: ⟨none, none, .kp [0, 1, 2, 3, 4, 11, 22, 25]⟩ :: ⟨(some 26), (some (22, true)), (.mv (.t 11))⟩ :: ⟨(some 27), (some (22, true)), (.mv (.t 1))⟩ :: ⟨(some 28), (some (22, true)), (.call 29 [] [(.t 26), (.t 27)])⟩ :: ⟨none, none, .kp [0, 2, 3, 4, 11, 22, 25, 28]⟩ :: ⟨(some 29), (some (22, true)), (.call 25 [] [(.t 25), (.t 28)])⟩ :: ⟨none, none, .kp [0, 2, 3, 4, 11, 22, 29]⟩ :: vc_law02_PackWrites_o2_3
def vc_law02_PackWrites_o2_1 : List VO := ⟨(some 20), none, (.call 27 [] [(.t 18), (.t 19)])⟩ :: ⟨none, none, .kp [0, 1, 2, 3, 4, 11, 17, 20]⟩ :: ⟨(some 21), none, (.call 25 [] [(.t 17), (.t 20)])⟩ :: ⟨none, none, .kp [0, 1, 2, 3, 4, 11, 21]⟩ :: ⟨(some 22), none, (.mv (.t 21))⟩ :: ⟨(some 23), (some (22, true)), (.mv (.t 0))⟩ :: ⟨(some 24), (some (22, true)), (.mv (.t 1))⟩ :: vc_law02_PackWrites_o2_2
def vc_law02_PackWrites_o2 : List VO := ⟨(some 15), none, (.mv (.t 0))⟩ :: ⟨(some 16), none, (.mv (.t 1))⟩ :: ⟨(some 17), none, (.call 26 [] [(.t 15), (.t 16)])⟩ :: ⟨none, none, .kp [0, 1, 2, 3, 4, 11, 17]⟩ :: ⟨(some 18), none, (.mv (.t 11))⟩ :: ⟨(some 19), none, (.mv (.t 1))⟩ :: vc_law02_PackWrites_o2_1
def vc_law02_PackWrites_r2 : VCode := (.keep [0, 1, 2, 3, 4, 11] (.seq (.region false vc_law02_PackWrites_o2) vc_law02_PackWrites_r1))
def vc_law02_PackWrites_o3 : List VO := ⟨(some 13), none, (.mv (.t 0))⟩ :: ⟨(some 14), none, (.call 24 [] [(.t 13)])⟩ :: ⟨(some 11), none, (.mv (.t 14))⟩ :: []
def vc_law02_PackWrites_r3 : VCode := (.keep [0, 1, 2, 3, 4] (.seq (.region false vc_law02_PackWrites_o3) vc_law02_PackWrites_r2))
def vc_law02_PackWrites_o4 : List VO := ⟨(some 10), none, (.mv (.c (.val (.bool false))))⟩ :: []
def vc_law02_PackWrites : VCode := (.seq (.region false vc_law02_PackWrites_o4) vc_law02_PackWrites_r3)
def rs_law02_PackWrites : List RV := [(.t 10)]
theorem comp_law02_PackWrites : ccode Try.prog (Try.f5.body.getD .skip) = some (strip vc_law02_PackWrites) := by kernel_rfl
theorem code_law02_PackWrites : IsCode Try.prog id_law02_PackWrites 67 vc_law02_PackWrites rs_law02_PackWrites := ⟨_, _, Try.func5, by kernel_rfl, rfl, comp_law02_PackWrites, by kernel_rfl, by kernel_rfl, rfl⟩

/- usher/usherlaw02.PackOrder -/
def vc_law02_PackOrder_o1_2 : List VO := ⟨(some 28), (some (27, true)), (.call 36 [] [])⟩ :: ⟨(some 29), none, (.pick (.t 27) (.t 28) (.c (.val (.bool false))))⟩ :: ⟨none, none, .kp [29]⟩ :: ⟨(some 4), none, (.mv (.t 29))⟩ :: []
def vc_law02_PackOrder_o1_1 : List VO := ⟨(some 23), none, (.mv (.t 0))⟩ :: ⟨(some 24), none, (.mv (.t 1))⟩ :: ⟨none, none, .kp [22, 23, 24]⟩ :: ⟨(some 25), none, (.call 38 [] [(.t 23), (.t 24)])⟩ :: ⟨none, none, .kp [22, 25]⟩ :: ⟨(some 26), none, (.bin .eql (.t 22) (.t 25))⟩ :: ⟨none, none, .kp [26]⟩ :: ⟨(some 27), none, (.mv (.t 26))⟩ :: vc_law02_PackOrder_o1_2
def vc_law02_PackOrder_o1 : List VO := ⟨(some 18), none, (.mv (.t 0))⟩ :: ⟨(some 19), none, (.call 26 [] [(.c (.val (.slice none 0 0))), (.t 18)])⟩ :: ⟨(some 20), none, (.mv (.t 1))⟩ :: ⟨(some 21), none, (.call 26 [] [(.c (.val (.slice none 0 0))), (.t 20)])⟩ :: ⟨none, none, .kp [0, 1, 19, 21]⟩ :: ⟨(some 22), none, (.call 37 [] [(.t 19), (.t 21)])⟩ :: ⟨none, none, .kp [0, 1, 22]⟩ :: vc_law02_PackOrder_o1_1
def vc_law02_PackOrder_r1 : VCode := (.keep [0, 1] (.seq (.region false vc_law02_PackOrder_o1) (.keep [4] .ret)))
def vc_law02_PackOrder_o2_1 : List VO := ⟨(some 1), none, (.mv (.t 17))⟩ :: []
def vc_law02_PackOrder_o2 : List VO := ⟨(some 14), none, (.mv (.t 0))⟩ :: ⟨(some 15), none, (.mm true (.t 14) (.c (.val (.int .i64 0))))⟩ :: ⟨none, none, .kp [1, 15]⟩ :: ⟨(some 16), none, (.mv (.t 1))⟩ :: ⟨(some 17), none, (.mm true (.t 16) (.c (.val (.int .i64 0))))⟩ :: ⟨none, none, .kp [15, 17]⟩ :: ⟨(some 0), none, (.mv (.t 15))⟩ :: vc_law02_PackOrder_o2_1
def vc_law02_PackOrder_r2 : VCode := (.keep [0, 1] (.seq (.region false vc_law02_PackOrder_o2) vc_law02_PackOrder_r1))
def vc_law02_PackOrder_o3 : List VO := ⟨(some 4), none, (.mv (.c (.val (.bool false))))⟩ :: []
def vc_law02_PackOrder_c3 : VCode := (.seq (.region false vc_law02_PackOrder_o3) (.keep [4] .ret))
def vc_law02_PackOrder_r4 : VCode := (.keep [0, 1, 13] (.cond (.t 13) vc_law02_PackOrder_c3 .skip))
def vc_law02_PackOrder_o4_1 : List VO := ⟨(some 10), none, (.mv (.t 0))⟩ :: ⟨(some 11), none, (.mv (.t 1))⟩ :: ⟨(some 12), none, (.call 38 [] [(.t 10), (.t 11)])⟩ :: ⟨none, none, .kp [0, 1, 9, 12]⟩ :: ⟨(some 13), none, (.bin .neq (.t 9) (.t 12))⟩ :: []
def vc_law02_PackOrder_o4 : List VO := ⟨(some 5), none, (.mv (.t 0))⟩ :: ⟨(some 6), none, (.call 28 [] [(.c (.val (.slice none 0 0))), (.t 5)])⟩ :: ⟨(some 7), none, (.mv (.t 1))⟩ :: ⟨(some 8), none, (.call 28 [] [(.c (.val (.slice none 0 0))), (.t 7)])⟩ :: ⟨none, none, .kp [0, 1, 6, 8]⟩ :: ⟨(some 9), none, (.call 37 [] [(.t 6), (.t 8)])⟩ :: ⟨none, none, .kp [0, 1, 9]⟩ :: vc_law02_PackOrder_o4_1
def vc_law02_PackOrder_r5 : VCode := (.keep [0, 1] (.seq (.seq (.region false vc_law02_PackOrder_o4) vc_law02_PackOrder_r4) vc_law02_PackOrder_r2))
def vc_law02_PackOrder_o5 : List VO := ⟨(some 4), none, (.mv (.c (.val (.bool false))))⟩ :: []
def vc_law02_PackOrder : VCode := (.seq (.region false vc_law02_PackOrder_o5) vc_law02_PackOrder_r5)
def rs_law02_PackOrder : List RV := [(.t 4)]
theorem comp_law02_PackOrder : ccode Try.prog (Try.f6.body.getD .skip) = some (strip vc_law02_PackOrder) := by kernel_rfl
theorem code_law02_PackOrder : IsCode Try.prog id_law02_PackOrder 30 vc_law02_PackOrder rs_law02_PackOrder := ⟨_, _, Try.func6, by kernel_rfl, rfl, comp_law02_PackOrder, by kernel_rfl, by kernel_rfl, rfl⟩

/- usher/usherlaw02.PackNobody -/
def vc_law02_PackNobody_o1 : List VO := ⟨(some 55), none, (.call 36 [] [])⟩ :: ⟨(some 2), none, (.mv (.t 55))⟩ :: []
def vc_law02_PackNobody_r1 : VCode := (.keep [] (.seq (.region false vc_law02_PackNobody_o1) (.keep [2] .ret)))
def vc_law02_PackNobody_o2 : List VO := ⟨(some 54), none, (.bin .add (.t 9) (.c (.val (.int .i64 1))))⟩ :: ⟨(some 9), none, (.mv (.t 54))⟩ :: []
def vc_law02_PackNobody_r2 : VCode := (.keep [0, 7, 8, 9] (.region false vc_law02_PackNobody_o2))
def vc_law02_PackNobody_o3 : List VO := ⟨(some 2), none, (.mv (.c (.val (.bool false))))⟩ :: []
def vc_law02_PackNobody_c3 : VCode := (.seq (.region false vc_law02_PackNobody_o3) (.keep [2] .ret))
def vc_law02_PackNobody_r4 : VCode := (.keep [0, 7, 8, 9, 53] (.cond (.t 53) vc_law02_PackNobody_c3 .skip))
def vc_law02_PackNobody_o4_7 : List VO := ⟨(some 50), (some (49, false)), (.mv (.t 4))⟩ :: ⟨none, none, .kp [0, 7, 8, 9, 49, 50]⟩ :: ⟨(some 51), (some (49, false)), (.call 59 [] [(.t 50)])⟩ :: ⟨(some 52), (some (49, false)), (.bin .neq (.t 51) (.c (.val (.int .i64 2))))⟩ :: ⟨none, none, .kp [0, 7, 8, 9, 49, 52]⟩ :: ⟨(some 53), none, (.pick (.t 49) (.c (.val (.bool true))) (.t 52))⟩ :: []
def vc_law02_PackNobody_o4_6 : List VO := ⟨(some 45), (some (44, false)), (.mv (.t 4))⟩ :: ⟨(some 46), (some (44, false)), (.call 58 [] [(.t 45)])⟩ :: ⟨none, none, .kp [0, 4, 7, 8, 9, 44, 46]⟩ :: ⟨(some 47), (some (44, false)), (.bin .neq (.t 46) (.c (.val (.int .i64 2))))⟩ :: ⟨(some 48), none, (.pick (.t 44) (.c (.val (.bool true))) (.t 47))⟩ :: ⟨none, none, .kp [0, 4, 7, 8, 9, 48]⟩ :: ⟨(some 49), none, (.mv (.t 48))⟩ :: vc_law02_PackNobody_o4_7
def vc_law02_PackNobody_o4_5 : List VO := ⟨(some 40), (some (39, false)), (.mv (.t 4))⟩ :: ⟨(some 41), (some (39, false)), (.call 57 [] [(.t 40)])⟩ :: ⟨none, none, .kp [0, 4, 7, 8, 9, 39, 41]⟩ :: ⟨(some 42), (some (39, false)), (.bin .neq (.t 41) (.c (.val (.int .i64 0))))⟩ :: ⟨(some 43), none, (.pick (.t 39) (.c (.val (.bool true))) (.t 42))⟩ :: ⟨none, none, .kp [0, 4, 7, 8, 9, 43]⟩ :: ⟨(some 44), none, (.mv (.t 43))⟩ :: vc_law02_PackNobody_o4_6
def vc_law02_PackNobody_o4_4 : List VO := ⟨(some 35), none, (.mv (.t 34))⟩ :: ⟨(some 36), (some (35, false)), (.mv (.t 4))⟩ :: ⟨(some 37), (some (35, false)), (.call 56 [] [(.t 36)])⟩ :: ⟨none, none, .kp [0, 4, 7, 8, 9, 35, 37]⟩ :: ⟨(some 38), none, (.pick (.t 35) (.c (.val (.bool true))) (.t 37))⟩ :: ⟨none, none, .kp [0, 4, 7, 8, 9, 38]⟩ :: ⟨(some 39), none, (.mv (.t 38))⟩ :: vc_law02_PackNobody_o4_5
def vc_law02_PackNobody_o4_3 : List VO := ⟨(some 30), (some (29, false)), (.mv (.t 4))⟩ :: ⟨(some 31), (some (29, false)), (.mv (.t 0))⟩ :: ⟨(some 32), (some (29, false)), (.call 55 [] [(.t 30), (.t 31)])⟩ :: ⟨none, none, .kp [0, 4, 7, 8, 9, 29, 32]⟩ :: ⟨(some 33), (some (29, false)), (.bin .neq (.t 32) (.c (.val (.string ⟨#[]⟩))))⟩ :: ⟨(some 34), none, (.pick (.t 29) (.c (.val (.bool true))) (.t 33))⟩ :: ⟨none, none, .kp [0, 4, 7, 8, 9, 34]⟩ :: vc_law02_PackNobody_o4_4
def vc_law02_PackNobody_o4_2 : List VO := ⟨(some 25), (some (24, false)), (.mv (.t 4))⟩ :: ⟨(some 26), (some (24, false)), (.call 54 [] [(.t 25)])⟩ :: ⟨none, none, .kp [0, 4, 7, 8, 9, 24, 26]⟩ :: ⟨(some 27), (some (24, false)), (.bin .neq (.t 26) (.c (.val (.int .u64 0))))⟩ :: ⟨(some 28), none, (.pick (.t 24) (.c (.val (.bool true))) (.t 27))⟩ :: ⟨none, none, .kp [0, 4, 7, 8, 9, 28]⟩ :: ⟨(some 29), none, (.mv (.t 28))⟩ :: vc_law02_PackNobody_o4_3
def vc_law02_PackNobody_o4_1 : List VO := ⟨(some 20), (some (19, false)), (.mv (.t 4))⟩ :: ⟨(some 21), (some (19, false)), (.call 53 [] [(.t 20)])⟩ :: ⟨(some 22), (some (19, false)), (.bin .neq (.t 21) (.c (.val (.int .i64 0))))⟩ :: ⟨none, none, .kp [0, 4, 7, 8, 9, 19, 22]⟩ :: ⟨(some 23), none, (.pick (.t 19) (.c (.val (.bool true))) (.t 22))⟩ :: ⟨none, none, .kp [0, 4, 7, 8, 9, 23]⟩ :: ⟨(some 24), none, (.mv (.t 23))⟩ :: vc_law02_PackNobody_o4_2
def vc_law02_PackNobody_o4 : List VO := ⟨(some 15), none, (.mv (.t 4))⟩ :: ⟨(some 16), none, (.mv (.t 0))⟩ :: ⟨(some 17), none, (.call 52 [] [(.t 15), (.t 16)])⟩ :: ⟨none, none, .kp [0, 4, 7, 8, 9, 17]⟩ :: ⟨(some 18), none, (.bin .neq (.t 17) (.c (.val (.int .i64 0))))⟩ :: ⟨(some 19), none, (.mv (.t 18))⟩ :: ⟨none, none, .kp [0, 4, 7, 8, 9, 19]⟩ :: vc_law02_PackNobody_o4_1
def vc_law02_PackNobody_r5 : VCode := (.keep [0, 4, 7, 8, 9] (.seq (.region false vc_law02_PackNobody_o4) vc_law02_PackNobody_r4))
def vc_law02_PackNobody_o5 : List VO := ⟨(some 13), none, (.mv (.t 4))⟩ :: ⟨(some 14), none, (.call 51 [] [(.t 13), (.c (.val (.int .i64 3)))])⟩ :: []
def vc_law02_PackNobody_r6 : VCode := (.keep [0, 4, 7, 8, 9] (.seq (.region false vc_law02_PackNobody_o5) vc_law02_PackNobody_r5))
def vc_law02_PackNobody_o6 : List VO := ⟨(some 11), none, (.idx 1 (.t 7) (.t 9))⟩ :: ⟨(some 12), none, (.load false 1 (.t 11))⟩ :: ⟨(some 4), none, (.mv (.t 12))⟩ :: []
def vc_law02_PackNobody_c7 : VCode := (.seq (.region false vc_law02_PackNobody_o6) vc_law02_PackNobody_r6)
def vc_law02_PackNobody_r8 : VCode := (.keep [0, 7, 8, 9] (.seq (.block 1 vc_law02_PackNobody_c7) vc_law02_PackNobody_r2))
def vc_law02_PackNobody_r9 : VCode := (.keep [0, 7, 8, 9, 10] (.seq (.cond (.t 10) .skip (.exit 0)) vc_law02_PackNobody_r8))
def vc_law02_PackNobody_o7 : List VO := ⟨(some 10), none, (.bin .lss (.t 9) (.t 8))⟩ :: []
def vc_law02_PackNobody_l10 : VCode := (.seq (.region false vc_law02_PackNobody_o7) vc_law02_PackNobody_r9)
def vc_law02_PackNobody_r11 : VCode := (.keep [0, 7, 8, 9] (.block 0 (.loop (.keep [0, 7, 8, 9] vc_law02_PackNobody_l10))))
def vc_law02_PackNobody_o8 : List VO := ⟨(some 5), none, (.build [(.val (.slice none 0 0)), (.val (.int .i64 0)), (.val (.bool false))] [])⟩ :: ⟨(some 6), none, (.box 56 (.t 5))⟩ :: ⟨(some 7), none, (.lit true 54 1 2 [(.val (.pointer none)), (.val (.pointer none))] [(0, (1, (.c (.val (.pointer none))))), (1, (1, (.t 6)))])⟩ :: ⟨none, none, .kp [0, 7]⟩ :: ⟨(some 8), none, (.len (.t 7))⟩ :: ⟨(some 9), none, (.mv (.c (.val (.int .i64 0))))⟩ :: []
def vc_law02_PackNobody_r12 : VCode := (.keep [0] (.seq (.seq (.region false vc_law02_PackNobody_o8) vc_law02_PackNobody_r11) vc_law02_PackNobody_r1))
def vc_law02_PackNobody_o9 : List VO := ⟨(some 2), none, (.mv (.c (.val (.bool false))))⟩ :: []
def vc_law02_PackNobody : VCode := (.seq (.region false vc_law02_PackNobody_o9) vc_law02_PackNobody_r12)
def rs_law02_PackNobody : List RV := [(.t 2)]
theorem comp_law02_PackNobody : ccode Try.prog (Try.f11.body.getD .skip) = some (strip vc_law02_PackNobody) := by kernel_rfl
theorem code_law02_PackNobody : IsCode Try.prog id_law02_PackNobody 56 vc_law02_PackNobody rs_law02_PackNobody := ⟨_, _, Try.func11, by kernel_rfl, rfl, comp_law02_PackNobody, by kernel_rfl, by kernel_rfl, rfl⟩

/- usher/usherlaw02.PackBack -/
def vc_law02_PackBack_o1_2 : List VO := ⟨(some 12), none, (.mv (.t 86))⟩ :: []
def vc_law02_PackBack_o1_1 : List VO := ⟨(some 82), none, (.bin .eql (.t 81) (.c (.val (.int .i64 0))))⟩ :: ⟨none, none, .kp [79, 82]⟩ :: ⟨(some 83), none, (.beq false (.t 79) (.t 82))⟩ :: ⟨none, none, .kp [83]⟩ :: ⟨(some 84), none, (.mv (.t 83))⟩ :: ⟨(some 85), (some (84, true)), (.call 36 [] [])⟩ :: ⟨(some 86), none, (.pick (.t 84) (.t 85) (.c (.val (.bool false))))⟩ :: ⟨none, none, .kp [86]⟩ :: vc_law02_PackBack_o1_2
def vc_law02_PackBack_o1 : List VO := ⟨(some 77), none, (.mv (.t 14))⟩ :: ⟨(some 78), none, (.call 59 [] [(.t 77)])⟩ :: ⟨none, none, .kp [5, 78]⟩ :: ⟨(some 79), none, (.bin .eql (.t 78) (.c (.val (.int .i64 0))))⟩ :: ⟨(some 80), none, (.mv (.t 5))⟩ :: ⟨none, none, .kp [79, 80]⟩ :: ⟨(some 81), none, (.len (.t 80))⟩ :: vc_law02_PackBack_o1_1
def vc_law02_PackBack_r1 : VCode := (.keep [5, 14] (.seq (.region false vc_law02_PackBack_o1) (.keep [12] .ret)))
def vc_law02_PackBack_o2 : List VO := ⟨(some 12), none, (.mv (.c (.val (.bool false))))⟩ :: []
def vc_law02_PackBack_c2 : VCode := (.seq (.region false vc_law02_PackBack_o2) (.keep [12] .ret))
def vc_law02_PackBack_r3 : VCode := (.keep [5, 14, 76] (.cond (.t 76) vc_law02_PackBack_c2 .skip))
def vc_law02_PackBack_o3_8 : List VO := ⟨(some 76), none, (.pick (.t 70) (.c (.val (.bool true))) (.t 75))⟩ :: []
def vc_law02_PackBack_o3_7 : List VO := ⟨(some 71), (some (70, false)), (.mv (.t 14))⟩ :: ⟨(some 72), (some (70, false)), (.call 57 [] [(.t 71)])⟩ :: ⟨none, none, .kp [5, 14, 70, 72]⟩ :: ⟨(some 73), (some (70, false)), (.mv (.t 5))⟩ :: ⟨(some 74), (some (70, false)), (.len (.t 73))⟩ :: ⟨(some 75), (some (70, false)), (.bin .neq (.t 72) (.t 74))⟩ :: ⟨none, none, .kp [5, 14, 70, 75]⟩ :: vc_law02_PackBack_o3_8
def vc_law02_PackBack_o3_6 : List VO := ⟨(some 66), (some (65, false)), (.mv (.t 14))⟩ :: ⟨(some 67), (some (65, false)), (.call 58 [] [(.t 66)])⟩ :: ⟨none, none, .kp [5, 14, 65, 67]⟩ :: ⟨(some 68), (some (65, false)), (.bin .neq (.t 67) (.c (.val (.int .i64 0))))⟩ :: ⟨(some 69), none, (.pick (.t 65) (.c (.val (.bool true))) (.t 68))⟩ :: ⟨none, none, .kp [5, 14, 69]⟩ :: ⟨(some 70), none, (.mv (.t 69))⟩ :: vc_law02_PackBack_o3_7
def vc_law02_PackBack_o3_5 : List VO := ⟨(some 61), (some (59, false)), (.call 56 [] [(.t 60)])⟩ :: ⟨none, none, .kp [4, 5, 14, 59, 61]⟩ :: ⟨(some 62), (some (59, false)), (.mv (.t 4))⟩ :: ⟨(some 63), (some (59, false)), (.beq true (.t 61) (.t 62))⟩ :: ⟨none, none, .kp [5, 14, 59, 63]⟩ :: ⟨(some 64), none, (.pick (.t 59) (.c (.val (.bool true))) (.t 63))⟩ :: ⟨none, none, .kp [5, 14, 64]⟩ :: ⟨(some 65), none, (.mv (.t 64))⟩ :: vc_law02_PackBack_o3_6
def vc_law02_PackBack_o3_4 : List VO := ⟨(some 56), (some (53, false)), (.mv (.t 3))⟩ :: ⟨(some 57), (some (53, false)), (.bin .neq (.t 55) (.t 56))⟩ :: ⟨none, none, .kp [4, 5, 14, 53, 57]⟩ :: ⟨(some 58), none, (.pick (.t 53) (.c (.val (.bool true))) (.t 57))⟩ :: ⟨none, none, .kp [4, 5, 14, 58]⟩ :: ⟨(some 59), none, (.mv (.t 58))⟩ :: ⟨(some 60), (some (59, false)), (.mv (.t 14))⟩ :: vc_law02_PackBack_o3_5
def vc_law02_PackBack_o3_3 : List VO := ⟨(some 51), (some (47, false)), (.bin .neq (.t 49) (.t 50))⟩ :: ⟨none, none, .kp [3, 4, 5, 14, 47, 51]⟩ :: ⟨(some 52), none, (.pick (.t 47) (.c (.val (.bool true))) (.t 51))⟩ :: ⟨none, none, .kp [3, 4, 5, 14, 52]⟩ :: ⟨(some 53), none, (.mv (.t 52))⟩ :: ⟨(some 54), (some (53, false)), (.mv (.t 14))⟩ :: ⟨(some 55), (some (53, false)), (.call 55 [] [(.t 54), (.c (.val (.int .i64 3000)))])⟩ :: ⟨none, none, .kp [3, 4, 5, 14, 53, 55]⟩ :: vc_law02_PackBack_o3_4
def vc_law02_PackBack_o3_2 : List VO := ⟨(some 46), none, (.pick (.t 41) (.c (.val (.bool true))) (.t 45))⟩ :: ⟨none, none, .kp [2, 3, 4, 5, 14, 46]⟩ :: ⟨(some 47), none, (.mv (.t 46))⟩ :: ⟨(some 48), (some (47, false)), (.mv (.t 14))⟩ :: ⟨(some 49), (some (47, false)), (.call 54 [] [(.t 48)])⟩ :: ⟨none, none, .kp [2, 3, 4, 5, 14, 47, 49]⟩ :: ⟨(some 50), (some (47, false)), (.mv (.t 2))⟩ :: vc_law02_PackBack_o3_3
def vc_law02_PackBack_o3_1 : List VO := ⟨(some 41), none, (.mv (.t 40))⟩ :: ⟨(some 42), (some (41, false)), (.mv (.t 14))⟩ :: ⟨(some 43), (some (41, false)), (.call 53 [] [(.t 42)])⟩ :: ⟨none, none, .kp [1, 2, 3, 4, 5, 14, 41, 43]⟩ :: ⟨(some 44), (some (41, false)), (.mv (.t 1))⟩ :: ⟨(some 45), (some (41, false)), (.bin .neq (.t 43) (.t 44))⟩ :: ⟨none, none, .kp [2, 3, 4, 5, 14, 41, 45]⟩ :: vc_law02_PackBack_o3_2
def vc_law02_PackBack_o3 : List VO := ⟨(some 36), none, (.mv (.t 14))⟩ :: ⟨(some 37), none, (.mv (.t 0))⟩ :: ⟨(some 38), none, (.call 52 [] [(.t 36), (.t 37)])⟩ :: ⟨none, none, .kp [0, 1, 2, 3, 4, 5, 14, 38]⟩ :: ⟨(some 39), none, (.mv (.t 0))⟩ :: ⟨(some 40), none, (.bin .neq (.t 38) (.t 39))⟩ :: ⟨none, none, .kp [1, 2, 3, 4, 5, 14, 40]⟩ :: vc_law02_PackBack_o3_1
def vc_law02_PackBack_r4 : VCode := (.keep [0, 1, 2, 3, 4, 5, 14] (.seq (.seq (.region false vc_law02_PackBack_o3) vc_law02_PackBack_r3) vc_law02_PackBack_r1))
def vc_law02_PackBack_o4 : List VO := ⟨(some 34), none, (.mv (.t 13))⟩ :: ⟨none, none, .frz (.t 34)⟩ :: ⟨(some 35), none, (.call 60 [] [(.t 34)])⟩ :: ⟨none, none, .kp [0, 1, 2, 3, 4, 5, 35]⟩ :: ⟨(some 14), none, (.mv (.t 35))⟩ :: []
def vc_law02_PackBack_r5 : VCode := (.keep [0, 1, 2, 3, 4, 5, 13] (.seq (.region false vc_law02_PackBack_o4) vc_law02_PackBack_r4))
def vc_law02_PackBack_o5_2 : List VO := ⟨(some 32), none, (.mv (.t 5))⟩ :: ⟨(some 33), none, (.app 5 1 1 (.t 31) (.t 32))⟩ :: ⟨none, none, .kp [0, 1, 2, 3, 4, 5, 33]⟩ :: ⟨(some 13), none, (.mv (.t 33))⟩ :: []
def vc_law02_PackBack_o5_1 : List VO := ⟨(some 27), none, (.call 30 [] [(.t 25), (.t 26)])⟩ :: ⟨none, none, .kp [0, 1, 2, 3, 4, 5, 27]⟩ :: ⟨(some 28), none, (.mv (.t 3))⟩ :: ⟨(some 29), none, (.call 32 [] [(.t 27), (.t 28)])⟩ :: ⟨none, none, .kp [0, 1, 2, 3, 4, 5, 29]⟩ :: ⟨(some 30), none, (.mv (.t 4))⟩ :: ⟨(some 31), none, (.call 34 [] [(.t 29), (.t 30)])⟩ :: ⟨none, none, .kp [0, 1, 2, 3, 4, 5, 31]⟩ :: vc_law02_PackBack_o5_2
def vc_law02_PackBack_o5 : List VO := ⟨(some 22), none, (.mv (.t 0))⟩ :: ⟨(some 23), none, (.call 26 [] [(.c (.val (.slice none 0 0))), (.t 22)])⟩ :: ⟨(some 24), none, (.mv (.t 1))⟩ :: ⟨(some 25), none, (.call 28 [] [(.t 23), (.t 24)])⟩ :: ⟨none, none, .kp [0, 1, 2, 3, 4, 5, 25]⟩ :: ⟨(some 26), none, (.mv (.t 2))⟩ :: vc_law02_PackBack_o5_1
def vc_law02_PackBack_r6 : VCode := (.keep [0, 1, 2, 3, 4, 5] (.seq (.region false vc_law02_PackBack_o5) vc_law02_PackBack_r5))
def vc_law02_PackBack_o6_1 : List VO := ⟨(some 3), none, (.mv (.t 21))⟩ :: []
def vc_law02_PackBack_o6 : List VO := ⟨(some 17), none, (.mv (.t 3))⟩ :: ⟨(some 18), none, (.mv (.t 3))⟩ :: ⟨(some 19), none, (.lenS (.t 18))⟩ :: ⟨none, none, .kp [0, 1, 2, 4, 5, 17, 19]⟩ :: ⟨(some 20), none, (.mm false (.t 19) (.c (.val (.int .i64 3000))))⟩ :: ⟨(some 21), none, (.cutS (.t 17) none (some (.t 20)))⟩ :: ⟨none, none, .kp [0, 1, 2, 4, 5, 21]⟩ :: vc_law02_PackBack_o6_1
def vc_law02_PackBack_r7 : VCode := (.keep [0, 1, 2, 3, 4, 5] (.seq (.region false vc_law02_PackBack_o6) vc_law02_PackBack_r6))
def vc_law02_PackBack_o7 : List VO := ⟨(some 15), none, (.mv (.t 0))⟩ :: ⟨(some 16), none, (.mm true (.t 15) (.c (.val (.int .i64 0))))⟩ :: ⟨none, none, .kp [1, 2, 3, 4, 5, 16]⟩ :: ⟨(some 0), none, (.mv (.t 16))⟩ :: []
def vc_law02_PackBack_r8 : VCode := (.keep [0, 1, 2, 3, 4, 5] (.seq (.region false vc_law02_PackBack_o7) vc_law02_PackBack_r7))
def vc_law02_PackBack_o8 : List VO := ⟨(some 12), none, (.mv (.c (.val (.bool false))))⟩ :: []
def vc_law02_PackBack : VCode := (.seq (.region false vc_law02_PackBack_o8) vc_law02_PackBack_r8)
def rs_law02_PackBack : List RV := [(.t 12)]
theorem comp_law02_PackBack : ccode Try.prog (Try.f12.body.getD .skip) = some (strip vc_law02_PackBack) := by kernel_rfl
theorem code_law02_PackBack : IsCode Try.prog id_law02_PackBack 87 vc_law02_PackBack rs_law02_PackBack := ⟨_, _, Try.func12, by kernel_rfl, rfl, comp_law02_PackBack, by kernel_rfl, by kernel_rfl, rfl⟩

/- usher/usherlaw02.awake -/
def vc_law02_awake_o1 : List VO := ⟨(some 1), none, (.call 26 [] [(.c (.val (.slice none 0 0))), (.c (.val (.int .i64 256)))])⟩ :: ⟨(some 2), none, (.lit false 5 1 3 [(.val (.int .u8 0)), (.val (.int .u8 0)), (.val (.int .u8 0))] [(0, (1, (.c (.val (.int .u8 241))))), (1, (1, (.c (.val (.int .u8 1))))), (2, (1, (.c (.val (.int .u8 0)))))])⟩ :: ⟨(some 3), none, (.call 25 [] [(.t 1), (.t 2)])⟩ :: ⟨none, none, .kp [3]⟩ :: ⟨(some 0), none, (.mv (.t 3))⟩ :: []
def vc_law02_awake_r1 : VCode := (.keep [] (.seq (.region false vc_law02_awake_o1) (.keep [0] .ret)))
def vc_law02_awake_o2 : List VO := ⟨(some 0), none, (.mv (.c (.val (.bool false))))⟩ :: []
def vc_law02_awake : VCode := (.seq (.region false vc_law02_awake_o2) vc_law02_awake_r1)
def rs_law02_awake : List RV := [(.t 0)]
theorem comp_law02_awake : ccode Try.prog (Try.f36.body.getD .skip) = some (strip vc_law02_awake) := by kernel_rfl
theorem code_law02_awake : IsCode Try.prog id_law02_awake 4 vc_law02_awake rs_law02_awake := ⟨_, _, Try.func36, by kernel_rfl, rfl, comp_law02_awake, by kernel_rfl, by kernel_rfl, rfl⟩

end Go.Proofs.Ytdjgfjnnafddnaa
