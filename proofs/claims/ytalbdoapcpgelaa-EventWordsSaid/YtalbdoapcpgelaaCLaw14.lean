/- The code of functions, for the abstract machine, and that it is theirs. Printed by vc2.py. -/
import Derived.Test.YtalbdoapcpgelaaIds
set_option linter.unusedVariables false
set_option maxRecDepth 100000
namespace Go.Proofs.Ytalbdoapcpgelaa
open Go Go.Vm

/- usher/usherlaw14.EventWords -/
def vc_law14_EventWords_o1_3 : List VO := ⟨(some 2), none, (.mv (.t 34))⟩ :: []
def vc_law14_EventWords_o1_2 : List VO := ⟨(some 30), (some (25, true)), (.bin .eql (.t 27) (.t 29))⟩ :: ⟨none, none, .kp [25, 30]⟩ :: ⟨(some 31), none, (.pick (.t 25) (.t 30) (.c (.val (.bool false))))⟩ :: ⟨none, none, .kp [31]⟩ :: ⟨(some 32), none, (.mv (.t 31))⟩ :: ⟨(some 33), (some (32, true)), (.call 51 [] [])⟩ :: ⟨(some 34), none, (.pick (.t 32) (.t 33) (.c (.val (.bool false))))⟩ :: ⟨none, none, .kp [34]⟩ :: vc_law14_EventWords_o1_3
def vc_law14_EventWords_o1_1 : List VO := ⟨(some 25), none, (.mv (.t 24))⟩ :: ⟨(some 26), (some (25, true)), (.mv (.t 0))⟩ :: ⟨(some 27), (some (25, true)), (.call 49 [] [(.t 26)])⟩ :: ⟨none, none, .kp [0, 25, 27]⟩ :: ⟨(some 28), (some (25, true)), (.mv (.t 0))⟩ :: ⟨(some 29), (some (25, true)), (.call 50 [] [(.t 28)])⟩ :: ⟨none, none, .kp [25, 27, 29]⟩ :: vc_law14_EventWords_o1_2
def vc_law14_EventWords_o1 : List VO := ⟨(some 20), none, (.mv (.t 0))⟩ :: ⟨(some 21), none, (.call 47 [] [(.t 20)])⟩ :: ⟨(some 22), none, (.mv (.t 0))⟩ :: ⟨(some 23), none, (.call 48 [] [(.t 22)])⟩ :: ⟨none, none, .kp [0, 21, 23]⟩ :: ⟨(some 24), none, (.beq false (.t 21) (.t 23))⟩ :: ⟨none, none, .kp [0, 24]⟩ :: vc_law14_EventWords_o1_1
def vc_law14_EventWords_r1 : VCode := (.keep [0] (.seq (.region false vc_law14_EventWords_o1) (.keep [2] .ret)))
def vc_law14_EventWords_o2 : List VO := ⟨(some 19), none, (.bin .add (.t 4) (.c (.val (.int .i64 1))))⟩ :: ⟨(some 4), none, (.mv (.t 19))⟩ :: []
def vc_law14_EventWords_r2 : VCode := (.keep [0, 4] (.region false vc_law14_EventWords_o2))
def vc_law14_EventWords_o3 : List VO := ⟨(some 2), none, (.mv (.c (.val (.bool false))))⟩ :: []
def vc_law14_EventWords_c3 : VCode := (.seq (.region false vc_law14_EventWords_o3) (.keep [2] .ret))
def vc_law14_EventWords_r4 : VCode := (.keep [0, 4, 18] (.cond (.t 18) vc_law14_EventWords_c3 .skip))
def vc_law14_EventWords_o4_2 : List VO := ⟨(some 17), (some (12, false)), (.bin .neq (.t 14) (.t 16))⟩ :: ⟨none, none, .kp [0, 4, 12, 17]⟩ :: ⟨(some 18), none, (.pick (.t 12) (.c (.val (.bool true))) (.t 17))⟩ :: []
def vc_law14_EventWords_o4_1 : List VO := ⟨(some 12), none, (.mv (.t 11))⟩ :: ⟨(some 13), (some (12, false)), (.mv (.t 3))⟩ :: ⟨(some 14), (some (12, false)), (.call 49 [] [(.t 13)])⟩ :: ⟨none, none, .kp [0, 3, 4, 12, 14]⟩ :: ⟨(some 15), (some (12, false)), (.mv (.t 3))⟩ :: ⟨(some 16), (some (12, false)), (.call 50 [] [(.t 15)])⟩ :: ⟨none, none, .kp [0, 4, 12, 14, 16]⟩ :: vc_law14_EventWords_o4_2
def vc_law14_EventWords_o4 : List VO := ⟨(some 7), none, (.mv (.t 3))⟩ :: ⟨(some 8), none, (.call 47 [] [(.t 7)])⟩ :: ⟨(some 9), none, (.mv (.t 3))⟩ :: ⟨(some 10), none, (.call 48 [] [(.t 9)])⟩ :: ⟨none, none, .kp [0, 3, 4, 8, 10]⟩ :: ⟨(some 11), none, (.beq true (.t 8) (.t 10))⟩ :: ⟨none, none, .kp [0, 3, 4, 11]⟩ :: vc_law14_EventWords_o4_1
def vc_law14_EventWords_r5 : VCode := (.keep [0, 3, 4] (.seq (.region false vc_law14_EventWords_o4) vc_law14_EventWords_r4))
def vc_law14_EventWords_o5 : List VO := ⟨(some 6), none, (.mv (.t 4))⟩ :: ⟨(some 3), none, (.mv (.t 6))⟩ :: []
def vc_law14_EventWords_c6 : VCode := (.seq (.region false vc_law14_EventWords_o5) vc_law14_EventWords_r5)
def vc_law14_EventWords_r7 : VCode := (.keep [0, 4] (.seq (.block 1 vc_law14_EventWords_c6) vc_law14_EventWords_r2))
def vc_law14_EventWords_r8 : VCode := (.keep [0, 4, 5] (.seq (.cond (.t 5) .skip (.exit 0)) vc_law14_EventWords_r7))
def vc_law14_EventWords_o6 : List VO := ⟨(some 5), none, (.bin .lss (.t 4) (.c (.val (.int .i64 25))))⟩ :: []
def vc_law14_EventWords_l9 : VCode := (.seq (.region false vc_law14_EventWords_o6) vc_law14_EventWords_r8)
def vc_law14_EventWords_r10 : VCode := (.keep [0, 4] (.block 0 (.loop (.keep [0, 4] vc_law14_EventWords_l9))))
def vc_law14_EventWords_o7 : List VO := ⟨(some 4), none, (.mv (.c (.val (.int .i64 0))))⟩ :: []
def vc_law14_EventWords_r11 : VCode := (.keep [0] (.seq (.seq (.region false vc_law14_EventWords_o7) vc_law14_EventWords_r10) vc_law14_EventWords_r1))
def vc_law14_EventWords_o8 : List VO := ⟨(some 2), none, (.mv (.c (.val (.bool false))))⟩ :: []
def vc_law14_EventWords : VCode := (.seq (.region false vc_law14_EventWords_o8) vc_law14_EventWords_r11)
def rs_law14_EventWords : List RV := [(.t 2)]
theorem comp_law14_EventWords : ccode Try.prog (Try.f10.body.getD .skip) = some (strip vc_law14_EventWords) := by kernel_rfl
theorem code_law14_EventWords : IsCode Try.prog id_law14_EventWords 35 vc_law14_EventWords rs_law14_EventWords := ⟨_, _, Try.func10, by kernel_rfl, rfl, comp_law14_EventWords, by kernel_rfl, by kernel_rfl, rfl⟩

/- usher/usherlaw14.EventChecks -/
def vc_law14_EventChecks_d1 : DT := (.op true [] ⟨(some 25), none, (.mv (.t 24))⟩ (.op false [2, 3] ⟨(some 26), (some (25, true)), (.call 51 [] [])⟩ (.op true [] ⟨(some 27), none, (.pick (.t 25) (.t 26) (.c (.val (.bool false))))⟩ (.op true [] ⟨(some 4), none, (.mv (.t 27))⟩ .done))))
def vc_law14_EventChecks_d2 : DT := (.op true [2] ⟨(some 21), (some (19, true)), (.load true 13 (.t 2))⟩ (.op false [2, 3] ⟨(some 22), (some (19, true)), (.call 55 [] [(.t 21)])⟩ (.op false [2, 3] ⟨(some 23), (some (19, true)), (.call 54 [] [(.t 20), (.t 22)])⟩ (.op true [] ⟨(some 24), none, (.pick (.t 19) (.t 23) (.c (.val (.bool false))))⟩ vc_law14_EventChecks_d1))))
def vc_law14_EventChecks_d3 : DT := (.op true [] ⟨(some 17), (some (10, true)), (.beq false (.t 13) (.t 16))⟩ (.op true [] ⟨(some 18), none, (.pick (.t 10) (.t 17) (.c (.val (.bool false))))⟩ (.op true [] ⟨(some 19), none, (.mv (.t 18))⟩ (.op true [2] ⟨(some 20), (some (19, true)), (.load true 13 (.t 2))⟩ vc_law14_EventChecks_d2))))
def vc_law14_EventChecks_d4 : DT := (.op true [2] ⟨(some 14), (some (10, true)), (.load true 13 (.t 2))⟩ (.op true [3] ⟨(some 15), (some (10, true)), (.load true 13 (.t 3))⟩ (.op false [2, 3] ⟨(some 13), (some (10, true)), (.call 54 [] [(.t 11), (.t 12)])⟩ (.op false [2, 3] ⟨(some 16), (some (10, true)), (.call 18 [] [(.t 14), (.t 15)])⟩ vc_law14_EventChecks_d3))))
def vc_law14_EventChecks_d5 : DT := (.op true [] ⟨(some 9), none, (.bin .eql (.t 6) (.t 8))⟩ (.op true [] ⟨(some 10), none, (.mv (.t 9))⟩ (.op true [2] ⟨(some 11), (some (10, true)), (.load true 13 (.t 2))⟩ (.op true [3] ⟨(some 12), (some (10, true)), (.load true 13 (.t 3))⟩ vc_law14_EventChecks_d4))))
def vc_law14_EventChecks_d6 : DT := (.op true [2] ⟨(some 5), none, (.load true 13 (.t 2))⟩ (.op true [2] ⟨(some 7), none, (.load true 13 (.t 2))⟩ (.op false [2, 3] ⟨(some 6), none, (.call 52 [] [(.t 5)])⟩ (.op false [2, 3] ⟨(some 8), none, (.call 53 [] [(.t 7)])⟩ vc_law14_EventChecks_d5))))
def vc_law14_EventChecks_r1 : VCode := (.keep [2, 3] (.seq (.draws [4] vc_law14_EventChecks_d6) (.keep [4] .ret)))
def vc_law14_EventChecks_o7 : List VO := ⟨(some 2), none, (.box 36 (.t 0))⟩ :: ⟨(some 3), none, (.box 36 (.t 1))⟩ :: ⟨none, none, .kp [2, 3]⟩ :: ⟨(some 4), none, (.mv (.c (.val (.bool false))))⟩ :: []
def vc_law14_EventChecks : VCode := (.seq (.region false vc_law14_EventChecks_o7) vc_law14_EventChecks_r1)
def rs_law14_EventChecks : List RV := [(.t 4)]
theorem comp_law14_EventChecks : ccode Try.prog (Try.f11.body.getD .skip) = some (strip vc_law14_EventChecks) := by kernel_rfl
theorem code_law14_EventChecks : IsCode Try.prog id_law14_EventChecks 28 vc_law14_EventChecks rs_law14_EventChecks := ⟨_, _, Try.func11, by kernel_rfl, rfl, comp_law14_EventChecks, by kernel_rfl, by kernel_rfl, rfl⟩

/- usher/usherlaw14.EventBack -/
def vc_law14_EventBack_o1_3 : List VO := ⟨(some 4), none, (.mv (.t 70))⟩ :: []
def vc_law14_EventBack_o1_2 : List VO := ⟨(some 66), (some (63, true)), (.bin .eql (.t 65) (.c (.val (.int .i64 0))))⟩ :: ⟨none, none, .kp [63, 66]⟩ :: ⟨(some 67), none, (.pick (.t 63) (.t 66) (.c (.val (.bool false))))⟩ :: ⟨none, none, .kp [67]⟩ :: ⟨(some 68), none, (.mv (.t 67))⟩ :: ⟨(some 69), (some (68, true)), (.call 51 [] [])⟩ :: ⟨(some 70), none, (.pick (.t 68) (.t 69) (.c (.val (.bool false))))⟩ :: ⟨none, none, .kp [70]⟩ :: vc_law14_EventBack_o1_3
def vc_law14_EventBack_o1_1 : List VO := ⟨(some 61), (some (58, true)), (.call 29 [] [(.t 59), (.t 60)])⟩ :: ⟨none, none, .kp [9, 58, 61]⟩ :: ⟨(some 62), none, (.pick (.t 58) (.t 61) (.c (.val (.bool false))))⟩ :: ⟨none, none, .kp [9, 62]⟩ :: ⟨(some 63), none, (.mv (.t 62))⟩ :: ⟨(some 64), (some (63, true)), (.load true 13 (.t 9))⟩ :: ⟨none, none, .kp [63, 64]⟩ :: ⟨(some 65), (some (63, true)), (.call 52 [] [(.t 64)])⟩ :: vc_law14_EventBack_o1_2
def vc_law14_EventBack_o1 : List VO := ⟨(some 56), none, (.mv (.t 12))⟩ :: ⟨(some 57), none, (.bin .eql (.t 56) (.c (.val (.int .i64 0))))⟩ :: ⟨none, none, .kp [1, 9, 11, 57]⟩ :: ⟨(some 58), none, (.mv (.t 57))⟩ :: ⟨(some 59), (some (58, true)), (.mv (.t 11))⟩ :: ⟨none, none, .kp [1, 9, 58, 59]⟩ :: ⟨(some 60), (some (58, true)), (.mv (.t 1))⟩ :: vc_law14_EventBack_o1_1
def vc_law14_EventBack_r1 : VCode := (.keep [1, 9, 11, 12] (.seq (.region false vc_law14_EventBack_o1) (.keep [4] .ret)))
def vc_law14_EventBack_o2_1 : List VO := ⟨(some 11), none, (.mv (.t 54))⟩ :: ⟨none, none, .kp [1, 9, 11, 55]⟩ :: ⟨(some 12), none, (.mv (.t 55))⟩ :: []
def vc_law14_EventBack_o2 : List VO := ⟨(some 52), none, (.load true 13 (.t 9))⟩ :: ⟨(some 53), none, (.call 56 [] [(.t 52)])⟩ :: ⟨(some 51), none, (.mv (.t 53))⟩ :: ⟨none, none, .kp [1, 9, 51]⟩ :: ⟨(some 54), none, (.extract (.t 51) 0)⟩ :: ⟨(some 55), none, (.extract (.t 51) 1)⟩ :: vc_law14_EventBack_o2_1
def vc_law14_EventBack_r2 : VCode := (.keep [1, 9] (.seq (.region false vc_law14_EventBack_o2) vc_law14_EventBack_r1))
def vc_law14_EventBack_o3 : List VO := ⟨(some 50), none, (.call 51 [] [])⟩ :: ⟨(some 4), none, (.mv (.t 50))⟩ :: []
def vc_law14_EventBack_c3 : VCode := (.seq (.region false vc_law14_EventBack_o3) (.keep [4] .ret))
def vc_law14_EventBack_r4 : VCode := (.keep [1, 9, 49] (.cond (.t 49) vc_law14_EventBack_c3 .skip))
def vc_law14_EventBack_o4 : List VO := ⟨(some 48), none, (.mv (.t 10))⟩ :: ⟨(some 49), none, (.bin .neq (.t 48) (.c (.val (.int .i64 0))))⟩ :: []
def vc_law14_EventBack_r5 : VCode := (.keep [1, 9, 10] (.seq (.seq (.region false vc_law14_EventBack_o4) vc_law14_EventBack_r4) vc_law14_EventBack_r2))
def vc_law14_EventBack_o5_1 : List VO := ⟨(some 9), none, (.alloc 36 [(.val (.int .i64 0)), (.val (.int .i64 0)), (.val (.int .i64 0)), (.val (.int .i64 0)), (.val (.string ⟨#[]⟩)), (.val (.int .i64 0)), (.val (.int .i64 0)), (.val (.int .u64 0)), (.val (.string ⟨#[]⟩)), (.val (.slice none 0 0)), (.val (.int .i64 0)), (.val (.int .u64 0)), (.val (.int .i64 0))])⟩ :: ⟨none, none, (.store 13 (.t 9) (.t 46))⟩ :: ⟨none, none, .kp [1, 9, 47]⟩ :: ⟨(some 10), none, (.mv (.t 47))⟩ :: []
def vc_law14_EventBack_o5 : List VO := ⟨(some 44), none, (.mv (.t 1))⟩ :: ⟨(some 45), none, (.call 57 [] [(.t 44)])⟩ :: ⟨(some 43), none, (.mv (.t 45))⟩ :: ⟨none, none, .kp [1, 43]⟩ :: ⟨(some 46), none, (.extract (.t 43) 0)⟩ :: ⟨(some 47), none, (.extract (.t 43) 1)⟩ :: vc_law14_EventBack_o5_1
def vc_law14_EventBack_r6 : VCode := (.keep [1] (.seq (.region false vc_law14_EventBack_o5) vc_law14_EventBack_r5))
def vc_law14_EventBack_o6 : List VO := ⟨(some 4), none, (.mv (.c (.val (.bool false))))⟩ :: []
def vc_law14_EventBack_c7 : VCode := (.seq (.region false vc_law14_EventBack_o6) (.keep [4] .ret))
def vc_law14_EventBack_r8 : VCode := (.keep [1, 42] (.cond (.t 42) vc_law14_EventBack_c7 .skip))
def vc_law14_EventBack_o7_3 : List VO := ⟨(some 41), (some (38, false)), (.bin .gtr (.t 40) (.c (.val (.int .i64 4096))))⟩ :: ⟨none, none, .kp [1, 38, 41]⟩ :: ⟨(some 42), none, (.pick (.t 38) (.c (.val (.bool true))) (.t 41))⟩ :: []
def vc_law14_EventBack_o7_2 : List VO := ⟨(some 36), (some (32, false)), (.un .not (.t 35))⟩ :: ⟨(some 37), none, (.pick (.t 32) (.c (.val (.bool true))) (.t 36))⟩ :: ⟨none, none, .kp [1, 5, 37]⟩ :: ⟨(some 38), none, (.mv (.t 37))⟩ :: ⟨(some 39), (some (38, false)), (.mv (.t 5))⟩ :: ⟨none, none, .kp [1, 38, 39]⟩ :: ⟨(some 40), (some (38, false)), (.len (.t 39))⟩ :: vc_law14_EventBack_o7_3
def vc_law14_EventBack_o7_1 : List VO := ⟨(some 31), none, (.pick (.t 28) (.c (.val (.bool true))) (.t 30))⟩ :: ⟨none, none, .kp [1, 2, 5, 7, 31]⟩ :: ⟨(some 32), none, (.mv (.t 31))⟩ :: ⟨(some 33), (some (32, false)), (.load true 13 (.t 7))⟩ :: ⟨none, none, .kp [1, 2, 5, 32, 33]⟩ :: ⟨(some 34), (some (32, false)), (.load true 13 (.t 2))⟩ :: ⟨(some 35), (some (32, false)), (.call 54 [] [(.t 33), (.t 34)])⟩ :: ⟨none, none, .kp [1, 5, 32, 35]⟩ :: vc_law14_EventBack_o7_2
def vc_law14_EventBack_o7 : List VO := ⟨(some 26), none, (.mv (.t 6))⟩ :: ⟨(some 27), none, (.bin .neq (.t 26) (.c (.val (.int .i64 0))))⟩ :: ⟨none, none, .kp [1, 2, 5, 7, 8, 27]⟩ :: ⟨(some 28), none, (.mv (.t 27))⟩ :: ⟨(some 29), (some (28, false)), (.mv (.t 8))⟩ :: ⟨none, none, .kp [1, 2, 5, 7, 28, 29]⟩ :: ⟨(some 30), (some (28, false)), (.bin .neq (.t 29) (.c (.val (.int .i64 0))))⟩ :: vc_law14_EventBack_o7_1
def vc_law14_EventBack_r9 : VCode := (.keep [1, 2, 5, 6, 7, 8] (.seq (.region false vc_law14_EventBack_o7) vc_law14_EventBack_r8))
def vc_law14_EventBack_o8_1 : List VO := ⟨(some 7), none, (.alloc 36 [(.val (.int .i64 0)), (.val (.int .i64 0)), (.val (.int .i64 0)), (.val (.int .i64 0)), (.val (.string ⟨#[]⟩)), (.val (.int .i64 0)), (.val (.int .i64 0)), (.val (.int .u64 0)), (.val (.string ⟨#[]⟩)), (.val (.slice none 0 0)), (.val (.int .i64 0)), (.val (.int .u64 0)), (.val (.int .i64 0))])⟩ :: ⟨none, none, (.store 13 (.t 7) (.t 24))⟩ :: ⟨none, none, .kp [1, 2, 5, 6, 7, 25]⟩ :: ⟨(some 8), none, (.mv (.t 25))⟩ :: []
def vc_law14_EventBack_o8 : List VO := ⟨(some 22), none, (.mv (.t 5))⟩ :: ⟨(some 23), none, (.call 57 [] [(.t 22)])⟩ :: ⟨(some 21), none, (.mv (.t 23))⟩ :: ⟨none, none, .kp [1, 2, 5, 6, 21]⟩ :: ⟨(some 24), none, (.extract (.t 21) 0)⟩ :: ⟨(some 25), none, (.extract (.t 21) 1)⟩ :: vc_law14_EventBack_o8_1
def vc_law14_EventBack_r10 : VCode := (.keep [1, 2, 5, 6] (.seq (.region false vc_law14_EventBack_o8) vc_law14_EventBack_r9))
def vc_law14_EventBack_o9_1 : List VO := ⟨(some 5), none, (.mv (.t 19))⟩ :: ⟨none, none, .kp [1, 2, 5, 20]⟩ :: ⟨(some 6), none, (.mv (.t 20))⟩ :: []
def vc_law14_EventBack_o9 : List VO := ⟨(some 17), none, (.load true 13 (.t 2))⟩ :: ⟨(some 18), none, (.call 56 [] [(.t 17)])⟩ :: ⟨(some 16), none, (.mv (.t 18))⟩ :: ⟨none, none, .kp [1, 2, 16]⟩ :: ⟨(some 19), none, (.extract (.t 16) 0)⟩ :: ⟨(some 20), none, (.extract (.t 16) 1)⟩ :: vc_law14_EventBack_o9_1
def vc_law14_EventBack_c11 : VCode := (.seq (.region false vc_law14_EventBack_o9) vc_law14_EventBack_r10)
def vc_law14_EventBack_r12 : VCode := (.keep [1, 2, 15] (.cond (.t 15) vc_law14_EventBack_c11 .skip))
def vc_law14_EventBack_o10 : List VO := ⟨(some 13), none, (.load true 13 (.t 2))⟩ :: ⟨(some 14), none, (.call 52 [] [(.t 13)])⟩ :: ⟨(some 15), none, (.bin .eql (.t 14) (.c (.val (.int .i64 0))))⟩ :: []
def vc_law14_EventBack_r13 : VCode := (.keep [1, 2] (.seq (.seq (.region false vc_law14_EventBack_o10) vc_law14_EventBack_r12) vc_law14_EventBack_r6))
def vc_law14_EventBack_o11 : List VO := ⟨(some 2), none, (.box 36 (.t 0))⟩ :: ⟨(some 4), none, (.mv (.c (.val (.bool false))))⟩ :: []
def vc_law14_EventBack : VCode := (.seq (.region false vc_law14_EventBack_o11) vc_law14_EventBack_r13)
def rs_law14_EventBack : List RV := [(.t 4)]
theorem comp_law14_EventBack : ccode Try.prog (Try.f12.body.getD .skip) = some (strip vc_law14_EventBack) := by kernel_rfl
theorem code_law14_EventBack : IsCode Try.prog id_law14_EventBack 71 vc_law14_EventBack rs_law14_EventBack := ⟨_, _, Try.func12, by kernel_rfl, rfl, comp_law14_EventBack, by kernel_rfl, by kernel_rfl, rfl⟩

/- usher/usherlaw14.awake -/
def vc_law14_awake_o1_1 : List VO := ⟨(some 13), (some (10, true)), (.call 29 [] [(.t 11), (.t 12)])⟩ :: ⟨none, none, .kp [10, 13]⟩ :: ⟨(some 14), none, (.pick (.t 10) (.t 13) (.c (.val (.bool false))))⟩ :: ⟨none, none, .kp [14]⟩ :: ⟨(some 0), none, (.mv (.t 14))⟩ :: []
def vc_law14_awake_o1 : List VO := ⟨(some 8), none, (.mv (.t 2))⟩ :: ⟨(some 9), none, (.bin .eql (.t 8) (.c (.val (.int .i64 0))))⟩ :: ⟨none, none, .kp [1, 9]⟩ :: ⟨(some 10), none, (.mv (.t 9))⟩ :: ⟨(some 11), (some (10, true)), (.mv (.t 1))⟩ :: ⟨none, none, .kp [10, 11]⟩ :: ⟨(some 12), (some (10, true)), (.lit false 5 1 3 [(.val (.int .u8 0)), (.val (.int .u8 0)), (.val (.int .u8 0))] [(0, (1, (.c (.val (.int .u8 3))))), (1, (1, (.c (.val (.int .u8 5))))), (2, (1, (.c (.val (.int .u8 9)))))])⟩ :: vc_law14_awake_o1_1
def vc_law14_awake_r1 : VCode := (.keep [1, 2] (.seq (.region false vc_law14_awake_o1) (.keep [0] .ret)))
def vc_law14_awake_o2_1 : List VO := ⟨(some 1), none, (.mv (.t 6))⟩ :: ⟨none, none, .kp [1, 7]⟩ :: ⟨(some 2), none, (.mv (.t 7))⟩ :: []
def vc_law14_awake_o2 : List VO := ⟨(some 4), none, (.build [(.val (.int .i64 0)), (.val (.int .i64 0)), (.val (.int .i64 0)), (.val (.int .i64 0)), (.val (.string ⟨#[]⟩)), (.val (.int .i64 0)), (.val (.int .i64 0)), (.val (.int .u64 0)), (.val (.string ⟨#[]⟩)), (.val (.slice none 0 0)), (.val (.int .i64 0)), (.val (.int .u64 0)), (.val (.int .i64 0))] [(0, (1, (.c (.val (.int .i64 3))))), (1, (1, (.c (.val (.int .i64 5))))), (3, (1, (.c (.val (.int .i64 9)))))])⟩ :: ⟨(some 5), none, (.call 56 [] [(.t 4)])⟩ :: ⟨(some 3), none, (.mv (.t 5))⟩ :: ⟨none, none, .kp [3]⟩ :: ⟨(some 6), none, (.extract (.t 3) 0)⟩ :: ⟨(some 7), none, (.extract (.t 3) 1)⟩ :: vc_law14_awake_o2_1
def vc_law14_awake_r2 : VCode := (.keep [] (.seq (.region false vc_law14_awake_o2) vc_law14_awake_r1))
def vc_law14_awake_o3 : List VO := ⟨(some 0), none, (.mv (.c (.val (.bool false))))⟩ :: []
def vc_law14_awake : VCode := (.seq (.region false vc_law14_awake_o3) vc_law14_awake_r2)
def rs_law14_awake : List RV := [(.t 0)]
theorem comp_law14_awake : ccode Try.prog (Try.f51.body.getD .skip) = some (strip vc_law14_awake) := by kernel_rfl
theorem code_law14_awake : IsCode Try.prog id_law14_awake 15 vc_law14_awake rs_law14_awake := ⟨_, _, Try.func51, by kernel_rfl, rfl, comp_law14_awake, by kernel_rfl, by kernel_rfl, rfl⟩

end Go.Proofs.Ytalbdoapcpgelaa
