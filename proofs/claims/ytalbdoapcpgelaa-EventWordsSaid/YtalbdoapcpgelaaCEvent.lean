/- The code of functions, for the abstract machine, and that it is theirs. Printed by vc2.py. -/
import Derived.Test.YtalbdoapcpgelaaIds
set_option linter.unusedVariables false
set_option maxRecDepth 100000
namespace Go.Proofs.Ytalbdoapcpgelaa
open Go Go.Vm

/- usher/event.Closes -/
def vc_event_Closes_o1 : List VO := ⟨(some 2), none, (.mv (.c (.val (.bool false))))⟩ :: []
def vc_event_Closes_r1 : VCode := (.keep [] (.seq (.region false vc_event_Closes_o1) (.keep [2] .ret)))
def vc_event_Closes_o2 : List VO := ⟨(some 2), none, (.mv (.c (.val (.bool true))))⟩ :: []
def vc_event_Closes_r2 : VCode := (.keep [] (.seq (.seq (.region false vc_event_Closes_o2) (.keep [2] .ret)) (.exit 0)))
def vc_event_Closes_r3 : VCode := (.keep [9] (.cond (.t 9) (.exit 2) .skip))
def vc_event_Closes_o3 : List VO := ⟨(some 10), none, (.bin .eql (.t 3) (.c (.val (.int .i64 19))))⟩ :: ⟨(some 9), none, (.mv (.t 10))⟩ :: []
def vc_event_Closes_r4 : VCode := (.keep [3] (.seq (.region false vc_event_Closes_o3) vc_event_Closes_r3))
def vc_event_Closes_r5 : VCode := (.keep [3, 4] (.cond (.t 4) (.exit 1) .skip))
def vc_event_Closes_o4 : List VO := ⟨(some 8), none, (.bin .eql (.t 3) (.c (.val (.int .i64 18))))⟩ :: ⟨(some 4), none, (.mv (.t 8))⟩ :: []
def vc_event_Closes_r6 : VCode := (.keep [3, 4] (.cond (.t 4) .skip (.region false vc_event_Closes_o4)))
def vc_event_Closes_o5 : List VO := ⟨(some 7), none, (.bin .eql (.t 3) (.c (.val (.int .i64 17))))⟩ :: ⟨(some 4), none, (.mv (.t 7))⟩ :: []
def vc_event_Closes_r7 : VCode := (.keep [3, 4] (.cond (.t 4) .skip (.seq (.region false vc_event_Closes_o5) vc_event_Closes_r6)))
def vc_event_Closes_o6 : List VO := ⟨(some 6), none, (.bin .eql (.t 3) (.c (.val (.int .i64 16))))⟩ :: ⟨(some 4), none, (.mv (.t 6))⟩ :: []
def vc_event_Closes_r8 : VCode := (.keep [3, 4] (.cond (.t 4) .skip (.seq (.region false vc_event_Closes_o6) vc_event_Closes_r7)))
def vc_event_Closes_o7 : List VO := ⟨(some 5), none, (.bin .eql (.t 3) (.c (.val (.int .i64 15))))⟩ :: ⟨(some 4), none, (.mv (.t 5))⟩ :: []
def vc_event_Closes_c9 : VCode := (.seq (.seq (.seq (.seq (.region false vc_event_Closes_o7) vc_event_Closes_r8) vc_event_Closes_r5) vc_event_Closes_r4) (.exit 0))
def vc_event_Closes_c10 : VCode := (.seq (.block 2 (.block 1 vc_event_Closes_c9)) vc_event_Closes_r2)
def vc_event_Closes_r11 : VCode := (.keep [3] (.block 0 vc_event_Closes_c10))
def vc_event_Closes_o8 : List VO := ⟨(some 3), none, (.mv (.t 0))⟩ :: []
def vc_event_Closes_r12 : VCode := (.keep [0] (.seq (.seq (.region false vc_event_Closes_o8) vc_event_Closes_r11) vc_event_Closes_r1))
def vc_event_Closes_o9 : List VO := ⟨(some 2), none, (.mv (.c (.val (.bool false))))⟩ :: []
def vc_event_Closes : VCode := (.seq (.region false vc_event_Closes_o9) vc_event_Closes_r12)
def rs_event_Closes : List RV := [(.t 2)]
theorem comp_event_Closes : ccode Try.prog (Try.f47.body.getD .skip) = some (strip vc_event_Closes) := by kernel_rfl
theorem code_event_Closes : IsCode Try.prog id_event_Closes 11 vc_event_Closes rs_event_Closes := ⟨_, _, Try.func47, by kernel_rfl, rfl, comp_event_Closes, by kernel_rfl, by kernel_rfl, rfl⟩

/- usher/event.Name -/
def vc_event_Name_o1 : List VO := ⟨(some 26), none, (.mv (.t 0))⟩ :: ⟨(some 27), none, (.call 81 [] [(.t 26)])⟩ :: ⟨none, none, .kp [27]⟩ :: ⟨(some 2), none, (.mv (.t 27))⟩ :: []
def vc_event_Name_r1 : VCode := (.keep [0] (.seq (.region false vc_event_Name_o1) (.keep [2] .ret)))
def vc_event_Name_o2 : List VO := ⟨(some 2), none, (.mv (.c (.val (.string ⟨#[115, 116, 97, 114, 116, 101, 100]⟩))))⟩ :: []
def vc_event_Name_o3 : List VO := ⟨(some 2), none, (.mv (.c (.val (.string ⟨#[115, 99, 104, 101, 100, 117, 108, 101, 100]⟩))))⟩ :: []
def vc_event_Name_o4 : List VO := ⟨(some 2), none, (.mv (.c (.val (.string ⟨#[116, 97, 107, 101, 110]⟩))))⟩ :: []
def vc_event_Name_o5 : List VO := ⟨(some 2), none, (.mv (.c (.val (.string ⟨#[100, 111, 110, 101]⟩))))⟩ :: []
def vc_event_Name_o6 : List VO := ⟨(some 2), none, (.mv (.c (.val (.string ⟨#[116, 97, 115, 107, 70, 97, 105, 108, 101, 100]⟩))))⟩ :: []
def vc_event_Name_o7 : List VO := ⟨(some 2), none, (.mv (.c (.val (.string ⟨#[116, 97, 115, 107, 84, 105, 109, 101, 100]⟩))))⟩ :: []
def vc_event_Name_o8 : List VO := ⟨(some 2), none, (.mv (.c (.val (.string ⟨#[115, 105, 103, 110, 97, 108, 101, 100]⟩))))⟩ :: []
def vc_event_Name_o9 : List VO := ⟨(some 2), none, (.mv (.c (.val (.string ⟨#[99, 97, 110, 99, 101, 108]⟩))))⟩ :: []
def vc_event_Name_o10 : List VO := ⟨(some 2), none, (.mv (.c (.val (.string ⟨#[116, 105, 109, 101, 114]⟩))))⟩ :: []
def vc_event_Name_o11 : List VO := ⟨(some 2), none, (.mv (.c (.val (.string ⟨#[102, 105, 114, 101, 100]⟩))))⟩ :: []
def vc_event_Name_o12 : List VO := ⟨(some 2), none, (.mv (.c (.val (.string ⟨#[116, 105, 109, 101, 114, 79, 102, 102]⟩))))⟩ :: []
def vc_event_Name_r2 : VCode := (.keep [0, 24] (.cond (.t 24) (.seq (.region false vc_event_Name_o12) (.keep [2] .ret)) .skip))
def vc_event_Name_o13 : List VO := ⟨(some 25), none, (.bin .eql (.t 3) (.c (.val (.int .i64 11))))⟩ :: ⟨(some 24), none, (.mv (.t 25))⟩ :: []
def vc_event_Name_r3 : VCode := (.keep [0, 3, 22] (.cond (.t 22) (.seq (.region false vc_event_Name_o11) (.keep [2] .ret)) (.seq (.region false vc_event_Name_o13) vc_event_Name_r2)))
def vc_event_Name_o14 : List VO := ⟨(some 23), none, (.bin .eql (.t 3) (.c (.val (.int .i64 10))))⟩ :: ⟨(some 22), none, (.mv (.t 23))⟩ :: []
def vc_event_Name_r4 : VCode := (.keep [0, 3, 20] (.cond (.t 20) (.seq (.region false vc_event_Name_o10) (.keep [2] .ret)) (.seq (.region false vc_event_Name_o14) vc_event_Name_r3)))
def vc_event_Name_o15 : List VO := ⟨(some 21), none, (.bin .eql (.t 3) (.c (.val (.int .i64 9))))⟩ :: ⟨(some 20), none, (.mv (.t 21))⟩ :: []
def vc_event_Name_r5 : VCode := (.keep [0, 3, 18] (.cond (.t 18) (.seq (.region false vc_event_Name_o9) (.keep [2] .ret)) (.seq (.region false vc_event_Name_o15) vc_event_Name_r4)))
def vc_event_Name_o16 : List VO := ⟨(some 19), none, (.bin .eql (.t 3) (.c (.val (.int .i64 8))))⟩ :: ⟨(some 18), none, (.mv (.t 19))⟩ :: []
def vc_event_Name_r6 : VCode := (.keep [0, 3, 16] (.cond (.t 16) (.seq (.region false vc_event_Name_o8) (.keep [2] .ret)) (.seq (.region false vc_event_Name_o16) vc_event_Name_r5)))
def vc_event_Name_o17 : List VO := ⟨(some 17), none, (.bin .eql (.t 3) (.c (.val (.int .i64 7))))⟩ :: ⟨(some 16), none, (.mv (.t 17))⟩ :: []
def vc_event_Name_r7 : VCode := (.keep [0, 3, 14] (.cond (.t 14) (.seq (.region false vc_event_Name_o7) (.keep [2] .ret)) (.seq (.region false vc_event_Name_o17) vc_event_Name_r6)))
def vc_event_Name_o18 : List VO := ⟨(some 15), none, (.bin .eql (.t 3) (.c (.val (.int .i64 6))))⟩ :: ⟨(some 14), none, (.mv (.t 15))⟩ :: []
def vc_event_Name_r8 : VCode := (.keep [0, 3, 12] (.cond (.t 12) (.seq (.region false vc_event_Name_o6) (.keep [2] .ret)) (.seq (.region false vc_event_Name_o18) vc_event_Name_r7)))
def vc_event_Name_o19 : List VO := ⟨(some 13), none, (.bin .eql (.t 3) (.c (.val (.int .i64 5))))⟩ :: ⟨(some 12), none, (.mv (.t 13))⟩ :: []
def vc_event_Name_r9 : VCode := (.keep [0, 3, 10] (.cond (.t 10) (.seq (.region false vc_event_Name_o5) (.keep [2] .ret)) (.seq (.region false vc_event_Name_o19) vc_event_Name_r8)))
def vc_event_Name_o20 : List VO := ⟨(some 11), none, (.bin .eql (.t 3) (.c (.val (.int .i64 4))))⟩ :: ⟨(some 10), none, (.mv (.t 11))⟩ :: []
def vc_event_Name_r10 : VCode := (.keep [0, 3, 8] (.cond (.t 8) (.seq (.region false vc_event_Name_o4) (.keep [2] .ret)) (.seq (.region false vc_event_Name_o20) vc_event_Name_r9)))
def vc_event_Name_o21 : List VO := ⟨(some 9), none, (.bin .eql (.t 3) (.c (.val (.int .i64 3))))⟩ :: ⟨(some 8), none, (.mv (.t 9))⟩ :: []
def vc_event_Name_r11 : VCode := (.keep [0, 3, 6] (.cond (.t 6) (.seq (.region false vc_event_Name_o3) (.keep [2] .ret)) (.seq (.region false vc_event_Name_o21) vc_event_Name_r10)))
def vc_event_Name_o22 : List VO := ⟨(some 7), none, (.bin .eql (.t 3) (.c (.val (.int .i64 2))))⟩ :: ⟨(some 6), none, (.mv (.t 7))⟩ :: []
def vc_event_Name_r12 : VCode := (.keep [0, 3, 4] (.cond (.t 4) (.seq (.region false vc_event_Name_o2) (.keep [2] .ret)) (.seq (.region false vc_event_Name_o22) vc_event_Name_r11)))
def vc_event_Name_o23 : List VO := ⟨(some 5), none, (.bin .eql (.t 3) (.c (.val (.int .i64 1))))⟩ :: ⟨(some 4), none, (.mv (.t 5))⟩ :: []
def vc_event_Name_r13 : VCode := (.keep [0, 3] (.block 0 (.seq (.region false vc_event_Name_o23) vc_event_Name_r12)))
def vc_event_Name_o24 : List VO := ⟨(some 3), none, (.mv (.t 0))⟩ :: []
def vc_event_Name_r14 : VCode := (.keep [0] (.seq (.seq (.region false vc_event_Name_o24) vc_event_Name_r13) vc_event_Name_r1))
def vc_event_Name_o25 : List VO := ⟨(some 2), none, (.mv (.c (.val (.string ⟨#[]⟩))))⟩ :: []
def vc_event_Name : VCode := (.seq (.region false vc_event_Name_o25) vc_event_Name_r14)
def rs_event_Name : List RV := [(.t 2)]
theorem comp_event_Name : ccode Try.prog (Try.f49.body.getD .skip) = some (strip vc_event_Name) := by kernel_rfl
theorem code_event_Name : IsCode Try.prog id_event_Name 28 vc_event_Name rs_event_Name := ⟨_, _, Try.func49, by kernel_rfl, rfl, comp_event_Name, by kernel_rfl, by kernel_rfl, rfl⟩

/- usher/event.Check -/
def vc_event_Check_o1 : List VO := ⟨(some 2), none, (.mv (.c (.val (.int .i64 0))))⟩ :: []
def vc_event_Check_r1 : VCode := (.keep [] (.seq (.region false vc_event_Check_o1) (.keep [2] .ret)))
def vc_event_Check_o2 : List VO := ⟨(some 2), none, (.mv (.c (.val (.int .i64 1))))⟩ :: []
def vc_event_Check_r2 : VCode := (.keep [31] (.cond (.t 31) (.seq (.region false vc_event_Check_o2) (.keep [2] .ret)) .skip))
def vc_event_Check_o3_5 : List VO := ⟨(some 28), (some (27, false)), (.load true 13 (.t 1))⟩ :: ⟨none, none, .kp [27, 28]⟩ :: ⟨(some 29), (some (27, false)), (.call 84 [] [(.t 28)])⟩ :: ⟨(some 30), (some (27, false)), (.un .not (.t 29))⟩ :: ⟨none, none, .kp [27, 30]⟩ :: ⟨(some 31), none, (.pick (.t 27) (.c (.val (.bool true))) (.t 30))⟩ :: []
def vc_event_Check_o3_4 : List VO := ⟨(some 23), (some (22, false)), (.load true 13 (.t 1))⟩ :: ⟨(some 24), (some (22, false)), (.call 83 [] [(.t 23)])⟩ :: ⟨none, none, .kp [1, 22, 24]⟩ :: ⟨(some 25), (some (22, false)), (.un .not (.t 24))⟩ :: ⟨(some 26), none, (.pick (.t 22) (.c (.val (.bool true))) (.t 25))⟩ :: ⟨none, none, .kp [1, 26]⟩ :: ⟨(some 27), none, (.mv (.t 26))⟩ :: vc_event_Check_o3_5
def vc_event_Check_o3_3 : List VO := ⟨(some 18), (some (17, false)), (.load true 13 (.t 1))⟩ :: ⟨(some 19), (some (17, false)), (.call 82 [] [(.t 18)])⟩ :: ⟨none, none, .kp [1, 17, 19]⟩ :: ⟨(some 20), (some (17, false)), (.un .not (.t 19))⟩ :: ⟨(some 21), none, (.pick (.t 17) (.c (.val (.bool true))) (.t 20))⟩ :: ⟨none, none, .kp [1, 21]⟩ :: ⟨(some 22), none, (.mv (.t 21))⟩ :: vc_event_Check_o3_4
def vc_event_Check_o3_2 : List VO := ⟨(some 13), (some (12, false)), (.fld 1 (.t 1))⟩ :: ⟨(some 14), (some (12, false)), (.load false 1 (.t 13))⟩ :: ⟨none, none, .kp [1, 12, 14]⟩ :: ⟨(some 15), (some (12, false)), (.bin .gtr (.t 14) (.c (.val (.int .i64 1099511627776))))⟩ :: ⟨(some 16), none, (.pick (.t 12) (.c (.val (.bool true))) (.t 15))⟩ :: ⟨none, none, .kp [1, 16]⟩ :: ⟨(some 17), none, (.mv (.t 16))⟩ :: vc_event_Check_o3_3
def vc_event_Check_o3_1 : List VO := ⟨(some 8), (some (7, false)), (.fld 1 (.t 1))⟩ :: ⟨(some 9), (some (7, false)), (.load false 1 (.t 8))⟩ :: ⟨(some 10), (some (7, false)), (.bin .lss (.t 9) (.c (.val (.int .i64 0))))⟩ :: ⟨none, none, .kp [1, 7, 10]⟩ :: ⟨(some 11), none, (.pick (.t 7) (.c (.val (.bool true))) (.t 10))⟩ :: ⟨none, none, .kp [1, 11]⟩ :: ⟨(some 12), none, (.mv (.t 11))⟩ :: vc_event_Check_o3_2
def vc_event_Check_o3 : List VO := ⟨(some 3), none, (.fld 0 (.t 1))⟩ :: ⟨(some 4), none, (.load false 1 (.t 3))⟩ :: ⟨(some 5), none, (.call 49 [] [(.t 4)])⟩ :: ⟨none, none, .kp [1, 5]⟩ :: ⟨(some 6), none, (.bin .eql (.t 5) (.c (.val (.string ⟨#[]⟩))))⟩ :: ⟨(some 7), none, (.mv (.t 6))⟩ :: ⟨none, none, .kp [1, 7]⟩ :: vc_event_Check_o3_1
def vc_event_Check_r3 : VCode := (.keep [1] (.seq (.seq (.region false vc_event_Check_o3) vc_event_Check_r2) vc_event_Check_r1))
def vc_event_Check_o4 : List VO := ⟨(some 1), none, (.box 36 (.t 0))⟩ :: ⟨(some 2), none, (.mv (.c (.val (.int .i64 0))))⟩ :: []
def vc_event_Check : VCode := (.seq (.region false vc_event_Check_o4) vc_event_Check_r3)
def rs_event_Check : List RV := [(.t 2)]
theorem comp_event_Check : ccode Try.prog (Try.f52.body.getD .skip) = some (strip vc_event_Check) := by kernel_rfl
theorem code_event_Check : IsCode Try.prog id_event_Check 32 vc_event_Check rs_event_Check := ⟨_, _, Try.func52, by kernel_rfl, rfl, comp_event_Check, by kernel_rfl, by kernel_rfl, rfl⟩

/- usher/event.Same -/
def vc_event_Same_o1_8 : List VO := ⟨(some 4), none, (.mv (.t 50))⟩ :: []
def vc_event_Same_o1_7 : List VO := ⟨(some 46), (some (44, true)), (.load true 3 (.t 45))⟩ :: ⟨(some 47), (some (44, true)), (.fld 10 (.t 3))⟩ :: ⟨none, none, .kp [44, 46, 47]⟩ :: ⟨(some 48), (some (44, true)), (.load true 3 (.t 47))⟩ :: ⟨(some 49), (some (44, true)), (.eqs false [0, 0, 0] (.t 46) (.t 48))⟩ :: ⟨none, none, .kp [44, 49]⟩ :: ⟨(some 50), none, (.pick (.t 44) (.t 49) (.c (.val (.bool false))))⟩ :: ⟨none, none, .kp [50]⟩ :: vc_event_Same_o1_8
def vc_event_Same_o1_6 : List VO := ⟨(some 41), (some (37, true)), (.load false 1 (.t 40))⟩ :: ⟨(some 42), (some (37, true)), (.bin .eql (.t 39) (.t 41))⟩ :: ⟨none, none, .kp [2, 3, 37, 42]⟩ :: ⟨(some 43), none, (.pick (.t 37) (.t 42) (.c (.val (.bool false))))⟩ :: ⟨none, none, .kp [2, 3, 43]⟩ :: ⟨(some 44), none, (.mv (.t 43))⟩ :: ⟨(some 45), (some (44, true)), (.fld 10 (.t 2))⟩ :: ⟨none, none, .kp [3, 44, 45]⟩ :: vc_event_Same_o1_7
def vc_event_Same_o1_5 : List VO := ⟨(some 36), none, (.pick (.t 30) (.t 35) (.c (.val (.bool false))))⟩ :: ⟨none, none, .kp [2, 3, 36]⟩ :: ⟨(some 37), none, (.mv (.t 36))⟩ :: ⟨(some 38), (some (37, true)), (.fld 4 (.t 2))⟩ :: ⟨(some 39), (some (37, true)), (.load false 1 (.t 38))⟩ :: ⟨none, none, .kp [2, 3, 37, 39]⟩ :: ⟨(some 40), (some (37, true)), (.fld 4 (.t 3))⟩ :: vc_event_Same_o1_6
def vc_event_Same_o1_4 : List VO := ⟨(some 31), (some (30, true)), (.fld 3 (.t 2))⟩ :: ⟨(some 32), (some (30, true)), (.load false 1 (.t 31))⟩ :: ⟨none, none, .kp [2, 3, 30, 32]⟩ :: ⟨(some 33), (some (30, true)), (.fld 3 (.t 3))⟩ :: ⟨(some 34), (some (30, true)), (.load false 1 (.t 33))⟩ :: ⟨(some 35), (some (30, true)), (.bin .eql (.t 32) (.t 34))⟩ :: ⟨none, none, .kp [2, 3, 30, 35]⟩ :: vc_event_Same_o1_5
def vc_event_Same_o1_3 : List VO := ⟨(some 26), (some (23, true)), (.fld 2 (.t 3))⟩ :: ⟨(some 27), (some (23, true)), (.load false 1 (.t 26))⟩ :: ⟨(some 28), (some (23, true)), (.bin .eql (.t 25) (.t 27))⟩ :: ⟨none, none, .kp [2, 3, 23, 28]⟩ :: ⟨(some 29), none, (.pick (.t 23) (.t 28) (.c (.val (.bool false))))⟩ :: ⟨none, none, .kp [2, 3, 29]⟩ :: ⟨(some 30), none, (.mv (.t 29))⟩ :: vc_event_Same_o1_4
def vc_event_Same_o1_2 : List VO := ⟨(some 21), (some (16, true)), (.bin .eql (.t 18) (.t 20))⟩ :: ⟨none, none, .kp [2, 3, 16, 21]⟩ :: ⟨(some 22), none, (.pick (.t 16) (.t 21) (.c (.val (.bool false))))⟩ :: ⟨none, none, .kp [2, 3, 22]⟩ :: ⟨(some 23), none, (.mv (.t 22))⟩ :: ⟨(some 24), (some (23, true)), (.fld 2 (.t 2))⟩ :: ⟨(some 25), (some (23, true)), (.load false 1 (.t 24))⟩ :: ⟨none, none, .kp [2, 3, 23, 25]⟩ :: vc_event_Same_o1_3
def vc_event_Same_o1_1 : List VO := ⟨(some 16), none, (.mv (.t 15))⟩ :: ⟨(some 17), (some (16, true)), (.fld 1 (.t 2))⟩ :: ⟨(some 18), (some (16, true)), (.load false 1 (.t 17))⟩ :: ⟨none, none, .kp [2, 3, 16, 18]⟩ :: ⟨(some 19), (some (16, true)), (.fld 1 (.t 3))⟩ :: ⟨(some 20), (some (16, true)), (.load false 1 (.t 19))⟩ :: vc_event_Same_o1_2
def vc_event_Same_o1 : List VO := ⟨(some 11), none, (.fld 0 (.t 2))⟩ :: ⟨(some 12), none, (.load false 1 (.t 11))⟩ :: ⟨(some 13), none, (.fld 0 (.t 3))⟩ :: ⟨(some 14), none, (.load false 1 (.t 13))⟩ :: ⟨none, none, .kp [2, 3, 12, 14]⟩ :: ⟨(some 15), none, (.bin .eql (.t 12) (.t 14))⟩ :: ⟨none, none, .kp [2, 3, 15]⟩ :: vc_event_Same_o1_1
def vc_event_Same_r1 : VCode := (.keep [2, 3] (.seq (.region false vc_event_Same_o1) (.keep [4] .ret)))
def vc_event_Same_o2 : List VO := ⟨(some 4), none, (.mv (.c (.val (.bool false))))⟩ :: []
def vc_event_Same_r2 : VCode := (.keep [2, 3, 10] (.cond (.t 10) (.seq (.region false vc_event_Same_o2) (.keep [4] .ret)) .skip))
def vc_event_Same_o3_1 : List VO := ⟨(some 10), none, (.un .not (.t 9))⟩ :: []
def vc_event_Same_o3 : List VO := ⟨(some 5), none, (.fld 5 (.t 2))⟩ :: ⟨(some 6), none, (.load true 5 (.t 5))⟩ :: ⟨(some 7), none, (.fld 5 (.t 3))⟩ :: ⟨(some 8), none, (.load true 5 (.t 7))⟩ :: ⟨none, none, .kp [2, 3, 6, 8]⟩ :: ⟨(some 9), none, (.call 92 [] [(.t 6), (.t 8)])⟩ :: ⟨none, none, .kp [2, 3, 9]⟩ :: vc_event_Same_o3_1
def vc_event_Same_r3 : VCode := (.keep [2, 3] (.seq (.seq (.region false vc_event_Same_o3) vc_event_Same_r2) vc_event_Same_r1))
def vc_event_Same_o4 : List VO := ⟨(some 2), none, (.box 36 (.t 0))⟩ :: ⟨(some 3), none, (.box 36 (.t 1))⟩ :: ⟨none, none, .kp [2, 3]⟩ :: ⟨(some 4), none, (.mv (.c (.val (.bool false))))⟩ :: []
def vc_event_Same : VCode := (.seq (.region false vc_event_Same_o4) vc_event_Same_r3)
def rs_event_Same : List RV := [(.t 4)]
theorem comp_event_Same : ccode Try.prog (Try.f54.body.getD .skip) = some (strip vc_event_Same) := by kernel_rfl
theorem code_event_Same : IsCode Try.prog id_event_Same 51 vc_event_Same rs_event_Same := ⟨_, _, Try.func54, by kernel_rfl, rfl, comp_event_Same, by kernel_rfl, by kernel_rfl, rfl⟩

/- usher/event.Clone -/
def vc_event_Clone_o1 : List VO := ⟨(some 7), none, (.load true 13 (.t 1))⟩ :: ⟨none, none, (.store 13 (.t 2) (.t 7))⟩ :: []
def vc_event_Clone_r1 : VCode := (.keep [1, 2] (.seq (.region false vc_event_Clone_o1) (.keep [2] .ret)))
def vc_event_Clone_o2 : List VO := ⟨(some 3), none, (.fld 5 (.t 1))⟩ :: ⟨(some 4), none, (.load true 5 (.t 3))⟩ :: ⟨(some 5), none, (.call 93 [] [(.t 4)])⟩ :: ⟨none, none, .kp [1, 2, 5]⟩ :: ⟨(some 6), none, (.fld 5 (.t 1))⟩ :: ⟨none, none, (.store 5 (.t 6) (.t 5))⟩ :: []
def vc_event_Clone_r2 : VCode := (.keep [1, 2] (.seq (.region false vc_event_Clone_o2) vc_event_Clone_r1))
def vc_event_Clone_o3 : List VO := ⟨(some 1), none, (.box 36 (.t 0))⟩ :: ⟨(some 2), none, (.alloc 36 [(.val (.int .i64 0)), (.val (.int .i64 0)), (.val (.int .i64 0)), (.val (.int .i64 0)), (.val (.string ⟨#[]⟩)), (.val (.int .i64 0)), (.val (.int .i64 0)), (.val (.int .u64 0)), (.val (.string ⟨#[]⟩)), (.val (.slice none 0 0)), (.val (.int .i64 0)), (.val (.int .u64 0)), (.val (.int .i64 0))])⟩ :: []
def vc_event_Clone : VCode := (.seq (.region false vc_event_Clone_o3) vc_event_Clone_r2)
def rs_event_Clone : List RV := [(.c 2 true 13)]
theorem comp_event_Clone : ccode Try.prog (Try.f55.body.getD .skip) = some (strip vc_event_Clone) := by kernel_rfl
theorem code_event_Clone : IsCode Try.prog id_event_Clone 8 vc_event_Clone rs_event_Clone := ⟨_, _, Try.func55, by kernel_rfl, rfl, comp_event_Clone, by kernel_rfl, by kernel_rfl, rfl⟩

/- usher/event.Encode -/
def vc_event_Encode_o1 : List VO := ⟨(some 10), none, (.load true 13 (.t 1))⟩ :: ⟨(some 11), none, (.call 94 [] [(.c (.val (.slice none 0 0))), (.t 10)])⟩ :: ⟨none, none, .kp [11]⟩ :: ⟨(some 2), none, (.mv (.t 11))⟩ :: ⟨(some 3), none, (.mv (.c (.val (.int .i64 0))))⟩ :: []
def vc_event_Encode_r1 : VCode := (.keep [1] (.seq (.region false vc_event_Encode_o1) (.keep [2, 3] .ret)))
def vc_event_Encode_o2 : List VO := ⟨(some 9), none, (.mv (.t 4))⟩ :: ⟨(some 2), none, (.mv (.c (.val (.slice none 0 0))))⟩ :: ⟨(some 3), none, (.mv (.t 9))⟩ :: []
def vc_event_Encode_c2 : VCode := (.seq (.region false vc_event_Encode_o2) (.keep [2, 3] .ret))
def vc_event_Encode_r3 : VCode := (.keep [1, 4, 8] (.cond (.t 8) vc_event_Encode_c2 .skip))
def vc_event_Encode_o3 : List VO := ⟨(some 7), none, (.mv (.t 4))⟩ :: ⟨(some 8), none, (.bin .neq (.t 7) (.c (.val (.int .i64 0))))⟩ :: []
def vc_event_Encode_r4 : VCode := (.keep [1, 4] (.seq (.region false vc_event_Encode_o3) vc_event_Encode_r3))
def vc_event_Encode_o4 : List VO := ⟨(some 5), none, (.load true 13 (.t 1))⟩ :: ⟨(some 6), none, (.call 52 [] [(.t 5)])⟩ :: ⟨(some 4), none, (.mv (.t 6))⟩ :: []
def vc_event_Encode_r5 : VCode := (.keep [1] (.seq (.seq (.region false vc_event_Encode_o4) vc_event_Encode_r4) vc_event_Encode_r1))
def vc_event_Encode_o5 : List VO := ⟨(some 1), none, (.box 36 (.t 0))⟩ :: ⟨(some 2), none, (.mv (.c (.val (.slice none 0 0))))⟩ :: ⟨none, none, .kp [1]⟩ :: ⟨(some 3), none, (.mv (.c (.val (.int .i64 0))))⟩ :: []
def vc_event_Encode : VCode := (.seq (.region false vc_event_Encode_o5) vc_event_Encode_r5)
def rs_event_Encode : List RV := [(.t 2), (.t 3)]
theorem comp_event_Encode : ccode Try.prog (Try.f56.body.getD .skip) = some (strip vc_event_Encode) := by kernel_rfl
theorem code_event_Encode : IsCode Try.prog id_event_Encode 12 vc_event_Encode rs_event_Encode := ⟨_, _, Try.func56, by kernel_rfl, rfl, comp_event_Encode, by kernel_rfl, by kernel_rfl, rfl⟩

/- usher/event.Decode -/
def vc_event_Decode_o1 : List VO := ⟨(some 17), none, (.load true 13 (.t 5))⟩ :: ⟨none, none, (.store 13 (.t 2) (.t 17))⟩ :: ⟨none, none, .kp [2]⟩ :: ⟨(some 3), none, (.mv (.c (.val (.int .i64 0))))⟩ :: []
def vc_event_Decode_r1 : VCode := (.keep [2, 5] (.seq (.region false vc_event_Decode_o1) (.keep [2, 3] .ret)))
def vc_event_Decode_o2 : List VO := ⟨(some 15), none, (.build [(.val (.int .i64 0)), (.val (.int .i64 0)), (.val (.int .i64 0)), (.val (.int .i64 0)), (.val (.string ⟨#[]⟩)), (.val (.int .i64 0)), (.val (.int .i64 0)), (.val (.int .u64 0)), (.val (.string ⟨#[]⟩)), (.val (.slice none 0 0)), (.val (.int .i64 0)), (.val (.int .u64 0)), (.val (.int .i64 0))] [])⟩ :: ⟨(some 16), none, (.mv (.t 6))⟩ :: ⟨none, none, (.store 13 (.t 2) (.t 15))⟩ :: ⟨none, none, .kp [2, 16]⟩ :: ⟨(some 3), none, (.mv (.t 16))⟩ :: []
def vc_event_Decode_c2 : VCode := (.seq (.region false vc_event_Decode_o2) (.keep [2, 3] .ret))
def vc_event_Decode_r3 : VCode := (.keep [2, 5, 6, 14] (.cond (.t 14) vc_event_Decode_c2 .skip))
def vc_event_Decode_o3 : List VO := ⟨(some 13), none, (.mv (.t 6))⟩ :: ⟨(some 14), none, (.bin .neq (.t 13) (.c (.val (.int .i64 0))))⟩ :: []
def vc_event_Decode_r4 : VCode := (.keep [2, 5, 6] (.seq (.region false vc_event_Decode_o3) vc_event_Decode_r3))
def vc_event_Decode_o4 : List VO := ⟨(some 11), none, (.mv (.t 4))⟩ :: ⟨(some 12), none, (.call 97 [] [(.t 11)])⟩ :: ⟨none, none, .kp [2, 5, 12]⟩ :: ⟨(some 6), none, (.mv (.t 12))⟩ :: []
def vc_event_Decode_r5 : VCode := (.keep [2, 4, 5] (.seq (.seq (.region false vc_event_Decode_o4) vc_event_Decode_r4) vc_event_Decode_r1))
def vc_event_Decode_o5 : List VO := ⟨(some 9), none, (.mv (.t 4))⟩ :: ⟨(some 10), none, (.call 96 [] [(.t 9)])⟩ :: ⟨(some 5), none, (.alloc 36 [(.val (.int .i64 0)), (.val (.int .i64 0)), (.val (.int .i64 0)), (.val (.int .i64 0)), (.val (.string ⟨#[]⟩)), (.val (.int .i64 0)), (.val (.int .i64 0)), (.val (.int .u64 0)), (.val (.string ⟨#[]⟩)), (.val (.slice none 0 0)), (.val (.int .i64 0)), (.val (.int .u64 0)), (.val (.int .i64 0))])⟩ :: ⟨none, none, (.store 13 (.t 5) (.t 10))⟩ :: []
def vc_event_Decode_r6 : VCode := (.keep [2, 4] (.seq (.region false vc_event_Decode_o5) vc_event_Decode_r5))
def vc_event_Decode_o6 : List VO := ⟨(some 7), none, (.mv (.t 0))⟩ :: ⟨(some 8), none, (.call 95 [] [(.t 7)])⟩ :: ⟨none, none, .kp [2, 8]⟩ :: ⟨(some 4), none, (.mv (.t 8))⟩ :: []
def vc_event_Decode_r7 : VCode := (.keep [0, 2] (.seq (.region false vc_event_Decode_o6) vc_event_Decode_r6))
def vc_event_Decode_o7 : List VO := ⟨(some 2), none, (.alloc 36 [(.val (.int .i64 0)), (.val (.int .i64 0)), (.val (.int .i64 0)), (.val (.int .i64 0)), (.val (.string ⟨#[]⟩)), (.val (.int .i64 0)), (.val (.int .i64 0)), (.val (.int .u64 0)), (.val (.string ⟨#[]⟩)), (.val (.slice none 0 0)), (.val (.int .i64 0)), (.val (.int .u64 0)), (.val (.int .i64 0))])⟩ :: ⟨(some 3), none, (.mv (.c (.val (.int .i64 0))))⟩ :: []
def vc_event_Decode : VCode := (.seq (.region false vc_event_Decode_o7) vc_event_Decode_r7)
def rs_event_Decode : List RV := [(.c 2 true 13), (.t 3)]
theorem comp_event_Decode : ccode Try.prog (Try.f57.body.getD .skip) = some (strip vc_event_Decode) := by kernel_rfl
theorem code_event_Decode : IsCode Try.prog id_event_Decode 18 vc_event_Decode rs_event_Decode := ⟨_, _, Try.func57, by kernel_rfl, rfl, comp_event_Decode, by kernel_rfl, by kernel_rfl, rfl⟩

/- usher/event.later -/
def vc_event_later_o1 : List VO := ⟨(some 2), none, (.mv (.c (.val (.string ⟨#[]⟩))))⟩ :: []
def vc_event_later_r1 : VCode := (.keep [] (.seq (.region false vc_event_later_o1) (.keep [2] .ret)))
def vc_event_later_o2 : List VO := ⟨(some 2), none, (.mv (.c (.val (.string ⟨#[97, 99, 99, 101, 112, 116, 101, 100]⟩))))⟩ :: []
def vc_event_later_o3 : List VO := ⟨(some 2), none, (.mv (.c (.val (.string ⟨#[111, 117, 116, 99, 111, 109, 101]⟩))))⟩ :: []
def vc_event_later_o4 : List VO := ⟨(some 2), none, (.mv (.c (.val (.string ⟨#[109, 97, 114, 107, 101, 114]⟩))))⟩ :: []
def vc_event_later_o5 : List VO := ⟨(some 2), none, (.mv (.c (.val (.string ⟨#[99, 111, 109, 112, 108, 101, 116, 101, 100]⟩))))⟩ :: []
def vc_event_later_o6 : List VO := ⟨(some 2), none, (.mv (.c (.val (.string ⟨#[102, 97, 105, 108, 101, 100]⟩))))⟩ :: []
def vc_event_later_o7 : List VO := ⟨(some 2), none, (.mv (.c (.val (.string ⟨#[99, 97, 110, 99, 101, 108, 101, 100]⟩))))⟩ :: []
def vc_event_later_o8 : List VO := ⟨(some 2), none, (.mv (.c (.val (.string ⟨#[116, 101, 114, 109, 105, 110, 97, 116, 101, 100]⟩))))⟩ :: []
def vc_event_later_o9 : List VO := ⟨(some 2), none, (.mv (.c (.val (.string ⟨#[116, 105, 109, 101, 100, 79, 117, 116]⟩))))⟩ :: []
def vc_event_later_r2 : VCode := (.keep [18] (.cond (.t 18) (.seq (.region false vc_event_later_o9) (.keep [2] .ret)) .skip))
def vc_event_later_o10 : List VO := ⟨(some 19), none, (.bin .eql (.t 3) (.c (.val (.int .i64 19))))⟩ :: ⟨(some 18), none, (.mv (.t 19))⟩ :: []
def vc_event_later_r3 : VCode := (.keep [3, 16] (.cond (.t 16) (.seq (.region false vc_event_later_o8) (.keep [2] .ret)) (.seq (.region false vc_event_later_o10) vc_event_later_r2)))
def vc_event_later_o11 : List VO := ⟨(some 17), none, (.bin .eql (.t 3) (.c (.val (.int .i64 18))))⟩ :: ⟨(some 16), none, (.mv (.t 17))⟩ :: []
def vc_event_later_r4 : VCode := (.keep [3, 14] (.cond (.t 14) (.seq (.region false vc_event_later_o7) (.keep [2] .ret)) (.seq (.region false vc_event_later_o11) vc_event_later_r3)))
def vc_event_later_o12 : List VO := ⟨(some 15), none, (.bin .eql (.t 3) (.c (.val (.int .i64 17))))⟩ :: ⟨(some 14), none, (.mv (.t 15))⟩ :: []
def vc_event_later_r5 : VCode := (.keep [3, 12] (.cond (.t 12) (.seq (.region false vc_event_later_o6) (.keep [2] .ret)) (.seq (.region false vc_event_later_o12) vc_event_later_r4)))
def vc_event_later_o13 : List VO := ⟨(some 13), none, (.bin .eql (.t 3) (.c (.val (.int .i64 16))))⟩ :: ⟨(some 12), none, (.mv (.t 13))⟩ :: []
def vc_event_later_r6 : VCode := (.keep [3, 10] (.cond (.t 10) (.seq (.region false vc_event_later_o5) (.keep [2] .ret)) (.seq (.region false vc_event_later_o13) vc_event_later_r5)))
def vc_event_later_o14 : List VO := ⟨(some 11), none, (.bin .eql (.t 3) (.c (.val (.int .i64 15))))⟩ :: ⟨(some 10), none, (.mv (.t 11))⟩ :: []
def vc_event_later_r7 : VCode := (.keep [3, 8] (.cond (.t 8) (.seq (.region false vc_event_later_o4) (.keep [2] .ret)) (.seq (.region false vc_event_later_o14) vc_event_later_r6)))
def vc_event_later_o15 : List VO := ⟨(some 9), none, (.bin .eql (.t 3) (.c (.val (.int .i64 14))))⟩ :: ⟨(some 8), none, (.mv (.t 9))⟩ :: []
def vc_event_later_r8 : VCode := (.keep [3, 6] (.cond (.t 6) (.seq (.region false vc_event_later_o3) (.keep [2] .ret)) (.seq (.region false vc_event_later_o15) vc_event_later_r7)))
def vc_event_later_o16 : List VO := ⟨(some 7), none, (.bin .eql (.t 3) (.c (.val (.int .i64 13))))⟩ :: ⟨(some 6), none, (.mv (.t 7))⟩ :: []
def vc_event_later_r9 : VCode := (.keep [3, 4] (.cond (.t 4) (.seq (.region false vc_event_later_o2) (.keep [2] .ret)) (.seq (.region false vc_event_later_o16) vc_event_later_r8)))
def vc_event_later_o17 : List VO := ⟨(some 5), none, (.bin .eql (.t 3) (.c (.val (.int .i64 12))))⟩ :: ⟨(some 4), none, (.mv (.t 5))⟩ :: []
def vc_event_later_r10 : VCode := (.keep [3] (.block 0 (.seq (.region false vc_event_later_o17) vc_event_later_r9)))
def vc_event_later_o18 : List VO := ⟨(some 3), none, (.mv (.t 0))⟩ :: []
def vc_event_later_r11 : VCode := (.keep [0] (.seq (.seq (.region false vc_event_later_o18) vc_event_later_r10) vc_event_later_r1))
def vc_event_later_o19 : List VO := ⟨(some 2), none, (.mv (.c (.val (.string ⟨#[]⟩))))⟩ :: []
def vc_event_later : VCode := (.seq (.region false vc_event_later_o19) vc_event_later_r11)
def rs_event_later : List RV := [(.t 2)]
theorem comp_event_later : ccode Try.prog (Try.f81.body.getD .skip) = some (strip vc_event_later) := by kernel_rfl
theorem code_event_later : IsCode Try.prog id_event_later 20 vc_event_later rs_event_later := ⟨_, _, Try.func81, by kernel_rfl, rfl, comp_event_later, by kernel_rfl, by kernel_rfl, rfl⟩

/- usher/event.attempt -/
def vc_event_attempt_o1_1 : List VO := ⟨(some 29), (some (27, true)), (.load false 1 (.t 28))⟩ :: ⟨(some 30), (some (27, true)), (.bin .leq (.t 29) (.c (.val (.int .i64 2147483648))))⟩ :: ⟨none, none, .kp [27, 30]⟩ :: ⟨(some 31), none, (.pick (.t 27) (.t 30) (.c (.val (.bool false))))⟩ :: ⟨none, none, .kp [31]⟩ :: ⟨(some 2), none, (.mv (.t 31))⟩ :: []
def vc_event_attempt_o1 : List VO := ⟨(some 24), none, (.fld 2 (.t 1))⟩ :: ⟨(some 25), none, (.load false 1 (.t 24))⟩ :: ⟨(some 26), none, (.bin .geq (.t 25) (.c (.val (.int .i64 1))))⟩ :: ⟨none, none, .kp [1, 26]⟩ :: ⟨(some 27), none, (.mv (.t 26))⟩ :: ⟨(some 28), (some (27, true)), (.fld 2 (.t 1))⟩ :: ⟨none, none, .kp [27, 28]⟩ :: vc_event_attempt_o1_1
def vc_event_attempt_r1 : VCode := (.keep [1] (.seq (.region false vc_event_attempt_o1) (.keep [2] .ret)))
def vc_event_attempt_o2 : List VO := ⟨(some 9), none, (.fld 2 (.t 1))⟩ :: ⟨(some 10), none, (.load false 1 (.t 9))⟩ :: ⟨none, none, .kp [10]⟩ :: ⟨(some 11), none, (.bin .eql (.t 10) (.c (.val (.int .i64 0))))⟩ :: ⟨(some 2), none, (.mv (.t 11))⟩ :: []
def vc_event_attempt_o3_1 : List VO := ⟨(some 21), (some (19, true)), (.load false 1 (.t 20))⟩ :: ⟨(some 22), (some (19, true)), (.bin .leq (.t 21) (.c (.val (.int .i64 10))))⟩ :: ⟨none, none, .kp [19, 22]⟩ :: ⟨(some 23), none, (.pick (.t 19) (.t 22) (.c (.val (.bool false))))⟩ :: ⟨none, none, .kp [23]⟩ :: ⟨(some 2), none, (.mv (.t 23))⟩ :: []
def vc_event_attempt_o3 : List VO := ⟨(some 16), none, (.fld 2 (.t 1))⟩ :: ⟨(some 17), none, (.load false 1 (.t 16))⟩ :: ⟨(some 18), none, (.bin .geq (.t 17) (.c (.val (.int .i64 0))))⟩ :: ⟨none, none, .kp [1, 18]⟩ :: ⟨(some 19), none, (.mv (.t 18))⟩ :: ⟨(some 20), (some (19, true)), (.fld 2 (.t 1))⟩ :: ⟨none, none, .kp [19, 20]⟩ :: vc_event_attempt_o3_1
def vc_event_attempt_r2 : VCode := (.keep [1, 12] (.cond (.t 12) (.seq (.region false vc_event_attempt_o3) (.keep [2] .ret)) .skip))
def vc_event_attempt_o4 : List VO := ⟨(some 13), none, (.fld 0 (.t 1))⟩ :: ⟨(some 14), none, (.load false 1 (.t 13))⟩ :: ⟨(some 15), none, (.bin .eql (.t 14) (.c (.val (.int .i64 5))))⟩ :: ⟨none, none, .kp [1, 15]⟩ :: ⟨(some 12), none, (.mv (.t 15))⟩ :: []
def vc_event_attempt_c3 : VCode := (.seq (.region false vc_event_attempt_o4) vc_event_attempt_r2)
def vc_event_attempt_r4 : VCode := (.keep [1, 3] (.cond (.t 3) (.seq (.region false vc_event_attempt_o2) (.keep [2] .ret)) vc_event_attempt_c3))
def vc_event_attempt_o5_1 : List VO := ⟨(some 3), none, (.mv (.t 8))⟩ :: []
def vc_event_attempt_o5 : List VO := ⟨(some 4), none, (.fld 0 (.t 1))⟩ :: ⟨(some 5), none, (.load false 1 (.t 4))⟩ :: ⟨(some 6), none, (.call 118 [] [(.t 5)])⟩ :: ⟨none, none, .kp [1, 6]⟩ :: ⟨(some 7), none, (.bin .and (.t 6) (.c (.val (.int .i64 1))))⟩ :: ⟨(some 8), none, (.bin .eql (.t 7) (.c (.val (.int .i64 0))))⟩ :: ⟨none, none, .kp [1, 8]⟩ :: vc_event_attempt_o5_1
def vc_event_attempt_c5 : VCode := (.seq (.region false vc_event_attempt_o5) vc_event_attempt_r4)
def vc_event_attempt_r6 : VCode := (.keep [1] (.seq (.block 0 vc_event_attempt_c5) vc_event_attempt_r1))
def vc_event_attempt_o6 : List VO := ⟨(some 1), none, (.box 36 (.t 0))⟩ :: ⟨(some 2), none, (.mv (.c (.val (.bool false))))⟩ :: []
def vc_event_attempt : VCode := (.seq (.region false vc_event_attempt_o6) vc_event_attempt_r6)
def rs_event_attempt : List RV := [(.t 2)]
theorem comp_event_attempt : ccode Try.prog (Try.f82.body.getD .skip) = some (strip vc_event_attempt) := by kernel_rfl
theorem code_event_attempt : IsCode Try.prog id_event_attempt 32 vc_event_attempt rs_event_attempt := ⟨_, _, Try.func82, by kernel_rfl, rfl, comp_event_attempt, by kernel_rfl, by kernel_rfl, rfl⟩

/- usher/event.words -/
def vc_event_words_o1 : List VO := ⟨(some 21), none, (.fld 4 (.t 1))⟩ :: ⟨(some 22), none, (.load false 1 (.t 21))⟩ :: ⟨none, none, .kp [22]⟩ :: ⟨(some 23), none, (.bin .eql (.t 22) (.c (.val (.string ⟨#[]⟩))))⟩ :: ⟨(some 2), none, (.mv (.t 23))⟩ :: []
def vc_event_words_r1 : VCode := (.keep [1] (.seq (.region false vc_event_words_o1) (.keep [2] .ret)))
def vc_event_words_o2 : List VO := ⟨(some 11), none, (.fld 4 (.t 1))⟩ :: ⟨(some 12), none, (.load false 1 (.t 11))⟩ :: ⟨none, none, .kp [12]⟩ :: ⟨(some 13), none, (.call 119 [] [(.t 12)])⟩ :: ⟨(some 2), none, (.mv (.t 13))⟩ :: []
def vc_event_words_o3 : List VO := ⟨(some 18), none, (.fld 4 (.t 1))⟩ :: ⟨(some 19), none, (.load false 1 (.t 18))⟩ :: ⟨none, none, .kp [19]⟩ :: ⟨(some 20), none, (.call 120 [] [(.t 19)])⟩ :: ⟨(some 2), none, (.mv (.t 20))⟩ :: []
def vc_event_words_r2 : VCode := (.keep [1, 14] (.cond (.t 14) (.seq (.region false vc_event_words_o3) (.keep [2] .ret)) .skip))
def vc_event_words_o4 : List VO := ⟨(some 15), none, (.mv (.t 3))⟩ :: ⟨(some 16), none, (.bin .and (.t 15) (.c (.val (.int .i64 8))))⟩ :: ⟨none, none, .kp [1, 16]⟩ :: ⟨(some 17), none, (.bin .neq (.t 16) (.c (.val (.int .i64 0))))⟩ :: ⟨(some 14), none, (.mv (.t 17))⟩ :: []
def vc_event_words_r3 : VCode := (.keep [1, 3, 7] (.cond (.t 7) (.seq (.region false vc_event_words_o2) (.keep [2] .ret)) (.seq (.region false vc_event_words_o4) vc_event_words_r2)))
def vc_event_words_o5 : List VO := ⟨(some 8), none, (.mv (.t 3))⟩ :: ⟨(some 9), none, (.bin .and (.t 8) (.c (.val (.int .i64 4))))⟩ :: ⟨(some 10), none, (.bin .neq (.t 9) (.c (.val (.int .i64 0))))⟩ :: ⟨none, none, .kp [1, 3, 10]⟩ :: ⟨(some 7), none, (.mv (.t 10))⟩ :: []
def vc_event_words_r4 : VCode := (.keep [1, 3] (.block 0 (.seq (.region false vc_event_words_o5) vc_event_words_r3)))
def vc_event_words_o6 : List VO := ⟨(some 4), none, (.fld 0 (.t 1))⟩ :: ⟨(some 5), none, (.load false 1 (.t 4))⟩ :: ⟨(some 6), none, (.call 118 [] [(.t 5)])⟩ :: ⟨none, none, .kp [1, 6]⟩ :: ⟨(some 3), none, (.mv (.t 6))⟩ :: []
def vc_event_words_r5 : VCode := (.keep [1] (.seq (.seq (.region false vc_event_words_o6) vc_event_words_r4) vc_event_words_r1))
def vc_event_words_o7 : List VO := ⟨(some 1), none, (.box 36 (.t 0))⟩ :: ⟨(some 2), none, (.mv (.c (.val (.bool false))))⟩ :: []
def vc_event_words : VCode := (.seq (.region false vc_event_words_o7) vc_event_words_r5)
def rs_event_words : List RV := [(.t 2)]
theorem comp_event_words : ccode Try.prog (Try.f83.body.getD .skip) = some (strip vc_event_words) := by kernel_rfl
theorem code_event_words : IsCode Try.prog id_event_words 24 vc_event_words rs_event_words := ⟨_, _, Try.func83, by kernel_rfl, rfl, comp_event_words, by kernel_rfl, by kernel_rfl, rfl⟩

/- usher/event.rest -/
def vc_event_rest_o1 : List VO := ⟨(some 48), none, (.fld 10 (.t 1))⟩ :: ⟨(some 49), none, (.load true 3 (.t 48))⟩ :: ⟨none, none, .kp [49]⟩ :: ⟨(some 50), none, (.call 122 [] [(.t 49)])⟩ :: ⟨(some 51), none, (.bin .eql (.t 50) (.c (.val (.int .i64 0))))⟩ :: ⟨none, none, .kp [51]⟩ :: ⟨(some 2), none, (.mv (.t 51))⟩ :: []
def vc_event_rest_r1 : VCode := (.keep [1] (.seq (.region false vc_event_rest_o1) (.keep [2] .ret)))
def vc_event_rest_o2 : List VO := ⟨(some 44), none, (.fld 10 (.t 1))⟩ :: ⟨(some 45), none, (.load true 3 (.t 44))⟩ :: ⟨none, none, .kp [45]⟩ :: ⟨(some 46), none, (.build [(.val (.int .i64 0)), (.val (.int .u64 0)), (.val (.int .i64 0))] [])⟩ :: ⟨(some 47), none, (.eqs false [0, 0, 0] (.t 45) (.t 46))⟩ :: ⟨none, none, .kp [47]⟩ :: ⟨(some 2), none, (.mv (.t 47))⟩ :: []
def vc_event_rest_r2 : VCode := (.keep [1, 43] (.cond (.t 43) (.seq (.region false vc_event_rest_o2) (.keep [2] .ret)) .skip))
def vc_event_rest_o3 : List VO := ⟨(some 41), none, (.mv (.t 3))⟩ :: ⟨(some 42), none, (.bin .and (.t 41) (.c (.val (.int .i64 32))))⟩ :: ⟨none, none, .kp [1, 42]⟩ :: ⟨(some 43), none, (.bin .eql (.t 42) (.c (.val (.int .i64 0))))⟩ :: []
def vc_event_rest_r3 : VCode := (.keep [1, 3] (.seq (.seq (.region false vc_event_rest_o3) vc_event_rest_r2) vc_event_rest_r1))
def vc_event_rest_o4 : List VO := ⟨(some 2), none, (.mv (.c (.val (.bool false))))⟩ :: []
def vc_event_rest_r4 : VCode := (.keep [1, 3, 40] (.cond (.t 40) (.seq (.region false vc_event_rest_o4) (.keep [2] .ret)) .skip))
def vc_event_rest_o5_3 : List VO := ⟨(some 40), none, (.pick (.t 35) (.c (.val (.bool true))) (.t 39))⟩ :: []
def vc_event_rest_o5_2 : List VO := ⟨(some 35), none, (.mv (.t 34))⟩ :: ⟨(some 36), (some (35, false)), (.fld 5 (.t 1))⟩ :: ⟨(some 37), (some (35, false)), (.load true 5 (.t 36))⟩ :: ⟨none, none, .kp [1, 3, 35, 37]⟩ :: ⟨(some 38), (some (35, false)), (.call 121 [] [(.t 37)])⟩ :: ⟨(some 39), (some (35, false)), (.bin .neq (.t 38) (.c (.val (.int .i64 0))))⟩ :: ⟨none, none, .kp [1, 3, 35, 39]⟩ :: vc_event_rest_o5_3
def vc_event_rest_o5_1 : List VO := ⟨(some 30), (some (28, true)), (.load true 5 (.t 29))⟩ :: ⟨none, none, .kp [1, 3, 28, 30]⟩ :: ⟨(some 31), (some (28, true)), (.build [(.val (.int .i64 0)), (.val (.int .i64 0)), (.val (.int .u64 0)), (.val (.string ⟨#[]⟩)), (.val (.slice none 0 0))] [])⟩ :: ⟨(some 32), (some (28, true)), (.call 92 [] [(.t 30), (.t 31)])⟩ :: ⟨none, none, .kp [1, 3, 28, 32]⟩ :: ⟨(some 33), (some (28, true)), (.un .not (.t 32))⟩ :: ⟨(some 34), none, (.pick (.t 28) (.t 33) (.c (.val (.bool false))))⟩ :: ⟨none, none, .kp [1, 3, 34]⟩ :: vc_event_rest_o5_2
def vc_event_rest_o5 : List VO := ⟨(some 25), none, (.mv (.t 3))⟩ :: ⟨(some 26), none, (.bin .and (.t 25) (.c (.val (.int .i64 16))))⟩ :: ⟨(some 27), none, (.bin .eql (.t 26) (.c (.val (.int .i64 0))))⟩ :: ⟨none, none, .kp [1, 3, 27]⟩ :: ⟨(some 28), none, (.mv (.t 27))⟩ :: ⟨(some 29), (some (28, true)), (.fld 5 (.t 1))⟩ :: vc_event_rest_o5_1
def vc_event_rest_r5 : VCode := (.keep [1, 3] (.seq (.seq (.region false vc_event_rest_o5) vc_event_rest_r4) vc_event_rest_r3))
def vc_event_rest_o6 : List VO := ⟨(some 2), none, (.mv (.c (.val (.bool false))))⟩ :: []
def vc_event_rest_r6 : VCode := (.keep [1, 3, 24] (.cond (.t 24) (.seq (.region false vc_event_rest_o6) (.keep [2] .ret)) .skip))
def vc_event_rest_o7_3 : List VO := ⟨(some 22), (some (20, false)), (.load false 1 (.t 21))⟩ :: ⟨none, none, .kp [1, 3, 20, 22]⟩ :: ⟨(some 23), (some (20, false)), (.bin .gtr (.t 22) (.c (.val (.int .i64 2199023255552))))⟩ :: ⟨(some 24), none, (.pick (.t 20) (.c (.val (.bool true))) (.t 23))⟩ :: []
def vc_event_rest_o7_2 : List VO := ⟨(some 17), (some (15, false)), (.load false 1 (.t 16))⟩ :: ⟨none, none, .kp [1, 3, 15, 17]⟩ :: ⟨(some 18), (some (15, false)), (.bin .lss (.t 17) (.c (.val (.int .i64 0))))⟩ :: ⟨(some 19), none, (.pick (.t 15) (.c (.val (.bool true))) (.t 18))⟩ :: ⟨none, none, .kp [1, 3, 19]⟩ :: ⟨(some 20), none, (.mv (.t 19))⟩ :: ⟨(some 21), (some (20, false)), (.fld 3 (.t 1))⟩ :: vc_event_rest_o7_3
def vc_event_rest_o7_1 : List VO := ⟨(some 12), (some (10, true)), (.load false 1 (.t 11))⟩ :: ⟨none, none, .kp [1, 3, 10, 12]⟩ :: ⟨(some 13), (some (10, true)), (.bin .neq (.t 12) (.c (.val (.int .i64 0))))⟩ :: ⟨(some 14), none, (.pick (.t 10) (.t 13) (.c (.val (.bool false))))⟩ :: ⟨none, none, .kp [1, 3, 14]⟩ :: ⟨(some 15), none, (.mv (.t 14))⟩ :: ⟨(some 16), (some (15, false)), (.fld 3 (.t 1))⟩ :: vc_event_rest_o7_2
def vc_event_rest_o7 : List VO := ⟨(some 7), none, (.mv (.t 3))⟩ :: ⟨(some 8), none, (.bin .and (.t 7) (.c (.val (.int .i64 2))))⟩ :: ⟨(some 9), none, (.bin .eql (.t 8) (.c (.val (.int .i64 0))))⟩ :: ⟨none, none, .kp [1, 3, 9]⟩ :: ⟨(some 10), none, (.mv (.t 9))⟩ :: ⟨(some 11), (some (10, true)), (.fld 3 (.t 1))⟩ :: vc_event_rest_o7_1
def vc_event_rest_r7 : VCode := (.keep [1, 3] (.seq (.seq (.region false vc_event_rest_o7) vc_event_rest_r6) vc_event_rest_r5))
def vc_event_rest_o8 : List VO := ⟨(some 4), none, (.fld 0 (.t 1))⟩ :: ⟨(some 5), none, (.load false 1 (.t 4))⟩ :: ⟨(some 6), none, (.call 118 [] [(.t 5)])⟩ :: ⟨none, none, .kp [1, 6]⟩ :: ⟨(some 3), none, (.mv (.t 6))⟩ :: []
def vc_event_rest_r8 : VCode := (.keep [1] (.seq (.region false vc_event_rest_o8) vc_event_rest_r7))
def vc_event_rest_o9 : List VO := ⟨(some 1), none, (.box 36 (.t 0))⟩ :: ⟨(some 2), none, (.mv (.c (.val (.bool false))))⟩ :: []
def vc_event_rest : VCode := (.seq (.region false vc_event_rest_o9) vc_event_rest_r8)
def rs_event_rest : List RV := [(.t 2)]
theorem comp_event_rest : ccode Try.prog (Try.f84.body.getD .skip) = some (strip vc_event_rest) := by kernel_rfl
theorem code_event_rest : IsCode Try.prog id_event_rest 52 vc_event_rest rs_event_rest := ⟨_, _, Try.func84, by kernel_rfl, rfl, comp_event_rest, by kernel_rfl, by kernel_rfl, rfl⟩

/- usher/event.Put -/
def vc_event_Put_o1 : List VO := ⟨(some 58), none, (.mv (.t 5))⟩ :: ⟨(some 4), none, (.mv (.t 58))⟩ :: []
def vc_event_Put_r1 : VCode := (.keep [5] (.seq (.region false vc_event_Put_o1) (.keep [4] .ret)))
def vc_event_Put_o2 : List VO := ⟨(some 54), none, (.mv (.t 5))⟩ :: ⟨(some 55), none, (.fld 10 (.t 3))⟩ :: ⟨none, none, .kp [54, 55]⟩ :: ⟨(some 56), none, (.load true 3 (.t 55))⟩ :: ⟨(some 57), none, (.call 134 [] [(.t 54), (.t 56)])⟩ :: ⟨none, none, .kp [57]⟩ :: ⟨(some 5), none, (.mv (.t 57))⟩ :: []
def vc_event_Put_r2 : VCode := (.keep [3, 5, 53] (.cond (.t 53) (.region false vc_event_Put_o2) .skip))
def vc_event_Put_o3 : List VO := ⟨(some 51), none, (.mv (.t 6))⟩ :: ⟨(some 52), none, (.bin .and (.t 51) (.c (.val (.int .i64 32))))⟩ :: ⟨none, none, .kp [3, 5, 52]⟩ :: ⟨(some 53), none, (.bin .neq (.t 52) (.c (.val (.int .i64 0))))⟩ :: []
def vc_event_Put_r3 : VCode := (.keep [3, 5, 6] (.seq (.seq (.region false vc_event_Put_o3) vc_event_Put_r2) vc_event_Put_r1))
def vc_event_Put_o4 : List VO := ⟨(some 47), none, (.mv (.t 5))⟩ :: ⟨(some 48), none, (.fld 5 (.t 3))⟩ :: ⟨(some 49), none, (.load true 5 (.t 48))⟩ :: ⟨none, none, .kp [3, 6, 47, 49]⟩ :: ⟨(some 50), none, (.call 133 [] [(.t 47), (.t 49)])⟩ :: ⟨none, none, .kp [3, 6, 50]⟩ :: ⟨(some 5), none, (.mv (.t 50))⟩ :: []
def vc_event_Put_r4 : VCode := (.keep [3, 5, 6, 46] (.cond (.t 46) (.region false vc_event_Put_o4) .skip))
def vc_event_Put_o5 : List VO := ⟨(some 44), none, (.mv (.t 6))⟩ :: ⟨(some 45), none, (.bin .and (.t 44) (.c (.val (.int .i64 16))))⟩ :: ⟨(some 46), none, (.bin .neq (.t 45) (.c (.val (.int .i64 0))))⟩ :: []
def vc_event_Put_r5 : VCode := (.keep [3, 5, 6] (.seq (.seq (.region false vc_event_Put_o5) vc_event_Put_r4) vc_event_Put_r3))
def vc_event_Put_o6 : List VO := ⟨(some 40), none, (.mv (.t 5))⟩ :: ⟨(some 41), none, (.fld 4 (.t 3))⟩ :: ⟨(some 42), none, (.load false 1 (.t 41))⟩ :: ⟨none, none, .kp [3, 6, 40, 42]⟩ :: ⟨(some 43), none, (.call 132 [] [(.t 40), (.t 42)])⟩ :: ⟨none, none, .kp [3, 6, 43]⟩ :: ⟨(some 5), none, (.mv (.t 43))⟩ :: []
def vc_event_Put_r6 : VCode := (.keep [3, 5, 6, 39] (.cond (.t 39) (.region false vc_event_Put_o6) .skip))
def vc_event_Put_o7 : List VO := ⟨(some 37), none, (.mv (.t 6))⟩ :: ⟨(some 38), none, (.bin .and (.t 37) (.c (.val (.int .i64 12))))⟩ :: ⟨(some 39), none, (.bin .neq (.t 38) (.c (.val (.int .i64 0))))⟩ :: []
def vc_event_Put_r7 : VCode := (.keep [3, 5, 6] (.seq (.seq (.region false vc_event_Put_o7) vc_event_Put_r6) vc_event_Put_r5))
def vc_event_Put_o8 : List VO := ⟨(some 33), none, (.mv (.t 5))⟩ :: ⟨(some 34), none, (.fld 3 (.t 3))⟩ :: ⟨(some 35), none, (.load false 1 (.t 34))⟩ :: ⟨none, none, .kp [3, 6, 33, 35]⟩ :: ⟨(some 36), none, (.call 66 [] [(.t 33), (.t 35)])⟩ :: ⟨none, none, .kp [3, 6, 36]⟩ :: ⟨(some 5), none, (.mv (.t 36))⟩ :: []
def vc_event_Put_r8 : VCode := (.keep [3, 5, 6, 32] (.cond (.t 32) (.region false vc_event_Put_o8) .skip))
def vc_event_Put_o9 : List VO := ⟨(some 30), none, (.mv (.t 6))⟩ :: ⟨(some 31), none, (.bin .and (.t 30) (.c (.val (.int .i64 2))))⟩ :: ⟨(some 32), none, (.bin .neq (.t 31) (.c (.val (.int .i64 0))))⟩ :: []
def vc_event_Put_r9 : VCode := (.keep [3, 5, 6] (.seq (.seq (.region false vc_event_Put_o9) vc_event_Put_r8) vc_event_Put_r7))
def vc_event_Put_o10 : List VO := ⟨(some 26), none, (.mv (.t 5))⟩ :: ⟨(some 27), none, (.fld 2 (.t 3))⟩ :: ⟨(some 28), none, (.load false 1 (.t 27))⟩ :: ⟨none, none, .kp [3, 6, 26, 28]⟩ :: ⟨(some 29), none, (.call 66 [] [(.t 26), (.t 28)])⟩ :: ⟨none, none, .kp [3, 6, 29]⟩ :: ⟨(some 5), none, (.mv (.t 29))⟩ :: []
def vc_event_Put_r10 : VCode := (.keep [3, 5, 6, 25] (.cond (.t 25) (.region false vc_event_Put_o10) .skip))
def vc_event_Put_o11 : List VO := ⟨(some 23), none, (.mv (.t 6))⟩ :: ⟨(some 24), none, (.bin .and (.t 23) (.c (.val (.int .i64 1))))⟩ :: ⟨(some 25), none, (.bin .neq (.t 24) (.c (.val (.int .i64 0))))⟩ :: []
def vc_event_Put_r11 : VCode := (.keep [3, 5, 6] (.seq (.seq (.region false vc_event_Put_o11) vc_event_Put_r10) vc_event_Put_r9))
def vc_event_Put_d12 : DT := (.op true [3] ⟨(some 21), none, (.load false 1 (.t 20))⟩ (.op false [3] ⟨(some 19), none, (.call 66 [] [(.t 16), (.t 18)])⟩ (.op false [3] ⟨(some 22), none, (.call 66 [] [(.t 19), (.t 21)])⟩ (.op true [] ⟨(some 5), none, (.mv (.t 22))⟩ .done))))
def vc_event_Put_d13 : DT := (.op true [] ⟨(some 16), none, (.mv (.t 5))⟩ (.op true [3] ⟨(some 17), none, (.fld 0 (.t 3))⟩ (.op true [3] ⟨(some 18), none, (.load false 1 (.t 17))⟩ (.op true [3] ⟨(some 20), none, (.fld 1 (.t 3))⟩ vc_event_Put_d12))))
def vc_event_Put_r12 : VCode := (.keep [3, 5, 6] (.seq (.draws [3, 5, 6] vc_event_Put_d13) vc_event_Put_r11))
def vc_event_Put_o14 : List VO := ⟨(some 13), none, (.fld 0 (.t 3))⟩ :: ⟨(some 14), none, (.load false 1 (.t 13))⟩ :: ⟨(some 15), none, (.call 118 [] [(.t 14)])⟩ :: ⟨none, none, .kp [3, 5, 15]⟩ :: ⟨(some 6), none, (.mv (.t 15))⟩ :: []
def vc_event_Put_r13 : VCode := (.keep [3, 5] (.seq (.region false vc_event_Put_o14) vc_event_Put_r12))
def vc_event_Put_o15 : List VO := ⟨(some 12), none, (.mv (.t 5))⟩ :: ⟨(some 4), none, (.mv (.t 12))⟩ :: []
def vc_event_Put_r14 : VCode := (.keep [3, 5, 11] (.cond (.t 11) (.seq (.region false vc_event_Put_o15) (.keep [4] .ret)) .skip))
def vc_event_Put_o16 : List VO := ⟨(some 9), none, (.load true 13 (.t 3))⟩ :: ⟨(some 10), none, (.call 52 [] [(.t 9)])⟩ :: ⟨(some 11), none, (.bin .neq (.t 10) (.c (.val (.int .i64 0))))⟩ :: []
def vc_event_Put_r15 : VCode := (.keep [3, 5] (.seq (.seq (.region false vc_event_Put_o16) vc_event_Put_r14) vc_event_Put_r13))
def vc_event_Put_o17 : List VO := ⟨(some 7), none, (.mv (.t 0))⟩ :: ⟨(some 8), none, (.app 5 1 1 (.c (.val (.slice none 0 0))) (.t 7))⟩ :: ⟨none, none, .kp [3, 8]⟩ :: ⟨(some 5), none, (.mv (.t 8))⟩ :: []
def vc_event_Put_r16 : VCode := (.keep [0, 3] (.seq (.region false vc_event_Put_o17) vc_event_Put_r15))
def vc_event_Put_o18 : List VO := ⟨(some 3), none, (.box 36 (.t 1))⟩ :: ⟨(some 4), none, (.mv (.c (.val (.slice none 0 0))))⟩ :: []
def vc_event_Put : VCode := (.seq (.region false vc_event_Put_o18) vc_event_Put_r16)
def rs_event_Put : List RV := [(.t 4)]
theorem comp_event_Put : ccode Try.prog (Try.f94.body.getD .skip) = some (strip vc_event_Put) := by kernel_rfl
theorem code_event_Put : IsCode Try.prog id_event_Put 59 vc_event_Put rs_event_Put := ⟨_, _, Try.func94, by kernel_rfl, rfl, comp_event_Put, by kernel_rfl, by kernel_rfl, rfl⟩

/- usher/event.Read -/
def vc_event_Read_o1 : List VO := ⟨(some 20), none, (.load true 13 (.t 3))⟩ :: ⟨none, none, (.store 13 (.t 2) (.t 20))⟩ :: []
def vc_event_Read_r1 : VCode := (.keep [2, 3] (.seq (.region false vc_event_Read_o1) (.keep [2] .ret)))
def vc_event_Read_o2 : List VO := ⟨(some 19), none, (.build [(.val (.int .i64 0)), (.val (.int .i64 0)), (.val (.int .i64 0)), (.val (.int .i64 0)), (.val (.string ⟨#[]⟩)), (.val (.int .i64 0)), (.val (.int .i64 0)), (.val (.int .u64 0)), (.val (.string ⟨#[]⟩)), (.val (.slice none 0 0)), (.val (.int .i64 0)), (.val (.int .u64 0)), (.val (.int .i64 0))] [])⟩ :: ⟨none, none, (.store 13 (.t 2) (.t 19))⟩ :: []
def vc_event_Read_r2 : VCode := (.keep [2, 3, 18] (.cond (.t 18) (.seq (.region false vc_event_Read_o2) (.keep [2] .ret)) .skip))
def vc_event_Read_o3 : List VO := ⟨(some 16), none, (.mv (.t 0))⟩ :: ⟨(some 17), none, (.call 136 [] [(.t 16)])⟩ :: ⟨none, none, .kp [2, 3, 17]⟩ :: ⟨(some 18), none, (.bin .neq (.t 17) (.c (.val (.int .i64 0))))⟩ :: []
def vc_event_Read_r3 : VCode := (.keep [0, 2, 3] (.seq (.seq (.region false vc_event_Read_o3) vc_event_Read_r2) vc_event_Read_r1))
def vc_event_Read_o4 : List VO := ⟨(some 14), none, (.mv (.t 0))⟩ :: ⟨(some 15), none, (.call 137 [] [(.t 14), (.c (.val (.int .i64 3)))])⟩ :: []
def vc_event_Read_r4 : VCode := (.keep [0, 2, 3, 13] (.cond (.t 13) (.region false vc_event_Read_o4) .skip))
def vc_event_Read_o5_1 : List VO := ⟨(some 11), (some (9, true)), (.call 52 [] [(.t 10)])⟩ :: ⟨none, none, .kp [0, 2, 3, 9, 11]⟩ :: ⟨(some 12), (some (9, true)), (.bin .neq (.t 11) (.c (.val (.int .i64 0))))⟩ :: ⟨(some 13), none, (.pick (.t 9) (.t 12) (.c (.val (.bool false))))⟩ :: []
def vc_event_Read_o5 : List VO := ⟨(some 6), none, (.mv (.t 0))⟩ :: ⟨(some 7), none, (.call 136 [] [(.t 6)])⟩ :: ⟨(some 8), none, (.bin .eql (.t 7) (.c (.val (.int .i64 0))))⟩ :: ⟨none, none, .kp [0, 2, 3, 8]⟩ :: ⟨(some 9), none, (.mv (.t 8))⟩ :: ⟨(some 10), (some (9, true)), (.load true 13 (.t 3))⟩ :: vc_event_Read_o5_1
def vc_event_Read_r5 : VCode := (.keep [0, 2, 3] (.seq (.seq (.region false vc_event_Read_o5) vc_event_Read_r4) vc_event_Read_r3))
def vc_event_Read_o6 : List VO := ⟨(some 4), none, (.mv (.t 0))⟩ :: ⟨(some 5), none, (.call 135 [] [(.t 4)])⟩ :: ⟨(some 3), none, (.alloc 36 [(.val (.int .i64 0)), (.val (.int .i64 0)), (.val (.int .i64 0)), (.val (.int .i64 0)), (.val (.string ⟨#[]⟩)), (.val (.int .i64 0)), (.val (.int .i64 0)), (.val (.int .u64 0)), (.val (.string ⟨#[]⟩)), (.val (.slice none 0 0)), (.val (.int .i64 0)), (.val (.int .u64 0)), (.val (.int .i64 0))])⟩ :: ⟨none, none, (.store 13 (.t 3) (.t 5))⟩ :: []
def vc_event_Read_r6 : VCode := (.keep [0, 2] (.seq (.region false vc_event_Read_o6) vc_event_Read_r5))
def vc_event_Read_o7 : List VO := ⟨(some 2), none, (.alloc 36 [(.val (.int .i64 0)), (.val (.int .i64 0)), (.val (.int .i64 0)), (.val (.int .i64 0)), (.val (.string ⟨#[]⟩)), (.val (.int .i64 0)), (.val (.int .i64 0)), (.val (.int .u64 0)), (.val (.string ⟨#[]⟩)), (.val (.slice none 0 0)), (.val (.int .i64 0)), (.val (.int .u64 0)), (.val (.int .i64 0))])⟩ :: []
def vc_event_Read : VCode := (.seq (.region false vc_event_Read_o7) vc_event_Read_r6)
def rs_event_Read : List RV := [(.c 2 true 13)]
theorem comp_event_Read : ccode Try.prog (Try.f96.body.getD .skip) = some (strip vc_event_Read) := by kernel_rfl
theorem code_event_Read : IsCode Try.prog id_event_Read 21 vc_event_Read rs_event_Read := ⟨_, _, Try.func96, by kernel_rfl, rfl, comp_event_Read, by kernel_rfl, by kernel_rfl, rfl⟩

/- usher/event.has -/
def vc_event_has_o1 : List VO := ⟨(some 2), none, (.mv (.c (.val (.int .i64 0))))⟩ :: []
def vc_event_has_r1 : VCode := (.keep [] (.seq (.region false vc_event_has_o1) (.keep [2] .ret)))
def vc_event_has_o2 : List VO := ⟨(some 2), none, (.mv (.c (.val (.int .i64 54))))⟩ :: []
def vc_event_has_o3 : List VO := ⟨(some 2), none, (.mv (.c (.val (.int .i64 3))))⟩ :: []
def vc_event_has_o4 : List VO := ⟨(some 2), none, (.mv (.c (.val (.int .i64 2))))⟩ :: []
def vc_event_has_o5 : List VO := ⟨(some 2), none, (.mv (.c (.val (.int .i64 9))))⟩ :: []
def vc_event_has_o6 : List VO := ⟨(some 2), none, (.mv (.c (.val (.int .i64 20))))⟩ :: []
def vc_event_has_o7 : List VO := ⟨(some 2), none, (.mv (.c (.val (.int .i64 6))))⟩ :: []
def vc_event_has_o8 : List VO := ⟨(some 2), none, (.mv (.c (.val (.int .i64 4))))⟩ :: []
def vc_event_has_o9 : List VO := ⟨(some 2), none, (.mv (.c (.val (.int .i64 16))))⟩ :: []
def vc_event_has_o10 : List VO := ⟨(some 2), none, (.mv (.c (.val (.int .i64 8))))⟩ :: []
def vc_event_has_r2 : VCode := (.keep [24] (.cond (.t 24) (.seq (.region false vc_event_has_o10) (.keep [2] .ret)) .skip))
def vc_event_has_o11 : List VO := ⟨(some 26), none, (.bin .eql (.t 3) (.c (.val (.int .i64 18))))⟩ :: ⟨(some 24), none, (.mv (.t 26))⟩ :: []
def vc_event_has_r3 : VCode := (.keep [3, 24] (.cond (.t 24) .skip (.region false vc_event_has_o11)))
def vc_event_has_o12 : List VO := ⟨(some 25), none, (.bin .eql (.t 3) (.c (.val (.int .i64 16))))⟩ :: ⟨(some 24), none, (.mv (.t 25))⟩ :: []
def vc_event_has_c4 : VCode := (.seq (.seq (.region false vc_event_has_o12) vc_event_has_r3) vc_event_has_r2)
def vc_event_has_r5 : VCode := (.keep [3, 21] (.cond (.t 21) (.seq (.region false vc_event_has_o9) (.keep [2] .ret)) vc_event_has_c4))
def vc_event_has_o13 : List VO := ⟨(some 23), none, (.bin .eql (.t 3) (.c (.val (.int .i64 15))))⟩ :: ⟨(some 21), none, (.mv (.t 23))⟩ :: []
def vc_event_has_r6 : VCode := (.keep [3, 21] (.cond (.t 21) .skip (.region false vc_event_has_o13)))
def vc_event_has_o14 : List VO := ⟨(some 22), none, (.bin .eql (.t 3) (.c (.val (.int .i64 14))))⟩ :: ⟨(some 21), none, (.mv (.t 22))⟩ :: []
def vc_event_has_c7 : VCode := (.seq (.seq (.region false vc_event_has_o14) vc_event_has_r6) vc_event_has_r5)
def vc_event_has_r8 : VCode := (.keep [3, 18] (.cond (.t 18) (.seq (.region false vc_event_has_o8) (.keep [2] .ret)) vc_event_has_c7))
def vc_event_has_o15 : List VO := ⟨(some 20), none, (.bin .eql (.t 3) (.c (.val (.int .i64 11))))⟩ :: ⟨(some 18), none, (.mv (.t 20))⟩ :: []
def vc_event_has_r9 : VCode := (.keep [3, 18] (.cond (.t 18) .skip (.region false vc_event_has_o15)))
def vc_event_has_o16 : List VO := ⟨(some 19), none, (.bin .eql (.t 3) (.c (.val (.int .i64 10))))⟩ :: ⟨(some 18), none, (.mv (.t 19))⟩ :: []
def vc_event_has_c10 : VCode := (.seq (.seq (.region false vc_event_has_o16) vc_event_has_r9) vc_event_has_r8)
def vc_event_has_r11 : VCode := (.keep [3, 16] (.cond (.t 16) (.seq (.region false vc_event_has_o7) (.keep [2] .ret)) vc_event_has_c10))
def vc_event_has_o17 : List VO := ⟨(some 17), none, (.bin .eql (.t 3) (.c (.val (.int .i64 9))))⟩ :: ⟨(some 16), none, (.mv (.t 17))⟩ :: []
def vc_event_has_r12 : VCode := (.keep [3, 12] (.cond (.t 12) (.seq (.region false vc_event_has_o6) (.keep [2] .ret)) (.seq (.region false vc_event_has_o17) vc_event_has_r11)))
def vc_event_has_o18 : List VO := ⟨(some 15), none, (.bin .eql (.t 3) (.c (.val (.int .i64 13))))⟩ :: ⟨(some 12), none, (.mv (.t 15))⟩ :: []
def vc_event_has_r13 : VCode := (.keep [3, 12] (.cond (.t 12) .skip (.region false vc_event_has_o18)))
def vc_event_has_o19 : List VO := ⟨(some 14), none, (.bin .eql (.t 3) (.c (.val (.int .i64 12))))⟩ :: ⟨(some 12), none, (.mv (.t 14))⟩ :: []
def vc_event_has_r14 : VCode := (.keep [3, 12] (.cond (.t 12) .skip (.seq (.region false vc_event_has_o19) vc_event_has_r13)))
def vc_event_has_o20 : List VO := ⟨(some 13), none, (.bin .eql (.t 3) (.c (.val (.int .i64 7))))⟩ :: ⟨(some 12), none, (.mv (.t 13))⟩ :: []
def vc_event_has_c15 : VCode := (.seq (.seq (.region false vc_event_has_o20) vc_event_has_r14) vc_event_has_r12)
def vc_event_has_r16 : VCode := (.keep [3, 10] (.cond (.t 10) (.seq (.region false vc_event_has_o5) (.keep [2] .ret)) vc_event_has_c15))
def vc_event_has_o21 : List VO := ⟨(some 11), none, (.bin .eql (.t 3) (.c (.val (.int .i64 5))))⟩ :: ⟨(some 10), none, (.mv (.t 11))⟩ :: []
def vc_event_has_r17 : VCode := (.keep [3, 8] (.cond (.t 8) (.seq (.region false vc_event_has_o4) (.keep [2] .ret)) (.seq (.region false vc_event_has_o21) vc_event_has_r16)))
def vc_event_has_o22 : List VO := ⟨(some 9), none, (.bin .eql (.t 3) (.c (.val (.int .i64 3))))⟩ :: ⟨(some 8), none, (.mv (.t 9))⟩ :: []
def vc_event_has_r18 : VCode := (.keep [3, 6] (.cond (.t 6) (.seq (.region false vc_event_has_o3) (.keep [2] .ret)) (.seq (.region false vc_event_has_o22) vc_event_has_r17)))
def vc_event_has_o23 : List VO := ⟨(some 7), none, (.bin .eql (.t 3) (.c (.val (.int .i64 2))))⟩ :: ⟨(some 6), none, (.mv (.t 7))⟩ :: []
def vc_event_has_r19 : VCode := (.keep [3, 4] (.cond (.t 4) (.seq (.region false vc_event_has_o2) (.keep [2] .ret)) (.seq (.region false vc_event_has_o23) vc_event_has_r18)))
def vc_event_has_o24 : List VO := ⟨(some 5), none, (.bin .eql (.t 3) (.c (.val (.int .i64 1))))⟩ :: ⟨(some 4), none, (.mv (.t 5))⟩ :: []
def vc_event_has_r20 : VCode := (.keep [3] (.block 0 (.seq (.region false vc_event_has_o24) vc_event_has_r19)))
def vc_event_has_o25 : List VO := ⟨(some 3), none, (.mv (.t 0))⟩ :: []
def vc_event_has_r21 : VCode := (.keep [0] (.seq (.seq (.region false vc_event_has_o25) vc_event_has_r20) vc_event_has_r1))
def vc_event_has_o26 : List VO := ⟨(some 2), none, (.mv (.c (.val (.int .i64 0))))⟩ :: []
def vc_event_has : VCode := (.seq (.region false vc_event_has_o26) vc_event_has_r21)
def rs_event_has : List RV := [(.t 2)]
theorem comp_event_has : ccode Try.prog (Try.f118.body.getD .skip) = some (strip vc_event_has) := by kernel_rfl
theorem code_event_has : IsCode Try.prog id_event_has 27 vc_event_has rs_event_has := ⟨_, _, Try.func118, by kernel_rfl, rfl, comp_event_has, by kernel_rfl, by kernel_rfl, rfl⟩

/- usher/event.read -/
def vc_event_read_o1 : List VO := ⟨(some 55), none, (.load true 13 (.t 3))⟩ :: ⟨none, none, (.store 13 (.t 2) (.t 55))⟩ :: []
def vc_event_read_r1 : VCode := (.keep [2, 3] (.seq (.region false vc_event_read_o1) (.keep [2] .ret)))
def vc_event_read_o2 : List VO := ⟨(some 52), none, (.mv (.t 0))⟩ :: ⟨(some 53), none, (.call 159 [] [(.t 52)])⟩ :: ⟨none, none, .kp [2, 3, 53]⟩ :: ⟨(some 54), none, (.fld 10 (.t 3))⟩ :: ⟨none, none, (.store 3 (.t 54) (.t 53))⟩ :: []
def vc_event_read_r2 : VCode := (.keep [0, 2, 3, 51] (.cond (.t 51) (.region false vc_event_read_o2) .skip))
def vc_event_read_o3 : List VO := ⟨(some 49), none, (.mv (.t 4))⟩ :: ⟨(some 50), none, (.bin .and (.t 49) (.c (.val (.int .i64 32))))⟩ :: ⟨none, none, .kp [0, 2, 3, 50]⟩ :: ⟨(some 51), none, (.bin .neq (.t 50) (.c (.val (.int .i64 0))))⟩ :: []
def vc_event_read_r3 : VCode := (.keep [0, 2, 3, 4] (.seq (.seq (.region false vc_event_read_o3) vc_event_read_r2) vc_event_read_r1))
def vc_event_read_o4 : List VO := ⟨(some 46), none, (.mv (.t 0))⟩ :: ⟨(some 47), none, (.call 158 [] [(.t 46)])⟩ :: ⟨(some 48), none, (.fld 5 (.t 3))⟩ :: ⟨none, none, (.store 5 (.t 48) (.t 47))⟩ :: []
def vc_event_read_r4 : VCode := (.keep [0, 2, 3, 4, 45] (.cond (.t 45) (.region false vc_event_read_o4) .skip))
def vc_event_read_o5 : List VO := ⟨(some 43), none, (.mv (.t 4))⟩ :: ⟨(some 44), none, (.bin .and (.t 43) (.c (.val (.int .i64 16))))⟩ :: ⟨(some 45), none, (.bin .neq (.t 44) (.c (.val (.int .i64 0))))⟩ :: []
def vc_event_read_r5 : VCode := (.keep [0, 2, 3, 4] (.seq (.seq (.region false vc_event_read_o5) vc_event_read_r4) vc_event_read_r3))
def vc_event_read_o6 : List VO := ⟨(some 33), none, (.mv (.t 0))⟩ :: ⟨(some 34), none, (.call 157 [] [(.t 33), (.c (.val (.int .i64 24)))])⟩ :: ⟨(some 35), none, (.fld 4 (.t 3))⟩ :: ⟨none, none, (.store 1 (.t 35) (.t 34))⟩ :: []
def vc_event_read_o7 : List VO := ⟨(some 40), none, (.mv (.t 0))⟩ :: ⟨(some 41), none, (.call 157 [] [(.t 40), (.c (.val (.int .i64 200)))])⟩ :: ⟨(some 42), none, (.fld 4 (.t 3))⟩ :: ⟨none, none, (.store 1 (.t 42) (.t 41))⟩ :: []
def vc_event_read_r6 : VCode := (.keep [0, 2, 3, 4, 36] (.cond (.t 36) (.region false vc_event_read_o7) .skip))
def vc_event_read_o8 : List VO := ⟨(some 37), none, (.mv (.t 4))⟩ :: ⟨(some 38), none, (.bin .and (.t 37) (.c (.val (.int .i64 8))))⟩ :: ⟨(some 39), none, (.bin .neq (.t 38) (.c (.val (.int .i64 0))))⟩ :: ⟨none, none, .kp [0, 2, 3, 4, 39]⟩ :: ⟨(some 36), none, (.mv (.t 39))⟩ :: []
def vc_event_read_r7 : VCode := (.keep [0, 2, 3, 4, 29] (.cond (.t 29) (.region false vc_event_read_o6) (.seq (.region false vc_event_read_o8) vc_event_read_r6)))
def vc_event_read_o9 : List VO := ⟨(some 30), none, (.mv (.t 4))⟩ :: ⟨(some 31), none, (.bin .and (.t 30) (.c (.val (.int .i64 4))))⟩ :: ⟨(some 32), none, (.bin .neq (.t 31) (.c (.val (.int .i64 0))))⟩ :: ⟨none, none, .kp [0, 2, 3, 4, 32]⟩ :: ⟨(some 29), none, (.mv (.t 32))⟩ :: []
def vc_event_read_r8 : VCode := (.keep [0, 2, 3, 4] (.seq (.block 0 (.seq (.region false vc_event_read_o9) vc_event_read_r7)) vc_event_read_r5))
def vc_event_read_o10 : List VO := ⟨(some 26), none, (.mv (.t 0))⟩ :: ⟨(some 27), none, (.call 142 [] [(.t 26), (.c (.val (.int .i64 2199023255552)))])⟩ :: ⟨(some 28), none, (.fld 3 (.t 3))⟩ :: ⟨none, none, (.store 1 (.t 28) (.t 27))⟩ :: []
def vc_event_read_r9 : VCode := (.keep [0, 2, 3, 4, 25] (.cond (.t 25) (.region false vc_event_read_o10) .skip))
def vc_event_read_o11 : List VO := ⟨(some 23), none, (.mv (.t 4))⟩ :: ⟨(some 24), none, (.bin .and (.t 23) (.c (.val (.int .i64 2))))⟩ :: ⟨(some 25), none, (.bin .neq (.t 24) (.c (.val (.int .i64 0))))⟩ :: []
def vc_event_read_r10 : VCode := (.keep [0, 2, 3, 4] (.seq (.seq (.region false vc_event_read_o11) vc_event_read_r9) vc_event_read_r8))
def vc_event_read_o12_1 : List VO := ⟨(some 22), none, (.fld 2 (.t 3))⟩ :: ⟨none, none, (.store 1 (.t 22) (.t 21))⟩ :: []
def vc_event_read_o12 : List VO := ⟨(some 17), none, (.mv (.t 0))⟩ :: ⟨(some 18), none, (.fld 0 (.t 3))⟩ :: ⟨(some 19), none, (.load false 1 (.t 18))⟩ :: ⟨(some 20), none, (.call 156 [] [(.t 19)])⟩ :: ⟨none, none, .kp [0, 2, 3, 4, 17, 20]⟩ :: ⟨(some 21), none, (.call 142 [] [(.t 17), (.t 20)])⟩ :: ⟨none, none, .kp [0, 2, 3, 4, 21]⟩ :: vc_event_read_o12_1
def vc_event_read_r11 : VCode := (.keep [0, 2, 3, 4, 16] (.cond (.t 16) (.region false vc_event_read_o12) .skip))
def vc_event_read_o13 : List VO := ⟨(some 14), none, (.mv (.t 4))⟩ :: ⟨(some 15), none, (.bin .and (.t 14) (.c (.val (.int .i64 1))))⟩ :: ⟨(some 16), none, (.bin .neq (.t 15) (.c (.val (.int .i64 0))))⟩ :: []
def vc_event_read_r12 : VCode := (.keep [0, 2, 3, 4] (.seq (.seq (.region false vc_event_read_o13) vc_event_read_r11) vc_event_read_r10))
def vc_event_read_o14 : List VO := ⟨(some 11), none, (.fld 0 (.t 3))⟩ :: ⟨(some 12), none, (.load false 1 (.t 11))⟩ :: ⟨(some 13), none, (.call 118 [] [(.t 12)])⟩ :: ⟨none, none, .kp [0, 2, 3, 13]⟩ :: ⟨(some 4), none, (.mv (.t 13))⟩ :: []
def vc_event_read_r13 : VCode := (.keep [0, 2, 3] (.seq (.region false vc_event_read_o14) vc_event_read_r12))
def vc_event_read_o15 : List VO := ⟨(some 8), none, (.mv (.t 0))⟩ :: ⟨(some 9), none, (.call 142 [] [(.t 8), (.c (.val (.int .i64 1099511627776)))])⟩ :: ⟨(some 10), none, (.fld 1 (.t 3))⟩ :: ⟨none, none, (.store 1 (.t 10) (.t 9))⟩ :: []
def vc_event_read_r14 : VCode := (.keep [0, 2, 3] (.seq (.region false vc_event_read_o15) vc_event_read_r13))
def vc_event_read_o16 : List VO := ⟨(some 5), none, (.mv (.t 0))⟩ :: ⟨(some 6), none, (.call 142 [] [(.t 5), (.c (.val (.int .i64 19)))])⟩ :: ⟨(some 7), none, (.fld 0 (.t 3))⟩ :: ⟨none, none, (.store 1 (.t 7) (.t 6))⟩ :: []
def vc_event_read_r15 : VCode := (.keep [0, 2, 3] (.seq (.region false vc_event_read_o16) vc_event_read_r14))
def vc_event_read_o17 : List VO := ⟨(some 3), none, (.alloc 36 [(.val (.int .i64 0)), (.val (.int .i64 0)), (.val (.int .i64 0)), (.val (.int .i64 0)), (.val (.string ⟨#[]⟩)), (.val (.int .i64 0)), (.val (.int .i64 0)), (.val (.int .u64 0)), (.val (.string ⟨#[]⟩)), (.val (.slice none 0 0)), (.val (.int .i64 0)), (.val (.int .u64 0)), (.val (.int .i64 0))])⟩ :: []
def vc_event_read_r16 : VCode := (.keep [0, 2] (.seq (.region false vc_event_read_o17) vc_event_read_r15))
def vc_event_read_o18 : List VO := ⟨(some 2), none, (.alloc 36 [(.val (.int .i64 0)), (.val (.int .i64 0)), (.val (.int .i64 0)), (.val (.int .i64 0)), (.val (.string ⟨#[]⟩)), (.val (.int .i64 0)), (.val (.int .i64 0)), (.val (.int .u64 0)), (.val (.string ⟨#[]⟩)), (.val (.slice none 0 0)), (.val (.int .i64 0)), (.val (.int .u64 0)), (.val (.int .i64 0))])⟩ :: []
def vc_event_read : VCode := (.seq (.region false vc_event_read_o18) vc_event_read_r16)
def rs_event_read : List RV := [(.c 2 true 13)]
theorem comp_event_read : ccode Try.prog (Try.f135.body.getD .skip) = some (strip vc_event_read) := by kernel_rfl
theorem code_event_read : IsCode Try.prog id_event_read 56 vc_event_read rs_event_read := ⟨_, _, Try.func135, by kernel_rfl, rfl, comp_event_read, by kernel_rfl, by kernel_rfl, rfl⟩

/- usher/event.limit -/
def vc_event_limit_o1 : List VO := ⟨(some 2), none, (.mv (.c (.val (.int .i64 2147483648))))⟩ :: []
def vc_event_limit_r1 : VCode := (.keep [] (.seq (.region false vc_event_limit_o1) (.keep [2] .ret)))
def vc_event_limit_o2 : List VO := ⟨(some 2), none, (.mv (.c (.val (.int .i64 10))))⟩ :: []
def vc_event_limit_r2 : VCode := (.keep [4] (.cond (.t 4) (.seq (.region false vc_event_limit_o2) (.keep [2] .ret)) .skip))
def vc_event_limit_o3 : List VO := ⟨(some 3), none, (.mv (.t 0))⟩ :: ⟨(some 4), none, (.bin .eql (.t 3) (.c (.val (.int .i64 5))))⟩ :: []
def vc_event_limit_r3 : VCode := (.keep [0] (.seq (.seq (.region false vc_event_limit_o3) vc_event_limit_r2) vc_event_limit_r1))
def vc_event_limit_o4 : List VO := ⟨(some 2), none, (.mv (.c (.val (.int .i64 0))))⟩ :: []
def vc_event_limit : VCode := (.seq (.region false vc_event_limit_o4) vc_event_limit_r3)
def rs_event_limit : List RV := [(.t 2)]
theorem comp_event_limit : ccode Try.prog (Try.f156.body.getD .skip) = some (strip vc_event_limit) := by kernel_rfl
theorem code_event_limit : IsCode Try.prog id_event_limit 5 vc_event_limit rs_event_limit := ⟨_, _, Try.func156, by kernel_rfl, rfl, comp_event_limit, by kernel_rfl, by kernel_rfl, rfl⟩

end Go.Proofs.Ytalbdoapcpgelaa
