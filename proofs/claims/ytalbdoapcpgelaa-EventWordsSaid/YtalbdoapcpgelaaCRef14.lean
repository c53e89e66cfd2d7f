/- The code of functions, for the abstract machine, and that it is theirs. Printed by vc2.py. -/
import Derived.Test.YtalbdoapcpgelaaIds
set_option linter.unusedVariables false
set_option maxRecDepth 100000
namespace Go.Proofs.Ytalbdoapcpgelaa
open Go Go.Vm

/- usher/usherref14.Same -/
def vc_ref14_Same_o1_9 : List VO := ⟨(some 50), (some (45, true)), (.eqs false [0, 0, 0] (.t 47) (.t 49))⟩ :: ⟨none, none, .kp [45, 50]⟩ :: ⟨(some 51), none, (.pick (.t 45) (.t 50) (.c (.val (.bool false))))⟩ :: ⟨none, none, .kp [51]⟩ :: ⟨(some 4), none, (.mv (.t 51))⟩ :: []
def vc_ref14_Same_o1_8 : List VO := ⟨(some 45), none, (.mv (.t 44))⟩ :: ⟨(some 46), (some (45, true)), (.fld 10 (.t 2))⟩ :: ⟨none, none, .kp [3, 45, 46]⟩ :: ⟨(some 47), (some (45, true)), (.load true 3 (.t 46))⟩ :: ⟨(some 48), (some (45, true)), (.fld 10 (.t 3))⟩ :: ⟨none, none, .kp [45, 47, 48]⟩ :: ⟨(some 49), (some (45, true)), (.load true 3 (.t 48))⟩ :: vc_ref14_Same_o1_9
def vc_ref14_Same_o1_7 : List VO := ⟨(some 40), (some (38, true)), (.load true 5 (.t 39))⟩ :: ⟨none, none, .kp [2, 3, 38, 40]⟩ :: ⟨(some 41), (some (38, true)), (.fld 5 (.t 3))⟩ :: ⟨(some 42), (some (38, true)), (.load true 5 (.t 41))⟩ :: ⟨(some 43), (some (38, true)), (.call 62 [] [(.t 40), (.t 42)])⟩ :: ⟨none, none, .kp [2, 3, 38, 43]⟩ :: ⟨(some 44), none, (.pick (.t 38) (.t 43) (.c (.val (.bool false))))⟩ :: ⟨none, none, .kp [2, 3, 44]⟩ :: vc_ref14_Same_o1_8
def vc_ref14_Same_o1_6 : List VO := ⟨(some 35), (some (31, true)), (.load false 1 (.t 34))⟩ :: ⟨(some 36), (some (31, true)), (.bin .eql (.t 33) (.t 35))⟩ :: ⟨none, none, .kp [2, 3, 31, 36]⟩ :: ⟨(some 37), none, (.pick (.t 31) (.t 36) (.c (.val (.bool false))))⟩ :: ⟨none, none, .kp [2, 3, 37]⟩ :: ⟨(some 38), none, (.mv (.t 37))⟩ :: ⟨(some 39), (some (38, true)), (.fld 5 (.t 2))⟩ :: vc_ref14_Same_o1_7
def vc_ref14_Same_o1_5 : List VO := ⟨(some 30), none, (.pick (.t 24) (.t 29) (.c (.val (.bool false))))⟩ :: ⟨none, none, .kp [2, 3, 30]⟩ :: ⟨(some 31), none, (.mv (.t 30))⟩ :: ⟨(some 32), (some (31, true)), (.fld 4 (.t 2))⟩ :: ⟨(some 33), (some (31, true)), (.load false 1 (.t 32))⟩ :: ⟨none, none, .kp [2, 3, 31, 33]⟩ :: ⟨(some 34), (some (31, true)), (.fld 4 (.t 3))⟩ :: vc_ref14_Same_o1_6
def vc_ref14_Same_o1_4 : List VO := ⟨(some 25), (some (24, true)), (.fld 3 (.t 2))⟩ :: ⟨(some 26), (some (24, true)), (.load false 1 (.t 25))⟩ :: ⟨none, none, .kp [2, 3, 24, 26]⟩ :: ⟨(some 27), (some (24, true)), (.fld 3 (.t 3))⟩ :: ⟨(some 28), (some (24, true)), (.load false 1 (.t 27))⟩ :: ⟨(some 29), (some (24, true)), (.bin .eql (.t 26) (.t 28))⟩ :: ⟨none, none, .kp [2, 3, 24, 29]⟩ :: vc_ref14_Same_o1_5
def vc_ref14_Same_o1_3 : List VO := ⟨(some 20), (some (17, true)), (.fld 2 (.t 3))⟩ :: ⟨(some 21), (some (17, true)), (.load false 1 (.t 20))⟩ :: ⟨(some 22), (some (17, true)), (.bin .eql (.t 19) (.t 21))⟩ :: ⟨none, none, .kp [2, 3, 17, 22]⟩ :: ⟨(some 23), none, (.pick (.t 17) (.t 22) (.c (.val (.bool false))))⟩ :: ⟨none, none, .kp [2, 3, 23]⟩ :: ⟨(some 24), none, (.mv (.t 23))⟩ :: vc_ref14_Same_o1_4
def vc_ref14_Same_o1_2 : List VO := ⟨(some 15), (some (10, true)), (.bin .eql (.t 12) (.t 14))⟩ :: ⟨none, none, .kp [2, 3, 10, 15]⟩ :: ⟨(some 16), none, (.pick (.t 10) (.t 15) (.c (.val (.bool false))))⟩ :: ⟨none, none, .kp [2, 3, 16]⟩ :: ⟨(some 17), none, (.mv (.t 16))⟩ :: ⟨(some 18), (some (17, true)), (.fld 2 (.t 2))⟩ :: ⟨(some 19), (some (17, true)), (.load false 1 (.t 18))⟩ :: ⟨none, none, .kp [2, 3, 17, 19]⟩ :: vc_ref14_Same_o1_3
def vc_ref14_Same_o1_1 : List VO := ⟨(some 10), none, (.mv (.t 9))⟩ :: ⟨(some 11), (some (10, true)), (.fld 1 (.t 2))⟩ :: ⟨(some 12), (some (10, true)), (.load false 1 (.t 11))⟩ :: ⟨none, none, .kp [2, 3, 10, 12]⟩ :: ⟨(some 13), (some (10, true)), (.fld 1 (.t 3))⟩ :: ⟨(some 14), (some (10, true)), (.load false 1 (.t 13))⟩ :: vc_ref14_Same_o1_2
def vc_ref14_Same_o1 : List VO := ⟨(some 5), none, (.fld 0 (.t 2))⟩ :: ⟨(some 6), none, (.load false 1 (.t 5))⟩ :: ⟨(some 7), none, (.fld 0 (.t 3))⟩ :: ⟨(some 8), none, (.load false 1 (.t 7))⟩ :: ⟨none, none, .kp [2, 3, 6, 8]⟩ :: ⟨(some 9), none, (.bin .eql (.t 6) (.t 8))⟩ :: ⟨none, none, .kp [2, 3, 9]⟩ :: vc_ref14_Same_o1_1
def vc_ref14_Same_r1 : VCode := (.keep [2, 3] (.seq (.region false vc_ref14_Same_o1) (.keep [4] .ret)))
def vc_ref14_Same_o2 : List VO := ⟨(some 2), none, (.box 36 (.t 0))⟩ :: ⟨(some 3), none, (.box 36 (.t 1))⟩ :: ⟨none, none, .kp [2, 3]⟩ :: ⟨(some 4), none, (.mv (.c (.val (.bool false))))⟩ :: []
def vc_ref14_Same : VCode := (.seq (.region false vc_ref14_Same_o2) vc_ref14_Same_r1)
def rs_ref14_Same : List RV := [(.t 4)]
theorem comp_ref14_Same : ccode Try.prog (Try.f18.body.getD .skip) = some (strip vc_ref14_Same) := by kernel_rfl
theorem code_ref14_Same : IsCode Try.prog id_ref14_Same 52 vc_ref14_Same rs_ref14_Same := ⟨_, _, Try.func18, by kernel_rfl, rfl, comp_ref14_Same, by kernel_rfl, by kernel_rfl, rfl⟩

/- usher/usherref14.Closes -/
def vc_ref14_Closes_o1_1 : List VO := ⟨(some 8), none, (.pick (.t 5) (.t 7) (.c (.val (.bool false))))⟩ :: ⟨none, none, .kp [8]⟩ :: ⟨(some 2), none, (.mv (.t 8))⟩ :: []
def vc_ref14_Closes_o1 : List VO := ⟨(some 3), none, (.mv (.t 0))⟩ :: ⟨(some 4), none, (.bin .geq (.t 3) (.c (.val (.int .i64 15))))⟩ :: ⟨(some 5), none, (.mv (.t 4))⟩ :: ⟨none, none, .kp [0, 5]⟩ :: ⟨(some 6), (some (5, true)), (.mv (.t 0))⟩ :: ⟨(some 7), (some (5, true)), (.bin .leq (.t 6) (.c (.val (.int .i64 19))))⟩ :: ⟨none, none, .kp [5, 7]⟩ :: vc_ref14_Closes_o1_1
def vc_ref14_Closes_r1 : VCode := (.keep [0] (.seq (.region false vc_ref14_Closes_o1) (.keep [2] .ret)))
def vc_ref14_Closes_o2 : List VO := ⟨(some 2), none, (.mv (.c (.val (.bool false))))⟩ :: []
def vc_ref14_Closes : VCode := (.seq (.region false vc_ref14_Closes_o2) vc_ref14_Closes_r1)
def rs_ref14_Closes : List RV := [(.t 2)]
theorem comp_ref14_Closes : ccode Try.prog (Try.f48.body.getD .skip) = some (strip vc_ref14_Closes) := by kernel_rfl
theorem code_ref14_Closes : IsCode Try.prog id_ref14_Closes 9 vc_ref14_Closes rs_ref14_Closes := ⟨_, _, Try.func48, by kernel_rfl, rfl, comp_ref14_Closes, by kernel_rfl, by kernel_rfl, rfl⟩

/- usher/usherref14.Name -/
def vc_ref14_Name_o1_1 : List VO := ⟨(some 2), none, (.mv (.t 17))⟩ :: []
def vc_ref14_Name_o1 : List VO := ⟨(some 13), none, (.mv (.t 3))⟩ :: ⟨(some 14), none, (.mv (.t 0))⟩ :: ⟨none, none, .kp [13, 14]⟩ :: ⟨(some 15), none, (.bin .sub (.t 14) (.c (.val (.int .i64 1))))⟩ :: ⟨(some 16), none, (.idx 1 (.t 13) (.t 15))⟩ :: ⟨none, none, .kp [16]⟩ :: ⟨(some 17), none, (.load false 1 (.t 16))⟩ :: vc_ref14_Name_o1_1
def vc_ref14_Name_r1 : VCode := (.keep [0, 3] (.seq (.region false vc_ref14_Name_o1) (.keep [2] .ret)))
def vc_ref14_Name_o2 : List VO := ⟨(some 2), none, (.mv (.c (.val (.string ⟨#[]⟩))))⟩ :: []
def vc_ref14_Name_r2 : VCode := (.keep [0, 3, 12] (.cond (.t 12) (.seq (.region false vc_ref14_Name_o2) (.keep [2] .ret)) .skip))
def vc_ref14_Name_o3_1 : List VO := ⟨(some 10), (some (7, false)), (.len (.t 9))⟩ :: ⟨(some 11), (some (7, false)), (.bin .gtr (.t 8) (.t 10))⟩ :: ⟨none, none, .kp [0, 3, 7, 11]⟩ :: ⟨(some 12), none, (.pick (.t 7) (.c (.val (.bool true))) (.t 11))⟩ :: []
def vc_ref14_Name_o3 : List VO := ⟨(some 5), none, (.mv (.t 0))⟩ :: ⟨(some 6), none, (.bin .lss (.t 5) (.c (.val (.int .i64 1))))⟩ :: ⟨(some 7), none, (.mv (.t 6))⟩ :: ⟨none, none, .kp [0, 3, 7]⟩ :: ⟨(some 8), (some (7, false)), (.mv (.t 0))⟩ :: ⟨(some 9), (some (7, false)), (.mv (.t 3))⟩ :: vc_ref14_Name_o3_1
def vc_ref14_Name_r3 : VCode := (.keep [0, 3] (.seq (.seq (.region false vc_ref14_Name_o3) vc_ref14_Name_r2) vc_ref14_Name_r1))
def vc_ref14_Name_o4 : List VO := ⟨(some 4), none, (.lit false 9 1 19 [(.val (.string ⟨#[]⟩)), (.val (.string ⟨#[]⟩)), (.val (.string ⟨#[]⟩)), (.val (.string ⟨#[]⟩)), (.val (.string ⟨#[]⟩)), (.val (.string ⟨#[]⟩)), (.val (.string ⟨#[]⟩)), (.val (.string ⟨#[]⟩)), (.val (.string ⟨#[]⟩)), (.val (.string ⟨#[]⟩)), (.val (.string ⟨#[]⟩)), (.val (.string ⟨#[]⟩)), (.val (.string ⟨#[]⟩)), (.val (.string ⟨#[]⟩)), (.val (.string ⟨#[]⟩)), (.val (.string ⟨#[]⟩)), (.val (.string ⟨#[]⟩)), (.val (.string ⟨#[]⟩)), (.val (.string ⟨#[]⟩))] [(0, (1, (.c (.val (.string ⟨#[115, 116, 97, 114, 116, 101, 100]⟩))))), (1, (1, (.c (.val (.string ⟨#[115, 99, 104, 101, 100, 117, 108, 101, 100]⟩))))), (2, (1, (.c (.val (.string ⟨#[116, 97, 107, 101, 110]⟩))))), (3, (1, (.c (.val (.string ⟨#[100, 111, 110, 101]⟩))))), (4, (1, (.c (.val (.string ⟨#[116, 97, 115, 107, 70, 97, 105, 108, 101, 100]⟩))))), (5, (1, (.c (.val (.string ⟨#[116, 97, 115, 107, 84, 105, 109, 101, 100]⟩))))), (6, (1, (.c (.val (.string ⟨#[115, 105, 103, 110, 97, 108, 101, 100]⟩))))), (7, (1, (.c (.val (.string ⟨#[99, 97, 110, 99, 101, 108]⟩))))), (8, (1, (.c (.val (.string ⟨#[116, 105, 109, 101, 114]⟩))))), (9, (1, (.c (.val (.string ⟨#[102, 105, 114, 101, 100]⟩))))), (10, (1, (.c (.val (.string ⟨#[116, 105, 109, 101, 114, 79, 102, 102]⟩))))), (11, (1, (.c (.val (.string ⟨#[97, 99, 99, 101, 112, 116, 101, 100]⟩))))), (12, (1, (.c (.val (.string ⟨#[111, 117, 116, 99, 111, 109, 101]⟩))))), (13, (1, (.c (.val (.string ⟨#[109, 97, 114, 107, 101, 114]⟩))))), (14, (1, (.c (.val (.string ⟨#[99, 111, 109, 112, 108, 101, 116, 101, 100]⟩))))), (15, (1, (.c (.val (.string ⟨#[102, 97, 105, 108, 101, 100]⟩))))), (16, (1, (.c (.val (.string ⟨#[99, 97, 110, 99, 101, 108, 101, 100]⟩))))), (17, (1, (.c (.val (.string ⟨#[116, 101, 114, 109, 105, 110, 97, 116, 101, 100]⟩))))), (18, (1, (.c (.val (.string ⟨#[116, 105, 109, 101, 100, 79, 117, 116]⟩)))))])⟩ :: ⟨(some 3), none, (.mv (.t 4))⟩ :: []
def vc_ref14_Name_r4 : VCode := (.keep [0] (.seq (.region false vc_ref14_Name_o4) vc_ref14_Name_r3))
def vc_ref14_Name_o5 : List VO := ⟨(some 2), none, (.mv (.c (.val (.string ⟨#[]⟩))))⟩ :: []
def vc_ref14_Name : VCode := (.seq (.region false vc_ref14_Name_o5) vc_ref14_Name_r4)
def rs_ref14_Name : List RV := [(.t 2)]
theorem comp_ref14_Name : ccode Try.prog (Try.f50.body.getD .skip) = some (strip vc_ref14_Name) := by kernel_rfl
theorem code_ref14_Name : IsCode Try.prog id_ref14_Name 18 vc_ref14_Name rs_ref14_Name := ⟨_, _, Try.func50, by kernel_rfl, rfl, comp_ref14_Name, by kernel_rfl, by kernel_rfl, rfl⟩

/- usher/usherref14.Check -/
def vc_ref14_Check_o1 : List VO := ⟨(some 2), none, (.mv (.c (.val (.int .i64 0))))⟩ :: []
def vc_ref14_Check_r1 : VCode := (.keep [] (.seq (.region false vc_ref14_Check_o1) (.keep [2] .ret)))
def vc_ref14_Check_o2 : List VO := ⟨(some 2), none, (.mv (.c (.val (.int .i64 1))))⟩ :: []
def vc_ref14_Check_r2 : VCode := (.keep [85] (.cond (.t 85) (.seq (.region false vc_ref14_Check_o2) (.keep [2] .ret)) .skip))
def vc_ref14_Check_o3 : List VO := ⟨(some 84), none, (.mv (.t 3))⟩ :: ⟨(some 85), none, (.un .not (.t 84))⟩ :: []
def vc_ref14_Check_r3 : VCode := (.keep [3] (.seq (.seq (.region false vc_ref14_Check_o3) vc_ref14_Check_r2) vc_ref14_Check_r1))
def vc_ref14_Check_o4_1 : List VO := ⟨(some 75), (some (71, true)), (.bin .eql (.t 74) (.c (.val (.int .i64 0))))⟩ :: ⟨none, none, .kp [71, 75]⟩ :: ⟨(some 76), none, (.pick (.t 71) (.t 75) (.c (.val (.bool false))))⟩ :: ⟨none, none, .kp [76]⟩ :: ⟨(some 3), none, (.mv (.t 76))⟩ :: []
def vc_ref14_Check_o4 : List VO := ⟨(some 70), none, (.mv (.t 3))⟩ :: ⟨(some 71), none, (.mv (.t 70))⟩ :: ⟨none, none, .kp [1, 71]⟩ :: ⟨(some 72), (some (71, true)), (.fld 10 (.t 1))⟩ :: ⟨(some 73), (some (71, true)), (.load true 3 (.t 72))⟩ :: ⟨none, none, .kp [71, 73]⟩ :: ⟨(some 74), (some (71, true)), (.call 91 [] [(.t 73)])⟩ :: vc_ref14_Check_o4_1
def vc_ref14_Check_o5_1 : List VO := ⟨(some 82), (some (78, true)), (.eqs false [0, 0, 0] (.t 80) (.t 81))⟩ :: ⟨none, none, .kp [78, 82]⟩ :: ⟨(some 83), none, (.pick (.t 78) (.t 82) (.c (.val (.bool false))))⟩ :: ⟨none, none, .kp [83]⟩ :: ⟨(some 3), none, (.mv (.t 83))⟩ :: []
def vc_ref14_Check_o5 : List VO := ⟨(some 77), none, (.mv (.t 3))⟩ :: ⟨(some 78), none, (.mv (.t 77))⟩ :: ⟨none, none, .kp [1, 78]⟩ :: ⟨(some 79), (some (78, true)), (.fld 10 (.t 1))⟩ :: ⟨(some 80), (some (78, true)), (.load true 3 (.t 79))⟩ :: ⟨none, none, .kp [78, 80]⟩ :: ⟨(some 81), (some (78, true)), (.build [(.val (.int .i64 0)), (.val (.int .u64 0)), (.val (.int .i64 0))] [])⟩ :: vc_ref14_Check_o5_1
def vc_ref14_Check_r4 : VCode := (.keep [1, 3, 69] (.cond (.t 69) (.region false vc_ref14_Check_o4) (.region false vc_ref14_Check_o5)))
def vc_ref14_Check_o6 : List VO := ⟨(some 67), none, (.fld 0 (.t 1))⟩ :: ⟨(some 68), none, (.load false 1 (.t 67))⟩ :: ⟨(some 69), none, (.call 90 [] [(.t 68)])⟩ :: []
def vc_ref14_Check_r5 : VCode := (.keep [1, 3] (.seq (.seq (.region false vc_ref14_Check_o6) vc_ref14_Check_r4) vc_ref14_Check_r3))
def vc_ref14_Check_o7_1 : List VO := ⟨(some 58), (some (54, true)), (.bin .eql (.t 57) (.c (.val (.int .i64 0))))⟩ :: ⟨(some 59), none, (.pick (.t 54) (.t 58) (.c (.val (.bool false))))⟩ :: ⟨none, none, .kp [1, 59]⟩ :: ⟨(some 3), none, (.mv (.t 59))⟩ :: []
def vc_ref14_Check_o7 : List VO := ⟨(some 53), none, (.mv (.t 3))⟩ :: ⟨(some 54), none, (.mv (.t 53))⟩ :: ⟨none, none, .kp [1, 54]⟩ :: ⟨(some 55), (some (54, true)), (.fld 5 (.t 1))⟩ :: ⟨(some 56), (some (54, true)), (.load true 5 (.t 55))⟩ :: ⟨(some 57), (some (54, true)), (.call 89 [] [(.t 56)])⟩ :: ⟨none, none, .kp [1, 54, 57]⟩ :: vc_ref14_Check_o7_1
def vc_ref14_Check_o8_1 : List VO := ⟨(some 65), (some (61, true)), (.call 62 [] [(.t 63), (.t 64)])⟩ :: ⟨none, none, .kp [1, 61, 65]⟩ :: ⟨(some 66), none, (.pick (.t 61) (.t 65) (.c (.val (.bool false))))⟩ :: ⟨none, none, .kp [1, 66]⟩ :: ⟨(some 3), none, (.mv (.t 66))⟩ :: []
def vc_ref14_Check_o8 : List VO := ⟨(some 60), none, (.mv (.t 3))⟩ :: ⟨(some 61), none, (.mv (.t 60))⟩ :: ⟨none, none, .kp [1, 61]⟩ :: ⟨(some 62), (some (61, true)), (.fld 5 (.t 1))⟩ :: ⟨(some 63), (some (61, true)), (.load true 5 (.t 62))⟩ :: ⟨(some 64), (some (61, true)), (.build [(.val (.int .i64 0)), (.val (.int .i64 0)), (.val (.int .u64 0)), (.val (.string ⟨#[]⟩)), (.val (.slice none 0 0))] [])⟩ :: vc_ref14_Check_o8_1
def vc_ref14_Check_r6 : VCode := (.keep [1, 3, 52] (.cond (.t 52) (.region false vc_ref14_Check_o7) (.region false vc_ref14_Check_o8)))
def vc_ref14_Check_o9 : List VO := ⟨(some 50), none, (.fld 0 (.t 1))⟩ :: ⟨(some 51), none, (.load false 1 (.t 50))⟩ :: ⟨(some 52), none, (.call 88 [] [(.t 51)])⟩ :: []
def vc_ref14_Check_r7 : VCode := (.keep [1, 3] (.seq (.seq (.region false vc_ref14_Check_o9) vc_ref14_Check_r6) vc_ref14_Check_r5))
def vc_ref14_Check_o10_2 : List VO := ⟨(some 43), none, (.pick (.t 39) (.t 42) (.c (.val (.bool false))))⟩ :: ⟨none, none, .kp [1, 43]⟩ :: ⟨(some 3), none, (.mv (.t 43))⟩ :: []
def vc_ref14_Check_o10_1 : List VO := ⟨(some 38), none, (.pick (.t 34) (.t 37) (.c (.val (.bool false))))⟩ :: ⟨none, none, .kp [1, 38]⟩ :: ⟨(some 39), none, (.mv (.t 38))⟩ :: ⟨(some 40), (some (39, true)), (.fld 3 (.t 1))⟩ :: ⟨(some 41), (some (39, true)), (.load false 1 (.t 40))⟩ :: ⟨none, none, .kp [1, 39, 41]⟩ :: ⟨(some 42), (some (39, true)), (.bin .leq (.t 41) (.c (.val (.int .i64 2199023255552))))⟩ :: vc_ref14_Check_o10_2
def vc_ref14_Check_o10 : List VO := ⟨(some 33), none, (.mv (.t 3))⟩ :: ⟨(some 34), none, (.mv (.t 33))⟩ :: ⟨none, none, .kp [1, 34]⟩ :: ⟨(some 35), (some (34, true)), (.fld 3 (.t 1))⟩ :: ⟨(some 36), (some (34, true)), (.load false 1 (.t 35))⟩ :: ⟨(some 37), (some (34, true)), (.bin .geq (.t 36) (.c (.val (.int .i64 0))))⟩ :: ⟨none, none, .kp [1, 34, 37]⟩ :: vc_ref14_Check_o10_1
def vc_ref14_Check_o11_1 : List VO := ⟨(some 49), none, (.pick (.t 45) (.t 48) (.c (.val (.bool false))))⟩ :: ⟨none, none, .kp [1, 49]⟩ :: ⟨(some 3), none, (.mv (.t 49))⟩ :: []
def vc_ref14_Check_o11 : List VO := ⟨(some 44), none, (.mv (.t 3))⟩ :: ⟨(some 45), none, (.mv (.t 44))⟩ :: ⟨none, none, .kp [1, 45]⟩ :: ⟨(some 46), (some (45, true)), (.fld 3 (.t 1))⟩ :: ⟨(some 47), (some (45, true)), (.load false 1 (.t 46))⟩ :: ⟨(some 48), (some (45, true)), (.bin .eql (.t 47) (.c (.val (.int .i64 0))))⟩ :: ⟨none, none, .kp [1, 45, 48]⟩ :: vc_ref14_Check_o11_1
def vc_ref14_Check_r8 : VCode := (.keep [1, 3, 32] (.cond (.t 32) (.region false vc_ref14_Check_o10) (.region false vc_ref14_Check_o11)))
def vc_ref14_Check_o12 : List VO := ⟨(some 30), none, (.fld 0 (.t 1))⟩ :: ⟨(some 31), none, (.load false 1 (.t 30))⟩ :: ⟨(some 32), none, (.call 87 [] [(.t 31)])⟩ :: []
def vc_ref14_Check_r9 : VCode := (.keep [1, 3] (.seq (.seq (.region false vc_ref14_Check_o12) vc_ref14_Check_r8) vc_ref14_Check_r7))
def vc_ref14_Check_o13_5 : List VO := ⟨(some 29), none, (.pick (.t 26) (.t 28) (.c (.val (.bool false))))⟩ :: ⟨none, none, .kp [1, 29]⟩ :: ⟨(some 3), none, (.mv (.t 29))⟩ :: []
def vc_ref14_Check_o13_4 : List VO := ⟨(some 24), (some (22, true)), (.call 85 [] [(.t 23)])⟩ :: ⟨none, none, .kp [1, 22, 24]⟩ :: ⟨(some 25), none, (.pick (.t 22) (.t 24) (.c (.val (.bool false))))⟩ :: ⟨none, none, .kp [1, 25]⟩ :: ⟨(some 26), none, (.mv (.t 25))⟩ :: ⟨(some 27), (some (26, true)), (.load true 13 (.t 1))⟩ :: ⟨(some 28), (some (26, true)), (.call 86 [] [(.t 27)])⟩ :: ⟨none, none, .kp [1, 26, 28]⟩ :: vc_ref14_Check_o13_5
def vc_ref14_Check_o13_3 : List VO := ⟨(some 19), (some (17, true)), (.load false 1 (.t 18))⟩ :: ⟨none, none, .kp [1, 17, 19]⟩ :: ⟨(some 20), (some (17, true)), (.bin .leq (.t 19) (.c (.val (.int .i64 1099511627776))))⟩ :: ⟨(some 21), none, (.pick (.t 17) (.t 20) (.c (.val (.bool false))))⟩ :: ⟨none, none, .kp [1, 21]⟩ :: ⟨(some 22), none, (.mv (.t 21))⟩ :: ⟨(some 23), (some (22, true)), (.load true 13 (.t 1))⟩ :: vc_ref14_Check_o13_4
def vc_ref14_Check_o13_2 : List VO := ⟨(some 14), (some (12, true)), (.load false 1 (.t 13))⟩ :: ⟨none, none, .kp [1, 12, 14]⟩ :: ⟨(some 15), (some (12, true)), (.bin .geq (.t 14) (.c (.val (.int .i64 0))))⟩ :: ⟨(some 16), none, (.pick (.t 12) (.t 15) (.c (.val (.bool false))))⟩ :: ⟨none, none, .kp [1, 16]⟩ :: ⟨(some 17), none, (.mv (.t 16))⟩ :: ⟨(some 18), (some (17, true)), (.fld 1 (.t 1))⟩ :: vc_ref14_Check_o13_3
def vc_ref14_Check_o13_1 : List VO := ⟨(some 9), (some (7, true)), (.load false 1 (.t 8))⟩ :: ⟨none, none, .kp [1, 7, 9]⟩ :: ⟨(some 10), (some (7, true)), (.bin .leq (.t 9) (.c (.val (.int .i64 19))))⟩ :: ⟨(some 11), none, (.pick (.t 7) (.t 10) (.c (.val (.bool false))))⟩ :: ⟨none, none, .kp [1, 11]⟩ :: ⟨(some 12), none, (.mv (.t 11))⟩ :: ⟨(some 13), (some (12, true)), (.fld 1 (.t 1))⟩ :: vc_ref14_Check_o13_2
def vc_ref14_Check_o13 : List VO := ⟨(some 4), none, (.fld 0 (.t 1))⟩ :: ⟨(some 5), none, (.load false 1 (.t 4))⟩ :: ⟨(some 6), none, (.bin .geq (.t 5) (.c (.val (.int .i64 1))))⟩ :: ⟨none, none, .kp [1, 6]⟩ :: ⟨(some 7), none, (.mv (.t 6))⟩ :: ⟨(some 8), (some (7, true)), (.fld 0 (.t 1))⟩ :: vc_ref14_Check_o13_1
def vc_ref14_Check_r10 : VCode := (.keep [1] (.seq (.region false vc_ref14_Check_o13) vc_ref14_Check_r9))
def vc_ref14_Check_o14 : List VO := ⟨(some 1), none, (.box 36 (.t 0))⟩ :: ⟨(some 2), none, (.mv (.c (.val (.int .i64 0))))⟩ :: []
def vc_ref14_Check : VCode := (.seq (.region false vc_ref14_Check_o14) vc_ref14_Check_r10)
def rs_ref14_Check : List RV := [(.t 2)]
theorem comp_ref14_Check : ccode Try.prog (Try.f53.body.getD .skip) = some (strip vc_ref14_Check) := by kernel_rfl
theorem code_ref14_Check : IsCode Try.prog id_ref14_Check 86 vc_ref14_Check rs_ref14_Check := ⟨_, _, Try.func53, by kernel_rfl, rfl, comp_ref14_Check, by kernel_rfl, by kernel_rfl, rfl⟩

/- usher/usherref14.Clone -/
def vc_ref14_Clone_o1 : List VO := ⟨(some 7), none, (.load true 13 (.t 1))⟩ :: ⟨none, none, (.store 13 (.t 2) (.t 7))⟩ :: []
def vc_ref14_Clone_r1 : VCode := (.keep [1, 2] (.seq (.region false vc_ref14_Clone_o1) (.keep [2] .ret)))
def vc_ref14_Clone_o2 : List VO := ⟨(some 3), none, (.fld 5 (.t 1))⟩ :: ⟨(some 4), none, (.load true 5 (.t 3))⟩ :: ⟨(some 5), none, (.call 100 [] [(.t 4)])⟩ :: ⟨none, none, .kp [1, 2, 5]⟩ :: ⟨(some 6), none, (.fld 5 (.t 1))⟩ :: ⟨none, none, (.store 5 (.t 6) (.t 5))⟩ :: []
def vc_ref14_Clone_r2 : VCode := (.keep [1, 2] (.seq (.region false vc_ref14_Clone_o2) vc_ref14_Clone_r1))
def vc_ref14_Clone_o3 : List VO := ⟨(some 1), none, (.box 36 (.t 0))⟩ :: ⟨(some 2), none, (.alloc 36 [(.val (.int .i64 0)), (.val (.int .i64 0)), (.val (.int .i64 0)), (.val (.int .i64 0)), (.val (.string ⟨#[]⟩)), (.val (.int .i64 0)), (.val (.int .i64 0)), (.val (.int .u64 0)), (.val (.string ⟨#[]⟩)), (.val (.slice none 0 0)), (.val (.int .i64 0)), (.val (.int .u64 0)), (.val (.int .i64 0))])⟩ :: []
def vc_ref14_Clone : VCode := (.seq (.region false vc_ref14_Clone_o3) vc_ref14_Clone_r2)
def rs_ref14_Clone : List RV := [(.c 2 true 13)]
theorem comp_ref14_Clone : ccode Try.prog (Try.f64.body.getD .skip) = some (strip vc_ref14_Clone) := by kernel_rfl
theorem code_ref14_Clone : IsCode Try.prog id_ref14_Clone 8 vc_ref14_Clone rs_ref14_Clone := ⟨_, _, Try.func64, by kernel_rfl, rfl, comp_ref14_Clone, by kernel_rfl, by kernel_rfl, rfl⟩

/- usher/usherref14.num -/
def vc_ref14_num_o1 : List VO := ⟨(some 25), none, (.fld 2 (.t 1))⟩ :: ⟨(some 26), none, (.load false 1 (.t 25))⟩ :: ⟨none, none, .kp [26]⟩ :: ⟨(some 27), none, (.bin .eql (.t 26) (.c (.val (.int .i64 0))))⟩ :: ⟨(some 2), none, (.mv (.t 27))⟩ :: []
def vc_ref14_num_r1 : VCode := (.keep [1] (.seq (.region false vc_ref14_num_o1) (.keep [2] .ret)))
def vc_ref14_num_o2_1 : List VO := ⟨(some 12), (some (10, true)), (.load false 1 (.t 11))⟩ :: ⟨(some 13), (some (10, true)), (.bin .leq (.t 12) (.c (.val (.int .i64 2147483648))))⟩ :: ⟨none, none, .kp [10, 13]⟩ :: ⟨(some 14), none, (.pick (.t 10) (.t 13) (.c (.val (.bool false))))⟩ :: ⟨none, none, .kp [14]⟩ :: ⟨(some 2), none, (.mv (.t 14))⟩ :: []
def vc_ref14_num_o2 : List VO := ⟨(some 7), none, (.fld 2 (.t 1))⟩ :: ⟨(some 8), none, (.load false 1 (.t 7))⟩ :: ⟨(some 9), none, (.bin .geq (.t 8) (.c (.val (.int .i64 1))))⟩ :: ⟨none, none, .kp [1, 9]⟩ :: ⟨(some 10), none, (.mv (.t 9))⟩ :: ⟨(some 11), (some (10, true)), (.fld 2 (.t 1))⟩ :: ⟨none, none, .kp [10, 11]⟩ :: vc_ref14_num_o2_1
def vc_ref14_num_o3_1 : List VO := ⟨(some 22), (some (20, true)), (.load false 1 (.t 21))⟩ :: ⟨(some 23), (some (20, true)), (.bin .leq (.t 22) (.c (.val (.int .i64 10))))⟩ :: ⟨none, none, .kp [20, 23]⟩ :: ⟨(some 24), none, (.pick (.t 20) (.t 23) (.c (.val (.bool false))))⟩ :: ⟨none, none, .kp [24]⟩ :: ⟨(some 2), none, (.mv (.t 24))⟩ :: []
def vc_ref14_num_o3 : List VO := ⟨(some 17), none, (.fld 2 (.t 1))⟩ :: ⟨(some 18), none, (.load false 1 (.t 17))⟩ :: ⟨(some 19), none, (.bin .geq (.t 18) (.c (.val (.int .i64 0))))⟩ :: ⟨none, none, .kp [1, 19]⟩ :: ⟨(some 20), none, (.mv (.t 19))⟩ :: ⟨(some 21), (some (20, true)), (.fld 2 (.t 1))⟩ :: ⟨none, none, .kp [20, 21]⟩ :: vc_ref14_num_o3_1
def vc_ref14_num_r2 : VCode := (.keep [1, 15] (.cond (.t 15) (.seq (.region false vc_ref14_num_o3) (.keep [2] .ret)) .skip))
def vc_ref14_num_o4 : List VO := ⟨(some 16), none, (.bin .eql (.t 4) (.c (.val (.int .i64 5))))⟩ :: ⟨(some 15), none, (.mv (.t 16))⟩ :: []
def vc_ref14_num_r3 : VCode := (.keep [1, 4, 5] (.cond (.t 5) (.seq (.region false vc_ref14_num_o2) (.keep [2] .ret)) (.seq (.region false vc_ref14_num_o4) vc_ref14_num_r2)))
def vc_ref14_num_o5 : List VO := ⟨(some 6), none, (.bin .eql (.t 4) (.c (.val (.int .i64 2))))⟩ :: ⟨(some 5), none, (.mv (.t 6))⟩ :: []
def vc_ref14_num_r4 : VCode := (.keep [1, 4] (.block 0 (.seq (.region false vc_ref14_num_o5) vc_ref14_num_r3)))
def vc_ref14_num_o6 : List VO := ⟨(some 3), none, (.fld 0 (.t 1))⟩ :: ⟨(some 4), none, (.load false 1 (.t 3))⟩ :: []
def vc_ref14_num_r5 : VCode := (.keep [1] (.seq (.seq (.region false vc_ref14_num_o6) vc_ref14_num_r4) vc_ref14_num_r1))
def vc_ref14_num_o7 : List VO := ⟨(some 1), none, (.box 36 (.t 0))⟩ :: ⟨(some 2), none, (.mv (.c (.val (.bool false))))⟩ :: []
def vc_ref14_num : VCode := (.seq (.region false vc_ref14_num_o7) vc_ref14_num_r5)
def rs_ref14_num : List RV := [(.t 2)]
theorem comp_ref14_num : ccode Try.prog (Try.f85.body.getD .skip) = some (strip vc_ref14_num) := by kernel_rfl
theorem code_ref14_num : IsCode Try.prog id_ref14_num 28 vc_ref14_num rs_ref14_num := ⟨_, _, Try.func85, by kernel_rfl, rfl, comp_ref14_num, by kernel_rfl, by kernel_rfl, rfl⟩

/- usher/usherref14.name -/
def vc_ref14_name_o1 : List VO := ⟨(some 15), none, (.fld 4 (.t 1))⟩ :: ⟨(some 16), none, (.load false 1 (.t 15))⟩ :: ⟨none, none, .kp [16]⟩ :: ⟨(some 17), none, (.bin .eql (.t 16) (.c (.val (.string ⟨#[]⟩))))⟩ :: ⟨(some 2), none, (.mv (.t 17))⟩ :: []
def vc_ref14_name_r1 : VCode := (.keep [1] (.seq (.region false vc_ref14_name_o1) (.keep [2] .ret)))
def vc_ref14_name_o2 : List VO := ⟨(some 12), none, (.fld 4 (.t 1))⟩ :: ⟨(some 13), none, (.load false 1 (.t 12))⟩ :: ⟨none, none, .kp [13]⟩ :: ⟨(some 14), none, (.call 126 [] [(.t 13)])⟩ :: ⟨(some 2), none, (.mv (.t 14))⟩ :: []
def vc_ref14_name_r2 : VCode := (.keep [1, 11] (.cond (.t 11) (.seq (.region false vc_ref14_name_o2) (.keep [2] .ret)) .skip))
def vc_ref14_name_o3 : List VO := ⟨(some 9), none, (.fld 0 (.t 1))⟩ :: ⟨(some 10), none, (.load false 1 (.t 9))⟩ :: ⟨(some 11), none, (.call 125 [] [(.t 10)])⟩ :: []
def vc_ref14_name_r3 : VCode := (.keep [1] (.seq (.seq (.region false vc_ref14_name_o3) vc_ref14_name_r2) vc_ref14_name_r1))
def vc_ref14_name_o4 : List VO := ⟨(some 6), none, (.fld 4 (.t 1))⟩ :: ⟨(some 7), none, (.load false 1 (.t 6))⟩ :: ⟨none, none, .kp [7]⟩ :: ⟨(some 8), none, (.call 124 [] [(.t 7)])⟩ :: ⟨(some 2), none, (.mv (.t 8))⟩ :: []
def vc_ref14_name_r4 : VCode := (.keep [1, 5] (.cond (.t 5) (.seq (.region false vc_ref14_name_o4) (.keep [2] .ret)) .skip))
def vc_ref14_name_o5 : List VO := ⟨(some 3), none, (.fld 0 (.t 1))⟩ :: ⟨(some 4), none, (.load false 1 (.t 3))⟩ :: ⟨(some 5), none, (.call 123 [] [(.t 4)])⟩ :: []
def vc_ref14_name_r5 : VCode := (.keep [1] (.seq (.seq (.region false vc_ref14_name_o5) vc_ref14_name_r4) vc_ref14_name_r3))
def vc_ref14_name_o6 : List VO := ⟨(some 1), none, (.box 36 (.t 0))⟩ :: ⟨(some 2), none, (.mv (.c (.val (.bool false))))⟩ :: []
def vc_ref14_name : VCode := (.seq (.region false vc_ref14_name_o6) vc_ref14_name_r5)
def rs_ref14_name : List RV := [(.t 2)]
theorem comp_ref14_name : ccode Try.prog (Try.f86.body.getD .skip) = some (strip vc_ref14_name) := by kernel_rfl
theorem code_ref14_name : IsCode Try.prog id_ref14_name 18 vc_ref14_name rs_ref14_name := ⟨_, _, Try.func86, by kernel_rfl, rfl, comp_ref14_name, by kernel_rfl, by kernel_rfl, rfl⟩

/- usher/usherref14.hasDue -/
def vc_ref14_hasDue_o1 : List VO := ⟨(some 3), none, (.mv (.t 0))⟩ :: ⟨(some 4), none, (.lit false 3 1 4 [(.val (.int .i64 0)), (.val (.int .i64 0)), (.val (.int .i64 0)), (.val (.int .i64 0))] [(0, (1, (.c (.val (.int .i64 1))))), (1, (1, (.c (.val (.int .i64 2))))), (2, (1, (.c (.val (.int .i64 3))))), (3, (1, (.c (.val (.int .i64 9)))))])⟩ :: ⟨(some 5), none, (.call 127 [] [(.t 3), (.t 4)])⟩ :: ⟨none, none, .kp [5]⟩ :: ⟨(some 2), none, (.mv (.t 5))⟩ :: []
def vc_ref14_hasDue_r1 : VCode := (.keep [0] (.seq (.region false vc_ref14_hasDue_o1) (.keep [2] .ret)))
def vc_ref14_hasDue_o2 : List VO := ⟨(some 2), none, (.mv (.c (.val (.bool false))))⟩ :: []
def vc_ref14_hasDue : VCode := (.seq (.region false vc_ref14_hasDue_o2) vc_ref14_hasDue_r1)
def rs_ref14_hasDue : List RV := [(.t 2)]
theorem comp_ref14_hasDue : ccode Try.prog (Try.f87.body.getD .skip) = some (strip vc_ref14_hasDue) := by kernel_rfl
theorem code_ref14_hasDue : IsCode Try.prog id_ref14_hasDue 6 vc_ref14_hasDue rs_ref14_hasDue := ⟨_, _, Try.func87, by kernel_rfl, rfl, comp_ref14_hasDue, by kernel_rfl, by kernel_rfl, rfl⟩

/- usher/usherref14.hasValue -/
def vc_ref14_hasValue_o1 : List VO := ⟨(some 3), none, (.mv (.t 0))⟩ :: ⟨(some 4), none, (.lit false 3 1 6 [(.val (.int .i64 0)), (.val (.int .i64 0)), (.val (.int .i64 0)), (.val (.int .i64 0)), (.val (.int .i64 0)), (.val (.int .i64 0))] [(0, (1, (.c (.val (.int .i64 1))))), (1, (1, (.c (.val (.int .i64 7))))), (2, (1, (.c (.val (.int .i64 12))))), (3, (1, (.c (.val (.int .i64 13))))), (4, (1, (.c (.val (.int .i64 14))))), (5, (1, (.c (.val (.int .i64 15)))))])⟩ :: ⟨(some 5), none, (.call 127 [] [(.t 3), (.t 4)])⟩ :: ⟨none, none, .kp [5]⟩ :: ⟨(some 2), none, (.mv (.t 5))⟩ :: []
def vc_ref14_hasValue_r1 : VCode := (.keep [0] (.seq (.region false vc_ref14_hasValue_o1) (.keep [2] .ret)))
def vc_ref14_hasValue_o2 : List VO := ⟨(some 2), none, (.mv (.c (.val (.bool false))))⟩ :: []
def vc_ref14_hasValue : VCode := (.seq (.region false vc_ref14_hasValue_o2) vc_ref14_hasValue_r1)
def rs_ref14_hasValue : List RV := [(.t 2)]
theorem comp_ref14_hasValue : ccode Try.prog (Try.f88.body.getD .skip) = some (strip vc_ref14_hasValue) := by kernel_rfl
theorem code_ref14_hasValue : IsCode Try.prog id_ref14_hasValue 6 vc_ref14_hasValue rs_ref14_hasValue := ⟨_, _, Try.func88, by kernel_rfl, rfl, comp_ref14_hasValue, by kernel_rfl, by kernel_rfl, rfl⟩

/- usher/usherref14.hasPolicy -/
def vc_ref14_hasPolicy_o1 : List VO := ⟨(some 3), none, (.mv (.t 0))⟩ :: ⟨(some 4), none, (.bin .eql (.t 3) (.c (.val (.int .i64 1))))⟩ :: ⟨none, none, .kp [4]⟩ :: ⟨(some 2), none, (.mv (.t 4))⟩ :: []
def vc_ref14_hasPolicy_r1 : VCode := (.keep [0] (.seq (.region false vc_ref14_hasPolicy_o1) (.keep [2] .ret)))
def vc_ref14_hasPolicy_o2 : List VO := ⟨(some 2), none, (.mv (.c (.val (.bool false))))⟩ :: []
def vc_ref14_hasPolicy : VCode := (.seq (.region false vc_ref14_hasPolicy_o2) vc_ref14_hasPolicy_r1)
def rs_ref14_hasPolicy : List RV := [(.t 2)]
theorem comp_ref14_hasPolicy : ccode Try.prog (Try.f90.body.getD .skip) = some (strip vc_ref14_hasPolicy) := by kernel_rfl
theorem code_ref14_hasPolicy : IsCode Try.prog id_ref14_hasPolicy 5 vc_ref14_hasPolicy rs_ref14_hasPolicy := ⟨_, _, Try.func90, by kernel_rfl, rfl, comp_ref14_hasPolicy, by kernel_rfl, by kernel_rfl, rfl⟩

/- usher/usherref14.hasName -/
def vc_ref14_hasName_o1 : List VO := ⟨(some 3), none, (.mv (.t 0))⟩ :: ⟨(some 4), none, (.lit false 3 1 7 [(.val (.int .i64 0)), (.val (.int .i64 0)), (.val (.int .i64 0)), (.val (.int .i64 0)), (.val (.int .i64 0)), (.val (.int .i64 0)), (.val (.int .i64 0))] [(0, (1, (.c (.val (.int .i64 1))))), (1, (1, (.c (.val (.int .i64 7))))), (2, (1, (.c (.val (.int .i64 9))))), (3, (1, (.c (.val (.int .i64 10))))), (4, (1, (.c (.val (.int .i64 11))))), (5, (1, (.c (.val (.int .i64 12))))), (6, (1, (.c (.val (.int .i64 13)))))])⟩ :: ⟨(some 5), none, (.call 127 [] [(.t 3), (.t 4)])⟩ :: ⟨none, none, .kp [5]⟩ :: ⟨(some 2), none, (.mv (.t 5))⟩ :: []
def vc_ref14_hasName_r1 : VCode := (.keep [0] (.seq (.region false vc_ref14_hasName_o1) (.keep [2] .ret)))
def vc_ref14_hasName_o2 : List VO := ⟨(some 2), none, (.mv (.c (.val (.bool false))))⟩ :: []
def vc_ref14_hasName : VCode := (.seq (.region false vc_ref14_hasName_o2) vc_ref14_hasName_r1)
def rs_ref14_hasName : List RV := [(.t 2)]
theorem comp_ref14_hasName : ccode Try.prog (Try.f123.body.getD .skip) = some (strip vc_ref14_hasName) := by kernel_rfl
theorem code_ref14_hasName : IsCode Try.prog id_ref14_hasName 6 vc_ref14_hasName rs_ref14_hasName := ⟨_, _, Try.func123, by kernel_rfl, rfl, comp_ref14_hasName, by kernel_rfl, by kernel_rfl, rfl⟩

/- usher/usherref14.hasText -/
def vc_ref14_hasText_o1 : List VO := ⟨(some 3), none, (.mv (.t 0))⟩ :: ⟨(some 4), none, (.lit false 3 1 3 [(.val (.int .i64 0)), (.val (.int .i64 0)), (.val (.int .i64 0))] [(0, (1, (.c (.val (.int .i64 5))))), (1, (1, (.c (.val (.int .i64 16))))), (2, (1, (.c (.val (.int .i64 18)))))])⟩ :: ⟨(some 5), none, (.call 127 [] [(.t 3), (.t 4)])⟩ :: ⟨none, none, .kp [5]⟩ :: ⟨(some 2), none, (.mv (.t 5))⟩ :: []
def vc_ref14_hasText_r1 : VCode := (.keep [0] (.seq (.region false vc_ref14_hasText_o1) (.keep [2] .ret)))
def vc_ref14_hasText_o2 : List VO := ⟨(some 2), none, (.mv (.c (.val (.bool false))))⟩ :: []
def vc_ref14_hasText : VCode := (.seq (.region false vc_ref14_hasText_o2) vc_ref14_hasText_r1)
def rs_ref14_hasText : List RV := [(.t 2)]
theorem comp_ref14_hasText : ccode Try.prog (Try.f125.body.getD .skip) = some (strip vc_ref14_hasText) := by kernel_rfl
theorem code_ref14_hasText : IsCode Try.prog id_ref14_hasText 6 vc_ref14_hasText rs_ref14_hasText := ⟨_, _, Try.func125, by kernel_rfl, rfl, comp_ref14_hasText, by kernel_rfl, by kernel_rfl, rfl⟩

/- usher/usherref14.in -/
def vc_ref14_in_o1 : List VO := ⟨(some 4), none, (.mv (.c (.val (.bool false))))⟩ :: []
def vc_ref14_in_r1 : VCode := (.keep [] (.seq (.region false vc_ref14_in_o1) (.keep [4] .ret)))
def vc_ref14_in_o2 : List VO := ⟨(some 10), none, (.mv (.t 5))⟩ :: ⟨(some 11), none, (.bin .add (.t 10) (.c (.val (.int .i64 1))))⟩ :: ⟨none, none, .kp [0, 1, 11]⟩ :: ⟨(some 5), none, (.mv (.t 11))⟩ :: []
def vc_ref14_in_r2 : VCode := (.keep [0, 1, 5] (.region false vc_ref14_in_o2))
def vc_ref14_in_o3 : List VO := ⟨(some 4), none, (.mv (.c (.val (.bool true))))⟩ :: []
def vc_ref14_in_r3 : VCode := (.keep [0, 1, 5, 17] (.cond (.t 17) (.seq (.region false vc_ref14_in_o3) (.keep [4] .ret)) .skip))
def vc_ref14_in_o4_1 : List VO := ⟨(some 17), none, (.bin .eql (.t 15) (.t 16))⟩ :: []
def vc_ref14_in_o4 : List VO := ⟨(some 12), none, (.mv (.t 1))⟩ :: ⟨(some 13), none, (.mv (.t 5))⟩ :: ⟨(some 14), none, (.idx 1 (.t 12) (.t 13))⟩ :: ⟨none, none, .kp [0, 1, 5, 14]⟩ :: ⟨(some 15), none, (.load false 1 (.t 14))⟩ :: ⟨(some 16), none, (.mv (.t 0))⟩ :: vc_ref14_in_o4_1
def vc_ref14_in_r4 : VCode := (.keep [0, 1, 5] (.seq (.block 1 (.seq (.region false vc_ref14_in_o4) vc_ref14_in_r3)) vc_ref14_in_r2))
def vc_ref14_in_r5 : VCode := (.keep [0, 1, 5, 9] (.cond (.t 9) .skip (.exit 0)))
def vc_ref14_in_o5 : List VO := ⟨(some 6), none, (.mv (.t 5))⟩ :: ⟨(some 7), none, (.mv (.t 1))⟩ :: ⟨(some 8), none, (.len (.t 7))⟩ :: ⟨(some 9), none, (.bin .lss (.t 6) (.t 8))⟩ :: []
def vc_ref14_in_l6 : VCode := (.seq (.seq (.region false vc_ref14_in_o5) vc_ref14_in_r5) vc_ref14_in_r4)
def vc_ref14_in_r7 : VCode := (.keep [0, 1, 5] (.block 0 (.loop (.keep [0, 1, 5] vc_ref14_in_l6))))
def vc_ref14_in_o6 : List VO := ⟨(some 5), none, (.mv (.c (.val (.int .i64 0))))⟩ :: []
def vc_ref14_in_r8 : VCode := (.keep [0, 1] (.seq (.seq (.region false vc_ref14_in_o6) vc_ref14_in_r7) vc_ref14_in_r1))
def vc_ref14_in_o7 : List VO := ⟨(some 4), none, (.mv (.c (.val (.bool false))))⟩ :: []
def vc_ref14_in : VCode := (.seq (.region false vc_ref14_in_o7) vc_ref14_in_r8)
def rs_ref14_in : List RV := [(.t 4)]
theorem comp_ref14_in : ccode Try.prog (Try.f127.body.getD .skip) = some (strip vc_ref14_in) := by kernel_rfl
theorem code_ref14_in : IsCode Try.prog id_ref14_in 18 vc_ref14_in rs_ref14_in := ⟨_, _, Try.func127, by kernel_rfl, rfl, comp_ref14_in, by kernel_rfl, by kernel_rfl, rfl⟩

end Go.Proofs.Ytalbdoapcpgelaa
