/- The code of functions, for the abstract machine, and that it is theirs. Printed by vc2.py. -/
import Derived.Test.YtlodbaikbgbhjaaIds
set_option linter.unusedVariables false
set_option maxRecDepth 100000
namespace Go.Proofs.Ytlodbaikbgbhjaa
open Go Go.Vm

/- usher/usherref02.Text -/
def vc_ref02_Text_o1_1 : List VO := ⟨(some 10), none, (.appS 5 (.t 8) (.t 9))⟩ :: ⟨none, none, .kp [10]⟩ :: ⟨(some 4), none, (.mv (.t 10))⟩ :: []
def vc_ref02_Text_o1 : List VO := ⟨(some 5), none, (.mv (.t 0))⟩ :: ⟨(some 6), none, (.mv (.t 1))⟩ :: ⟨(some 7), none, (.lenS (.t 6))⟩ :: ⟨none, none, .kp [1, 5, 7]⟩ :: ⟨(some 8), none, (.call 94 [] [(.t 5), (.t 7)])⟩ :: ⟨none, none, .kp [1, 8]⟩ :: ⟨(some 9), none, (.mv (.t 1))⟩ :: vc_ref02_Text_o1_1
def vc_ref02_Text_r1 : VCode := (.keep [0, 1] (.seq (.region false vc_ref02_Text_o1) (.keep [4] .ret)))
def vc_ref02_Text_o2 : List VO := ⟨(some 4), none, (.mv (.c (.val (.slice none 0 0))))⟩ :: []
def vc_ref02_Text : VCode := (.seq (.region false vc_ref02_Text_o2) vc_ref02_Text_r1)
def rs_ref02_Text : List RV := [(.t 4)]
theorem comp_ref02_Text : ccode Try.prog (Try.f93.body.getD .skip) = some (strip vc_ref02_Text) := by kernel_rfl
theorem code_ref02_Text : IsCode Try.prog id_ref02_Text 11 vc_ref02_Text rs_ref02_Text := ⟨_, _, Try.func93, by kernel_rfl, rfl, comp_ref02_Text, by kernel_rfl, by kernel_rfl, rfl⟩

/- usher/usherref02.Num -/
def vc_ref02_Num_o1_2 : List VO := ⟨(some 28), none, (.call 139 [true] [(.t 24), (.t 26), (.t 27)])⟩ :: ⟨none, none, .kp [28]⟩ :: ⟨(some 4), none, (.mv (.t 28))⟩ :: []
def vc_ref02_Num_o1_1 : List VO := ⟨(some 23), none, (.lit false 5 1 1 [(.val (.int .u8 0))] [(0, (1, (.t 22)))])⟩ :: ⟨(some 24), none, (.app 5 1 1 (.t 19) (.t 23))⟩ :: ⟨none, none, .kp [1, 5, 24]⟩ :: ⟨(some 25), none, (.mv (.t 1))⟩ :: ⟨(some 26), none, (.cvInt .u64 (.t 25))⟩ :: ⟨none, none, .kp [5, 24, 26]⟩ :: ⟨(some 27), none, (.mv (.t 5))⟩ :: vc_ref02_Num_o1_2
def vc_ref02_Num_o1 : List VO := ⟨(some 18), none, (.mv (.t 0))⟩ :: ⟨(some 19), none, (.call 137 [] [(.t 18)])⟩ :: ⟨none, none, .kp [1, 5, 19]⟩ :: ⟨(some 20), none, (.mv (.t 5))⟩ :: ⟨(some 21), none, (.bin .add (.c (.val (.int .i64 239))) (.t 20))⟩ :: ⟨(some 22), none, (.cvInt .u8 (.t 21))⟩ :: ⟨none, none, .kp [1, 5, 19, 22]⟩ :: vc_ref02_Num_o1_1
def vc_ref02_Num_r1 : VCode := (.keep [0, 1, 5] (.seq (.region false vc_ref02_Num_o1) (.keep [4] .ret)))
def vc_ref02_Num_o2 : List VO := ⟨(some 16), none, (.mv (.t 1))⟩ :: ⟨(some 17), none, (.call 138 [] [(.t 16)])⟩ :: ⟨(some 5), none, (.mv (.t 17))⟩ :: []
def vc_ref02_Num_r2 : VCode := (.keep [0, 1] (.seq (.region false vc_ref02_Num_o2) vc_ref02_Num_r1))
def vc_ref02_Num_o3_1 : List VO := ⟨(some 15), none, (.app 5 1 1 (.t 11) (.t 14))⟩ :: ⟨none, none, .kp [15]⟩ :: ⟨(some 4), none, (.mv (.t 15))⟩ :: []
def vc_ref02_Num_o3 : List VO := ⟨(some 10), none, (.mv (.t 0))⟩ :: ⟨(some 11), none, (.call 137 [] [(.t 10)])⟩ :: ⟨none, none, .kp [1, 11]⟩ :: ⟨(some 12), none, (.mv (.t 1))⟩ :: ⟨(some 13), none, (.cvInt .u8 (.t 12))⟩ :: ⟨none, none, .kp [11, 13]⟩ :: ⟨(some 14), none, (.lit false 5 1 1 [(.val (.int .u8 0))] [(0, (1, (.t 13)))])⟩ :: vc_ref02_Num_o3_1
def vc_ref02_Num_r3 : VCode := (.keep [0, 1, 9] (.cond (.t 9) (.seq (.region false vc_ref02_Num_o3) (.keep [4] .ret)) .skip))
def vc_ref02_Num_o4 : List VO := ⟨(some 8), none, (.mv (.t 1))⟩ :: ⟨(some 9), none, (.bin .lss (.t 8) (.c (.val (.int .i64 240))))⟩ :: []
def vc_ref02_Num_r4 : VCode := (.keep [0, 1] (.seq (.seq (.region false vc_ref02_Num_o4) vc_ref02_Num_r3) vc_ref02_Num_r2))
def vc_ref02_Num_o5 : List VO := ⟨(some 1), none, (.mv (.c (.val (.int .i64 0))))⟩ :: []
def vc_ref02_Num_r5 : VCode := (.keep [0, 1, 7] (.cond (.t 7) (.region false vc_ref02_Num_o5) .skip))
def vc_ref02_Num_o6 : List VO := ⟨(some 6), none, (.mv (.t 1))⟩ :: ⟨(some 7), none, (.bin .lss (.t 6) (.c (.val (.int .i64 0))))⟩ :: []
def vc_ref02_Num_r6 : VCode := (.keep [0, 1] (.seq (.seq (.region false vc_ref02_Num_o6) vc_ref02_Num_r5) vc_ref02_Num_r4))
def vc_ref02_Num_o7 : List VO := ⟨(some 4), none, (.mv (.c (.val (.slice none 0 0))))⟩ :: []
def vc_ref02_Num : VCode := (.seq (.region false vc_ref02_Num_o7) vc_ref02_Num_r6)
def rs_ref02_Num : List RV := [(.t 4)]
theorem comp_ref02_Num : ccode Try.prog (Try.f94.body.getD .skip) = some (strip vc_ref02_Num) := by kernel_rfl
theorem code_ref02_Num : IsCode Try.prog id_ref02_Num 29 vc_ref02_Num rs_ref02_Num := ⟨_, _, Try.func94, by kernel_rfl, rfl, comp_ref02_Num, by kernel_rfl, by kernel_rfl, rfl⟩

/- usher/usherref02.Open -/
def vc_ref02_Open_o1 : List VO := ⟨(some 3), none, (.mv (.t 0))⟩ :: ⟨(some 4), none, (.call 137 [] [(.t 3)])⟩ :: ⟨none, none, .kp [4]⟩ :: ⟨(some 5), none, (.build [(.val (.slice none 0 0)), (.val (.int .i64 0))] [(0, (1, (.t 4))), (1, (1, (.c (.val (.int .i64 0)))))])⟩ :: ⟨(some 6), none, (.box 141 (.t 5))⟩ :: ⟨none, none, .kp [6]⟩ :: ⟨(some 2), none, (.mv (.t 6))⟩ :: []
def vc_ref02_Open_r1 : VCode := (.keep [0] (.seq (.region false vc_ref02_Open_o1) (.keep [2] .ret)))
def vc_ref02_Open_o2 : List VO := ⟨(some 2), none, (.mv (.c (.val (.pointer none))))⟩ :: []
def vc_ref02_Open : VCode := (.seq (.region false vc_ref02_Open_o2) vc_ref02_Open_r1)
def rs_ref02_Open : List RV := [(.t 2)]
theorem comp_ref02_Open : ccode Try.prog (Try.f95.body.getD .skip) = some (strip vc_ref02_Open) := by kernel_rfl
theorem code_ref02_Open : IsCode Try.prog id_ref02_Open 7 vc_ref02_Open rs_ref02_Open := ⟨_, _, Try.func95, by kernel_rfl, rfl, comp_ref02_Open, by kernel_rfl, by kernel_rfl, rfl⟩

/- (usher/usherref02.Reader).Text -/
def vc_ref02_Reader_Text_o1 : List VO := ⟨(some 47), none, (.mv (.t 6))⟩ :: ⟨(some 4), none, (.mv (.t 47))⟩ :: []
def vc_ref02_Reader_Text_r1 : VCode := (.keep [6] (.seq (.region false vc_ref02_Reader_Text_o1) (.keep [4] .ret)))
def vc_ref02_Reader_Text_o2_1 : List VO := ⟨(some 43), none, (.mv (.t 5))⟩ :: ⟨(some 44), none, (.cut 1 (.t 42) (some (.t 43)) none none)⟩ :: ⟨none, none, .kp [6, 38, 44]⟩ :: ⟨(some 45), none, (.nilck (.t 38))⟩ :: ⟨(some 46), none, (.fld 0 (.t 45))⟩ :: ⟨none, none, .kp [6, 44, 46]⟩ :: ⟨none, none, (.store 1 (.t 46) (.t 44))⟩ :: []
def vc_ref02_Reader_Text_o2 : List VO := ⟨(some 38), none, (.mv (.t 0))⟩ :: ⟨(some 39), none, (.mv (.t 0))⟩ :: ⟨(some 40), none, (.nilck (.t 39))⟩ :: ⟨none, none, .kp [5, 6, 38, 40]⟩ :: ⟨(some 41), none, (.fld 0 (.t 40))⟩ :: ⟨(some 42), none, (.load false 1 (.t 41))⟩ :: ⟨none, none, .kp [5, 6, 38, 42]⟩ :: vc_ref02_Reader_Text_o2_1
def vc_ref02_Reader_Text_r2 : VCode := (.keep [0, 5, 6] (.seq (.region false vc_ref02_Reader_Text_o2) vc_ref02_Reader_Text_r1))
def vc_ref02_Reader_Text_o3_1 : List VO := ⟨(some 36), none, (.cut 1 (.t 34) none (some (.t 35)) none)⟩ :: ⟨none, none, .kp [0, 5, 36]⟩ :: ⟨(some 37), none, (.toStr (.t 36))⟩ :: ⟨(some 6), none, (.mv (.t 37))⟩ :: []
def vc_ref02_Reader_Text_o3 : List VO := ⟨(some 31), none, (.mv (.t 0))⟩ :: ⟨(some 32), none, (.nilck (.t 31))⟩ :: ⟨(some 33), none, (.fld 0 (.t 32))⟩ :: ⟨none, none, .kp [0, 5, 33]⟩ :: ⟨(some 34), none, (.load false 1 (.t 33))⟩ :: ⟨(some 35), none, (.mv (.t 5))⟩ :: vc_ref02_Reader_Text_o3_1
def vc_ref02_Reader_Text_r3 : VCode := (.keep [0, 5] (.seq (.region false vc_ref02_Reader_Text_o3) vc_ref02_Reader_Text_r2))
def vc_ref02_Reader_Text_o4 : List VO := ⟨(some 4), none, (.mv (.c (.val (.string ⟨#[]⟩))))⟩ :: []
def vc_ref02_Reader_Text_c4 : VCode := (.seq (.region false vc_ref02_Reader_Text_o4) (.keep [4] .ret))
def vc_ref02_Reader_Text_r5 : VCode := (.keep [0, 5, 30] (.cond (.t 30) vc_ref02_Reader_Text_c4 .skip))
def vc_ref02_Reader_Text_o5 : List VO := ⟨(some 26), none, (.mv (.t 0))⟩ :: ⟨(some 27), none, (.nilck (.t 26))⟩ :: ⟨(some 28), none, (.fld 1 (.t 27))⟩ :: ⟨none, none, .kp [0, 5, 28]⟩ :: ⟨(some 29), none, (.load false 1 (.t 28))⟩ :: ⟨(some 30), none, (.bin .neq (.t 29) (.c (.val (.int .i64 0))))⟩ :: []
def vc_ref02_Reader_Text_r6 : VCode := (.keep [0, 5] (.seq (.seq (.region false vc_ref02_Reader_Text_o5) vc_ref02_Reader_Text_r5) vc_ref02_Reader_Text_r3))
def vc_ref02_Reader_Text_o6 : List VO := ⟨(some 24), none, (.mv (.t 0))⟩ :: ⟨(some 25), none, (.call 140 [] [(.t 24), (.c (.val (.int .i64 4)))])⟩ :: []
def vc_ref02_Reader_Text_r7 : VCode := (.keep [0, 5, 23] (.cond (.t 23) (.region false vc_ref02_Reader_Text_o6) .skip))
def vc_ref02_Reader_Text_o7_2 : List VO := ⟨(some 20), (some (15, true)), (.load false 1 (.t 19))⟩ :: ⟨none, none, .kp [0, 5, 15, 16, 20]⟩ :: ⟨(some 21), (some (15, true)), (.len (.t 20))⟩ :: ⟨(some 22), (some (15, true)), (.bin .gtr (.t 16) (.t 21))⟩ :: ⟨none, none, .kp [0, 5, 15, 22]⟩ :: ⟨(some 23), none, (.pick (.t 15) (.t 22) (.c (.val (.bool false))))⟩ :: []
def vc_ref02_Reader_Text_o7_1 : List VO := ⟨(some 15), none, (.mv (.t 14))⟩ :: ⟨(some 16), (some (15, true)), (.mv (.t 5))⟩ :: ⟨(some 17), (some (15, true)), (.mv (.t 0))⟩ :: ⟨(some 18), (some (15, true)), (.nilck (.t 17))⟩ :: ⟨none, none, .kp [0, 5, 15, 16, 18]⟩ :: ⟨(some 19), (some (15, true)), (.fld 0 (.t 18))⟩ :: vc_ref02_Reader_Text_o7_2
def vc_ref02_Reader_Text_o7 : List VO := ⟨(some 10), none, (.mv (.t 0))⟩ :: ⟨(some 11), none, (.nilck (.t 10))⟩ :: ⟨(some 12), none, (.fld 1 (.t 11))⟩ :: ⟨none, none, .kp [0, 5, 12]⟩ :: ⟨(some 13), none, (.load false 1 (.t 12))⟩ :: ⟨(some 14), none, (.bin .eql (.t 13) (.c (.val (.int .i64 0))))⟩ :: ⟨none, none, .kp [0, 5, 14]⟩ :: vc_ref02_Reader_Text_o7_1
def vc_ref02_Reader_Text_r8 : VCode := (.keep [0, 5] (.seq (.seq (.region false vc_ref02_Reader_Text_o7) vc_ref02_Reader_Text_r7) vc_ref02_Reader_Text_r6))
def vc_ref02_Reader_Text_o8 : List VO := ⟨(some 7), none, (.mv (.t 0))⟩ :: ⟨(some 8), none, (.mv (.t 1))⟩ :: ⟨(some 9), none, (.call 97 [] [(.t 7), (.t 8)])⟩ :: ⟨none, none, .kp [0, 9]⟩ :: ⟨(some 5), none, (.mv (.t 9))⟩ :: []
def vc_ref02_Reader_Text_r9 : VCode := (.keep [0, 1] (.seq (.region false vc_ref02_Reader_Text_o8) vc_ref02_Reader_Text_r8))
def vc_ref02_Reader_Text_o9 : List VO := ⟨(some 4), none, (.mv (.c (.val (.string ⟨#[]⟩))))⟩ :: []
def vc_ref02_Reader_Text : VCode := (.seq (.region false vc_ref02_Reader_Text_o9) vc_ref02_Reader_Text_r9)
def rs_ref02_Reader_Text : List RV := [(.t 4)]
theorem comp_ref02_Reader_Text : ccode Try.prog (Try.f96.body.getD .skip) = some (strip vc_ref02_Reader_Text) := by kernel_rfl
theorem code_ref02_Reader_Text : IsCode Try.prog id_ref02_Reader_Text 48 vc_ref02_Reader_Text rs_ref02_Reader_Text := ⟨_, _, Try.func96, by kernel_rfl, rfl, comp_ref02_Reader_Text, by kernel_rfl, by kernel_rfl, rfl⟩

/- (usher/usherref02.Reader).Num -/
def vc_ref02_Reader_Num_o1 : List VO := ⟨(some 52), none, (.mv (.t 5))⟩ :: ⟨(some 53), none, (.cvInt .i64 (.t 52))⟩ :: ⟨none, none, .kp [53]⟩ :: ⟨(some 4), none, (.mv (.t 53))⟩ :: []
def vc_ref02_Reader_Num_r1 : VCode := (.keep [5] (.seq (.region false vc_ref02_Reader_Num_o1) (.keep [4] .ret)))
def vc_ref02_Reader_Num_o2 : List VO := ⟨(some 4), none, (.mv (.c (.val (.int .i64 0))))⟩ :: []
def vc_ref02_Reader_Num_r2 : VCode := (.keep [] (.seq (.region false vc_ref02_Reader_Num_o2) (.keep [4] .ret)))
def vc_ref02_Reader_Num_o3 : List VO := ⟨(some 50), none, (.mv (.t 0))⟩ :: ⟨(some 51), none, (.call 140 [] [(.t 50), (.c (.val (.int .i64 5)))])⟩ :: []
def vc_ref02_Reader_Num_c3 : VCode := (.seq (.region false vc_ref02_Reader_Num_o3) vc_ref02_Reader_Num_r2)
def vc_ref02_Reader_Num_r4 : VCode := (.keep [0, 5, 49] (.cond (.t 49) vc_ref02_Reader_Num_c3 .skip))
def vc_ref02_Reader_Num_o4 : List VO := ⟨(some 46), none, (.mv (.t 5))⟩ :: ⟨(some 47), none, (.cvInt .i64 (.t 46))⟩ :: ⟨(some 48), none, (.mv (.t 1))⟩ :: ⟨none, none, .kp [0, 5, 47, 48]⟩ :: ⟨(some 49), none, (.bin .gtr (.t 47) (.t 48))⟩ :: []
def vc_ref02_Reader_Num_r5 : VCode := (.keep [0, 1, 5] (.seq (.seq (.region false vc_ref02_Reader_Num_o4) vc_ref02_Reader_Num_r4) vc_ref02_Reader_Num_r1))
def vc_ref02_Reader_Num_o5 : List VO := ⟨(some 4), none, (.mv (.c (.val (.int .i64 0))))⟩ :: []
def vc_ref02_Reader_Num_r6 : VCode := (.keep [] (.seq (.region false vc_ref02_Reader_Num_o5) (.keep [4] .ret)))
def vc_ref02_Reader_Num_o6 : List VO := ⟨(some 44), none, (.mv (.t 0))⟩ :: ⟨(some 45), none, (.call 140 [] [(.t 44), (.c (.val (.int .i64 3)))])⟩ :: []
def vc_ref02_Reader_Num_c7 : VCode := (.seq (.region false vc_ref02_Reader_Num_o6) vc_ref02_Reader_Num_r6)
def vc_ref02_Reader_Num_r8 : VCode := (.keep [0, 1, 5, 43] (.cond (.t 43) vc_ref02_Reader_Num_c7 .skip))
def vc_ref02_Reader_Num_o7_2 : List VO := ⟨(some 41), (some (37, false)), (.mv (.t 6))⟩ :: ⟨none, none, .kp [0, 1, 5, 37, 40, 41]⟩ :: ⟨(some 42), (some (37, false)), (.bin .neq (.t 40) (.t 41))⟩ :: ⟨none, none, .kp [0, 1, 5, 37, 42]⟩ :: ⟨(some 43), none, (.pick (.t 37) (.c (.val (.bool true))) (.t 42))⟩ :: []
def vc_ref02_Reader_Num_o7_1 : List VO := ⟨(some 36), none, (.pick (.t 33) (.c (.val (.bool true))) (.t 35))⟩ :: ⟨none, none, .kp [0, 1, 5, 6, 36]⟩ :: ⟨(some 37), none, (.mv (.t 36))⟩ :: ⟨(some 38), (some (37, false)), (.mv (.t 5))⟩ :: ⟨(some 39), (some (37, false)), (.cvInt .i64 (.t 38))⟩ :: ⟨none, none, .kp [0, 1, 5, 6, 37, 39]⟩ :: ⟨(some 40), (some (37, false)), (.call 138 [] [(.t 39)])⟩ :: vc_ref02_Reader_Num_o7_2
def vc_ref02_Reader_Num_o7 : List VO := ⟨(some 31), none, (.mv (.t 5))⟩ :: ⟨(some 32), none, (.bin .gtr (.t 31) (.c (.val (.int .u64 9223372036854775807))))⟩ :: ⟨(some 33), none, (.mv (.t 32))⟩ :: ⟨none, none, .kp [0, 1, 5, 6, 33]⟩ :: ⟨(some 34), (some (33, false)), (.mv (.t 5))⟩ :: ⟨(some 35), (some (33, false)), (.bin .lss (.t 34) (.c (.val (.int .u64 240))))⟩ :: vc_ref02_Reader_Num_o7_1
def vc_ref02_Reader_Num_r9 : VCode := (.keep [0, 1, 5, 6] (.seq (.region false vc_ref02_Reader_Num_o7) vc_ref02_Reader_Num_r8))
def vc_ref02_Reader_Num_o8 : List VO := ⟨(some 4), none, (.mv (.c (.val (.int .i64 0))))⟩ :: []
def vc_ref02_Reader_Num_c10 : VCode := (.seq (.region false vc_ref02_Reader_Num_o8) (.keep [4] .ret))
def vc_ref02_Reader_Num_r11 : VCode := (.keep [0, 1, 5, 6, 30] (.cond (.t 30) vc_ref02_Reader_Num_c10 .skip))
def vc_ref02_Reader_Num_o9 : List VO := ⟨(some 26), none, (.mv (.t 0))⟩ :: ⟨(some 27), none, (.nilck (.t 26))⟩ :: ⟨(some 28), none, (.fld 1 (.t 27))⟩ :: ⟨none, none, .kp [0, 1, 5, 6, 28]⟩ :: ⟨(some 29), none, (.load false 1 (.t 28))⟩ :: ⟨(some 30), none, (.bin .neq (.t 29) (.c (.val (.int .i64 0))))⟩ :: []
def vc_ref02_Reader_Num_r12 : VCode := (.keep [0, 1, 5, 6] (.seq (.seq (.region false vc_ref02_Reader_Num_o9) vc_ref02_Reader_Num_r11) vc_ref02_Reader_Num_r9))
def vc_ref02_Reader_Num_o10 : List VO := ⟨(some 23), none, (.mv (.t 0))⟩ :: ⟨(some 24), none, (.mv (.t 6))⟩ :: ⟨(some 25), none, (.call 141 [] [(.t 23), (.t 24)])⟩ :: ⟨none, none, .kp [0, 1, 6, 25]⟩ :: ⟨(some 5), none, (.mv (.t 25))⟩ :: []
def vc_ref02_Reader_Num_r13 : VCode := (.keep [0, 1, 6] (.seq (.region false vc_ref02_Reader_Num_o10) vc_ref02_Reader_Num_r12))
def vc_ref02_Reader_Num_o11 : List VO := ⟨(some 20), none, (.mv (.t 5))⟩ :: ⟨(some 21), none, (.cvInt .i64 (.t 20))⟩ :: ⟨none, none, .kp [0, 1, 21]⟩ :: ⟨(some 22), none, (.bin .sub (.t 21) (.c (.val (.int .i64 239))))⟩ :: ⟨(some 6), none, (.mv (.t 22))⟩ :: []
def vc_ref02_Reader_Num_c14 : VCode := (.seq (.region false vc_ref02_Reader_Num_o11) vc_ref02_Reader_Num_r13)
def vc_ref02_Reader_Num_r15 : VCode := (.keep [0, 1, 5, 19] (.cond (.t 19) vc_ref02_Reader_Num_c14 .skip))
def vc_ref02_Reader_Num_o12 : List VO := ⟨(some 18), none, (.mv (.t 5))⟩ :: ⟨(some 19), none, (.bin .geq (.t 18) (.c (.val (.int .u64 240))))⟩ :: []
def vc_ref02_Reader_Num_r16 : VCode := (.keep [0, 1, 5] (.seq (.seq (.region false vc_ref02_Reader_Num_o12) vc_ref02_Reader_Num_r15) vc_ref02_Reader_Num_r5))
def vc_ref02_Reader_Num_o13 : List VO := ⟨(some 4), none, (.mv (.c (.val (.int .i64 0))))⟩ :: []
def vc_ref02_Reader_Num_r17 : VCode := (.keep [] (.seq (.region false vc_ref02_Reader_Num_o13) (.keep [4] .ret)))
def vc_ref02_Reader_Num_o14 : List VO := ⟨(some 16), none, (.mv (.t 0))⟩ :: ⟨(some 17), none, (.call 140 [] [(.t 16), (.c (.val (.int .i64 3)))])⟩ :: []
def vc_ref02_Reader_Num_c18 : VCode := (.seq (.region false vc_ref02_Reader_Num_o14) vc_ref02_Reader_Num_r17)
def vc_ref02_Reader_Num_r19 : VCode := (.keep [0, 1, 5, 15] (.cond (.t 15) vc_ref02_Reader_Num_c18 .skip))
def vc_ref02_Reader_Num_o15 : List VO := ⟨(some 14), none, (.mv (.t 5))⟩ :: ⟨(some 15), none, (.bin .gtr (.t 14) (.c (.val (.int .u64 247))))⟩ :: []
def vc_ref02_Reader_Num_r20 : VCode := (.keep [0, 1, 5] (.seq (.seq (.region false vc_ref02_Reader_Num_o15) vc_ref02_Reader_Num_r19) vc_ref02_Reader_Num_r16))
def vc_ref02_Reader_Num_o16 : List VO := ⟨(some 4), none, (.mv (.c (.val (.int .i64 0))))⟩ :: []
def vc_ref02_Reader_Num_c21 : VCode := (.seq (.region false vc_ref02_Reader_Num_o16) (.keep [4] .ret))
def vc_ref02_Reader_Num_r22 : VCode := (.keep [0, 1, 5, 13] (.cond (.t 13) vc_ref02_Reader_Num_c21 .skip))
def vc_ref02_Reader_Num_o17 : List VO := ⟨(some 9), none, (.mv (.t 0))⟩ :: ⟨(some 10), none, (.nilck (.t 9))⟩ :: ⟨(some 11), none, (.fld 1 (.t 10))⟩ :: ⟨none, none, .kp [0, 1, 5, 11]⟩ :: ⟨(some 12), none, (.load false 1 (.t 11))⟩ :: ⟨(some 13), none, (.bin .neq (.t 12) (.c (.val (.int .i64 0))))⟩ :: []
def vc_ref02_Reader_Num_r23 : VCode := (.keep [0, 1, 5] (.seq (.seq (.region false vc_ref02_Reader_Num_o17) vc_ref02_Reader_Num_r22) vc_ref02_Reader_Num_r20))
def vc_ref02_Reader_Num_o18 : List VO := ⟨(some 7), none, (.mv (.t 0))⟩ :: ⟨(some 8), none, (.call 141 [] [(.t 7), (.c (.val (.int .i64 1)))])⟩ :: ⟨(some 5), none, (.mv (.t 8))⟩ :: []
def vc_ref02_Reader_Num_r24 : VCode := (.keep [0, 1] (.seq (.region false vc_ref02_Reader_Num_o18) vc_ref02_Reader_Num_r23))
def vc_ref02_Reader_Num_o19 : List VO := ⟨(some 4), none, (.mv (.c (.val (.int .i64 0))))⟩ :: []
def vc_ref02_Reader_Num : VCode := (.seq (.region false vc_ref02_Reader_Num_o19) vc_ref02_Reader_Num_r24)
def rs_ref02_Reader_Num : List RV := [(.t 4)]
theorem comp_ref02_Reader_Num : ccode Try.prog (Try.f97.body.getD .skip) = some (strip vc_ref02_Reader_Num) := by kernel_rfl
theorem code_ref02_Reader_Num : IsCode Try.prog id_ref02_Reader_Num 54 vc_ref02_Reader_Num rs_ref02_Reader_Num := ⟨_, _, Try.func97, by kernel_rfl, rfl, comp_ref02_Reader_Num, by kernel_rfl, by kernel_rfl, rfl⟩

/- (usher/usherref02.Reader).Err -/
def vc_ref02_Reader_Err_o1 : List VO := ⟨(some 3), none, (.mv (.t 0))⟩ :: ⟨(some 4), none, (.nilck (.t 3))⟩ :: ⟨none, none, .kp [4]⟩ :: ⟨(some 5), none, (.fld 1 (.t 4))⟩ :: ⟨(some 6), none, (.load false 1 (.t 5))⟩ :: ⟨none, none, .kp [6]⟩ :: ⟨(some 2), none, (.mv (.t 6))⟩ :: []
def vc_ref02_Reader_Err_r1 : VCode := (.keep [0] (.seq (.region false vc_ref02_Reader_Err_o1) (.keep [2] .ret)))
def vc_ref02_Reader_Err_o2 : List VO := ⟨(some 2), none, (.mv (.c (.val (.int .i64 0))))⟩ :: []
def vc_ref02_Reader_Err : VCode := (.seq (.region false vc_ref02_Reader_Err_o2) vc_ref02_Reader_Err_r1)
def rs_ref02_Reader_Err : List RV := [(.t 2)]
theorem comp_ref02_Reader_Err : ccode Try.prog (Try.f98.body.getD .skip) = some (strip vc_ref02_Reader_Err) := by kernel_rfl
theorem code_ref02_Reader_Err : IsCode Try.prog id_ref02_Reader_Err 7 vc_ref02_Reader_Err rs_ref02_Reader_Err := ⟨_, _, Try.func98, by kernel_rfl, rfl, comp_ref02_Reader_Err, by kernel_rfl, by kernel_rfl, rfl⟩

/- (usher/usherref02.Reader).End -/
def vc_ref02_Reader_End_o1 : List VO := ⟨(some 16), none, (.mv (.t 0))⟩ :: ⟨(some 17), none, (.nilck (.t 16))⟩ :: ⟨none, none, .kp [17]⟩ :: ⟨(some 18), none, (.fld 1 (.t 17))⟩ :: ⟨(some 19), none, (.load false 1 (.t 18))⟩ :: ⟨none, none, .kp [19]⟩ :: ⟨(some 2), none, (.mv (.t 19))⟩ :: []
def vc_ref02_Reader_End_r1 : VCode := (.keep [0] (.seq (.region false vc_ref02_Reader_End_o1) (.keep [2] .ret)))
def vc_ref02_Reader_End_o2 : List VO := ⟨(some 2), none, (.mv (.c (.val (.int .i64 3))))⟩ :: []
def vc_ref02_Reader_End_c2 : VCode := (.seq (.region false vc_ref02_Reader_End_o2) (.keep [2] .ret))
def vc_ref02_Reader_End_r3 : VCode := (.keep [0, 15] (.cond (.t 15) vc_ref02_Reader_End_c2 .skip))
def vc_ref02_Reader_End_o3_2 : List VO := ⟨(some 13), (some (8, true)), (.len (.t 12))⟩ :: ⟨(some 14), (some (8, true)), (.bin .gtr (.t 13) (.c (.val (.int .i64 0))))⟩ :: ⟨none, none, .kp [0, 8, 14]⟩ :: ⟨(some 15), none, (.pick (.t 8) (.t 14) (.c (.val (.bool false))))⟩ :: []
def vc_ref02_Reader_End_o3_1 : List VO := ⟨(some 8), none, (.mv (.t 7))⟩ :: ⟨(some 9), (some (8, true)), (.mv (.t 0))⟩ :: ⟨(some 10), (some (8, true)), (.nilck (.t 9))⟩ :: ⟨none, none, .kp [0, 8, 10]⟩ :: ⟨(some 11), (some (8, true)), (.fld 0 (.t 10))⟩ :: ⟨(some 12), (some (8, true)), (.load false 1 (.t 11))⟩ :: ⟨none, none, .kp [0, 8, 12]⟩ :: vc_ref02_Reader_End_o3_2
def vc_ref02_Reader_End_o3 : List VO := ⟨(some 3), none, (.mv (.t 0))⟩ :: ⟨(some 4), none, (.nilck (.t 3))⟩ :: ⟨(some 5), none, (.fld 1 (.t 4))⟩ :: ⟨none, none, .kp [0, 5]⟩ :: ⟨(some 6), none, (.load false 1 (.t 5))⟩ :: ⟨(some 7), none, (.bin .eql (.t 6) (.c (.val (.int .i64 0))))⟩ :: ⟨none, none, .kp [0, 7]⟩ :: vc_ref02_Reader_End_o3_1
def vc_ref02_Reader_End_r4 : VCode := (.keep [0] (.seq (.seq (.region false vc_ref02_Reader_End_o3) vc_ref02_Reader_End_r3) vc_ref02_Reader_End_r1))
def vc_ref02_Reader_End_o4 : List VO := ⟨(some 2), none, (.mv (.c (.val (.int .i64 0))))⟩ :: []
def vc_ref02_Reader_End : VCode := (.seq (.region false vc_ref02_Reader_End_o4) vc_ref02_Reader_End_r4)
def rs_ref02_Reader_End : List RV := [(.t 2)]
theorem comp_ref02_Reader_End : ccode Try.prog (Try.f99.body.getD .skip) = some (strip vc_ref02_Reader_End) := by kernel_rfl
theorem code_ref02_Reader_End : IsCode Try.prog id_ref02_Reader_End 20 vc_ref02_Reader_End rs_ref02_Reader_End := ⟨_, _, Try.func99, by kernel_rfl, rfl, comp_ref02_Reader_End, by kernel_rfl, by kernel_rfl, rfl⟩

/- (usher/usherref02.Reader).Left -/
def vc_ref02_Reader_Left_o1_1 : List VO := ⟨(some 2), none, (.mv (.t 7))⟩ :: []
def vc_ref02_Reader_Left_o1 : List VO := ⟨(some 3), none, (.mv (.t 0))⟩ :: ⟨(some 4), none, (.nilck (.t 3))⟩ :: ⟨none, none, .kp [4]⟩ :: ⟨(some 5), none, (.fld 0 (.t 4))⟩ :: ⟨(some 6), none, (.load false 1 (.t 5))⟩ :: ⟨none, none, .kp [6]⟩ :: ⟨(some 7), none, (.len (.t 6))⟩ :: vc_ref02_Reader_Left_o1_1
def vc_ref02_Reader_Left_r1 : VCode := (.keep [0] (.seq (.region false vc_ref02_Reader_Left_o1) (.keep [2] .ret)))
def vc_ref02_Reader_Left_o2 : List VO := ⟨(some 2), none, (.mv (.c (.val (.int .i64 0))))⟩ :: []
def vc_ref02_Reader_Left : VCode := (.seq (.region false vc_ref02_Reader_Left_o2) vc_ref02_Reader_Left_r1)
def rs_ref02_Reader_Left : List RV := [(.t 2)]
theorem comp_ref02_Reader_Left : ccode Try.prog (Try.f110.body.getD .skip) = some (strip vc_ref02_Reader_Left) := by kernel_rfl
theorem code_ref02_Reader_Left : IsCode Try.prog id_ref02_Reader_Left 8 vc_ref02_Reader_Left rs_ref02_Reader_Left := ⟨_, _, Try.func110, by kernel_rfl, rfl, comp_ref02_Reader_Left, by kernel_rfl, by kernel_rfl, rfl⟩

/- usher/usherref02.Int -/
def vc_ref02_Int_o1_1 : List VO := ⟨(some 10), none, (.call 139 [true] [(.t 6), (.t 9), (.c (.val (.int .i64 8)))])⟩ :: ⟨none, none, .kp [10]⟩ :: ⟨(some 4), none, (.mv (.t 10))⟩ :: []
def vc_ref02_Int_o1 : List VO := ⟨(some 5), none, (.mv (.t 0))⟩ :: ⟨(some 6), none, (.call 137 [] [(.t 5)])⟩ :: ⟨none, none, .kp [1, 6]⟩ :: ⟨(some 7), none, (.mv (.t 1))⟩ :: ⟨(some 8), none, (.cvInt .u64 (.t 7))⟩ :: ⟨none, none, .kp [6, 8]⟩ :: ⟨(some 9), none, (.bin .xor (.t 8) (.c (.val (.int .u64 9223372036854775808))))⟩ :: vc_ref02_Int_o1_1
def vc_ref02_Int_r1 : VCode := (.keep [0, 1] (.seq (.region false vc_ref02_Int_o1) (.keep [4] .ret)))
def vc_ref02_Int_o2 : List VO := ⟨(some 4), none, (.mv (.c (.val (.slice none 0 0))))⟩ :: []
def vc_ref02_Int : VCode := (.seq (.region false vc_ref02_Int_o2) vc_ref02_Int_r1)
def rs_ref02_Int : List RV := [(.t 4)]
theorem comp_ref02_Int : ccode Try.prog (Try.f117.body.getD .skip) = some (strip vc_ref02_Int) := by kernel_rfl
theorem code_ref02_Int : IsCode Try.prog id_ref02_Int 11 vc_ref02_Int rs_ref02_Int := ⟨_, _, Try.func117, by kernel_rfl, rfl, comp_ref02_Int, by kernel_rfl, by kernel_rfl, rfl⟩

/- usher/usherref02.Bits -/
def vc_ref02_Bits_o1 : List VO := ⟨(some 5), none, (.mv (.t 0))⟩ :: ⟨(some 6), none, (.call 137 [] [(.t 5)])⟩ :: ⟨none, none, .kp [1, 6]⟩ :: ⟨(some 7), none, (.mv (.t 1))⟩ :: ⟨(some 8), none, (.call 139 [true] [(.t 6), (.t 7), (.c (.val (.int .i64 8)))])⟩ :: ⟨none, none, .kp [8]⟩ :: ⟨(some 4), none, (.mv (.t 8))⟩ :: []
def vc_ref02_Bits_r1 : VCode := (.keep [0, 1] (.seq (.region false vc_ref02_Bits_o1) (.keep [4] .ret)))
def vc_ref02_Bits_o2 : List VO := ⟨(some 4), none, (.mv (.c (.val (.slice none 0 0))))⟩ :: []
def vc_ref02_Bits : VCode := (.seq (.region false vc_ref02_Bits_o2) vc_ref02_Bits_r1)
def rs_ref02_Bits : List RV := [(.t 4)]
theorem comp_ref02_Bits : ccode Try.prog (Try.f118.body.getD .skip) = some (strip vc_ref02_Bits) := by kernel_rfl
theorem code_ref02_Bits : IsCode Try.prog id_ref02_Bits 9 vc_ref02_Bits rs_ref02_Bits := ⟨_, _, Try.func118, by kernel_rfl, rfl, comp_ref02_Bits, by kernel_rfl, by kernel_rfl, rfl⟩

/- usher/usherref02.copied -/
def vc_ref02_copied_o1 : List VO := ⟨(some 3), none, (.mv (.t 0))⟩ :: ⟨(some 4), none, (.app 5 1 1 (.c (.val (.slice none 0 0))) (.t 3))⟩ :: ⟨none, none, .kp [4]⟩ :: ⟨(some 2), none, (.mv (.t 4))⟩ :: []
def vc_ref02_copied_r1 : VCode := (.keep [0] (.seq (.region false vc_ref02_copied_o1) (.keep [2] .ret)))
def vc_ref02_copied_o2 : List VO := ⟨(some 2), none, (.mv (.c (.val (.slice none 0 0))))⟩ :: []
def vc_ref02_copied : VCode := (.seq (.region false vc_ref02_copied_o2) vc_ref02_copied_r1)
def rs_ref02_copied : List RV := [(.t 2)]
theorem comp_ref02_copied : ccode Try.prog (Try.f137.body.getD .skip) = some (strip vc_ref02_copied) := by kernel_rfl
theorem code_ref02_copied : IsCode Try.prog id_ref02_copied 5 vc_ref02_copied rs_ref02_copied := ⟨_, _, Try.func137, by kernel_rfl, rfl, comp_ref02_copied, by kernel_rfl, by kernel_rfl, rfl⟩

/- usher/usherref02.bytes -/
def vc_ref02_bytes_o1 : List VO := ⟨(some 10), none, (.mv (.t 3))⟩ :: ⟨(some 2), none, (.mv (.t 10))⟩ :: []
def vc_ref02_bytes_r1 : VCode := (.keep [3] (.seq (.region false vc_ref02_bytes_o1) (.keep [2] .ret)))
def vc_ref02_bytes_o2 : List VO := ⟨(some 8), none, (.mv (.t 3))⟩ :: ⟨(some 9), none, (.bin .add (.t 8) (.c (.val (.int .i64 1))))⟩ :: ⟨none, none, .kp [0, 9]⟩ :: ⟨(some 3), none, (.mv (.t 9))⟩ :: []
def vc_ref02_bytes_r2 : VCode := (.keep [0, 3] (.region false vc_ref02_bytes_o2))
def vc_ref02_bytes_o3 : List VO := ⟨(some 6), none, (.mv (.t 0))⟩ :: ⟨(some 7), none, (.bin .quo (.t 6) (.c (.val (.int .i64 256))))⟩ :: ⟨none, none, .kp [3, 7]⟩ :: ⟨(some 0), none, (.mv (.t 7))⟩ :: []
def vc_ref02_bytes_r3 : VCode := (.keep [0, 3] (.block 1 (.seq (.region false vc_ref02_bytes_o3) vc_ref02_bytes_r2)))
def vc_ref02_bytes_r4 : VCode := (.keep [0, 3, 5] (.cond (.t 5) .skip (.exit 0)))
def vc_ref02_bytes_o4 : List VO := ⟨(some 4), none, (.mv (.t 0))⟩ :: ⟨(some 5), none, (.bin .gtr (.t 4) (.c (.val (.int .i64 0))))⟩ :: []
def vc_ref02_bytes_l5 : VCode := (.seq (.seq (.region false vc_ref02_bytes_o4) vc_ref02_bytes_r4) vc_ref02_bytes_r3)
def vc_ref02_bytes_r6 : VCode := (.keep [0, 3] (.seq (.block 0 (.loop (.keep [0, 3] vc_ref02_bytes_l5))) vc_ref02_bytes_r1))
def vc_ref02_bytes_o5 : List VO := ⟨(some 3), none, (.mv (.c (.val (.int .i64 0))))⟩ :: []
def vc_ref02_bytes_r7 : VCode := (.keep [0] (.seq (.region false vc_ref02_bytes_o5) vc_ref02_bytes_r6))
def vc_ref02_bytes_o6 : List VO := ⟨(some 2), none, (.mv (.c (.val (.int .i64 0))))⟩ :: []
def vc_ref02_bytes : VCode := (.seq (.region false vc_ref02_bytes_o6) vc_ref02_bytes_r7)
def rs_ref02_bytes : List RV := [(.t 2)]
theorem comp_ref02_bytes : ccode Try.prog (Try.f138.body.getD .skip) = some (strip vc_ref02_bytes) := by kernel_rfl
theorem code_ref02_bytes : IsCode Try.prog id_ref02_bytes 11 vc_ref02_bytes rs_ref02_bytes := ⟨_, _, Try.func138, by kernel_rfl, rfl, comp_ref02_bytes, by kernel_rfl, by kernel_rfl, rfl⟩

/- usher/usherref02.high -/
def vc_ref02_high_o1 : List VO := ⟨(some 27), none, (.mv (.t 0))⟩ :: ⟨(some 6), none, (.mv (.t 27))⟩ :: []
def vc_ref02_high_r1 : VCode := (.keep [0] (.seq (.region false vc_ref02_high_o1) (.keep [6] .ret)))
def vc_ref02_high_o2_1 : List VO := ⟨(some 26), none, (.app 5 1 1 (.t 21) (.t 25))⟩ :: ⟨none, none, .kp [1, 2, 26]⟩ :: ⟨(some 0), none, (.mv (.t 26))⟩ :: []
def vc_ref02_high_o2 : List VO := ⟨(some 21), none, (.mv (.t 0))⟩ :: ⟨(some 22), none, (.mv (.t 7))⟩ :: ⟨none, none, .kp [1, 2, 21, 22]⟩ :: ⟨(some 23), none, (.bin .rem (.t 22) (.c (.val (.int .u64 256))))⟩ :: ⟨(some 24), none, (.cvInt .u8 (.t 23))⟩ :: ⟨none, none, .kp [1, 2, 21, 24]⟩ :: ⟨(some 25), none, (.lit false 5 1 1 [(.val (.int .u8 0))] [(0, (1, (.t 24)))])⟩ :: vc_ref02_high_o2_1
def vc_ref02_high_r2 : VCode := (.keep [0, 1, 2, 7] (.region false vc_ref02_high_o2))
def vc_ref02_high_o3 : List VO := ⟨(some 17), none, (.mv (.t 8))⟩ :: ⟨(some 18), none, (.bin .add (.t 17) (.c (.val (.int .i64 1))))⟩ :: ⟨none, none, .kp [0, 1, 2, 7, 18]⟩ :: ⟨(some 8), none, (.mv (.t 18))⟩ :: []
def vc_ref02_high_r3 : VCode := (.keep [0, 1, 2, 7, 8] (.region false vc_ref02_high_o3))
def vc_ref02_high_o4 : List VO := ⟨(some 19), none, (.mv (.t 7))⟩ :: ⟨(some 20), none, (.bin .quo (.t 19) (.c (.val (.int .u64 256))))⟩ :: ⟨none, none, .kp [0, 1, 2, 8, 20]⟩ :: ⟨(some 7), none, (.mv (.t 20))⟩ :: []
def vc_ref02_high_r4 : VCode := (.keep [0, 1, 2, 7, 8] (.seq (.block 3 (.region false vc_ref02_high_o4)) vc_ref02_high_r3))
def vc_ref02_high_r5 : VCode := (.keep [0, 1, 2, 7, 8, 16] (.cond (.t 16) .skip (.exit 2)))
def vc_ref02_high_o5 : List VO := ⟨(some 14), none, (.mv (.t 8))⟩ :: ⟨(some 15), none, (.mv (.t 2))⟩ :: ⟨(some 16), none, (.bin .lss (.t 14) (.t 15))⟩ :: []
def vc_ref02_high_l6 : VCode := (.seq (.seq (.region false vc_ref02_high_o5) vc_ref02_high_r5) vc_ref02_high_r4)
def vc_ref02_high_r7 : VCode := (.keep [0, 1, 2, 7, 8] (.block 2 (.loop (.keep [0, 1, 2, 7, 8] vc_ref02_high_l6))))
def vc_ref02_high_o6 : List VO := ⟨(some 8), none, (.mv (.c (.val (.int .i64 0))))⟩ :: []
def vc_ref02_high_r8 : VCode := (.keep [0, 1, 2, 7] (.seq (.seq (.region false vc_ref02_high_o6) vc_ref02_high_r7) vc_ref02_high_r2))
def vc_ref02_high_o7 : List VO := ⟨(some 13), none, (.mv (.t 1))⟩ :: ⟨(some 7), none, (.mv (.t 13))⟩ :: []
def vc_ref02_high_r9 : VCode := (.keep [0, 1, 2] (.seq (.region false vc_ref02_high_o7) vc_ref02_high_r8))
def vc_ref02_high_o8 : List VO := ⟨(some 11), none, (.mv (.t 2))⟩ :: ⟨(some 12), none, (.bin .sub (.t 11) (.c (.val (.int .i64 1))))⟩ :: ⟨none, none, .kp [0, 1, 12]⟩ :: ⟨(some 2), none, (.mv (.t 12))⟩ :: []
def vc_ref02_high_r10 : VCode := (.keep [0, 1, 2] (.block 1 (.seq (.region false vc_ref02_high_o8) vc_ref02_high_r9)))
def vc_ref02_high_r11 : VCode := (.keep [0, 1, 2, 10] (.cond (.t 10) .skip (.exit 0)))
def vc_ref02_high_o9 : List VO := ⟨(some 9), none, (.mv (.t 2))⟩ :: ⟨(some 10), none, (.bin .gtr (.t 9) (.c (.val (.int .i64 0))))⟩ :: []
def vc_ref02_high_l12 : VCode := (.seq (.seq (.region false vc_ref02_high_o9) vc_ref02_high_r11) vc_ref02_high_r10)
def vc_ref02_high_r13 : VCode := (.keep [0, 1, 2] (.seq (.block 0 (.loop (.keep [0, 1, 2] vc_ref02_high_l12))) vc_ref02_high_r1))
def vc_ref02_high_o10 : List VO := ⟨(some 6), none, (.mv (.c (.val (.slice none 0 0))))⟩ :: []
def vc_ref02_high : VCode := (.seq (.region false vc_ref02_high_o10) vc_ref02_high_r13)
def rs_ref02_high : List RV := [(.t 6)]
theorem comp_ref02_high : ccode Try.prog (Try.f139.body.getD .skip) = some (strip vc_ref02_high) := by kernel_rfl
theorem code_ref02_high : IsCode Try.prog id_ref02_high 28 vc_ref02_high rs_ref02_high := ⟨_, _, Try.func139, by kernel_rfl, rfl, comp_ref02_high, by kernel_rfl, by kernel_rfl, rfl⟩

/- (usher/usherref02.Reader).Fail -/
def vc_ref02_Reader_Fail_o1 : List VO := ⟨(some 22), none, (.mv (.t 0))⟩ :: ⟨(some 23), none, (.nilck (.t 22))⟩ :: ⟨none, none, .kp [23]⟩ :: ⟨(some 24), none, (.fld 0 (.t 23))⟩ :: ⟨none, none, (.store 1 (.t 24) (.c (.val (.slice none 0 0))))⟩ :: []
def vc_ref02_Reader_Fail_r1 : VCode := (.keep [0, 21] (.cond (.t 21) (.region false vc_ref02_Reader_Fail_o1) .skip))
def vc_ref02_Reader_Fail_o2 : List VO := ⟨(some 17), none, (.mv (.t 0))⟩ :: ⟨(some 18), none, (.nilck (.t 17))⟩ :: ⟨(some 19), none, (.fld 1 (.t 18))⟩ :: ⟨none, none, .kp [0, 19]⟩ :: ⟨(some 20), none, (.load false 1 (.t 19))⟩ :: ⟨(some 21), none, (.bin .neq (.t 20) (.c (.val (.int .i64 0))))⟩ :: []
def vc_ref02_Reader_Fail_r2 : VCode := (.keep [0] (.seq (.region false vc_ref02_Reader_Fail_o2) vc_ref02_Reader_Fail_r1))
def vc_ref02_Reader_Fail_o3 : List VO := ⟨(some 13), none, (.mv (.t 0))⟩ :: ⟨(some 14), none, (.mv (.t 1))⟩ :: ⟨(some 15), none, (.nilck (.t 13))⟩ :: ⟨none, none, .kp [0, 14, 15]⟩ :: ⟨(some 16), none, (.fld 1 (.t 15))⟩ :: ⟨none, none, (.store 1 (.t 16) (.t 14))⟩ :: []
def vc_ref02_Reader_Fail_r3 : VCode := (.keep [0, 1, 12] (.cond (.t 12) (.region false vc_ref02_Reader_Fail_o3) .skip))
def vc_ref02_Reader_Fail_o4_1 : List VO := ⟨(some 9), none, (.mv (.t 8))⟩ :: ⟨(some 10), (some (9, true)), (.mv (.t 1))⟩ :: ⟨(some 11), (some (9, true)), (.bin .neq (.t 10) (.c (.val (.int .i64 0))))⟩ :: ⟨none, none, .kp [0, 1, 9, 11]⟩ :: ⟨(some 12), none, (.pick (.t 9) (.t 11) (.c (.val (.bool false))))⟩ :: []
def vc_ref02_Reader_Fail_o4 : List VO := ⟨(some 4), none, (.mv (.t 0))⟩ :: ⟨(some 5), none, (.nilck (.t 4))⟩ :: ⟨(some 6), none, (.fld 1 (.t 5))⟩ :: ⟨none, none, .kp [0, 1, 6]⟩ :: ⟨(some 7), none, (.load false 1 (.t 6))⟩ :: ⟨(some 8), none, (.bin .eql (.t 7) (.c (.val (.int .i64 0))))⟩ :: ⟨none, none, .kp [0, 1, 8]⟩ :: vc_ref02_Reader_Fail_o4_1
def vc_ref02_Reader_Fail : VCode := (.seq (.seq (.region false vc_ref02_Reader_Fail_o4) vc_ref02_Reader_Fail_r3) vc_ref02_Reader_Fail_r2)
def rs_ref02_Reader_Fail : List RV := []
theorem comp_ref02_Reader_Fail : ccode Try.prog (Try.f140.body.getD .skip) = some (strip vc_ref02_Reader_Fail) := by kernel_rfl
theorem code_ref02_Reader_Fail : IsCode Try.prog id_ref02_Reader_Fail 25 vc_ref02_Reader_Fail rs_ref02_Reader_Fail := ⟨_, _, Try.func140, by kernel_rfl, rfl, comp_ref02_Reader_Fail, by kernel_rfl, by kernel_rfl, rfl⟩

/- (usher/usherref02.Reader).take -/
def vc_ref02_Reader_take_o1 : List VO := ⟨(some 41), none, (.mv (.t 5))⟩ :: ⟨(some 4), none, (.mv (.t 41))⟩ :: []
def vc_ref02_Reader_take_r1 : VCode := (.keep [5] (.seq (.region false vc_ref02_Reader_take_o1) (.keep [4] .ret)))
def vc_ref02_Reader_take_o2_1 : List VO := ⟨(some 37), none, (.mv (.t 1))⟩ :: ⟨(some 38), none, (.cut 1 (.t 36) (some (.t 37)) none none)⟩ :: ⟨none, none, .kp [5, 32, 38]⟩ :: ⟨(some 39), none, (.nilck (.t 32))⟩ :: ⟨(some 40), none, (.fld 0 (.t 39))⟩ :: ⟨none, none, .kp [5, 38, 40]⟩ :: ⟨none, none, (.store 1 (.t 40) (.t 38))⟩ :: []
def vc_ref02_Reader_take_o2 : List VO := ⟨(some 32), none, (.mv (.t 0))⟩ :: ⟨(some 33), none, (.mv (.t 0))⟩ :: ⟨(some 34), none, (.nilck (.t 33))⟩ :: ⟨none, none, .kp [1, 5, 32, 34]⟩ :: ⟨(some 35), none, (.fld 0 (.t 34))⟩ :: ⟨(some 36), none, (.load false 1 (.t 35))⟩ :: ⟨none, none, .kp [1, 5, 32, 36]⟩ :: vc_ref02_Reader_take_o2_1
def vc_ref02_Reader_take_r2 : VCode := (.keep [0, 1, 5] (.seq (.region false vc_ref02_Reader_take_o2) vc_ref02_Reader_take_r1))
def vc_ref02_Reader_take_o3 : List VO := ⟨(some 19), none, (.mv (.t 6))⟩ :: ⟨(some 20), none, (.bin .add (.t 19) (.c (.val (.int .i64 1))))⟩ :: ⟨none, none, .kp [0, 1, 5, 20]⟩ :: ⟨(some 6), none, (.mv (.t 20))⟩ :: []
def vc_ref02_Reader_take_r3 : VCode := (.keep [0, 1, 5, 6] (.region false vc_ref02_Reader_take_o3))
def vc_ref02_Reader_take_o4_2 : List VO := ⟨(some 31), none, (.bin .add (.t 22) (.t 30))⟩ :: ⟨none, none, .kp [0, 1, 6, 31]⟩ :: ⟨(some 5), none, (.mv (.t 31))⟩ :: []
def vc_ref02_Reader_take_o4_1 : List VO := ⟨(some 26), none, (.load false 1 (.t 25))⟩ :: ⟨(some 27), none, (.mv (.t 6))⟩ :: ⟨(some 28), none, (.idx 1 (.t 26) (.t 27))⟩ :: ⟨none, none, .kp [0, 1, 6, 22, 28]⟩ :: ⟨(some 29), none, (.load false 1 (.t 28))⟩ :: ⟨(some 30), none, (.cvInt .u64 (.t 29))⟩ :: ⟨none, none, .kp [0, 1, 6, 22, 30]⟩ :: vc_ref02_Reader_take_o4_2
def vc_ref02_Reader_take_o4 : List VO := ⟨(some 21), none, (.mv (.t 5))⟩ :: ⟨(some 22), none, (.bin .mul (.t 21) (.c (.val (.int .u64 256))))⟩ :: ⟨none, none, .kp [0, 1, 6, 22]⟩ :: ⟨(some 23), none, (.mv (.t 0))⟩ :: ⟨(some 24), none, (.nilck (.t 23))⟩ :: ⟨(some 25), none, (.fld 0 (.t 24))⟩ :: ⟨none, none, .kp [0, 1, 6, 22, 25]⟩ :: vc_ref02_Reader_take_o4_1
def vc_ref02_Reader_take_r4 : VCode := (.keep [0, 1, 5, 6] (.seq (.block 1 (.region false vc_ref02_Reader_take_o4)) vc_ref02_Reader_take_r3))
def vc_ref02_Reader_take_r5 : VCode := (.keep [0, 1, 5, 6, 18] (.cond (.t 18) .skip (.exit 0)))
def vc_ref02_Reader_take_o5 : List VO := ⟨(some 16), none, (.mv (.t 6))⟩ :: ⟨(some 17), none, (.mv (.t 1))⟩ :: ⟨(some 18), none, (.bin .lss (.t 16) (.t 17))⟩ :: []
def vc_ref02_Reader_take_l6 : VCode := (.seq (.seq (.region false vc_ref02_Reader_take_o5) vc_ref02_Reader_take_r5) vc_ref02_Reader_take_r4)
def vc_ref02_Reader_take_r7 : VCode := (.keep [0, 1, 5, 6] (.block 0 (.loop (.keep [0, 1, 5, 6] vc_ref02_Reader_take_l6))))
def vc_ref02_Reader_take_o6 : List VO := ⟨(some 6), none, (.mv (.c (.val (.int .i64 0))))⟩ :: []
def vc_ref02_Reader_take_r8 : VCode := (.keep [0, 1, 5] (.seq (.seq (.region false vc_ref02_Reader_take_o6) vc_ref02_Reader_take_r7) vc_ref02_Reader_take_r2))
def vc_ref02_Reader_take_o7 : List VO := ⟨(some 5), none, (.mv (.c (.val (.int .u64 0))))⟩ :: []
def vc_ref02_Reader_take_r9 : VCode := (.keep [0, 1] (.seq (.region false vc_ref02_Reader_take_o7) vc_ref02_Reader_take_r8))
def vc_ref02_Reader_take_o8 : List VO := ⟨(some 4), none, (.mv (.c (.val (.int .u64 0))))⟩ :: []
def vc_ref02_Reader_take_r10 : VCode := (.keep [] (.seq (.region false vc_ref02_Reader_take_o8) (.keep [4] .ret)))
def vc_ref02_Reader_take_o9 : List VO := ⟨(some 14), none, (.mv (.t 0))⟩ :: ⟨(some 15), none, (.call 140 [] [(.t 14), (.c (.val (.int .i64 4)))])⟩ :: []
def vc_ref02_Reader_take_c11 : VCode := (.seq (.region false vc_ref02_Reader_take_o9) vc_ref02_Reader_take_r10)
def vc_ref02_Reader_take_r12 : VCode := (.keep [0, 1, 13] (.cond (.t 13) vc_ref02_Reader_take_c11 .skip))
def vc_ref02_Reader_take_o10_1 : List VO := ⟨(some 12), none, (.mv (.t 1))⟩ :: ⟨(some 13), none, (.bin .lss (.t 11) (.t 12))⟩ :: []
def vc_ref02_Reader_take_o10 : List VO := ⟨(some 7), none, (.mv (.t 0))⟩ :: ⟨(some 8), none, (.nilck (.t 7))⟩ :: ⟨(some 9), none, (.fld 0 (.t 8))⟩ :: ⟨none, none, .kp [0, 1, 9]⟩ :: ⟨(some 10), none, (.load false 1 (.t 9))⟩ :: ⟨(some 11), none, (.len (.t 10))⟩ :: ⟨none, none, .kp [0, 1, 11]⟩ :: vc_ref02_Reader_take_o10_1
def vc_ref02_Reader_take_r13 : VCode := (.keep [0, 1] (.seq (.seq (.region false vc_ref02_Reader_take_o10) vc_ref02_Reader_take_r12) vc_ref02_Reader_take_r9))
def vc_ref02_Reader_take_o11 : List VO := ⟨(some 4), none, (.mv (.c (.val (.int .u64 0))))⟩ :: []
def vc_ref02_Reader_take : VCode := (.seq (.region false vc_ref02_Reader_take_o11) vc_ref02_Reader_take_r13)
def rs_ref02_Reader_take : List RV := [(.t 4)]
theorem comp_ref02_Reader_take : ccode Try.prog (Try.f141.body.getD .skip) = some (strip vc_ref02_Reader_take) := by kernel_rfl
theorem code_ref02_Reader_take : IsCode Try.prog id_ref02_Reader_take 42 vc_ref02_Reader_take rs_ref02_Reader_take := ⟨_, _, Try.func141, by kernel_rfl, rfl, comp_ref02_Reader_take, by kernel_rfl, by kernel_rfl, rfl⟩

end Go.Proofs.Ytlodbaikbgbhjaa
