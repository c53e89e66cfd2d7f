/- The code of functions, for the abstract machine, and that it is theirs. Printed by vc2.py. -/
import Derived.Test.YtlodbaikbgbhjaaIds
set_option linter.unusedVariables false
set_option maxRecDepth 100000
namespace Go.Proofs.Ytlodbaikbgbhjaa
open Go Go.Vm

/- usher/pack.Num -/
def vc_pack_Num_o1_1 : List VO := ⟨(some 26), none, (.app 5 1 1 (.t 21) (.t 25))⟩ :: ⟨none, none, .kp [1, 5, 26]⟩ :: ⟨(some 27), none, (.mv (.t 5))⟩ :: ⟨(some 28), none, (.mv (.t 1))⟩ :: ⟨none, none, .kp [26, 27, 28]⟩ :: ⟨(some 29), none, (.call 129 [true] [(.t 26), (.t 27), (.t 28)])⟩ :: ⟨none, none, .kp [29]⟩ :: ⟨(some 4), none, (.mv (.t 29))⟩ :: []
def vc_pack_Num_o1 : List VO := ⟨(some 21), none, (.mv (.t 6))⟩ :: ⟨(some 22), none, (.mv (.t 1))⟩ :: ⟨(some 23), none, (.bin .add (.c (.val (.int .i64 239))) (.t 22))⟩ :: ⟨none, none, .kp [1, 5, 21, 23]⟩ :: ⟨(some 24), none, (.cvInt .u8 (.t 23))⟩ :: ⟨(some 25), none, (.lit false 5 1 1 [(.val (.int .u8 0))] [(0, (1, (.t 24)))])⟩ :: ⟨none, none, .kp [1, 5, 21, 25]⟩ :: vc_pack_Num_o1_1
def vc_pack_Num_r1 : VCode := (.keep [1, 5, 6] (.seq (.region false vc_pack_Num_o1) (.keep [4] .ret)))
def vc_pack_Num_o2 : List VO := ⟨(some 19), none, (.mv (.t 5))⟩ :: ⟨(some 20), none, (.call 128 [] [(.t 19)])⟩ :: ⟨(some 1), none, (.mv (.t 20))⟩ :: []
def vc_pack_Num_r2 : VCode := (.keep [5, 6] (.seq (.region false vc_pack_Num_o2) vc_pack_Num_r1))
def vc_pack_Num_o3_1 : List VO := ⟨(some 4), none, (.mv (.t 18))⟩ :: []
def vc_pack_Num_o3 : List VO := ⟨(some 14), none, (.mv (.t 6))⟩ :: ⟨(some 15), none, (.mv (.t 5))⟩ :: ⟨none, none, .kp [14, 15]⟩ :: ⟨(some 16), none, (.cvInt .u8 (.t 15))⟩ :: ⟨(some 17), none, (.lit false 5 1 1 [(.val (.int .u8 0))] [(0, (1, (.t 16)))])⟩ :: ⟨none, none, .kp [14, 17]⟩ :: ⟨(some 18), none, (.app 5 1 1 (.t 14) (.t 17))⟩ :: ⟨none, none, .kp [18]⟩ :: vc_pack_Num_o3_1
def vc_pack_Num_r3 : VCode := (.keep [5, 6, 13] (.cond (.t 13) (.seq (.region false vc_pack_Num_o3) (.keep [4] .ret)) .skip))
def vc_pack_Num_o4 : List VO := ⟨(some 12), none, (.mv (.t 5))⟩ :: ⟨(some 13), none, (.bin .lss (.t 12) (.c (.val (.int .u64 240))))⟩ :: []
def vc_pack_Num_r4 : VCode := (.keep [5, 6] (.seq (.seq (.region false vc_pack_Num_o4) vc_pack_Num_r3) vc_pack_Num_r2))
def vc_pack_Num_o5 : List VO := ⟨(some 10), none, (.mv (.t 0))⟩ :: ⟨(some 11), none, (.call 127 [] [(.t 10), (.c (.val (.int .i64 9)))])⟩ :: ⟨none, none, .kp [5, 11]⟩ :: ⟨(some 6), none, (.mv (.t 11))⟩ :: []
def vc_pack_Num_r5 : VCode := (.keep [0, 5] (.seq (.region false vc_pack_Num_o5) vc_pack_Num_r4))
def vc_pack_Num_o6 : List VO := ⟨(some 7), none, (.mv (.t 1))⟩ :: ⟨(some 8), none, (.mm true (.t 7) (.c (.val (.int .i64 0))))⟩ :: ⟨none, none, .kp [0, 8]⟩ :: ⟨(some 9), none, (.cvInt .u64 (.t 8))⟩ :: ⟨(some 5), none, (.mv (.t 9))⟩ :: []
def vc_pack_Num_r6 : VCode := (.keep [0, 1] (.seq (.region false vc_pack_Num_o6) vc_pack_Num_r5))
def vc_pack_Num_o7 : List VO := ⟨(some 4), none, (.mv (.c (.val (.slice none 0 0))))⟩ :: []
def vc_pack_Num : VCode := (.seq (.region false vc_pack_Num_o7) vc_pack_Num_r6)
def rs_pack_Num : List RV := [(.t 4)]
theorem comp_pack_Num : ccode Try.prog (Try.f77.body.getD .skip) = some (strip vc_pack_Num) := by kernel_rfl
theorem code_pack_Num : IsCode Try.prog id_pack_Num 30 vc_pack_Num rs_pack_Num := ⟨_, _, Try.func77, by kernel_rfl, rfl, comp_pack_Num, by kernel_rfl, by kernel_rfl, rfl⟩

/- usher/pack.Text -/
def vc_pack_Text_o1 : List VO := ⟨(some 14), none, (.mv (.t 5))⟩ :: ⟨(some 15), none, (.mv (.t 1))⟩ :: ⟨none, none, .kp [14, 15]⟩ :: ⟨(some 16), none, (.appS 5 (.t 14) (.t 15))⟩ :: ⟨none, none, .kp [16]⟩ :: ⟨(some 4), none, (.mv (.t 16))⟩ :: []
def vc_pack_Text_r1 : VCode := (.keep [1, 5] (.seq (.region false vc_pack_Text_o1) (.keep [4] .ret)))
def vc_pack_Text_o2_1 : List VO := ⟨(some 11), none, (.mv (.t 1))⟩ :: ⟨(some 12), none, (.lenS (.t 11))⟩ :: ⟨(some 13), none, (.call 77 [] [(.t 10), (.t 12)])⟩ :: ⟨none, none, .kp [1, 13]⟩ :: ⟨(some 5), none, (.mv (.t 13))⟩ :: []
def vc_pack_Text_o2 : List VO := ⟨(some 6), none, (.mv (.t 0))⟩ :: ⟨(some 7), none, (.mv (.t 1))⟩ :: ⟨(some 8), none, (.lenS (.t 7))⟩ :: ⟨none, none, .kp [1, 6, 8]⟩ :: ⟨(some 9), none, (.bin .add (.c (.val (.int .i64 9))) (.t 8))⟩ :: ⟨(some 10), none, (.call 127 [] [(.t 6), (.t 9)])⟩ :: ⟨none, none, .kp [1, 10]⟩ :: vc_pack_Text_o2_1
def vc_pack_Text_r2 : VCode := (.keep [0, 1] (.seq (.region false vc_pack_Text_o2) vc_pack_Text_r1))
def vc_pack_Text_o3 : List VO := ⟨(some 4), none, (.mv (.c (.val (.slice none 0 0))))⟩ :: []
def vc_pack_Text : VCode := (.seq (.region false vc_pack_Text_o3) vc_pack_Text_r2)
def rs_pack_Text : List RV := [(.t 4)]
theorem comp_pack_Text : ccode Try.prog (Try.f79.body.getD .skip) = some (strip vc_pack_Text) := by kernel_rfl
theorem code_pack_Text : IsCode Try.prog id_pack_Text 17 vc_pack_Text rs_pack_Text := ⟨_, _, Try.func79, by kernel_rfl, rfl, comp_pack_Text, by kernel_rfl, by kernel_rfl, rfl⟩

/- usher/pack.Open -/
def vc_pack_Open_o1 : List VO := ⟨(some 3), none, (.mv (.t 0))⟩ :: ⟨(some 4), none, (.call 127 [] [(.t 3), (.c (.val (.int .i64 0)))])⟩ :: ⟨none, none, .kp [4]⟩ :: ⟨(some 5), none, (.build [(.val (.slice none 0 0)), (.val (.int .i64 0)), (.val (.bool false))] [(0, (1, (.t 4))), (2, (1, (.c (.val (.bool true)))))])⟩ :: ⟨(some 6), none, (.box 135 (.t 5))⟩ :: ⟨none, none, .kp [6]⟩ :: ⟨(some 2), none, (.mv (.t 6))⟩ :: []
def vc_pack_Open_r1 : VCode := (.keep [0] (.seq (.region false vc_pack_Open_o1) (.keep [2] .ret)))
def vc_pack_Open_o2 : List VO := ⟨(some 2), none, (.mv (.c (.val (.pointer none))))⟩ :: []
def vc_pack_Open : VCode := (.seq (.region false vc_pack_Open_o2) vc_pack_Open_r1)
def rs_pack_Open : List RV := [(.t 2)]
theorem comp_pack_Open : ccode Try.prog (Try.f83.body.getD .skip) = some (strip vc_pack_Open) := by kernel_rfl
theorem code_pack_Open : IsCode Try.prog id_pack_Open 7 vc_pack_Open rs_pack_Open := ⟨_, _, Try.func83, by kernel_rfl, rfl, comp_pack_Open, by kernel_rfl, by kernel_rfl, rfl⟩

/- (usher/pack.Reader).Num -/
def vc_pack_Reader_Num_o1 : List VO := ⟨(some 50), none, (.mv (.t 5))⟩ :: ⟨(some 51), none, (.cvInt .i64 (.t 50))⟩ :: ⟨none, none, .kp [51]⟩ :: ⟨(some 4), none, (.mv (.t 51))⟩ :: []
def vc_pack_Reader_Num_r1 : VCode := (.keep [5] (.seq (.region false vc_pack_Reader_Num_o1) (.keep [4] .ret)))
def vc_pack_Reader_Num_o2 : List VO := ⟨(some 4), none, (.mv (.c (.val (.int .i64 0))))⟩ :: []
def vc_pack_Reader_Num_c2 : VCode := (.seq (.region false vc_pack_Reader_Num_o2) (.keep [4] .ret))
def vc_pack_Reader_Num_r3 : VCode := (.keep [5, 49] (.cond (.t 49) vc_pack_Reader_Num_c2 .skip))
def vc_pack_Reader_Num_o3 : List VO := ⟨(some 47), none, (.mv (.t 0))⟩ :: ⟨(some 48), none, (.call 133 [] [(.t 47)])⟩ :: ⟨none, none, .kp [5, 48]⟩ :: ⟨(some 49), none, (.un .not (.t 48))⟩ :: []
def vc_pack_Reader_Num_r4 : VCode := (.keep [0, 5] (.seq (.seq (.region false vc_pack_Reader_Num_o3) vc_pack_Reader_Num_r3) vc_pack_Reader_Num_r1))
def vc_pack_Reader_Num_o4 : List VO := ⟨(some 45), none, (.mv (.t 0))⟩ :: ⟨(some 46), none, (.call 134 [] [(.t 45), (.c (.val (.int .i64 5)))])⟩ :: []
def vc_pack_Reader_Num_r5 : VCode := (.keep [0, 5, 44] (.cond (.t 44) (.region false vc_pack_Reader_Num_o4) .skip))
def vc_pack_Reader_Num_o5_1 : List VO := ⟨(some 42), (some (39, true)), (.mv (.t 1))⟩ :: ⟨none, none, .kp [0, 5, 39, 41, 42]⟩ :: ⟨(some 43), (some (39, true)), (.bin .gtr (.t 41) (.t 42))⟩ :: ⟨none, none, .kp [0, 5, 39, 43]⟩ :: ⟨(some 44), none, (.pick (.t 39) (.t 43) (.c (.val (.bool false))))⟩ :: []
def vc_pack_Reader_Num_o5 : List VO := ⟨(some 37), none, (.mv (.t 0))⟩ :: ⟨(some 38), none, (.call 133 [] [(.t 37)])⟩ :: ⟨(some 39), none, (.mv (.t 38))⟩ :: ⟨none, none, .kp [0, 1, 5, 39]⟩ :: ⟨(some 40), (some (39, true)), (.mv (.t 5))⟩ :: ⟨(some 41), (some (39, true)), (.cvInt .i64 (.t 40))⟩ :: vc_pack_Reader_Num_o5_1
def vc_pack_Reader_Num_r6 : VCode := (.keep [0, 1, 5] (.seq (.seq (.region false vc_pack_Reader_Num_o5) vc_pack_Reader_Num_r5) vc_pack_Reader_Num_r4))
def vc_pack_Reader_Num_o6_3 : List VO := ⟨(some 5), none, (.mv (.t 36))⟩ :: []
def vc_pack_Reader_Num_o6_2 : List VO := ⟨(some 32), (some (29, true)), (.mv (.t 6))⟩ :: ⟨(some 33), (some (29, true)), (.bin .eql (.t 31) (.t 32))⟩ :: ⟨none, none, .kp [0, 1, 5, 22, 29, 33]⟩ :: ⟨(some 34), none, (.pick (.t 29) (.t 33) (.c (.val (.bool false))))⟩ :: ⟨none, none, .kp [0, 1, 5, 22, 34]⟩ :: ⟨(some 35), none, (.mv (.t 5))⟩ :: ⟨(some 36), none, (.call 132 [] [(.t 22), (.t 34), (.t 35)])⟩ :: ⟨none, none, .kp [0, 1, 36]⟩ :: vc_pack_Reader_Num_o6_3
def vc_pack_Reader_Num_o6_1 : List VO := ⟨(some 27), (some (25, true)), (.bin .geq (.t 26) (.c (.val (.int .u64 240))))⟩ :: ⟨(some 28), none, (.pick (.t 25) (.t 27) (.c (.val (.bool false))))⟩ :: ⟨none, none, .kp [0, 1, 5, 6, 22, 28]⟩ :: ⟨(some 29), none, (.mv (.t 28))⟩ :: ⟨(some 30), (some (29, true)), (.mv (.t 5))⟩ :: ⟨(some 31), (some (29, true)), (.call 128 [] [(.t 30)])⟩ :: ⟨none, none, .kp [0, 1, 5, 6, 22, 29, 31]⟩ :: vc_pack_Reader_Num_o6_2
def vc_pack_Reader_Num_o6 : List VO := ⟨(some 22), none, (.mv (.t 0))⟩ :: ⟨(some 23), none, (.mv (.t 5))⟩ :: ⟨(some 24), none, (.bin .leq (.t 23) (.c (.val (.int .u64 9223372036854775807))))⟩ :: ⟨(some 25), none, (.mv (.t 24))⟩ :: ⟨none, none, .kp [0, 1, 5, 6, 22, 25]⟩ :: ⟨(some 26), (some (25, true)), (.mv (.t 5))⟩ :: vc_pack_Reader_Num_o6_1
def vc_pack_Reader_Num_r7 : VCode := (.keep [0, 1, 5, 6] (.region false vc_pack_Reader_Num_o6))
def vc_pack_Reader_Num_o7 : List VO := ⟨(some 19), none, (.mv (.t 0))⟩ :: ⟨(some 20), none, (.mv (.t 6))⟩ :: ⟨(some 21), none, (.call 131 [] [(.t 19), (.t 20)])⟩ :: ⟨none, none, .kp [0, 1, 6, 21]⟩ :: ⟨(some 5), none, (.mv (.t 21))⟩ :: []
def vc_pack_Reader_Num_r8 : VCode := (.keep [0, 1, 6] (.seq (.region false vc_pack_Reader_Num_o7) vc_pack_Reader_Num_r7))
def vc_pack_Reader_Num_o8 : List VO := ⟨(some 4), none, (.mv (.c (.val (.int .i64 0))))⟩ :: []
def vc_pack_Reader_Num_c9 : VCode := (.seq (.region false vc_pack_Reader_Num_o8) (.keep [4] .ret))
def vc_pack_Reader_Num_r10 : VCode := (.keep [0, 1, 6, 18] (.cond (.t 18) vc_pack_Reader_Num_c9 .skip))
def vc_pack_Reader_Num_o9 : List VO := ⟨(some 14), none, (.mv (.t 0))⟩ :: ⟨(some 15), none, (.mv (.t 6))⟩ :: ⟨(some 16), none, (.bin .leq (.t 15) (.c (.val (.int .i64 8))))⟩ :: ⟨(some 17), none, (.call 132 [] [(.t 14), (.t 16), (.c (.val (.int .u64 1)))])⟩ :: ⟨none, none, .kp [0, 1, 6, 17]⟩ :: ⟨(some 18), none, (.bin .eql (.t 17) (.c (.val (.int .u64 0))))⟩ :: []
def vc_pack_Reader_Num_r11 : VCode := (.keep [0, 1, 6] (.seq (.seq (.region false vc_pack_Reader_Num_o9) vc_pack_Reader_Num_r10) vc_pack_Reader_Num_r8))
def vc_pack_Reader_Num_o10 : List VO := ⟨(some 11), none, (.mv (.t 5))⟩ :: ⟨(some 12), none, (.cvInt .i64 (.t 11))⟩ :: ⟨none, none, .kp [0, 1, 12]⟩ :: ⟨(some 13), none, (.bin .sub (.t 12) (.c (.val (.int .i64 239))))⟩ :: ⟨(some 6), none, (.mv (.t 13))⟩ :: []
def vc_pack_Reader_Num_c12 : VCode := (.seq (.region false vc_pack_Reader_Num_o10) vc_pack_Reader_Num_r11)
def vc_pack_Reader_Num_r13 : VCode := (.keep [0, 1, 5, 10] (.cond (.t 10) vc_pack_Reader_Num_c12 .skip))
def vc_pack_Reader_Num_o11 : List VO := ⟨(some 9), none, (.mv (.t 5))⟩ :: ⟨(some 10), none, (.bin .geq (.t 9) (.c (.val (.int .u64 240))))⟩ :: []
def vc_pack_Reader_Num_r14 : VCode := (.keep [0, 1, 5] (.seq (.seq (.region false vc_pack_Reader_Num_o11) vc_pack_Reader_Num_r13) vc_pack_Reader_Num_r6))
def vc_pack_Reader_Num_o12 : List VO := ⟨(some 7), none, (.mv (.t 0))⟩ :: ⟨(some 8), none, (.call 131 [] [(.t 7), (.c (.val (.int .i64 1)))])⟩ :: ⟨(some 5), none, (.mv (.t 8))⟩ :: []
def vc_pack_Reader_Num_r15 : VCode := (.keep [0, 1] (.seq (.region false vc_pack_Reader_Num_o12) vc_pack_Reader_Num_r14))
def vc_pack_Reader_Num_o13 : List VO := ⟨(some 4), none, (.mv (.c (.val (.int .i64 0))))⟩ :: []
def vc_pack_Reader_Num : VCode := (.seq (.region false vc_pack_Reader_Num_o13) vc_pack_Reader_Num_r15)
def rs_pack_Reader_Num : List RV := [(.t 4)]
theorem comp_pack_Reader_Num : ccode Try.prog (Try.f85.body.getD .skip) = some (strip vc_pack_Reader_Num) := by kernel_rfl
theorem code_pack_Reader_Num : IsCode Try.prog id_pack_Reader_Num 52 vc_pack_Reader_Num rs_pack_Reader_Num := ⟨_, _, Try.func85, by kernel_rfl, rfl, comp_pack_Reader_Num, by kernel_rfl, by kernel_rfl, rfl⟩

/- (usher/pack.Reader).Text -/
def vc_pack_Reader_Text_o1_1 : List VO := ⟨(some 10), none, (.toStr (.t 9))⟩ :: ⟨(some 4), none, (.mv (.t 10))⟩ :: []
def vc_pack_Reader_Text_o1 : List VO := ⟨(some 5), none, (.mv (.t 0))⟩ :: ⟨(some 6), none, (.mv (.t 0))⟩ :: ⟨(some 7), none, (.mv (.t 1))⟩ :: ⟨none, none, .kp [5, 6, 7]⟩ :: ⟨(some 8), none, (.call 85 [] [(.t 6), (.t 7)])⟩ :: ⟨none, none, .kp [5, 8]⟩ :: ⟨(some 9), none, (.call 135 [] [(.t 5), (.t 8)])⟩ :: ⟨none, none, .kp [9]⟩ :: vc_pack_Reader_Text_o1_1
def vc_pack_Reader_Text_r1 : VCode := (.keep [0, 1] (.seq (.region false vc_pack_Reader_Text_o1) (.keep [4] .ret)))
def vc_pack_Reader_Text_o2 : List VO := ⟨(some 4), none, (.mv (.c (.val (.string ⟨#[]⟩))))⟩ :: []
def vc_pack_Reader_Text : VCode := (.seq (.region false vc_pack_Reader_Text_o2) vc_pack_Reader_Text_r1)
def rs_pack_Reader_Text : List RV := [(.t 4)]
theorem comp_pack_Reader_Text : ccode Try.prog (Try.f87.body.getD .skip) = some (strip vc_pack_Reader_Text) := by kernel_rfl
theorem code_pack_Reader_Text : IsCode Try.prog id_pack_Reader_Text 11 vc_pack_Reader_Text rs_pack_Reader_Text := ⟨_, _, Try.func87, by kernel_rfl, rfl, comp_pack_Reader_Text, by kernel_rfl, by kernel_rfl, rfl⟩

/- (usher/pack.Reader).Err -/
def vc_pack_Reader_Err_o1 : List VO := ⟨(some 12), none, (.mv (.t 0))⟩ :: ⟨(some 13), none, (.nilck (.t 12))⟩ :: ⟨none, none, .kp [13]⟩ :: ⟨(some 14), none, (.fld 1 (.t 13))⟩ :: ⟨(some 15), none, (.load false 1 (.t 14))⟩ :: ⟨none, none, .kp [15]⟩ :: ⟨(some 2), none, (.mv (.t 15))⟩ :: []
def vc_pack_Reader_Err_r1 : VCode := (.keep [0] (.seq (.region false vc_pack_Reader_Err_o1) (.keep [2] .ret)))
def vc_pack_Reader_Err_o2 : List VO := ⟨(some 2), none, (.mv (.c (.val (.int .i64 2))))⟩ :: []
def vc_pack_Reader_Err_c2 : VCode := (.seq (.region false vc_pack_Reader_Err_o2) (.keep [2] .ret))
def vc_pack_Reader_Err_r3 : VCode := (.keep [0, 11] (.cond (.t 11) vc_pack_Reader_Err_c2 .skip))
def vc_pack_Reader_Err_o3_1 : List VO := ⟨(some 8), (some (5, false)), (.fld 2 (.t 7))⟩ :: ⟨none, none, .kp [0, 5, 8]⟩ :: ⟨(some 9), (some (5, false)), (.load false 1 (.t 8))⟩ :: ⟨(some 10), (some (5, false)), (.un .not (.t 9))⟩ :: ⟨none, none, .kp [0, 5, 10]⟩ :: ⟨(some 11), none, (.pick (.t 5) (.c (.val (.bool true))) (.t 10))⟩ :: []
def vc_pack_Reader_Err_o3 : List VO := ⟨(some 3), none, (.mv (.t 0))⟩ :: ⟨(some 4), none, (.isnil .p false (.t 3))⟩ :: ⟨(some 5), none, (.mv (.t 4))⟩ :: ⟨none, none, .kp [0, 5]⟩ :: ⟨(some 6), (some (5, false)), (.mv (.t 0))⟩ :: ⟨(some 7), (some (5, false)), (.nilck (.t 6))⟩ :: vc_pack_Reader_Err_o3_1
def vc_pack_Reader_Err_r4 : VCode := (.keep [0] (.seq (.seq (.region false vc_pack_Reader_Err_o3) vc_pack_Reader_Err_r3) vc_pack_Reader_Err_r1))
def vc_pack_Reader_Err_o4 : List VO := ⟨(some 2), none, (.mv (.c (.val (.int .i64 0))))⟩ :: []
def vc_pack_Reader_Err : VCode := (.seq (.region false vc_pack_Reader_Err_o4) vc_pack_Reader_Err_r4)
def rs_pack_Reader_Err : List RV := [(.t 2)]
theorem comp_pack_Reader_Err : ccode Try.prog (Try.f90.body.getD .skip) = some (strip vc_pack_Reader_Err) := by kernel_rfl
theorem code_pack_Reader_Err : IsCode Try.prog id_pack_Reader_Err 16 vc_pack_Reader_Err rs_pack_Reader_Err := ⟨_, _, Try.func90, by kernel_rfl, rfl, comp_pack_Reader_Err, by kernel_rfl, by kernel_rfl, rfl⟩

/- (usher/pack.Reader).End -/
def vc_pack_Reader_End_o1 : List VO := ⟨(some 11), none, (.mv (.t 0))⟩ :: ⟨(some 12), none, (.call 90 [] [(.t 11)])⟩ :: ⟨none, none, .kp [12]⟩ :: ⟨(some 2), none, (.mv (.t 12))⟩ :: []
def vc_pack_Reader_End_r1 : VCode := (.keep [0] (.seq (.region false vc_pack_Reader_End_o1) (.keep [2] .ret)))
def vc_pack_Reader_End_o2 : List VO := ⟨(some 2), none, (.mv (.c (.val (.int .i64 3))))⟩ :: []
def vc_pack_Reader_End_c2 : VCode := (.seq (.region false vc_pack_Reader_End_o2) (.keep [2] .ret))
def vc_pack_Reader_End_r3 : VCode := (.keep [0, 10] (.cond (.t 10) vc_pack_Reader_End_c2 .skip))
def vc_pack_Reader_End_o3_1 : List VO := ⟨(some 8), (some (6, true)), (.call 90 [] [(.t 7)])⟩ :: ⟨none, none, .kp [0, 6, 8]⟩ :: ⟨(some 9), (some (6, true)), (.bin .eql (.t 8) (.c (.val (.int .i64 0))))⟩ :: ⟨(some 10), none, (.pick (.t 6) (.t 9) (.c (.val (.bool false))))⟩ :: []
def vc_pack_Reader_End_o3 : List VO := ⟨(some 3), none, (.mv (.t 0))⟩ :: ⟨(some 4), none, (.call 136 [] [(.t 3)])⟩ :: ⟨(some 5), none, (.bin .gtr (.t 4) (.c (.val (.int .i64 0))))⟩ :: ⟨none, none, .kp [0, 5]⟩ :: ⟨(some 6), none, (.mv (.t 5))⟩ :: ⟨(some 7), (some (6, true)), (.mv (.t 0))⟩ :: vc_pack_Reader_End_o3_1
def vc_pack_Reader_End_r4 : VCode := (.keep [0] (.seq (.seq (.region false vc_pack_Reader_End_o3) vc_pack_Reader_End_r3) vc_pack_Reader_End_r1))
def vc_pack_Reader_End_o4 : List VO := ⟨(some 2), none, (.mv (.c (.val (.int .i64 0))))⟩ :: []
def vc_pack_Reader_End : VCode := (.seq (.region false vc_pack_Reader_End_o4) vc_pack_Reader_End_r4)
def rs_pack_Reader_End : List RV := [(.t 2)]
theorem comp_pack_Reader_End : ccode Try.prog (Try.f91.body.getD .skip) = some (strip vc_pack_Reader_End) := by kernel_rfl
theorem code_pack_Reader_End : IsCode Try.prog id_pack_Reader_End 13 vc_pack_Reader_End rs_pack_Reader_End := ⟨_, _, Try.func91, by kernel_rfl, rfl, comp_pack_Reader_End, by kernel_rfl, by kernel_rfl, rfl⟩

/- usher/pack.room -/
def vc_pack_room_o1 : List VO := ⟨(some 16), none, (.mv (.t 5))⟩ :: ⟨(some 4), none, (.mv (.t 16))⟩ :: []
def vc_pack_room_r1 : VCode := (.keep [5] (.seq (.region false vc_pack_room_o1) (.keep [4] .ret)))
def vc_pack_room_o2 : List VO := ⟨(some 13), none, (.mv (.t 5))⟩ :: ⟨(some 14), none, (.mv (.t 0))⟩ :: ⟨(some 15), none, (.copy 1 (.t 13) (.t 14))⟩ :: []
def vc_pack_room_r2 : VCode := (.keep [0, 5] (.seq (.region false vc_pack_room_o2) vc_pack_room_r1))
def vc_pack_room_o3_1 : List VO := ⟨(some 11), none, (.bin .add (.t 9) (.t 10))⟩ :: ⟨none, none, .kp [0, 7, 11]⟩ :: ⟨(some 12), none, (.make 5 1 1 [(.val (.int .u8 0))] (.t 7) (.t 11))⟩ :: ⟨none, none, .kp [0, 12]⟩ :: ⟨(some 5), none, (.mv (.t 12))⟩ :: []
def vc_pack_room_o3 : List VO := ⟨(some 6), none, (.mv (.t 0))⟩ :: ⟨(some 7), none, (.len (.t 6))⟩ :: ⟨(some 8), none, (.mv (.t 0))⟩ :: ⟨(some 9), none, (.len (.t 8))⟩ :: ⟨none, none, .kp [0, 1, 7, 9]⟩ :: ⟨(some 10), none, (.mv (.t 1))⟩ :: vc_pack_room_o3_1
def vc_pack_room_r3 : VCode := (.keep [0, 1] (.seq (.region false vc_pack_room_o3) vc_pack_room_r2))
def vc_pack_room_o4 : List VO := ⟨(some 4), none, (.mv (.c (.val (.slice none 0 0))))⟩ :: []
def vc_pack_room : VCode := (.seq (.region false vc_pack_room_o4) vc_pack_room_r3)
def rs_pack_room : List RV := [(.t 4)]
theorem comp_pack_room : ccode Try.prog (Try.f127.body.getD .skip) = some (strip vc_pack_room) := by kernel_rfl
theorem code_pack_room : IsCode Try.prog id_pack_room 17 vc_pack_room rs_pack_room := ⟨_, _, Try.func127, by kernel_rfl, rfl, comp_pack_room, by kernel_rfl, by kernel_rfl, rfl⟩

/- usher/pack.width -/
def vc_pack_width_o1 : List VO := ⟨(some 12), none, (.mv (.t 3))⟩ :: ⟨(some 2), none, (.mv (.t 12))⟩ :: []
def vc_pack_width_r1 : VCode := (.keep [3] (.seq (.region false vc_pack_width_o1) (.keep [2] .ret)))
def vc_pack_width_o2 : List VO := ⟨(some 8), none, (.mv (.t 0))⟩ :: ⟨(some 9), none, (.bin .shr (.t 8) (.c (.val (.int .u64 8))))⟩ :: ⟨none, none, .kp [3, 9]⟩ :: ⟨(some 0), none, (.mv (.t 9))⟩ :: []
def vc_pack_width_r2 : VCode := (.keep [0, 3] (.region false vc_pack_width_o2))
def vc_pack_width_o3 : List VO := ⟨(some 10), none, (.mv (.t 3))⟩ :: ⟨(some 11), none, (.bin .add (.t 10) (.c (.val (.int .i64 1))))⟩ :: ⟨none, none, .kp [0, 11]⟩ :: ⟨(some 3), none, (.mv (.t 11))⟩ :: []
def vc_pack_width_r3 : VCode := (.keep [0, 3] (.seq (.block 1 (.region false vc_pack_width_o3)) vc_pack_width_r2))
def vc_pack_width_r4 : VCode := (.keep [0, 3, 7] (.cond (.t 7) .skip (.exit 0)))
def vc_pack_width_o4 : List VO := ⟨(some 6), none, (.mv (.t 0))⟩ :: ⟨(some 7), none, (.bin .gtr (.t 6) (.c (.val (.int .u64 0))))⟩ :: []
def vc_pack_width_l5 : VCode := (.seq (.seq (.region false vc_pack_width_o4) vc_pack_width_r4) vc_pack_width_r3)
def vc_pack_width_r6 : VCode := (.keep [0, 3] (.block 0 (.loop (.keep [0, 3] vc_pack_width_l5))))
def vc_pack_width_o5 : List VO := ⟨(some 4), none, (.mv (.t 0))⟩ :: ⟨(some 5), none, (.bin .shr (.t 4) (.c (.val (.int .u64 8))))⟩ :: ⟨none, none, .kp [3, 5]⟩ :: ⟨(some 0), none, (.mv (.t 5))⟩ :: []
def vc_pack_width_r7 : VCode := (.keep [0, 3] (.seq (.seq (.region false vc_pack_width_o5) vc_pack_width_r6) vc_pack_width_r1))
def vc_pack_width_o6 : List VO := ⟨(some 3), none, (.mv (.c (.val (.int .i64 1))))⟩ :: []
def vc_pack_width_r8 : VCode := (.keep [0] (.seq (.region false vc_pack_width_o6) vc_pack_width_r7))
def vc_pack_width_o7 : List VO := ⟨(some 2), none, (.mv (.c (.val (.int .i64 0))))⟩ :: []
def vc_pack_width : VCode := (.seq (.region false vc_pack_width_o7) vc_pack_width_r8)
def rs_pack_width : List RV := [(.t 2)]
theorem comp_pack_width : ccode Try.prog (Try.f128.body.getD .skip) = some (strip vc_pack_width) := by kernel_rfl
theorem code_pack_width : IsCode Try.prog id_pack_width 13 vc_pack_width rs_pack_width := ⟨_, _, Try.func128, by kernel_rfl, rfl, comp_pack_width, by kernel_rfl, by kernel_rfl, rfl⟩

/- usher/pack.big -/
def vc_pack_big_o1 : List VO := ⟨(some 22), none, (.mv (.t 0))⟩ :: ⟨(some 6), none, (.mv (.t 22))⟩ :: []
def vc_pack_big_r1 : VCode := (.keep [0] (.seq (.region false vc_pack_big_o1) (.keep [6] .ret)))
def vc_pack_big_o2 : List VO := ⟨(some 13), none, (.mv (.t 7))⟩ :: ⟨(some 14), none, (.bin .sub (.t 13) (.c (.val (.int .i64 8))))⟩ :: ⟨none, none, .kp [0, 1, 14]⟩ :: ⟨(some 7), none, (.mv (.t 14))⟩ :: []
def vc_pack_big_r2 : VCode := (.keep [0, 1, 7] (.region false vc_pack_big_o2))
def vc_pack_big_o3_1 : List VO := ⟨(some 20), none, (.lit false 5 1 1 [(.val (.int .u8 0))] [(0, (1, (.t 19)))])⟩ :: ⟨none, none, .kp [1, 7, 15, 20]⟩ :: ⟨(some 21), none, (.app 5 1 1 (.t 15) (.t 20))⟩ :: ⟨none, none, .kp [1, 7, 21]⟩ :: ⟨(some 0), none, (.mv (.t 21))⟩ :: []
def vc_pack_big_o3 : List VO := ⟨(some 15), none, (.mv (.t 0))⟩ :: ⟨(some 16), none, (.mv (.t 1))⟩ :: ⟨(some 17), none, (.mv (.t 7))⟩ :: ⟨(some 18), none, (.bin .shr (.t 16) (.t 17))⟩ :: ⟨none, none, .kp [1, 7, 15, 18]⟩ :: ⟨(some 19), none, (.cvInt .u8 (.t 18))⟩ :: vc_pack_big_o3_1
def vc_pack_big_r3 : VCode := (.keep [0, 1, 7] (.seq (.block 1 (.region false vc_pack_big_o3)) vc_pack_big_r2))
def vc_pack_big_r4 : VCode := (.keep [0, 1, 7, 12] (.cond (.t 12) .skip (.exit 0)))
def vc_pack_big_o4 : List VO := ⟨(some 11), none, (.mv (.t 7))⟩ :: ⟨(some 12), none, (.bin .geq (.t 11) (.c (.val (.int .i64 0))))⟩ :: []
def vc_pack_big_l5 : VCode := (.seq (.seq (.region false vc_pack_big_o4) vc_pack_big_r4) vc_pack_big_r3)
def vc_pack_big_r6 : VCode := (.keep [0, 1, 7] (.block 0 (.loop (.keep [0, 1, 7] vc_pack_big_l5))))
def vc_pack_big_o5 : List VO := ⟨(some 8), none, (.mv (.t 2))⟩ :: ⟨(some 9), none, (.bin .sub (.t 8) (.c (.val (.int .i64 1))))⟩ :: ⟨none, none, .kp [0, 1, 9]⟩ :: ⟨(some 10), none, (.bin .mul (.c (.val (.int .i64 8))) (.t 9))⟩ :: ⟨(some 7), none, (.mv (.t 10))⟩ :: []
def vc_pack_big_r7 : VCode := (.keep [0, 1, 2] (.seq (.seq (.region false vc_pack_big_o5) vc_pack_big_r6) vc_pack_big_r1))
def vc_pack_big_o6 : List VO := ⟨(some 6), none, (.mv (.c (.val (.slice none 0 0))))⟩ :: []
def vc_pack_big : VCode := (.seq (.region false vc_pack_big_o6) vc_pack_big_r7)
def rs_pack_big : List RV := [(.t 6)]
theorem comp_pack_big : ccode Try.prog (Try.f129.body.getD .skip) = some (strip vc_pack_big) := by kernel_rfl
theorem code_pack_big : IsCode Try.prog id_pack_big 23 vc_pack_big rs_pack_big := ⟨_, _, Try.func129, by kernel_rfl, rfl, comp_pack_big, by kernel_rfl, by kernel_rfl, rfl⟩

/- (usher/pack.Reader).number -/
def vc_pack_Reader_number_o1 : List VO := ⟨(some 22), none, (.mv (.t 5))⟩ :: ⟨(some 4), none, (.mv (.t 22))⟩ :: []
def vc_pack_Reader_number_r1 : VCode := (.keep [5] (.seq (.region false vc_pack_Reader_number_o1) (.keep [4] .ret)))
def vc_pack_Reader_number_o2 : List VO := ⟨(some 21), none, (.bin .add (.t 12) (.c (.val (.int .i64 1))))⟩ :: ⟨(some 12), none, (.mv (.t 21))⟩ :: []
def vc_pack_Reader_number_r2 : VCode := (.keep [5, 10, 11, 12] (.region false vc_pack_Reader_number_o2))
def vc_pack_Reader_number_o3_1 : List VO := ⟨(some 5), none, (.mv (.t 20))⟩ :: []
def vc_pack_Reader_number_o3 : List VO := ⟨(some 16), none, (.mv (.t 5))⟩ :: ⟨(some 17), none, (.bin .shl (.t 16) (.c (.val (.int .u64 8))))⟩ :: ⟨none, none, .kp [7, 10, 11, 12, 17]⟩ :: ⟨(some 18), none, (.mv (.t 7))⟩ :: ⟨(some 19), none, (.cvInt .u64 (.t 18))⟩ :: ⟨none, none, .kp [10, 11, 12, 17, 19]⟩ :: ⟨(some 20), none, (.bin .or (.t 17) (.t 19))⟩ :: ⟨none, none, .kp [10, 11, 12, 20]⟩ :: vc_pack_Reader_number_o3_1
def vc_pack_Reader_number_r3 : VCode := (.keep [5, 7, 10, 11, 12] (.region false vc_pack_Reader_number_o3))
def vc_pack_Reader_number_o4 : List VO := ⟨(some 14), none, (.idx 1 (.t 10) (.t 12))⟩ :: ⟨(some 15), none, (.load false 1 (.t 14))⟩ :: ⟨(some 7), none, (.mv (.t 15))⟩ :: []
def vc_pack_Reader_number_c4 : VCode := (.seq (.region false vc_pack_Reader_number_o4) vc_pack_Reader_number_r3)
def vc_pack_Reader_number_r5 : VCode := (.keep [5, 10, 11, 12] (.seq (.block 1 vc_pack_Reader_number_c4) vc_pack_Reader_number_r2))
def vc_pack_Reader_number_r6 : VCode := (.keep [5, 10, 11, 12, 13] (.seq (.cond (.t 13) .skip (.exit 0)) vc_pack_Reader_number_r5))
def vc_pack_Reader_number_o5 : List VO := ⟨(some 13), none, (.bin .lss (.t 12) (.t 11))⟩ :: []
def vc_pack_Reader_number_l7 : VCode := (.seq (.region false vc_pack_Reader_number_o5) vc_pack_Reader_number_r6)
def vc_pack_Reader_number_r8 : VCode := (.keep [5, 10, 11, 12] (.block 0 (.loop (.keep [5, 10, 11, 12] vc_pack_Reader_number_l7))))
def vc_pack_Reader_number_o6 : List VO := ⟨(some 8), none, (.mv (.t 0))⟩ :: ⟨(some 9), none, (.mv (.t 1))⟩ :: ⟨none, none, .kp [5, 8, 9]⟩ :: ⟨(some 10), none, (.call 135 [] [(.t 8), (.t 9)])⟩ :: ⟨none, none, .kp [5, 10]⟩ :: ⟨(some 11), none, (.len (.t 10))⟩ :: ⟨(some 12), none, (.mv (.c (.val (.int .i64 0))))⟩ :: []
def vc_pack_Reader_number_r9 : VCode := (.keep [0, 1, 5] (.seq (.seq (.region false vc_pack_Reader_number_o6) vc_pack_Reader_number_r8) vc_pack_Reader_number_r1))
def vc_pack_Reader_number_o7 : List VO := ⟨(some 5), none, (.mv (.c (.val (.int .u64 0))))⟩ :: []
def vc_pack_Reader_number_r10 : VCode := (.keep [0, 1] (.seq (.region false vc_pack_Reader_number_o7) vc_pack_Reader_number_r9))
def vc_pack_Reader_number_o8 : List VO := ⟨(some 4), none, (.mv (.c (.val (.int .u64 0))))⟩ :: []
def vc_pack_Reader_number : VCode := (.seq (.region false vc_pack_Reader_number_o8) vc_pack_Reader_number_r10)
def rs_pack_Reader_number : List RV := [(.t 4)]
theorem comp_pack_Reader_number : ccode Try.prog (Try.f131.body.getD .skip) = some (strip vc_pack_Reader_number) := by kernel_rfl
theorem code_pack_Reader_number : IsCode Try.prog id_pack_Reader_number 23 vc_pack_Reader_number rs_pack_Reader_number := ⟨_, _, Try.func131, by kernel_rfl, rfl, comp_pack_Reader_number, by kernel_rfl, by kernel_rfl, rfl⟩

/- (usher/pack.Reader).form -/
def vc_pack_Reader_form_o1 : List VO := ⟨(some 14), none, (.mv (.t 2))⟩ :: ⟨(some 6), none, (.mv (.t 14))⟩ :: []
def vc_pack_Reader_form_r1 : VCode := (.keep [2] (.seq (.region false vc_pack_Reader_form_o1) (.keep [6] .ret)))
def vc_pack_Reader_form_o2 : List VO := ⟨(some 6), none, (.mv (.c (.val (.int .u64 0))))⟩ :: []
def vc_pack_Reader_form_c2 : VCode := (.seq (.region false vc_pack_Reader_form_o2) (.keep [6] .ret))
def vc_pack_Reader_form_r3 : VCode := (.keep [2, 13] (.cond (.t 13) vc_pack_Reader_form_c2 .skip))
def vc_pack_Reader_form_o3 : List VO := ⟨(some 11), none, (.mv (.t 0))⟩ :: ⟨(some 12), none, (.call 133 [] [(.t 11)])⟩ :: ⟨none, none, .kp [2, 12]⟩ :: ⟨(some 13), none, (.un .not (.t 12))⟩ :: []
def vc_pack_Reader_form_r4 : VCode := (.keep [0, 2] (.seq (.seq (.region false vc_pack_Reader_form_o3) vc_pack_Reader_form_r3) vc_pack_Reader_form_r1))
def vc_pack_Reader_form_o4 : List VO := ⟨(some 9), none, (.mv (.t 0))⟩ :: ⟨(some 10), none, (.call 134 [] [(.t 9), (.c (.val (.int .i64 3)))])⟩ :: []
def vc_pack_Reader_form_r5 : VCode := (.keep [0, 2, 8] (.cond (.t 8) (.region false vc_pack_Reader_form_o4) .skip))
def vc_pack_Reader_form_o5 : List VO := ⟨(some 7), none, (.mv (.t 1))⟩ :: ⟨(some 8), none, (.un .not (.t 7))⟩ :: []
def vc_pack_Reader_form_r6 : VCode := (.keep [0, 1, 2] (.seq (.seq (.region false vc_pack_Reader_form_o5) vc_pack_Reader_form_r5) vc_pack_Reader_form_r4))
def vc_pack_Reader_form_o6 : List VO := ⟨(some 6), none, (.mv (.c (.val (.int .u64 0))))⟩ :: []
def vc_pack_Reader_form : VCode := (.seq (.region false vc_pack_Reader_form_o6) vc_pack_Reader_form_r6)
def rs_pack_Reader_form : List RV := [(.t 6)]
theorem comp_pack_Reader_form : ccode Try.prog (Try.f132.body.getD .skip) = some (strip vc_pack_Reader_form) := by kernel_rfl
theorem code_pack_Reader_form : IsCode Try.prog id_pack_Reader_form 15 vc_pack_Reader_form rs_pack_Reader_form := ⟨_, _, Try.func132, by kernel_rfl, rfl, comp_pack_Reader_form, by kernel_rfl, by kernel_rfl, rfl⟩

/- (usher/pack.Reader).alive -/
def vc_pack_Reader_alive_o1_3 : List VO := ⟨(some 2), none, (.mv (.t 17))⟩ :: []
def vc_pack_Reader_alive_o1_2 : List VO := ⟨(some 13), (some (11, true)), (.nilck (.t 12))⟩ :: ⟨(some 14), (some (11, true)), (.fld 1 (.t 13))⟩ :: ⟨none, none, .kp [11, 14]⟩ :: ⟨(some 15), (some (11, true)), (.load false 1 (.t 14))⟩ :: ⟨(some 16), (some (11, true)), (.bin .eql (.t 15) (.c (.val (.int .i64 0))))⟩ :: ⟨none, none, .kp [11, 16]⟩ :: ⟨(some 17), none, (.pick (.t 11) (.t 16) (.c (.val (.bool false))))⟩ :: ⟨none, none, .kp [17]⟩ :: vc_pack_Reader_alive_o1_3
def vc_pack_Reader_alive_o1_1 : List VO := ⟨(some 8), (some (5, true)), (.fld 2 (.t 7))⟩ :: ⟨none, none, .kp [0, 5, 8]⟩ :: ⟨(some 9), (some (5, true)), (.load false 1 (.t 8))⟩ :: ⟨(some 10), none, (.pick (.t 5) (.t 9) (.c (.val (.bool false))))⟩ :: ⟨none, none, .kp [0, 10]⟩ :: ⟨(some 11), none, (.mv (.t 10))⟩ :: ⟨(some 12), (some (11, true)), (.mv (.t 0))⟩ :: ⟨none, none, .kp [11, 12]⟩ :: vc_pack_Reader_alive_o1_2
def vc_pack_Reader_alive_o1 : List VO := ⟨(some 3), none, (.mv (.t 0))⟩ :: ⟨(some 4), none, (.isnil .p true (.t 3))⟩ :: ⟨(some 5), none, (.mv (.t 4))⟩ :: ⟨none, none, .kp [0, 5]⟩ :: ⟨(some 6), (some (5, true)), (.mv (.t 0))⟩ :: ⟨(some 7), (some (5, true)), (.nilck (.t 6))⟩ :: vc_pack_Reader_alive_o1_1
def vc_pack_Reader_alive_r1 : VCode := (.keep [0] (.seq (.region false vc_pack_Reader_alive_o1) (.keep [2] .ret)))
def vc_pack_Reader_alive_o2 : List VO := ⟨(some 2), none, (.mv (.c (.val (.bool false))))⟩ :: []
def vc_pack_Reader_alive : VCode := (.seq (.region false vc_pack_Reader_alive_o2) vc_pack_Reader_alive_r1)
def rs_pack_Reader_alive : List RV := [(.t 2)]
theorem comp_pack_Reader_alive : ccode Try.prog (Try.f133.body.getD .skip) = some (strip vc_pack_Reader_alive) := by kernel_rfl
theorem code_pack_Reader_alive : IsCode Try.prog id_pack_Reader_alive 18 vc_pack_Reader_alive rs_pack_Reader_alive := ⟨_, _, Try.func133, by kernel_rfl, rfl, comp_pack_Reader_alive, by kernel_rfl, by kernel_rfl, rfl⟩

/- (usher/pack.Reader).Fail -/
def vc_pack_Reader_Fail_o1_1 : List VO := ⟨none, none, (.store 1 (.t 14) (.t 12))⟩ :: ⟨none, none, .kp [11]⟩ :: ⟨(some 15), none, (.nilck (.t 11))⟩ :: ⟨(some 16), none, (.fld 0 (.t 15))⟩ :: ⟨none, none, .kp [16]⟩ :: ⟨none, none, (.store 1 (.t 16) (.c (.val (.slice none 0 0))))⟩ :: []
def vc_pack_Reader_Fail_o1 : List VO := ⟨(some 10), none, (.mv (.t 0))⟩ :: ⟨(some 11), none, (.mv (.t 0))⟩ :: ⟨(some 12), none, (.mv (.t 1))⟩ :: ⟨none, none, .kp [10, 11, 12]⟩ :: ⟨(some 13), none, (.nilck (.t 10))⟩ :: ⟨(some 14), none, (.fld 1 (.t 13))⟩ :: ⟨none, none, .kp [11, 12, 14]⟩ :: vc_pack_Reader_Fail_o1_1
def vc_pack_Reader_Fail_r1 : VCode := (.keep [0, 1, 9] (.cond (.t 9) (.region false vc_pack_Reader_Fail_o1) .skip))
def vc_pack_Reader_Fail_o2_1 : List VO := ⟨(some 9), none, (.pick (.t 6) (.t 8) (.c (.val (.bool false))))⟩ :: []
def vc_pack_Reader_Fail_o2 : List VO := ⟨(some 4), none, (.mv (.t 0))⟩ :: ⟨(some 5), none, (.call 133 [] [(.t 4)])⟩ :: ⟨(some 6), none, (.mv (.t 5))⟩ :: ⟨none, none, .kp [0, 1, 6]⟩ :: ⟨(some 7), (some (6, true)), (.mv (.t 1))⟩ :: ⟨(some 8), (some (6, true)), (.bin .neq (.t 7) (.c (.val (.int .i64 0))))⟩ :: vc_pack_Reader_Fail_o2_1
def vc_pack_Reader_Fail : VCode := (.seq (.region false vc_pack_Reader_Fail_o2) vc_pack_Reader_Fail_r1)
def rs_pack_Reader_Fail : List RV := []
theorem comp_pack_Reader_Fail : ccode Try.prog (Try.f134.body.getD .skip) = some (strip vc_pack_Reader_Fail) := by kernel_rfl
theorem code_pack_Reader_Fail : IsCode Try.prog id_pack_Reader_Fail 17 vc_pack_Reader_Fail rs_pack_Reader_Fail := ⟨_, _, Try.func134, by kernel_rfl, rfl, comp_pack_Reader_Fail, by kernel_rfl, by kernel_rfl, rfl⟩

/- (usher/pack.Reader).bytes -/
def vc_pack_Reader_bytes_o1 : List VO := ⟨(some 34), none, (.mv (.t 5))⟩ :: ⟨(some 4), none, (.mv (.t 34))⟩ :: []
def vc_pack_Reader_bytes_r1 : VCode := (.keep [5] (.seq (.region false vc_pack_Reader_bytes_o1) (.keep [4] .ret)))
def vc_pack_Reader_bytes_o2_1 : List VO := ⟨(some 30), none, (.mv (.t 1))⟩ :: ⟨(some 31), none, (.cut 1 (.t 29) (some (.t 30)) none none)⟩ :: ⟨none, none, .kp [5, 25, 31]⟩ :: ⟨(some 32), none, (.nilck (.t 25))⟩ :: ⟨(some 33), none, (.fld 0 (.t 32))⟩ :: ⟨none, none, .kp [5, 31, 33]⟩ :: ⟨none, none, (.store 1 (.t 33) (.t 31))⟩ :: []
def vc_pack_Reader_bytes_o2 : List VO := ⟨(some 25), none, (.mv (.t 0))⟩ :: ⟨(some 26), none, (.mv (.t 0))⟩ :: ⟨(some 27), none, (.nilck (.t 26))⟩ :: ⟨none, none, .kp [1, 5, 25, 27]⟩ :: ⟨(some 28), none, (.fld 0 (.t 27))⟩ :: ⟨(some 29), none, (.load false 1 (.t 28))⟩ :: ⟨none, none, .kp [1, 5, 25, 29]⟩ :: vc_pack_Reader_bytes_o2_1
def vc_pack_Reader_bytes_r2 : VCode := (.keep [0, 1, 5] (.seq (.region false vc_pack_Reader_bytes_o2) vc_pack_Reader_bytes_r1))
def vc_pack_Reader_bytes_o3_1 : List VO := ⟨(some 23), none, (.mv (.t 1))⟩ :: ⟨(some 24), none, (.cut 1 (.t 21) none (some (.t 22)) (some (.t 23)))⟩ :: ⟨none, none, .kp [0, 1, 24]⟩ :: ⟨(some 5), none, (.mv (.t 24))⟩ :: []
def vc_pack_Reader_bytes_o3 : List VO := ⟨(some 18), none, (.mv (.t 0))⟩ :: ⟨(some 19), none, (.nilck (.t 18))⟩ :: ⟨(some 20), none, (.fld 0 (.t 19))⟩ :: ⟨none, none, .kp [0, 1, 20]⟩ :: ⟨(some 21), none, (.load false 1 (.t 20))⟩ :: ⟨(some 22), none, (.mv (.t 1))⟩ :: vc_pack_Reader_bytes_o3_1
def vc_pack_Reader_bytes_r3 : VCode := (.keep [0, 1] (.seq (.region false vc_pack_Reader_bytes_o3) vc_pack_Reader_bytes_r2))
def vc_pack_Reader_bytes_o4 : List VO := ⟨(some 4), none, (.mv (.c (.val (.slice none 0 0))))⟩ :: []
def vc_pack_Reader_bytes_r4 : VCode := (.keep [] (.seq (.region false vc_pack_Reader_bytes_o4) (.keep [4] .ret)))
def vc_pack_Reader_bytes_o5 : List VO := ⟨(some 16), none, (.mv (.t 0))⟩ :: ⟨(some 17), none, (.call 134 [] [(.t 16), (.c (.val (.int .i64 4)))])⟩ :: []
def vc_pack_Reader_bytes_c5 : VCode := (.seq (.region false vc_pack_Reader_bytes_o5) vc_pack_Reader_bytes_r4)
def vc_pack_Reader_bytes_r6 : VCode := (.keep [0, 1, 15] (.cond (.t 15) vc_pack_Reader_bytes_c5 .skip))
def vc_pack_Reader_bytes_o6_1 : List VO := ⟨(some 14), none, (.len (.t 13))⟩ :: ⟨none, none, .kp [0, 1, 9, 14]⟩ :: ⟨(some 15), none, (.bin .gtr (.t 9) (.t 14))⟩ :: []
def vc_pack_Reader_bytes_o6 : List VO := ⟨(some 9), none, (.mv (.t 1))⟩ :: ⟨(some 10), none, (.mv (.t 0))⟩ :: ⟨(some 11), none, (.nilck (.t 10))⟩ :: ⟨(some 12), none, (.fld 0 (.t 11))⟩ :: ⟨none, none, .kp [0, 1, 9, 12]⟩ :: ⟨(some 13), none, (.load false 1 (.t 12))⟩ :: vc_pack_Reader_bytes_o6_1
def vc_pack_Reader_bytes_r7 : VCode := (.keep [0, 1] (.seq (.seq (.region false vc_pack_Reader_bytes_o6) vc_pack_Reader_bytes_r6) vc_pack_Reader_bytes_r3))
def vc_pack_Reader_bytes_o7 : List VO := ⟨(some 4), none, (.mv (.c (.val (.slice none 0 0))))⟩ :: []
def vc_pack_Reader_bytes_c8 : VCode := (.seq (.region false vc_pack_Reader_bytes_o7) (.keep [4] .ret))
def vc_pack_Reader_bytes_r9 : VCode := (.keep [0, 1, 8] (.cond (.t 8) vc_pack_Reader_bytes_c8 .skip))
def vc_pack_Reader_bytes_o8 : List VO := ⟨(some 6), none, (.mv (.t 0))⟩ :: ⟨(some 7), none, (.call 133 [] [(.t 6)])⟩ :: ⟨(some 8), none, (.un .not (.t 7))⟩ :: []
def vc_pack_Reader_bytes_r10 : VCode := (.keep [0, 1] (.seq (.seq (.region false vc_pack_Reader_bytes_o8) vc_pack_Reader_bytes_r9) vc_pack_Reader_bytes_r7))
def vc_pack_Reader_bytes_o9 : List VO := ⟨(some 4), none, (.mv (.c (.val (.slice none 0 0))))⟩ :: []
def vc_pack_Reader_bytes : VCode := (.seq (.region false vc_pack_Reader_bytes_o9) vc_pack_Reader_bytes_r10)
def rs_pack_Reader_bytes : List RV := [(.t 4)]
theorem comp_pack_Reader_bytes : ccode Try.prog (Try.f135.body.getD .skip) = some (strip vc_pack_Reader_bytes) := by kernel_rfl
theorem code_pack_Reader_bytes : IsCode Try.prog id_pack_Reader_bytes 35 vc_pack_Reader_bytes rs_pack_Reader_bytes := ⟨_, _, Try.func135, by kernel_rfl, rfl, comp_pack_Reader_bytes, by kernel_rfl, by kernel_rfl, rfl⟩

/- (usher/pack.Reader).Left -/
def vc_pack_Reader_Left_o1_1 : List VO := ⟨(some 2), none, (.mv (.t 9))⟩ :: []
def vc_pack_Reader_Left_o1 : List VO := ⟨(some 5), none, (.mv (.t 0))⟩ :: ⟨(some 6), none, (.nilck (.t 5))⟩ :: ⟨none, none, .kp [6]⟩ :: ⟨(some 7), none, (.fld 0 (.t 6))⟩ :: ⟨(some 8), none, (.load false 1 (.t 7))⟩ :: ⟨none, none, .kp [8]⟩ :: ⟨(some 9), none, (.len (.t 8))⟩ :: vc_pack_Reader_Left_o1_1
def vc_pack_Reader_Left_r1 : VCode := (.keep [0] (.seq (.region false vc_pack_Reader_Left_o1) (.keep [2] .ret)))
def vc_pack_Reader_Left_o2 : List VO := ⟨(some 2), none, (.mv (.c (.val (.int .i64 0))))⟩ :: []
def vc_pack_Reader_Left_c2 : VCode := (.seq (.region false vc_pack_Reader_Left_o2) (.keep [2] .ret))
def vc_pack_Reader_Left_r3 : VCode := (.keep [0, 4] (.cond (.t 4) vc_pack_Reader_Left_c2 .skip))
def vc_pack_Reader_Left_o3 : List VO := ⟨(some 3), none, (.mv (.t 0))⟩ :: ⟨(some 4), none, (.isnil .p false (.t 3))⟩ :: []
def vc_pack_Reader_Left_r4 : VCode := (.keep [0] (.seq (.seq (.region false vc_pack_Reader_Left_o3) vc_pack_Reader_Left_r3) vc_pack_Reader_Left_r1))
def vc_pack_Reader_Left_o4 : List VO := ⟨(some 2), none, (.mv (.c (.val (.int .i64 0))))⟩ :: []
def vc_pack_Reader_Left : VCode := (.seq (.region false vc_pack_Reader_Left_o4) vc_pack_Reader_Left_r4)
def rs_pack_Reader_Left : List RV := [(.t 2)]
theorem comp_pack_Reader_Left : ccode Try.prog (Try.f136.body.getD .skip) = some (strip vc_pack_Reader_Left) := by kernel_rfl
theorem code_pack_Reader_Left : IsCode Try.prog id_pack_Reader_Left 10 vc_pack_Reader_Left rs_pack_Reader_Left := ⟨_, _, Try.func136, by kernel_rfl, rfl, comp_pack_Reader_Left, by kernel_rfl, by kernel_rfl, rfl⟩

/- usher/pack.Int -/
def vc_pack_Int_o1_1 : List VO := ⟨(some 4), none, (.mv (.t 9))⟩ :: []
def vc_pack_Int_o1 : List VO := ⟨(some 5), none, (.mv (.t 0))⟩ :: ⟨(some 6), none, (.mv (.t 1))⟩ :: ⟨none, none, .kp [5, 6]⟩ :: ⟨(some 7), none, (.cvInt .u64 (.t 6))⟩ :: ⟨(some 8), none, (.bin .xor (.t 7) (.c (.val (.int .u64 9223372036854775808))))⟩ :: ⟨none, none, .kp [5, 8]⟩ :: ⟨(some 9), none, (.call 149 [] [(.t 5), (.t 8)])⟩ :: ⟨none, none, .kp [9]⟩ :: vc_pack_Int_o1_1
def vc_pack_Int_r1 : VCode := (.keep [0, 1] (.seq (.region false vc_pack_Int_o1) (.keep [4] .ret)))
def vc_pack_Int_o2 : List VO := ⟨(some 4), none, (.mv (.c (.val (.slice none 0 0))))⟩ :: []
def vc_pack_Int : VCode := (.seq (.region false vc_pack_Int_o2) vc_pack_Int_r1)
def rs_pack_Int : List RV := [(.t 4)]
theorem comp_pack_Int : ccode Try.prog (Try.f148.body.getD .skip) = some (strip vc_pack_Int) := by kernel_rfl
theorem code_pack_Int : IsCode Try.prog id_pack_Int 10 vc_pack_Int rs_pack_Int := ⟨_, _, Try.func148, by kernel_rfl, rfl, comp_pack_Int, by kernel_rfl, by kernel_rfl, rfl⟩

/- usher/pack.Bits -/
def vc_pack_Bits_o1 : List VO := ⟨(some 5), none, (.mv (.t 0))⟩ :: ⟨(some 6), none, (.call 127 [] [(.t 5), (.c (.val (.int .i64 8)))])⟩ :: ⟨none, none, .kp [1, 6]⟩ :: ⟨(some 7), none, (.mv (.t 1))⟩ :: ⟨(some 8), none, (.call 129 [true] [(.t 6), (.t 7), (.c (.val (.int .i64 8)))])⟩ :: ⟨none, none, .kp [8]⟩ :: ⟨(some 4), none, (.mv (.t 8))⟩ :: []
def vc_pack_Bits_r1 : VCode := (.keep [0, 1] (.seq (.region false vc_pack_Bits_o1) (.keep [4] .ret)))
def vc_pack_Bits_o2 : List VO := ⟨(some 4), none, (.mv (.c (.val (.slice none 0 0))))⟩ :: []
def vc_pack_Bits : VCode := (.seq (.region false vc_pack_Bits_o2) vc_pack_Bits_r1)
def rs_pack_Bits : List RV := [(.t 4)]
theorem comp_pack_Bits : ccode Try.prog (Try.f149.body.getD .skip) = some (strip vc_pack_Bits) := by kernel_rfl
theorem code_pack_Bits : IsCode Try.prog id_pack_Bits 9 vc_pack_Bits rs_pack_Bits := ⟨_, _, Try.func149, by kernel_rfl, rfl, comp_pack_Bits, by kernel_rfl, by kernel_rfl, rfl⟩

/- (usher/pack.Reader).Int -/
def vc_pack_Reader_Int_o1 : List VO := ⟨(some 9), none, (.mv (.t 3))⟩ :: ⟨(some 10), none, (.bin .xor (.t 9) (.c (.val (.int .u64 9223372036854775808))))⟩ :: ⟨none, none, .kp [10]⟩ :: ⟨(some 11), none, (.cvInt .i64 (.t 10))⟩ :: ⟨(some 2), none, (.mv (.t 11))⟩ :: []
def vc_pack_Reader_Int_r1 : VCode := (.keep [3] (.seq (.region false vc_pack_Reader_Int_o1) (.keep [2] .ret)))
def vc_pack_Reader_Int_o2 : List VO := ⟨(some 2), none, (.mv (.c (.val (.int .i64 0))))⟩ :: []
def vc_pack_Reader_Int_c2 : VCode := (.seq (.region false vc_pack_Reader_Int_o2) (.keep [2] .ret))
def vc_pack_Reader_Int_r3 : VCode := (.keep [3, 8] (.cond (.t 8) vc_pack_Reader_Int_c2 .skip))
def vc_pack_Reader_Int_o3 : List VO := ⟨(some 6), none, (.mv (.t 0))⟩ :: ⟨(some 7), none, (.call 133 [] [(.t 6)])⟩ :: ⟨none, none, .kp [3, 7]⟩ :: ⟨(some 8), none, (.un .not (.t 7))⟩ :: []
def vc_pack_Reader_Int_r4 : VCode := (.keep [0, 3] (.seq (.seq (.region false vc_pack_Reader_Int_o3) vc_pack_Reader_Int_r3) vc_pack_Reader_Int_r1))
def vc_pack_Reader_Int_o4 : List VO := ⟨(some 4), none, (.mv (.t 0))⟩ :: ⟨(some 5), none, (.call 131 [] [(.t 4), (.c (.val (.int .i64 8)))])⟩ :: ⟨(some 3), none, (.mv (.t 5))⟩ :: []
def vc_pack_Reader_Int_r5 : VCode := (.keep [0] (.seq (.region false vc_pack_Reader_Int_o4) vc_pack_Reader_Int_r4))
def vc_pack_Reader_Int_o5 : List VO := ⟨(some 2), none, (.mv (.c (.val (.int .i64 0))))⟩ :: []
def vc_pack_Reader_Int : VCode := (.seq (.region false vc_pack_Reader_Int_o5) vc_pack_Reader_Int_r5)
def rs_pack_Reader_Int : List RV := [(.t 2)]
theorem comp_pack_Reader_Int : ccode Try.prog (Try.f153.body.getD .skip) = some (strip vc_pack_Reader_Int) := by kernel_rfl
theorem code_pack_Reader_Int : IsCode Try.prog id_pack_Reader_Int 12 vc_pack_Reader_Int rs_pack_Reader_Int := ⟨_, _, Try.func153, by kernel_rfl, rfl, comp_pack_Reader_Int, by kernel_rfl, by kernel_rfl, rfl⟩

/- (usher/pack.Reader).Bits -/
def vc_pack_Reader_Bits_o1 : List VO := ⟨(some 3), none, (.mv (.t 0))⟩ :: ⟨(some 4), none, (.call 131 [] [(.t 3), (.c (.val (.int .i64 8)))])⟩ :: ⟨none, none, .kp [4]⟩ :: ⟨(some 2), none, (.mv (.t 4))⟩ :: []
def vc_pack_Reader_Bits_r1 : VCode := (.keep [0] (.seq (.region false vc_pack_Reader_Bits_o1) (.keep [2] .ret)))
def vc_pack_Reader_Bits_o2 : List VO := ⟨(some 2), none, (.mv (.c (.val (.int .u64 0))))⟩ :: []
def vc_pack_Reader_Bits : VCode := (.seq (.region false vc_pack_Reader_Bits_o2) vc_pack_Reader_Bits_r1)
def rs_pack_Reader_Bits : List RV := [(.t 2)]
theorem comp_pack_Reader_Bits : ccode Try.prog (Try.f154.body.getD .skip) = some (strip vc_pack_Reader_Bits) := by kernel_rfl
theorem code_pack_Reader_Bits : IsCode Try.prog id_pack_Reader_Bits 5 vc_pack_Reader_Bits rs_pack_Reader_Bits := ⟨_, _, Try.func154, by kernel_rfl, rfl, comp_pack_Reader_Bits, by kernel_rfl, by kernel_rfl, rfl⟩

end Go.Proofs.Ytlodbaikbgbhjaa
