/- The code of functions, for the abstract machine, and that it is theirs. Printed by vc2.py. -/
import Derived.Test.YtlodbaikbgbhjaaIds
set_option linter.unusedVariables false
set_option maxRecDepth 100000
namespace Go.Proofs.Ytlodbaikbgbhjaa
open Go Go.Vm

/- usher/usherref05.Same -/
def vc_ref05_Same_o1 : List VO := ⟨(some 4), none, (.mv (.c (.val (.bool true))))⟩ :: []
def vc_ref05_Same_r1 : VCode := (.keep [] (.seq (.region false vc_ref05_Same_o1) (.keep [4] .ret)))
def vc_ref05_Same_o2 : List VO := ⟨(some 46), none, (.mv (.t 5))⟩ :: ⟨(some 47), none, (.bin .add (.t 46) (.c (.val (.int .i64 1))))⟩ :: ⟨none, none, .kp [2, 3, 47]⟩ :: ⟨(some 5), none, (.mv (.t 47))⟩ :: []
def vc_ref05_Same_r2 : VCode := (.keep [2, 3, 5] (.region false vc_ref05_Same_o2))
def vc_ref05_Same_o3 : List VO := ⟨(some 4), none, (.mv (.c (.val (.bool false))))⟩ :: []
def vc_ref05_Same_r3 : VCode := (.keep [2, 3, 5, 59] (.cond (.t 59) (.seq (.region false vc_ref05_Same_o3) (.keep [4] .ret)) .skip))
def vc_ref05_Same_d4 : DT := (.op true [] ⟨(some 56), none, (.idx 5 (.t 54) (.t 55))⟩ (.op true [] ⟨(some 57), none, (.load true 5 (.t 56))⟩ (.op false [2, 3] ⟨(some 58), none, (.call 18 [] [(.t 52), (.t 57)])⟩ (.op true [] ⟨(some 59), none, (.un .not (.t 58))⟩ .done))))
def vc_ref05_Same_d5 : DT := (.op true [] ⟨(some 52), none, (.load true 5 (.t 51))⟩ (.op true [3] ⟨(some 53), none, (.fld 4 (.t 3))⟩ (.op true [3] ⟨(some 54), none, (.load false 1 (.t 53))⟩ (.op true [] ⟨(some 55), none, (.mv (.t 5))⟩ vc_ref05_Same_d4))))
def vc_ref05_Same_d6 : DT := (.op true [2] ⟨(some 48), none, (.fld 4 (.t 2))⟩ (.op true [2] ⟨(some 49), none, (.load false 1 (.t 48))⟩ (.op true [] ⟨(some 50), none, (.mv (.t 5))⟩ (.op true [] ⟨(some 51), none, (.idx 5 (.t 49) (.t 50))⟩ vc_ref05_Same_d5))))
def vc_ref05_Same_c4 : VCode := (.seq (.draws [2, 3, 5, 59] vc_ref05_Same_d6) vc_ref05_Same_r3)
def vc_ref05_Same_r5 : VCode := (.keep [2, 3, 5] (.seq (.block 1 vc_ref05_Same_c4) vc_ref05_Same_r2))
def vc_ref05_Same_r6 : VCode := (.keep [2, 3, 5, 45] (.cond (.t 45) .skip (.exit 0)))
def vc_ref05_Same_o7 : List VO := ⟨(some 41), none, (.mv (.t 5))⟩ :: ⟨(some 42), none, (.fld 4 (.t 2))⟩ :: ⟨(some 43), none, (.load false 1 (.t 42))⟩ :: ⟨(some 44), none, (.len (.t 43))⟩ :: ⟨none, none, .kp [2, 3, 5, 41, 44]⟩ :: ⟨(some 45), none, (.bin .lss (.t 41) (.t 44))⟩ :: []
def vc_ref05_Same_l7 : VCode := (.seq (.seq (.region false vc_ref05_Same_o7) vc_ref05_Same_r6) vc_ref05_Same_r5)
def vc_ref05_Same_r8 : VCode := (.keep [2, 3, 5] (.block 0 (.loop (.keep [2, 3, 5] vc_ref05_Same_l7))))
def vc_ref05_Same_o8 : List VO := ⟨(some 5), none, (.mv (.c (.val (.int .i64 0))))⟩ :: []
def vc_ref05_Same_r9 : VCode := (.keep [2, 3] (.seq (.seq (.region false vc_ref05_Same_o8) vc_ref05_Same_r8) vc_ref05_Same_r1))
def vc_ref05_Same_o9 : List VO := ⟨(some 4), none, (.mv (.c (.val (.bool false))))⟩ :: []
def vc_ref05_Same_r10 : VCode := (.keep [2, 3, 40] (.cond (.t 40) (.seq (.region false vc_ref05_Same_o9) (.keep [4] .ret)) .skip))
def vc_ref05_Same_o10_6 : List VO := ⟨(some 36), (some (32, false)), (.fld 4 (.t 3))⟩ :: ⟨(some 37), (some (32, false)), (.load false 1 (.t 36))⟩ :: ⟨none, none, .kp [2, 3, 32, 35, 37]⟩ :: ⟨(some 38), (some (32, false)), (.len (.t 37))⟩ :: ⟨(some 39), (some (32, false)), (.bin .neq (.t 35) (.t 38))⟩ :: ⟨none, none, .kp [2, 3, 32, 39]⟩ :: ⟨(some 40), none, (.pick (.t 32) (.c (.val (.bool true))) (.t 39))⟩ :: []
def vc_ref05_Same_o10_5 : List VO := ⟨(some 31), none, (.pick (.t 25) (.c (.val (.bool true))) (.t 30))⟩ :: ⟨none, none, .kp [2, 3, 31]⟩ :: ⟨(some 32), none, (.mv (.t 31))⟩ :: ⟨(some 33), (some (32, false)), (.fld 4 (.t 2))⟩ :: ⟨(some 34), (some (32, false)), (.load false 1 (.t 33))⟩ :: ⟨none, none, .kp [2, 3, 32, 34]⟩ :: ⟨(some 35), (some (32, false)), (.len (.t 34))⟩ :: vc_ref05_Same_o10_6
def vc_ref05_Same_o10_4 : List VO := ⟨(some 26), (some (25, false)), (.fld 3 (.t 2))⟩ :: ⟨(some 27), (some (25, false)), (.load false 1 (.t 26))⟩ :: ⟨none, none, .kp [2, 3, 25, 27]⟩ :: ⟨(some 28), (some (25, false)), (.fld 3 (.t 3))⟩ :: ⟨(some 29), (some (25, false)), (.load false 1 (.t 28))⟩ :: ⟨(some 30), (some (25, false)), (.bin .neq (.t 27) (.t 29))⟩ :: ⟨none, none, .kp [2, 3, 25, 30]⟩ :: vc_ref05_Same_o10_5
def vc_ref05_Same_o10_3 : List VO := ⟨(some 21), (some (18, false)), (.fld 2 (.t 3))⟩ :: ⟨(some 22), (some (18, false)), (.load false 1 (.t 21))⟩ :: ⟨(some 23), (some (18, false)), (.bin .neq (.t 20) (.t 22))⟩ :: ⟨none, none, .kp [2, 3, 18, 23]⟩ :: ⟨(some 24), none, (.pick (.t 18) (.c (.val (.bool true))) (.t 23))⟩ :: ⟨none, none, .kp [2, 3, 24]⟩ :: ⟨(some 25), none, (.mv (.t 24))⟩ :: vc_ref05_Same_o10_4
def vc_ref05_Same_o10_2 : List VO := ⟨(some 16), (some (11, false)), (.bin .neq (.t 13) (.t 15))⟩ :: ⟨none, none, .kp [2, 3, 11, 16]⟩ :: ⟨(some 17), none, (.pick (.t 11) (.c (.val (.bool true))) (.t 16))⟩ :: ⟨none, none, .kp [2, 3, 17]⟩ :: ⟨(some 18), none, (.mv (.t 17))⟩ :: ⟨(some 19), (some (18, false)), (.fld 2 (.t 2))⟩ :: ⟨(some 20), (some (18, false)), (.load false 1 (.t 19))⟩ :: ⟨none, none, .kp [2, 3, 18, 20]⟩ :: vc_ref05_Same_o10_3
def vc_ref05_Same_o10_1 : List VO := ⟨(some 11), none, (.mv (.t 10))⟩ :: ⟨(some 12), (some (11, false)), (.fld 1 (.t 2))⟩ :: ⟨(some 13), (some (11, false)), (.load false 1 (.t 12))⟩ :: ⟨none, none, .kp [2, 3, 11, 13]⟩ :: ⟨(some 14), (some (11, false)), (.fld 1 (.t 3))⟩ :: ⟨(some 15), (some (11, false)), (.load false 1 (.t 14))⟩ :: vc_ref05_Same_o10_2
def vc_ref05_Same_o10 : List VO := ⟨(some 6), none, (.fld 0 (.t 2))⟩ :: ⟨(some 7), none, (.load false 1 (.t 6))⟩ :: ⟨(some 8), none, (.fld 0 (.t 3))⟩ :: ⟨(some 9), none, (.load false 1 (.t 8))⟩ :: ⟨none, none, .kp [2, 3, 7, 9]⟩ :: ⟨(some 10), none, (.bin .neq (.t 7) (.t 9))⟩ :: ⟨none, none, .kp [2, 3, 10]⟩ :: vc_ref05_Same_o10_1
def vc_ref05_Same_r11 : VCode := (.keep [2, 3] (.seq (.seq (.region false vc_ref05_Same_o10) vc_ref05_Same_r10) vc_ref05_Same_r9))
def vc_ref05_Same_o11 : List VO := ⟨(some 2), none, (.box 25 (.t 0))⟩ :: ⟨(some 3), none, (.box 25 (.t 1))⟩ :: ⟨none, none, .kp [2, 3]⟩ :: ⟨(some 4), none, (.mv (.c (.val (.bool false))))⟩ :: []
def vc_ref05_Same : VCode := (.seq (.region false vc_ref05_Same_o11) vc_ref05_Same_r11)
def rs_ref05_Same : List RV := [(.t 4)]
theorem comp_ref05_Same : ccode Try.prog (Try.f18.body.getD .skip) = some (strip vc_ref05_Same) := by kernel_rfl
theorem code_ref05_Same : IsCode Try.prog id_ref05_Same 60 vc_ref05_Same rs_ref05_Same := ⟨_, _, Try.func18, by kernel_rfl, rfl, comp_ref05_Same, by kernel_rfl, by kernel_rfl, rfl⟩

/- usher/usherref05.Int -/
def vc_ref05_Int_o1 : List VO := ⟨(some 3), none, (.mv (.t 0))⟩ :: ⟨(some 4), none, (.build [(.val (.int .i64 0)), (.val (.int .i64 0)), (.val (.int .u64 0)), (.val (.string ⟨#[]⟩)), (.val (.slice none 0 0))] [(0, (1, (.c (.val (.int .i64 1))))), (1, (1, (.t 3)))])⟩ :: ⟨none, none, .kp [2, 4]⟩ :: ⟨none, none, (.store 5 (.t 2) (.t 4))⟩ :: []
def vc_ref05_Int_r1 : VCode := (.keep [0, 2] (.seq (.region false vc_ref05_Int_o1) (.keep [2] .ret)))
def vc_ref05_Int_o2 : List VO := ⟨(some 2), none, (.alloc 25 [(.val (.int .i64 0)), (.val (.int .i64 0)), (.val (.int .u64 0)), (.val (.string ⟨#[]⟩)), (.val (.slice none 0 0))])⟩ :: []
def vc_ref05_Int : VCode := (.seq (.region false vc_ref05_Int_o2) vc_ref05_Int_r1)
def rs_ref05_Int : List RV := [(.c 2 true 5)]
theorem comp_ref05_Int : ccode Try.prog (Try.f20.body.getD .skip) = some (strip vc_ref05_Int) := by kernel_rfl
theorem code_ref05_Int : IsCode Try.prog id_ref05_Int 5 vc_ref05_Int rs_ref05_Int := ⟨_, _, Try.func20, by kernel_rfl, rfl, comp_ref05_Int, by kernel_rfl, by kernel_rfl, rfl⟩

/- usher/usherref05.Float -/
def vc_ref05_Float_o1 : List VO := ⟨(some 3), none, (.mv (.t 0))⟩ :: ⟨(some 4), none, (.call 61 [] [(.t 3)])⟩ :: ⟨none, none, .kp [2, 4]⟩ :: ⟨(some 5), none, (.build [(.val (.int .i64 0)), (.val (.int .i64 0)), (.val (.int .u64 0)), (.val (.string ⟨#[]⟩)), (.val (.slice none 0 0))] [(0, (1, (.c (.val (.int .i64 2))))), (2, (1, (.t 4)))])⟩ :: ⟨none, none, (.store 5 (.t 2) (.t 5))⟩ :: []
def vc_ref05_Float_r1 : VCode := (.keep [0, 2] (.seq (.region false vc_ref05_Float_o1) (.keep [2] .ret)))
def vc_ref05_Float_o2 : List VO := ⟨(some 2), none, (.alloc 25 [(.val (.int .i64 0)), (.val (.int .i64 0)), (.val (.int .u64 0)), (.val (.string ⟨#[]⟩)), (.val (.slice none 0 0))])⟩ :: []
def vc_ref05_Float : VCode := (.seq (.region false vc_ref05_Float_o2) vc_ref05_Float_r1)
def rs_ref05_Float : List RV := [(.c 2 true 5)]
theorem comp_ref05_Float : ccode Try.prog (Try.f22.body.getD .skip) = some (strip vc_ref05_Float) := by kernel_rfl
theorem code_ref05_Float : IsCode Try.prog id_ref05_Float 6 vc_ref05_Float rs_ref05_Float := ⟨_, _, Try.func22, by kernel_rfl, rfl, comp_ref05_Float, by kernel_rfl, by kernel_rfl, rfl⟩

/- usher/usherref05.Text -/
def vc_ref05_Text_o1 : List VO := ⟨(some 3), none, (.mv (.t 0))⟩ :: ⟨(some 4), none, (.build [(.val (.int .i64 0)), (.val (.int .i64 0)), (.val (.int .u64 0)), (.val (.string ⟨#[]⟩)), (.val (.slice none 0 0))] [(0, (1, (.c (.val (.int .i64 3))))), (3, (1, (.t 3)))])⟩ :: ⟨none, none, .kp [2, 4]⟩ :: ⟨none, none, (.store 5 (.t 2) (.t 4))⟩ :: []
def vc_ref05_Text_r1 : VCode := (.keep [0, 2] (.seq (.region false vc_ref05_Text_o1) (.keep [2] .ret)))
def vc_ref05_Text_o2 : List VO := ⟨(some 2), none, (.alloc 25 [(.val (.int .i64 0)), (.val (.int .i64 0)), (.val (.int .u64 0)), (.val (.string ⟨#[]⟩)), (.val (.slice none 0 0))])⟩ :: []
def vc_ref05_Text : VCode := (.seq (.region false vc_ref05_Text_o2) vc_ref05_Text_r1)
def rs_ref05_Text : List RV := [(.c 2 true 5)]
theorem comp_ref05_Text : ccode Try.prog (Try.f24.body.getD .skip) = some (strip vc_ref05_Text) := by kernel_rfl
theorem code_ref05_Text : IsCode Try.prog id_ref05_Text 5 vc_ref05_Text rs_ref05_Text := ⟨_, _, Try.func24, by kernel_rfl, rfl, comp_ref05_Text, by kernel_rfl, by kernel_rfl, rfl⟩

/- usher/usherref05.List -/
def vc_ref05_List_o1 : List VO := ⟨(some 3), none, (.mv (.t 0))⟩ :: ⟨(some 4), none, (.app 25 64 5 (.c (.val (.slice none 0 0))) (.t 3))⟩ :: ⟨none, none, .kp [2, 4]⟩ :: ⟨(some 5), none, (.build [(.val (.int .i64 0)), (.val (.int .i64 0)), (.val (.int .u64 0)), (.val (.string ⟨#[]⟩)), (.val (.slice none 0 0))] [(0, (1, (.c (.val (.int .i64 4))))), (4, (1, (.t 4)))])⟩ :: ⟨none, none, (.store 5 (.t 2) (.t 5))⟩ :: []
def vc_ref05_List_r1 : VCode := (.keep [0, 2] (.seq (.region false vc_ref05_List_o1) (.keep [2] .ret)))
def vc_ref05_List_o2 : List VO := ⟨(some 2), none, (.alloc 25 [(.val (.int .i64 0)), (.val (.int .i64 0)), (.val (.int .u64 0)), (.val (.string ⟨#[]⟩)), (.val (.slice none 0 0))])⟩ :: []
def vc_ref05_List : VCode := (.seq (.region false vc_ref05_List_o2) vc_ref05_List_r1)
def rs_ref05_List : List RV := [(.c 2 true 5)]
theorem comp_ref05_List : ccode Try.prog (Try.f26.body.getD .skip) = some (strip vc_ref05_List) := by kernel_rfl
theorem code_ref05_List : IsCode Try.prog id_ref05_List 6 vc_ref05_List rs_ref05_List := ⟨_, _, Try.func26, by kernel_rfl, rfl, comp_ref05_List, by kernel_rfl, by kernel_rfl, rfl⟩

/- usher/usherref05.Check -/
def vc_ref05_Check_o1 : List VO := ⟨(some 2), none, (.mv (.c (.val (.int .i64 0))))⟩ :: []
def vc_ref05_Check_r1 : VCode := (.keep [] (.seq (.region false vc_ref05_Check_o1) (.keep [2] .ret)))
def vc_ref05_Check_o2 : List VO := ⟨(some 2), none, (.mv (.c (.val (.int .i64 1))))⟩ :: []
def vc_ref05_Check_r2 : VCode := (.keep [11] (.cond (.t 11) (.seq (.region false vc_ref05_Check_o2) (.keep [2] .ret)) .skip))
def vc_ref05_Check_o3_1 : List VO := ⟨(some 8), (some (6, false)), (.call 64 [] [(.c (.val (.slice none 0 0))), (.t 7)])⟩ :: ⟨(some 9), (some (6, false)), (.len (.t 8))⟩ :: ⟨none, none, .kp [6, 9]⟩ :: ⟨(some 10), (some (6, false)), (.bin .gtr (.t 9) (.c (.val (.int .i64 1000))))⟩ :: ⟨(some 11), none, (.pick (.t 6) (.c (.val (.bool true))) (.t 10))⟩ :: []
def vc_ref05_Check_o3 : List VO := ⟨(some 3), none, (.load true 5 (.t 1))⟩ :: ⟨(some 4), none, (.call 63 [] [(.t 3), (.c (.val (.int .i64 4)))])⟩ :: ⟨(some 5), none, (.un .not (.t 4))⟩ :: ⟨none, none, .kp [1, 5]⟩ :: ⟨(some 6), none, (.mv (.t 5))⟩ :: ⟨(some 7), (some (6, false)), (.load true 5 (.t 1))⟩ :: ⟨none, none, .kp [6, 7]⟩ :: vc_ref05_Check_o3_1
def vc_ref05_Check_r3 : VCode := (.keep [1] (.seq (.seq (.region false vc_ref05_Check_o3) vc_ref05_Check_r2) vc_ref05_Check_r1))
def vc_ref05_Check_o4 : List VO := ⟨(some 1), none, (.box 25 (.t 0))⟩ :: ⟨(some 2), none, (.mv (.c (.val (.int .i64 0))))⟩ :: []
def vc_ref05_Check : VCode := (.seq (.region false vc_ref05_Check_o4) vc_ref05_Check_r3)
def rs_ref05_Check : List RV := [(.t 2)]
theorem comp_ref05_Check : ccode Try.prog (Try.f28.body.getD .skip) = some (strip vc_ref05_Check) := by kernel_rfl
theorem code_ref05_Check : IsCode Try.prog id_ref05_Check 12 vc_ref05_Check rs_ref05_Check := ⟨_, _, Try.func28, by kernel_rfl, rfl, comp_ref05_Check, by kernel_rfl, by kernel_rfl, rfl⟩

/- usher/usherref05.Order -/
def vc_ref05_Order_o1 : List VO := ⟨(some 97), none, (.mv (.t 5))⟩ :: ⟨(some 4), none, (.mv (.t 97))⟩ :: []
def vc_ref05_Order_r1 : VCode := (.keep [5] (.seq (.region false vc_ref05_Order_o1) (.keep [4] .ret)))
def vc_ref05_Order_o2_3 : List VO := ⟨(some 5), none, (.mv (.t 96))⟩ :: []
def vc_ref05_Order_o2_2 : List VO := ⟨(some 92), none, (.fld 4 (.t 3))⟩ :: ⟨none, none, .kp [88, 91, 92]⟩ :: ⟨(some 93), none, (.load false 1 (.t 92))⟩ :: ⟨(some 94), none, (.len (.t 93))⟩ :: ⟨none, none, .kp [88, 91, 94]⟩ :: ⟨(some 95), none, (.bin .gtr (.t 91) (.t 94))⟩ :: ⟨none, none, .kp [88, 95]⟩ :: ⟨(some 96), none, (.call 70 [] [(.t 88), (.t 95)])⟩ :: ⟨none, none, .kp [96]⟩ :: vc_ref05_Order_o2_3
def vc_ref05_Order_o2_1 : List VO := ⟨(some 87), none, (.len (.t 86))⟩ :: ⟨none, none, .kp [2, 3, 84, 87]⟩ :: ⟨(some 88), none, (.bin .lss (.t 84) (.t 87))⟩ :: ⟨none, none, .kp [2, 3, 88]⟩ :: ⟨(some 89), none, (.fld 4 (.t 2))⟩ :: ⟨(some 90), none, (.load false 1 (.t 89))⟩ :: ⟨none, none, .kp [3, 88, 90]⟩ :: ⟨(some 91), none, (.len (.t 90))⟩ :: vc_ref05_Order_o2_2
def vc_ref05_Order_o2 : List VO := ⟨(some 82), none, (.fld 4 (.t 2))⟩ :: ⟨(some 83), none, (.load false 1 (.t 82))⟩ :: ⟨(some 84), none, (.len (.t 83))⟩ :: ⟨none, none, .kp [2, 3, 84]⟩ :: ⟨(some 85), none, (.fld 4 (.t 3))⟩ :: ⟨(some 86), none, (.load false 1 (.t 85))⟩ :: vc_ref05_Order_o2_1
def vc_ref05_Order_r2 : VCode := (.keep [2, 3, 5, 81] (.cond (.t 81) (.region false vc_ref05_Order_o2) .skip))
def vc_ref05_Order_o3 : List VO := ⟨(some 80), none, (.mv (.t 5))⟩ :: ⟨(some 81), none, (.bin .eql (.t 80) (.c (.val (.int .i64 0))))⟩ :: []
def vc_ref05_Order_r3 : VCode := (.keep [2, 3, 5] (.seq (.seq (.region false vc_ref05_Order_o3) vc_ref05_Order_r2) vc_ref05_Order_r1))
def vc_ref05_Order_o4 : List VO := ⟨(some 67), none, (.mv (.t 6))⟩ :: ⟨(some 68), none, (.bin .add (.t 67) (.c (.val (.int .i64 1))))⟩ :: ⟨none, none, .kp [2, 3, 5, 68]⟩ :: ⟨(some 6), none, (.mv (.t 68))⟩ :: []
def vc_ref05_Order_r4 : VCode := (.keep [2, 3, 5, 6] (.region false vc_ref05_Order_o4))
def vc_ref05_Order_d5 : DT := (.op true [] ⟨(some 77), none, (.idx 5 (.t 75) (.t 76))⟩ (.op true [] ⟨(some 78), none, (.load true 5 (.t 77))⟩ (.op false [2, 3] ⟨(some 79), none, (.call 31 [] [(.t 73), (.t 78)])⟩ (.op true [] ⟨(some 5), none, (.mv (.t 79))⟩ .done))))
def vc_ref05_Order_d6 : DT := (.op true [] ⟨(some 73), none, (.load true 5 (.t 72))⟩ (.op true [3] ⟨(some 74), none, (.fld 4 (.t 3))⟩ (.op true [3] ⟨(some 75), none, (.load false 1 (.t 74))⟩ (.op true [] ⟨(some 76), none, (.mv (.t 6))⟩ vc_ref05_Order_d5))))
def vc_ref05_Order_d7 : DT := (.op true [2] ⟨(some 69), none, (.fld 4 (.t 2))⟩ (.op true [2] ⟨(some 70), none, (.load false 1 (.t 69))⟩ (.op true [] ⟨(some 71), none, (.mv (.t 6))⟩ (.op true [] ⟨(some 72), none, (.idx 5 (.t 70) (.t 71))⟩ vc_ref05_Order_d6))))
def vc_ref05_Order_r5 : VCode := (.keep [2, 3, 6] (.seq (.block 1 (.draws [2, 3, 5, 6] vc_ref05_Order_d7)) vc_ref05_Order_r4))
def vc_ref05_Order_r6 : VCode := (.keep [2, 3, 5, 6, 66] (.cond (.t 66) .skip (.exit 0)))
def vc_ref05_Order_o8_3 : List VO := ⟨(some 66), none, (.pick (.t 60) (.t 65) (.c (.val (.bool false))))⟩ :: []
def vc_ref05_Order_o8_2 : List VO := ⟨(some 61), (some (60, true)), (.mv (.t 6))⟩ :: ⟨(some 62), (some (60, true)), (.fld 4 (.t 3))⟩ :: ⟨(some 63), (some (60, true)), (.load false 1 (.t 62))⟩ :: ⟨none, none, .kp [2, 3, 5, 6, 60, 61, 63]⟩ :: ⟨(some 64), (some (60, true)), (.len (.t 63))⟩ :: ⟨(some 65), (some (60, true)), (.bin .lss (.t 61) (.t 64))⟩ :: ⟨none, none, .kp [2, 3, 5, 6, 60, 65]⟩ :: vc_ref05_Order_o8_3
def vc_ref05_Order_o8_1 : List VO := ⟨(some 56), (some (53, true)), (.load false 1 (.t 55))⟩ :: ⟨(some 57), (some (53, true)), (.len (.t 56))⟩ :: ⟨none, none, .kp [2, 3, 5, 6, 53, 54, 57]⟩ :: ⟨(some 58), (some (53, true)), (.bin .lss (.t 54) (.t 57))⟩ :: ⟨none, none, .kp [2, 3, 5, 6, 53, 58]⟩ :: ⟨(some 59), none, (.pick (.t 53) (.t 58) (.c (.val (.bool false))))⟩ :: ⟨none, none, .kp [2, 3, 5, 6, 59]⟩ :: ⟨(some 60), none, (.mv (.t 59))⟩ :: vc_ref05_Order_o8_2
def vc_ref05_Order_o8 : List VO := ⟨(some 51), none, (.mv (.t 5))⟩ :: ⟨(some 52), none, (.bin .eql (.t 51) (.c (.val (.int .i64 0))))⟩ :: ⟨(some 53), none, (.mv (.t 52))⟩ :: ⟨none, none, .kp [2, 3, 5, 6, 53]⟩ :: ⟨(some 54), (some (53, true)), (.mv (.t 6))⟩ :: ⟨(some 55), (some (53, true)), (.fld 4 (.t 2))⟩ :: vc_ref05_Order_o8_1
def vc_ref05_Order_l7 : VCode := (.seq (.seq (.region false vc_ref05_Order_o8) vc_ref05_Order_r6) vc_ref05_Order_r5)
def vc_ref05_Order_r8 : VCode := (.keep [2, 3, 5, 6] (.block 0 (.loop (.keep [2, 3, 5, 6] vc_ref05_Order_l7))))
def vc_ref05_Order_o9 : List VO := ⟨(some 6), none, (.mv (.c (.val (.int .i64 0))))⟩ :: []
def vc_ref05_Order_r9 : VCode := (.keep [2, 3, 5] (.seq (.seq (.region false vc_ref05_Order_o9) vc_ref05_Order_r8) vc_ref05_Order_r3))
def vc_ref05_Order_o10_2 : List VO := ⟨(some 50), none, (.call 70 [] [(.t 44), (.t 49)])⟩ :: ⟨none, none, .kp [2, 3, 50]⟩ :: ⟨(some 5), none, (.mv (.t 50))⟩ :: []
def vc_ref05_Order_o10_1 : List VO := ⟨(some 45), none, (.fld 3 (.t 2))⟩ :: ⟨(some 46), none, (.load false 1 (.t 45))⟩ :: ⟨(some 47), none, (.fld 3 (.t 3))⟩ :: ⟨(some 48), none, (.load false 1 (.t 47))⟩ :: ⟨none, none, .kp [2, 3, 44, 46, 48]⟩ :: ⟨(some 49), none, (.bin .gtr (.t 46) (.t 48))⟩ :: ⟨none, none, .kp [2, 3, 44, 49]⟩ :: vc_ref05_Order_o10_2
def vc_ref05_Order_o10 : List VO := ⟨(some 40), none, (.fld 3 (.t 2))⟩ :: ⟨(some 41), none, (.load false 1 (.t 40))⟩ :: ⟨(some 42), none, (.fld 3 (.t 3))⟩ :: ⟨(some 43), none, (.load false 1 (.t 42))⟩ :: ⟨none, none, .kp [2, 3, 41, 43]⟩ :: ⟨(some 44), none, (.bin .lss (.t 41) (.t 43))⟩ :: ⟨none, none, .kp [2, 3, 44]⟩ :: vc_ref05_Order_o10_1
def vc_ref05_Order_r10 : VCode := (.keep [2, 3, 5, 39] (.cond (.t 39) (.region false vc_ref05_Order_o10) .skip))
def vc_ref05_Order_o11 : List VO := ⟨(some 38), none, (.mv (.t 5))⟩ :: ⟨(some 39), none, (.bin .eql (.t 38) (.c (.val (.int .i64 0))))⟩ :: []
def vc_ref05_Order_r11 : VCode := (.keep [2, 3, 5] (.seq (.seq (.region false vc_ref05_Order_o11) vc_ref05_Order_r10) vc_ref05_Order_r9))
def vc_ref05_Order_o12_1 : List VO := ⟨(some 5), none, (.mv (.t 37))⟩ :: []
def vc_ref05_Order_o12 : List VO := ⟨(some 33), none, (.fld 2 (.t 2))⟩ :: ⟨(some 34), none, (.load false 1 (.t 33))⟩ :: ⟨(some 35), none, (.fld 2 (.t 3))⟩ :: ⟨(some 36), none, (.load false 1 (.t 35))⟩ :: ⟨none, none, .kp [2, 3, 34, 36]⟩ :: ⟨(some 37), none, (.call 71 [] [(.t 34), (.t 36)])⟩ :: ⟨none, none, .kp [2, 3, 37]⟩ :: vc_ref05_Order_o12_1
def vc_ref05_Order_r12 : VCode := (.keep [2, 3, 5, 32] (.cond (.t 32) (.region false vc_ref05_Order_o12) .skip))
def vc_ref05_Order_o13 : List VO := ⟨(some 31), none, (.mv (.t 5))⟩ :: ⟨(some 32), none, (.bin .eql (.t 31) (.c (.val (.int .i64 0))))⟩ :: []
def vc_ref05_Order_r13 : VCode := (.keep [2, 3, 5] (.seq (.seq (.region false vc_ref05_Order_o13) vc_ref05_Order_r12) vc_ref05_Order_r11))
def vc_ref05_Order_o14_2 : List VO := ⟨(some 30), none, (.call 70 [] [(.t 24), (.t 29)])⟩ :: ⟨none, none, .kp [2, 3, 30]⟩ :: ⟨(some 5), none, (.mv (.t 30))⟩ :: []
def vc_ref05_Order_o14_1 : List VO := ⟨(some 25), none, (.fld 1 (.t 2))⟩ :: ⟨(some 26), none, (.load false 1 (.t 25))⟩ :: ⟨(some 27), none, (.fld 1 (.t 3))⟩ :: ⟨(some 28), none, (.load false 1 (.t 27))⟩ :: ⟨none, none, .kp [2, 3, 24, 26, 28]⟩ :: ⟨(some 29), none, (.bin .gtr (.t 26) (.t 28))⟩ :: ⟨none, none, .kp [2, 3, 24, 29]⟩ :: vc_ref05_Order_o14_2
def vc_ref05_Order_o14 : List VO := ⟨(some 20), none, (.fld 1 (.t 2))⟩ :: ⟨(some 21), none, (.load false 1 (.t 20))⟩ :: ⟨(some 22), none, (.fld 1 (.t 3))⟩ :: ⟨(some 23), none, (.load false 1 (.t 22))⟩ :: ⟨none, none, .kp [2, 3, 21, 23]⟩ :: ⟨(some 24), none, (.bin .lss (.t 21) (.t 23))⟩ :: ⟨none, none, .kp [2, 3, 24]⟩ :: vc_ref05_Order_o14_1
def vc_ref05_Order_r14 : VCode := (.keep [2, 3, 5, 19] (.cond (.t 19) (.region false vc_ref05_Order_o14) .skip))
def vc_ref05_Order_o15 : List VO := ⟨(some 18), none, (.mv (.t 5))⟩ :: ⟨(some 19), none, (.bin .eql (.t 18) (.c (.val (.int .i64 0))))⟩ :: []
def vc_ref05_Order_r15 : VCode := (.keep [2, 3, 5] (.seq (.seq (.region false vc_ref05_Order_o15) vc_ref05_Order_r14) vc_ref05_Order_r13))
def vc_ref05_Order_o16_2 : List VO := ⟨(some 17), none, (.call 70 [] [(.t 11), (.t 16)])⟩ :: ⟨none, none, .kp [2, 3, 17]⟩ :: ⟨(some 5), none, (.mv (.t 17))⟩ :: []
def vc_ref05_Order_o16_1 : List VO := ⟨(some 12), none, (.fld 0 (.t 2))⟩ :: ⟨(some 13), none, (.load false 1 (.t 12))⟩ :: ⟨(some 14), none, (.fld 0 (.t 3))⟩ :: ⟨(some 15), none, (.load false 1 (.t 14))⟩ :: ⟨none, none, .kp [2, 3, 11, 13, 15]⟩ :: ⟨(some 16), none, (.bin .gtr (.t 13) (.t 15))⟩ :: ⟨none, none, .kp [2, 3, 11, 16]⟩ :: vc_ref05_Order_o16_2
def vc_ref05_Order_o16 : List VO := ⟨(some 7), none, (.fld 0 (.t 2))⟩ :: ⟨(some 8), none, (.load false 1 (.t 7))⟩ :: ⟨(some 9), none, (.fld 0 (.t 3))⟩ :: ⟨(some 10), none, (.load false 1 (.t 9))⟩ :: ⟨none, none, .kp [2, 3, 8, 10]⟩ :: ⟨(some 11), none, (.bin .lss (.t 8) (.t 10))⟩ :: ⟨none, none, .kp [2, 3, 11]⟩ :: vc_ref05_Order_o16_1
def vc_ref05_Order_r16 : VCode := (.keep [2, 3] (.seq (.region false vc_ref05_Order_o16) vc_ref05_Order_r15))
def vc_ref05_Order_o17 : List VO := ⟨(some 2), none, (.box 25 (.t 0))⟩ :: ⟨(some 3), none, (.box 25 (.t 1))⟩ :: ⟨none, none, .kp [2, 3]⟩ :: ⟨(some 4), none, (.mv (.c (.val (.int .i64 0))))⟩ :: []
def vc_ref05_Order : VCode := (.seq (.region false vc_ref05_Order_o17) vc_ref05_Order_r16)
def rs_ref05_Order : List RV := [(.t 4)]
theorem comp_ref05_Order : ccode Try.prog (Try.f31.body.getD .skip) = some (strip vc_ref05_Order) := by kernel_rfl
theorem code_ref05_Order : IsCode Try.prog id_ref05_Order 98 vc_ref05_Order rs_ref05_Order := ⟨_, _, Try.func31, by kernel_rfl, rfl, comp_ref05_Order, by kernel_rfl, by kernel_rfl, rfl⟩

/- usher/usherref05.shape -/
def vc_ref05_shape_o1 : List VO := ⟨(some 4), none, (.mv (.c (.val (.bool true))))⟩ :: []
def vc_ref05_shape_r1 : VCode := (.keep [] (.seq (.region false vc_ref05_shape_o1) (.keep [4] .ret)))
def vc_ref05_shape_o2 : List VO := ⟨(some 87), none, (.mv (.t 5))⟩ :: ⟨(some 88), none, (.bin .add (.t 87) (.c (.val (.int .i64 1))))⟩ :: ⟨none, none, .kp [1, 2, 88]⟩ :: ⟨(some 5), none, (.mv (.t 88))⟩ :: []
def vc_ref05_shape_r2 : VCode := (.keep [1, 2, 5] (.region false vc_ref05_shape_o2))
def vc_ref05_shape_o3 : List VO := ⟨(some 4), none, (.mv (.c (.val (.bool false))))⟩ :: []
def vc_ref05_shape_r3 : VCode := (.keep [1, 2, 5, 97] (.cond (.t 97) (.seq (.region false vc_ref05_shape_o3) (.keep [4] .ret)) .skip))
def vc_ref05_shape_o4_1 : List VO := ⟨(some 94), none, (.mv (.t 1))⟩ :: ⟨(some 95), none, (.bin .sub (.t 94) (.c (.val (.int .i64 1))))⟩ :: ⟨none, none, .kp [1, 2, 5, 93, 95]⟩ :: ⟨(some 96), none, (.call 63 [] [(.t 93), (.t 95)])⟩ :: ⟨none, none, .kp [1, 2, 5, 96]⟩ :: ⟨(some 97), none, (.un .not (.t 96))⟩ :: []
def vc_ref05_shape_o4 : List VO := ⟨(some 89), none, (.fld 4 (.t 2))⟩ :: ⟨(some 90), none, (.load false 1 (.t 89))⟩ :: ⟨(some 91), none, (.mv (.t 5))⟩ :: ⟨(some 92), none, (.idx 5 (.t 90) (.t 91))⟩ :: ⟨none, none, .kp [1, 2, 5, 92]⟩ :: ⟨(some 93), none, (.load true 5 (.t 92))⟩ :: vc_ref05_shape_o4_1
def vc_ref05_shape_r4 : VCode := (.keep [1, 2, 5] (.seq (.block 1 (.seq (.region false vc_ref05_shape_o4) vc_ref05_shape_r3)) vc_ref05_shape_r2))
def vc_ref05_shape_r5 : VCode := (.keep [1, 2, 5, 86] (.cond (.t 86) .skip (.exit 0)))
def vc_ref05_shape_o5 : List VO := ⟨(some 82), none, (.mv (.t 5))⟩ :: ⟨(some 83), none, (.fld 4 (.t 2))⟩ :: ⟨(some 84), none, (.load false 1 (.t 83))⟩ :: ⟨(some 85), none, (.len (.t 84))⟩ :: ⟨none, none, .kp [1, 2, 5, 82, 85]⟩ :: ⟨(some 86), none, (.bin .lss (.t 82) (.t 85))⟩ :: []
def vc_ref05_shape_l6 : VCode := (.seq (.seq (.region false vc_ref05_shape_o5) vc_ref05_shape_r5) vc_ref05_shape_r4)
def vc_ref05_shape_r7 : VCode := (.keep [1, 2, 5] (.block 0 (.loop (.keep [1, 2, 5] vc_ref05_shape_l6))))
def vc_ref05_shape_o6 : List VO := ⟨(some 5), none, (.mv (.c (.val (.int .i64 0))))⟩ :: []
def vc_ref05_shape_r8 : VCode := (.keep [1, 2] (.seq (.seq (.region false vc_ref05_shape_o6) vc_ref05_shape_r7) vc_ref05_shape_r1))
def vc_ref05_shape_o7 : List VO := ⟨(some 4), none, (.mv (.c (.val (.bool false))))⟩ :: []
def vc_ref05_shape_r9 : VCode := (.keep [1, 2, 81] (.cond (.t 81) (.seq (.region false vc_ref05_shape_o7) (.keep [4] .ret)) .skip))
def vc_ref05_shape_d8 : DT := (.op true [] ⟨(some 79), (some (77, true)), (.bin .eql (.t 78) (.c (.val (.int .i64 0))))⟩ (.op true [] ⟨(some 80), (some (73, false)), (.pick (.t 77) (.t 79) (.c (.val (.bool false))))⟩ (.op true [] ⟨(some 81), none, (.pick (.t 73) (.c (.val (.bool true))) (.t 80))⟩ .done)))
def vc_ref05_shape_d9 : DT := (.op true [2] ⟨(some 75), (some (73, false)), (.load false 1 (.t 74))⟩ (.op true [] ⟨(some 76), (some (73, false)), (.bin .eql (.t 75) (.c (.val (.int .i64 4))))⟩ (.op true [] ⟨(some 77), (some (73, false)), (.mv (.t 76))⟩ (.op true [] ⟨(some 78), (some (77, true)), (.mv (.t 1))⟩ vc_ref05_shape_d8))))
def vc_ref05_shape_d10 : DT := (.op true [] ⟨(some 71), (some (67, false)), (.bin .gtr (.t 70) (.c (.val (.int .i64 12))))⟩ (.op true [] ⟨(some 72), none, (.pick (.t 67) (.c (.val (.bool true))) (.t 71))⟩ (.op true [] ⟨(some 73), none, (.mv (.t 72))⟩ (.op true [2] ⟨(some 74), (some (73, false)), (.fld 0 (.t 2))⟩ vc_ref05_shape_d9))))
def vc_ref05_shape_d11 : DT := (.op true [] ⟨(some 67), none, (.mv (.t 66))⟩ (.op true [2] ⟨(some 68), (some (67, false)), (.fld 4 (.t 2))⟩ (.op true [2] ⟨(some 69), (some (67, false)), (.load false 1 (.t 68))⟩ (.op true [] ⟨(some 70), (some (67, false)), (.len (.t 69))⟩ vc_ref05_shape_d10))))
def vc_ref05_shape_d12 : DT := (.op true [2] ⟨(some 63), (some (61, false)), (.load false 1 (.t 62))⟩ (.op true [] ⟨(some 64), (some (61, false)), (.lenS (.t 63))⟩ (.op true [] ⟨(some 65), (some (61, false)), (.bin .gtr (.t 64) (.c (.val (.int .i64 200))))⟩ (.op true [] ⟨(some 66), none, (.pick (.t 61) (.c (.val (.bool true))) (.t 65))⟩ vc_ref05_shape_d11))))
def vc_ref05_shape_d13 : DT := (.op false [2] ⟨(some 59), none, (.call 61 [] [(.t 58)])⟩ (.op true [] ⟨(some 60), none, (.bin .neq (.t 56) (.t 59))⟩ (.op true [] ⟨(some 61), none, (.mv (.t 60))⟩ (.op true [2] ⟨(some 62), (some (61, false)), (.fld 3 (.t 2))⟩ vc_ref05_shape_d12))))
def vc_ref05_shape_d14 : DT := (.op true [2] ⟨(some 55), none, (.fld 2 (.t 2))⟩ (.op true [2] ⟨(some 56), none, (.load false 1 (.t 55))⟩ (.op true [2] ⟨(some 57), none, (.fld 2 (.t 2))⟩ (.op true [2] ⟨(some 58), none, (.load false 1 (.t 57))⟩ vc_ref05_shape_d13))))
def vc_ref05_shape_r10 : VCode := (.keep [1, 2] (.seq (.seq (.draws [1, 2, 81] vc_ref05_shape_d14) vc_ref05_shape_r9) vc_ref05_shape_r8))
def vc_ref05_shape_o15 : List VO := ⟨(some 4), none, (.mv (.c (.val (.bool false))))⟩ :: []
def vc_ref05_shape_r11 : VCode := (.keep [1, 2, 54] (.cond (.t 54) (.seq (.region false vc_ref05_shape_o15) (.keep [4] .ret)) .skip))
def vc_ref05_shape_o16_9 : List VO := ⟨(some 51), (some (48, true)), (.len (.t 50))⟩ :: ⟨none, none, .kp [1, 2, 44, 48, 51]⟩ :: ⟨(some 52), (some (48, true)), (.bin .gtr (.t 51) (.c (.val (.int .i64 0))))⟩ :: ⟨(some 53), (some (44, false)), (.pick (.t 48) (.t 52) (.c (.val (.bool false))))⟩ :: ⟨none, none, .kp [1, 2, 44, 53]⟩ :: ⟨(some 54), none, (.pick (.t 44) (.c (.val (.bool true))) (.t 53))⟩ :: []
def vc_ref05_shape_o16_8 : List VO := ⟨(some 46), (some (44, false)), (.load false 1 (.t 45))⟩ :: ⟨none, none, .kp [1, 2, 44, 46]⟩ :: ⟨(some 47), (some (44, false)), (.bin .neq (.t 46) (.c (.val (.int .i64 4))))⟩ :: ⟨(some 48), (some (44, false)), (.mv (.t 47))⟩ :: ⟨none, none, .kp [1, 2, 44, 48]⟩ :: ⟨(some 49), (some (48, true)), (.fld 4 (.t 2))⟩ :: ⟨(some 50), (some (48, true)), (.load false 1 (.t 49))⟩ :: vc_ref05_shape_o16_9
def vc_ref05_shape_o16_7 : List VO := ⟨(some 41), (some (38, true)), (.bin .neq (.t 40) (.c (.val (.string ⟨#[]⟩))))⟩ :: ⟨none, none, .kp [1, 2, 34, 38, 41]⟩ :: ⟨(some 42), (some (34, false)), (.pick (.t 38) (.t 41) (.c (.val (.bool false))))⟩ :: ⟨none, none, .kp [1, 2, 34, 42]⟩ :: ⟨(some 43), none, (.pick (.t 34) (.c (.val (.bool true))) (.t 42))⟩ :: ⟨none, none, .kp [1, 2, 43]⟩ :: ⟨(some 44), none, (.mv (.t 43))⟩ :: ⟨(some 45), (some (44, false)), (.fld 0 (.t 2))⟩ :: vc_ref05_shape_o16_8
def vc_ref05_shape_o16_6 : List VO := ⟨(some 36), (some (34, false)), (.load false 1 (.t 35))⟩ :: ⟨none, none, .kp [1, 2, 34, 36]⟩ :: ⟨(some 37), (some (34, false)), (.bin .neq (.t 36) (.c (.val (.int .i64 3))))⟩ :: ⟨(some 38), (some (34, false)), (.mv (.t 37))⟩ :: ⟨none, none, .kp [1, 2, 34, 38]⟩ :: ⟨(some 39), (some (38, true)), (.fld 3 (.t 2))⟩ :: ⟨(some 40), (some (38, true)), (.load false 1 (.t 39))⟩ :: vc_ref05_shape_o16_7
def vc_ref05_shape_o16_5 : List VO := ⟨(some 31), (some (28, true)), (.bin .neq (.t 30) (.c (.val (.int .u64 0))))⟩ :: ⟨none, none, .kp [1, 2, 24, 28, 31]⟩ :: ⟨(some 32), (some (24, false)), (.pick (.t 28) (.t 31) (.c (.val (.bool false))))⟩ :: ⟨none, none, .kp [1, 2, 24, 32]⟩ :: ⟨(some 33), none, (.pick (.t 24) (.c (.val (.bool true))) (.t 32))⟩ :: ⟨none, none, .kp [1, 2, 33]⟩ :: ⟨(some 34), none, (.mv (.t 33))⟩ :: ⟨(some 35), (some (34, false)), (.fld 0 (.t 2))⟩ :: vc_ref05_shape_o16_6
def vc_ref05_shape_o16_4 : List VO := ⟨(some 26), (some (24, false)), (.load false 1 (.t 25))⟩ :: ⟨none, none, .kp [1, 2, 24, 26]⟩ :: ⟨(some 27), (some (24, false)), (.bin .neq (.t 26) (.c (.val (.int .i64 2))))⟩ :: ⟨(some 28), (some (24, false)), (.mv (.t 27))⟩ :: ⟨none, none, .kp [1, 2, 24, 28]⟩ :: ⟨(some 29), (some (28, true)), (.fld 2 (.t 2))⟩ :: ⟨(some 30), (some (28, true)), (.load false 1 (.t 29))⟩ :: vc_ref05_shape_o16_5
def vc_ref05_shape_o16_3 : List VO := ⟨(some 21), (some (18, true)), (.bin .neq (.t 20) (.c (.val (.int .i64 0))))⟩ :: ⟨none, none, .kp [1, 2, 14, 18, 21]⟩ :: ⟨(some 22), (some (14, false)), (.pick (.t 18) (.t 21) (.c (.val (.bool false))))⟩ :: ⟨none, none, .kp [1, 2, 14, 22]⟩ :: ⟨(some 23), none, (.pick (.t 14) (.c (.val (.bool true))) (.t 22))⟩ :: ⟨none, none, .kp [1, 2, 23]⟩ :: ⟨(some 24), none, (.mv (.t 23))⟩ :: ⟨(some 25), (some (24, false)), (.fld 0 (.t 2))⟩ :: vc_ref05_shape_o16_4
def vc_ref05_shape_o16_2 : List VO := ⟨(some 16), (some (14, false)), (.load false 1 (.t 15))⟩ :: ⟨none, none, .kp [1, 2, 14, 16]⟩ :: ⟨(some 17), (some (14, false)), (.bin .neq (.t 16) (.c (.val (.int .i64 1))))⟩ :: ⟨(some 18), (some (14, false)), (.mv (.t 17))⟩ :: ⟨none, none, .kp [1, 2, 14, 18]⟩ :: ⟨(some 19), (some (18, true)), (.fld 1 (.t 2))⟩ :: ⟨(some 20), (some (18, true)), (.load false 1 (.t 19))⟩ :: vc_ref05_shape_o16_3
def vc_ref05_shape_o16_1 : List VO := ⟨(some 11), (some (9, false)), (.load false 1 (.t 10))⟩ :: ⟨none, none, .kp [1, 2, 9, 11]⟩ :: ⟨(some 12), (some (9, false)), (.bin .gtr (.t 11) (.c (.val (.int .i64 4))))⟩ :: ⟨(some 13), none, (.pick (.t 9) (.c (.val (.bool true))) (.t 12))⟩ :: ⟨none, none, .kp [1, 2, 13]⟩ :: ⟨(some 14), none, (.mv (.t 13))⟩ :: ⟨(some 15), (some (14, false)), (.fld 0 (.t 2))⟩ :: vc_ref05_shape_o16_2
def vc_ref05_shape_o16 : List VO := ⟨(some 6), none, (.fld 0 (.t 2))⟩ :: ⟨(some 7), none, (.load false 1 (.t 6))⟩ :: ⟨(some 8), none, (.bin .lss (.t 7) (.c (.val (.int .i64 0))))⟩ :: ⟨none, none, .kp [1, 2, 8]⟩ :: ⟨(some 9), none, (.mv (.t 8))⟩ :: ⟨(some 10), (some (9, false)), (.fld 0 (.t 2))⟩ :: vc_ref05_shape_o16_1
def vc_ref05_shape_r12 : VCode := (.keep [1, 2] (.seq (.seq (.region false vc_ref05_shape_o16) vc_ref05_shape_r11) vc_ref05_shape_r10))
def vc_ref05_shape_o17 : List VO := ⟨(some 2), none, (.box 25 (.t 0))⟩ :: ⟨(some 4), none, (.mv (.c (.val (.bool false))))⟩ :: []
def vc_ref05_shape : VCode := (.seq (.region false vc_ref05_shape_o17) vc_ref05_shape_r12)
def rs_ref05_shape : List RV := [(.t 4)]
theorem comp_ref05_shape : ccode Try.prog (Try.f63.body.getD .skip) = some (strip vc_ref05_shape) := by kernel_rfl
theorem code_ref05_shape : IsCode Try.prog id_ref05_shape 98 vc_ref05_shape rs_ref05_shape := ⟨_, _, Try.func63, by kernel_rfl, rfl, comp_ref05_shape, by kernel_rfl, by kernel_rfl, rfl⟩

/- usher/usherref05.bytes -/
def vc_ref05_bytes_o1 : List VO := ⟨(some 51), none, (.mv (.t 0))⟩ :: ⟨(some 4), none, (.mv (.t 51))⟩ :: []
def vc_ref05_bytes_r1 : VCode := (.keep [0] (.seq (.region false vc_ref05_bytes_o1) (.keep [4] .ret)))
def vc_ref05_bytes_o2 : List VO := ⟨(some 14), none, (.mv (.t 0))⟩ :: ⟨(some 15), none, (.fld 1 (.t 3))⟩ :: ⟨none, none, .kp [14, 15]⟩ :: ⟨(some 16), none, (.load false 1 (.t 15))⟩ :: ⟨(some 17), none, (.call 117 [] [(.t 14), (.t 16)])⟩ :: ⟨none, none, .kp [17]⟩ :: ⟨(some 0), none, (.mv (.t 17))⟩ :: []
def vc_ref05_bytes_o3 : List VO := ⟨(some 20), none, (.mv (.t 0))⟩ :: ⟨(some 21), none, (.fld 2 (.t 3))⟩ :: ⟨none, none, .kp [20, 21]⟩ :: ⟨(some 22), none, (.load false 1 (.t 21))⟩ :: ⟨(some 23), none, (.call 118 [] [(.t 20), (.t 22)])⟩ :: ⟨none, none, .kp [23]⟩ :: ⟨(some 0), none, (.mv (.t 23))⟩ :: []
def vc_ref05_bytes_o4 : List VO := ⟨(some 26), none, (.mv (.t 0))⟩ :: ⟨(some 27), none, (.fld 3 (.t 3))⟩ :: ⟨none, none, .kp [26, 27]⟩ :: ⟨(some 28), none, (.load false 1 (.t 27))⟩ :: ⟨(some 29), none, (.call 93 [] [(.t 26), (.t 28)])⟩ :: ⟨none, none, .kp [29]⟩ :: ⟨(some 0), none, (.mv (.t 29))⟩ :: []
def vc_ref05_bytes_o5 : List VO := ⟨(some 42), none, (.mv (.t 5))⟩ :: ⟨(some 43), none, (.bin .add (.t 42) (.c (.val (.int .i64 1))))⟩ :: ⟨none, none, .kp [0, 3, 43]⟩ :: ⟨(some 5), none, (.mv (.t 43))⟩ :: []
def vc_ref05_bytes_r2 : VCode := (.keep [0, 3, 5] (.region false vc_ref05_bytes_o5))
def vc_ref05_bytes_o6_1 : List VO := ⟨(some 49), none, (.load true 5 (.t 48))⟩ :: ⟨(some 50), none, (.call 64 [] [(.t 44), (.t 49)])⟩ :: ⟨none, none, .kp [3, 5, 50]⟩ :: ⟨(some 0), none, (.mv (.t 50))⟩ :: []
def vc_ref05_bytes_o6 : List VO := ⟨(some 44), none, (.mv (.t 0))⟩ :: ⟨(some 45), none, (.fld 4 (.t 3))⟩ :: ⟨(some 46), none, (.load false 1 (.t 45))⟩ :: ⟨none, none, .kp [3, 5, 44, 46]⟩ :: ⟨(some 47), none, (.mv (.t 5))⟩ :: ⟨(some 48), none, (.idx 5 (.t 46) (.t 47))⟩ :: ⟨none, none, .kp [3, 5, 44, 48]⟩ :: vc_ref05_bytes_o6_1
def vc_ref05_bytes_r3 : VCode := (.keep [0, 3, 5] (.seq (.block 2 (.region false vc_ref05_bytes_o6)) vc_ref05_bytes_r2))
def vc_ref05_bytes_r4 : VCode := (.keep [0, 3, 5, 41] (.cond (.t 41) .skip (.exit 1)))
def vc_ref05_bytes_o7 : List VO := ⟨(some 37), none, (.mv (.t 5))⟩ :: ⟨(some 38), none, (.fld 4 (.t 3))⟩ :: ⟨(some 39), none, (.load false 1 (.t 38))⟩ :: ⟨(some 40), none, (.len (.t 39))⟩ :: ⟨none, none, .kp [0, 3, 5, 37, 40]⟩ :: ⟨(some 41), none, (.bin .lss (.t 37) (.t 40))⟩ :: []
def vc_ref05_bytes_l5 : VCode := (.seq (.seq (.region false vc_ref05_bytes_o7) vc_ref05_bytes_r4) vc_ref05_bytes_r3)
def vc_ref05_bytes_r6 : VCode := (.keep [0, 3, 5] (.block 1 (.loop (.keep [0, 3, 5] vc_ref05_bytes_l5))))
def vc_ref05_bytes_o8 : List VO := ⟨(some 5), none, (.mv (.c (.val (.int .i64 0))))⟩ :: []
def vc_ref05_bytes_r7 : VCode := (.keep [0, 3] (.seq (.region false vc_ref05_bytes_o8) vc_ref05_bytes_r6))
def vc_ref05_bytes_o9_1 : List VO := ⟨(some 0), none, (.mv (.t 36))⟩ :: []
def vc_ref05_bytes_o9 : List VO := ⟨(some 32), none, (.mv (.t 0))⟩ :: ⟨(some 33), none, (.fld 4 (.t 3))⟩ :: ⟨(some 34), none, (.load false 1 (.t 33))⟩ :: ⟨none, none, .kp [3, 32, 34]⟩ :: ⟨(some 35), none, (.len (.t 34))⟩ :: ⟨(some 36), none, (.call 94 [] [(.t 32), (.t 35)])⟩ :: ⟨none, none, .kp [3, 36]⟩ :: vc_ref05_bytes_o9_1
def vc_ref05_bytes_r8 : VCode := (.keep [0, 3, 30] (.cond (.t 30) (.seq (.region false vc_ref05_bytes_o9) vc_ref05_bytes_r7) .skip))
def vc_ref05_bytes_o10 : List VO := ⟨(some 31), none, (.bin .eql (.t 11) (.c (.val (.int .i64 4))))⟩ :: ⟨(some 30), none, (.mv (.t 31))⟩ :: []
def vc_ref05_bytes_r9 : VCode := (.keep [0, 3, 11, 24] (.cond (.t 24) (.region false vc_ref05_bytes_o4) (.seq (.region false vc_ref05_bytes_o10) vc_ref05_bytes_r8)))
def vc_ref05_bytes_o11 : List VO := ⟨(some 25), none, (.bin .eql (.t 11) (.c (.val (.int .i64 3))))⟩ :: ⟨(some 24), none, (.mv (.t 25))⟩ :: []
def vc_ref05_bytes_r10 : VCode := (.keep [0, 3, 11, 18] (.cond (.t 18) (.region false vc_ref05_bytes_o3) (.seq (.region false vc_ref05_bytes_o11) vc_ref05_bytes_r9)))
def vc_ref05_bytes_o12 : List VO := ⟨(some 19), none, (.bin .eql (.t 11) (.c (.val (.int .i64 2))))⟩ :: ⟨(some 18), none, (.mv (.t 19))⟩ :: []
def vc_ref05_bytes_r11 : VCode := (.keep [0, 3, 11, 12] (.cond (.t 12) (.region false vc_ref05_bytes_o2) (.seq (.region false vc_ref05_bytes_o12) vc_ref05_bytes_r10)))
def vc_ref05_bytes_o13 : List VO := ⟨(some 13), none, (.bin .eql (.t 11) (.c (.val (.int .i64 1))))⟩ :: ⟨(some 12), none, (.mv (.t 13))⟩ :: []
def vc_ref05_bytes_r12 : VCode := (.keep [0, 3, 11] (.block 0 (.seq (.region false vc_ref05_bytes_o13) vc_ref05_bytes_r11)))
def vc_ref05_bytes_o14 : List VO := ⟨(some 10), none, (.fld 0 (.t 3))⟩ :: ⟨(some 11), none, (.load false 1 (.t 10))⟩ :: []
def vc_ref05_bytes_r13 : VCode := (.keep [0, 3] (.seq (.seq (.region false vc_ref05_bytes_o14) vc_ref05_bytes_r12) vc_ref05_bytes_r1))
def vc_ref05_bytes_o15 : List VO := ⟨(some 6), none, (.mv (.t 0))⟩ :: ⟨(some 7), none, (.fld 0 (.t 3))⟩ :: ⟨(some 8), none, (.load false 1 (.t 7))⟩ :: ⟨none, none, .kp [3, 6, 8]⟩ :: ⟨(some 9), none, (.call 94 [] [(.t 6), (.t 8)])⟩ :: ⟨none, none, .kp [3, 9]⟩ :: ⟨(some 0), none, (.mv (.t 9))⟩ :: []
def vc_ref05_bytes_r14 : VCode := (.keep [0, 3] (.seq (.region false vc_ref05_bytes_o15) vc_ref05_bytes_r13))
def vc_ref05_bytes_o16 : List VO := ⟨(some 3), none, (.box 25 (.t 1))⟩ :: ⟨(some 4), none, (.mv (.c (.val (.slice none 0 0))))⟩ :: []
def vc_ref05_bytes : VCode := (.seq (.region false vc_ref05_bytes_o16) vc_ref05_bytes_r14)
def rs_ref05_bytes : List RV := [(.t 4)]
theorem comp_ref05_bytes : ccode Try.prog (Try.f64.body.getD .skip) = some (strip vc_ref05_bytes) := by kernel_rfl
theorem code_ref05_bytes : IsCode Try.prog id_ref05_bytes 52 vc_ref05_bytes rs_ref05_bytes := ⟨_, _, Try.func64, by kernel_rfl, rfl, comp_ref05_bytes, by kernel_rfl, by kernel_rfl, rfl⟩

/- usher/usherref05.way -/
def vc_ref05_way_o1 : List VO := ⟨(some 4), none, (.mv (.c (.val (.int .i64 0))))⟩ :: []
def vc_ref05_way_r1 : VCode := (.keep [] (.seq (.region false vc_ref05_way_o1) (.keep [4] .ret)))
def vc_ref05_way_o2 : List VO := ⟨(some 4), none, (.mv (.c (.val (.int .i64 1))))⟩ :: []
def vc_ref05_way_r2 : VCode := (.keep [6] (.cond (.t 6) (.seq (.region false vc_ref05_way_o2) (.keep [4] .ret)) .skip))
def vc_ref05_way_o3 : List VO := ⟨(some 6), none, (.mv (.t 1))⟩ :: []
def vc_ref05_way_r3 : VCode := (.keep [1] (.seq (.seq (.region false vc_ref05_way_o3) vc_ref05_way_r2) vc_ref05_way_r1))
def vc_ref05_way_o4 : List VO := ⟨(some 4), none, (.mv (.c (.val (.int .i64 (-1)))))⟩ :: []
def vc_ref05_way_r4 : VCode := (.keep [1, 5] (.cond (.t 5) (.seq (.region false vc_ref05_way_o4) (.keep [4] .ret)) .skip))
def vc_ref05_way_o5 : List VO := ⟨(some 5), none, (.mv (.t 0))⟩ :: []
def vc_ref05_way_r5 : VCode := (.keep [0, 1] (.seq (.seq (.region false vc_ref05_way_o5) vc_ref05_way_r4) vc_ref05_way_r3))
def vc_ref05_way_o6 : List VO := ⟨(some 4), none, (.mv (.c (.val (.int .i64 0))))⟩ :: []
def vc_ref05_way : VCode := (.seq (.region false vc_ref05_way_o6) vc_ref05_way_r5)
def rs_ref05_way : List RV := [(.t 4)]
theorem comp_ref05_way : ccode Try.prog (Try.f70.body.getD .skip) = some (strip vc_ref05_way) := by kernel_rfl
theorem code_ref05_way : IsCode Try.prog id_ref05_way 7 vc_ref05_way rs_ref05_way := ⟨_, _, Try.func70, by kernel_rfl, rfl, comp_ref05_way, by kernel_rfl, by kernel_rfl, rfl⟩

end Go.Proofs.Ytlodbaikbgbhjaa
