/- The code of functions, for the abstract machine, and that it is theirs. Printed by vc2.py. -/
import Derived.Test.YtlodbaikbgbhjaaIds
set_option linter.unusedVariables false
set_option maxRecDepth 100000
namespace Go.Proofs.Ytlodbaikbgbhjaa
open Go Go.Vm

/- usher/value.Clone -/
def vc_value_Clone_o1 : List VO := ⟨(some 21), none, (.load true 5 (.t 1))⟩ :: ⟨none, none, (.store 5 (.t 2) (.t 21))⟩ :: []
def vc_value_Clone_r1 : VCode := (.keep [1, 2] (.seq (.region false vc_value_Clone_o1) (.keep [2] .ret)))
def vc_value_Clone_o2 : List VO := ⟨(some 19), none, (.mv (.t 3))⟩ :: ⟨(some 20), none, (.fld 4 (.t 1))⟩ :: ⟨none, none, (.store 1 (.t 20) (.t 19))⟩ :: []
def vc_value_Clone_r2 : VCode := (.keep [1, 2, 3] (.seq (.region false vc_value_Clone_o2) vc_value_Clone_r1))
def vc_value_Clone_o3 : List VO := ⟨(some 18), none, (.bin .add (.t 9) (.c (.val (.int .i64 1))))⟩ :: ⟨(some 9), none, (.mv (.t 18))⟩ :: []
def vc_value_Clone_r3 : VCode := (.keep [1, 2, 3, 7, 8, 9] (.region false vc_value_Clone_o3))
def vc_value_Clone_o4_1 : List VO := ⟨(some 3), none, (.mv (.t 17))⟩ :: []
def vc_value_Clone_o4 : List VO := ⟨(some 13), none, (.mv (.t 3))⟩ :: ⟨(some 14), none, (.load true 5 (.t 5))⟩ :: ⟨none, none, .kp [1, 2, 7, 8, 9, 13, 14]⟩ :: ⟨(some 15), none, (.call 17 [] [(.t 14)])⟩ :: ⟨(some 16), none, (.lit false 25 5 1 [(.val (.int .i64 0)), (.val (.int .i64 0)), (.val (.int .u64 0)), (.val (.string ⟨#[]⟩)), (.val (.slice none 0 0))] [(0, (5, (.t 15)))])⟩ :: ⟨none, none, .kp [1, 2, 7, 8, 9, 13, 16]⟩ :: ⟨(some 17), none, (.app 25 64 5 (.t 13) (.t 16))⟩ :: ⟨none, none, .kp [1, 2, 7, 8, 9, 17]⟩ :: vc_value_Clone_o4_1
def vc_value_Clone_r4 : VCode := (.keep [1, 2, 3, 5, 7, 8, 9] (.region false vc_value_Clone_o4))
def vc_value_Clone_o5 : List VO := ⟨(some 11), none, (.idx 5 (.t 7) (.t 9))⟩ :: ⟨(some 12), none, (.load true 5 (.t 11))⟩ :: ⟨(some 5), none, (.alloc 25 [(.val (.int .i64 0)), (.val (.int .i64 0)), (.val (.int .u64 0)), (.val (.string ⟨#[]⟩)), (.val (.slice none 0 0))])⟩ :: ⟨none, none, (.store 5 (.t 5) (.t 12))⟩ :: []
def vc_value_Clone_r5 : VCode := (.keep [1, 2, 3, 7, 8, 9] (.seq (.block 1 (.seq (.region false vc_value_Clone_o5) vc_value_Clone_r4)) vc_value_Clone_r3))
def vc_value_Clone_r6 : VCode := (.keep [1, 2, 3, 7, 8, 9, 10] (.seq (.cond (.t 10) .skip (.exit 0)) vc_value_Clone_r5))
def vc_value_Clone_o6 : List VO := ⟨(some 10), none, (.bin .lss (.t 9) (.t 8))⟩ :: []
def vc_value_Clone_l7 : VCode := (.seq (.region false vc_value_Clone_o6) vc_value_Clone_r6)
def vc_value_Clone_r8 : VCode := (.keep [1, 2, 3, 7, 8, 9] (.block 0 (.loop (.keep [1, 2, 3, 7, 8, 9] vc_value_Clone_l7))))
def vc_value_Clone_o7 : List VO := ⟨(some 6), none, (.fld 4 (.t 1))⟩ :: ⟨(some 7), none, (.load false 1 (.t 6))⟩ :: ⟨(some 8), none, (.len (.t 7))⟩ :: ⟨(some 9), none, (.mv (.c (.val (.int .i64 0))))⟩ :: []
def vc_value_Clone_r9 : VCode := (.keep [1, 2, 3] (.seq (.seq (.region false vc_value_Clone_o7) vc_value_Clone_r8) vc_value_Clone_r2))
def vc_value_Clone_o8 : List VO := ⟨(some 3), none, (.mv (.c (.val (.slice none 0 0))))⟩ :: []
def vc_value_Clone_r10 : VCode := (.keep [1, 2] (.seq (.region false vc_value_Clone_o8) vc_value_Clone_r9))
def vc_value_Clone_o9 : List VO := ⟨(some 1), none, (.box 25 (.t 0))⟩ :: ⟨(some 2), none, (.alloc 25 [(.val (.int .i64 0)), (.val (.int .i64 0)), (.val (.int .u64 0)), (.val (.string ⟨#[]⟩)), (.val (.slice none 0 0))])⟩ :: []
def vc_value_Clone : VCode := (.seq (.region false vc_value_Clone_o9) vc_value_Clone_r10)
def rs_value_Clone : List RV := [(.c 2 true 5)]
theorem comp_value_Clone : ccode Try.prog (Try.f17.body.getD .skip) = some (strip vc_value_Clone) := by kernel_rfl
theorem code_value_Clone : IsCode Try.prog id_value_Clone 22 vc_value_Clone rs_value_Clone := ⟨_, _, Try.func17, by kernel_rfl, rfl, comp_value_Clone, by kernel_rfl, by kernel_rfl, rfl⟩

/- usher/value.Int -/
def vc_value_Int_o1 : List VO := ⟨(some 3), none, (.mv (.t 0))⟩ :: ⟨(some 4), none, (.build [(.val (.int .i64 0)), (.val (.int .i64 0)), (.val (.int .u64 0)), (.val (.string ⟨#[]⟩)), (.val (.slice none 0 0))] [(0, (1, (.c (.val (.int .i64 1))))), (1, (1, (.t 3)))])⟩ :: ⟨none, none, .kp [2, 4]⟩ :: ⟨none, none, (.store 5 (.t 2) (.t 4))⟩ :: []
def vc_value_Int_r1 : VCode := (.keep [0, 2] (.seq (.region false vc_value_Int_o1) (.keep [2] .ret)))
def vc_value_Int_o2 : List VO := ⟨(some 2), none, (.alloc 25 [(.val (.int .i64 0)), (.val (.int .i64 0)), (.val (.int .u64 0)), (.val (.string ⟨#[]⟩)), (.val (.slice none 0 0))])⟩ :: []
def vc_value_Int : VCode := (.seq (.region false vc_value_Int_o2) vc_value_Int_r1)
def rs_value_Int : List RV := [(.c 2 true 5)]
theorem comp_value_Int : ccode Try.prog (Try.f19.body.getD .skip) = some (strip vc_value_Int) := by kernel_rfl
theorem code_value_Int : IsCode Try.prog id_value_Int 5 vc_value_Int rs_value_Int := ⟨_, _, Try.func19, by kernel_rfl, rfl, comp_value_Int, by kernel_rfl, by kernel_rfl, rfl⟩

/- usher/value.Float -/
def vc_value_Float_o1 : List VO := ⟨(some 3), none, (.mv (.t 0))⟩ :: ⟨(some 4), none, (.call 38 [] [(.t 3)])⟩ :: ⟨none, none, .kp [2, 4]⟩ :: ⟨(some 5), none, (.build [(.val (.int .i64 0)), (.val (.int .i64 0)), (.val (.int .u64 0)), (.val (.string ⟨#[]⟩)), (.val (.slice none 0 0))] [(0, (1, (.c (.val (.int .i64 2))))), (2, (1, (.t 4)))])⟩ :: ⟨none, none, (.store 5 (.t 2) (.t 5))⟩ :: []
def vc_value_Float_r1 : VCode := (.keep [0, 2] (.seq (.region false vc_value_Float_o1) (.keep [2] .ret)))
def vc_value_Float_o2 : List VO := ⟨(some 2), none, (.alloc 25 [(.val (.int .i64 0)), (.val (.int .i64 0)), (.val (.int .u64 0)), (.val (.string ⟨#[]⟩)), (.val (.slice none 0 0))])⟩ :: []
def vc_value_Float : VCode := (.seq (.region false vc_value_Float_o2) vc_value_Float_r1)
def rs_value_Float : List RV := [(.c 2 true 5)]
theorem comp_value_Float : ccode Try.prog (Try.f21.body.getD .skip) = some (strip vc_value_Float) := by kernel_rfl
theorem code_value_Float : IsCode Try.prog id_value_Float 6 vc_value_Float rs_value_Float := ⟨_, _, Try.func21, by kernel_rfl, rfl, comp_value_Float, by kernel_rfl, by kernel_rfl, rfl⟩

/- usher/value.Text -/
def vc_value_Text_o1 : List VO := ⟨(some 3), none, (.mv (.t 0))⟩ :: ⟨(some 4), none, (.build [(.val (.int .i64 0)), (.val (.int .i64 0)), (.val (.int .u64 0)), (.val (.string ⟨#[]⟩)), (.val (.slice none 0 0))] [(0, (1, (.c (.val (.int .i64 3))))), (3, (1, (.t 3)))])⟩ :: ⟨none, none, .kp [2, 4]⟩ :: ⟨none, none, (.store 5 (.t 2) (.t 4))⟩ :: []
def vc_value_Text_r1 : VCode := (.keep [0, 2] (.seq (.region false vc_value_Text_o1) (.keep [2] .ret)))
def vc_value_Text_o2 : List VO := ⟨(some 2), none, (.alloc 25 [(.val (.int .i64 0)), (.val (.int .i64 0)), (.val (.int .u64 0)), (.val (.string ⟨#[]⟩)), (.val (.slice none 0 0))])⟩ :: []
def vc_value_Text : VCode := (.seq (.region false vc_value_Text_o2) vc_value_Text_r1)
def rs_value_Text : List RV := [(.c 2 true 5)]
theorem comp_value_Text : ccode Try.prog (Try.f23.body.getD .skip) = some (strip vc_value_Text) := by kernel_rfl
theorem code_value_Text : IsCode Try.prog id_value_Text 5 vc_value_Text rs_value_Text := ⟨_, _, Try.func23, by kernel_rfl, rfl, comp_value_Text, by kernel_rfl, by kernel_rfl, rfl⟩

/- usher/value.List -/
def vc_value_List_o1 : List VO := ⟨(some 16), none, (.load true 5 (.t 3))⟩ :: ⟨none, none, (.store 5 (.t 2) (.t 16))⟩ :: []
def vc_value_List_r1 : VCode := (.keep [2, 3] (.seq (.region false vc_value_List_o1) (.keep [2] .ret)))
def vc_value_List_o2 : List VO := ⟨(some 12), none, (.fld 4 (.t 3))⟩ :: ⟨(some 13), none, (.load false 1 (.t 12))⟩ :: ⟨(some 14), none, (.mv (.t 0))⟩ :: ⟨none, none, .kp [2, 3, 13, 14]⟩ :: ⟨(some 15), none, (.copy 5 (.t 13) (.t 14))⟩ :: []
def vc_value_List_r2 : VCode := (.keep [0, 2, 3] (.region false vc_value_List_o2))
def vc_value_List_o3 : List VO := ⟨(some 8), none, (.mv (.t 0))⟩ :: ⟨(some 9), none, (.len (.t 8))⟩ :: ⟨(some 10), none, (.make 25 64 5 [(.val (.int .i64 0)), (.val (.int .i64 0)), (.val (.int .u64 0)), (.val (.string ⟨#[]⟩)), (.val (.slice none 0 0))] (.t 9) (.t 9))⟩ :: ⟨none, none, .kp [0, 2, 3, 10]⟩ :: ⟨(some 11), none, (.fld 4 (.t 3))⟩ :: ⟨none, none, (.store 1 (.t 11) (.t 10))⟩ :: []
def vc_value_List_r3 : VCode := (.keep [0, 2, 3, 7] (.cond (.t 7) (.seq (.region false vc_value_List_o3) vc_value_List_r2) .skip))
def vc_value_List_o4 : List VO := ⟨(some 5), none, (.mv (.t 0))⟩ :: ⟨(some 6), none, (.len (.t 5))⟩ :: ⟨(some 7), none, (.bin .gtr (.t 6) (.c (.val (.int .i64 0))))⟩ :: []
def vc_value_List_r4 : VCode := (.keep [0, 2, 3] (.seq (.seq (.region false vc_value_List_o4) vc_value_List_r3) vc_value_List_r1))
def vc_value_List_o5 : List VO := ⟨(some 4), none, (.build [(.val (.int .i64 0)), (.val (.int .i64 0)), (.val (.int .u64 0)), (.val (.string ⟨#[]⟩)), (.val (.slice none 0 0))] [(0, (1, (.c (.val (.int .i64 4)))))])⟩ :: ⟨(some 3), none, (.alloc 25 [(.val (.int .i64 0)), (.val (.int .i64 0)), (.val (.int .u64 0)), (.val (.string ⟨#[]⟩)), (.val (.slice none 0 0))])⟩ :: ⟨none, none, (.store 5 (.t 3) (.t 4))⟩ :: []
def vc_value_List_r5 : VCode := (.keep [0, 2] (.seq (.region false vc_value_List_o5) vc_value_List_r4))
def vc_value_List_o6 : List VO := ⟨(some 2), none, (.alloc 25 [(.val (.int .i64 0)), (.val (.int .i64 0)), (.val (.int .u64 0)), (.val (.string ⟨#[]⟩)), (.val (.slice none 0 0))])⟩ :: []
def vc_value_List : VCode := (.seq (.region false vc_value_List_o6) vc_value_List_r5)
def rs_value_List : List RV := [(.c 2 true 5)]
theorem comp_value_List : ccode Try.prog (Try.f25.body.getD .skip) = some (strip vc_value_List) := by kernel_rfl
theorem code_value_List : IsCode Try.prog id_value_List 17 vc_value_List rs_value_List := ⟨_, _, Try.func25, by kernel_rfl, rfl, comp_value_List, by kernel_rfl, by kernel_rfl, rfl⟩

/- usher/value.Check -/
def vc_value_Check_o1 : List VO := ⟨(some 2), none, (.mv (.c (.val (.int .i64 0))))⟩ :: []
def vc_value_Check_r1 : VCode := (.keep [] (.seq (.region false vc_value_Check_o1) (.keep [2] .ret)))
def vc_value_Check_o2 : List VO := ⟨(some 2), none, (.mv (.c (.val (.int .i64 1))))⟩ :: []
def vc_value_Check_r2 : VCode := (.keep [11] (.cond (.t 11) (.seq (.region false vc_value_Check_o2) (.keep [2] .ret)) .skip))
def vc_value_Check_o3_1 : List VO := ⟨(some 11), none, (.pick (.t 8) (.c (.val (.bool true))) (.t 10))⟩ :: []
def vc_value_Check_o3 : List VO := ⟨(some 6), none, (.mv (.t 3))⟩ :: ⟨(some 7), none, (.bin .lss (.t 6) (.c (.val (.int .i64 0))))⟩ :: ⟨(some 8), none, (.mv (.t 7))⟩ :: ⟨none, none, .kp [3, 8]⟩ :: ⟨(some 9), (some (8, false)), (.mv (.t 3))⟩ :: ⟨(some 10), (some (8, false)), (.bin .gtr (.t 9) (.c (.val (.int .i64 1000))))⟩ :: ⟨none, none, .kp [8, 10]⟩ :: vc_value_Check_o3_1
def vc_value_Check_r3 : VCode := (.keep [3] (.seq (.region false vc_value_Check_o3) vc_value_Check_r2))
def vc_value_Check_o4 : List VO := ⟨(some 4), none, (.load true 5 (.t 1))⟩ :: ⟨(some 5), none, (.call 62 [] [(.t 4), (.c (.val (.int .i64 4)))])⟩ :: ⟨none, none, .kp [5]⟩ :: ⟨(some 3), none, (.mv (.t 5))⟩ :: []
def vc_value_Check_r4 : VCode := (.keep [1] (.seq (.seq (.region false vc_value_Check_o4) vc_value_Check_r3) vc_value_Check_r1))
def vc_value_Check_o5 : List VO := ⟨(some 1), none, (.box 25 (.t 0))⟩ :: ⟨(some 2), none, (.mv (.c (.val (.int .i64 0))))⟩ :: []
def vc_value_Check : VCode := (.seq (.region false vc_value_Check_o5) vc_value_Check_r4)
def rs_value_Check : List RV := [(.t 2)]
theorem comp_value_Check : ccode Try.prog (Try.f27.body.getD .skip) = some (strip vc_value_Check) := by kernel_rfl
theorem code_value_Check : IsCode Try.prog id_value_Check 12 vc_value_Check rs_value_Check := ⟨_, _, Try.func27, by kernel_rfl, rfl, comp_value_Check, by kernel_rfl, by kernel_rfl, rfl⟩

/- usher/value.Same -/
def vc_value_Same_o1 : List VO := ⟨(some 4), none, (.mv (.c (.val (.bool true))))⟩ :: []
def vc_value_Same_r1 : VCode := (.keep [] (.seq (.region false vc_value_Same_o1) (.keep [4] .ret)))
def vc_value_Same_o2 : List VO := ⟨(some 59), none, (.bin .add (.t 44) (.c (.val (.int .i64 1))))⟩ :: ⟨(some 44), none, (.mv (.t 59))⟩ :: []
def vc_value_Same_r2 : VCode := (.keep [2, 3, 43, 44] (.region false vc_value_Same_o2))
def vc_value_Same_o3 : List VO := ⟨(some 4), none, (.mv (.c (.val (.bool false))))⟩ :: []
def vc_value_Same_r3 : VCode := (.keep [2, 3, 43, 44, 58] (.cond (.t 58) (.seq (.region false vc_value_Same_o3) (.keep [4] .ret)) .skip))
def vc_value_Same_d4 : DT := (.op true [] ⟨(some 55), none, (.idx 5 (.t 53) (.t 54))⟩ (.op true [] ⟨(some 56), none, (.load true 5 (.t 55))⟩ (.op false [2, 3] ⟨(some 57), none, (.call 29 [] [(.t 51), (.t 56)])⟩ (.op true [] ⟨(some 58), none, (.un .not (.t 57))⟩ .done))))
def vc_value_Same_d5 : DT := (.op true [] ⟨(some 51), none, (.load true 5 (.t 50))⟩ (.op true [3] ⟨(some 52), none, (.fld 4 (.t 3))⟩ (.op true [3] ⟨(some 53), none, (.load false 1 (.t 52))⟩ (.op true [] ⟨(some 54), none, (.mv (.t 5))⟩ vc_value_Same_d4))))
def vc_value_Same_d6 : DT := (.op true [2] ⟨(some 47), none, (.fld 4 (.t 2))⟩ (.op true [2] ⟨(some 48), none, (.load false 1 (.t 47))⟩ (.op true [] ⟨(some 49), none, (.mv (.t 5))⟩ (.op true [] ⟨(some 50), none, (.idx 5 (.t 48) (.t 49))⟩ vc_value_Same_d5))))
def vc_value_Same_r4 : VCode := (.keep [2, 3, 5, 43, 44] (.seq (.draws [2, 3, 43, 44, 58] vc_value_Same_d6) vc_value_Same_r3))
def vc_value_Same_o7 : List VO := ⟨(some 46), none, (.mv (.t 44))⟩ :: ⟨(some 5), none, (.mv (.t 46))⟩ :: []
def vc_value_Same_r5 : VCode := (.keep [2, 3, 43, 44] (.seq (.block 1 (.seq (.region false vc_value_Same_o7) vc_value_Same_r4)) vc_value_Same_r2))
def vc_value_Same_r6 : VCode := (.keep [2, 3, 43, 44, 45] (.seq (.cond (.t 45) .skip (.exit 0)) vc_value_Same_r5))
def vc_value_Same_o8 : List VO := ⟨(some 45), none, (.bin .lss (.t 44) (.t 43))⟩ :: []
def vc_value_Same_l7 : VCode := (.seq (.region false vc_value_Same_o8) vc_value_Same_r6)
def vc_value_Same_r8 : VCode := (.keep [2, 3, 43, 44] (.block 0 (.loop (.keep [2, 3, 43, 44] vc_value_Same_l7))))
def vc_value_Same_o9 : List VO := ⟨(some 41), none, (.fld 4 (.t 2))⟩ :: ⟨(some 42), none, (.load false 1 (.t 41))⟩ :: ⟨(some 43), none, (.len (.t 42))⟩ :: ⟨none, none, .kp [2, 3, 43]⟩ :: ⟨(some 44), none, (.mv (.c (.val (.int .i64 0))))⟩ :: []
def vc_value_Same_r9 : VCode := (.keep [2, 3] (.seq (.seq (.region false vc_value_Same_o9) vc_value_Same_r8) vc_value_Same_r1))
def vc_value_Same_o10 : List VO := ⟨(some 4), none, (.mv (.c (.val (.bool false))))⟩ :: []
def vc_value_Same_r10 : VCode := (.keep [2, 3, 40] (.cond (.t 40) (.seq (.region false vc_value_Same_o10) (.keep [4] .ret)) .skip))
def vc_value_Same_o11_6 : List VO := ⟨(some 36), (some (32, false)), (.fld 4 (.t 3))⟩ :: ⟨(some 37), (some (32, false)), (.load false 1 (.t 36))⟩ :: ⟨none, none, .kp [2, 3, 32, 35, 37]⟩ :: ⟨(some 38), (some (32, false)), (.len (.t 37))⟩ :: ⟨(some 39), (some (32, false)), (.bin .neq (.t 35) (.t 38))⟩ :: ⟨none, none, .kp [2, 3, 32, 39]⟩ :: ⟨(some 40), none, (.pick (.t 32) (.c (.val (.bool true))) (.t 39))⟩ :: []
def vc_value_Same_o11_5 : List VO := ⟨(some 31), none, (.pick (.t 25) (.c (.val (.bool true))) (.t 30))⟩ :: ⟨none, none, .kp [2, 3, 31]⟩ :: ⟨(some 32), none, (.mv (.t 31))⟩ :: ⟨(some 33), (some (32, false)), (.fld 4 (.t 2))⟩ :: ⟨(some 34), (some (32, false)), (.load false 1 (.t 33))⟩ :: ⟨none, none, .kp [2, 3, 32, 34]⟩ :: ⟨(some 35), (some (32, false)), (.len (.t 34))⟩ :: vc_value_Same_o11_6
def vc_value_Same_o11_4 : List VO := ⟨(some 26), (some (25, false)), (.fld 3 (.t 2))⟩ :: ⟨(some 27), (some (25, false)), (.load false 1 (.t 26))⟩ :: ⟨none, none, .kp [2, 3, 25, 27]⟩ :: ⟨(some 28), (some (25, false)), (.fld 3 (.t 3))⟩ :: ⟨(some 29), (some (25, false)), (.load false 1 (.t 28))⟩ :: ⟨(some 30), (some (25, false)), (.bin .neq (.t 27) (.t 29))⟩ :: ⟨none, none, .kp [2, 3, 25, 30]⟩ :: vc_value_Same_o11_5
def vc_value_Same_o11_3 : List VO := ⟨(some 21), (some (18, false)), (.fld 2 (.t 3))⟩ :: ⟨(some 22), (some (18, false)), (.load false 1 (.t 21))⟩ :: ⟨(some 23), (some (18, false)), (.bin .neq (.t 20) (.t 22))⟩ :: ⟨none, none, .kp [2, 3, 18, 23]⟩ :: ⟨(some 24), none, (.pick (.t 18) (.c (.val (.bool true))) (.t 23))⟩ :: ⟨none, none, .kp [2, 3, 24]⟩ :: ⟨(some 25), none, (.mv (.t 24))⟩ :: vc_value_Same_o11_4
def vc_value_Same_o11_2 : List VO := ⟨(some 16), (some (11, false)), (.bin .neq (.t 13) (.t 15))⟩ :: ⟨none, none, .kp [2, 3, 11, 16]⟩ :: ⟨(some 17), none, (.pick (.t 11) (.c (.val (.bool true))) (.t 16))⟩ :: ⟨none, none, .kp [2, 3, 17]⟩ :: ⟨(some 18), none, (.mv (.t 17))⟩ :: ⟨(some 19), (some (18, false)), (.fld 2 (.t 2))⟩ :: ⟨(some 20), (some (18, false)), (.load false 1 (.t 19))⟩ :: ⟨none, none, .kp [2, 3, 18, 20]⟩ :: vc_value_Same_o11_3
def vc_value_Same_o11_1 : List VO := ⟨(some 11), none, (.mv (.t 10))⟩ :: ⟨(some 12), (some (11, false)), (.fld 1 (.t 2))⟩ :: ⟨(some 13), (some (11, false)), (.load false 1 (.t 12))⟩ :: ⟨none, none, .kp [2, 3, 11, 13]⟩ :: ⟨(some 14), (some (11, false)), (.fld 1 (.t 3))⟩ :: ⟨(some 15), (some (11, false)), (.load false 1 (.t 14))⟩ :: vc_value_Same_o11_2
def vc_value_Same_o11 : List VO := ⟨(some 6), none, (.fld 0 (.t 2))⟩ :: ⟨(some 7), none, (.load false 1 (.t 6))⟩ :: ⟨(some 8), none, (.fld 0 (.t 3))⟩ :: ⟨(some 9), none, (.load false 1 (.t 8))⟩ :: ⟨none, none, .kp [2, 3, 7, 9]⟩ :: ⟨(some 10), none, (.bin .neq (.t 7) (.t 9))⟩ :: ⟨none, none, .kp [2, 3, 10]⟩ :: vc_value_Same_o11_1
def vc_value_Same_r11 : VCode := (.keep [2, 3] (.seq (.seq (.region false vc_value_Same_o11) vc_value_Same_r10) vc_value_Same_r9))
def vc_value_Same_o12 : List VO := ⟨(some 2), none, (.box 25 (.t 0))⟩ :: ⟨(some 3), none, (.box 25 (.t 1))⟩ :: ⟨none, none, .kp [2, 3]⟩ :: ⟨(some 4), none, (.mv (.c (.val (.bool false))))⟩ :: []
def vc_value_Same : VCode := (.seq (.region false vc_value_Same_o12) vc_value_Same_r11)
def rs_value_Same : List RV := [(.t 4)]
theorem comp_value_Same : ccode Try.prog (Try.f29.body.getD .skip) = some (strip vc_value_Same) := by kernel_rfl
theorem code_value_Same : IsCode Try.prog id_value_Same 60 vc_value_Same rs_value_Same := ⟨_, _, Try.func29, by kernel_rfl, rfl, comp_value_Same, by kernel_rfl, by kernel_rfl, rfl⟩

/- usher/value.Order -/
def vc_value_Order_d1 : DT := (.op false [2, 3] ⟨(some 29), none, (.call 69 [] [(.t 26), (.t 28)])⟩ (.op false [2, 3] ⟨(some 30), none, (.lit false 3 1 5 [(.val (.int .i64 0)), (.val (.int .i64 0)), (.val (.int .i64 0)), (.val (.int .i64 0)), (.val (.int .i64 0))] [(0, (1, (.t 9))), (1, (1, (.t 14))), (2, (1, (.t 19))), (3, (1, (.t 24))), (4, (1, (.t 29)))])⟩ (.op false [2, 3] ⟨(some 31), none, (.call 65 [] [(.t 30)])⟩ (.op true [] ⟨(some 4), none, (.mv (.t 31))⟩ .done))))
def vc_value_Order_d2 : DT := (.op false [2, 3] ⟨(some 9), none, (.call 66 [] [(.t 6), (.t 8)])⟩ (.op false [2, 3] ⟨(some 14), none, (.call 66 [] [(.t 11), (.t 13)])⟩ (.op false [2, 3] ⟨(some 19), none, (.call 67 [] [(.t 16), (.t 18)])⟩ (.op false [2, 3] ⟨(some 24), none, (.call 68 [] [(.t 21), (.t 23)])⟩ vc_value_Order_d1))))
def vc_value_Order_d3 : DT := (.op true [2] ⟨(some 25), none, (.fld 4 (.t 2))⟩ (.op true [2] ⟨(some 26), none, (.load false 1 (.t 25))⟩ (.op true [3] ⟨(some 27), none, (.fld 4 (.t 3))⟩ (.op true [3] ⟨(some 28), none, (.load false 1 (.t 27))⟩ vc_value_Order_d2))))
def vc_value_Order_d4 : DT := (.op true [2] ⟨(some 20), none, (.fld 3 (.t 2))⟩ (.op true [2] ⟨(some 21), none, (.load false 1 (.t 20))⟩ (.op true [3] ⟨(some 22), none, (.fld 3 (.t 3))⟩ (.op true [3] ⟨(some 23), none, (.load false 1 (.t 22))⟩ vc_value_Order_d3))))
def vc_value_Order_d5 : DT := (.op true [2] ⟨(some 15), none, (.fld 2 (.t 2))⟩ (.op true [2] ⟨(some 16), none, (.load false 1 (.t 15))⟩ (.op true [3] ⟨(some 17), none, (.fld 2 (.t 3))⟩ (.op true [3] ⟨(some 18), none, (.load false 1 (.t 17))⟩ vc_value_Order_d4))))
def vc_value_Order_d6 : DT := (.op true [2] ⟨(some 10), none, (.fld 1 (.t 2))⟩ (.op true [2] ⟨(some 11), none, (.load false 1 (.t 10))⟩ (.op true [3] ⟨(some 12), none, (.fld 1 (.t 3))⟩ (.op true [3] ⟨(some 13), none, (.load false 1 (.t 12))⟩ vc_value_Order_d5))))
def vc_value_Order_d7 : DT := (.op true [2] ⟨(some 5), none, (.fld 0 (.t 2))⟩ (.op true [2] ⟨(some 6), none, (.load false 1 (.t 5))⟩ (.op true [3] ⟨(some 7), none, (.fld 0 (.t 3))⟩ (.op true [3] ⟨(some 8), none, (.load false 1 (.t 7))⟩ vc_value_Order_d6))))
def vc_value_Order_r1 : VCode := (.keep [2, 3] (.seq (.draws [4] vc_value_Order_d7) (.keep [4] .ret)))
def vc_value_Order_o8 : List VO := ⟨(some 2), none, (.box 25 (.t 0))⟩ :: ⟨(some 3), none, (.box 25 (.t 1))⟩ :: ⟨none, none, .kp [2, 3]⟩ :: ⟨(some 4), none, (.mv (.c (.val (.int .i64 0))))⟩ :: []
def vc_value_Order : VCode := (.seq (.region false vc_value_Order_o8) vc_value_Order_r1)
def rs_value_Order : List RV := [(.t 4)]
theorem comp_value_Order : ccode Try.prog (Try.f30.body.getD .skip) = some (strip vc_value_Order) := by kernel_rfl
theorem code_value_Order : IsCode Try.prog id_value_Order 32 vc_value_Order rs_value_Order := ⟨_, _, Try.func30, by kernel_rfl, rfl, comp_value_Order, by kernel_rfl, by kernel_rfl, rfl⟩

/- usher/value.Parse -/
def vc_value_Parse_o1 : List VO := ⟨(some 17), none, (.load true 5 (.t 5))⟩ :: ⟨none, none, (.store 5 (.t 2) (.t 17))⟩ :: ⟨none, none, .kp [2]⟩ :: ⟨(some 3), none, (.mv (.c (.val (.int .i64 0))))⟩ :: []
def vc_value_Parse_r1 : VCode := (.keep [2, 5] (.seq (.region false vc_value_Parse_o1) (.keep [2, 3] .ret)))
def vc_value_Parse_o2 : List VO := ⟨(some 15), none, (.build [(.val (.int .i64 0)), (.val (.int .i64 0)), (.val (.int .u64 0)), (.val (.string ⟨#[]⟩)), (.val (.slice none 0 0))] [])⟩ :: ⟨(some 16), none, (.mv (.t 6))⟩ :: ⟨none, none, (.store 5 (.t 2) (.t 15))⟩ :: ⟨none, none, .kp [2, 16]⟩ :: ⟨(some 3), none, (.mv (.t 16))⟩ :: []
def vc_value_Parse_r2 : VCode := (.keep [2, 5, 6, 14] (.cond (.t 14) (.seq (.region false vc_value_Parse_o2) (.keep [2, 3] .ret)) .skip))
def vc_value_Parse_o3 : List VO := ⟨(some 13), none, (.mv (.t 6))⟩ :: ⟨(some 14), none, (.bin .neq (.t 13) (.c (.val (.int .i64 0))))⟩ :: []
def vc_value_Parse_r3 : VCode := (.keep [2, 5, 6] (.seq (.region false vc_value_Parse_o3) vc_value_Parse_r2))
def vc_value_Parse_o4 : List VO := ⟨(some 11), none, (.mv (.t 4))⟩ :: ⟨(some 12), none, (.call 91 [] [(.t 11)])⟩ :: ⟨none, none, .kp [2, 5, 12]⟩ :: ⟨(some 6), none, (.mv (.t 12))⟩ :: []
def vc_value_Parse_r4 : VCode := (.keep [2, 4, 5] (.seq (.seq (.region false vc_value_Parse_o4) vc_value_Parse_r3) vc_value_Parse_r1))
def vc_value_Parse_o5 : List VO := ⟨(some 9), none, (.mv (.t 4))⟩ :: ⟨(some 10), none, (.call 112 [] [(.t 9)])⟩ :: ⟨(some 5), none, (.alloc 25 [(.val (.int .i64 0)), (.val (.int .i64 0)), (.val (.int .u64 0)), (.val (.string ⟨#[]⟩)), (.val (.slice none 0 0))])⟩ :: ⟨none, none, (.store 5 (.t 5) (.t 10))⟩ :: []
def vc_value_Parse_r5 : VCode := (.keep [2, 4] (.seq (.region false vc_value_Parse_o5) vc_value_Parse_r4))
def vc_value_Parse_o6 : List VO := ⟨(some 7), none, (.mv (.t 0))⟩ :: ⟨(some 8), none, (.call 83 [] [(.t 7)])⟩ :: ⟨none, none, .kp [2, 8]⟩ :: ⟨(some 4), none, (.mv (.t 8))⟩ :: []
def vc_value_Parse_r6 : VCode := (.keep [0, 2] (.seq (.region false vc_value_Parse_o6) vc_value_Parse_r5))
def vc_value_Parse_o7 : List VO := ⟨(some 2), none, (.alloc 25 [(.val (.int .i64 0)), (.val (.int .i64 0)), (.val (.int .u64 0)), (.val (.string ⟨#[]⟩)), (.val (.slice none 0 0))])⟩ :: ⟨(some 3), none, (.mv (.c (.val (.int .i64 0))))⟩ :: []
def vc_value_Parse : VCode := (.seq (.region false vc_value_Parse_o7) vc_value_Parse_r6)
def rs_value_Parse : List RV := [(.c 2 true 5), (.t 3)]
theorem comp_value_Parse : ccode Try.prog (Try.f56.body.getD .skip) = some (strip vc_value_Parse) := by kernel_rfl
theorem code_value_Parse : IsCode Try.prog id_value_Parse 18 vc_value_Parse rs_value_Parse := ⟨_, _, Try.func56, by kernel_rfl, rfl, comp_value_Parse, by kernel_rfl, by kernel_rfl, rfl⟩

/- usher/value.Put -/
def vc_value_Put_d1 : DT := (.op true [] ⟨(some 4), none, (.mv (.t 13))⟩ .done)
def vc_value_Put_d2 : DT := (.op true [] ⟨(some 10), none, (.mv (.t 0))⟩ (.op true [3] ⟨(some 12), none, (.load true 5 (.t 3))⟩ (.op false [3] ⟨(some 11), none, (.app 5 1 1 (.c (.val (.slice none 0 0))) (.t 10))⟩ (.op false [] ⟨(some 13), none, (.call 113 [] [(.t 11), (.t 12)])⟩ vc_value_Put_d1))))
def vc_value_Put_r1 : VCode := (.keep [0, 3] (.seq (.draws [4] vc_value_Put_d2) (.keep [4] .ret)))
def vc_value_Put_o3 : List VO := ⟨(some 8), none, (.mv (.t 0))⟩ :: ⟨(some 9), none, (.app 5 1 1 (.c (.val (.slice none 0 0))) (.t 8))⟩ :: ⟨none, none, .kp [9]⟩ :: ⟨(some 4), none, (.mv (.t 9))⟩ :: []
def vc_value_Put_r2 : VCode := (.keep [0, 3, 7] (.cond (.t 7) (.seq (.region false vc_value_Put_o3) (.keep [4] .ret)) .skip))
def vc_value_Put_o4 : List VO := ⟨(some 5), none, (.load true 5 (.t 3))⟩ :: ⟨(some 6), none, (.call 27 [] [(.t 5)])⟩ :: ⟨(some 7), none, (.bin .neq (.t 6) (.c (.val (.int .i64 0))))⟩ :: []
def vc_value_Put_r3 : VCode := (.keep [0, 3] (.seq (.seq (.region false vc_value_Put_o4) vc_value_Put_r2) vc_value_Put_r1))
def vc_value_Put_o5 : List VO := ⟨(some 3), none, (.box 25 (.t 1))⟩ :: ⟨(some 4), none, (.mv (.c (.val (.slice none 0 0))))⟩ :: []
def vc_value_Put : VCode := (.seq (.region false vc_value_Put_o5) vc_value_Put_r3)
def rs_value_Put : List RV := [(.t 4)]
theorem comp_value_Put : ccode Try.prog (Try.f57.body.getD .skip) = some (strip vc_value_Put) := by kernel_rfl
theorem code_value_Put : IsCode Try.prog id_value_Put 14 vc_value_Put rs_value_Put := ⟨_, _, Try.func57, by kernel_rfl, rfl, comp_value_Put, by kernel_rfl, by kernel_rfl, rfl⟩

/- usher/value.size -/
def vc_value_size_o1 : List VO := ⟨(some 70), none, (.mv (.t 5))⟩ :: ⟨(some 4), none, (.mv (.t 70))⟩ :: []
def vc_value_size_r1 : VCode := (.keep [5] (.seq (.region false vc_value_size_o1) (.keep [4] .ret)))
def vc_value_size_o2 : List VO := ⟨(some 37), none, (.mv (.t 5))⟩ :: ⟨(some 38), none, (.bin .add (.t 37) (.c (.val (.int .i64 8))))⟩ :: ⟨none, none, .kp [38]⟩ :: ⟨(some 5), none, (.mv (.t 38))⟩ :: []
def vc_value_size_o3_1 : List VO := ⟨(some 46), none, (.bin .add (.t 41) (.t 45))⟩ :: ⟨none, none, .kp [46]⟩ :: ⟨(some 5), none, (.mv (.t 46))⟩ :: []
def vc_value_size_o3 : List VO := ⟨(some 41), none, (.mv (.t 5))⟩ :: ⟨(some 42), none, (.fld 3 (.t 2))⟩ :: ⟨none, none, .kp [41, 42]⟩ :: ⟨(some 43), none, (.load false 1 (.t 42))⟩ :: ⟨(some 44), none, (.lenS (.t 43))⟩ :: ⟨none, none, .kp [41, 44]⟩ :: ⟨(some 45), none, (.bin .add (.c (.val (.int .i64 1))) (.t 44))⟩ :: vc_value_size_o3_1
def vc_value_size_o4 : List VO := ⟨(some 69), none, (.bin .add (.t 56) (.c (.val (.int .i64 1))))⟩ :: ⟨(some 56), none, (.mv (.t 69))⟩ :: []
def vc_value_size_r2 : VCode := (.keep [1, 5, 54, 55, 56] (.region false vc_value_size_o4))
def vc_value_size_o5 : List VO := ⟨(some 66), none, (.mv (.t 5))⟩ :: ⟨(some 67), none, (.mv (.t 8))⟩ :: ⟨none, none, .kp [1, 54, 55, 56, 66, 67]⟩ :: ⟨(some 68), none, (.bin .add (.t 66) (.t 67))⟩ :: ⟨none, none, .kp [1, 54, 55, 56, 68]⟩ :: ⟨(some 5), none, (.mv (.t 68))⟩ :: []
def vc_value_size_r3 : VCode := (.keep [1, 5, 8, 54, 55, 56] (.region false vc_value_size_o5))
def vc_value_size_o6 : List VO := ⟨(some 4), none, (.mv (.c (.val (.int .i64 (-1)))))⟩ :: []
def vc_value_size_r4 : VCode := (.keep [1, 5, 8, 54, 55, 56, 65] (.cond (.t 65) (.seq (.region false vc_value_size_o6) (.keep [4] .ret)) .skip))
def vc_value_size_o7 : List VO := ⟨(some 64), none, (.mv (.t 8))⟩ :: ⟨(some 65), none, (.bin .lss (.t 64) (.c (.val (.int .i64 0))))⟩ :: []
def vc_value_size_r5 : VCode := (.keep [1, 5, 8, 54, 55, 56] (.seq (.seq (.region false vc_value_size_o7) vc_value_size_r4) vc_value_size_r3))
def vc_value_size_o8 : List VO := ⟨(some 60), none, (.load true 5 (.t 7))⟩ :: ⟨(some 61), none, (.mv (.t 1))⟩ :: ⟨(some 62), none, (.bin .sub (.t 61) (.c (.val (.int .i64 1))))⟩ :: ⟨none, none, .kp [1, 5, 54, 55, 56, 60, 62]⟩ :: ⟨(some 63), none, (.call 62 [] [(.t 60), (.t 62)])⟩ :: ⟨none, none, .kp [1, 5, 54, 55, 56, 63]⟩ :: ⟨(some 8), none, (.mv (.t 63))⟩ :: []
def vc_value_size_r6 : VCode := (.keep [1, 5, 7, 54, 55, 56] (.seq (.region false vc_value_size_o8) vc_value_size_r5))
def vc_value_size_o9 : List VO := ⟨(some 58), none, (.idx 5 (.t 54) (.t 56))⟩ :: ⟨(some 59), none, (.load true 5 (.t 58))⟩ :: ⟨(some 7), none, (.alloc 25 [(.val (.int .i64 0)), (.val (.int .i64 0)), (.val (.int .u64 0)), (.val (.string ⟨#[]⟩)), (.val (.slice none 0 0))])⟩ :: ⟨none, none, (.store 5 (.t 7) (.t 59))⟩ :: []
def vc_value_size_r7 : VCode := (.keep [1, 5, 54, 55, 56] (.seq (.block 2 (.seq (.region false vc_value_size_o9) vc_value_size_r6)) vc_value_size_r2))
def vc_value_size_r8 : VCode := (.keep [1, 5, 54, 55, 56, 57] (.seq (.cond (.t 57) .skip (.exit 1)) vc_value_size_r7))
def vc_value_size_o10 : List VO := ⟨(some 57), none, (.bin .lss (.t 56) (.t 55))⟩ :: []
def vc_value_size_l9 : VCode := (.seq (.region false vc_value_size_o10) vc_value_size_r8)
def vc_value_size_r10 : VCode := (.keep [1, 5, 54, 55, 56] (.block 1 (.loop (.keep [1, 5, 54, 55, 56] vc_value_size_l9))))
def vc_value_size_o11 : List VO := ⟨(some 53), none, (.fld 4 (.t 2))⟩ :: ⟨(some 54), none, (.load false 1 (.t 53))⟩ :: ⟨none, none, .kp [1, 5, 54]⟩ :: ⟨(some 55), none, (.len (.t 54))⟩ :: ⟨(some 56), none, (.mv (.c (.val (.int .i64 0))))⟩ :: []
def vc_value_size_r11 : VCode := (.keep [1, 2, 5] (.seq (.region false vc_value_size_o11) vc_value_size_r10))
def vc_value_size_o12 : List VO := ⟨(some 51), none, (.mv (.t 5))⟩ :: ⟨(some 52), none, (.bin .add (.t 51) (.c (.val (.int .i64 1))))⟩ :: ⟨none, none, .kp [1, 2, 52]⟩ :: ⟨(some 5), none, (.mv (.t 52))⟩ :: []
def vc_value_size_r12 : VCode := (.keep [1, 2, 5] (.seq (.region false vc_value_size_o12) vc_value_size_r11))
def vc_value_size_o13 : List VO := ⟨(some 4), none, (.mv (.c (.val (.int .i64 (-1)))))⟩ :: []
def vc_value_size_r13 : VCode := (.keep [1, 2, 5, 50] (.cond (.t 50) (.seq (.region false vc_value_size_o13) (.keep [4] .ret)) .skip))
def vc_value_size_o14 : List VO := ⟨(some 49), none, (.mv (.t 1))⟩ :: ⟨(some 50), none, (.bin .eql (.t 49) (.c (.val (.int .i64 0))))⟩ :: []
def vc_value_size_c14 : VCode := (.seq (.seq (.region false vc_value_size_o14) vc_value_size_r13) vc_value_size_r12)
def vc_value_size_r15 : VCode := (.keep [1, 2, 5, 47] (.cond (.t 47) vc_value_size_c14 .skip))
def vc_value_size_o15 : List VO := ⟨(some 48), none, (.bin .eql (.t 33) (.c (.val (.int .i64 4))))⟩ :: ⟨(some 47), none, (.mv (.t 48))⟩ :: []
def vc_value_size_r16 : VCode := (.keep [1, 2, 5, 33, 39] (.cond (.t 39) (.region false vc_value_size_o3) (.seq (.region false vc_value_size_o15) vc_value_size_r15)))
def vc_value_size_o16 : List VO := ⟨(some 40), none, (.bin .eql (.t 33) (.c (.val (.int .i64 3))))⟩ :: ⟨(some 39), none, (.mv (.t 40))⟩ :: []
def vc_value_size_r17 : VCode := (.keep [1, 2, 5, 33, 34] (.cond (.t 34) (.region false vc_value_size_o2) (.seq (.region false vc_value_size_o16) vc_value_size_r16)))
def vc_value_size_o17 : List VO := ⟨(some 36), none, (.bin .eql (.t 33) (.c (.val (.int .i64 2))))⟩ :: ⟨(some 34), none, (.mv (.t 36))⟩ :: []
def vc_value_size_r18 : VCode := (.keep [1, 2, 5, 33, 34] (.cond (.t 34) .skip (.region false vc_value_size_o17)))
def vc_value_size_o18 : List VO := ⟨(some 35), none, (.bin .eql (.t 33) (.c (.val (.int .i64 1))))⟩ :: ⟨(some 34), none, (.mv (.t 35))⟩ :: []
def vc_value_size_c19 : VCode := (.seq (.seq (.region false vc_value_size_o18) vc_value_size_r18) vc_value_size_r17)
def vc_value_size_r20 : VCode := (.keep [1, 2, 5, 33] (.block 0 vc_value_size_c19))
def vc_value_size_o19 : List VO := ⟨(some 32), none, (.fld 0 (.t 2))⟩ :: ⟨(some 33), none, (.load false 1 (.t 32))⟩ :: []
def vc_value_size_r21 : VCode := (.keep [1, 2, 5] (.seq (.seq (.region false vc_value_size_o19) vc_value_size_r20) vc_value_size_r1))
def vc_value_size_o20 : List VO := ⟨(some 5), none, (.mv (.c (.val (.int .i64 1))))⟩ :: []
def vc_value_size_r22 : VCode := (.keep [1, 2] (.seq (.region false vc_value_size_o20) vc_value_size_r21))
def vc_value_size_o21 : List VO := ⟨(some 4), none, (.mv (.c (.val (.int .i64 (-1)))))⟩ :: []
def vc_value_size_r23 : VCode := (.keep [1, 2, 31] (.cond (.t 31) (.seq (.region false vc_value_size_o21) (.keep [4] .ret)) .skip))
def vc_value_size_d22 : DT := (.op false [2] ⟨(some 27), (some (24, false)), (.call 38 [] [(.t 26)])⟩ (.op true [] ⟨(some 30), (some (24, false)), (.bin .neq (.t 27) (.t 29))⟩ (.op true [] ⟨(some 31), none, (.pick (.t 24) (.c (.val (.bool true))) (.t 30))⟩ .done)))
def vc_value_size_d23 : DT := (.op true [2] ⟨(some 25), (some (24, false)), (.fld 2 (.t 2))⟩ (.op true [2] ⟨(some 26), (some (24, false)), (.load false 1 (.t 25))⟩ (.op true [2] ⟨(some 28), (some (24, false)), (.fld 2 (.t 2))⟩ (.op true [2] ⟨(some 29), (some (24, false)), (.load false 1 (.t 28))⟩ vc_value_size_d22))))
def vc_value_size_d24 : DT := (.op true [] ⟨(some 21), (some (18, false)), (.len (.t 20))⟩ (.op true [] ⟨(some 22), (some (18, false)), (.bin .gtr (.t 21) (.c (.val (.int .i64 12))))⟩ (.op true [] ⟨(some 23), none, (.pick (.t 18) (.c (.val (.bool true))) (.t 22))⟩ (.op true [] ⟨(some 24), none, (.mv (.t 23))⟩ vc_value_size_d23))))
def vc_value_size_d25 : DT := (.op true [] ⟨(some 17), none, (.pick (.t 12) (.c (.val (.bool true))) (.t 16))⟩ (.op true [] ⟨(some 18), none, (.mv (.t 17))⟩ (.op true [2] ⟨(some 19), (some (18, false)), (.fld 4 (.t 2))⟩ (.op true [2] ⟨(some 20), (some (18, false)), (.load false 1 (.t 19))⟩ vc_value_size_d24))))
def vc_value_size_d26 : DT := (.op true [2] ⟨(some 13), (some (12, false)), (.fld 3 (.t 2))⟩ (.op true [2] ⟨(some 14), (some (12, false)), (.load false 1 (.t 13))⟩ (.op true [] ⟨(some 15), (some (12, false)), (.lenS (.t 14))⟩ (.op true [] ⟨(some 16), (some (12, false)), (.bin .gtr (.t 15) (.c (.val (.int .i64 200))))⟩ vc_value_size_d25))))
def vc_value_size_d27 : DT := (.op true [2] ⟨(some 9), none, (.load true 5 (.t 2))⟩ (.op false [2] ⟨(some 10), none, (.call 116 [] [(.t 9)])⟩ (.op true [] ⟨(some 11), none, (.un .not (.t 10))⟩ (.op true [] ⟨(some 12), none, (.mv (.t 11))⟩ vc_value_size_d26))))
def vc_value_size_r24 : VCode := (.keep [1, 2] (.seq (.seq (.draws [1, 2, 31] vc_value_size_d27) vc_value_size_r23) vc_value_size_r22))
def vc_value_size_o28 : List VO := ⟨(some 2), none, (.box 25 (.t 0))⟩ :: ⟨(some 4), none, (.mv (.c (.val (.int .i64 0))))⟩ :: []
def vc_value_size : VCode := (.seq (.region false vc_value_size_o28) vc_value_size_r24)
def rs_value_size : List RV := [(.t 4)]
theorem comp_value_size : ccode Try.prog (Try.f62.body.getD .skip) = some (strip vc_value_size) := by kernel_rfl
theorem code_value_size : IsCode Try.prog id_value_size 71 vc_value_size rs_value_size := ⟨_, _, Try.func62, by kernel_rfl, rfl, comp_value_size, by kernel_rfl, by kernel_rfl, rfl⟩

/- usher/value.lists -/
def vc_value_lists_o1_1 : List VO := ⟨(some 4), none, (.mv (.t 32))⟩ :: []
def vc_value_lists_o1 : List VO := ⟨(some 28), none, (.mv (.t 0))⟩ :: ⟨(some 29), none, (.len (.t 28))⟩ :: ⟨none, none, .kp [1, 29]⟩ :: ⟨(some 30), none, (.mv (.t 1))⟩ :: ⟨(some 31), none, (.len (.t 30))⟩ :: ⟨none, none, .kp [29, 31]⟩ :: ⟨(some 32), none, (.call 66 [] [(.t 29), (.t 31)])⟩ :: ⟨none, none, .kp [32]⟩ :: vc_value_lists_o1_1
def vc_value_lists_r1 : VCode := (.keep [0, 1] (.seq (.region false vc_value_lists_o1) (.keep [4] .ret)))
def vc_value_lists_o2 : List VO := ⟨(some 27), none, (.bin .add (.t 12) (.c (.val (.int .i64 1))))⟩ :: ⟨(some 12), none, (.mv (.t 27))⟩ :: []
def vc_value_lists_r2 : VCode := (.keep [0, 1, 11, 12] (.region false vc_value_lists_o2))
def vc_value_lists_o3 : List VO := ⟨(some 26), none, (.mv (.t 6))⟩ :: ⟨(some 4), none, (.mv (.t 26))⟩ :: []
def vc_value_lists_r3 : VCode := (.keep [0, 1, 6, 11, 12, 25] (.cond (.t 25) (.seq (.region false vc_value_lists_o3) (.keep [4] .ret)) .skip))
def vc_value_lists_o4 : List VO := ⟨(some 24), none, (.mv (.t 6))⟩ :: ⟨(some 25), none, (.bin .neq (.t 24) (.c (.val (.int .i64 0))))⟩ :: []
def vc_value_lists_r4 : VCode := (.keep [0, 1, 6, 11, 12] (.seq (.region false vc_value_lists_o4) vc_value_lists_r3))
def vc_value_lists_d5 : DT := (.op false [] ⟨(some 23), none, (.call 30 [] [(.t 18), (.t 22)])⟩ (.op true [] ⟨(some 6), none, (.mv (.t 23))⟩ .done))
def vc_value_lists_d6 : DT := (.op true [] ⟨(some 19), none, (.mv (.t 1))⟩ (.op true [] ⟨(some 20), none, (.mv (.t 5))⟩ (.op true [] ⟨(some 21), none, (.idx 5 (.t 19) (.t 20))⟩ (.op true [] ⟨(some 22), none, (.load true 5 (.t 21))⟩ vc_value_lists_d5))))
def vc_value_lists_d7 : DT := (.op true [] ⟨(some 15), none, (.mv (.t 0))⟩ (.op true [] ⟨(some 16), none, (.mv (.t 5))⟩ (.op true [] ⟨(some 17), none, (.idx 5 (.t 15) (.t 16))⟩ (.op true [] ⟨(some 18), none, (.load true 5 (.t 17))⟩ vc_value_lists_d6))))
def vc_value_lists_r5 : VCode := (.keep [0, 1, 5, 11, 12] (.seq (.draws [0, 1, 6, 11, 12] vc_value_lists_d7) vc_value_lists_r4))
def vc_value_lists_o8 : List VO := ⟨(some 14), none, (.mv (.t 12))⟩ :: ⟨(some 5), none, (.mv (.t 14))⟩ :: []
def vc_value_lists_r6 : VCode := (.keep [0, 1, 11, 12] (.seq (.block 1 (.seq (.region false vc_value_lists_o8) vc_value_lists_r5)) vc_value_lists_r2))
def vc_value_lists_r7 : VCode := (.keep [0, 1, 11, 12, 13] (.seq (.cond (.t 13) .skip (.exit 0)) vc_value_lists_r6))
def vc_value_lists_o9 : List VO := ⟨(some 13), none, (.bin .lss (.t 12) (.t 11))⟩ :: []
def vc_value_lists_l8 : VCode := (.seq (.region false vc_value_lists_o9) vc_value_lists_r7)
def vc_value_lists_r9 : VCode := (.keep [0, 1, 11, 12] (.block 0 (.loop (.keep [0, 1, 11, 12] vc_value_lists_l8))))
def vc_value_lists_o10_1 : List VO := ⟨(some 12), none, (.mv (.c (.val (.int .i64 0))))⟩ :: []
def vc_value_lists_o10 : List VO := ⟨(some 7), none, (.mv (.t 0))⟩ :: ⟨(some 8), none, (.len (.t 7))⟩ :: ⟨(some 9), none, (.mv (.t 1))⟩ :: ⟨(some 10), none, (.len (.t 9))⟩ :: ⟨none, none, .kp [0, 1, 8, 10]⟩ :: ⟨(some 11), none, (.mm false (.t 8) (.t 10))⟩ :: ⟨none, none, .kp [0, 1, 11]⟩ :: vc_value_lists_o10_1
def vc_value_lists_r10 : VCode := (.keep [0, 1] (.seq (.seq (.region false vc_value_lists_o10) vc_value_lists_r9) vc_value_lists_r1))
def vc_value_lists_o11 : List VO := ⟨(some 4), none, (.mv (.c (.val (.int .i64 0))))⟩ :: []
def vc_value_lists : VCode := (.seq (.region false vc_value_lists_o11) vc_value_lists_r10)
def rs_value_lists : List RV := [(.t 4)]
theorem comp_value_lists : ccode Try.prog (Try.f69.body.getD .skip) = some (strip vc_value_lists) := by kernel_rfl
theorem code_value_lists : IsCode Try.prog id_value_lists 33 vc_value_lists rs_value_lists := ⟨_, _, Try.func69, by kernel_rfl, rfl, comp_value_lists, by kernel_rfl, by kernel_rfl, rfl⟩

/- usher/value.Read -/
def vc_value_Read_o1 : List VO := ⟨(some 20), none, (.load true 5 (.t 4))⟩ :: ⟨none, none, (.store 5 (.t 2) (.t 20))⟩ :: []
def vc_value_Read_r1 : VCode := (.keep [2, 4] (.seq (.region false vc_value_Read_o1) (.keep [2] .ret)))
def vc_value_Read_o2 : List VO := ⟨(some 19), none, (.build [(.val (.int .i64 0)), (.val (.int .i64 0)), (.val (.int .u64 0)), (.val (.string ⟨#[]⟩)), (.val (.slice none 0 0))] [])⟩ :: ⟨none, none, (.store 5 (.t 2) (.t 19))⟩ :: []
def vc_value_Read_r2 : VCode := (.keep [2, 4, 18] (.cond (.t 18) (.seq (.region false vc_value_Read_o2) (.keep [2] .ret)) .skip))
def vc_value_Read_o3 : List VO := ⟨(some 16), none, (.mv (.t 0))⟩ :: ⟨(some 17), none, (.call 90 [] [(.t 16)])⟩ :: ⟨none, none, .kp [2, 4, 17]⟩ :: ⟨(some 18), none, (.bin .neq (.t 17) (.c (.val (.int .i64 0))))⟩ :: []
def vc_value_Read_r3 : VCode := (.keep [0, 2, 4] (.seq (.seq (.region false vc_value_Read_o3) vc_value_Read_r2) vc_value_Read_r1))
def vc_value_Read_o4 : List VO := ⟨(some 14), none, (.mv (.t 0))⟩ :: ⟨(some 15), none, (.call 134 [] [(.t 14), (.c (.val (.int .i64 5)))])⟩ :: []
def vc_value_Read_r4 : VCode := (.keep [0, 2, 4, 13] (.cond (.t 13) (.region false vc_value_Read_o4) .skip))
def vc_value_Read_o5 : List VO := ⟨(some 9), none, (.mv (.t 3))⟩ :: ⟨(some 10), none, (.mv (.t 0))⟩ :: ⟨(some 11), none, (.call 136 [] [(.t 10)])⟩ :: ⟨none, none, .kp [0, 2, 4, 9, 11]⟩ :: ⟨(some 12), none, (.bin .sub (.t 9) (.t 11))⟩ :: ⟨none, none, .kp [0, 2, 4, 12]⟩ :: ⟨(some 13), none, (.bin .gtr (.t 12) (.c (.val (.int .i64 1000))))⟩ :: []
def vc_value_Read_r5 : VCode := (.keep [0, 2, 3, 4] (.seq (.seq (.region false vc_value_Read_o5) vc_value_Read_r4) vc_value_Read_r3))
def vc_value_Read_o6 : List VO := ⟨(some 7), none, (.mv (.t 0))⟩ :: ⟨(some 8), none, (.call 147 [] [(.t 7), (.c (.val (.int .i64 4)))])⟩ :: ⟨(some 4), none, (.alloc 25 [(.val (.int .i64 0)), (.val (.int .i64 0)), (.val (.int .u64 0)), (.val (.string ⟨#[]⟩)), (.val (.slice none 0 0))])⟩ :: ⟨none, none, (.store 5 (.t 4) (.t 8))⟩ :: []
def vc_value_Read_r6 : VCode := (.keep [0, 2, 3] (.seq (.region false vc_value_Read_o6) vc_value_Read_r5))
def vc_value_Read_o7 : List VO := ⟨(some 5), none, (.mv (.t 0))⟩ :: ⟨(some 6), none, (.call 136 [] [(.t 5)])⟩ :: ⟨(some 3), none, (.mv (.t 6))⟩ :: []
def vc_value_Read_r7 : VCode := (.keep [0, 2] (.seq (.region false vc_value_Read_o7) vc_value_Read_r6))
def vc_value_Read_o8 : List VO := ⟨(some 2), none, (.alloc 25 [(.val (.int .i64 0)), (.val (.int .i64 0)), (.val (.int .u64 0)), (.val (.string ⟨#[]⟩)), (.val (.slice none 0 0))])⟩ :: []
def vc_value_Read : VCode := (.seq (.region false vc_value_Read_o8) vc_value_Read_r7)
def rs_value_Read : List RV := [(.c 2 true 5)]
theorem comp_value_Read : ccode Try.prog (Try.f112.body.getD .skip) = some (strip vc_value_Read) := by kernel_rfl
theorem code_value_Read : IsCode Try.prog id_value_Read 21 vc_value_Read rs_value_Read := ⟨_, _, Try.func112, by kernel_rfl, rfl, comp_value_Read, by kernel_rfl, by kernel_rfl, rfl⟩

/- usher/value.put -/
def vc_value_put_o1 : List VO := ⟨(some 49), none, (.mv (.t 0))⟩ :: ⟨(some 4), none, (.mv (.t 49))⟩ :: []
def vc_value_put_r1 : VCode := (.keep [0] (.seq (.region false vc_value_put_o1) (.keep [4] .ret)))
def vc_value_put_o2 : List VO := ⟨(some 15), none, (.mv (.t 0))⟩ :: ⟨(some 16), none, (.fld 1 (.t 3))⟩ :: ⟨none, none, .kp [15, 16]⟩ :: ⟨(some 17), none, (.load false 1 (.t 16))⟩ :: ⟨(some 18), none, (.call 148 [] [(.t 15), (.t 17)])⟩ :: ⟨none, none, .kp [18]⟩ :: ⟨(some 4), none, (.mv (.t 18))⟩ :: []
def vc_value_put_o3 : List VO := ⟨(some 21), none, (.mv (.t 0))⟩ :: ⟨(some 22), none, (.fld 2 (.t 3))⟩ :: ⟨none, none, .kp [21, 22]⟩ :: ⟨(some 23), none, (.load false 1 (.t 22))⟩ :: ⟨(some 24), none, (.call 149 [] [(.t 21), (.t 23)])⟩ :: ⟨none, none, .kp [24]⟩ :: ⟨(some 4), none, (.mv (.t 24))⟩ :: []
def vc_value_put_o4 : List VO := ⟨(some 27), none, (.mv (.t 0))⟩ :: ⟨(some 28), none, (.fld 3 (.t 3))⟩ :: ⟨none, none, .kp [27, 28]⟩ :: ⟨(some 29), none, (.load false 1 (.t 28))⟩ :: ⟨(some 30), none, (.call 79 [] [(.t 27), (.t 29)])⟩ :: ⟨none, none, .kp [30]⟩ :: ⟨(some 4), none, (.mv (.t 30))⟩ :: []
def vc_value_put_o5 : List VO := ⟨(some 48), none, (.bin .add (.t 41) (.c (.val (.int .i64 1))))⟩ :: ⟨(some 41), none, (.mv (.t 48))⟩ :: []
def vc_value_put_r2 : VCode := (.keep [0, 39, 40, 41] (.region false vc_value_put_o5))
def vc_value_put_o6 : List VO := ⟨(some 45), none, (.mv (.t 0))⟩ :: ⟨(some 46), none, (.load true 5 (.t 6))⟩ :: ⟨none, none, .kp [39, 40, 41, 45, 46]⟩ :: ⟨(some 47), none, (.call 113 [] [(.t 45), (.t 46)])⟩ :: ⟨none, none, .kp [39, 40, 41, 47]⟩ :: ⟨(some 0), none, (.mv (.t 47))⟩ :: []
def vc_value_put_r3 : VCode := (.keep [0, 6, 39, 40, 41] (.region false vc_value_put_o6))
def vc_value_put_o7 : List VO := ⟨(some 43), none, (.idx 5 (.t 39) (.t 41))⟩ :: ⟨(some 44), none, (.load true 5 (.t 43))⟩ :: ⟨(some 6), none, (.alloc 25 [(.val (.int .i64 0)), (.val (.int .i64 0)), (.val (.int .u64 0)), (.val (.string ⟨#[]⟩)), (.val (.slice none 0 0))])⟩ :: ⟨none, none, (.store 5 (.t 6) (.t 44))⟩ :: []
def vc_value_put_r4 : VCode := (.keep [0, 39, 40, 41] (.seq (.block 2 (.seq (.region false vc_value_put_o7) vc_value_put_r3)) vc_value_put_r2))
def vc_value_put_r5 : VCode := (.keep [0, 39, 40, 41, 42] (.seq (.cond (.t 42) .skip (.exit 1)) vc_value_put_r4))
def vc_value_put_o8 : List VO := ⟨(some 42), none, (.bin .lss (.t 41) (.t 40))⟩ :: []
def vc_value_put_l6 : VCode := (.seq (.region false vc_value_put_o8) vc_value_put_r5)
def vc_value_put_r7 : VCode := (.keep [0, 39, 40, 41] (.block 1 (.loop (.keep [0, 39, 40, 41] vc_value_put_l6))))
def vc_value_put_o9 : List VO := ⟨(some 38), none, (.fld 4 (.t 3))⟩ :: ⟨(some 39), none, (.load false 1 (.t 38))⟩ :: ⟨none, none, .kp [0, 39]⟩ :: ⟨(some 40), none, (.len (.t 39))⟩ :: ⟨(some 41), none, (.mv (.c (.val (.int .i64 0))))⟩ :: []
def vc_value_put_r8 : VCode := (.keep [0, 3] (.seq (.region false vc_value_put_o9) vc_value_put_r7))
def vc_value_put_o10_1 : List VO := ⟨(some 0), none, (.mv (.t 37))⟩ :: []
def vc_value_put_o10 : List VO := ⟨(some 33), none, (.mv (.t 0))⟩ :: ⟨(some 34), none, (.fld 4 (.t 3))⟩ :: ⟨(some 35), none, (.load false 1 (.t 34))⟩ :: ⟨none, none, .kp [3, 33, 35]⟩ :: ⟨(some 36), none, (.len (.t 35))⟩ :: ⟨(some 37), none, (.call 77 [] [(.t 33), (.t 36)])⟩ :: ⟨none, none, .kp [3, 37]⟩ :: vc_value_put_o10_1
def vc_value_put_r9 : VCode := (.keep [0, 3, 31] (.cond (.t 31) (.seq (.region false vc_value_put_o10) vc_value_put_r8) .skip))
def vc_value_put_o11 : List VO := ⟨(some 32), none, (.bin .eql (.t 12) (.c (.val (.int .i64 4))))⟩ :: ⟨(some 31), none, (.mv (.t 32))⟩ :: []
def vc_value_put_r10 : VCode := (.keep [0, 3, 12, 25] (.cond (.t 25) (.seq (.region false vc_value_put_o4) (.keep [4] .ret)) (.seq (.region false vc_value_put_o11) vc_value_put_r9)))
def vc_value_put_o12 : List VO := ⟨(some 26), none, (.bin .eql (.t 12) (.c (.val (.int .i64 3))))⟩ :: ⟨(some 25), none, (.mv (.t 26))⟩ :: []
def vc_value_put_r11 : VCode := (.keep [0, 3, 12, 19] (.cond (.t 19) (.seq (.region false vc_value_put_o3) (.keep [4] .ret)) (.seq (.region false vc_value_put_o12) vc_value_put_r10)))
def vc_value_put_o13 : List VO := ⟨(some 20), none, (.bin .eql (.t 12) (.c (.val (.int .i64 2))))⟩ :: ⟨(some 19), none, (.mv (.t 20))⟩ :: []
def vc_value_put_r12 : VCode := (.keep [0, 3, 12, 13] (.cond (.t 13) (.seq (.region false vc_value_put_o2) (.keep [4] .ret)) (.seq (.region false vc_value_put_o13) vc_value_put_r11)))
def vc_value_put_o14 : List VO := ⟨(some 14), none, (.bin .eql (.t 12) (.c (.val (.int .i64 1))))⟩ :: ⟨(some 13), none, (.mv (.t 14))⟩ :: []
def vc_value_put_r13 : VCode := (.keep [0, 3, 12] (.block 0 (.seq (.region false vc_value_put_o14) vc_value_put_r12)))
def vc_value_put_o15 : List VO := ⟨(some 11), none, (.fld 0 (.t 3))⟩ :: ⟨(some 12), none, (.load false 1 (.t 11))⟩ :: []
def vc_value_put_r14 : VCode := (.keep [0, 3] (.seq (.seq (.region false vc_value_put_o15) vc_value_put_r13) vc_value_put_r1))
def vc_value_put_o16 : List VO := ⟨(some 7), none, (.mv (.t 0))⟩ :: ⟨(some 8), none, (.fld 0 (.t 3))⟩ :: ⟨(some 9), none, (.load false 1 (.t 8))⟩ :: ⟨none, none, .kp [3, 7, 9]⟩ :: ⟨(some 10), none, (.call 77 [] [(.t 7), (.t 9)])⟩ :: ⟨none, none, .kp [3, 10]⟩ :: ⟨(some 0), none, (.mv (.t 10))⟩ :: []
def vc_value_put_r15 : VCode := (.keep [0, 3] (.seq (.region false vc_value_put_o16) vc_value_put_r14))
def vc_value_put_o17 : List VO := ⟨(some 3), none, (.box 25 (.t 1))⟩ :: ⟨(some 4), none, (.mv (.c (.val (.slice none 0 0))))⟩ :: []
def vc_value_put : VCode := (.seq (.region false vc_value_put_o17) vc_value_put_r15)
def rs_value_put : List RV := [(.t 4)]
theorem comp_value_put : ccode Try.prog (Try.f113.body.getD .skip) = some (strip vc_value_put) := by kernel_rfl
theorem code_value_put : IsCode Try.prog id_value_put 50 vc_value_put rs_value_put := ⟨_, _, Try.func113, by kernel_rfl, rfl, comp_value_put, by kernel_rfl, by kernel_rfl, rfl⟩

/- usher/value.only -/
def vc_value_only_o1_1 : List VO := ⟨(some 47), (some (45, true)), (.load false 1 (.t 46))⟩ :: ⟨(some 48), (some (45, true)), (.bin .leq (.t 47) (.c (.val (.int .i64 4))))⟩ :: ⟨none, none, .kp [45, 48]⟩ :: ⟨(some 49), none, (.pick (.t 45) (.t 48) (.c (.val (.bool false))))⟩ :: ⟨none, none, .kp [49]⟩ :: ⟨(some 2), none, (.mv (.t 49))⟩ :: []
def vc_value_only_o1 : List VO := ⟨(some 42), none, (.fld 0 (.t 1))⟩ :: ⟨(some 43), none, (.load false 1 (.t 42))⟩ :: ⟨(some 44), none, (.bin .geq (.t 43) (.c (.val (.int .i64 0))))⟩ :: ⟨none, none, .kp [1, 44]⟩ :: ⟨(some 45), none, (.mv (.t 44))⟩ :: ⟨(some 46), (some (45, true)), (.fld 0 (.t 1))⟩ :: ⟨none, none, .kp [45, 46]⟩ :: vc_value_only_o1_1
def vc_value_only_r1 : VCode := (.keep [1] (.seq (.region false vc_value_only_o1) (.keep [2] .ret)))
def vc_value_only_o2 : List VO := ⟨(some 41), none, (.bin .add (.t 4) (.c (.val (.int .i64 1))))⟩ :: ⟨(some 4), none, (.mv (.t 41))⟩ :: []
def vc_value_only_r2 : VCode := (.keep [1, 4] (.region false vc_value_only_o2))
def vc_value_only_o3 : List VO := ⟨(some 2), none, (.mv (.c (.val (.bool false))))⟩ :: []
def vc_value_only_r3 : VCode := (.keep [1, 4, 11] (.cond (.t 11) (.seq (.region false vc_value_only_o3) (.keep [2] .ret)) .skip))
def vc_value_only_o4_1 : List VO := ⟨(some 38), (some (35, true)), (.len (.t 37))⟩ :: ⟨(some 39), (some (35, true)), (.bin .gtr (.t 38) (.c (.val (.int .i64 0))))⟩ :: ⟨none, none, .kp [1, 4, 35, 39]⟩ :: ⟨(some 40), none, (.pick (.t 35) (.t 39) (.c (.val (.bool false))))⟩ :: ⟨none, none, .kp [1, 4, 40]⟩ :: ⟨(some 11), none, (.mv (.t 40))⟩ :: []
def vc_value_only_o4 : List VO := ⟨(some 33), none, (.mv (.t 3))⟩ :: ⟨(some 34), none, (.bin .eql (.t 33) (.c (.val (.int .i64 4))))⟩ :: ⟨none, none, .kp [1, 4, 34]⟩ :: ⟨(some 35), none, (.mv (.t 34))⟩ :: ⟨(some 36), (some (35, true)), (.fld 4 (.t 1))⟩ :: ⟨(some 37), (some (35, true)), (.load false 1 (.t 36))⟩ :: ⟨none, none, .kp [1, 4, 35, 37]⟩ :: vc_value_only_o4_1
def vc_value_only_r4 : VCode := (.keep [1, 3, 4, 11] (.cond (.t 11) .skip (.region false vc_value_only_o4)))
def vc_value_only_o5_1 : List VO := ⟨(some 31), (some (28, true)), (.bin .neq (.t 30) (.c (.val (.string ⟨#[]⟩))))⟩ :: ⟨none, none, .kp [1, 3, 4, 28, 31]⟩ :: ⟨(some 32), none, (.pick (.t 28) (.t 31) (.c (.val (.bool false))))⟩ :: ⟨none, none, .kp [1, 3, 4, 32]⟩ :: ⟨(some 11), none, (.mv (.t 32))⟩ :: []
def vc_value_only_o5 : List VO := ⟨(some 26), none, (.mv (.t 3))⟩ :: ⟨(some 27), none, (.bin .eql (.t 26) (.c (.val (.int .i64 3))))⟩ :: ⟨(some 28), none, (.mv (.t 27))⟩ :: ⟨none, none, .kp [1, 3, 4, 28]⟩ :: ⟨(some 29), (some (28, true)), (.fld 3 (.t 1))⟩ :: ⟨(some 30), (some (28, true)), (.load false 1 (.t 29))⟩ :: vc_value_only_o5_1
def vc_value_only_r5 : VCode := (.keep [1, 3, 4, 11] (.cond (.t 11) .skip (.seq (.region false vc_value_only_o5) vc_value_only_r4)))
def vc_value_only_o6_1 : List VO := ⟨(some 24), (some (21, true)), (.bin .neq (.t 23) (.c (.val (.int .u64 0))))⟩ :: ⟨none, none, .kp [1, 3, 4, 21, 24]⟩ :: ⟨(some 25), none, (.pick (.t 21) (.t 24) (.c (.val (.bool false))))⟩ :: ⟨none, none, .kp [1, 3, 4, 25]⟩ :: ⟨(some 11), none, (.mv (.t 25))⟩ :: []
def vc_value_only_o6 : List VO := ⟨(some 19), none, (.mv (.t 3))⟩ :: ⟨(some 20), none, (.bin .eql (.t 19) (.c (.val (.int .i64 2))))⟩ :: ⟨(some 21), none, (.mv (.t 20))⟩ :: ⟨none, none, .kp [1, 3, 4, 21]⟩ :: ⟨(some 22), (some (21, true)), (.fld 2 (.t 1))⟩ :: ⟨(some 23), (some (21, true)), (.load false 1 (.t 22))⟩ :: vc_value_only_o6_1
def vc_value_only_r6 : VCode := (.keep [1, 3, 4, 11] (.cond (.t 11) .skip (.seq (.region false vc_value_only_o6) vc_value_only_r5)))
def vc_value_only_o7_1 : List VO := ⟨(some 17), (some (14, true)), (.bin .neq (.t 16) (.c (.val (.int .i64 0))))⟩ :: ⟨none, none, .kp [1, 3, 4, 14, 17]⟩ :: ⟨(some 18), none, (.pick (.t 14) (.t 17) (.c (.val (.bool false))))⟩ :: ⟨none, none, .kp [1, 3, 4, 18]⟩ :: ⟨(some 11), none, (.mv (.t 18))⟩ :: []
def vc_value_only_o7 : List VO := ⟨(some 12), none, (.mv (.t 3))⟩ :: ⟨(some 13), none, (.bin .eql (.t 12) (.c (.val (.int .i64 1))))⟩ :: ⟨(some 14), none, (.mv (.t 13))⟩ :: ⟨none, none, .kp [1, 3, 4, 14]⟩ :: ⟨(some 15), (some (14, true)), (.fld 1 (.t 1))⟩ :: ⟨(some 16), (some (14, true)), (.load false 1 (.t 15))⟩ :: vc_value_only_o7_1
def vc_value_only_c7 : VCode := (.seq (.seq (.region false vc_value_only_o7) vc_value_only_r6) vc_value_only_r3)
def vc_value_only_r8 : VCode := (.keep [1, 3, 4] (.block 2 vc_value_only_c7))
def vc_value_only_r9 : VCode := (.keep [1, 3, 4, 10] (.cond (.t 10) (.exit 1) .skip))
def vc_value_only_o8 : List VO := ⟨(some 7), none, (.mv (.t 3))⟩ :: ⟨(some 8), none, (.fld 0 (.t 1))⟩ :: ⟨(some 9), none, (.load false 1 (.t 8))⟩ :: ⟨(some 10), none, (.bin .eql (.t 7) (.t 9))⟩ :: []
def vc_value_only_r10 : VCode := (.keep [1, 3, 4] (.seq (.seq (.region false vc_value_only_o8) vc_value_only_r9) vc_value_only_r8))
def vc_value_only_o9 : List VO := ⟨(some 6), none, (.mv (.t 4))⟩ :: ⟨(some 3), none, (.mv (.t 6))⟩ :: []
def vc_value_only_r11 : VCode := (.keep [1, 4] (.seq (.block 1 (.seq (.region false vc_value_only_o9) vc_value_only_r10)) vc_value_only_r2))
def vc_value_only_r12 : VCode := (.keep [1, 4, 5] (.seq (.cond (.t 5) .skip (.exit 0)) vc_value_only_r11))
def vc_value_only_o10 : List VO := ⟨(some 5), none, (.bin .lss (.t 4) (.c (.val (.int .i64 5))))⟩ :: []
def vc_value_only_l13 : VCode := (.seq (.region false vc_value_only_o10) vc_value_only_r12)
def vc_value_only_r14 : VCode := (.keep [1, 4] (.block 0 (.loop (.keep [1, 4] vc_value_only_l13))))
def vc_value_only_o11 : List VO := ⟨(some 4), none, (.mv (.c (.val (.int .i64 0))))⟩ :: []
def vc_value_only_r15 : VCode := (.keep [1] (.seq (.seq (.region false vc_value_only_o11) vc_value_only_r14) vc_value_only_r1))
def vc_value_only_o12 : List VO := ⟨(some 1), none, (.box 25 (.t 0))⟩ :: ⟨(some 2), none, (.mv (.c (.val (.bool false))))⟩ :: []
def vc_value_only : VCode := (.seq (.region false vc_value_only_o12) vc_value_only_r15)
def rs_value_only : List RV := [(.t 2)]
theorem comp_value_only : ccode Try.prog (Try.f116.body.getD .skip) = some (strip vc_value_only) := by kernel_rfl
theorem code_value_only : IsCode Try.prog id_value_only 50 vc_value_only rs_value_only := ⟨_, _, Try.func116, by kernel_rfl, rfl, comp_value_only, by kernel_rfl, by kernel_rfl, rfl⟩

/- usher/value.read -/
def vc_value_read_o1 : List VO := ⟨(some 61), none, (.load true 5 (.t 5))⟩ :: ⟨none, none, (.store 5 (.t 4) (.t 61))⟩ :: []
def vc_value_read_r1 : VCode := (.keep [4, 5] (.seq (.region false vc_value_read_o1) (.keep [4] .ret)))
def vc_value_read_o2 : List VO := ⟨(some 14), none, (.mv (.t 0))⟩ :: ⟨(some 15), none, (.call 153 [] [(.t 14)])⟩ :: ⟨none, none, .kp [4, 5, 15]⟩ :: ⟨(some 16), none, (.fld 1 (.t 5))⟩ :: ⟨none, none, (.store 1 (.t 16) (.t 15))⟩ :: []
def vc_value_read_o3 : List VO := ⟨(some 28), none, (.mv (.t 0))⟩ :: ⟨(some 29), none, (.call 134 [] [(.t 28), (.c (.val (.int .i64 3)))])⟩ :: []
def vc_value_read_r2 : VCode := (.keep [0, 4, 5, 27] (.cond (.t 27) (.region false vc_value_read_o3) .skip))
def vc_value_read_d4 : DT := (.op false [5] ⟨(some 24), none, (.call 38 [] [(.t 23)])⟩ (.op true [] ⟨(some 27), none, (.bin .neq (.t 24) (.t 26))⟩ .done))
def vc_value_read_d5 : DT := (.op true [5] ⟨(some 22), none, (.fld 2 (.t 5))⟩ (.op true [5] ⟨(some 23), none, (.load false 1 (.t 22))⟩ (.op true [5] ⟨(some 25), none, (.fld 2 (.t 5))⟩ (.op true [5] ⟨(some 26), none, (.load false 1 (.t 25))⟩ vc_value_read_d4))))
def vc_value_read_r3 : VCode := (.keep [0, 4, 5] (.seq (.draws [0, 4, 5, 27] vc_value_read_d5) vc_value_read_r2))
def vc_value_read_o6 : List VO := ⟨(some 19), none, (.mv (.t 0))⟩ :: ⟨(some 20), none, (.call 154 [] [(.t 19)])⟩ :: ⟨(some 21), none, (.fld 2 (.t 5))⟩ :: ⟨none, none, (.store 1 (.t 21) (.t 20))⟩ :: []
def vc_value_read_o7 : List VO := ⟨(some 32), none, (.mv (.t 0))⟩ :: ⟨(some 33), none, (.call 87 [] [(.t 32), (.c (.val (.int .i64 200)))])⟩ :: ⟨none, none, .kp [4, 5, 33]⟩ :: ⟨(some 34), none, (.fld 3 (.t 5))⟩ :: ⟨none, none, (.store 1 (.t 34) (.t 33))⟩ :: []
def vc_value_read_o8 : List VO := ⟨(some 50), none, (.mv (.t 6))⟩ :: ⟨(some 51), none, (.bin .sub (.t 50) (.c (.val (.int .i64 1))))⟩ :: ⟨none, none, .kp [0, 1, 4, 5, 51]⟩ :: ⟨(some 6), none, (.mv (.t 51))⟩ :: []
def vc_value_read_r4 : VCode := (.keep [0, 1, 4, 5, 6] (.region false vc_value_read_o8))
def vc_value_read_d9 : DT := (.op true [5] ⟨(some 60), none, (.fld 4 (.t 5))⟩ (.op false [] ⟨none, none, (.store 1 (.t 60) (.t 59))⟩ .done))
def vc_value_read_d10 : DT := (.op true [] ⟨(some 56), none, (.bin .sub (.t 55) (.c (.val (.int .i64 1))))⟩ (.op false [5] ⟨(some 57), none, (.call 147 [] [(.t 54), (.t 56)])⟩ (.op false [5] ⟨(some 58), none, (.lit false 25 5 1 [(.val (.int .i64 0)), (.val (.int .i64 0)), (.val (.int .u64 0)), (.val (.string ⟨#[]⟩)), (.val (.slice none 0 0))] [(0, (5, (.t 57)))])⟩ (.op false [5] ⟨(some 59), none, (.app 25 64 5 (.t 53) (.t 58))⟩ vc_value_read_d9))))
def vc_value_read_d11 : DT := (.op true [5] ⟨(some 52), none, (.fld 4 (.t 5))⟩ (.op true [5] ⟨(some 53), none, (.load false 1 (.t 52))⟩ (.op true [] ⟨(some 54), none, (.mv (.t 0))⟩ (.op true [] ⟨(some 55), none, (.mv (.t 1))⟩ vc_value_read_d10))))
def vc_value_read_r5 : VCode := (.keep [0, 1, 4, 5, 6] (.seq (.block 2 (.draws [0, 1, 4, 5, 6] vc_value_read_d11)) vc_value_read_r4))
def vc_value_read_r6 : VCode := (.keep [0, 1, 4, 5, 6, 49] (.cond (.t 49) .skip (.exit 1)))
def vc_value_read_o12_1 : List VO := ⟨(some 48), (some (45, true)), (.bin .eql (.t 47) (.c (.val (.int .i64 0))))⟩ :: ⟨none, none, .kp [0, 1, 4, 5, 6, 45, 48]⟩ :: ⟨(some 49), none, (.pick (.t 45) (.t 48) (.c (.val (.bool false))))⟩ :: []
def vc_value_read_o12 : List VO := ⟨(some 43), none, (.mv (.t 6))⟩ :: ⟨(some 44), none, (.bin .gtr (.t 43) (.c (.val (.int .i64 0))))⟩ :: ⟨(some 45), none, (.mv (.t 44))⟩ :: ⟨none, none, .kp [0, 1, 4, 5, 6, 45]⟩ :: ⟨(some 46), (some (45, true)), (.mv (.t 0))⟩ :: ⟨(some 47), (some (45, true)), (.call 90 [] [(.t 46)])⟩ :: vc_value_read_o12_1
def vc_value_read_l7 : VCode := (.seq (.seq (.region false vc_value_read_o12) vc_value_read_r6) vc_value_read_r5)
def vc_value_read_r8 : VCode := (.keep [0, 1, 4, 5, 6] (.block 1 (.loop (.keep [0, 1, 4, 5, 6] vc_value_read_l7))))
def vc_value_read_o13 : List VO := ⟨(some 41), none, (.mv (.t 0))⟩ :: ⟨(some 42), none, (.call 85 [] [(.t 41), (.c (.val (.int .i64 12)))])⟩ :: ⟨(some 6), none, (.mv (.t 42))⟩ :: []
def vc_value_read_r9 : VCode := (.keep [0, 1, 4, 5] (.seq (.region false vc_value_read_o13) vc_value_read_r8))
def vc_value_read_o14 : List VO := ⟨(some 39), none, (.mv (.t 0))⟩ :: ⟨(some 40), none, (.call 134 [] [(.t 39), (.c (.val (.int .i64 5)))])⟩ :: []
def vc_value_read_r10 : VCode := (.keep [0, 1, 4, 5, 38] (.cond (.t 38) (.region false vc_value_read_o14) .skip))
def vc_value_read_o15 : List VO := ⟨(some 37), none, (.mv (.t 1))⟩ :: ⟨(some 38), none, (.bin .eql (.t 37) (.c (.val (.int .i64 0))))⟩ :: []
def vc_value_read_c11 : VCode := (.seq (.seq (.region false vc_value_read_o15) vc_value_read_r10) vc_value_read_r9)
def vc_value_read_r12 : VCode := (.keep [0, 1, 4, 5, 35] (.cond (.t 35) vc_value_read_c11 .skip))
def vc_value_read_o16 : List VO := ⟨(some 36), none, (.bin .eql (.t 11) (.c (.val (.int .i64 4))))⟩ :: ⟨(some 35), none, (.mv (.t 36))⟩ :: []
def vc_value_read_r13 : VCode := (.keep [0, 1, 4, 5, 11, 30] (.cond (.t 30) (.region false vc_value_read_o7) (.seq (.region false vc_value_read_o16) vc_value_read_r12)))
def vc_value_read_o17 : List VO := ⟨(some 31), none, (.bin .eql (.t 11) (.c (.val (.int .i64 3))))⟩ :: ⟨(some 30), none, (.mv (.t 31))⟩ :: []
def vc_value_read_r14 : VCode := (.keep [0, 1, 4, 5, 11, 17] (.cond (.t 17) (.seq (.region false vc_value_read_o6) vc_value_read_r3) (.seq (.region false vc_value_read_o17) vc_value_read_r13)))
def vc_value_read_o18 : List VO := ⟨(some 18), none, (.bin .eql (.t 11) (.c (.val (.int .i64 2))))⟩ :: ⟨(some 17), none, (.mv (.t 18))⟩ :: []
def vc_value_read_r15 : VCode := (.keep [0, 1, 4, 5, 11, 12] (.cond (.t 12) (.region false vc_value_read_o2) (.seq (.region false vc_value_read_o18) vc_value_read_r14)))
def vc_value_read_o19 : List VO := ⟨(some 13), none, (.bin .eql (.t 11) (.c (.val (.int .i64 1))))⟩ :: ⟨(some 12), none, (.mv (.t 13))⟩ :: []
def vc_value_read_r16 : VCode := (.keep [0, 1, 4, 5, 11] (.block 0 (.seq (.region false vc_value_read_o19) vc_value_read_r15)))
def vc_value_read_o20 : List VO := ⟨(some 10), none, (.fld 0 (.t 5))⟩ :: ⟨(some 11), none, (.load false 1 (.t 10))⟩ :: []
def vc_value_read_r17 : VCode := (.keep [0, 1, 4, 5] (.seq (.seq (.region false vc_value_read_o20) vc_value_read_r16) vc_value_read_r1))
def vc_value_read_o21 : List VO := ⟨(some 7), none, (.mv (.t 0))⟩ :: ⟨(some 8), none, (.call 85 [] [(.t 7), (.c (.val (.int .i64 4)))])⟩ :: ⟨(some 9), none, (.build [(.val (.int .i64 0)), (.val (.int .i64 0)), (.val (.int .u64 0)), (.val (.string ⟨#[]⟩)), (.val (.slice none 0 0))] [(0, (1, (.t 8)))])⟩ :: ⟨none, none, .kp [0, 1, 4, 9]⟩ :: ⟨(some 5), none, (.alloc 25 [(.val (.int .i64 0)), (.val (.int .i64 0)), (.val (.int .u64 0)), (.val (.string ⟨#[]⟩)), (.val (.slice none 0 0))])⟩ :: ⟨none, none, (.store 5 (.t 5) (.t 9))⟩ :: []
def vc_value_read_r18 : VCode := (.keep [0, 1, 4] (.seq (.region false vc_value_read_o21) vc_value_read_r17))
def vc_value_read_o22 : List VO := ⟨(some 4), none, (.alloc 25 [(.val (.int .i64 0)), (.val (.int .i64 0)), (.val (.int .u64 0)), (.val (.string ⟨#[]⟩)), (.val (.slice none 0 0))])⟩ :: []
def vc_value_read : VCode := (.seq (.region false vc_value_read_o22) vc_value_read_r18)
def rs_value_read : List RV := [(.c 4 true 5)]
theorem comp_value_read : ccode Try.prog (Try.f147.body.getD .skip) = some (strip vc_value_read) := by kernel_rfl
theorem code_value_read : IsCode Try.prog id_value_read 62 vc_value_read rs_value_read := ⟨_, _, Try.func147, by kernel_rfl, rfl, comp_value_read, by kernel_rfl, by kernel_rfl, rfl⟩

end Go.Proofs.Ytlodbaikbgbhjaa
