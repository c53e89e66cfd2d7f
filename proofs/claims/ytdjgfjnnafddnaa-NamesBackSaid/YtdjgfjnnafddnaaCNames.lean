/- The code of functions, for the abstract machine, and that it is theirs. Printed by vc2.py. -/
import Derived.Test.YtdjgfjnnafddnaaIds
set_option linter.unusedVariables false
set_option maxRecDepth 100000
namespace Go.Proofs.Ytdjgfjnnafddnaa
open Go Go.Vm

/- usher/names.Name -/
def vc_names_Name_o1 : List VO := ⟨(some 26), none, (.mv (.t 3))⟩ :: ⟨(some 2), none, (.mv (.t 26))⟩ :: []
def vc_names_Name_r1 : VCode := (.keep [3] (.seq (.region false vc_names_Name_o1) (.keep [2] .ret)))
def vc_names_Name_o2 : List VO := ⟨(some 25), none, (.bin .add (.t 17) (.c (.val (.int .i64 1))))⟩ :: ⟨(some 17), none, (.mv (.t 25))⟩ :: []
def vc_names_Name_r2 : VCode := (.keep [0, 3, 16, 17] (.region false vc_names_Name_o2))
def vc_names_Name_o3 : List VO := ⟨(some 3), none, (.mv (.c (.val (.bool false))))⟩ :: []
def vc_names_Name_r3 : VCode := (.keep [0, 3, 16, 17, 24] (.cond (.t 24) (.seq (.region false vc_names_Name_o3) (.exit 0)) .skip))
def vc_names_Name_o4 : List VO := ⟨(some 20), none, (.mv (.t 0))⟩ :: ⟨(some 21), none, (.mv (.t 4))⟩ :: ⟨(some 22), none, (.chr (.t 20) (.t 21))⟩ :: ⟨none, none, .kp [0, 3, 16, 17, 22]⟩ :: ⟨(some 23), none, (.call 65 [] [(.t 22)])⟩ :: ⟨(some 24), none, (.un .not (.t 23))⟩ :: []
def vc_names_Name_r4 : VCode := (.keep [0, 3, 4, 16, 17] (.seq (.region false vc_names_Name_o4) vc_names_Name_r3))
def vc_names_Name_o5 : List VO := ⟨(some 19), none, (.mv (.t 17))⟩ :: ⟨(some 4), none, (.mv (.t 19))⟩ :: []
def vc_names_Name_r5 : VCode := (.keep [0, 3, 16, 17] (.seq (.block 1 (.seq (.region false vc_names_Name_o5) vc_names_Name_r4)) vc_names_Name_r2))
def vc_names_Name_r6 : VCode := (.keep [0, 3, 16, 17, 18] (.seq (.cond (.t 18) .skip (.exit 0)) vc_names_Name_r5))
def vc_names_Name_o6 : List VO := ⟨(some 18), none, (.bin .lss (.t 17) (.t 16))⟩ :: []
def vc_names_Name_l7 : VCode := (.seq (.region false vc_names_Name_o6) vc_names_Name_r6)
def vc_names_Name_r8 : VCode := (.keep [0, 3, 16, 17] (.block 0 (.loop (.keep [0, 3, 16, 17] vc_names_Name_l7))))
def vc_names_Name_o7 : List VO := ⟨(some 15), none, (.mv (.t 0))⟩ :: ⟨(some 16), none, (.lenS (.t 15))⟩ :: ⟨(some 17), none, (.mv (.c (.val (.int .i64 0))))⟩ :: []
def vc_names_Name_r9 : VCode := (.keep [0, 3] (.seq (.seq (.region false vc_names_Name_o7) vc_names_Name_r8) vc_names_Name_r1))
def vc_names_Name_r10 : VCode := (.keep [0, 3] (.seq .skip vc_names_Name_r9))
def vc_names_Name_o8 : List VO := ⟨(some 12), none, (.mv (.t 0))⟩ :: ⟨(some 13), none, (.chr (.t 12) (.c (.val (.int .i64 0))))⟩ :: ⟨(some 14), none, (.call 64 [] [(.t 13)])⟩ :: ⟨none, none, .kp [0, 14]⟩ :: ⟨(some 3), none, (.mv (.t 14))⟩ :: []
def vc_names_Name_r11 : VCode := (.keep [0] (.seq (.region false vc_names_Name_o8) vc_names_Name_r10))
def vc_names_Name_o9 : List VO := ⟨(some 2), none, (.mv (.c (.val (.bool false))))⟩ :: []
def vc_names_Name_r12 : VCode := (.keep [0, 11] (.cond (.t 11) (.seq (.region false vc_names_Name_o9) (.keep [2] .ret)) .skip))
def vc_names_Name_o10_1 : List VO := ⟨(some 10), (some (7, false)), (.bin .gtr (.t 9) (.c (.val (.int .i64 24))))⟩ :: ⟨none, none, .kp [0, 7, 10]⟩ :: ⟨(some 11), none, (.pick (.t 7) (.c (.val (.bool true))) (.t 10))⟩ :: []
def vc_names_Name_o10 : List VO := ⟨(some 5), none, (.mv (.t 0))⟩ :: ⟨(some 6), none, (.bin .eql (.t 5) (.c (.val (.string ⟨#[]⟩))))⟩ :: ⟨(some 7), none, (.mv (.t 6))⟩ :: ⟨none, none, .kp [0, 7]⟩ :: ⟨(some 8), (some (7, false)), (.mv (.t 0))⟩ :: ⟨(some 9), (some (7, false)), (.lenS (.t 8))⟩ :: vc_names_Name_o10_1
def vc_names_Name_c13 : VCode := (.seq (.seq (.region false vc_names_Name_o10) vc_names_Name_r12) vc_names_Name_r11)
def vc_names_Name_o11 : List VO := ⟨(some 2), none, (.mv (.c (.val (.bool false))))⟩ :: []
def vc_names_Name : VCode := (.seq (.region false vc_names_Name_o11) (.keep [0] (.scope vc_names_Name_c13)))
def rs_names_Name : List RV := [(.t 2)]
theorem comp_names_Name : ccode Try.prog (Try.f15.body.getD .skip) = some (strip vc_names_Name) := by kernel_rfl
theorem code_names_Name : IsCode Try.prog id_names_Name 27 vc_names_Name rs_names_Name := ⟨_, _, Try.func15, by kernel_rfl, rfl, comp_names_Name, by kernel_rfl, by kernel_rfl, rfl⟩

/- usher/names.Text -/
def vc_names_Text_o1 : List VO := ⟨(some 3), none, (.mv (.t 0))⟩ :: ⟨(some 4), none, (.lenS (.t 3))⟩ :: ⟨none, none, .kp [4]⟩ :: ⟨(some 5), none, (.bin .leq (.t 4) (.c (.val (.int .i64 200))))⟩ :: ⟨(some 2), none, (.mv (.t 5))⟩ :: []
def vc_names_Text_r1 : VCode := (.keep [0] (.seq (.region false vc_names_Text_o1) (.keep [2] .ret)))
def vc_names_Text_o2 : List VO := ⟨(some 2), none, (.mv (.c (.val (.bool false))))⟩ :: []
def vc_names_Text : VCode := (.seq (.region false vc_names_Text_o2) vc_names_Text_r1)
def rs_names_Text : List RV := [(.t 2)]
theorem comp_names_Text : ccode Try.prog (Try.f17.body.getD .skip) = some (strip vc_names_Text) := by kernel_rfl
theorem code_names_Text : IsCode Try.prog id_names_Text 6 vc_names_Text rs_names_Text := ⟨_, _, Try.func17, by kernel_rfl, rfl, comp_names_Text, by kernel_rfl, by kernel_rfl, rfl⟩

/- usher/names.Row -/
def vc_names_Row_o1 : List VO := ⟨(some 3), none, (.mv (.t 0))⟩ :: ⟨(some 4), none, (.bin .add (.c (.val (.string ⟨#[119, 47]⟩))) (.t 3))⟩ :: ⟨none, none, .kp [4]⟩ :: ⟨(some 2), none, (.mv (.t 4))⟩ :: []
def vc_names_Row_r1 : VCode := (.keep [0] (.seq (.region false vc_names_Row_o1) (.keep [2] .ret)))
def vc_names_Row_o2 : List VO := ⟨(some 2), none, (.mv (.c (.val (.string ⟨#[]⟩))))⟩ :: []
def vc_names_Row : VCode := (.seq (.region false vc_names_Row_o2) vc_names_Row_r1)
def rs_names_Row : List RV := [(.t 2)]
theorem comp_names_Row : ccode Try.prog (Try.f20.body.getD .skip) = some (strip vc_names_Row) := by kernel_rfl
theorem code_names_Row : IsCode Try.prog id_names_Row 5 vc_names_Row rs_names_Row := ⟨_, _, Try.func20, by kernel_rfl, rfl, comp_names_Row, by kernel_rfl, by kernel_rfl, rfl⟩

/- usher/names.Branch -/
def vc_names_Branch_o1_1 : List VO := ⟨(some 10), none, (.call 67 [] [(.t 9)])⟩ :: ⟨none, none, .kp [7, 10]⟩ :: ⟨(some 11), none, (.bin .add (.t 7) (.t 10))⟩ :: ⟨none, none, .kp [11]⟩ :: ⟨(some 4), none, (.mv (.t 11))⟩ :: []
def vc_names_Branch_o1 : List VO := ⟨(some 5), none, (.mv (.t 0))⟩ :: ⟨(some 6), none, (.bin .add (.c (.val (.string ⟨#[104, 47]⟩))) (.t 5))⟩ :: ⟨none, none, .kp [1, 6]⟩ :: ⟨(some 7), none, (.bin .add (.t 6) (.c (.val (.string ⟨#[47]⟩))))⟩ :: ⟨(some 8), none, (.mv (.t 1))⟩ :: ⟨none, none, .kp [7, 8]⟩ :: ⟨(some 9), none, (.mm true (.t 8) (.c (.val (.int .i64 0))))⟩ :: vc_names_Branch_o1_1
def vc_names_Branch_r1 : VCode := (.keep [0, 1] (.seq (.region false vc_names_Branch_o1) (.keep [4] .ret)))
def vc_names_Branch_o2 : List VO := ⟨(some 4), none, (.mv (.c (.val (.string ⟨#[]⟩))))⟩ :: []
def vc_names_Branch : VCode := (.seq (.region false vc_names_Branch_o2) vc_names_Branch_r1)
def rs_names_Branch : List RV := [(.t 4)]
theorem comp_names_Branch : ccode Try.prog (Try.f22.body.getD .skip) = some (strip vc_names_Branch) := by kernel_rfl
theorem code_names_Branch : IsCode Try.prog id_names_Branch 12 vc_names_Branch rs_names_Branch := ⟨_, _, Try.func22, by kernel_rfl, rfl, comp_names_Branch, by kernel_rfl, by kernel_rfl, rfl⟩

/- usher/names.ParseRow -/
def vc_names_ParseRow_o1 : List VO := ⟨(some 18), none, (.mv (.t 4))⟩ :: ⟨(some 2), none, (.mv (.t 18))⟩ :: ⟨none, none, .kp [2]⟩ :: ⟨(some 3), none, (.mv (.c (.val (.bool true))))⟩ :: []
def vc_names_ParseRow_r1 : VCode := (.keep [4] (.seq (.region false vc_names_ParseRow_o1) (.keep [2, 3] .ret)))
def vc_names_ParseRow_o2 : List VO := ⟨(some 2), none, (.mv (.c (.val (.string ⟨#[]⟩))))⟩ :: ⟨(some 3), none, (.mv (.c (.val (.bool false))))⟩ :: []
def vc_names_ParseRow_c2 : VCode := (.seq (.region false vc_names_ParseRow_o2) (.keep [2, 3] .ret))
def vc_names_ParseRow_r3 : VCode := (.keep [4, 17] (.cond (.t 17) vc_names_ParseRow_c2 .skip))
def vc_names_ParseRow_o3_1 : List VO := ⟨(some 16), (some (13, false)), (.un .not (.t 15))⟩ :: ⟨(some 17), none, (.pick (.t 13) (.c (.val (.bool true))) (.t 16))⟩ :: []
def vc_names_ParseRow_o3 : List VO := ⟨(some 11), none, (.mv (.t 5))⟩ :: ⟨(some 12), none, (.un .not (.t 11))⟩ :: ⟨none, none, .kp [4, 12]⟩ :: ⟨(some 13), none, (.mv (.t 12))⟩ :: ⟨(some 14), (some (13, false)), (.mv (.t 4))⟩ :: ⟨(some 15), (some (13, false)), (.call 15 [] [(.t 14)])⟩ :: ⟨none, none, .kp [4, 13, 15]⟩ :: vc_names_ParseRow_o3_1
def vc_names_ParseRow_r4 : VCode := (.keep [4, 5] (.seq (.seq (.region false vc_names_ParseRow_o3) vc_names_ParseRow_r3) vc_names_ParseRow_r1))
def vc_names_ParseRow_o4_1 : List VO := ⟨(some 4), none, (.mv (.t 9))⟩ :: ⟨(some 5), none, (.mv (.t 10))⟩ :: []
def vc_names_ParseRow_o4 : List VO := ⟨(some 7), none, (.mv (.t 0))⟩ :: ⟨(some 8), none, (.call 87 [] [(.t 7), (.c (.val (.string ⟨#[119, 47]⟩)))])⟩ :: ⟨none, none, .kp [8]⟩ :: ⟨(some 6), none, (.mv (.t 8))⟩ :: ⟨(some 9), none, (.extract (.t 6) 0)⟩ :: ⟨(some 10), none, (.extract (.t 6) 1)⟩ :: ⟨none, none, .kp [9, 10]⟩ :: vc_names_ParseRow_o4_1
def vc_names_ParseRow_r5 : VCode := (.keep [0] (.seq (.region false vc_names_ParseRow_o4) vc_names_ParseRow_r4))
def vc_names_ParseRow_o5 : List VO := ⟨(some 2), none, (.mv (.c (.val (.string ⟨#[]⟩))))⟩ :: ⟨(some 3), none, (.mv (.c (.val (.bool false))))⟩ :: []
def vc_names_ParseRow : VCode := (.seq (.region false vc_names_ParseRow_o5) vc_names_ParseRow_r5)
def rs_names_ParseRow : List RV := [(.t 2), (.t 3)]
theorem comp_names_ParseRow : ccode Try.prog (Try.f44.body.getD .skip) = some (strip vc_names_ParseRow) := by kernel_rfl
theorem code_names_ParseRow : IsCode Try.prog id_names_ParseRow 19 vc_names_ParseRow rs_names_ParseRow := ⟨_, _, Try.func44, by kernel_rfl, rfl, comp_names_ParseRow, by kernel_rfl, by kernel_rfl, rfl⟩

/- usher/names.ParseBranch -/
def vc_names_ParseBranch_o1_1 : List VO := ⟨(some 3), none, (.mv (.t 44))⟩ :: ⟨(some 4), none, (.mv (.c (.val (.bool true))))⟩ :: []
def vc_names_ParseBranch_o1 : List VO := ⟨(some 41), none, (.mv (.t 5))⟩ :: ⟨(some 42), none, (.mv (.t 7))⟩ :: ⟨none, none, .kp [8, 41, 42]⟩ :: ⟨(some 43), none, (.cutS (.t 41) none (some (.t 42)))⟩ :: ⟨none, none, .kp [8, 43]⟩ :: ⟨(some 44), none, (.mv (.t 8))⟩ :: ⟨(some 2), none, (.mv (.t 43))⟩ :: ⟨none, none, .kp [2, 44]⟩ :: vc_names_ParseBranch_o1_1
def vc_names_ParseBranch_r1 : VCode := (.keep [5, 7, 8] (.seq (.region false vc_names_ParseBranch_o1) (.keep [2, 3, 4] .ret)))
def vc_names_ParseBranch_o2 : List VO := ⟨(some 2), none, (.mv (.c (.val (.string ⟨#[]⟩))))⟩ :: ⟨(some 3), none, (.mv (.c (.val (.int .i64 0))))⟩ :: ⟨(some 4), none, (.mv (.c (.val (.bool false))))⟩ :: []
def vc_names_ParseBranch_c2 : VCode := (.seq (.region false vc_names_ParseBranch_o2) (.keep [2, 3, 4] .ret))
def vc_names_ParseBranch_r3 : VCode := (.keep [5, 7, 8, 40] (.cond (.t 40) vc_names_ParseBranch_c2 .skip))
def vc_names_ParseBranch_o3_1 : List VO := ⟨(some 40), none, (.pick (.t 37) (.c (.val (.bool true))) (.t 39))⟩ :: []
def vc_names_ParseBranch_o3 : List VO := ⟨(some 35), none, (.mv (.t 8))⟩ :: ⟨(some 36), none, (.bin .lss (.t 35) (.c (.val (.int .i64 1))))⟩ :: ⟨(some 37), none, (.mv (.t 36))⟩ :: ⟨none, none, .kp [5, 7, 8, 37]⟩ :: ⟨(some 38), (some (37, false)), (.mv (.t 8))⟩ :: ⟨(some 39), (some (37, false)), (.bin .gtr (.t 38) (.c (.val (.int .i64 10))))⟩ :: vc_names_ParseBranch_o3_1
def vc_names_ParseBranch_r4 : VCode := (.keep [5, 7, 8] (.seq (.seq (.region false vc_names_ParseBranch_o3) vc_names_ParseBranch_r3) vc_names_ParseBranch_r1))
def vc_names_ParseBranch_o4_1 : List VO := ⟨(some 8), none, (.mv (.t 34))⟩ :: []
def vc_names_ParseBranch_o4 : List VO := ⟨(some 30), none, (.mv (.t 5))⟩ :: ⟨(some 31), none, (.mv (.t 7))⟩ :: ⟨(some 32), none, (.bin .add (.t 31) (.c (.val (.int .i64 1))))⟩ :: ⟨(some 33), none, (.cutS (.t 30) (some (.t 32)) none)⟩ :: ⟨none, none, .kp [5, 7, 33]⟩ :: ⟨(some 34), none, (.call 89 [] [(.t 33)])⟩ :: vc_names_ParseBranch_o4_1
def vc_names_ParseBranch_r5 : VCode := (.keep [5, 7] (.seq (.region false vc_names_ParseBranch_o4) vc_names_ParseBranch_r4))
def vc_names_ParseBranch_o5 : List VO := ⟨(some 2), none, (.mv (.c (.val (.string ⟨#[]⟩))))⟩ :: ⟨(some 3), none, (.mv (.c (.val (.int .i64 0))))⟩ :: ⟨(some 4), none, (.mv (.c (.val (.bool false))))⟩ :: []
def vc_names_ParseBranch_c6 : VCode := (.seq (.region false vc_names_ParseBranch_o5) (.keep [2, 3, 4] .ret))
def vc_names_ParseBranch_r7 : VCode := (.keep [5, 7, 29] (.cond (.t 29) vc_names_ParseBranch_c6 .skip))
def vc_names_ParseBranch_o6_2 : List VO := ⟨(some 27), (some (23, false)), (.call 15 [] [(.t 26)])⟩ :: ⟨(some 28), (some (23, false)), (.un .not (.t 27))⟩ :: ⟨none, none, .kp [5, 7, 23, 28]⟩ :: ⟨(some 29), none, (.pick (.t 23) (.c (.val (.bool true))) (.t 28))⟩ :: []
def vc_names_ParseBranch_o6_1 : List VO := ⟨(some 22), none, (.pick (.t 19) (.c (.val (.bool true))) (.t 21))⟩ :: ⟨none, none, .kp [5, 7, 22]⟩ :: ⟨(some 23), none, (.mv (.t 22))⟩ :: ⟨(some 24), (some (23, false)), (.mv (.t 5))⟩ :: ⟨(some 25), (some (23, false)), (.mv (.t 7))⟩ :: ⟨(some 26), (some (23, false)), (.cutS (.t 24) none (some (.t 25)))⟩ :: ⟨none, none, .kp [5, 7, 23, 26]⟩ :: vc_names_ParseBranch_o6_2
def vc_names_ParseBranch_o6 : List VO := ⟨(some 17), none, (.mv (.t 6))⟩ :: ⟨(some 18), none, (.un .not (.t 17))⟩ :: ⟨none, none, .kp [5, 7, 18]⟩ :: ⟨(some 19), none, (.mv (.t 18))⟩ :: ⟨(some 20), (some (19, false)), (.mv (.t 7))⟩ :: ⟨(some 21), (some (19, false)), (.bin .lss (.t 20) (.c (.val (.int .i64 0))))⟩ :: ⟨none, none, .kp [5, 7, 19, 21]⟩ :: vc_names_ParseBranch_o6_1
def vc_names_ParseBranch_r8 : VCode := (.keep [5, 6, 7] (.seq (.seq (.region false vc_names_ParseBranch_o6) vc_names_ParseBranch_r7) vc_names_ParseBranch_r5))
def vc_names_ParseBranch_o7 : List VO := ⟨(some 14), none, (.mv (.t 5))⟩ :: ⟨(some 15), none, (.chr (.c (.val (.string ⟨#[47]⟩))) (.c (.val (.int .i64 0))))⟩ :: ⟨(some 16), none, (.call 88 [] [(.t 14), (.t 15)])⟩ :: ⟨none, none, .kp [5, 6, 16]⟩ :: ⟨(some 7), none, (.mv (.t 16))⟩ :: []
def vc_names_ParseBranch_r9 : VCode := (.keep [5, 6] (.seq (.region false vc_names_ParseBranch_o7) vc_names_ParseBranch_r8))
def vc_names_ParseBranch_o8_1 : List VO := ⟨(some 5), none, (.mv (.t 12))⟩ :: ⟨(some 6), none, (.mv (.t 13))⟩ :: []
def vc_names_ParseBranch_o8 : List VO := ⟨(some 10), none, (.mv (.t 0))⟩ :: ⟨(some 11), none, (.call 87 [] [(.t 10), (.c (.val (.string ⟨#[104, 47]⟩)))])⟩ :: ⟨none, none, .kp [11]⟩ :: ⟨(some 9), none, (.mv (.t 11))⟩ :: ⟨(some 12), none, (.extract (.t 9) 0)⟩ :: ⟨(some 13), none, (.extract (.t 9) 1)⟩ :: ⟨none, none, .kp [12, 13]⟩ :: vc_names_ParseBranch_o8_1
def vc_names_ParseBranch_r10 : VCode := (.keep [0] (.seq (.region false vc_names_ParseBranch_o8) vc_names_ParseBranch_r9))
def vc_names_ParseBranch_o9 : List VO := ⟨(some 2), none, (.mv (.c (.val (.string ⟨#[]⟩))))⟩ :: ⟨(some 3), none, (.mv (.c (.val (.int .i64 0))))⟩ :: ⟨none, none, .kp [0]⟩ :: ⟨(some 4), none, (.mv (.c (.val (.bool false))))⟩ :: []
def vc_names_ParseBranch : VCode := (.seq (.region false vc_names_ParseBranch_o9) vc_names_ParseBranch_r10)
def rs_names_ParseBranch : List RV := [(.t 2), (.t 3), (.t 4)]
theorem comp_names_ParseBranch : ccode Try.prog (Try.f46.body.getD .skip) = some (strip vc_names_ParseBranch) := by kernel_rfl
theorem code_names_ParseBranch : IsCode Try.prog id_names_ParseBranch 45 vc_names_ParseBranch rs_names_ParseBranch := ⟨_, _, Try.func46, by kernel_rfl, rfl, comp_names_ParseBranch, by kernel_rfl, by kernel_rfl, rfl⟩

/- usher/names.first -/
def vc_names_first_o1_2 : List VO := ⟨(some 2), none, (.mv (.t 12))⟩ :: []
def vc_names_first_o1_1 : List VO := ⟨(some 8), none, (.pick (.t 5) (.t 7) (.c (.val (.bool false))))⟩ :: ⟨none, none, .kp [0, 8]⟩ :: ⟨(some 9), none, (.mv (.t 8))⟩ :: ⟨(some 10), (some (9, true)), (.mv (.t 0))⟩ :: ⟨none, none, .kp [9, 10]⟩ :: ⟨(some 11), (some (9, true)), (.bin .neq (.t 10) (.c (.val (.int .u8 46))))⟩ :: ⟨(some 12), none, (.pick (.t 9) (.t 11) (.c (.val (.bool false))))⟩ :: ⟨none, none, .kp [12]⟩ :: vc_names_first_o1_2
def vc_names_first_o1 : List VO := ⟨(some 3), none, (.mv (.t 0))⟩ :: ⟨(some 4), none, (.call 65 [] [(.t 3)])⟩ :: ⟨(some 5), none, (.mv (.t 4))⟩ :: ⟨none, none, .kp [0, 5]⟩ :: ⟨(some 6), (some (5, true)), (.mv (.t 0))⟩ :: ⟨(some 7), (some (5, true)), (.bin .neq (.t 6) (.c (.val (.int .u8 45))))⟩ :: vc_names_first_o1_1
def vc_names_first_r1 : VCode := (.keep [0] (.seq (.region false vc_names_first_o1) (.keep [2] .ret)))
def vc_names_first_o2 : List VO := ⟨(some 2), none, (.mv (.c (.val (.bool false))))⟩ :: []
def vc_names_first : VCode := (.seq (.region false vc_names_first_o2) vc_names_first_r1)
def rs_names_first : List RV := [(.t 2)]
theorem comp_names_first : ccode Try.prog (Try.f64.body.getD .skip) = some (strip vc_names_first) := by kernel_rfl
theorem code_names_first : IsCode Try.prog id_names_first 13 vc_names_first rs_names_first := ⟨_, _, Try.func64, by kernel_rfl, rfl, comp_names_first, by kernel_rfl, by kernel_rfl, rfl⟩

/- usher/names.inner -/
def vc_names_inner_o1_5 : List VO := ⟨(some 31), none, (.pick (.t 28) (.c (.val (.bool true))) (.t 30))⟩ :: ⟨none, none, .kp [31]⟩ :: ⟨(some 2), none, (.mv (.t 31))⟩ :: []
def vc_names_inner_o1_4 : List VO := ⟨(some 26), (some (24, false)), (.bin .eql (.t 25) (.c (.val (.int .u8 45))))⟩ :: ⟨none, none, .kp [0, 24, 26]⟩ :: ⟨(some 27), none, (.pick (.t 24) (.c (.val (.bool true))) (.t 26))⟩ :: ⟨none, none, .kp [0, 27]⟩ :: ⟨(some 28), none, (.mv (.t 27))⟩ :: ⟨(some 29), (some (28, false)), (.mv (.t 0))⟩ :: ⟨none, none, .kp [28, 29]⟩ :: ⟨(some 30), (some (28, false)), (.bin .eql (.t 29) (.c (.val (.int .u8 46))))⟩ :: vc_names_inner_o1_5
def vc_names_inner_o1_3 : List VO := ⟨(some 21), (some (20, false)), (.mv (.t 0))⟩ :: ⟨(some 22), (some (20, false)), (.bin .eql (.t 21) (.c (.val (.int .u8 95))))⟩ :: ⟨none, none, .kp [0, 20, 22]⟩ :: ⟨(some 23), none, (.pick (.t 20) (.c (.val (.bool true))) (.t 22))⟩ :: ⟨none, none, .kp [0, 23]⟩ :: ⟨(some 24), none, (.mv (.t 23))⟩ :: ⟨(some 25), (some (24, false)), (.mv (.t 0))⟩ :: vc_names_inner_o1_4
def vc_names_inner_o1_2 : List VO := ⟨(some 16), (some (15, true)), (.mv (.t 3))⟩ :: ⟨none, none, .kp [0, 12, 15, 16]⟩ :: ⟨(some 17), (some (15, true)), (.bin .leq (.t 16) (.c (.val (.int .u8 122))))⟩ :: ⟨(some 18), (some (12, false)), (.pick (.t 15) (.t 17) (.c (.val (.bool false))))⟩ :: ⟨none, none, .kp [0, 12, 18]⟩ :: ⟨(some 19), none, (.pick (.t 12) (.c (.val (.bool true))) (.t 18))⟩ :: ⟨none, none, .kp [0, 19]⟩ :: ⟨(some 20), none, (.mv (.t 19))⟩ :: vc_names_inner_o1_3
def vc_names_inner_o1_1 : List VO := ⟨(some 11), none, (.pick (.t 8) (.t 10) (.c (.val (.bool false))))⟩ :: ⟨none, none, .kp [0, 3, 11]⟩ :: ⟨(some 12), none, (.mv (.t 11))⟩ :: ⟨(some 13), (some (12, false)), (.mv (.t 3))⟩ :: ⟨(some 14), (some (12, false)), (.bin .geq (.t 13) (.c (.val (.int .u8 97))))⟩ :: ⟨none, none, .kp [0, 3, 12, 14]⟩ :: ⟨(some 15), (some (12, false)), (.mv (.t 14))⟩ :: vc_names_inner_o1_2
def vc_names_inner_o1 : List VO := ⟨(some 6), none, (.mv (.t 0))⟩ :: ⟨(some 7), none, (.bin .geq (.t 6) (.c (.val (.int .u8 48))))⟩ :: ⟨(some 8), none, (.mv (.t 7))⟩ :: ⟨none, none, .kp [0, 3, 8]⟩ :: ⟨(some 9), (some (8, true)), (.mv (.t 0))⟩ :: ⟨(some 10), (some (8, true)), (.bin .leq (.t 9) (.c (.val (.int .u8 57))))⟩ :: vc_names_inner_o1_1
def vc_names_inner_r1 : VCode := (.keep [0, 3] (.seq (.region false vc_names_inner_o1) (.keep [2] .ret)))
def vc_names_inner_o2 : List VO := ⟨(some 4), none, (.mv (.t 0))⟩ :: ⟨(some 5), none, (.bin .or (.t 4) (.c (.val (.int .u8 32))))⟩ :: ⟨(some 3), none, (.mv (.t 5))⟩ :: []
def vc_names_inner_r2 : VCode := (.keep [0] (.seq (.region false vc_names_inner_o2) vc_names_inner_r1))
def vc_names_inner_o3 : List VO := ⟨(some 2), none, (.mv (.c (.val (.bool false))))⟩ :: []
def vc_names_inner : VCode := (.seq (.region false vc_names_inner_o3) vc_names_inner_r2)
def rs_names_inner : List RV := [(.t 2)]
theorem comp_names_inner : ccode Try.prog (Try.f65.body.getD .skip) = some (strip vc_names_inner) := by kernel_rfl
theorem code_names_inner : IsCode Try.prog id_names_inner 32 vc_names_inner rs_names_inner := ⟨_, _, Try.func65, by kernel_rfl, rfl, comp_names_inner, by kernel_rfl, by kernel_rfl, rfl⟩

/- usher/names.digits -/
def vc_names_digits_o1 : List VO := ⟨(some 17), none, (.mv (.t 4))⟩ :: ⟨(some 18), none, (.cutA 20 1 (.t 3) (some (.t 17)) none)⟩ :: ⟨none, none, .kp [18]⟩ :: ⟨(some 19), none, (.toStr (.t 18))⟩ :: ⟨(some 2), none, (.mv (.t 19))⟩ :: []
def vc_names_digits_r1 : VCode := (.keep [0, 3, 4, 16] (.cond (.t 16) (.seq (.region false vc_names_digits_o1) (.keep [2] .ret)) .skip))
def vc_names_digits_o2 : List VO := ⟨(some 15), none, (.mv (.t 0))⟩ :: ⟨(some 16), none, (.bin .eql (.t 15) (.c (.val (.int .i64 0))))⟩ :: []
def vc_names_digits_r2 : VCode := (.keep [0, 3, 4] (.seq (.region false vc_names_digits_o2) vc_names_digits_r1))
def vc_names_digits_o3 : List VO := ⟨(some 13), none, (.mv (.t 0))⟩ :: ⟨(some 14), none, (.bin .quo (.t 13) (.c (.val (.int .i64 10))))⟩ :: ⟨none, none, .kp [3, 4, 14]⟩ :: ⟨(some 0), none, (.mv (.t 14))⟩ :: []
def vc_names_digits_r3 : VCode := (.keep [0, 3, 4] (.seq (.region false vc_names_digits_o3) vc_names_digits_r2))
def vc_names_digits_o4_1 : List VO := ⟨(some 12), none, (.idxA 20 1 (.t 3) (.t 7))⟩ :: ⟨none, none, .kp [0, 3, 4, 11, 12]⟩ :: ⟨none, none, (.store 1 (.t 12) (.t 11))⟩ :: []
def vc_names_digits_o4 : List VO := ⟨(some 7), none, (.mv (.t 4))⟩ :: ⟨(some 8), none, (.mv (.t 0))⟩ :: ⟨(some 9), none, (.bin .rem (.t 8) (.c (.val (.int .i64 10))))⟩ :: ⟨(some 10), none, (.bin .add (.c (.val (.int .i64 48))) (.t 9))⟩ :: ⟨none, none, .kp [0, 3, 4, 7, 10]⟩ :: ⟨(some 11), none, (.cvInt .u8 (.t 10))⟩ :: vc_names_digits_o4_1
def vc_names_digits_r4 : VCode := (.keep [0, 3, 4] (.seq (.region false vc_names_digits_o4) vc_names_digits_r3))
def vc_names_digits_o5 : List VO := ⟨(some 5), none, (.mv (.t 4))⟩ :: ⟨(some 6), none, (.bin .sub (.t 5) (.c (.val (.int .i64 1))))⟩ :: ⟨none, none, .kp [0, 3, 6]⟩ :: ⟨(some 4), none, (.mv (.t 6))⟩ :: []
def vc_names_digits_l5 : VCode := (.block 1 (.seq (.region false vc_names_digits_o5) vc_names_digits_r4))
def vc_names_digits_r6 : VCode := (.keep [0, 3, 4] (.block 0 (.loop (.keep [0, 3, 4] vc_names_digits_l5))))
def vc_names_digits_o6 : List VO := ⟨(some 4), none, (.mv (.c (.val (.int .i64 20))))⟩ :: []
def vc_names_digits_r7 : VCode := (.keep [0, 3] (.seq (.region false vc_names_digits_o6) vc_names_digits_r6))
def vc_names_digits_o7 : List VO := ⟨(some 3), none, (.alloc 89 [(.val (.int .u8 0)), (.val (.int .u8 0)), (.val (.int .u8 0)), (.val (.int .u8 0)), (.val (.int .u8 0)), (.val (.int .u8 0)), (.val (.int .u8 0)), (.val (.int .u8 0)), (.val (.int .u8 0)), (.val (.int .u8 0)), (.val (.int .u8 0)), (.val (.int .u8 0)), (.val (.int .u8 0)), (.val (.int .u8 0)), (.val (.int .u8 0)), (.val (.int .u8 0)), (.val (.int .u8 0)), (.val (.int .u8 0)), (.val (.int .u8 0)), (.val (.int .u8 0))])⟩ :: []
def vc_names_digits_r8 : VCode := (.keep [0] (.seq (.region false vc_names_digits_o7) vc_names_digits_r7))
def vc_names_digits_o8 : List VO := ⟨(some 2), none, (.mv (.c (.val (.string ⟨#[]⟩))))⟩ :: []
def vc_names_digits : VCode := (.seq (.region false vc_names_digits_o8) vc_names_digits_r8)
def rs_names_digits : List RV := [(.t 2)]
theorem comp_names_digits : ccode Try.prog (Try.f67.body.getD .skip) = some (strip vc_names_digits) := by kernel_rfl
theorem code_names_digits : IsCode Try.prog id_names_digits 20 vc_names_digits rs_names_digits := ⟨_, _, Try.func67, by kernel_rfl, rfl, comp_names_digits, by kernel_rfl, by kernel_rfl, rfl⟩

/- usher/names.number -/
def vc_names_number_o1 : List VO := ⟨(some 39), none, (.mv (.t 3))⟩ :: ⟨(some 2), none, (.mv (.t 39))⟩ :: []
def vc_names_number_r1 : VCode := (.keep [3] (.seq (.region false vc_names_number_o1) (.keep [2] .ret)))
def vc_names_number_o2 : List VO := ⟨(some 38), none, (.bin .add (.t 8) (.c (.val (.int .i64 1))))⟩ :: ⟨(some 8), none, (.mv (.t 38))⟩ :: []
def vc_names_number_r2 : VCode := (.keep [0, 3, 7, 8] (.region false vc_names_number_o2))
def vc_names_number_o3_1 : List VO := ⟨(some 37), none, (.bin .add (.t 33) (.t 36))⟩ :: ⟨none, none, .kp [0, 7, 8, 37]⟩ :: ⟨(some 3), none, (.mv (.t 37))⟩ :: []
def vc_names_number_o3 : List VO := ⟨(some 32), none, (.mv (.t 3))⟩ :: ⟨(some 33), none, (.bin .mul (.c (.val (.int .i64 10))) (.t 32))⟩ :: ⟨none, none, .kp [0, 5, 7, 8, 33]⟩ :: ⟨(some 34), none, (.mv (.t 5))⟩ :: ⟨(some 35), none, (.bin .sub (.t 34) (.c (.val (.int .u8 48))))⟩ :: ⟨none, none, .kp [0, 7, 8, 33, 35]⟩ :: ⟨(some 36), none, (.cvInt .i64 (.t 35))⟩ :: vc_names_number_o3_1
def vc_names_number_r3 : VCode := (.keep [0, 3, 5, 7, 8] (.region false vc_names_number_o3))
def vc_names_number_o4 : List VO := ⟨(some 2), none, (.mv (.c (.val (.int .i64 0))))⟩ :: []
def vc_names_number_r4 : VCode := (.keep [0, 3, 5, 7, 8, 31] (.cond (.t 31) (.seq (.region false vc_names_number_o4) (.keep [2] .ret)) .skip))
def vc_names_number_o5_3 : List VO := ⟨(some 29), (some (28, false)), (.mv (.t 4))⟩ :: ⟨none, none, .kp [0, 3, 5, 7, 8, 28, 29]⟩ :: ⟨(some 30), (some (28, false)), (.bin .gtr (.t 29) (.c (.val (.int .i64 8))))⟩ :: ⟨(some 31), none, (.pick (.t 28) (.c (.val (.bool true))) (.t 30))⟩ :: []
def vc_names_number_o5_2 : List VO := ⟨(some 24), (some (23, true)), (.mv (.t 5))⟩ :: ⟨(some 25), (some (23, true)), (.bin .eql (.t 24) (.c (.val (.int .u8 48))))⟩ :: ⟨none, none, .kp [0, 3, 4, 5, 7, 8, 20, 23, 25]⟩ :: ⟨(some 26), (some (20, false)), (.pick (.t 23) (.t 25) (.c (.val (.bool false))))⟩ :: ⟨none, none, .kp [0, 3, 4, 5, 7, 8, 20, 26]⟩ :: ⟨(some 27), none, (.pick (.t 20) (.c (.val (.bool true))) (.t 26))⟩ :: ⟨none, none, .kp [0, 3, 4, 5, 7, 8, 27]⟩ :: ⟨(some 28), none, (.mv (.t 27))⟩ :: vc_names_number_o5_3
def vc_names_number_o5_1 : List VO := ⟨(some 19), none, (.pick (.t 16) (.c (.val (.bool true))) (.t 18))⟩ :: ⟨none, none, .kp [0, 3, 4, 5, 7, 8, 19]⟩ :: ⟨(some 20), none, (.mv (.t 19))⟩ :: ⟨(some 21), (some (20, false)), (.mv (.t 4))⟩ :: ⟨(some 22), (some (20, false)), (.bin .eql (.t 21) (.c (.val (.int .i64 0))))⟩ :: ⟨none, none, .kp [0, 3, 4, 5, 7, 8, 20, 22]⟩ :: ⟨(some 23), (some (20, false)), (.mv (.t 22))⟩ :: vc_names_number_o5_2
def vc_names_number_o5 : List VO := ⟨(some 14), none, (.mv (.t 5))⟩ :: ⟨(some 15), none, (.bin .lss (.t 14) (.c (.val (.int .u8 48))))⟩ :: ⟨(some 16), none, (.mv (.t 15))⟩ :: ⟨none, none, .kp [0, 3, 4, 5, 7, 8, 16]⟩ :: ⟨(some 17), (some (16, false)), (.mv (.t 5))⟩ :: ⟨(some 18), (some (16, false)), (.bin .gtr (.t 17) (.c (.val (.int .u8 57))))⟩ :: vc_names_number_o5_1
def vc_names_number_r5 : VCode := (.keep [0, 3, 4, 5, 7, 8] (.seq (.seq (.region false vc_names_number_o5) vc_names_number_r4) vc_names_number_r3))
def vc_names_number_o6 : List VO := ⟨(some 11), none, (.mv (.t 0))⟩ :: ⟨(some 12), none, (.mv (.t 4))⟩ :: ⟨(some 13), none, (.chr (.t 11) (.t 12))⟩ :: ⟨none, none, .kp [0, 3, 4, 7, 8, 13]⟩ :: ⟨(some 5), none, (.mv (.t 13))⟩ :: []
def vc_names_number_r6 : VCode := (.keep [0, 3, 4, 7, 8] (.seq (.region false vc_names_number_o6) vc_names_number_r5))
def vc_names_number_o7 : List VO := ⟨(some 10), none, (.mv (.t 8))⟩ :: ⟨(some 4), none, (.mv (.t 10))⟩ :: []
def vc_names_number_r7 : VCode := (.keep [0, 3, 7, 8] (.seq (.block 1 (.seq (.region false vc_names_number_o7) vc_names_number_r6)) vc_names_number_r2))
def vc_names_number_r8 : VCode := (.keep [0, 3, 7, 8, 9] (.seq (.cond (.t 9) .skip (.exit 0)) vc_names_number_r7))
def vc_names_number_o8 : List VO := ⟨(some 9), none, (.bin .lss (.t 8) (.t 7))⟩ :: []
def vc_names_number_l9 : VCode := (.seq (.region false vc_names_number_o8) vc_names_number_r8)
def vc_names_number_r10 : VCode := (.keep [0, 3, 7, 8] (.block 0 (.loop (.keep [0, 3, 7, 8] vc_names_number_l9))))
def vc_names_number_o9 : List VO := ⟨(some 6), none, (.mv (.t 0))⟩ :: ⟨(some 7), none, (.lenS (.t 6))⟩ :: ⟨(some 8), none, (.mv (.c (.val (.int .i64 0))))⟩ :: []
def vc_names_number_r11 : VCode := (.keep [0, 3] (.seq (.seq (.region false vc_names_number_o9) vc_names_number_r10) vc_names_number_r1))
def vc_names_number_o10 : List VO := ⟨(some 3), none, (.mv (.c (.val (.int .i64 0))))⟩ :: []
def vc_names_number_r12 : VCode := (.keep [0] (.seq (.region false vc_names_number_o10) vc_names_number_r11))
def vc_names_number_o11 : List VO := ⟨(some 2), none, (.mv (.c (.val (.int .i64 0))))⟩ :: []
def vc_names_number : VCode := (.seq (.region false vc_names_number_o11) vc_names_number_r12)
def rs_names_number : List RV := [(.t 2)]
theorem comp_names_number : ccode Try.prog (Try.f89.body.getD .skip) = some (strip vc_names_number) := by kernel_rfl
theorem code_names_number : IsCode Try.prog id_names_number 40 vc_names_number rs_names_number := ⟨_, _, Try.func89, by kernel_rfl, rfl, comp_names_number, by kernel_rfl, by kernel_rfl, rfl⟩

end Go.Proofs.Ytdjgfjnnafddnaa
