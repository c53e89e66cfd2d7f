/- The code of functions, for the abstract machine, and that it is theirs. Printed by vc2.py. -/
import Derived.Test.YtalbdoapcpgelaaIds
set_option linter.unusedVariables false
set_option maxRecDepth 100000
namespace Go.Proofs.Ytalbdoapcpgelaa
open Go Go.Vm

/- gosem.cut.init -/
def vc_gosem_cut_init_o1 : List VO := ⟨(some 0), none, (.call 1 [] [])⟩ :: []
def vc_gosem_cut_init : VCode := (.region false vc_gosem_cut_init_o1)
def rs_gosem_cut_init : List RV := []
theorem comp_gosem_cut_init : ccode Try.prog (Try.f2.body.getD .skip) = some (strip vc_gosem_cut_init) := by kernel_rfl
theorem code_gosem_cut_init : IsCode Try.prog id_gosem_cut_init 1 vc_gosem_cut_init rs_gosem_cut_init := ⟨_, _, Try.func2, by kernel_rfl, rfl, comp_gosem_cut_init, by kernel_rfl, by kernel_rfl, rfl⟩

/- slices.EqualFunc[[]usher/api.Event,[]usher/api.Event,usher/api.Event,usher/api.Event] -/
def vc_slices_EqualFunc_LEvent_o1 : List VO := ⟨(some 6), none, (.mv (.c (.val (.bool true))))⟩ :: []
def vc_slices_EqualFunc_LEvent_r1 : VCode := (.keep [] (.seq (.region false vc_slices_EqualFunc_LEvent_o1) (.keep [6] .ret)))
def vc_slices_EqualFunc_LEvent_o2 : List VO := ⟨(some 31), none, (.bin .add (.t 17) (.c (.val (.int .i64 1))))⟩ :: ⟨(some 17), none, (.mv (.t 31))⟩ :: []
def vc_slices_EqualFunc_LEvent_r2 : VCode := (.keep [1, 2, 15, 16, 17] (.region false vc_slices_EqualFunc_LEvent_o2))
def vc_slices_EqualFunc_LEvent_o3 : List VO := ⟨(some 6), none, (.mv (.c (.val (.bool false))))⟩ :: []
def vc_slices_EqualFunc_LEvent_c3 : VCode := (.seq (.region false vc_slices_EqualFunc_LEvent_o3) (.keep [6] .ret))
def vc_slices_EqualFunc_LEvent_r4 : VCode := (.keep [1, 2, 15, 16, 17, 30] (.cond (.t 30) vc_slices_EqualFunc_LEvent_c3 .skip))
def vc_slices_EqualFunc_LEvent_o4 : List VO := ⟨(some 26), none, (.mv (.t 2))⟩ :: ⟨(some 27), none, (.load true 13 (.t 8))⟩ :: ⟨(some 28), none, (.load true 13 (.t 9))⟩ :: ⟨none, none, .kp [1, 2, 15, 16, 17, 26, 27, 28]⟩ :: ⟨(some 29), none, (.callV (.t 26) [] [(.t 27), (.t 28)])⟩ :: ⟨none, none, .kp [1, 2, 15, 16, 17, 29]⟩ :: ⟨(some 30), none, (.un .not (.t 29))⟩ :: []
def vc_slices_EqualFunc_LEvent_r5 : VCode := (.keep [1, 2, 8, 9, 15, 16, 17] (.seq (.region false vc_slices_EqualFunc_LEvent_o4) vc_slices_EqualFunc_LEvent_r4))
def vc_slices_EqualFunc_LEvent_o5_1 : List VO := ⟨none, none, (.store 13 (.t 9) (.t 25))⟩ :: []
def vc_slices_EqualFunc_LEvent_o5 : List VO := ⟨(some 22), none, (.mv (.t 1))⟩ :: ⟨(some 23), none, (.mv (.t 7))⟩ :: ⟨(some 24), none, (.idx 13 (.t 22) (.t 23))⟩ :: ⟨none, none, .kp [1, 2, 8, 15, 16, 17, 24]⟩ :: ⟨(some 25), none, (.load true 13 (.t 24))⟩ :: ⟨(some 9), none, (.alloc 36 [(.val (.int .i64 0)), (.val (.int .i64 0)), (.val (.int .i64 0)), (.val (.int .i64 0)), (.val (.string ⟨#[]⟩)), (.val (.int .i64 0)), (.val (.int .i64 0)), (.val (.int .u64 0)), (.val (.string ⟨#[]⟩)), (.val (.slice none 0 0)), (.val (.int .i64 0)), (.val (.int .u64 0)), (.val (.int .i64 0))])⟩ :: vc_slices_EqualFunc_LEvent_o5_1
def vc_slices_EqualFunc_LEvent_r6 : VCode := (.keep [1, 2, 7, 8, 15, 16, 17] (.seq (.region false vc_slices_EqualFunc_LEvent_o5) vc_slices_EqualFunc_LEvent_r5))
def vc_slices_EqualFunc_LEvent_o6_1 : List VO := ⟨none, none, (.store 13 (.t 8) (.t 21))⟩ :: []
def vc_slices_EqualFunc_LEvent_o6 : List VO := ⟨(some 19), none, (.mv (.t 17))⟩ :: ⟨(some 20), none, (.idx 13 (.t 15) (.t 17))⟩ :: ⟨(some 21), none, (.load true 13 (.t 20))⟩ :: ⟨(some 8), none, (.alloc 36 [(.val (.int .i64 0)), (.val (.int .i64 0)), (.val (.int .i64 0)), (.val (.int .i64 0)), (.val (.string ⟨#[]⟩)), (.val (.int .i64 0)), (.val (.int .i64 0)), (.val (.int .u64 0)), (.val (.string ⟨#[]⟩)), (.val (.slice none 0 0)), (.val (.int .i64 0)), (.val (.int .u64 0)), (.val (.int .i64 0))])⟩ :: ⟨(some 7), none, (.mv (.t 19))⟩ :: ⟨none, none, .kp [1, 2, 7, 8, 15, 16, 17, 21]⟩ :: vc_slices_EqualFunc_LEvent_o6_1
def vc_slices_EqualFunc_LEvent_c7 : VCode := (.seq (.region false vc_slices_EqualFunc_LEvent_o6) vc_slices_EqualFunc_LEvent_r6)
def vc_slices_EqualFunc_LEvent_r8 : VCode := (.keep [1, 2, 15, 16, 17] (.seq (.block 1 vc_slices_EqualFunc_LEvent_c7) vc_slices_EqualFunc_LEvent_r2))
def vc_slices_EqualFunc_LEvent_r9 : VCode := (.keep [1, 2, 15, 16, 17, 18] (.seq (.cond (.t 18) .skip (.exit 0)) vc_slices_EqualFunc_LEvent_r8))
def vc_slices_EqualFunc_LEvent_o7 : List VO := ⟨(some 18), none, (.bin .lss (.t 17) (.t 16))⟩ :: []
def vc_slices_EqualFunc_LEvent_l10 : VCode := (.seq (.region false vc_slices_EqualFunc_LEvent_o7) vc_slices_EqualFunc_LEvent_r9)
def vc_slices_EqualFunc_LEvent_c11 : VCode := (.loop (.keep [1, 2, 15, 16, 17] vc_slices_EqualFunc_LEvent_l10))
def vc_slices_EqualFunc_LEvent_r12 : VCode := (.keep [1, 2, 15, 16, 17] (.block 0 vc_slices_EqualFunc_LEvent_c11))
def vc_slices_EqualFunc_LEvent_o8 : List VO := ⟨(some 15), none, (.mv (.t 0))⟩ :: ⟨(some 16), none, (.len (.t 15))⟩ :: ⟨(some 17), none, (.mv (.c (.val (.int .i64 0))))⟩ :: []
def vc_slices_EqualFunc_LEvent_r13 : VCode := (.keep [0, 1, 2] (.seq (.seq (.region false vc_slices_EqualFunc_LEvent_o8) vc_slices_EqualFunc_LEvent_r12) vc_slices_EqualFunc_LEvent_r1))
def vc_slices_EqualFunc_LEvent_o9 : List VO := ⟨(some 6), none, (.mv (.c (.val (.bool false))))⟩ :: []
def vc_slices_EqualFunc_LEvent_c14 : VCode := (.seq (.region false vc_slices_EqualFunc_LEvent_o9) (.keep [6] .ret))
def vc_slices_EqualFunc_LEvent_r15 : VCode := (.keep [0, 1, 2, 14] (.cond (.t 14) vc_slices_EqualFunc_LEvent_c14 .skip))
def vc_slices_EqualFunc_LEvent_o10 : List VO := ⟨(some 10), none, (.mv (.t 0))⟩ :: ⟨(some 11), none, (.len (.t 10))⟩ :: ⟨(some 12), none, (.mv (.t 1))⟩ :: ⟨(some 13), none, (.len (.t 12))⟩ :: ⟨none, none, .kp [0, 1, 2, 11, 13]⟩ :: ⟨(some 14), none, (.bin .neq (.t 11) (.t 13))⟩ :: []
def vc_slices_EqualFunc_LEvent_r16 : VCode := (.keep [0, 1, 2] (.seq (.seq (.region false vc_slices_EqualFunc_LEvent_o10) vc_slices_EqualFunc_LEvent_r15) vc_slices_EqualFunc_LEvent_r13))
def vc_slices_EqualFunc_LEvent_o11 : List VO := ⟨(some 6), none, (.mv (.c (.val (.bool false))))⟩ :: []
def vc_slices_EqualFunc_LEvent : VCode := (.seq (.region false vc_slices_EqualFunc_LEvent_o11) vc_slices_EqualFunc_LEvent_r16)
def rs_slices_EqualFunc_LEvent : List RV := [(.t 6)]
theorem comp_slices_EqualFunc_LEvent : ccode Try.prog (Try.f21.body.getD .skip) = some (strip vc_slices_EqualFunc_LEvent) := by kernel_rfl
theorem code_slices_EqualFunc_LEvent : IsCode Try.prog id_slices_EqualFunc_LEvent 32 vc_slices_EqualFunc_LEvent rs_slices_EqualFunc_LEvent := ⟨_, _, Try.func21, by kernel_rfl, rfl, comp_slices_EqualFunc_LEvent, by kernel_rfl, by kernel_rfl, rfl⟩

/- slices.Equal[[]int,int] -/
def vc_slices_Equal_Lint_o1 : List VO := ⟨(some 4), none, (.mv (.c (.val (.bool true))))⟩ :: []
def vc_slices_Equal_Lint_r1 : VCode := (.keep [] (.seq (.region false vc_slices_Equal_Lint_o1) (.keep [4] .ret)))
def vc_slices_Equal_Lint_o2 : List VO := ⟨(some 25), none, (.bin .add (.t 13) (.c (.val (.int .i64 1))))⟩ :: ⟨(some 13), none, (.mv (.t 25))⟩ :: []
def vc_slices_Equal_Lint_r2 : VCode := (.keep [0, 1, 12, 13] (.region false vc_slices_Equal_Lint_o2))
def vc_slices_Equal_Lint_o3 : List VO := ⟨(some 4), none, (.mv (.c (.val (.bool false))))⟩ :: []
def vc_slices_Equal_Lint_c3 : VCode := (.seq (.region false vc_slices_Equal_Lint_o3) (.keep [4] .ret))
def vc_slices_Equal_Lint_r4 : VCode := (.keep [0, 1, 12, 13, 24] (.cond (.t 24) vc_slices_Equal_Lint_c3 .skip))
def vc_slices_Equal_Lint_d4 : DT := (.op true [] ⟨(some 24), none, (.bin .neq (.t 19) (.t 23))⟩ .done)
def vc_slices_Equal_Lint_d5 : DT := (.op true [] ⟨(some 20), none, (.mv (.t 1))⟩ (.op true [] ⟨(some 21), none, (.mv (.t 5))⟩ (.op true [] ⟨(some 22), none, (.idx 1 (.t 20) (.t 21))⟩ (.op true [] ⟨(some 23), none, (.load false 1 (.t 22))⟩ vc_slices_Equal_Lint_d4))))
def vc_slices_Equal_Lint_d6 : DT := (.op true [] ⟨(some 16), none, (.mv (.t 0))⟩ (.op true [] ⟨(some 17), none, (.mv (.t 5))⟩ (.op true [] ⟨(some 18), none, (.idx 1 (.t 16) (.t 17))⟩ (.op true [] ⟨(some 19), none, (.load false 1 (.t 18))⟩ vc_slices_Equal_Lint_d5))))
def vc_slices_Equal_Lint_r5 : VCode := (.keep [0, 1, 5, 12, 13] (.seq (.draws [0, 1, 12, 13, 24] vc_slices_Equal_Lint_d6) vc_slices_Equal_Lint_r4))
def vc_slices_Equal_Lint_o7 : List VO := ⟨(some 15), none, (.mv (.t 13))⟩ :: ⟨(some 5), none, (.mv (.t 15))⟩ :: []
def vc_slices_Equal_Lint_c6 : VCode := (.seq (.region false vc_slices_Equal_Lint_o7) vc_slices_Equal_Lint_r5)
def vc_slices_Equal_Lint_r7 : VCode := (.keep [0, 1, 12, 13] (.seq (.block 1 vc_slices_Equal_Lint_c6) vc_slices_Equal_Lint_r2))
def vc_slices_Equal_Lint_r8 : VCode := (.keep [0, 1, 12, 13, 14] (.seq (.cond (.t 14) .skip (.exit 0)) vc_slices_Equal_Lint_r7))
def vc_slices_Equal_Lint_o8 : List VO := ⟨(some 14), none, (.bin .lss (.t 13) (.t 12))⟩ :: []
def vc_slices_Equal_Lint_l9 : VCode := (.seq (.region false vc_slices_Equal_Lint_o8) vc_slices_Equal_Lint_r8)
def vc_slices_Equal_Lint_r10 : VCode := (.keep [0, 1, 12, 13] (.block 0 (.loop (.keep [0, 1, 12, 13] vc_slices_Equal_Lint_l9))))
def vc_slices_Equal_Lint_o9 : List VO := ⟨(some 11), none, (.mv (.t 0))⟩ :: ⟨(some 12), none, (.len (.t 11))⟩ :: ⟨(some 13), none, (.mv (.c (.val (.int .i64 0))))⟩ :: []
def vc_slices_Equal_Lint_r11 : VCode := (.keep [0, 1] (.seq (.seq (.region false vc_slices_Equal_Lint_o9) vc_slices_Equal_Lint_r10) vc_slices_Equal_Lint_r1))
def vc_slices_Equal_Lint_o10 : List VO := ⟨(some 4), none, (.mv (.c (.val (.bool false))))⟩ :: []
def vc_slices_Equal_Lint_c12 : VCode := (.seq (.region false vc_slices_Equal_Lint_o10) (.keep [4] .ret))
def vc_slices_Equal_Lint_r13 : VCode := (.keep [0, 1, 10] (.cond (.t 10) vc_slices_Equal_Lint_c12 .skip))
def vc_slices_Equal_Lint_o11 : List VO := ⟨(some 6), none, (.mv (.t 0))⟩ :: ⟨(some 7), none, (.len (.t 6))⟩ :: ⟨(some 8), none, (.mv (.t 1))⟩ :: ⟨(some 9), none, (.len (.t 8))⟩ :: ⟨none, none, .kp [0, 1, 7, 9]⟩ :: ⟨(some 10), none, (.bin .neq (.t 7) (.t 9))⟩ :: []
def vc_slices_Equal_Lint_r14 : VCode := (.keep [0, 1] (.seq (.seq (.region false vc_slices_Equal_Lint_o11) vc_slices_Equal_Lint_r13) vc_slices_Equal_Lint_r11))
def vc_slices_Equal_Lint_o12 : List VO := ⟨(some 4), none, (.mv (.c (.val (.bool false))))⟩ :: []
def vc_slices_Equal_Lint : VCode := (.seq (.region false vc_slices_Equal_Lint_o12) vc_slices_Equal_Lint_r14)
def rs_slices_Equal_Lint : List RV := [(.t 4)]
theorem comp_slices_Equal_Lint : ccode Try.prog (Try.f24.body.getD .skip) = some (strip vc_slices_Equal_Lint) := by kernel_rfl
theorem code_slices_Equal_Lint : IsCode Try.prog id_slices_Equal_Lint 26 vc_slices_Equal_Lint rs_slices_Equal_Lint := ⟨_, _, Try.func24, by kernel_rfl, rfl, comp_slices_Equal_Lint, by kernel_rfl, by kernel_rfl, rfl⟩

/- bytes.Equal -/
def vc_bytes_Equal_o1_1 : List VO := ⟨(some 4), none, (.mv (.t 9))⟩ :: []
def vc_bytes_Equal_o1 : List VO := ⟨(some 5), none, (.mv (.t 0))⟩ :: ⟨(some 6), none, (.toStr (.t 5))⟩ :: ⟨none, none, .kp [1, 6]⟩ :: ⟨(some 7), none, (.mv (.t 1))⟩ :: ⟨(some 8), none, (.toStr (.t 7))⟩ :: ⟨none, none, .kp [6, 8]⟩ :: ⟨(some 9), none, (.bin .eql (.t 6) (.t 8))⟩ :: ⟨none, none, .kp [9]⟩ :: vc_bytes_Equal_o1_1
def vc_bytes_Equal_r1 : VCode := (.keep [0, 1] (.seq (.region false vc_bytes_Equal_o1) (.keep [4] .ret)))
def vc_bytes_Equal_o2 : List VO := ⟨(some 4), none, (.mv (.c (.val (.bool false))))⟩ :: []
def vc_bytes_Equal : VCode := (.seq (.region false vc_bytes_Equal_o2) vc_bytes_Equal_r1)
def rs_bytes_Equal : List RV := [(.t 4)]
theorem comp_bytes_Equal : ccode Try.prog (Try.f29.body.getD .skip) = some (strip vc_bytes_Equal) := by kernel_rfl
theorem code_bytes_Equal : IsCode Try.prog id_bytes_Equal 10 vc_bytes_Equal rs_bytes_Equal := ⟨_, _, Try.func29, by kernel_rfl, rfl, comp_bytes_Equal, by kernel_rfl, by kernel_rfl, rfl⟩

/- slices.Clone[[]byte,byte] -/
def vc_slices_Clone_Lbyte_o1 : List VO := ⟨(some 5), none, (.lit false 5 1 0 [] [])⟩ :: ⟨(some 6), none, (.mv (.t 0))⟩ :: ⟨(some 7), none, (.app 5 1 1 (.t 5) (.t 6))⟩ :: ⟨none, none, .kp [7]⟩ :: ⟨(some 2), none, (.mv (.t 7))⟩ :: []
def vc_slices_Clone_Lbyte_r1 : VCode := (.keep [0] (.seq (.region false vc_slices_Clone_Lbyte_o1) (.keep [2] .ret)))
def vc_slices_Clone_Lbyte_o2 : List VO := ⟨(some 2), none, (.mv (.c (.val (.slice none 0 0))))⟩ :: []
def vc_slices_Clone_Lbyte_c2 : VCode := (.seq (.region false vc_slices_Clone_Lbyte_o2) (.keep [2] .ret))
def vc_slices_Clone_Lbyte_r3 : VCode := (.keep [0, 4] (.cond (.t 4) vc_slices_Clone_Lbyte_c2 .skip))
def vc_slices_Clone_Lbyte_o3 : List VO := ⟨(some 3), none, (.mv (.t 0))⟩ :: ⟨(some 4), none, (.isnil .s false (.t 3))⟩ :: []
def vc_slices_Clone_Lbyte_r4 : VCode := (.keep [0] (.seq (.seq (.region false vc_slices_Clone_Lbyte_o3) vc_slices_Clone_Lbyte_r3) vc_slices_Clone_Lbyte_r1))
def vc_slices_Clone_Lbyte_o4 : List VO := ⟨(some 2), none, (.mv (.c (.val (.slice none 0 0))))⟩ :: []
def vc_slices_Clone_Lbyte : VCode := (.seq (.region false vc_slices_Clone_Lbyte_o4) vc_slices_Clone_Lbyte_r4)
def rs_slices_Clone_Lbyte : List RV := [(.t 2)]
theorem comp_slices_Clone_Lbyte : ccode Try.prog (Try.f40.body.getD .skip) = some (strip vc_slices_Clone_Lbyte) := by kernel_rfl
theorem code_slices_Clone_Lbyte : IsCode Try.prog id_slices_Clone_Lbyte 8 vc_slices_Clone_Lbyte rs_slices_Clone_Lbyte := ⟨_, _, Try.func40, by kernel_rfl, rfl, comp_slices_Clone_Lbyte, by kernel_rfl, by kernel_rfl, rfl⟩

/- slices.Index[[]int,int] -/
def vc_slices_Index_Lint_o1 : List VO := ⟨(some 4), none, (.mv (.c (.val (.int .i64 (-1)))))⟩ :: []
def vc_slices_Index_Lint_r1 : VCode := (.keep [] (.seq (.region false vc_slices_Index_Lint_o1) (.keep [4] .ret)))
def vc_slices_Index_Lint_o2 : List VO := ⟨(some 18), none, (.bin .add (.t 8) (.c (.val (.int .i64 1))))⟩ :: ⟨(some 8), none, (.mv (.t 18))⟩ :: []
def vc_slices_Index_Lint_r2 : VCode := (.keep [0, 1, 7, 8] (.region false vc_slices_Index_Lint_o2))
def vc_slices_Index_Lint_o3 : List VO := ⟨(some 17), none, (.mv (.t 5))⟩ :: ⟨(some 4), none, (.mv (.t 17))⟩ :: []
def vc_slices_Index_Lint_c3 : VCode := (.seq (.region false vc_slices_Index_Lint_o3) (.keep [4] .ret))
def vc_slices_Index_Lint_r4 : VCode := (.keep [0, 1, 5, 7, 8, 16] (.cond (.t 16) vc_slices_Index_Lint_c3 .skip))
def vc_slices_Index_Lint_o4_1 : List VO := ⟨(some 16), none, (.bin .eql (.t 11) (.t 15))⟩ :: []
def vc_slices_Index_Lint_o4 : List VO := ⟨(some 11), none, (.mv (.t 1))⟩ :: ⟨(some 12), none, (.mv (.t 0))⟩ :: ⟨(some 13), none, (.mv (.t 5))⟩ :: ⟨(some 14), none, (.idx 1 (.t 12) (.t 13))⟩ :: ⟨none, none, .kp [0, 1, 5, 7, 8, 11, 14]⟩ :: ⟨(some 15), none, (.load false 1 (.t 14))⟩ :: vc_slices_Index_Lint_o4_1
def vc_slices_Index_Lint_r5 : VCode := (.keep [0, 1, 5, 7, 8] (.seq (.region false vc_slices_Index_Lint_o4) vc_slices_Index_Lint_r4))
def vc_slices_Index_Lint_o5 : List VO := ⟨(some 10), none, (.mv (.t 8))⟩ :: ⟨(some 5), none, (.mv (.t 10))⟩ :: []
def vc_slices_Index_Lint_c6 : VCode := (.seq (.region false vc_slices_Index_Lint_o5) vc_slices_Index_Lint_r5)
def vc_slices_Index_Lint_r7 : VCode := (.keep [0, 1, 7, 8] (.seq (.block 1 vc_slices_Index_Lint_c6) vc_slices_Index_Lint_r2))
def vc_slices_Index_Lint_r8 : VCode := (.keep [0, 1, 7, 8, 9] (.seq (.cond (.t 9) .skip (.exit 0)) vc_slices_Index_Lint_r7))
def vc_slices_Index_Lint_o6 : List VO := ⟨(some 9), none, (.bin .lss (.t 8) (.t 7))⟩ :: []
def vc_slices_Index_Lint_l9 : VCode := (.seq (.region false vc_slices_Index_Lint_o6) vc_slices_Index_Lint_r8)
def vc_slices_Index_Lint_r10 : VCode := (.keep [0, 1, 7, 8] (.block 0 (.loop (.keep [0, 1, 7, 8] vc_slices_Index_Lint_l9))))
def vc_slices_Index_Lint_o7 : List VO := ⟨(some 6), none, (.mv (.t 0))⟩ :: ⟨(some 7), none, (.len (.t 6))⟩ :: ⟨(some 8), none, (.mv (.c (.val (.int .i64 0))))⟩ :: []
def vc_slices_Index_Lint_r11 : VCode := (.keep [0, 1] (.seq (.seq (.region false vc_slices_Index_Lint_o7) vc_slices_Index_Lint_r10) vc_slices_Index_Lint_r1))
def vc_slices_Index_Lint_o8 : List VO := ⟨(some 4), none, (.mv (.c (.val (.int .i64 0))))⟩ :: []
def vc_slices_Index_Lint : VCode := (.seq (.region false vc_slices_Index_Lint_o8) vc_slices_Index_Lint_r11)
def rs_slices_Index_Lint : List RV := [(.t 4)]
theorem comp_slices_Index_Lint : ccode Try.prog (Try.f41.body.getD .skip) = some (strip vc_slices_Index_Lint) := by kernel_rfl
theorem code_slices_Index_Lint : IsCode Try.prog id_slices_Index_Lint 19 vc_slices_Index_Lint rs_slices_Index_Lint := ⟨_, _, Try.func41, by kernel_rfl, rfl, comp_slices_Index_Lint, by kernel_rfl, by kernel_rfl, rfl⟩

/- slices.EqualFunc[[][]byte,[][]byte,[]byte,[]byte] -/
def vc_slices_EqualFunc_LLbyte_o1 : List VO := ⟨(some 6), none, (.mv (.c (.val (.bool true))))⟩ :: []
def vc_slices_EqualFunc_LLbyte_r1 : VCode := (.keep [] (.seq (.region false vc_slices_EqualFunc_LLbyte_o1) (.keep [6] .ret)))
def vc_slices_EqualFunc_LLbyte_o2 : List VO := ⟨(some 31), none, (.bin .add (.t 17) (.c (.val (.int .i64 1))))⟩ :: ⟨(some 17), none, (.mv (.t 31))⟩ :: []
def vc_slices_EqualFunc_LLbyte_r2 : VCode := (.keep [1, 2, 15, 16, 17] (.region false vc_slices_EqualFunc_LLbyte_o2))
def vc_slices_EqualFunc_LLbyte_o3 : List VO := ⟨(some 6), none, (.mv (.c (.val (.bool false))))⟩ :: []
def vc_slices_EqualFunc_LLbyte_c3 : VCode := (.seq (.region false vc_slices_EqualFunc_LLbyte_o3) (.keep [6] .ret))
def vc_slices_EqualFunc_LLbyte_r4 : VCode := (.keep [1, 2, 15, 16, 17, 30] (.cond (.t 30) vc_slices_EqualFunc_LLbyte_c3 .skip))
def vc_slices_EqualFunc_LLbyte_o4 : List VO := ⟨(some 26), none, (.mv (.t 2))⟩ :: ⟨(some 27), none, (.mv (.t 8))⟩ :: ⟨(some 28), none, (.mv (.t 9))⟩ :: ⟨none, none, .kp [1, 2, 15, 16, 17, 26, 27, 28]⟩ :: ⟨(some 29), none, (.callV (.t 26) [] [(.t 27), (.t 28)])⟩ :: ⟨none, none, .kp [1, 2, 15, 16, 17, 29]⟩ :: ⟨(some 30), none, (.un .not (.t 29))⟩ :: []
def vc_slices_EqualFunc_LLbyte_r5 : VCode := (.keep [1, 2, 8, 9, 15, 16, 17] (.seq (.region false vc_slices_EqualFunc_LLbyte_o4) vc_slices_EqualFunc_LLbyte_r4))
def vc_slices_EqualFunc_LLbyte_o5 : List VO := ⟨(some 22), none, (.mv (.t 1))⟩ :: ⟨(some 23), none, (.mv (.t 7))⟩ :: ⟨(some 24), none, (.idx 1 (.t 22) (.t 23))⟩ :: ⟨none, none, .kp [1, 2, 8, 15, 16, 17, 24]⟩ :: ⟨(some 25), none, (.load false 1 (.t 24))⟩ :: ⟨(some 9), none, (.mv (.t 25))⟩ :: []
def vc_slices_EqualFunc_LLbyte_r6 : VCode := (.keep [1, 2, 7, 8, 15, 16, 17] (.seq (.region false vc_slices_EqualFunc_LLbyte_o5) vc_slices_EqualFunc_LLbyte_r5))
def vc_slices_EqualFunc_LLbyte_o6 : List VO := ⟨(some 19), none, (.mv (.t 17))⟩ :: ⟨(some 20), none, (.idx 1 (.t 15) (.t 17))⟩ :: ⟨(some 21), none, (.load false 1 (.t 20))⟩ :: ⟨(some 7), none, (.mv (.t 19))⟩ :: ⟨none, none, .kp [1, 2, 7, 15, 16, 17, 21]⟩ :: ⟨(some 8), none, (.mv (.t 21))⟩ :: []
def vc_slices_EqualFunc_LLbyte_c7 : VCode := (.seq (.region false vc_slices_EqualFunc_LLbyte_o6) vc_slices_EqualFunc_LLbyte_r6)
def vc_slices_EqualFunc_LLbyte_r8 : VCode := (.keep [1, 2, 15, 16, 17] (.seq (.block 1 vc_slices_EqualFunc_LLbyte_c7) vc_slices_EqualFunc_LLbyte_r2))
def vc_slices_EqualFunc_LLbyte_r9 : VCode := (.keep [1, 2, 15, 16, 17, 18] (.seq (.cond (.t 18) .skip (.exit 0)) vc_slices_EqualFunc_LLbyte_r8))
def vc_slices_EqualFunc_LLbyte_o7 : List VO := ⟨(some 18), none, (.bin .lss (.t 17) (.t 16))⟩ :: []
def vc_slices_EqualFunc_LLbyte_l10 : VCode := (.seq (.region false vc_slices_EqualFunc_LLbyte_o7) vc_slices_EqualFunc_LLbyte_r9)
def vc_slices_EqualFunc_LLbyte_c11 : VCode := (.loop (.keep [1, 2, 15, 16, 17] vc_slices_EqualFunc_LLbyte_l10))
def vc_slices_EqualFunc_LLbyte_r12 : VCode := (.keep [1, 2, 15, 16, 17] (.block 0 vc_slices_EqualFunc_LLbyte_c11))
def vc_slices_EqualFunc_LLbyte_o8 : List VO := ⟨(some 15), none, (.mv (.t 0))⟩ :: ⟨(some 16), none, (.len (.t 15))⟩ :: ⟨(some 17), none, (.mv (.c (.val (.int .i64 0))))⟩ :: []
def vc_slices_EqualFunc_LLbyte_r13 : VCode := (.keep [0, 1, 2] (.seq (.seq (.region false vc_slices_EqualFunc_LLbyte_o8) vc_slices_EqualFunc_LLbyte_r12) vc_slices_EqualFunc_LLbyte_r1))
def vc_slices_EqualFunc_LLbyte_o9 : List VO := ⟨(some 6), none, (.mv (.c (.val (.bool false))))⟩ :: []
def vc_slices_EqualFunc_LLbyte_c14 : VCode := (.seq (.region false vc_slices_EqualFunc_LLbyte_o9) (.keep [6] .ret))
def vc_slices_EqualFunc_LLbyte_r15 : VCode := (.keep [0, 1, 2, 14] (.cond (.t 14) vc_slices_EqualFunc_LLbyte_c14 .skip))
def vc_slices_EqualFunc_LLbyte_o10 : List VO := ⟨(some 10), none, (.mv (.t 0))⟩ :: ⟨(some 11), none, (.len (.t 10))⟩ :: ⟨(some 12), none, (.mv (.t 1))⟩ :: ⟨(some 13), none, (.len (.t 12))⟩ :: ⟨none, none, .kp [0, 1, 2, 11, 13]⟩ :: ⟨(some 14), none, (.bin .neq (.t 11) (.t 13))⟩ :: []
def vc_slices_EqualFunc_LLbyte_r16 : VCode := (.keep [0, 1, 2] (.seq (.seq (.region false vc_slices_EqualFunc_LLbyte_o10) vc_slices_EqualFunc_LLbyte_r15) vc_slices_EqualFunc_LLbyte_r13))
def vc_slices_EqualFunc_LLbyte_o11 : List VO := ⟨(some 6), none, (.mv (.c (.val (.bool false))))⟩ :: []
def vc_slices_EqualFunc_LLbyte : VCode := (.seq (.region false vc_slices_EqualFunc_LLbyte_o11) vc_slices_EqualFunc_LLbyte_r16)
def rs_slices_EqualFunc_LLbyte : List RV := [(.t 6)]
theorem comp_slices_EqualFunc_LLbyte : ccode Try.prog (Try.f75.body.getD .skip) = some (strip vc_slices_EqualFunc_LLbyte) := by kernel_rfl
theorem code_slices_EqualFunc_LLbyte : IsCode Try.prog id_slices_EqualFunc_LLbyte 32 vc_slices_EqualFunc_LLbyte rs_slices_EqualFunc_LLbyte := ⟨_, _, Try.func75, by kernel_rfl, rfl, comp_slices_EqualFunc_LLbyte, by kernel_rfl, by kernel_rfl, rfl⟩

end Go.Proofs.Ytalbdoapcpgelaa
