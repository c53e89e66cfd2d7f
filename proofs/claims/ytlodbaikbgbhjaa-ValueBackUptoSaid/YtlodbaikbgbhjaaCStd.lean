/- The code of functions, for the abstract machine, and that it is theirs. Printed by vc2.py. -/
import Derived.Test.YtlodbaikbgbhjaaIds
set_option linter.unusedVariables false
set_option maxRecDepth 100000
namespace Go.Proofs.Ytlodbaikbgbhjaa
open Go Go.Vm

/- gosem.cut.init -/
def vc_gosem_cut_init_o1 : List VO := ⟨(some 0), none, (.call 1 [] [])⟩ :: []
def vc_gosem_cut_init : VCode := (.region false vc_gosem_cut_init_o1)
def rs_gosem_cut_init : List RV := []
theorem comp_gosem_cut_init : ccode Try.prog (Try.f2.body.getD .skip) = some (strip vc_gosem_cut_init) := by kernel_rfl
theorem code_gosem_cut_init : IsCode Try.prog id_gosem_cut_init 1 vc_gosem_cut_init rs_gosem_cut_init := ⟨_, _, Try.func2, by kernel_rfl, rfl, comp_gosem_cut_init, by kernel_rfl, by kernel_rfl, rfl⟩

/- bytes.Clone -/
def vc_bytes_Clone_o1 : List VO := ⟨(some 5), none, (.lit false 5 1 0 [] [])⟩ :: ⟨(some 6), none, (.mv (.t 0))⟩ :: ⟨(some 7), none, (.app 5 1 1 (.t 5) (.t 6))⟩ :: ⟨none, none, .kp [7]⟩ :: ⟨(some 2), none, (.mv (.t 7))⟩ :: []
def vc_bytes_Clone_r1 : VCode := (.keep [0] (.seq (.region false vc_bytes_Clone_o1) (.keep [2] .ret)))
def vc_bytes_Clone_o2 : List VO := ⟨(some 2), none, (.mv (.c (.val (.slice none 0 0))))⟩ :: []
def vc_bytes_Clone_r2 : VCode := (.keep [0, 4] (.cond (.t 4) (.seq (.region false vc_bytes_Clone_o2) (.keep [2] .ret)) .skip))
def vc_bytes_Clone_o3 : List VO := ⟨(some 3), none, (.mv (.t 0))⟩ :: ⟨(some 4), none, (.isnil .s false (.t 3))⟩ :: []
def vc_bytes_Clone_r3 : VCode := (.keep [0] (.seq (.seq (.region false vc_bytes_Clone_o3) vc_bytes_Clone_r2) vc_bytes_Clone_r1))
def vc_bytes_Clone_o4 : List VO := ⟨(some 2), none, (.mv (.c (.val (.slice none 0 0))))⟩ :: []
def vc_bytes_Clone : VCode := (.seq (.region false vc_bytes_Clone_o4) vc_bytes_Clone_r3)
def rs_bytes_Clone : List RV := [(.t 2)]
theorem comp_bytes_Clone : ccode Try.prog (Try.f37.body.getD .skip) = some (strip vc_bytes_Clone) := by kernel_rfl
theorem code_bytes_Clone : IsCode Try.prog id_bytes_Clone 8 vc_bytes_Clone rs_bytes_Clone := ⟨_, _, Try.func37, by kernel_rfl, rfl, comp_bytes_Clone, by kernel_rfl, by kernel_rfl, rfl⟩

/- bytes.Equal -/
def vc_bytes_Equal_o1_1 : List VO := ⟨(some 4), none, (.mv (.t 9))⟩ :: []
def vc_bytes_Equal_o1 : List VO := ⟨(some 5), none, (.mv (.t 0))⟩ :: ⟨(some 6), none, (.toStr (.t 5))⟩ :: ⟨none, none, .kp [1, 6]⟩ :: ⟨(some 7), none, (.mv (.t 1))⟩ :: ⟨(some 8), none, (.toStr (.t 7))⟩ :: ⟨none, none, .kp [6, 8]⟩ :: ⟨(some 9), none, (.bin .eql (.t 6) (.t 8))⟩ :: ⟨none, none, .kp [9]⟩ :: vc_bytes_Equal_o1_1
def vc_bytes_Equal_r1 : VCode := (.keep [0, 1] (.seq (.region false vc_bytes_Equal_o1) (.keep [4] .ret)))
def vc_bytes_Equal_o2 : List VO := ⟨(some 4), none, (.mv (.c (.val (.bool false))))⟩ :: []
def vc_bytes_Equal : VCode := (.seq (.region false vc_bytes_Equal_o2) vc_bytes_Equal_r1)
def rs_bytes_Equal : List RV := [(.t 4)]
theorem comp_bytes_Equal : ccode Try.prog (Try.f42.body.getD .skip) = some (strip vc_bytes_Equal) := by kernel_rfl
theorem code_bytes_Equal : IsCode Try.prog id_bytes_Equal 10 vc_bytes_Equal rs_bytes_Equal := ⟨_, _, Try.func42, by kernel_rfl, rfl, comp_bytes_Equal, by kernel_rfl, by kernel_rfl, rfl⟩

/- slices.EqualFunc[[]usher/api.Step,[]usher/api.Step,usher/api.Step,usher/api.Step] -/
def vc_slices_EqualFunc_LStep_o1 : List VO := ⟨(some 6), none, (.mv (.c (.val (.bool true))))⟩ :: []
def vc_slices_EqualFunc_LStep_r1 : VCode := (.keep [] (.seq (.region false vc_slices_EqualFunc_LStep_o1) (.keep [6] .ret)))
def vc_slices_EqualFunc_LStep_o2 : List VO := ⟨(some 31), none, (.bin .add (.t 17) (.c (.val (.int .i64 1))))⟩ :: ⟨(some 17), none, (.mv (.t 31))⟩ :: []
def vc_slices_EqualFunc_LStep_r2 : VCode := (.keep [1, 2, 15, 16, 17] (.region false vc_slices_EqualFunc_LStep_o2))
def vc_slices_EqualFunc_LStep_o3 : List VO := ⟨(some 6), none, (.mv (.c (.val (.bool false))))⟩ :: []
def vc_slices_EqualFunc_LStep_c3 : VCode := (.seq (.region false vc_slices_EqualFunc_LStep_o3) (.keep [6] .ret))
def vc_slices_EqualFunc_LStep_r4 : VCode := (.keep [1, 2, 15, 16, 17, 30] (.cond (.t 30) vc_slices_EqualFunc_LStep_c3 .skip))
def vc_slices_EqualFunc_LStep_o4 : List VO := ⟨(some 26), none, (.mv (.t 2))⟩ :: ⟨(some 27), none, (.load true 5 (.t 8))⟩ :: ⟨(some 28), none, (.load true 5 (.t 9))⟩ :: ⟨none, none, .kp [1, 2, 15, 16, 17, 26, 27, 28]⟩ :: ⟨(some 29), none, (.callV (.t 26) [] [(.t 27), (.t 28)])⟩ :: ⟨none, none, .kp [1, 2, 15, 16, 17, 29]⟩ :: ⟨(some 30), none, (.un .not (.t 29))⟩ :: []
def vc_slices_EqualFunc_LStep_r5 : VCode := (.keep [1, 2, 8, 9, 15, 16, 17] (.seq (.region false vc_slices_EqualFunc_LStep_o4) vc_slices_EqualFunc_LStep_r4))
def vc_slices_EqualFunc_LStep_o5_1 : List VO := ⟨none, none, (.store 5 (.t 9) (.t 25))⟩ :: []
def vc_slices_EqualFunc_LStep_o5 : List VO := ⟨(some 22), none, (.mv (.t 1))⟩ :: ⟨(some 23), none, (.mv (.t 7))⟩ :: ⟨(some 24), none, (.idx 5 (.t 22) (.t 23))⟩ :: ⟨none, none, .kp [1, 2, 8, 15, 16, 17, 24]⟩ :: ⟨(some 25), none, (.load true 5 (.t 24))⟩ :: ⟨(some 9), none, (.alloc 61 [(.val (.int .i64 0)), (.val (.int .i64 0)), (.val (.int .i64 0)), (.val (.slice none 0 0)), (.val (.slice none 0 0))])⟩ :: vc_slices_EqualFunc_LStep_o5_1
def vc_slices_EqualFunc_LStep_r6 : VCode := (.keep [1, 2, 7, 8, 15, 16, 17] (.seq (.region false vc_slices_EqualFunc_LStep_o5) vc_slices_EqualFunc_LStep_r5))
def vc_slices_EqualFunc_LStep_o6_1 : List VO := ⟨none, none, (.store 5 (.t 8) (.t 21))⟩ :: []
def vc_slices_EqualFunc_LStep_o6 : List VO := ⟨(some 19), none, (.mv (.t 17))⟩ :: ⟨(some 20), none, (.idx 5 (.t 15) (.t 17))⟩ :: ⟨(some 21), none, (.load true 5 (.t 20))⟩ :: ⟨(some 8), none, (.alloc 61 [(.val (.int .i64 0)), (.val (.int .i64 0)), (.val (.int .i64 0)), (.val (.slice none 0 0)), (.val (.slice none 0 0))])⟩ :: ⟨(some 7), none, (.mv (.t 19))⟩ :: ⟨none, none, .kp [1, 2, 7, 8, 15, 16, 17, 21]⟩ :: vc_slices_EqualFunc_LStep_o6_1
def vc_slices_EqualFunc_LStep_c7 : VCode := (.seq (.region false vc_slices_EqualFunc_LStep_o6) vc_slices_EqualFunc_LStep_r6)
def vc_slices_EqualFunc_LStep_r8 : VCode := (.keep [1, 2, 15, 16, 17] (.seq (.block 1 vc_slices_EqualFunc_LStep_c7) vc_slices_EqualFunc_LStep_r2))
def vc_slices_EqualFunc_LStep_r9 : VCode := (.keep [1, 2, 15, 16, 17, 18] (.seq (.cond (.t 18) .skip (.exit 0)) vc_slices_EqualFunc_LStep_r8))
def vc_slices_EqualFunc_LStep_o7 : List VO := ⟨(some 18), none, (.bin .lss (.t 17) (.t 16))⟩ :: []
def vc_slices_EqualFunc_LStep_l10 : VCode := (.seq (.region false vc_slices_EqualFunc_LStep_o7) vc_slices_EqualFunc_LStep_r9)
def vc_slices_EqualFunc_LStep_c11 : VCode := (.loop (.keep [1, 2, 15, 16, 17] vc_slices_EqualFunc_LStep_l10))
def vc_slices_EqualFunc_LStep_r12 : VCode := (.keep [1, 2, 15, 16, 17] (.block 0 vc_slices_EqualFunc_LStep_c11))
def vc_slices_EqualFunc_LStep_o8 : List VO := ⟨(some 15), none, (.mv (.t 0))⟩ :: ⟨(some 16), none, (.len (.t 15))⟩ :: ⟨(some 17), none, (.mv (.c (.val (.int .i64 0))))⟩ :: []
def vc_slices_EqualFunc_LStep_r13 : VCode := (.keep [0, 1, 2] (.seq (.seq (.region false vc_slices_EqualFunc_LStep_o8) vc_slices_EqualFunc_LStep_r12) vc_slices_EqualFunc_LStep_r1))
def vc_slices_EqualFunc_LStep_o9 : List VO := ⟨(some 6), none, (.mv (.c (.val (.bool false))))⟩ :: []
def vc_slices_EqualFunc_LStep_c14 : VCode := (.seq (.region false vc_slices_EqualFunc_LStep_o9) (.keep [6] .ret))
def vc_slices_EqualFunc_LStep_r15 : VCode := (.keep [0, 1, 2, 14] (.cond (.t 14) vc_slices_EqualFunc_LStep_c14 .skip))
def vc_slices_EqualFunc_LStep_o10 : List VO := ⟨(some 10), none, (.mv (.t 0))⟩ :: ⟨(some 11), none, (.len (.t 10))⟩ :: ⟨(some 12), none, (.mv (.t 1))⟩ :: ⟨(some 13), none, (.len (.t 12))⟩ :: ⟨none, none, .kp [0, 1, 2, 11, 13]⟩ :: ⟨(some 14), none, (.bin .neq (.t 11) (.t 13))⟩ :: []
def vc_slices_EqualFunc_LStep_r16 : VCode := (.keep [0, 1, 2] (.seq (.seq (.region false vc_slices_EqualFunc_LStep_o10) vc_slices_EqualFunc_LStep_r15) vc_slices_EqualFunc_LStep_r13))
def vc_slices_EqualFunc_LStep_o11 : List VO := ⟨(some 6), none, (.mv (.c (.val (.bool false))))⟩ :: []
def vc_slices_EqualFunc_LStep : VCode := (.seq (.region false vc_slices_EqualFunc_LStep_o11) vc_slices_EqualFunc_LStep_r16)
def rs_slices_EqualFunc_LStep : List RV := [(.t 6)]
theorem comp_slices_EqualFunc_LStep : ccode Try.prog (Try.f51.body.getD .skip) = some (strip vc_slices_EqualFunc_LStep) := by kernel_rfl
theorem code_slices_EqualFunc_LStep : IsCode Try.prog id_slices_EqualFunc_LStep 32 vc_slices_EqualFunc_LStep rs_slices_EqualFunc_LStep := ⟨_, _, Try.func51, by kernel_rfl, rfl, comp_slices_EqualFunc_LStep, by kernel_rfl, by kernel_rfl, rfl⟩

/- slices.Concat[[]byte,byte] -/
def vc_slices_Concat_Lbyte_o1 : List VO := ⟨(some 35), none, (.mv (.t 6))⟩ :: ⟨(some 2), none, (.mv (.t 35))⟩ :: []
def vc_slices_Concat_Lbyte_r1 : VCode := (.keep [6] (.seq (.region false vc_slices_Concat_Lbyte_o1) (.keep [2] .ret)))
def vc_slices_Concat_Lbyte_o2 : List VO := ⟨(some 34), none, (.bin .add (.t 27) (.c (.val (.int .i64 1))))⟩ :: ⟨(some 27), none, (.mv (.t 34))⟩ :: []
def vc_slices_Concat_Lbyte_r2 : VCode := (.keep [6, 25, 26, 27] (.region false vc_slices_Concat_Lbyte_o2))
def vc_slices_Concat_Lbyte_o3 : List VO := ⟨(some 31), none, (.mv (.t 6))⟩ :: ⟨(some 32), none, (.mv (.t 8))⟩ :: ⟨none, none, .kp [25, 26, 27, 31, 32]⟩ :: ⟨(some 33), none, (.app 5 1 1 (.t 31) (.t 32))⟩ :: ⟨none, none, .kp [25, 26, 27, 33]⟩ :: ⟨(some 6), none, (.mv (.t 33))⟩ :: []
def vc_slices_Concat_Lbyte_r3 : VCode := (.keep [6, 8, 25, 26, 27] (.region false vc_slices_Concat_Lbyte_o3))
def vc_slices_Concat_Lbyte_o4 : List VO := ⟨(some 29), none, (.idx 1 (.t 25) (.t 27))⟩ :: ⟨(some 30), none, (.load false 1 (.t 29))⟩ :: ⟨(some 8), none, (.mv (.t 30))⟩ :: []
def vc_slices_Concat_Lbyte_c4 : VCode := (.seq (.region false vc_slices_Concat_Lbyte_o4) vc_slices_Concat_Lbyte_r3)
def vc_slices_Concat_Lbyte_r5 : VCode := (.keep [6, 25, 26, 27] (.seq (.block 3 vc_slices_Concat_Lbyte_c4) vc_slices_Concat_Lbyte_r2))
def vc_slices_Concat_Lbyte_r6 : VCode := (.keep [6, 25, 26, 27, 28] (.seq (.cond (.t 28) .skip (.exit 2)) vc_slices_Concat_Lbyte_r5))
def vc_slices_Concat_Lbyte_o5 : List VO := ⟨(some 28), none, (.bin .lss (.t 27) (.t 26))⟩ :: []
def vc_slices_Concat_Lbyte_l7 : VCode := (.seq (.region false vc_slices_Concat_Lbyte_o5) vc_slices_Concat_Lbyte_r6)
def vc_slices_Concat_Lbyte_r8 : VCode := (.keep [6, 25, 26, 27] (.block 2 (.loop (.keep [6, 25, 26, 27] vc_slices_Concat_Lbyte_l7))))
def vc_slices_Concat_Lbyte_o6 : List VO := ⟨(some 25), none, (.mv (.t 0))⟩ :: ⟨(some 26), none, (.len (.t 25))⟩ :: ⟨(some 27), none, (.mv (.c (.val (.int .i64 0))))⟩ :: []
def vc_slices_Concat_Lbyte_r9 : VCode := (.keep [0, 6] (.seq (.seq (.region false vc_slices_Concat_Lbyte_o6) vc_slices_Concat_Lbyte_r8) vc_slices_Concat_Lbyte_r1))
def vc_slices_Concat_Lbyte_o7 : List VO := ⟨(some 23), none, (.mv (.t 3))⟩ :: ⟨(some 24), none, (.call 114 [] [(.c (.val (.slice none 0 0))), (.t 23)])⟩ :: ⟨none, none, .kp [0, 24]⟩ :: ⟨(some 6), none, (.mv (.t 24))⟩ :: []
def vc_slices_Concat_Lbyte_r10 : VCode := (.keep [0, 3] (.seq (.region false vc_slices_Concat_Lbyte_o7) vc_slices_Concat_Lbyte_r9))
def vc_slices_Concat_Lbyte_o8 : List VO := ⟨(some 22), none, (.bin .add (.t 11) (.c (.val (.int .i64 1))))⟩ :: ⟨(some 11), none, (.mv (.t 22))⟩ :: []
def vc_slices_Concat_Lbyte_r11 : VCode := (.keep [0, 3, 9, 10, 11] (.region false vc_slices_Concat_Lbyte_o8))
def vc_slices_Concat_Lbyte_o9 : List VO := ⟨(some 21), none, (.mkIfc 9 (.c (.val (.string ⟨#[108, 101, 110, 32, 111, 117, 116, 32, 111, 102, 32, 114, 97, 110, 103, 101]⟩))))⟩ :: ⟨none, none, .bad⟩ :: []
def vc_slices_Concat_Lbyte_r12 : VCode := (.keep [0, 3, 9, 10, 11, 20] (.cond (.t 20) (.region false vc_slices_Concat_Lbyte_o9) .skip))
def vc_slices_Concat_Lbyte_o10 : List VO := ⟨(some 19), none, (.mv (.t 3))⟩ :: ⟨(some 20), none, (.bin .lss (.t 19) (.c (.val (.int .i64 0))))⟩ :: []
def vc_slices_Concat_Lbyte_r13 : VCode := (.keep [0, 3, 9, 10, 11] (.seq (.region false vc_slices_Concat_Lbyte_o10) vc_slices_Concat_Lbyte_r12))
def vc_slices_Concat_Lbyte_o11 : List VO := ⟨(some 15), none, (.mv (.t 3))⟩ :: ⟨(some 16), none, (.mv (.t 5))⟩ :: ⟨none, none, .kp [0, 9, 10, 11, 15, 16]⟩ :: ⟨(some 17), none, (.len (.t 16))⟩ :: ⟨(some 18), none, (.bin .add (.t 15) (.t 17))⟩ :: ⟨none, none, .kp [0, 9, 10, 11, 18]⟩ :: ⟨(some 3), none, (.mv (.t 18))⟩ :: []
def vc_slices_Concat_Lbyte_r14 : VCode := (.keep [0, 3, 5, 9, 10, 11] (.seq (.region false vc_slices_Concat_Lbyte_o11) vc_slices_Concat_Lbyte_r13))
def vc_slices_Concat_Lbyte_o12 : List VO := ⟨(some 13), none, (.idx 1 (.t 9) (.t 11))⟩ :: ⟨(some 14), none, (.load false 1 (.t 13))⟩ :: ⟨(some 5), none, (.mv (.t 14))⟩ :: []
def vc_slices_Concat_Lbyte_c15 : VCode := (.seq (.region false vc_slices_Concat_Lbyte_o12) vc_slices_Concat_Lbyte_r14)
def vc_slices_Concat_Lbyte_r16 : VCode := (.keep [0, 3, 9, 10, 11] (.seq (.block 1 vc_slices_Concat_Lbyte_c15) vc_slices_Concat_Lbyte_r11))
def vc_slices_Concat_Lbyte_r17 : VCode := (.keep [0, 3, 9, 10, 11, 12] (.seq (.cond (.t 12) .skip (.exit 0)) vc_slices_Concat_Lbyte_r16))
def vc_slices_Concat_Lbyte_o13 : List VO := ⟨(some 12), none, (.bin .lss (.t 11) (.t 10))⟩ :: []
def vc_slices_Concat_Lbyte_l18 : VCode := (.seq (.region false vc_slices_Concat_Lbyte_o13) vc_slices_Concat_Lbyte_r17)
def vc_slices_Concat_Lbyte_r19 : VCode := (.keep [0, 3, 9, 10, 11] (.block 0 (.loop (.keep [0, 3, 9, 10, 11] vc_slices_Concat_Lbyte_l18))))
def vc_slices_Concat_Lbyte_o14 : List VO := ⟨(some 9), none, (.mv (.t 0))⟩ :: ⟨(some 10), none, (.len (.t 9))⟩ :: ⟨(some 11), none, (.mv (.c (.val (.int .i64 0))))⟩ :: []
def vc_slices_Concat_Lbyte_r20 : VCode := (.keep [0, 3] (.seq (.seq (.region false vc_slices_Concat_Lbyte_o14) vc_slices_Concat_Lbyte_r19) vc_slices_Concat_Lbyte_r10))
def vc_slices_Concat_Lbyte_o15 : List VO := ⟨(some 3), none, (.mv (.c (.val (.int .i64 0))))⟩ :: []
def vc_slices_Concat_Lbyte_r21 : VCode := (.keep [0] (.seq (.region false vc_slices_Concat_Lbyte_o15) vc_slices_Concat_Lbyte_r20))
def vc_slices_Concat_Lbyte_o16 : List VO := ⟨(some 2), none, (.mv (.c (.val (.slice none 0 0))))⟩ :: []
def vc_slices_Concat_Lbyte : VCode := (.seq (.region false vc_slices_Concat_Lbyte_o16) vc_slices_Concat_Lbyte_r21)
def rs_slices_Concat_Lbyte : List RV := [(.t 2)]
theorem comp_slices_Concat_Lbyte : ccode Try.prog (Try.f58.body.getD .skip) = some (strip vc_slices_Concat_Lbyte) := by kernel_rfl
theorem code_slices_Concat_Lbyte : IsCode Try.prog id_slices_Concat_Lbyte 36 vc_slices_Concat_Lbyte rs_slices_Concat_Lbyte := ⟨_, _, Try.func58, by kernel_rfl, rfl, comp_slices_Concat_Lbyte, by kernel_rfl, by kernel_rfl, rfl⟩

/- cmp.Or[int] -/
def vc_cmp_Or_int_o1 : List VO := ⟨(some 17), none, (.mv (.t 3))⟩ :: ⟨(some 2), none, (.mv (.t 17))⟩ :: []
def vc_cmp_Or_int_r1 : VCode := (.keep [3] (.seq (.region false vc_cmp_Or_int_o1) (.keep [2] .ret)))
def vc_cmp_Or_int_o2 : List VO := ⟨(some 16), none, (.bin .add (.t 8) (.c (.val (.int .i64 1))))⟩ :: ⟨(some 8), none, (.mv (.t 16))⟩ :: []
def vc_cmp_Or_int_r2 : VCode := (.keep [3, 6, 7, 8] (.region false vc_cmp_Or_int_o2))
def vc_cmp_Or_int_o3 : List VO := ⟨(some 15), none, (.mv (.t 5))⟩ :: ⟨(some 2), none, (.mv (.t 15))⟩ :: []
def vc_cmp_Or_int_r3 : VCode := (.keep [3, 5, 6, 7, 8, 14] (.cond (.t 14) (.seq (.region false vc_cmp_Or_int_o3) (.keep [2] .ret)) .skip))
def vc_cmp_Or_int_o4 : List VO := ⟨(some 12), none, (.mv (.t 5))⟩ :: ⟨(some 13), none, (.mv (.t 3))⟩ :: ⟨(some 14), none, (.bin .neq (.t 12) (.t 13))⟩ :: []
def vc_cmp_Or_int_r4 : VCode := (.keep [3, 5, 6, 7, 8] (.seq (.region false vc_cmp_Or_int_o4) vc_cmp_Or_int_r3))
def vc_cmp_Or_int_o5 : List VO := ⟨(some 10), none, (.idx 1 (.t 6) (.t 8))⟩ :: ⟨(some 11), none, (.load false 1 (.t 10))⟩ :: ⟨(some 5), none, (.mv (.t 11))⟩ :: []
def vc_cmp_Or_int_r5 : VCode := (.keep [3, 6, 7, 8] (.seq (.block 1 (.seq (.region false vc_cmp_Or_int_o5) vc_cmp_Or_int_r4)) vc_cmp_Or_int_r2))
def vc_cmp_Or_int_r6 : VCode := (.keep [3, 6, 7, 8, 9] (.seq (.cond (.t 9) .skip (.exit 0)) vc_cmp_Or_int_r5))
def vc_cmp_Or_int_o6 : List VO := ⟨(some 9), none, (.bin .lss (.t 8) (.t 7))⟩ :: []
def vc_cmp_Or_int_l7 : VCode := (.seq (.region false vc_cmp_Or_int_o6) vc_cmp_Or_int_r6)
def vc_cmp_Or_int_r8 : VCode := (.keep [3, 6, 7, 8] (.block 0 (.loop (.keep [3, 6, 7, 8] vc_cmp_Or_int_l7))))
def vc_cmp_Or_int_o7 : List VO := ⟨(some 6), none, (.mv (.t 0))⟩ :: ⟨(some 7), none, (.len (.t 6))⟩ :: ⟨(some 8), none, (.mv (.c (.val (.int .i64 0))))⟩ :: []
def vc_cmp_Or_int_r9 : VCode := (.keep [0, 3] (.seq (.seq (.region false vc_cmp_Or_int_o7) vc_cmp_Or_int_r8) vc_cmp_Or_int_r1))
def vc_cmp_Or_int_o8 : List VO := ⟨(some 3), none, (.mv (.c (.val (.int .i64 0))))⟩ :: []
def vc_cmp_Or_int_r10 : VCode := (.keep [0] (.seq (.region false vc_cmp_Or_int_o8) vc_cmp_Or_int_r9))
def vc_cmp_Or_int_o9 : List VO := ⟨(some 2), none, (.mv (.c (.val (.int .i64 0))))⟩ :: []
def vc_cmp_Or_int : VCode := (.seq (.region false vc_cmp_Or_int_o9) vc_cmp_Or_int_r10)
def rs_cmp_Or_int : List RV := [(.t 2)]
theorem comp_cmp_Or_int : ccode Try.prog (Try.f65.body.getD .skip) = some (strip vc_cmp_Or_int) := by kernel_rfl
theorem code_cmp_Or_int : IsCode Try.prog id_cmp_Or_int 18 vc_cmp_Or_int rs_cmp_Or_int := ⟨_, _, Try.func65, by kernel_rfl, rfl, comp_cmp_Or_int, by kernel_rfl, by kernel_rfl, rfl⟩

/- cmp.Compare[int] -/
def vc_cmp_Compare_int_o1 : List VO := ⟨(some 4), none, (.mv (.c (.val (.int .i64 0))))⟩ :: []
def vc_cmp_Compare_int_r1 : VCode := (.keep [] (.seq (.region false vc_cmp_Compare_int_o1) (.keep [4] .ret)))
def vc_cmp_Compare_int_o2 : List VO := ⟨(some 4), none, (.mv (.c (.val (.int .i64 1))))⟩ :: []
def vc_cmp_Compare_int_c2 : VCode := (.seq (.region false vc_cmp_Compare_int_o2) (.keep [4] .ret))
def vc_cmp_Compare_int_r3 : VCode := (.keep [19] (.cond (.t 19) vc_cmp_Compare_int_c2 .skip))
def vc_cmp_Compare_int_o3 : List VO := ⟨(some 17), none, (.mv (.t 0))⟩ :: ⟨(some 18), none, (.mv (.t 1))⟩ :: ⟨none, none, .kp [17, 18]⟩ :: ⟨(some 19), none, (.bin .gtr (.t 17) (.t 18))⟩ :: []
def vc_cmp_Compare_int_r4 : VCode := (.keep [0, 1] (.seq (.seq (.region false vc_cmp_Compare_int_o3) vc_cmp_Compare_int_r3) vc_cmp_Compare_int_r1))
def vc_cmp_Compare_int_o4 : List VO := ⟨(some 4), none, (.mv (.c (.val (.int .i64 (-1)))))⟩ :: []
def vc_cmp_Compare_int_c5 : VCode := (.seq (.region false vc_cmp_Compare_int_o4) (.keep [4] .ret))
def vc_cmp_Compare_int_r6 : VCode := (.keep [0, 1, 16] (.cond (.t 16) vc_cmp_Compare_int_c5 .skip))
def vc_cmp_Compare_int_o5 : List VO := ⟨(some 14), none, (.mv (.t 0))⟩ :: ⟨(some 15), none, (.mv (.t 1))⟩ :: ⟨(some 16), none, (.bin .lss (.t 14) (.t 15))⟩ :: []
def vc_cmp_Compare_int_r7 : VCode := (.keep [0, 1] (.seq (.seq (.region false vc_cmp_Compare_int_o5) vc_cmp_Compare_int_r6) vc_cmp_Compare_int_r4))
def vc_cmp_Compare_int_o6 : List VO := ⟨(some 4), none, (.mv (.c (.val (.int .i64 1))))⟩ :: []
def vc_cmp_Compare_int_c8 : VCode := (.seq (.region false vc_cmp_Compare_int_o6) (.keep [4] .ret))
def vc_cmp_Compare_int_r9 : VCode := (.keep [0, 1, 13] (.cond (.t 13) vc_cmp_Compare_int_c8 .skip))
def vc_cmp_Compare_int_o7 : List VO := ⟨(some 13), none, (.mv (.t 6))⟩ :: []
def vc_cmp_Compare_int_r10 : VCode := (.keep [0, 1, 6] (.seq (.seq (.region false vc_cmp_Compare_int_o7) vc_cmp_Compare_int_r9) vc_cmp_Compare_int_r7))
def vc_cmp_Compare_int_o8 : List VO := ⟨(some 4), none, (.mv (.c (.val (.int .i64 (-1)))))⟩ :: []
def vc_cmp_Compare_int_r11 : VCode := (.keep [] (.seq (.region false vc_cmp_Compare_int_o8) (.keep [4] .ret)))
def vc_cmp_Compare_int_o9 : List VO := ⟨(some 4), none, (.mv (.c (.val (.int .i64 0))))⟩ :: []
def vc_cmp_Compare_int_c12 : VCode := (.seq (.region false vc_cmp_Compare_int_o9) (.keep [4] .ret))
def vc_cmp_Compare_int_r13 : VCode := (.keep [12] (.cond (.t 12) vc_cmp_Compare_int_c12 .skip))
def vc_cmp_Compare_int_o10 : List VO := ⟨(some 12), none, (.mv (.t 6))⟩ :: []
def vc_cmp_Compare_int_c14 : VCode := (.seq (.seq (.region false vc_cmp_Compare_int_o10) vc_cmp_Compare_int_r13) vc_cmp_Compare_int_r11)
def vc_cmp_Compare_int_r15 : VCode := (.keep [0, 1, 6, 11] (.cond (.t 11) vc_cmp_Compare_int_c14 .skip))
def vc_cmp_Compare_int_o11 : List VO := ⟨(some 11), none, (.mv (.t 5))⟩ :: []
def vc_cmp_Compare_int_r16 : VCode := (.keep [0, 1, 5, 6] (.seq (.seq (.region false vc_cmp_Compare_int_o11) vc_cmp_Compare_int_r15) vc_cmp_Compare_int_r10))
def vc_cmp_Compare_int_o12 : List VO := ⟨(some 9), none, (.mv (.t 1))⟩ :: ⟨(some 10), none, (.call 119 [] [(.t 9)])⟩ :: ⟨(some 6), none, (.mv (.t 10))⟩ :: []
def vc_cmp_Compare_int_r17 : VCode := (.keep [0, 1, 5] (.seq (.region false vc_cmp_Compare_int_o12) vc_cmp_Compare_int_r16))
def vc_cmp_Compare_int_o13 : List VO := ⟨(some 7), none, (.mv (.t 0))⟩ :: ⟨(some 8), none, (.call 119 [] [(.t 7)])⟩ :: ⟨(some 5), none, (.mv (.t 8))⟩ :: []
def vc_cmp_Compare_int_r18 : VCode := (.keep [0, 1] (.seq (.region false vc_cmp_Compare_int_o13) vc_cmp_Compare_int_r17))
def vc_cmp_Compare_int_o14 : List VO := ⟨(some 4), none, (.mv (.c (.val (.int .i64 0))))⟩ :: []
def vc_cmp_Compare_int : VCode := (.seq (.region false vc_cmp_Compare_int_o14) vc_cmp_Compare_int_r18)
def rs_cmp_Compare_int : List RV := [(.t 4)]
theorem comp_cmp_Compare_int : ccode Try.prog (Try.f66.body.getD .skip) = some (strip vc_cmp_Compare_int) := by kernel_rfl
theorem code_cmp_Compare_int : IsCode Try.prog id_cmp_Compare_int 20 vc_cmp_Compare_int rs_cmp_Compare_int := ⟨_, _, Try.func66, by kernel_rfl, rfl, comp_cmp_Compare_int, by kernel_rfl, by kernel_rfl, rfl⟩

/- strings.Compare -/
def vc_strings_Compare_o1 : List VO := ⟨(some 5), none, (.mv (.t 0))⟩ :: ⟨(some 6), none, (.mv (.t 1))⟩ :: ⟨none, none, .kp [5, 6]⟩ :: ⟨(some 7), none, (.call 121 [] [(.t 5), (.t 6)])⟩ :: ⟨none, none, .kp [7]⟩ :: ⟨(some 4), none, (.mv (.t 7))⟩ :: []
def vc_strings_Compare_r1 : VCode := (.keep [0, 1] (.seq (.region false vc_strings_Compare_o1) (.keep [4] .ret)))
def vc_strings_Compare_o2 : List VO := ⟨(some 4), none, (.mv (.c (.val (.int .i64 0))))⟩ :: []
def vc_strings_Compare : VCode := (.seq (.region false vc_strings_Compare_o2) vc_strings_Compare_r1)
def rs_strings_Compare : List RV := [(.t 4)]
theorem comp_strings_Compare : ccode Try.prog (Try.f68.body.getD .skip) = some (strip vc_strings_Compare) := by kernel_rfl
theorem code_strings_Compare : IsCode Try.prog id_strings_Compare 8 vc_strings_Compare rs_strings_Compare := ⟨_, _, Try.func68, by kernel_rfl, rfl, comp_strings_Compare, by kernel_rfl, by kernel_rfl, rfl⟩

/- slices.ContainsFunc[[]usher/api.Write,usher/api.Write] -/
def vc_slices_ContainsFunc_LWrite_o1 : List VO := ⟨(some 5), none, (.mv (.t 0))⟩ :: ⟨(some 6), none, (.mv (.t 1))⟩ :: ⟨none, none, .kp [5, 6]⟩ :: ⟨(some 7), none, (.call 123 [] [(.t 5), (.t 6)])⟩ :: ⟨none, none, .kp [7]⟩ :: ⟨(some 8), none, (.bin .geq (.t 7) (.c (.val (.int .i64 0))))⟩ :: ⟨(some 4), none, (.mv (.t 8))⟩ :: []
def vc_slices_ContainsFunc_LWrite_r1 : VCode := (.keep [0, 1] (.seq (.region false vc_slices_ContainsFunc_LWrite_o1) (.keep [4] .ret)))
def vc_slices_ContainsFunc_LWrite_o2 : List VO := ⟨(some 4), none, (.mv (.c (.val (.bool false))))⟩ :: []
def vc_slices_ContainsFunc_LWrite : VCode := (.seq (.region false vc_slices_ContainsFunc_LWrite_o2) vc_slices_ContainsFunc_LWrite_r1)
def rs_slices_ContainsFunc_LWrite : List RV := [(.t 4)]
theorem comp_slices_ContainsFunc_LWrite : ccode Try.prog (Try.f73.body.getD .skip) = some (strip vc_slices_ContainsFunc_LWrite) := by kernel_rfl
theorem code_slices_ContainsFunc_LWrite : IsCode Try.prog id_slices_ContainsFunc_LWrite 9 vc_slices_ContainsFunc_LWrite rs_slices_ContainsFunc_LWrite := ⟨_, _, Try.func73, by kernel_rfl, rfl, comp_slices_ContainsFunc_LWrite, by kernel_rfl, by kernel_rfl, rfl⟩

/- slices.EqualFunc[[]usher/api.Write,[]usher/api.Write,usher/api.Write,usher/api.Write] -/
def vc_slices_EqualFunc_LWrite_o1 : List VO := ⟨(some 6), none, (.mv (.c (.val (.bool true))))⟩ :: []
def vc_slices_EqualFunc_LWrite_r1 : VCode := (.keep [] (.seq (.region false vc_slices_EqualFunc_LWrite_o1) (.keep [6] .ret)))
def vc_slices_EqualFunc_LWrite_o2 : List VO := ⟨(some 31), none, (.bin .add (.t 17) (.c (.val (.int .i64 1))))⟩ :: ⟨(some 17), none, (.mv (.t 31))⟩ :: []
def vc_slices_EqualFunc_LWrite_r2 : VCode := (.keep [1, 2, 15, 16, 17] (.region false vc_slices_EqualFunc_LWrite_o2))
def vc_slices_EqualFunc_LWrite_o3 : List VO := ⟨(some 6), none, (.mv (.c (.val (.bool false))))⟩ :: []
def vc_slices_EqualFunc_LWrite_c3 : VCode := (.seq (.region false vc_slices_EqualFunc_LWrite_o3) (.keep [6] .ret))
def vc_slices_EqualFunc_LWrite_r4 : VCode := (.keep [1, 2, 15, 16, 17, 30] (.cond (.t 30) vc_slices_EqualFunc_LWrite_c3 .skip))
def vc_slices_EqualFunc_LWrite_o4 : List VO := ⟨(some 26), none, (.mv (.t 2))⟩ :: ⟨(some 27), none, (.load true 5 (.t 8))⟩ :: ⟨(some 28), none, (.load true 5 (.t 9))⟩ :: ⟨none, none, .kp [1, 2, 15, 16, 17, 26, 27, 28]⟩ :: ⟨(some 29), none, (.callV (.t 26) [] [(.t 27), (.t 28)])⟩ :: ⟨none, none, .kp [1, 2, 15, 16, 17, 29]⟩ :: ⟨(some 30), none, (.un .not (.t 29))⟩ :: []
def vc_slices_EqualFunc_LWrite_r5 : VCode := (.keep [1, 2, 8, 9, 15, 16, 17] (.seq (.region false vc_slices_EqualFunc_LWrite_o4) vc_slices_EqualFunc_LWrite_r4))
def vc_slices_EqualFunc_LWrite_o5_1 : List VO := ⟨none, none, (.store 5 (.t 9) (.t 25))⟩ :: []
def vc_slices_EqualFunc_LWrite_o5 : List VO := ⟨(some 22), none, (.mv (.t 1))⟩ :: ⟨(some 23), none, (.mv (.t 7))⟩ :: ⟨(some 24), none, (.idx 5 (.t 22) (.t 23))⟩ :: ⟨none, none, .kp [1, 2, 8, 15, 16, 17, 24]⟩ :: ⟨(some 25), none, (.load true 5 (.t 24))⟩ :: ⟨(some 9), none, (.alloc 87 [(.val (.string ⟨#[]⟩)), (.val (.string ⟨#[]⟩)), (.val (.int .i64 0)), (.val (.int .i64 0)), (.val (.slice none 0 0))])⟩ :: vc_slices_EqualFunc_LWrite_o5_1
def vc_slices_EqualFunc_LWrite_r6 : VCode := (.keep [1, 2, 7, 8, 15, 16, 17] (.seq (.region false vc_slices_EqualFunc_LWrite_o5) vc_slices_EqualFunc_LWrite_r5))
def vc_slices_EqualFunc_LWrite_o6_1 : List VO := ⟨none, none, (.store 5 (.t 8) (.t 21))⟩ :: []
def vc_slices_EqualFunc_LWrite_o6 : List VO := ⟨(some 19), none, (.mv (.t 17))⟩ :: ⟨(some 20), none, (.idx 5 (.t 15) (.t 17))⟩ :: ⟨(some 21), none, (.load true 5 (.t 20))⟩ :: ⟨(some 8), none, (.alloc 87 [(.val (.string ⟨#[]⟩)), (.val (.string ⟨#[]⟩)), (.val (.int .i64 0)), (.val (.int .i64 0)), (.val (.slice none 0 0))])⟩ :: ⟨(some 7), none, (.mv (.t 19))⟩ :: ⟨none, none, .kp [1, 2, 7, 8, 15, 16, 17, 21]⟩ :: vc_slices_EqualFunc_LWrite_o6_1
def vc_slices_EqualFunc_LWrite_c7 : VCode := (.seq (.region false vc_slices_EqualFunc_LWrite_o6) vc_slices_EqualFunc_LWrite_r6)
def vc_slices_EqualFunc_LWrite_r8 : VCode := (.keep [1, 2, 15, 16, 17] (.seq (.block 1 vc_slices_EqualFunc_LWrite_c7) vc_slices_EqualFunc_LWrite_r2))
def vc_slices_EqualFunc_LWrite_r9 : VCode := (.keep [1, 2, 15, 16, 17, 18] (.seq (.cond (.t 18) .skip (.exit 0)) vc_slices_EqualFunc_LWrite_r8))
def vc_slices_EqualFunc_LWrite_o7 : List VO := ⟨(some 18), none, (.bin .lss (.t 17) (.t 16))⟩ :: []
def vc_slices_EqualFunc_LWrite_l10 : VCode := (.seq (.region false vc_slices_EqualFunc_LWrite_o7) vc_slices_EqualFunc_LWrite_r9)
def vc_slices_EqualFunc_LWrite_c11 : VCode := (.loop (.keep [1, 2, 15, 16, 17] vc_slices_EqualFunc_LWrite_l10))
def vc_slices_EqualFunc_LWrite_r12 : VCode := (.keep [1, 2, 15, 16, 17] (.block 0 vc_slices_EqualFunc_LWrite_c11))
def vc_slices_EqualFunc_LWrite_o8 : List VO := ⟨(some 15), none, (.mv (.t 0))⟩ :: ⟨(some 16), none, (.len (.t 15))⟩ :: ⟨(some 17), none, (.mv (.c (.val (.int .i64 0))))⟩ :: []
def vc_slices_EqualFunc_LWrite_r13 : VCode := (.keep [0, 1, 2] (.seq (.seq (.region false vc_slices_EqualFunc_LWrite_o8) vc_slices_EqualFunc_LWrite_r12) vc_slices_EqualFunc_LWrite_r1))
def vc_slices_EqualFunc_LWrite_o9 : List VO := ⟨(some 6), none, (.mv (.c (.val (.bool false))))⟩ :: []
def vc_slices_EqualFunc_LWrite_c14 : VCode := (.seq (.region false vc_slices_EqualFunc_LWrite_o9) (.keep [6] .ret))
def vc_slices_EqualFunc_LWrite_r15 : VCode := (.keep [0, 1, 2, 14] (.cond (.t 14) vc_slices_EqualFunc_LWrite_c14 .skip))
def vc_slices_EqualFunc_LWrite_o10 : List VO := ⟨(some 10), none, (.mv (.t 0))⟩ :: ⟨(some 11), none, (.len (.t 10))⟩ :: ⟨(some 12), none, (.mv (.t 1))⟩ :: ⟨(some 13), none, (.len (.t 12))⟩ :: ⟨none, none, .kp [0, 1, 2, 11, 13]⟩ :: ⟨(some 14), none, (.bin .neq (.t 11) (.t 13))⟩ :: []
def vc_slices_EqualFunc_LWrite_r16 : VCode := (.keep [0, 1, 2] (.seq (.seq (.region false vc_slices_EqualFunc_LWrite_o10) vc_slices_EqualFunc_LWrite_r15) vc_slices_EqualFunc_LWrite_r13))
def vc_slices_EqualFunc_LWrite_o11 : List VO := ⟨(some 6), none, (.mv (.c (.val (.bool false))))⟩ :: []
def vc_slices_EqualFunc_LWrite : VCode := (.seq (.region false vc_slices_EqualFunc_LWrite_o11) vc_slices_EqualFunc_LWrite_r16)
def rs_slices_EqualFunc_LWrite : List RV := [(.t 6)]
theorem comp_slices_EqualFunc_LWrite : ccode Try.prog (Try.f102.body.getD .skip) = some (strip vc_slices_EqualFunc_LWrite) := by kernel_rfl
theorem code_slices_EqualFunc_LWrite : IsCode Try.prog id_slices_EqualFunc_LWrite 32 vc_slices_EqualFunc_LWrite rs_slices_EqualFunc_LWrite := ⟨_, _, Try.func102, by kernel_rfl, rfl, comp_slices_EqualFunc_LWrite, by kernel_rfl, by kernel_rfl, rfl⟩

/- slices.Equal[[]int,int] -/
def vc_slices_Equal_Lint_o1 : List VO := ⟨(some 4), none, (.mv (.c (.val (.bool true))))⟩ :: []
def vc_slices_Equal_Lint_r1 : VCode := (.keep [] (.seq (.region false vc_slices_Equal_Lint_o1) (.keep [4] .ret)))
def vc_slices_Equal_Lint_o2 : List VO := ⟨(some 25), none, (.bin .add (.t 13) (.c (.val (.int .i64 1))))⟩ :: ⟨(some 13), none, (.mv (.t 25))⟩ :: []
def vc_slices_Equal_Lint_r2 : VCode := (.keep [0, 1, 12, 13] (.region false vc_slices_Equal_Lint_o2))
def vc_slices_Equal_Lint_o3 : List VO := ⟨(some 4), none, (.mv (.c (.val (.bool false))))⟩ :: []
def vc_slices_Equal_Lint_c3 : VCode := (.seq (.region false vc_slices_Equal_Lint_o3) (.keep [4] .ret))
def vc_slices_Equal_Lint_r4 : VCode := (.keep [0, 1, 12, 13, 24] (.cond (.t 24) vc_slices_Equal_Lint_c3 .skip))
def vc_slices_Equal_Lint_d4 : DT := (.op true [] ⟨(some 24), none, (.bin .neq (.t 19) (.t 23))⟩ .done)
def vc_slices_Equal_Lint_d5 : DT := (.op true [] ⟨(some 20), none, (.mv (.t 1))⟩ (.op true [] ⟨(some 21), none, (.mv (.t 5))⟩ (.op true [] ⟨(some 22), none, (.idx 1 (.t 20) (.t 21))⟩ (.op true [] ⟨(some 23), none, (.load false 1 (.t 22))⟩ vc_slices_Equal_Lint_d4))))
def vc_slices_Equal_Lint_d6 : DT := (.op true [] ⟨(some 16), none, (.mv (.t 0))⟩ (.op true [] ⟨(some 17), none, (.mv (.t 5))⟩ (.op true [] ⟨(some 18), none, (.idx 1 (.t 16) (.t 17))⟩ (.op true [] ⟨(some 19), none, (.load false 1 (.t 18))⟩ vc_slices_Equal_Lint_d5))))
def vc_slices_Equal_Lint_r5 : VCode := (.keep [0, 1, 5, 12, 13] (.seq (.draws [0, 1, 12, 13, 24] vc_slices_Equal_Lint_d6) vc_slices_Equal_Lint_r4))
def vc_slices_Equal_Lint_o7 : List VO := ⟨(some 15), none, (.mv (.t 13))⟩ :: ⟨(some 5), none, (.mv (.t 15))⟩ :: []
def vc_slices_Equal_Lint_c6 : VCode := (.seq (.region false vc_slices_Equal_Lint_o7) vc_slices_Equal_Lint_r5)
def vc_slices_Equal_Lint_r7 : VCode := (.keep [0, 1, 12, 13] (.seq (.block 1 vc_slices_Equal_Lint_c6) vc_slices_Equal_Lint_r2))
def vc_slices_Equal_Lint_r8 : VCode := (.keep [0, 1, 12, 13, 14] (.seq (.cond (.t 14) .skip (.exit 0)) vc_slices_Equal_Lint_r7))
def vc_slices_Equal_Lint_o8 : List VO := ⟨(some 14), none, (.bin .lss (.t 13) (.t 12))⟩ :: []
def vc_slices_Equal_Lint_l9 : VCode := (.seq (.region false vc_slices_Equal_Lint_o8) vc_slices_Equal_Lint_r8)
def vc_slices_Equal_Lint_r10 : VCode := (.keep [0, 1, 12, 13] (.block 0 (.loop (.keep [0, 1, 12, 13] vc_slices_Equal_Lint_l9))))
def vc_slices_Equal_Lint_o9 : List VO := ⟨(some 11), none, (.mv (.t 0))⟩ :: ⟨(some 12), none, (.len (.t 11))⟩ :: ⟨(some 13), none, (.mv (.c (.val (.int .i64 0))))⟩ :: []
def vc_slices_Equal_Lint_r11 : VCode := (.keep [0, 1] (.seq (.seq (.region false vc_slices_Equal_Lint_o9) vc_slices_Equal_Lint_r10) vc_slices_Equal_Lint_r1))
def vc_slices_Equal_Lint_o10 : List VO := ⟨(some 4), none, (.mv (.c (.val (.bool false))))⟩ :: []
def vc_slices_Equal_Lint_c12 : VCode := (.seq (.region false vc_slices_Equal_Lint_o10) (.keep [4] .ret))
def vc_slices_Equal_Lint_r13 : VCode := (.keep [0, 1, 10] (.cond (.t 10) vc_slices_Equal_Lint_c12 .skip))
def vc_slices_Equal_Lint_o11 : List VO := ⟨(some 6), none, (.mv (.t 0))⟩ :: ⟨(some 7), none, (.len (.t 6))⟩ :: ⟨(some 8), none, (.mv (.t 1))⟩ :: ⟨(some 9), none, (.len (.t 8))⟩ :: ⟨none, none, .kp [0, 1, 7, 9]⟩ :: ⟨(some 10), none, (.bin .neq (.t 7) (.t 9))⟩ :: []
def vc_slices_Equal_Lint_r14 : VCode := (.keep [0, 1] (.seq (.seq (.region false vc_slices_Equal_Lint_o11) vc_slices_Equal_Lint_r13) vc_slices_Equal_Lint_r11))
def vc_slices_Equal_Lint_o12 : List VO := ⟨(some 4), none, (.mv (.c (.val (.bool false))))⟩ :: []
def vc_slices_Equal_Lint : VCode := (.seq (.region false vc_slices_Equal_Lint_o12) vc_slices_Equal_Lint_r14)
def rs_slices_Equal_Lint : List RV := [(.t 4)]
theorem comp_slices_Equal_Lint : ccode Try.prog (Try.f111.body.getD .skip) = some (strip vc_slices_Equal_Lint) := by kernel_rfl
theorem code_slices_Equal_Lint : IsCode Try.prog id_slices_Equal_Lint 26 vc_slices_Equal_Lint rs_slices_Equal_Lint := ⟨_, _, Try.func111, by kernel_rfl, rfl, comp_slices_Equal_Lint, by kernel_rfl, by kernel_rfl, rfl⟩

/- slices.Grow[[]byte,byte] -/
def vc_slices_Grow_Lbyte_o1 : List VO := ⟨(some 26), none, (.mv (.t 0))⟩ :: ⟨(some 4), none, (.mv (.t 26))⟩ :: []
def vc_slices_Grow_Lbyte_r1 : VCode := (.keep [0] (.seq (.region false vc_slices_Grow_Lbyte_o1) (.keep [4] .ret)))
def vc_slices_Grow_Lbyte_o2_1 : List VO := ⟨(some 22), none, .bad⟩ :: ⟨(some 23), none, (.mv (.t 0))⟩ :: ⟨(some 24), none, (.len (.t 23))⟩ :: ⟨none, none, .kp [22, 24]⟩ :: ⟨(some 25), none, (.cut 1 (.t 22) none (some (.t 24)) none)⟩ :: ⟨none, none, .kp [25]⟩ :: ⟨(some 0), none, (.mv (.t 25))⟩ :: []
def vc_slices_Grow_Lbyte_o2 : List VO := ⟨(some 17), none, (.mv (.t 0))⟩ :: ⟨(some 18), none, (.mv (.t 0))⟩ :: ⟨(some 19), none, .bad⟩ :: ⟨(some 20), none, (.cut 1 (.t 17) none (some (.t 19)) none)⟩ :: ⟨none, none, .kp [0, 1]⟩ :: ⟨(some 21), none, (.mv (.t 1))⟩ :: ⟨none, none, .kp [0]⟩ :: vc_slices_Grow_Lbyte_o2_1
def vc_slices_Grow_Lbyte_r2 : VCode := (.keep [0, 1, 16] (.cond (.t 16) (.region false vc_slices_Grow_Lbyte_o2) .skip))
def vc_slices_Grow_Lbyte_o3 : List VO := ⟨(some 15), none, (.mv (.t 1))⟩ :: ⟨(some 16), none, (.bin .gtr (.t 15) (.c (.val (.int .i64 0))))⟩ :: []
def vc_slices_Grow_Lbyte_r3 : VCode := (.keep [0, 1] (.seq (.region false vc_slices_Grow_Lbyte_o3) vc_slices_Grow_Lbyte_r2))
def vc_slices_Grow_Lbyte_o4_1 : List VO := ⟨(some 13), none, (.bin .sub (.t 10) (.t 12))⟩ :: ⟨none, none, .kp [0, 8, 13]⟩ :: ⟨(some 14), none, (.bin .sub (.t 8) (.t 13))⟩ :: ⟨none, none, .kp [0, 14]⟩ :: ⟨(some 1), none, (.mv (.t 14))⟩ :: []
def vc_slices_Grow_Lbyte_o4 : List VO := ⟨(some 8), none, (.mv (.t 1))⟩ :: ⟨(some 9), none, (.mv (.t 0))⟩ :: ⟨none, none, .kp [0, 8]⟩ :: ⟨(some 10), none, .bad⟩ :: ⟨(some 11), none, (.mv (.t 0))⟩ :: ⟨(some 12), none, (.len (.t 11))⟩ :: vc_slices_Grow_Lbyte_o4_1
def vc_slices_Grow_Lbyte_r4 : VCode := (.keep [0, 1] (.seq (.seq (.region false vc_slices_Grow_Lbyte_o4) vc_slices_Grow_Lbyte_r3) vc_slices_Grow_Lbyte_r1))
def vc_slices_Grow_Lbyte_o5 : List VO := ⟨(some 7), none, (.mkIfc 9 (.c (.val (.string ⟨#[99, 97, 110, 110, 111, 116, 32, 98, 101, 32, 110, 101, 103, 97, 116, 105, 118, 101]⟩))))⟩ :: ⟨none, none, .bad⟩ :: []
def vc_slices_Grow_Lbyte_r5 : VCode := (.keep [0, 1, 6] (.cond (.t 6) (.region false vc_slices_Grow_Lbyte_o5) .skip))
def vc_slices_Grow_Lbyte_o6 : List VO := ⟨(some 5), none, (.mv (.t 1))⟩ :: ⟨(some 6), none, (.bin .lss (.t 5) (.c (.val (.int .i64 0))))⟩ :: []
def vc_slices_Grow_Lbyte_r6 : VCode := (.keep [0, 1] (.seq (.seq (.region false vc_slices_Grow_Lbyte_o6) vc_slices_Grow_Lbyte_r5) vc_slices_Grow_Lbyte_r4))
def vc_slices_Grow_Lbyte_o7 : List VO := ⟨(some 4), none, (.mv (.c (.val (.slice none 0 0))))⟩ :: []
def vc_slices_Grow_Lbyte : VCode := (.seq (.region false vc_slices_Grow_Lbyte_o7) vc_slices_Grow_Lbyte_r6)
def rs_slices_Grow_Lbyte : List RV := [(.t 4)]
theorem comp_slices_Grow_Lbyte : ccode Try.prog (Try.f114.body.getD .skip) = some (strip vc_slices_Grow_Lbyte) := by kernel_rfl
theorem code_slices_Grow_Lbyte : IsCode Try.prog id_slices_Grow_Lbyte 27 vc_slices_Grow_Lbyte rs_slices_Grow_Lbyte := ⟨_, _, Try.func114, by kernel_rfl, rfl, comp_slices_Grow_Lbyte, by kernel_rfl, by kernel_rfl, rfl⟩

/- cmp.isNaN[int] -/
def vc_cmp_isNaN_int_o1 : List VO := ⟨(some 3), none, (.mv (.t 0))⟩ :: ⟨(some 4), none, (.mv (.t 0))⟩ :: ⟨(some 5), none, (.bin .neq (.t 3) (.t 4))⟩ :: ⟨none, none, .kp [5]⟩ :: ⟨(some 2), none, (.mv (.t 5))⟩ :: []
def vc_cmp_isNaN_int_r1 : VCode := (.keep [0] (.seq (.region false vc_cmp_isNaN_int_o1) (.keep [2] .ret)))
def vc_cmp_isNaN_int_o2 : List VO := ⟨(some 2), none, (.mv (.c (.val (.bool false))))⟩ :: []
def vc_cmp_isNaN_int : VCode := (.seq (.region false vc_cmp_isNaN_int_o2) vc_cmp_isNaN_int_r1)
def rs_cmp_isNaN_int : List RV := [(.t 2)]
theorem comp_cmp_isNaN_int : ccode Try.prog (Try.f119.body.getD .skip) = some (strip vc_cmp_isNaN_int) := by kernel_rfl
theorem code_cmp_isNaN_int : IsCode Try.prog id_cmp_isNaN_int 6 vc_cmp_isNaN_int rs_cmp_isNaN_int := ⟨_, _, Try.func119, by kernel_rfl, rfl, comp_cmp_isNaN_int, by kernel_rfl, by kernel_rfl, rfl⟩

/- internal/bytealg.CompareString -/
def vc_bytealg_CompareString_o1 : List VO := ⟨(some 5), none, (.mv (.t 0))⟩ :: ⟨(some 6), none, (.mv (.t 1))⟩ :: ⟨none, none, .kp [5, 6]⟩ :: ⟨(some 7), none, (.call 150 [] [(.t 5), (.t 6)])⟩ :: ⟨none, none, .kp [7]⟩ :: ⟨(some 4), none, (.mv (.t 7))⟩ :: []
def vc_bytealg_CompareString_r1 : VCode := (.keep [0, 1] (.seq (.region false vc_bytealg_CompareString_o1) (.keep [4] .ret)))
def vc_bytealg_CompareString_o2 : List VO := ⟨(some 4), none, (.mv (.c (.val (.int .i64 0))))⟩ :: []
def vc_bytealg_CompareString : VCode := (.seq (.region false vc_bytealg_CompareString_o2) vc_bytealg_CompareString_r1)
def rs_bytealg_CompareString : List RV := [(.t 4)]
theorem comp_bytealg_CompareString : ccode Try.prog (Try.f121.body.getD .skip) = some (strip vc_bytealg_CompareString) := by kernel_rfl
theorem code_bytealg_CompareString : IsCode Try.prog id_bytealg_CompareString 8 vc_bytealg_CompareString rs_bytealg_CompareString := ⟨_, _, Try.func121, by kernel_rfl, rfl, comp_bytealg_CompareString, by kernel_rfl, by kernel_rfl, rfl⟩

/- slices.IndexFunc[[]usher/api.Write,usher/api.Write] -/
def vc_slices_IndexFunc_LWrite_o1 : List VO := ⟨(some 4), none, (.mv (.c (.val (.int .i64 (-1)))))⟩ :: []
def vc_slices_IndexFunc_LWrite_r1 : VCode := (.keep [] (.seq (.region false vc_slices_IndexFunc_LWrite_o1) (.keep [4] .ret)))
def vc_slices_IndexFunc_LWrite_o2 : List VO := ⟨(some 18), none, (.bin .add (.t 8) (.c (.val (.int .i64 1))))⟩ :: ⟨(some 8), none, (.mv (.t 18))⟩ :: []
def vc_slices_IndexFunc_LWrite_r2 : VCode := (.keep [0, 1, 7, 8] (.region false vc_slices_IndexFunc_LWrite_o2))
def vc_slices_IndexFunc_LWrite_o3 : List VO := ⟨(some 17), none, (.mv (.t 5))⟩ :: ⟨(some 4), none, (.mv (.t 17))⟩ :: []
def vc_slices_IndexFunc_LWrite_c3 : VCode := (.seq (.region false vc_slices_IndexFunc_LWrite_o3) (.keep [4] .ret))
def vc_slices_IndexFunc_LWrite_r4 : VCode := (.keep [0, 1, 5, 7, 8, 16] (.cond (.t 16) vc_slices_IndexFunc_LWrite_c3 .skip))
def vc_slices_IndexFunc_LWrite_o4_1 : List VO := ⟨(some 16), none, (.callV (.t 11) [] [(.t 15)])⟩ :: []
def vc_slices_IndexFunc_LWrite_o4 : List VO := ⟨(some 11), none, (.mv (.t 1))⟩ :: ⟨(some 12), none, (.mv (.t 0))⟩ :: ⟨(some 13), none, (.mv (.t 5))⟩ :: ⟨(some 14), none, (.idx 5 (.t 12) (.t 13))⟩ :: ⟨none, none, .kp [0, 1, 5, 7, 8, 11, 14]⟩ :: ⟨(some 15), none, (.load true 5 (.t 14))⟩ :: vc_slices_IndexFunc_LWrite_o4_1
def vc_slices_IndexFunc_LWrite_r5 : VCode := (.keep [0, 1, 5, 7, 8] (.seq (.region false vc_slices_IndexFunc_LWrite_o4) vc_slices_IndexFunc_LWrite_r4))
def vc_slices_IndexFunc_LWrite_o5 : List VO := ⟨(some 10), none, (.mv (.t 8))⟩ :: ⟨(some 5), none, (.mv (.t 10))⟩ :: []
def vc_slices_IndexFunc_LWrite_c6 : VCode := (.seq (.region false vc_slices_IndexFunc_LWrite_o5) vc_slices_IndexFunc_LWrite_r5)
def vc_slices_IndexFunc_LWrite_r7 : VCode := (.keep [0, 1, 7, 8] (.seq (.block 1 vc_slices_IndexFunc_LWrite_c6) vc_slices_IndexFunc_LWrite_r2))
def vc_slices_IndexFunc_LWrite_r8 : VCode := (.keep [0, 1, 7, 8, 9] (.seq (.cond (.t 9) .skip (.exit 0)) vc_slices_IndexFunc_LWrite_r7))
def vc_slices_IndexFunc_LWrite_o6 : List VO := ⟨(some 9), none, (.bin .lss (.t 8) (.t 7))⟩ :: []
def vc_slices_IndexFunc_LWrite_l9 : VCode := (.seq (.region false vc_slices_IndexFunc_LWrite_o6) vc_slices_IndexFunc_LWrite_r8)
def vc_slices_IndexFunc_LWrite_r10 : VCode := (.keep [0, 1, 7, 8] (.block 0 (.loop (.keep [0, 1, 7, 8] vc_slices_IndexFunc_LWrite_l9))))
def vc_slices_IndexFunc_LWrite_o7 : List VO := ⟨(some 6), none, (.mv (.t 0))⟩ :: ⟨(some 7), none, (.len (.t 6))⟩ :: ⟨(some 8), none, (.mv (.c (.val (.int .i64 0))))⟩ :: []
def vc_slices_IndexFunc_LWrite_r11 : VCode := (.keep [0, 1] (.seq (.seq (.region false vc_slices_IndexFunc_LWrite_o7) vc_slices_IndexFunc_LWrite_r10) vc_slices_IndexFunc_LWrite_r1))
def vc_slices_IndexFunc_LWrite_o8 : List VO := ⟨(some 4), none, (.mv (.c (.val (.int .i64 0))))⟩ :: []
def vc_slices_IndexFunc_LWrite : VCode := (.seq (.region false vc_slices_IndexFunc_LWrite_o8) vc_slices_IndexFunc_LWrite_r11)
def rs_slices_IndexFunc_LWrite : List RV := [(.t 4)]
theorem comp_slices_IndexFunc_LWrite : ccode Try.prog (Try.f123.body.getD .skip) = some (strip vc_slices_IndexFunc_LWrite) := by kernel_rfl
theorem code_slices_IndexFunc_LWrite : IsCode Try.prog id_slices_IndexFunc_LWrite 19 vc_slices_IndexFunc_LWrite rs_slices_IndexFunc_LWrite := ⟨_, _, Try.func123, by kernel_rfl, rfl, comp_slices_IndexFunc_LWrite, by kernel_rfl, by kernel_rfl, rfl⟩

/- slices.ContainsFunc[[][]byte,[]byte] -/
def vc_slices_ContainsFunc_LLbyte_o1 : List VO := ⟨(some 5), none, (.mv (.t 0))⟩ :: ⟨(some 6), none, (.mv (.t 1))⟩ :: ⟨none, none, .kp [5, 6]⟩ :: ⟨(some 7), none, (.call 151 [] [(.t 5), (.t 6)])⟩ :: ⟨none, none, .kp [7]⟩ :: ⟨(some 8), none, (.bin .geq (.t 7) (.c (.val (.int .i64 0))))⟩ :: ⟨(some 4), none, (.mv (.t 8))⟩ :: []
def vc_slices_ContainsFunc_LLbyte_r1 : VCode := (.keep [0, 1] (.seq (.region false vc_slices_ContainsFunc_LLbyte_o1) (.keep [4] .ret)))
def vc_slices_ContainsFunc_LLbyte_o2 : List VO := ⟨(some 4), none, (.mv (.c (.val (.bool false))))⟩ :: []
def vc_slices_ContainsFunc_LLbyte : VCode := (.seq (.region false vc_slices_ContainsFunc_LLbyte_o2) vc_slices_ContainsFunc_LLbyte_r1)
def rs_slices_ContainsFunc_LLbyte : List RV := [(.t 4)]
theorem comp_slices_ContainsFunc_LLbyte : ccode Try.prog (Try.f124.body.getD .skip) = some (strip vc_slices_ContainsFunc_LLbyte) := by kernel_rfl
theorem code_slices_ContainsFunc_LLbyte : IsCode Try.prog id_slices_ContainsFunc_LLbyte 9 vc_slices_ContainsFunc_LLbyte rs_slices_ContainsFunc_LLbyte := ⟨_, _, Try.func124, by kernel_rfl, rfl, comp_slices_ContainsFunc_LLbyte, by kernel_rfl, by kernel_rfl, rfl⟩

/- slices.EqualFunc[[][]byte,[][]byte,[]byte,[]byte] -/
def vc_slices_EqualFunc_LLbyte_o1 : List VO := ⟨(some 6), none, (.mv (.c (.val (.bool true))))⟩ :: []
def vc_slices_EqualFunc_LLbyte_r1 : VCode := (.keep [] (.seq (.region false vc_slices_EqualFunc_LLbyte_o1) (.keep [6] .ret)))
def vc_slices_EqualFunc_LLbyte_o2 : List VO := ⟨(some 31), none, (.bin .add (.t 17) (.c (.val (.int .i64 1))))⟩ :: ⟨(some 17), none, (.mv (.t 31))⟩ :: []
def vc_slices_EqualFunc_LLbyte_r2 : VCode := (.keep [1, 2, 15, 16, 17] (.region false vc_slices_EqualFunc_LLbyte_o2))
def vc_slices_EqualFunc_LLbyte_o3 : List VO := ⟨(some 6), none, (.mv (.c (.val (.bool false))))⟩ :: []
def vc_slices_EqualFunc_LLbyte_c3 : VCode := (.seq (.region false vc_slices_EqualFunc_LLbyte_o3) (.keep [6] .ret))
def vc_slices_EqualFunc_LLbyte_r4 : VCode := (.keep [1, 2, 15, 16, 17, 30] (.cond (.t 30) vc_slices_EqualFunc_LLbyte_c3 .skip))
def vc_slices_EqualFunc_LLbyte_o4 : List VO := ⟨(some 26), none, (.mv (.t 2))⟩ :: ⟨(some 27), none, (.mv (.t 8))⟩ :: ⟨(some 28), none, (.mv (.t 9))⟩ :: ⟨none, none, .kp [1, 2, 15, 16, 17, 26, 27, 28]⟩ :: ⟨(some 29), none, (.callV (.t 26) [] [(.t 27), (.t 28)])⟩ :: ⟨none, none, .kp [1, 2, 15, 16, 17, 29]⟩ :: ⟨(some 30), none, (.un .not (.t 29))⟩ :: []
def vc_slices_EqualFunc_LLbyte_r5 : VCode := (.keep [1, 2, 8, 9, 15, 16, 17] (.seq (.region false vc_slices_EqualFunc_LLbyte_o4) vc_slices_EqualFunc_LLbyte_r4))
def vc_slices_EqualFunc_LLbyte_o5 : List VO := ⟨(some 22), none, (.mv (.t 1))⟩ :: ⟨(some 23), none, (.mv (.t 7))⟩ :: ⟨(some 24), none, (.idx 1 (.t 22) (.t 23))⟩ :: ⟨none, none, .kp [1, 2, 8, 15, 16, 17, 24]⟩ :: ⟨(some 25), none, (.load false 1 (.t 24))⟩ :: ⟨(some 9), none, (.mv (.t 25))⟩ :: []
def vc_slices_EqualFunc_LLbyte_r6 : VCode := (.keep [1, 2, 7, 8, 15, 16, 17] (.seq (.region false vc_slices_EqualFunc_LLbyte_o5) vc_slices_EqualFunc_LLbyte_r5))
def vc_slices_EqualFunc_LLbyte_o6 : List VO := ⟨(some 19), none, (.mv (.t 17))⟩ :: ⟨(some 20), none, (.idx 1 (.t 15) (.t 17))⟩ :: ⟨(some 21), none, (.load false 1 (.t 20))⟩ :: ⟨(some 7), none, (.mv (.t 19))⟩ :: ⟨none, none, .kp [1, 2, 7, 15, 16, 17, 21]⟩ :: ⟨(some 8), none, (.mv (.t 21))⟩ :: []
def vc_slices_EqualFunc_LLbyte_c7 : VCode := (.seq (.region false vc_slices_EqualFunc_LLbyte_o6) vc_slices_EqualFunc_LLbyte_r6)
def vc_slices_EqualFunc_LLbyte_r8 : VCode := (.keep [1, 2, 15, 16, 17] (.seq (.block 1 vc_slices_EqualFunc_LLbyte_c7) vc_slices_EqualFunc_LLbyte_r2))
def vc_slices_EqualFunc_LLbyte_r9 : VCode := (.keep [1, 2, 15, 16, 17, 18] (.seq (.cond (.t 18) .skip (.exit 0)) vc_slices_EqualFunc_LLbyte_r8))
def vc_slices_EqualFunc_LLbyte_o7 : List VO := ⟨(some 18), none, (.bin .lss (.t 17) (.t 16))⟩ :: []
def vc_slices_EqualFunc_LLbyte_l10 : VCode := (.seq (.region false vc_slices_EqualFunc_LLbyte_o7) vc_slices_EqualFunc_LLbyte_r9)
def vc_slices_EqualFunc_LLbyte_c11 : VCode := (.loop (.keep [1, 2, 15, 16, 17] vc_slices_EqualFunc_LLbyte_l10))
def vc_slices_EqualFunc_LLbyte_r12 : VCode := (.keep [1, 2, 15, 16, 17] (.block 0 vc_slices_EqualFunc_LLbyte_c11))
def vc_slices_EqualFunc_LLbyte_o8 : List VO := ⟨(some 15), none, (.mv (.t 0))⟩ :: ⟨(some 16), none, (.len (.t 15))⟩ :: ⟨(some 17), none, (.mv (.c (.val (.int .i64 0))))⟩ :: []
def vc_slices_EqualFunc_LLbyte_r13 : VCode := (.keep [0, 1, 2] (.seq (.seq (.region false vc_slices_EqualFunc_LLbyte_o8) vc_slices_EqualFunc_LLbyte_r12) vc_slices_EqualFunc_LLbyte_r1))
def vc_slices_EqualFunc_LLbyte_o9 : List VO := ⟨(some 6), none, (.mv (.c (.val (.bool false))))⟩ :: []
def vc_slices_EqualFunc_LLbyte_c14 : VCode := (.seq (.region false vc_slices_EqualFunc_LLbyte_o9) (.keep [6] .ret))
def vc_slices_EqualFunc_LLbyte_r15 : VCode := (.keep [0, 1, 2, 14] (.cond (.t 14) vc_slices_EqualFunc_LLbyte_c14 .skip))
def vc_slices_EqualFunc_LLbyte_o10 : List VO := ⟨(some 10), none, (.mv (.t 0))⟩ :: ⟨(some 11), none, (.len (.t 10))⟩ :: ⟨(some 12), none, (.mv (.t 1))⟩ :: ⟨(some 13), none, (.len (.t 12))⟩ :: ⟨none, none, .kp [0, 1, 2, 11, 13]⟩ :: ⟨(some 14), none, (.bin .neq (.t 11) (.t 13))⟩ :: []
def vc_slices_EqualFunc_LLbyte_r16 : VCode := (.keep [0, 1, 2] (.seq (.seq (.region false vc_slices_EqualFunc_LLbyte_o10) vc_slices_EqualFunc_LLbyte_r15) vc_slices_EqualFunc_LLbyte_r13))
def vc_slices_EqualFunc_LLbyte_o11 : List VO := ⟨(some 6), none, (.mv (.c (.val (.bool false))))⟩ :: []
def vc_slices_EqualFunc_LLbyte : VCode := (.seq (.region false vc_slices_EqualFunc_LLbyte_o11) vc_slices_EqualFunc_LLbyte_r16)
def rs_slices_EqualFunc_LLbyte : List RV := [(.t 6)]
theorem comp_slices_EqualFunc_LLbyte : ccode Try.prog (Try.f142.body.getD .skip) = some (strip vc_slices_EqualFunc_LLbyte) := by kernel_rfl
theorem code_slices_EqualFunc_LLbyte : IsCode Try.prog id_slices_EqualFunc_LLbyte 32 vc_slices_EqualFunc_LLbyte rs_slices_EqualFunc_LLbyte := ⟨_, _, Try.func142, by kernel_rfl, rfl, comp_slices_EqualFunc_LLbyte, by kernel_rfl, by kernel_rfl, rfl⟩

/- slices.ContainsFunc[[]int,int] -/
def vc_slices_ContainsFunc_Lint_o1 : List VO := ⟨(some 5), none, (.mv (.t 0))⟩ :: ⟨(some 6), none, (.mv (.t 1))⟩ :: ⟨none, none, .kp [5, 6]⟩ :: ⟨(some 7), none, (.call 152 [] [(.t 5), (.t 6)])⟩ :: ⟨none, none, .kp [7]⟩ :: ⟨(some 8), none, (.bin .geq (.t 7) (.c (.val (.int .i64 0))))⟩ :: ⟨(some 4), none, (.mv (.t 8))⟩ :: []
def vc_slices_ContainsFunc_Lint_r1 : VCode := (.keep [0, 1] (.seq (.region false vc_slices_ContainsFunc_Lint_o1) (.keep [4] .ret)))
def vc_slices_ContainsFunc_Lint_o2 : List VO := ⟨(some 4), none, (.mv (.c (.val (.bool false))))⟩ :: []
def vc_slices_ContainsFunc_Lint : VCode := (.seq (.region false vc_slices_ContainsFunc_Lint_o2) vc_slices_ContainsFunc_Lint_r1)
def rs_slices_ContainsFunc_Lint : List RV := [(.t 4)]
theorem comp_slices_ContainsFunc_Lint : ccode Try.prog (Try.f144.body.getD .skip) = some (strip vc_slices_ContainsFunc_Lint) := by kernel_rfl
theorem code_slices_ContainsFunc_Lint : IsCode Try.prog id_slices_ContainsFunc_Lint 9 vc_slices_ContainsFunc_Lint rs_slices_ContainsFunc_Lint := ⟨_, _, Try.func144, by kernel_rfl, rfl, comp_slices_ContainsFunc_Lint, by kernel_rfl, by kernel_rfl, rfl⟩

/- slices.IndexFunc[[][]byte,[]byte] -/
def vc_slices_IndexFunc_LLbyte_o1 : List VO := ⟨(some 4), none, (.mv (.c (.val (.int .i64 (-1)))))⟩ :: []
def vc_slices_IndexFunc_LLbyte_r1 : VCode := (.keep [] (.seq (.region false vc_slices_IndexFunc_LLbyte_o1) (.keep [4] .ret)))
def vc_slices_IndexFunc_LLbyte_o2 : List VO := ⟨(some 18), none, (.bin .add (.t 8) (.c (.val (.int .i64 1))))⟩ :: ⟨(some 8), none, (.mv (.t 18))⟩ :: []
def vc_slices_IndexFunc_LLbyte_r2 : VCode := (.keep [0, 1, 7, 8] (.region false vc_slices_IndexFunc_LLbyte_o2))
def vc_slices_IndexFunc_LLbyte_o3 : List VO := ⟨(some 17), none, (.mv (.t 5))⟩ :: ⟨(some 4), none, (.mv (.t 17))⟩ :: []
def vc_slices_IndexFunc_LLbyte_c3 : VCode := (.seq (.region false vc_slices_IndexFunc_LLbyte_o3) (.keep [4] .ret))
def vc_slices_IndexFunc_LLbyte_r4 : VCode := (.keep [0, 1, 5, 7, 8, 16] (.cond (.t 16) vc_slices_IndexFunc_LLbyte_c3 .skip))
def vc_slices_IndexFunc_LLbyte_o4_1 : List VO := ⟨(some 16), none, (.callV (.t 11) [] [(.t 15)])⟩ :: []
def vc_slices_IndexFunc_LLbyte_o4 : List VO := ⟨(some 11), none, (.mv (.t 1))⟩ :: ⟨(some 12), none, (.mv (.t 0))⟩ :: ⟨(some 13), none, (.mv (.t 5))⟩ :: ⟨(some 14), none, (.idx 1 (.t 12) (.t 13))⟩ :: ⟨none, none, .kp [0, 1, 5, 7, 8, 11, 14]⟩ :: ⟨(some 15), none, (.load false 1 (.t 14))⟩ :: vc_slices_IndexFunc_LLbyte_o4_1
def vc_slices_IndexFunc_LLbyte_r5 : VCode := (.keep [0, 1, 5, 7, 8] (.seq (.region false vc_slices_IndexFunc_LLbyte_o4) vc_slices_IndexFunc_LLbyte_r4))
def vc_slices_IndexFunc_LLbyte_o5 : List VO := ⟨(some 10), none, (.mv (.t 8))⟩ :: ⟨(some 5), none, (.mv (.t 10))⟩ :: []
def vc_slices_IndexFunc_LLbyte_c6 : VCode := (.seq (.region false vc_slices_IndexFunc_LLbyte_o5) vc_slices_IndexFunc_LLbyte_r5)
def vc_slices_IndexFunc_LLbyte_r7 : VCode := (.keep [0, 1, 7, 8] (.seq (.block 1 vc_slices_IndexFunc_LLbyte_c6) vc_slices_IndexFunc_LLbyte_r2))
def vc_slices_IndexFunc_LLbyte_r8 : VCode := (.keep [0, 1, 7, 8, 9] (.seq (.cond (.t 9) .skip (.exit 0)) vc_slices_IndexFunc_LLbyte_r7))
def vc_slices_IndexFunc_LLbyte_o6 : List VO := ⟨(some 9), none, (.bin .lss (.t 8) (.t 7))⟩ :: []
def vc_slices_IndexFunc_LLbyte_l9 : VCode := (.seq (.region false vc_slices_IndexFunc_LLbyte_o6) vc_slices_IndexFunc_LLbyte_r8)
def vc_slices_IndexFunc_LLbyte_r10 : VCode := (.keep [0, 1, 7, 8] (.block 0 (.loop (.keep [0, 1, 7, 8] vc_slices_IndexFunc_LLbyte_l9))))
def vc_slices_IndexFunc_LLbyte_o7 : List VO := ⟨(some 6), none, (.mv (.t 0))⟩ :: ⟨(some 7), none, (.len (.t 6))⟩ :: ⟨(some 8), none, (.mv (.c (.val (.int .i64 0))))⟩ :: []
def vc_slices_IndexFunc_LLbyte_r11 : VCode := (.keep [0, 1] (.seq (.seq (.region false vc_slices_IndexFunc_LLbyte_o7) vc_slices_IndexFunc_LLbyte_r10) vc_slices_IndexFunc_LLbyte_r1))
def vc_slices_IndexFunc_LLbyte_o8 : List VO := ⟨(some 4), none, (.mv (.c (.val (.int .i64 0))))⟩ :: []
def vc_slices_IndexFunc_LLbyte : VCode := (.seq (.region false vc_slices_IndexFunc_LLbyte_o8) vc_slices_IndexFunc_LLbyte_r11)
def rs_slices_IndexFunc_LLbyte : List RV := [(.t 4)]
theorem comp_slices_IndexFunc_LLbyte : ccode Try.prog (Try.f151.body.getD .skip) = some (strip vc_slices_IndexFunc_LLbyte) := by kernel_rfl
theorem code_slices_IndexFunc_LLbyte : IsCode Try.prog id_slices_IndexFunc_LLbyte 19 vc_slices_IndexFunc_LLbyte rs_slices_IndexFunc_LLbyte := ⟨_, _, Try.func151, by kernel_rfl, rfl, comp_slices_IndexFunc_LLbyte, by kernel_rfl, by kernel_rfl, rfl⟩

/- slices.IndexFunc[[]int,int] -/
def vc_slices_IndexFunc_Lint_o1 : List VO := ⟨(some 4), none, (.mv (.c (.val (.int .i64 (-1)))))⟩ :: []
def vc_slices_IndexFunc_Lint_r1 : VCode := (.keep [] (.seq (.region false vc_slices_IndexFunc_Lint_o1) (.keep [4] .ret)))
def vc_slices_IndexFunc_Lint_o2 : List VO := ⟨(some 18), none, (.bin .add (.t 8) (.c (.val (.int .i64 1))))⟩ :: ⟨(some 8), none, (.mv (.t 18))⟩ :: []
def vc_slices_IndexFunc_Lint_r2 : VCode := (.keep [0, 1, 7, 8] (.region false vc_slices_IndexFunc_Lint_o2))
def vc_slices_IndexFunc_Lint_o3 : List VO := ⟨(some 17), none, (.mv (.t 5))⟩ :: ⟨(some 4), none, (.mv (.t 17))⟩ :: []
def vc_slices_IndexFunc_Lint_c3 : VCode := (.seq (.region false vc_slices_IndexFunc_Lint_o3) (.keep [4] .ret))
def vc_slices_IndexFunc_Lint_r4 : VCode := (.keep [0, 1, 5, 7, 8, 16] (.cond (.t 16) vc_slices_IndexFunc_Lint_c3 .skip))
def vc_slices_IndexFunc_Lint_o4_1 : List VO := ⟨(some 16), none, (.callV (.t 11) [] [(.t 15)])⟩ :: []
def vc_slices_IndexFunc_Lint_o4 : List VO := ⟨(some 11), none, (.mv (.t 1))⟩ :: ⟨(some 12), none, (.mv (.t 0))⟩ :: ⟨(some 13), none, (.mv (.t 5))⟩ :: ⟨(some 14), none, (.idx 1 (.t 12) (.t 13))⟩ :: ⟨none, none, .kp [0, 1, 5, 7, 8, 11, 14]⟩ :: ⟨(some 15), none, (.load false 1 (.t 14))⟩ :: vc_slices_IndexFunc_Lint_o4_1
def vc_slices_IndexFunc_Lint_r5 : VCode := (.keep [0, 1, 5, 7, 8] (.seq (.region false vc_slices_IndexFunc_Lint_o4) vc_slices_IndexFunc_Lint_r4))
def vc_slices_IndexFunc_Lint_o5 : List VO := ⟨(some 10), none, (.mv (.t 8))⟩ :: ⟨(some 5), none, (.mv (.t 10))⟩ :: []
def vc_slices_IndexFunc_Lint_c6 : VCode := (.seq (.region false vc_slices_IndexFunc_Lint_o5) vc_slices_IndexFunc_Lint_r5)
def vc_slices_IndexFunc_Lint_r7 : VCode := (.keep [0, 1, 7, 8] (.seq (.block 1 vc_slices_IndexFunc_Lint_c6) vc_slices_IndexFunc_Lint_r2))
def vc_slices_IndexFunc_Lint_r8 : VCode := (.keep [0, 1, 7, 8, 9] (.seq (.cond (.t 9) .skip (.exit 0)) vc_slices_IndexFunc_Lint_r7))
def vc_slices_IndexFunc_Lint_o6 : List VO := ⟨(some 9), none, (.bin .lss (.t 8) (.t 7))⟩ :: []
def vc_slices_IndexFunc_Lint_l9 : VCode := (.seq (.region false vc_slices_IndexFunc_Lint_o6) vc_slices_IndexFunc_Lint_r8)
def vc_slices_IndexFunc_Lint_r10 : VCode := (.keep [0, 1, 7, 8] (.block 0 (.loop (.keep [0, 1, 7, 8] vc_slices_IndexFunc_Lint_l9))))
def vc_slices_IndexFunc_Lint_o7 : List VO := ⟨(some 6), none, (.mv (.t 0))⟩ :: ⟨(some 7), none, (.len (.t 6))⟩ :: ⟨(some 8), none, (.mv (.c (.val (.int .i64 0))))⟩ :: []
def vc_slices_IndexFunc_Lint_r11 : VCode := (.keep [0, 1] (.seq (.seq (.region false vc_slices_IndexFunc_Lint_o7) vc_slices_IndexFunc_Lint_r10) vc_slices_IndexFunc_Lint_r1))
def vc_slices_IndexFunc_Lint_o8 : List VO := ⟨(some 4), none, (.mv (.c (.val (.int .i64 0))))⟩ :: []
def vc_slices_IndexFunc_Lint : VCode := (.seq (.region false vc_slices_IndexFunc_Lint_o8) vc_slices_IndexFunc_Lint_r11)
def rs_slices_IndexFunc_Lint : List RV := [(.t 4)]
theorem comp_slices_IndexFunc_Lint : ccode Try.prog (Try.f152.body.getD .skip) = some (strip vc_slices_IndexFunc_Lint) := by kernel_rfl
theorem code_slices_IndexFunc_Lint : IsCode Try.prog id_slices_IndexFunc_Lint 19 vc_slices_IndexFunc_Lint rs_slices_IndexFunc_Lint := ⟨_, _, Try.func152, by kernel_rfl, rfl, comp_slices_IndexFunc_Lint, by kernel_rfl, by kernel_rfl, rfl⟩

end Go.Proofs.Ytlodbaikbgbhjaa
