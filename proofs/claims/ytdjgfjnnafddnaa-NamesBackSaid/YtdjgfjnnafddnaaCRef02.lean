/- The code of functions, for the abstract machine, and that it is theirs. Printed by vc2.py. -/
import Derived.Test.YtdjgfjnnafddnaaIds
set_option linter.unusedVariables false
set_option maxRecDepth 100000
namespace Go.Proofs.Ytdjgfjnnafddnaa
open Go Go.Vm

/- usher/usherref02.Num -/
def vc_ref02_Num_o1_2 : List VO := ⟨(some 28), none, (.call 74 [true] [(.t 24), (.t 26), (.t 27)])⟩ :: ⟨none, none, .kp [28]⟩ :: ⟨(some 4), none, (.mv (.t 28))⟩ :: []
def vc_ref02_Num_o1_1 : List VO := ⟨(some 23), none, (.lit false 5 1 1 [(.val (.int .u8 0))] [(0, (1, (.t 22)))])⟩ :: ⟨(some 24), none, (.app 5 1 1 (.t 19) (.t 23))⟩ :: ⟨none, none, .kp [1, 5, 24]⟩ :: ⟨(some 25), none, (.mv (.t 1))⟩ :: ⟨(some 26), none, (.cvInt .u64 (.t 25))⟩ :: ⟨none, none, .kp [5, 24, 26]⟩ :: ⟨(some 27), none, (.mv (.t 5))⟩ :: vc_ref02_Num_o1_2
def vc_ref02_Num_o1 : List VO := ⟨(some 18), none, (.mv (.t 0))⟩ :: ⟨(some 19), none, (.call 72 [] [(.t 18)])⟩ :: ⟨none, none, .kp [1, 5, 19]⟩ :: ⟨(some 20), none, (.mv (.t 5))⟩ :: ⟨(some 21), none, (.bin .add (.c (.val (.int .i64 239))) (.t 20))⟩ :: ⟨(some 22), none, (.cvInt .u8 (.t 21))⟩ :: ⟨none, none, .kp [1, 5, 19, 22]⟩ :: vc_ref02_Num_o1_1
def vc_ref02_Num_r1 : VCode := (.keep [0, 1, 5] (.seq (.region false vc_ref02_Num_o1) (.keep [4] .ret)))
def vc_ref02_Num_o2 : List VO := ⟨(some 16), none, (.mv (.t 1))⟩ :: ⟨(some 17), none, (.call 73 [] [(.t 16)])⟩ :: ⟨(some 5), none, (.mv (.t 17))⟩ :: []
def vc_ref02_Num_r2 : VCode := (.keep [0, 1] (.seq (.region false vc_ref02_Num_o2) vc_ref02_Num_r1))
def vc_ref02_Num_o3_1 : List VO := ⟨(some 15), none, (.app 5 1 1 (.t 11) (.t 14))⟩ :: ⟨none, none, .kp [15]⟩ :: ⟨(some 4), none, (.mv (.t 15))⟩ :: []
def vc_ref02_Num_o3 : List VO := ⟨(some 10), none, (.mv (.t 0))⟩ :: ⟨(some 11), none, (.call 72 [] [(.t 10)])⟩ :: ⟨none, none, .kp [1, 11]⟩ :: ⟨(some 12), none, (.mv (.t 1))⟩ :: ⟨(some 13), none, (.cvInt .u8 (.t 12))⟩ :: ⟨none, none, .kp [11, 13]⟩ :: ⟨(some 14), none, (.lit false 5 1 1 [(.val (.int .u8 0))] [(0, (1, (.t 13)))])⟩ :: vc_ref02_Num_o3_1
def vc_ref02_Num_r3 : VCode := (.keep [0, 1, 9] (.cond (.t 9) (.seq (.region false vc_ref02_Num_o3) (.keep [4] .ret)) .skip))
def vc_ref02_Num_o4 : List VO := ⟨(some 8), none, (.mv (.t 1))⟩ :: ⟨(some 9), none, (.bin .lss (.t 8) (.c (.val (.int .i64 240))))⟩ :: []
def vc_ref02_Num_r4 : VCode := (.keep [0, 1] (.seq (.seq (.region false vc_ref02_Num_o4) vc_ref02_Num_r3) vc_ref02_Num_r2))
def vc_ref02_Num_o5 : List VO := ⟨(some 1), none, (.mv (.c (.val (.int .i64 0))))⟩ :: []
def vc_ref02_Num_r5 : VCode := (.keep [0, 1, 7] (.cond (.t 7) (.region false vc_ref02_Num_o5) .skip))
def vc_ref02_Num_o6 : List VO := ⟨(some 6), none, (.mv (.t 1))⟩ :: ⟨(some 7), none, (.bin .lss (.t 6) (.c (.val (.int .i64 0))))⟩ :: []
def vc_ref02_Num_r6 : VCode := (.keep [0, 1] (.seq (.seq (.region false vc_ref02_Num_o6) vc_ref02_Num_r5) vc_ref02_Num_r4))
def vc_ref02_Num_o7 : List VO := ⟨(some 4), none, (.mv (.c (.val (.slice none 0 0))))⟩ :: []
def vc_ref02_Num : VCode := (.seq (.region false vc_ref02_Num_o7) vc_ref02_Num_r6)
def rs_ref02_Num : List RV := [(.t 4)]
theorem comp_ref02_Num : ccode Try.prog (Try.f27.body.getD .skip) = some (strip vc_ref02_Num) := by kernel_rfl
theorem code_ref02_Num : IsCode Try.prog id_ref02_Num 29 vc_ref02_Num rs_ref02_Num := ⟨_, _, Try.func27, by kernel_rfl, rfl, comp_ref02_Num, by kernel_rfl, by kernel_rfl, rfl⟩

/- usher/usherref02.Int -/
def vc_ref02_Int_o1_1 : List VO := ⟨(some 10), none, (.call 74 [true] [(.t 6), (.t 9), (.c (.val (.int .i64 8)))])⟩ :: ⟨none, none, .kp [10]⟩ :: ⟨(some 4), none, (.mv (.t 10))⟩ :: []
def vc_ref02_Int_o1 : List VO := ⟨(some 5), none, (.mv (.t 0))⟩ :: ⟨(some 6), none, (.call 72 [] [(.t 5)])⟩ :: ⟨none, none, .kp [1, 6]⟩ :: ⟨(some 7), none, (.mv (.t 1))⟩ :: ⟨(some 8), none, (.cvInt .u64 (.t 7))⟩ :: ⟨none, none, .kp [6, 8]⟩ :: ⟨(some 9), none, (.bin .xor (.t 8) (.c (.val (.int .u64 9223372036854775808))))⟩ :: vc_ref02_Int_o1_1
def vc_ref02_Int_r1 : VCode := (.keep [0, 1] (.seq (.region false vc_ref02_Int_o1) (.keep [4] .ret)))
def vc_ref02_Int_o2 : List VO := ⟨(some 4), none, (.mv (.c (.val (.slice none 0 0))))⟩ :: []
def vc_ref02_Int : VCode := (.seq (.region false vc_ref02_Int_o2) vc_ref02_Int_r1)
def rs_ref02_Int : List RV := [(.t 4)]
theorem comp_ref02_Int : ccode Try.prog (Try.f29.body.getD .skip) = some (strip vc_ref02_Int) := by kernel_rfl
theorem code_ref02_Int : IsCode Try.prog id_ref02_Int 11 vc_ref02_Int rs_ref02_Int := ⟨_, _, Try.func29, by kernel_rfl, rfl, comp_ref02_Int, by kernel_rfl, by kernel_rfl, rfl⟩

/- usher/usherref02.Bits -/
def vc_ref02_Bits_o1 : List VO := ⟨(some 5), none, (.mv (.t 0))⟩ :: ⟨(some 6), none, (.call 72 [] [(.t 5)])⟩ :: ⟨none, none, .kp [1, 6]⟩ :: ⟨(some 7), none, (.mv (.t 1))⟩ :: ⟨(some 8), none, (.call 74 [true] [(.t 6), (.t 7), (.c (.val (.int .i64 8)))])⟩ :: ⟨none, none, .kp [8]⟩ :: ⟨(some 4), none, (.mv (.t 8))⟩ :: []
def vc_ref02_Bits_r1 : VCode := (.keep [0, 1] (.seq (.region false vc_ref02_Bits_o1) (.keep [4] .ret)))
def vc_ref02_Bits_o2 : List VO := ⟨(some 4), none, (.mv (.c (.val (.slice none 0 0))))⟩ :: []
def vc_ref02_Bits : VCode := (.seq (.region false vc_ref02_Bits_o2) vc_ref02_Bits_r1)
def rs_ref02_Bits : List RV := [(.t 4)]
theorem comp_ref02_Bits : ccode Try.prog (Try.f31.body.getD .skip) = some (strip vc_ref02_Bits) := by kernel_rfl
theorem code_ref02_Bits : IsCode Try.prog id_ref02_Bits 9 vc_ref02_Bits rs_ref02_Bits := ⟨_, _, Try.func31, by kernel_rfl, rfl, comp_ref02_Bits, by kernel_rfl, by kernel_rfl, rfl⟩

/- usher/usherref02.Text -/
def vc_ref02_Text_o1_1 : List VO := ⟨(some 10), none, (.appS 5 (.t 8) (.t 9))⟩ :: ⟨none, none, .kp [10]⟩ :: ⟨(some 4), none, (.mv (.t 10))⟩ :: []
def vc_ref02_Text_o1 : List VO := ⟨(some 5), none, (.mv (.t 0))⟩ :: ⟨(some 6), none, (.mv (.t 1))⟩ :: ⟨(some 7), none, (.lenS (.t 6))⟩ :: ⟨none, none, .kp [1, 5, 7]⟩ :: ⟨(some 8), none, (.call 27 [] [(.t 5), (.t 7)])⟩ :: ⟨none, none, .kp [1, 8]⟩ :: ⟨(some 9), none, (.mv (.t 1))⟩ :: vc_ref02_Text_o1_1
def vc_ref02_Text_r1 : VCode := (.keep [0, 1] (.seq (.region false vc_ref02_Text_o1) (.keep [4] .ret)))
def vc_ref02_Text_o2 : List VO := ⟨(some 4), none, (.mv (.c (.val (.slice none 0 0))))⟩ :: []
def vc_ref02_Text : VCode := (.seq (.region false vc_ref02_Text_o2) vc_ref02_Text_r1)
def rs_ref02_Text : List RV := [(.t 4)]
theorem comp_ref02_Text : ccode Try.prog (Try.f33.body.getD .skip) = some (strip vc_ref02_Text) := by kernel_rfl
theorem code_ref02_Text : IsCode Try.prog id_ref02_Text 11 vc_ref02_Text rs_ref02_Text := ⟨_, _, Try.func33, by kernel_rfl, rfl, comp_ref02_Text, by kernel_rfl, by kernel_rfl, rfl⟩

/- usher/usherref02.Flag -/
def vc_ref02_Flag_o1 : List VO := ⟨(some 10), none, (.mv (.t 0))⟩ :: ⟨(some 11), none, (.call 72 [] [(.t 10)])⟩ :: ⟨none, none, .kp [11]⟩ :: ⟨(some 12), none, (.lit false 5 1 1 [(.val (.int .u8 0))] [(0, (1, (.c (.val (.int .u8 0)))))])⟩ :: ⟨(some 13), none, (.app 5 1 1 (.t 11) (.t 12))⟩ :: ⟨none, none, .kp [13]⟩ :: ⟨(some 4), none, (.mv (.t 13))⟩ :: []
def vc_ref02_Flag_r1 : VCode := (.keep [0] (.seq (.region false vc_ref02_Flag_o1) (.keep [4] .ret)))
def vc_ref02_Flag_o2 : List VO := ⟨(some 6), none, (.mv (.t 0))⟩ :: ⟨(some 7), none, (.call 72 [] [(.t 6)])⟩ :: ⟨none, none, .kp [7]⟩ :: ⟨(some 8), none, (.lit false 5 1 1 [(.val (.int .u8 0))] [(0, (1, (.c (.val (.int .u8 1)))))])⟩ :: ⟨(some 9), none, (.app 5 1 1 (.t 7) (.t 8))⟩ :: ⟨none, none, .kp [9]⟩ :: ⟨(some 4), none, (.mv (.t 9))⟩ :: []
def vc_ref02_Flag_r2 : VCode := (.keep [0, 5] (.cond (.t 5) (.seq (.region false vc_ref02_Flag_o2) (.keep [4] .ret)) .skip))
def vc_ref02_Flag_o3 : List VO := ⟨(some 5), none, (.mv (.t 1))⟩ :: []
def vc_ref02_Flag_r3 : VCode := (.keep [0, 1] (.seq (.seq (.region false vc_ref02_Flag_o3) vc_ref02_Flag_r2) vc_ref02_Flag_r1))
def vc_ref02_Flag_o4 : List VO := ⟨(some 4), none, (.mv (.c (.val (.slice none 0 0))))⟩ :: []
def vc_ref02_Flag : VCode := (.seq (.region false vc_ref02_Flag_o4) vc_ref02_Flag_r3)
def rs_ref02_Flag : List RV := [(.t 4)]
theorem comp_ref02_Flag : ccode Try.prog (Try.f35.body.getD .skip) = some (strip vc_ref02_Flag) := by kernel_rfl
theorem code_ref02_Flag : IsCode Try.prog id_ref02_Flag 14 vc_ref02_Flag rs_ref02_Flag := ⟨_, _, Try.func35, by kernel_rfl, rfl, comp_ref02_Flag, by kernel_rfl, by kernel_rfl, rfl⟩

/- usher/usherref02.copied -/
def vc_ref02_copied_o1 : List VO := ⟨(some 3), none, (.mv (.t 0))⟩ :: ⟨(some 4), none, (.app 5 1 1 (.c (.val (.slice none 0 0))) (.t 3))⟩ :: ⟨none, none, .kp [4]⟩ :: ⟨(some 2), none, (.mv (.t 4))⟩ :: []
def vc_ref02_copied_r1 : VCode := (.keep [0] (.seq (.region false vc_ref02_copied_o1) (.keep [2] .ret)))
def vc_ref02_copied_o2 : List VO := ⟨(some 2), none, (.mv (.c (.val (.slice none 0 0))))⟩ :: []
def vc_ref02_copied : VCode := (.seq (.region false vc_ref02_copied_o2) vc_ref02_copied_r1)
def rs_ref02_copied : List RV := [(.t 2)]
theorem comp_ref02_copied : ccode Try.prog (Try.f72.body.getD .skip) = some (strip vc_ref02_copied) := by kernel_rfl
theorem code_ref02_copied : IsCode Try.prog id_ref02_copied 5 vc_ref02_copied rs_ref02_copied := ⟨_, _, Try.func72, by kernel_rfl, rfl, comp_ref02_copied, by kernel_rfl, by kernel_rfl, rfl⟩

/- usher/usherref02.bytes -/
def vc_ref02_bytes_o1 : List VO := ⟨(some 10), none, (.mv (.t 3))⟩ :: ⟨(some 2), none, (.mv (.t 10))⟩ :: []
def vc_ref02_bytes_r1 : VCode := (.keep [3] (.seq (.region false vc_ref02_bytes_o1) (.keep [2] .ret)))
def vc_ref02_bytes_o2 : List VO := ⟨(some 8), none, (.mv (.t 3))⟩ :: ⟨(some 9), none, (.bin .add (.t 8) (.c (.val (.int .i64 1))))⟩ :: ⟨none, none, .kp [0, 9]⟩ :: ⟨(some 3), none, (.mv (.t 9))⟩ :: []
def vc_ref02_bytes_r2 : VCode := (.keep [0, 3] (.region false vc_ref02_bytes_o2))
def vc_ref02_bytes_o3 : List VO := ⟨(some 6), none, (.mv (.t 0))⟩ :: ⟨(some 7), none, (.bin .quo (.t 6) (.c (.val (.int .i64 256))))⟩ :: ⟨none, none, .kp [3, 7]⟩ :: ⟨(some 0), none, (.mv (.t 7))⟩ :: []
def vc_ref02_bytes_r3 : VCode := (.keep [0, 3] (.block 1 (.seq (.region false vc_ref02_bytes_o3) vc_ref02_bytes_r2)))
def vc_ref02_bytes_r4 : VCode := (.keep [0, 3, 5] (.cond (.t 5) .skip (.exit 0)))
def vc_ref02_bytes_o4 : List VO := ⟨(some 4), none, (.mv (.t 0))⟩ :: ⟨(some 5), none, (.bin .gtr (.t 4) (.c (.val (.int .i64 0))))⟩ :: []
def vc_ref02_bytes_l5 : VCode := (.seq (.seq (.region false vc_ref02_bytes_o4) vc_ref02_bytes_r4) vc_ref02_bytes_r3)
def vc_ref02_bytes_r6 : VCode := (.keep [0, 3] (.seq (.block 0 (.loop (.keep [0, 3] vc_ref02_bytes_l5))) vc_ref02_bytes_r1))
def vc_ref02_bytes_o5 : List VO := ⟨(some 3), none, (.mv (.c (.val (.int .i64 0))))⟩ :: []
def vc_ref02_bytes_r7 : VCode := (.keep [0] (.seq (.region false vc_ref02_bytes_o5) vc_ref02_bytes_r6))
def vc_ref02_bytes_o6 : List VO := ⟨(some 2), none, (.mv (.c (.val (.int .i64 0))))⟩ :: []
def vc_ref02_bytes : VCode := (.seq (.region false vc_ref02_bytes_o6) vc_ref02_bytes_r7)
def rs_ref02_bytes : List RV := [(.t 2)]
theorem comp_ref02_bytes : ccode Try.prog (Try.f73.body.getD .skip) = some (strip vc_ref02_bytes) := by kernel_rfl
theorem code_ref02_bytes : IsCode Try.prog id_ref02_bytes 11 vc_ref02_bytes rs_ref02_bytes := ⟨_, _, Try.func73, by kernel_rfl, rfl, comp_ref02_bytes, by kernel_rfl, by kernel_rfl, rfl⟩

/- usher/usherref02.high -/
def vc_ref02_high_o1 : List VO := ⟨(some 27), none, (.mv (.t 0))⟩ :: ⟨(some 6), none, (.mv (.t 27))⟩ :: []
def vc_ref02_high_r1 : VCode := (.keep [0] (.seq (.region false vc_ref02_high_o1) (.keep [6] .ret)))
def vc_ref02_high_o2_1 : List VO := ⟨(some 26), none, (.app 5 1 1 (.t 21) (.t 25))⟩ :: ⟨none, none, .kp [1, 2, 26]⟩ :: ⟨(some 0), none, (.mv (.t 26))⟩ :: []
def vc_ref02_high_o2 : List VO := ⟨(some 21), none, (.mv (.t 0))⟩ :: ⟨(some 22), none, (.mv (.t 7))⟩ :: ⟨none, none, .kp [1, 2, 21, 22]⟩ :: ⟨(some 23), none, (.bin .rem (.t 22) (.c (.val (.int .u64 256))))⟩ :: ⟨(some 24), none, (.cvInt .u8 (.t 23))⟩ :: ⟨none, none, .kp [1, 2, 21, 24]⟩ :: ⟨(some 25), none, (.lit false 5 1 1 [(.val (.int .u8 0))] [(0, (1, (.t 24)))])⟩ :: vc_ref02_high_o2_1
def vc_ref02_high_r2 : VCode := (.keep [0, 1, 2, 7] (.region false vc_ref02_high_o2))
def vc_ref02_high_o3 : List VO := ⟨(some 17), none, (.mv (.t 8))⟩ :: ⟨(some 18), none, (.bin .add (.t 17) (.c (.val (.int .i64 1))))⟩ :: ⟨none, none, .kp [0, 1, 2, 7, 18]⟩ :: ⟨(some 8), none, (.mv (.t 18))⟩ :: []
def vc_ref02_high_r3 : VCode := (.keep [0, 1, 2, 7, 8] (.region false vc_ref02_high_o3))
def vc_ref02_high_o4 : List VO := ⟨(some 19), none, (.mv (.t 7))⟩ :: ⟨(some 20), none, (.bin .quo (.t 19) (.c (.val (.int .u64 256))))⟩ :: ⟨none, none, .kp [0, 1, 2, 8, 20]⟩ :: ⟨(some 7), none, (.mv (.t 20))⟩ :: []
def vc_ref02_high_r4 : VCode := (.keep [0, 1, 2, 7, 8] (.seq (.block 3 (.region false vc_ref02_high_o4)) vc_ref02_high_r3))
def vc_ref02_high_r5 : VCode := (.keep [0, 1, 2, 7, 8, 16] (.cond (.t 16) .skip (.exit 2)))
def vc_ref02_high_o5 : List VO := ⟨(some 14), none, (.mv (.t 8))⟩ :: ⟨(some 15), none, (.mv (.t 2))⟩ :: ⟨(some 16), none, (.bin .lss (.t 14) (.t 15))⟩ :: []
def vc_ref02_high_l6 : VCode := (.seq (.seq (.region false vc_ref02_high_o5) vc_ref02_high_r5) vc_ref02_high_r4)
def vc_ref02_high_r7 : VCode := (.keep [0, 1, 2, 7, 8] (.block 2 (.loop (.keep [0, 1, 2, 7, 8] vc_ref02_high_l6))))
def vc_ref02_high_o6 : List VO := ⟨(some 8), none, (.mv (.c (.val (.int .i64 0))))⟩ :: []
def vc_ref02_high_r8 : VCode := (.keep [0, 1, 2, 7] (.seq (.seq (.region false vc_ref02_high_o6) vc_ref02_high_r7) vc_ref02_high_r2))
def vc_ref02_high_o7 : List VO := ⟨(some 13), none, (.mv (.t 1))⟩ :: ⟨(some 7), none, (.mv (.t 13))⟩ :: []
def vc_ref02_high_r9 : VCode := (.keep [0, 1, 2] (.seq (.region false vc_ref02_high_o7) vc_ref02_high_r8))
def vc_ref02_high_o8 : List VO := ⟨(some 11), none, (.mv (.t 2))⟩ :: ⟨(some 12), none, (.bin .sub (.t 11) (.c (.val (.int .i64 1))))⟩ :: ⟨none, none, .kp [0, 1, 12]⟩ :: ⟨(some 2), none, (.mv (.t 12))⟩ :: []
def vc_ref02_high_r10 : VCode := (.keep [0, 1, 2] (.block 1 (.seq (.region false vc_ref02_high_o8) vc_ref02_high_r9)))
def vc_ref02_high_r11 : VCode := (.keep [0, 1, 2, 10] (.cond (.t 10) .skip (.exit 0)))
def vc_ref02_high_o9 : List VO := ⟨(some 9), none, (.mv (.t 2))⟩ :: ⟨(some 10), none, (.bin .gtr (.t 9) (.c (.val (.int .i64 0))))⟩ :: []
def vc_ref02_high_l12 : VCode := (.seq (.seq (.region false vc_ref02_high_o9) vc_ref02_high_r11) vc_ref02_high_r10)
def vc_ref02_high_r13 : VCode := (.keep [0, 1, 2] (.seq (.block 0 (.loop (.keep [0, 1, 2] vc_ref02_high_l12))) vc_ref02_high_r1))
def vc_ref02_high_o10 : List VO := ⟨(some 6), none, (.mv (.c (.val (.slice none 0 0))))⟩ :: []
def vc_ref02_high : VCode := (.seq (.region false vc_ref02_high_o10) vc_ref02_high_r13)
def rs_ref02_high : List RV := [(.t 6)]
theorem comp_ref02_high : ccode Try.prog (Try.f74.body.getD .skip) = some (strip vc_ref02_high) := by kernel_rfl
theorem code_ref02_high : IsCode Try.prog id_ref02_high 28 vc_ref02_high rs_ref02_high := ⟨_, _, Try.func74, by kernel_rfl, rfl, comp_ref02_high, by kernel_rfl, by kernel_rfl, rfl⟩

end Go.Proofs.Ytdjgfjnnafddnaa
