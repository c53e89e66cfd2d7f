/- The code of functions, for the abstract machine, and that it is theirs. Printed by vcode.py. -/
import Derived.Test.YtdjgfjnnafddnaaChecked
import Derived.Test.YtdjgfjnnafddnaaVmQ
set_option linter.unusedVariables false
set_option maxRecDepth 100000
namespace Go.Proofs.Ytdjgfjnnafddnaa
open Go Go.Vm

/- internal/stringslite.HasPrefix -/
def vc107_o1_2 : List VO := ⟨(some 15), (some (10, true)), (.mv (.t 1))⟩ :: ⟨(some 16), (some (10, true)), (.bin .eql (.t 14) (.t 15))⟩ :: ⟨none, none, .kp [10, 16]⟩ :: ⟨(some 17), none, (.pick (.t 10) (.t 16) (.c (.val (.bool false))))⟩ :: ⟨none, none, .kp [17]⟩ :: ⟨(some 4), none, (.mv (.t 17))⟩ :: []
def vc107_o1_1 : List VO := ⟨(some 10), none, (.mv (.t 9))⟩ :: ⟨(some 11), (some (10, true)), (.mv (.t 0))⟩ :: ⟨none, none, .kp [1, 10, 11]⟩ :: ⟨(some 12), (some (10, true)), (.mv (.t 1))⟩ :: ⟨(some 13), (some (10, true)), (.lenS (.t 12))⟩ :: ⟨(some 14), (some (10, true)), (.cutS (.t 11) none (some (.t 13)))⟩ :: ⟨none, none, .kp [1, 10, 14]⟩ :: vc107_o1_2
def vc107_o1 : List VO := ⟨(some 5), none, (.mv (.t 0))⟩ :: ⟨(some 6), none, (.lenS (.t 5))⟩ :: ⟨(some 7), none, (.mv (.t 1))⟩ :: ⟨(some 8), none, (.lenS (.t 7))⟩ :: ⟨none, none, .kp [0, 1, 6, 8]⟩ :: ⟨(some 9), none, (.bin .geq (.t 6) (.t 8))⟩ :: ⟨none, none, .kp [0, 1, 9]⟩ :: vc107_o1_1
def vc107_r1 : VCode := (.keep [0, 1] (.seq (.region false vc107_o1) (.keep [4] .ret)))
def vc107_o2 : List VO := ⟨(some 4), none, (.mv (.c (.val (.bool false))))⟩ :: []
def vc107 : VCode := (.seq (.region false vc107_o2) vc107_r1)
theorem comp107 : ccode Try.prog (Try.f107.body.getD .skip) = some (strip vc107) := by kernel_rfl

/- internal/stringslite.CutPrefix -/
def vc103_o1_1 : List VO := ⟨(some 5), none, (.mv (.c (.val (.bool true))))⟩ :: []
def vc103_o1 : List VO := ⟨(some 11), none, (.mv (.t 0))⟩ :: ⟨(some 12), none, (.mv (.t 1))⟩ :: ⟨none, none, .kp [11, 12]⟩ :: ⟨(some 13), none, (.lenS (.t 12))⟩ :: ⟨(some 14), none, (.cutS (.t 11) (some (.t 13)) none)⟩ :: ⟨none, none, .kp [14]⟩ :: ⟨(some 4), none, (.mv (.t 14))⟩ :: vc103_o1_1
def vc103_r1 : VCode := (.keep [0, 1] (.seq (.region false vc103_o1) (.keep [4, 5] .ret)))
def vc103_o2 : List VO := ⟨(some 10), none, (.mv (.t 0))⟩ :: ⟨(some 4), none, (.mv (.t 10))⟩ :: ⟨none, none, .kp [4]⟩ :: ⟨(some 5), none, (.mv (.c (.val (.bool false))))⟩ :: []
def vc103_r2 : VCode := (.keep [0, 1, 9] (.cond (.t 9) (.seq (.region false vc103_o2) (.keep [4, 5] .ret)) .skip))
def vc103_o3 : List VO := ⟨(some 6), none, (.mv (.t 0))⟩ :: ⟨(some 7), none, (.mv (.t 1))⟩ :: ⟨(some 8), none, (.call 107 [] [(.t 6), (.t 7)])⟩ :: ⟨none, none, .kp [0, 1, 8]⟩ :: ⟨(some 9), none, (.un .not (.t 8))⟩ :: []
def vc103_r3 : VCode := (.keep [0, 1] (.seq (.seq (.region false vc103_o3) vc103_r2) vc103_r1))
def vc103_o4 : List VO := ⟨(some 4), none, (.mv (.c (.val (.string ⟨#[]⟩))))⟩ :: ⟨(some 5), none, (.mv (.c (.val (.bool false))))⟩ :: []
def vc103 : VCode := (.seq (.region false vc103_o4) vc103_r3)
theorem comp103 : ccode Try.prog (Try.f103.body.getD .skip) = some (strip vc103) := by kernel_rfl

/- strings.CutPrefix -/
def vc87_o1_1 : List VO := ⟨(some 4), none, (.mv (.t 9))⟩ :: ⟨none, none, .kp [4, 10]⟩ :: ⟨(some 5), none, (.mv (.t 10))⟩ :: []
def vc87_o1 : List VO := ⟨(some 6), none, (.mv (.t 0))⟩ :: ⟨(some 7), none, (.mv (.t 1))⟩ :: ⟨none, none, .kp [6, 7]⟩ :: ⟨(some 8), none, (.call 103 [] [(.t 6), (.t 7)])⟩ :: ⟨none, none, .kp [8]⟩ :: ⟨(some 9), none, (.extract (.t 8) 0)⟩ :: ⟨(some 10), none, (.extract (.t 8) 1)⟩ :: vc87_o1_1
def vc87_r1 : VCode := (.keep [0, 1] (.seq (.region false vc87_o1) (.keep [4, 5] .ret)))
def vc87_o2 : List VO := ⟨(some 4), none, (.mv (.c (.val (.string ⟨#[]⟩))))⟩ :: ⟨(some 5), none, (.mv (.c (.val (.bool false))))⟩ :: []
def vc87 : VCode := (.seq (.region false vc87_o2) vc87_r1)
theorem comp87 : ccode Try.prog (Try.f87.body.getD .skip) = some (strip vc87) := by kernel_rfl

/- internal/bytealg.LastIndexByteString -/
def vc104_o1 : List VO := ⟨(some 4), none, (.mv (.c (.val (.int .i64 (-1)))))⟩ :: []
def vc104_r1 : VCode := (.keep [] (.seq (.region false vc104_o1) (.keep [4] .ret)))
def vc104_o2 : List VO := ⟨(some 11), none, (.mv (.t 5))⟩ :: ⟨(some 12), none, (.bin .sub (.t 11) (.c (.val (.int .i64 1))))⟩ :: ⟨none, none, .kp [0, 1, 12]⟩ :: ⟨(some 5), none, (.mv (.t 12))⟩ :: []
def vc104_r2 : VCode := (.keep [0, 1, 5] (.region false vc104_o2))
def vc104_o3 : List VO := ⟨(some 18), none, (.mv (.t 5))⟩ :: ⟨(some 4), none, (.mv (.t 18))⟩ :: []
def vc104_r3 : VCode := (.keep [0, 1, 5, 17] (.cond (.t 17) (.seq (.region false vc104_o3) (.keep [4] .ret)) .skip))
def vc104_o4 : List VO := ⟨(some 13), none, (.mv (.t 0))⟩ :: ⟨(some 14), none, (.mv (.t 5))⟩ :: ⟨(some 15), none, (.chr (.t 13) (.t 14))⟩ :: ⟨none, none, .kp [0, 1, 5, 15]⟩ :: ⟨(some 16), none, (.mv (.t 1))⟩ :: ⟨(some 17), none, (.bin .eql (.t 15) (.t 16))⟩ :: []
def vc104_r4 : VCode := (.keep [0, 1, 5] (.seq (.block 1 (.seq (.region false vc104_o4) vc104_r3)) vc104_r2))
def vc104_r5 : VCode := (.keep [0, 1, 5, 10] (.cond (.t 10) .skip (.exit 0)))
def vc104_o5 : List VO := ⟨(some 9), none, (.mv (.t 5))⟩ :: ⟨(some 10), none, (.bin .geq (.t 9) (.c (.val (.int .i64 0))))⟩ :: []
def vc104_l6 : VCode := (.seq (.seq (.region false vc104_o5) vc104_r5) vc104_r4)
def vc104_r7 : VCode := (.keep [0, 1, 5] (.block 0 (.loop (.keep [0, 1, 5] vc104_l6))))
def vc104_o6 : List VO := ⟨(some 6), none, (.mv (.t 0))⟩ :: ⟨(some 7), none, (.lenS (.t 6))⟩ :: ⟨(some 8), none, (.bin .sub (.t 7) (.c (.val (.int .i64 1))))⟩ :: ⟨none, none, .kp [0, 1, 8]⟩ :: ⟨(some 5), none, (.mv (.t 8))⟩ :: []
def vc104_r8 : VCode := (.keep [0, 1] (.seq (.seq (.region false vc104_o6) vc104_r7) vc104_r1))
def vc104_o7 : List VO := ⟨(some 4), none, (.mv (.c (.val (.int .i64 0))))⟩ :: []
def vc104 : VCode := (.seq (.region false vc104_o7) vc104_r8)
theorem comp104 : ccode Try.prog (Try.f104.body.getD .skip) = some (strip vc104) := by kernel_rfl

/- strings.LastIndexByte -/
def vc88_o1 : List VO := ⟨(some 5), none, (.mv (.t 0))⟩ :: ⟨(some 6), none, (.mv (.t 1))⟩ :: ⟨none, none, .kp [5, 6]⟩ :: ⟨(some 7), none, (.call 104 [] [(.t 5), (.t 6)])⟩ :: ⟨none, none, .kp [7]⟩ :: ⟨(some 4), none, (.mv (.t 7))⟩ :: []
def vc88_r1 : VCode := (.keep [0, 1] (.seq (.region false vc88_o1) (.keep [4] .ret)))
def vc88_o2 : List VO := ⟨(some 4), none, (.mv (.c (.val (.int .i64 0))))⟩ :: []
def vc88 : VCode := (.seq (.region false vc88_o2) vc88_r1)
theorem comp88 : ccode Try.prog (Try.f88.body.getD .skip) = some (strip vc88) := by kernel_rfl

/- usher/names.number -/
def vc89_o1 : List VO := ⟨(some 39), none, (.mv (.t 3))⟩ :: ⟨(some 2), none, (.mv (.t 39))⟩ :: []
def vc89_r1 : VCode := (.keep [3] (.seq (.region false vc89_o1) (.keep [2] .ret)))
def vc89_o2 : List VO := ⟨(some 38), none, (.bin .add (.t 8) (.c (.val (.int .i64 1))))⟩ :: ⟨(some 8), none, (.mv (.t 38))⟩ :: []
def vc89_r2 : VCode := (.keep [0, 3, 7, 8] (.region false vc89_o2))
def vc89_o3_1 : List VO := ⟨(some 37), none, (.bin .add (.t 33) (.t 36))⟩ :: ⟨none, none, .kp [0, 7, 8, 37]⟩ :: ⟨(some 3), none, (.mv (.t 37))⟩ :: []
def vc89_o3 : List VO := ⟨(some 32), none, (.mv (.t 3))⟩ :: ⟨(some 33), none, (.bin .mul (.c (.val (.int .i64 10))) (.t 32))⟩ :: ⟨none, none, .kp [0, 5, 7, 8, 33]⟩ :: ⟨(some 34), none, (.mv (.t 5))⟩ :: ⟨(some 35), none, (.bin .sub (.t 34) (.c (.val (.int .u8 48))))⟩ :: ⟨none, none, .kp [0, 7, 8, 33, 35]⟩ :: ⟨(some 36), none, (.cvInt .i64 (.t 35))⟩ :: vc89_o3_1
def vc89_r3 : VCode := (.keep [0, 3, 5, 7, 8] (.region false vc89_o3))
def vc89_o4 : List VO := ⟨(some 2), none, (.mv (.c (.val (.int .i64 0))))⟩ :: []
def vc89_r4 : VCode := (.keep [0, 3, 5, 7, 8, 31] (.cond (.t 31) (.seq (.region false vc89_o4) (.keep [2] .ret)) .skip))
def vc89_o5_3 : List VO := ⟨(some 29), (some (28, false)), (.mv (.t 4))⟩ :: ⟨none, none, .kp [0, 3, 5, 7, 8, 28, 29]⟩ :: ⟨(some 30), (some (28, false)), (.bin .gtr (.t 29) (.c (.val (.int .i64 8))))⟩ :: ⟨(some 31), none, (.pick (.t 28) (.c (.val (.bool true))) (.t 30))⟩ :: []
def vc89_o5_2 : List VO := ⟨(some 24), (some (23, true)), (.mv (.t 5))⟩ :: ⟨(some 25), (some (23, true)), (.bin .eql (.t 24) (.c (.val (.int .u8 48))))⟩ :: ⟨none, none, .kp [0, 3, 4, 5, 7, 8, 20, 23, 25]⟩ :: ⟨(some 26), (some (20, false)), (.pick (.t 23) (.t 25) (.c (.val (.bool false))))⟩ :: ⟨none, none, .kp [0, 3, 4, 5, 7, 8, 20, 26]⟩ :: ⟨(some 27), none, (.pick (.t 20) (.c (.val (.bool true))) (.t 26))⟩ :: ⟨none, none, .kp [0, 3, 4, 5, 7, 8, 27]⟩ :: ⟨(some 28), none, (.mv (.t 27))⟩ :: vc89_o5_3
def vc89_o5_1 : List VO := ⟨(some 19), none, (.pick (.t 16) (.c (.val (.bool true))) (.t 18))⟩ :: ⟨none, none, .kp [0, 3, 4, 5, 7, 8, 19]⟩ :: ⟨(some 20), none, (.mv (.t 19))⟩ :: ⟨(some 21), (some (20, false)), (.mv (.t 4))⟩ :: ⟨(some 22), (some (20, false)), (.bin .eql (.t 21) (.c (.val (.int .i64 0))))⟩ :: ⟨none, none, .kp [0, 3, 4, 5, 7, 8, 20, 22]⟩ :: ⟨(some 23), (some (20, false)), (.mv (.t 22))⟩ :: vc89_o5_2
def vc89_o5 : List VO := ⟨(some 14), none, (.mv (.t 5))⟩ :: ⟨(some 15), none, (.bin .lss (.t 14) (.c (.val (.int .u8 48))))⟩ :: ⟨(some 16), none, (.mv (.t 15))⟩ :: ⟨none, none, .kp [0, 3, 4, 5, 7, 8, 16]⟩ :: ⟨(some 17), (some (16, false)), (.mv (.t 5))⟩ :: ⟨(some 18), (some (16, false)), (.bin .gtr (.t 17) (.c (.val (.int .u8 57))))⟩ :: vc89_o5_1
def vc89_r5 : VCode := (.keep [0, 3, 4, 5, 7, 8] (.seq (.seq (.region false vc89_o5) vc89_r4) vc89_r3))
def vc89_o6 : List VO := ⟨(some 11), none, (.mv (.t 0))⟩ :: ⟨(some 12), none, (.mv (.t 4))⟩ :: ⟨(some 13), none, (.chr (.t 11) (.t 12))⟩ :: ⟨none, none, .kp [0, 3, 4, 7, 8, 13]⟩ :: ⟨(some 5), none, (.mv (.t 13))⟩ :: []
def vc89_r6 : VCode := (.keep [0, 3, 4, 7, 8] (.seq (.region false vc89_o6) vc89_r5))
def vc89_o7 : List VO := ⟨(some 10), none, (.mv (.t 8))⟩ :: ⟨(some 4), none, (.mv (.t 10))⟩ :: []
def vc89_r7 : VCode := (.keep [0, 3, 7, 8] (.seq (.block 1 (.seq (.region false vc89_o7) vc89_r6)) vc89_r2))
def vc89_r8 : VCode := (.keep [0, 3, 7, 8, 9] (.seq (.cond (.t 9) .skip (.exit 0)) vc89_r7))
def vc89_o8 : List VO := ⟨(some 9), none, (.bin .lss (.t 8) (.t 7))⟩ :: []
def vc89_l9 : VCode := (.seq (.region false vc89_o8) vc89_r8)
def vc89_r10 : VCode := (.keep [0, 3, 7, 8] (.block 0 (.loop (.keep [0, 3, 7, 8] vc89_l9))))
def vc89_o9 : List VO := ⟨(some 6), none, (.mv (.t 0))⟩ :: ⟨(some 7), none, (.lenS (.t 6))⟩ :: ⟨(some 8), none, (.mv (.c (.val (.int .i64 0))))⟩ :: []
def vc89_r11 : VCode := (.keep [0, 3] (.seq (.seq (.region false vc89_o9) vc89_r10) vc89_r1))
def vc89_o10 : List VO := ⟨(some 3), none, (.mv (.c (.val (.int .i64 0))))⟩ :: []
def vc89_r12 : VCode := (.keep [0] (.seq (.region false vc89_o10) vc89_r11))
def vc89_o11 : List VO := ⟨(some 2), none, (.mv (.c (.val (.int .i64 0))))⟩ :: []
def vc89 : VCode := (.seq (.region false vc89_o11) vc89_r12)
theorem comp89 : ccode Try.prog (Try.f89.body.getD .skip) = some (strip vc89) := by kernel_rfl

/- usher/names.ParseRow -/
def vc44_o1 : List VO := ⟨(some 18), none, (.mv (.t 4))⟩ :: ⟨(some 2), none, (.mv (.t 18))⟩ :: ⟨none, none, .kp [2]⟩ :: ⟨(some 3), none, (.mv (.c (.val (.bool true))))⟩ :: []
def vc44_r1 : VCode := (.keep [4] (.seq (.region false vc44_o1) (.keep [2, 3] .ret)))
def vc44_o2 : List VO := ⟨(some 2), none, (.mv (.c (.val (.string ⟨#[]⟩))))⟩ :: ⟨(some 3), none, (.mv (.c (.val (.bool false))))⟩ :: []
def vc44_r2 : VCode := (.keep [4, 17] (.cond (.t 17) (.seq (.region false vc44_o2) (.keep [2, 3] .ret)) .skip))
def vc44_o3_1 : List VO := ⟨(some 16), (some (13, false)), (.un .not (.t 15))⟩ :: ⟨(some 17), none, (.pick (.t 13) (.c (.val (.bool true))) (.t 16))⟩ :: []
def vc44_o3 : List VO := ⟨(some 11), none, (.mv (.t 5))⟩ :: ⟨(some 12), none, (.un .not (.t 11))⟩ :: ⟨none, none, .kp [4, 12]⟩ :: ⟨(some 13), none, (.mv (.t 12))⟩ :: ⟨(some 14), (some (13, false)), (.mv (.t 4))⟩ :: ⟨(some 15), (some (13, false)), (.call 15 [] [(.t 14)])⟩ :: ⟨none, none, .kp [4, 13, 15]⟩ :: vc44_o3_1
def vc44_r3 : VCode := (.keep [4, 5] (.seq (.seq (.region false vc44_o3) vc44_r2) vc44_r1))
def vc44_o4_1 : List VO := ⟨(some 4), none, (.mv (.t 9))⟩ :: ⟨(some 5), none, (.mv (.t 10))⟩ :: []
def vc44_o4 : List VO := ⟨(some 7), none, (.mv (.t 0))⟩ :: ⟨(some 8), none, (.call 87 [] [(.t 7), (.c (.val (.string ⟨#[119, 47]⟩)))])⟩ :: ⟨none, none, .kp [8]⟩ :: ⟨(some 6), none, (.mv (.t 8))⟩ :: ⟨(some 9), none, (.extract (.t 6) 0)⟩ :: ⟨(some 10), none, (.extract (.t 6) 1)⟩ :: ⟨none, none, .kp [9, 10]⟩ :: vc44_o4_1
def vc44_r4 : VCode := (.keep [0] (.seq (.region false vc44_o4) vc44_r3))
def vc44_o5 : List VO := ⟨(some 2), none, (.mv (.c (.val (.string ⟨#[]⟩))))⟩ :: ⟨(some 3), none, (.mv (.c (.val (.bool false))))⟩ :: []
def vc44 : VCode := (.seq (.region false vc44_o5) vc44_r4)
theorem comp44 : ccode Try.prog (Try.f44.body.getD .skip) = some (strip vc44) := by kernel_rfl

/- usher/usherref04.ParseRow -/
def vc45_o1 : List VO := ⟨(some 18), none, (.mv (.t 0))⟩ :: ⟨(some 19), none, (.cutS (.t 18) (some (.c (.val (.int .i64 2)))) none)⟩ :: ⟨none, none, .kp [19]⟩ :: ⟨(some 2), none, (.mv (.t 19))⟩ :: ⟨(some 3), none, (.mv (.c (.val (.bool true))))⟩ :: []
def vc45_r1 : VCode := (.keep [0] (.seq (.region false vc45_o1) (.keep [2, 3] .ret)))
def vc45_o2 : List VO := ⟨(some 2), none, (.mv (.c (.val (.string ⟨#[]⟩))))⟩ :: ⟨(some 3), none, (.mv (.c (.val (.bool false))))⟩ :: []
def vc45_r2 : VCode := (.keep [0, 17] (.cond (.t 17) (.seq (.region false vc45_o2) (.keep [2, 3] .ret)) .skip))
def vc45_o3_2 : List VO := ⟨(some 14), (some (12, false)), (.cutS (.t 13) (some (.c (.val (.int .i64 2)))) none)⟩ :: ⟨none, none, .kp [0, 12, 14]⟩ :: ⟨(some 15), (some (12, false)), (.call 16 [] [(.t 14)])⟩ :: ⟨(some 16), (some (12, false)), (.un .not (.t 15))⟩ :: ⟨none, none, .kp [0, 12, 16]⟩ :: ⟨(some 17), none, (.pick (.t 12) (.c (.val (.bool true))) (.t 16))⟩ :: []
def vc45_o3_1 : List VO := ⟨(some 9), (some (7, false)), (.cutS (.t 8) none (some (.c (.val (.int .i64 2)))))⟩ :: ⟨none, none, .kp [0, 7, 9]⟩ :: ⟨(some 10), (some (7, false)), (.bin .neq (.t 9) (.c (.val (.string ⟨#[119, 47]⟩))))⟩ :: ⟨(some 11), none, (.pick (.t 7) (.c (.val (.bool true))) (.t 10))⟩ :: ⟨none, none, .kp [0, 11]⟩ :: ⟨(some 12), none, (.mv (.t 11))⟩ :: ⟨(some 13), (some (12, false)), (.mv (.t 0))⟩ :: vc45_o3_2
def vc45_o3 : List VO := ⟨(some 4), none, (.mv (.t 0))⟩ :: ⟨(some 5), none, (.lenS (.t 4))⟩ :: ⟨(some 6), none, (.bin .lss (.t 5) (.c (.val (.int .i64 2))))⟩ :: ⟨none, none, .kp [0, 6]⟩ :: ⟨(some 7), none, (.mv (.t 6))⟩ :: ⟨(some 8), (some (7, false)), (.mv (.t 0))⟩ :: vc45_o3_1
def vc45_r3 : VCode := (.keep [0] (.seq (.seq (.region false vc45_o3) vc45_r2) vc45_r1))
def vc45_o4 : List VO := ⟨(some 2), none, (.mv (.c (.val (.string ⟨#[]⟩))))⟩ :: ⟨(some 3), none, (.mv (.c (.val (.bool false))))⟩ :: []
def vc45 : VCode := (.seq (.region false vc45_o4) vc45_r3)
theorem comp45 : ccode Try.prog (Try.f45.body.getD .skip) = some (strip vc45) := by kernel_rfl

/- usher/names.ParseBranch -/
def vc46_o1_1 : List VO := ⟨(some 3), none, (.mv (.t 44))⟩ :: ⟨(some 4), none, (.mv (.c (.val (.bool true))))⟩ :: []
def vc46_o1 : List VO := ⟨(some 41), none, (.mv (.t 5))⟩ :: ⟨(some 42), none, (.mv (.t 7))⟩ :: ⟨none, none, .kp [8, 41, 42]⟩ :: ⟨(some 43), none, (.cutS (.t 41) none (some (.t 42)))⟩ :: ⟨none, none, .kp [8, 43]⟩ :: ⟨(some 44), none, (.mv (.t 8))⟩ :: ⟨(some 2), none, (.mv (.t 43))⟩ :: ⟨none, none, .kp [2, 44]⟩ :: vc46_o1_1
def vc46_r1 : VCode := (.keep [5, 7, 8] (.seq (.region false vc46_o1) (.keep [2, 3, 4] .ret)))
def vc46_o2 : List VO := ⟨(some 2), none, (.mv (.c (.val (.string ⟨#[]⟩))))⟩ :: ⟨(some 3), none, (.mv (.c (.val (.int .i64 0))))⟩ :: ⟨(some 4), none, (.mv (.c (.val (.bool false))))⟩ :: []
def vc46_r2 : VCode := (.keep [5, 7, 8, 40] (.cond (.t 40) (.seq (.region false vc46_o2) (.keep [2, 3, 4] .ret)) .skip))
def vc46_o3_1 : List VO := ⟨(some 40), none, (.pick (.t 37) (.c (.val (.bool true))) (.t 39))⟩ :: []
def vc46_o3 : List VO := ⟨(some 35), none, (.mv (.t 8))⟩ :: ⟨(some 36), none, (.bin .lss (.t 35) (.c (.val (.int .i64 1))))⟩ :: ⟨(some 37), none, (.mv (.t 36))⟩ :: ⟨none, none, .kp [5, 7, 8, 37]⟩ :: ⟨(some 38), (some (37, false)), (.mv (.t 8))⟩ :: ⟨(some 39), (some (37, false)), (.bin .gtr (.t 38) (.c (.val (.int .i64 10))))⟩ :: vc46_o3_1
def vc46_r3 : VCode := (.keep [5, 7, 8] (.seq (.seq (.region false vc46_o3) vc46_r2) vc46_r1))
def vc46_o4_1 : List VO := ⟨(some 8), none, (.mv (.t 34))⟩ :: []
def vc46_o4 : List VO := ⟨(some 30), none, (.mv (.t 5))⟩ :: ⟨(some 31), none, (.mv (.t 7))⟩ :: ⟨(some 32), none, (.bin .add (.t 31) (.c (.val (.int .i64 1))))⟩ :: ⟨(some 33), none, (.cutS (.t 30) (some (.t 32)) none)⟩ :: ⟨none, none, .kp [5, 7, 33]⟩ :: ⟨(some 34), none, (.call 89 [] [(.t 33)])⟩ :: vc46_o4_1
def vc46_r4 : VCode := (.keep [5, 7] (.seq (.region false vc46_o4) vc46_r3))
def vc46_o5 : List VO := ⟨(some 2), none, (.mv (.c (.val (.string ⟨#[]⟩))))⟩ :: ⟨(some 3), none, (.mv (.c (.val (.int .i64 0))))⟩ :: ⟨(some 4), none, (.mv (.c (.val (.bool false))))⟩ :: []
def vc46_r5 : VCode := (.keep [5, 7, 29] (.cond (.t 29) (.seq (.region false vc46_o5) (.keep [2, 3, 4] .ret)) .skip))
def vc46_o6_2 : List VO := ⟨(some 27), (some (23, false)), (.call 15 [] [(.t 26)])⟩ :: ⟨(some 28), (some (23, false)), (.un .not (.t 27))⟩ :: ⟨none, none, .kp [5, 7, 23, 28]⟩ :: ⟨(some 29), none, (.pick (.t 23) (.c (.val (.bool true))) (.t 28))⟩ :: []
def vc46_o6_1 : List VO := ⟨(some 22), none, (.pick (.t 19) (.c (.val (.bool true))) (.t 21))⟩ :: ⟨none, none, .kp [5, 7, 22]⟩ :: ⟨(some 23), none, (.mv (.t 22))⟩ :: ⟨(some 24), (some (23, false)), (.mv (.t 5))⟩ :: ⟨(some 25), (some (23, false)), (.mv (.t 7))⟩ :: ⟨(some 26), (some (23, false)), (.cutS (.t 24) none (some (.t 25)))⟩ :: ⟨none, none, .kp [5, 7, 23, 26]⟩ :: vc46_o6_2
def vc46_o6 : List VO := ⟨(some 17), none, (.mv (.t 6))⟩ :: ⟨(some 18), none, (.un .not (.t 17))⟩ :: ⟨none, none, .kp [5, 7, 18]⟩ :: ⟨(some 19), none, (.mv (.t 18))⟩ :: ⟨(some 20), (some (19, false)), (.mv (.t 7))⟩ :: ⟨(some 21), (some (19, false)), (.bin .lss (.t 20) (.c (.val (.int .i64 0))))⟩ :: ⟨none, none, .kp [5, 7, 19, 21]⟩ :: vc46_o6_1
def vc46_r6 : VCode := (.keep [5, 6, 7] (.seq (.seq (.region false vc46_o6) vc46_r5) vc46_r4))
def vc46_o7 : List VO := ⟨(some 14), none, (.mv (.t 5))⟩ :: ⟨(some 15), none, (.chr (.c (.val (.string ⟨#[47]⟩))) (.c (.val (.int .i64 0))))⟩ :: ⟨(some 16), none, (.call 88 [] [(.t 14), (.t 15)])⟩ :: ⟨none, none, .kp [5, 6, 16]⟩ :: ⟨(some 7), none, (.mv (.t 16))⟩ :: []
def vc46_r7 : VCode := (.keep [5, 6] (.seq (.region false vc46_o7) vc46_r6))
def vc46_o8_1 : List VO := ⟨(some 5), none, (.mv (.t 12))⟩ :: ⟨(some 6), none, (.mv (.t 13))⟩ :: []
def vc46_o8 : List VO := ⟨(some 10), none, (.mv (.t 0))⟩ :: ⟨(some 11), none, (.call 87 [] [(.t 10), (.c (.val (.string ⟨#[104, 47]⟩)))])⟩ :: ⟨none, none, .kp [11]⟩ :: ⟨(some 9), none, (.mv (.t 11))⟩ :: ⟨(some 12), none, (.extract (.t 9) 0)⟩ :: ⟨(some 13), none, (.extract (.t 9) 1)⟩ :: ⟨none, none, .kp [12, 13]⟩ :: vc46_o8_1
def vc46_r8 : VCode := (.keep [0] (.seq (.region false vc46_o8) vc46_r7))
def vc46_o9 : List VO := ⟨(some 2), none, (.mv (.c (.val (.string ⟨#[]⟩))))⟩ :: ⟨(some 3), none, (.mv (.c (.val (.int .i64 0))))⟩ :: ⟨none, none, .kp [0]⟩ :: ⟨(some 4), none, (.mv (.c (.val (.bool false))))⟩ :: []
def vc46 : VCode := (.seq (.region false vc46_o9) vc46_r8)
theorem comp46 : ccode Try.prog (Try.f46.body.getD .skip) = some (strip vc46) := by kernel_rfl

/- usher/usherref04.ParseBranch -/
def vc47_o1 : List VO := ⟨(some 2), none, (.mv (.c (.val (.string ⟨#[]⟩))))⟩ :: ⟨(some 3), none, (.mv (.c (.val (.int .i64 0))))⟩ :: ⟨(some 4), none, (.mv (.c (.val (.bool false))))⟩ :: []
def vc47_r1 : VCode := (.keep [] (.seq (.region false vc47_o1) (.keep [2, 3, 4] .ret)))
def vc47_o2 : List VO := ⟨(some 10), none, (.mv (.t 5))⟩ :: ⟨(some 11), none, (.bin .add (.t 10) (.c (.val (.int .i64 1))))⟩ :: ⟨none, none, .kp [0, 11]⟩ :: ⟨(some 5), none, (.mv (.t 11))⟩ :: []
def vc47_o3_1 : List VO := ⟨(some 3), none, (.mv (.t 43))⟩ :: ⟨(some 4), none, (.mv (.c (.val (.bool true))))⟩ :: []
def vc47_o3 : List VO := ⟨(some 40), none, (.mv (.t 0))⟩ :: ⟨(some 41), none, (.mv (.t 7))⟩ :: ⟨none, none, .kp [5, 40, 41]⟩ :: ⟨(some 42), none, (.cutS (.t 40) (some (.c (.val (.int .i64 2)))) (some (.t 41)))⟩ :: ⟨none, none, .kp [5, 42]⟩ :: ⟨(some 43), none, (.mv (.t 5))⟩ :: ⟨(some 2), none, (.mv (.t 42))⟩ :: ⟨none, none, .kp [2, 43]⟩ :: vc47_o3_1
def vc47_r2 : VCode := (.keep [0, 5, 7, 39] (.cond (.t 39) (.seq (.region false vc47_o3) (.keep [2, 3, 4] .ret)) .skip))
def vc47_o4_3 : List VO := ⟨(some 35), (some (34, true)), (.mv (.t 0))⟩ :: ⟨(some 36), (some (34, true)), (.mv (.t 7))⟩ :: ⟨(some 37), (some (34, true)), (.cutS (.t 35) (some (.c (.val (.int .i64 2)))) (some (.t 36)))⟩ :: ⟨none, none, .kp [0, 5, 7, 34, 37]⟩ :: ⟨(some 38), (some (34, true)), (.call 16 [] [(.t 37)])⟩ :: ⟨(some 39), none, (.pick (.t 34) (.t 38) (.c (.val (.bool false))))⟩ :: []
def vc47_o4_2 : List VO := ⟨(some 30), (some (29, true)), (.mv (.t 0))⟩ :: ⟨(some 31), (some (29, true)), (.cutS (.t 30) none (some (.c (.val (.int .i64 2)))))⟩ :: ⟨none, none, .kp [0, 5, 7, 29, 31]⟩ :: ⟨(some 32), (some (29, true)), (.bin .eql (.t 31) (.c (.val (.string ⟨#[104, 47]⟩))))⟩ :: ⟨(some 33), none, (.pick (.t 29) (.t 32) (.c (.val (.bool false))))⟩ :: ⟨none, none, .kp [0, 5, 7, 33]⟩ :: ⟨(some 34), none, (.mv (.t 33))⟩ :: vc47_o4_3
def vc47_o4_1 : List VO := ⟨(some 25), (some (22, true)), (.cutS (.t 23) (some (.t 24)) none)⟩ :: ⟨none, none, .kp [0, 5, 6, 7, 22, 25]⟩ :: ⟨(some 26), (some (22, true)), (.mv (.t 6))⟩ :: ⟨(some 27), (some (22, true)), (.bin .eql (.t 25) (.t 26))⟩ :: ⟨none, none, .kp [0, 5, 7, 22, 27]⟩ :: ⟨(some 28), none, (.pick (.t 22) (.t 27) (.c (.val (.bool false))))⟩ :: ⟨none, none, .kp [0, 5, 7, 28]⟩ :: ⟨(some 29), none, (.mv (.t 28))⟩ :: vc47_o4_2
def vc47_o4 : List VO := ⟨(some 20), none, (.mv (.t 7))⟩ :: ⟨(some 21), none, (.bin .geq (.t 20) (.c (.val (.int .i64 2))))⟩ :: ⟨(some 22), none, (.mv (.t 21))⟩ :: ⟨none, none, .kp [0, 5, 6, 7, 22]⟩ :: ⟨(some 23), (some (22, true)), (.mv (.t 0))⟩ :: ⟨(some 24), (some (22, true)), (.mv (.t 7))⟩ :: vc47_o4_1
def vc47_r3 : VCode := (.keep [0, 5, 6, 7] (.seq (.region false vc47_o4) vc47_r2))
def vc47_o5_1 : List VO := ⟨(some 7), none, (.mv (.t 19))⟩ :: []
def vc47_o5 : List VO := ⟨(some 15), none, (.mv (.t 0))⟩ :: ⟨(some 16), none, (.lenS (.t 15))⟩ :: ⟨(some 17), none, (.mv (.t 6))⟩ :: ⟨(some 18), none, (.lenS (.t 17))⟩ :: ⟨none, none, .kp [0, 5, 6, 16, 18]⟩ :: ⟨(some 19), none, (.bin .sub (.t 16) (.t 18))⟩ :: ⟨none, none, .kp [0, 5, 6, 19]⟩ :: vc47_o5_1
def vc47_r4 : VCode := (.keep [0, 5, 6] (.seq (.region false vc47_o5) vc47_r3))
def vc47_o6 : List VO := ⟨(some 12), none, (.mv (.t 5))⟩ :: ⟨(some 13), none, (.call 68 [] [(.t 12)])⟩ :: ⟨(some 14), none, (.bin .add (.c (.val (.string ⟨#[47]⟩))) (.t 13))⟩ :: ⟨none, none, .kp [0, 5, 14]⟩ :: ⟨(some 6), none, (.mv (.t 14))⟩ :: []
def vc47_r5 : VCode := (.keep [0, 5] (.seq (.block 1 (.seq (.region false vc47_o6) vc47_r4)) (.keep [0, 5] (.region false vc47_o2))))
def vc47_r6 : VCode := (.keep [0, 5, 9] (.cond (.t 9) .skip (.exit 0)))
def vc47_o7 : List VO := ⟨(some 8), none, (.mv (.t 5))⟩ :: ⟨(some 9), none, (.bin .leq (.t 8) (.c (.val (.int .i64 10))))⟩ :: []
def vc47_l7 : VCode := (.seq (.seq (.region false vc47_o7) vc47_r6) vc47_r5)
def vc47_r8 : VCode := (.keep [0, 5] (.block 0 (.loop (.keep [0, 5] vc47_l7))))
def vc47_o8 : List VO := ⟨(some 5), none, (.mv (.c (.val (.int .i64 1))))⟩ :: []
def vc47_r9 : VCode := (.keep [0] (.seq (.seq (.region false vc47_o8) vc47_r8) vc47_r1))
def vc47_o9 : List VO := ⟨(some 2), none, (.mv (.c (.val (.string ⟨#[]⟩))))⟩ :: ⟨(some 3), none, (.mv (.c (.val (.int .i64 0))))⟩ :: ⟨none, none, .kp [0]⟩ :: ⟨(some 4), none, (.mv (.c (.val (.bool false))))⟩ :: []
def vc47 : VCode := (.seq (.region false vc47_o9) vc47_r9)
theorem comp47 : ccode Try.prog (Try.f47.body.getD .skip) = some (strip vc47) := by kernel_rfl

/- usher/usherlaw04.NamesReads -/
def vc8_o1_5 : List VO := ⟨(some 60), none, (.pick (.t 58) (.t 59) (.c (.val (.bool false))))⟩ :: ⟨none, none, .kp [60]⟩ :: ⟨(some 2), none, (.mv (.t 60))⟩ :: []
def vc8_o1_4 : List VO := ⟨(some 55), (some (53, true)), (.mv (.t 12))⟩ :: ⟨(some 56), (some (53, true)), (.beq false (.t 54) (.t 55))⟩ :: ⟨none, none, .kp [53, 56]⟩ :: ⟨(some 57), none, (.pick (.t 53) (.t 56) (.c (.val (.bool false))))⟩ :: ⟨none, none, .kp [57]⟩ :: ⟨(some 58), none, (.mv (.t 57))⟩ :: ⟨(some 59), (some (58, true)), (.call 19 [] [])⟩ :: vc8_o1_5
def vc8_o1_3 : List VO := ⟨(some 50), (some (48, true)), (.mv (.t 11))⟩ :: ⟨(some 51), (some (48, true)), (.bin .eql (.t 49) (.t 50))⟩ :: ⟨none, none, .kp [9, 12, 48, 51]⟩ :: ⟨(some 52), none, (.pick (.t 48) (.t 51) (.c (.val (.bool false))))⟩ :: ⟨none, none, .kp [9, 12, 52]⟩ :: ⟨(some 53), none, (.mv (.t 52))⟩ :: ⟨(some 54), (some (53, true)), (.mv (.t 9))⟩ :: ⟨none, none, .kp [12, 53, 54]⟩ :: vc8_o1_4
def vc8_o1_2 : List VO := ⟨(some 45), (some (43, true)), (.mv (.t 10))⟩ :: ⟨(some 46), (some (43, true)), (.bin .eql (.t 44) (.t 45))⟩ :: ⟨none, none, .kp [8, 9, 11, 12, 43, 46]⟩ :: ⟨(some 47), none, (.pick (.t 43) (.t 46) (.c (.val (.bool false))))⟩ :: ⟨none, none, .kp [8, 9, 11, 12, 47]⟩ :: ⟨(some 48), none, (.mv (.t 47))⟩ :: ⟨(some 49), (some (48, true)), (.mv (.t 8))⟩ :: ⟨none, none, .kp [9, 11, 12, 48, 49]⟩ :: vc8_o1_3
def vc8_o1_1 : List VO := ⟨(some 40), (some (38, true)), (.mv (.t 6))⟩ :: ⟨(some 41), (some (38, true)), (.beq false (.t 39) (.t 40))⟩ :: ⟨none, none, .kp [7, 8, 9, 10, 11, 12, 38, 41]⟩ :: ⟨(some 42), none, (.pick (.t 38) (.t 41) (.c (.val (.bool false))))⟩ :: ⟨none, none, .kp [7, 8, 9, 10, 11, 12, 42]⟩ :: ⟨(some 43), none, (.mv (.t 42))⟩ :: ⟨(some 44), (some (43, true)), (.mv (.t 7))⟩ :: ⟨none, none, .kp [8, 9, 10, 11, 12, 43, 44]⟩ :: vc8_o1_2
def vc8_o1 : List VO := ⟨(some 35), none, (.mv (.t 3))⟩ :: ⟨(some 36), none, (.mv (.t 5))⟩ :: ⟨none, none, .kp [4, 6, 7, 8, 9, 10, 11, 12, 35, 36]⟩ :: ⟨(some 37), none, (.bin .eql (.t 35) (.t 36))⟩ :: ⟨none, none, .kp [4, 6, 7, 8, 9, 10, 11, 12, 37]⟩ :: ⟨(some 38), none, (.mv (.t 37))⟩ :: ⟨(some 39), (some (38, true)), (.mv (.t 4))⟩ :: ⟨none, none, .kp [6, 7, 8, 9, 10, 11, 12, 38, 39]⟩ :: vc8_o1_1
def vc8_r1 : VCode := (.keep [3, 4, 5, 6, 7, 8, 9, 10, 11, 12] (.seq (.region false vc8_o1) (.keep [2] .ret)))
def vc8_o2_1 : List VO := ⟨(some 34), none, (.extract (.t 29) 2)⟩ :: ⟨none, none, .kp [3, 4, 5, 6, 7, 8, 9, 32, 33, 34]⟩ :: ⟨(some 10), none, (.mv (.t 32))⟩ :: ⟨(some 11), none, (.mv (.t 33))⟩ :: ⟨none, none, .kp [3, 4, 5, 6, 7, 8, 9, 10, 11, 34]⟩ :: ⟨(some 12), none, (.mv (.t 34))⟩ :: []
def vc8_o2 : List VO := ⟨(some 30), none, (.mv (.t 0))⟩ :: ⟨(some 31), none, (.call 47 [] [(.t 30)])⟩ :: ⟨none, none, .kp [3, 4, 5, 6, 7, 8, 9, 31]⟩ :: ⟨(some 29), none, (.mv (.t 31))⟩ :: ⟨(some 32), none, (.extract (.t 29) 0)⟩ :: ⟨(some 33), none, (.extract (.t 29) 1)⟩ :: vc8_o2_1
def vc8_r2 : VCode := (.keep [0, 3, 4, 5, 6, 7, 8, 9] (.seq (.region false vc8_o2) vc8_r1))
def vc8_o3_1 : List VO := ⟨(some 28), none, (.extract (.t 23) 2)⟩ :: ⟨(some 7), none, (.mv (.t 26))⟩ :: ⟨none, none, .kp [0, 3, 4, 5, 6, 7, 27, 28]⟩ :: ⟨(some 8), none, (.mv (.t 27))⟩ :: ⟨(some 9), none, (.mv (.t 28))⟩ :: []
def vc8_o3 : List VO := ⟨(some 24), none, (.mv (.t 0))⟩ :: ⟨(some 25), none, (.call 46 [] [(.t 24)])⟩ :: ⟨(some 23), none, (.mv (.t 25))⟩ :: ⟨none, none, .kp [0, 3, 4, 5, 6, 23]⟩ :: ⟨(some 26), none, (.extract (.t 23) 0)⟩ :: ⟨(some 27), none, (.extract (.t 23) 1)⟩ :: vc8_o3_1
def vc8_r3 : VCode := (.keep [0, 3, 4, 5, 6] (.seq (.region false vc8_o3) vc8_r2))
def vc8_o4_1 : List VO := ⟨(some 5), none, (.mv (.t 21))⟩ :: ⟨none, none, .kp [0, 3, 4, 5, 22]⟩ :: ⟨(some 6), none, (.mv (.t 22))⟩ :: []
def vc8_o4 : List VO := ⟨(some 19), none, (.mv (.t 0))⟩ :: ⟨(some 20), none, (.call 45 [] [(.t 19)])⟩ :: ⟨(some 18), none, (.mv (.t 20))⟩ :: ⟨none, none, .kp [0, 3, 4, 18]⟩ :: ⟨(some 21), none, (.extract (.t 18) 0)⟩ :: ⟨(some 22), none, (.extract (.t 18) 1)⟩ :: vc8_o4_1
def vc8_r4 : VCode := (.keep [0, 3, 4] (.seq (.region false vc8_o4) vc8_r3))
def vc8_o5_1 : List VO := ⟨(some 3), none, (.mv (.t 16))⟩ :: ⟨none, none, .kp [0, 3, 17]⟩ :: ⟨(some 4), none, (.mv (.t 17))⟩ :: []
def vc8_o5 : List VO := ⟨(some 14), none, (.mv (.t 0))⟩ :: ⟨(some 15), none, (.call 44 [] [(.t 14)])⟩ :: ⟨(some 13), none, (.mv (.t 15))⟩ :: ⟨none, none, .kp [0, 13]⟩ :: ⟨(some 16), none, (.extract (.t 13) 0)⟩ :: ⟨(some 17), none, (.extract (.t 13) 1)⟩ :: vc8_o5_1
def vc8_r5 : VCode := (.keep [0] (.seq (.region false vc8_o5) vc8_r4))
def vc8_o6 : List VO := ⟨(some 2), none, (.mv (.c (.val (.bool false))))⟩ :: []
def vc8 : VCode := (.seq (.region false vc8_o6) vc8_r5)
theorem comp8 : ccode Try.prog (Try.f8.body.getD .skip) = some (strip vc8) := by kernel_rfl

end Go.Proofs.Ytdjgfjnnafddnaa
