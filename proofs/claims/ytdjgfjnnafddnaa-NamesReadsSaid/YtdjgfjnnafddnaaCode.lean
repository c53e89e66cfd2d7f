/- The code of functions, for the abstract machine, and that it is theirs. Printed by vcode.py. -/
import Derived.Test.YtdjgfjnnafddnaaChecked
import Derived.Test.YtdjgfjnnafddnaaVmQ
set_option linter.unusedVariables false
set_option maxRecDepth 100000
namespace Go.Proofs.Ytdjgfjnnafddnaa
open Go Go.Vm

/- usher/names.inner -/
def vc65_o1_5 : List VO := ⟨(some 31), none, (.pick (.t 28) (.c (.val (.bool true))) (.t 30))⟩ :: ⟨none, none, .kp [31]⟩ :: ⟨(some 2), none, (.mv (.t 31))⟩ :: []
def vc65_o1_4 : List VO := ⟨(some 26), (some (24, false)), (.bin .eql (.t 25) (.c (.val (.int .u8 45))))⟩ :: ⟨none, none, .kp [0, 24, 26]⟩ :: ⟨(some 27), none, (.pick (.t 24) (.c (.val (.bool true))) (.t 26))⟩ :: ⟨none, none, .kp [0, 27]⟩ :: ⟨(some 28), none, (.mv (.t 27))⟩ :: ⟨(some 29), (some (28, false)), (.mv (.t 0))⟩ :: ⟨none, none, .kp [28, 29]⟩ :: ⟨(some 30), (some (28, false)), (.bin .eql (.t 29) (.c (.val (.int .u8 46))))⟩ :: vc65_o1_5
def vc65_o1_3 : List VO := ⟨(some 21), (some (20, false)), (.mv (.t 0))⟩ :: ⟨(some 22), (some (20, false)), (.bin .eql (.t 21) (.c (.val (.int .u8 95))))⟩ :: ⟨none, none, .kp [0, 20, 22]⟩ :: ⟨(some 23), none, (.pick (.t 20) (.c (.val (.bool true))) (.t 22))⟩ :: ⟨none, none, .kp [0, 23]⟩ :: ⟨(some 24), none, (.mv (.t 23))⟩ :: ⟨(some 25), (some (24, false)), (.mv (.t 0))⟩ :: vc65_o1_4
def vc65_o1_2 : List VO := ⟨(some 16), (some (15, true)), (.mv (.t 3))⟩ :: ⟨none, none, .kp [0, 12, 15, 16]⟩ :: ⟨(some 17), (some (15, true)), (.bin .leq (.t 16) (.c (.val (.int .u8 122))))⟩ :: ⟨(some 18), (some (12, false)), (.pick (.t 15) (.t 17) (.c (.val (.bool false))))⟩ :: ⟨none, none, .kp [0, 12, 18]⟩ :: ⟨(some 19), none, (.pick (.t 12) (.c (.val (.bool true))) (.t 18))⟩ :: ⟨none, none, .kp [0, 19]⟩ :: ⟨(some 20), none, (.mv (.t 19))⟩ :: vc65_o1_3
def vc65_o1_1 : List VO := ⟨(some 11), none, (.pick (.t 8) (.t 10) (.c (.val (.bool false))))⟩ :: ⟨none, none, .kp [0, 3, 11]⟩ :: ⟨(some 12), none, (.mv (.t 11))⟩ :: ⟨(some 13), (some (12, false)), (.mv (.t 3))⟩ :: ⟨(some 14), (some (12, false)), (.bin .geq (.t 13) (.c (.val (.int .u8 97))))⟩ :: ⟨none, none, .kp [0, 3, 12, 14]⟩ :: ⟨(some 15), (some (12, false)), (.mv (.t 14))⟩ :: vc65_o1_2
def vc65_o1 : List VO := ⟨(some 6), none, (.mv (.t 0))⟩ :: ⟨(some 7), none, (.bin .geq (.t 6) (.c (.val (.int .u8 48))))⟩ :: ⟨(some 8), none, (.mv (.t 7))⟩ :: ⟨none, none, .kp [0, 3, 8]⟩ :: ⟨(some 9), (some (8, true)), (.mv (.t 0))⟩ :: ⟨(some 10), (some (8, true)), (.bin .leq (.t 9) (.c (.val (.int .u8 57))))⟩ :: vc65_o1_1
def vc65_r1 : VCode := (.keep [0, 3] (.seq (.region false vc65_o1) (.keep [2] .ret)))
def vc65_o2 : List VO := ⟨(some 4), none, (.mv (.t 0))⟩ :: ⟨(some 5), none, (.bin .or (.t 4) (.c (.val (.int .u8 32))))⟩ :: ⟨(some 3), none, (.mv (.t 5))⟩ :: []
def vc65_r2 : VCode := (.keep [0] (.seq (.region false vc65_o2) vc65_r1))
def vc65_o3 : List VO := ⟨(some 2), none, (.mv (.c (.val (.bool false))))⟩ :: []
def vc65 : VCode := (.seq (.region false vc65_o3) vc65_r2)
theorem comp65 : ccode Try.prog (Try.f65.body.getD .skip) = some (strip vc65) := by kernel_rfl

/- usher/usherref04.letter -/
def vc66_o1_6 : List VO := ⟨(some 33), none, (.mv (.t 32))⟩ :: ⟨(some 34), (some (33, false)), (.mv (.t 0))⟩ :: ⟨none, none, .kp [33, 34]⟩ :: ⟨(some 35), (some (33, false)), (.bin .eql (.t 34) (.c (.val (.int .u8 46))))⟩ :: ⟨(some 36), none, (.pick (.t 33) (.c (.val (.bool true))) (.t 35))⟩ :: ⟨none, none, .kp [36]⟩ :: ⟨(some 2), none, (.mv (.t 36))⟩ :: []
def vc66_o1_5 : List VO := ⟨(some 28), none, (.pick (.t 25) (.c (.val (.bool true))) (.t 27))⟩ :: ⟨none, none, .kp [0, 28]⟩ :: ⟨(some 29), none, (.mv (.t 28))⟩ :: ⟨(some 30), (some (29, false)), (.mv (.t 0))⟩ :: ⟨(some 31), (some (29, false)), (.bin .eql (.t 30) (.c (.val (.int .u8 95))))⟩ :: ⟨none, none, .kp [0, 29, 31]⟩ :: ⟨(some 32), none, (.pick (.t 29) (.c (.val (.bool true))) (.t 31))⟩ :: ⟨none, none, .kp [0, 32]⟩ :: vc66_o1_6
def vc66_o1_4 : List VO := ⟨(some 23), (some (17, false)), (.pick (.t 20) (.t 22) (.c (.val (.bool false))))⟩ :: ⟨none, none, .kp [0, 17, 23]⟩ :: ⟨(some 24), none, (.pick (.t 17) (.c (.val (.bool true))) (.t 23))⟩ :: ⟨none, none, .kp [0, 24]⟩ :: ⟨(some 25), none, (.mv (.t 24))⟩ :: ⟨(some 26), (some (25, false)), (.mv (.t 0))⟩ :: ⟨(some 27), (some (25, false)), (.bin .eql (.t 26) (.c (.val (.int .u8 45))))⟩ :: ⟨none, none, .kp [0, 25, 27]⟩ :: vc66_o1_5
def vc66_o1_3 : List VO := ⟨(some 18), (some (17, false)), (.mv (.t 0))⟩ :: ⟨(some 19), (some (17, false)), (.bin .geq (.t 18) (.c (.val (.int .u8 48))))⟩ :: ⟨none, none, .kp [0, 17, 19]⟩ :: ⟨(some 20), (some (17, false)), (.mv (.t 19))⟩ :: ⟨(some 21), (some (20, true)), (.mv (.t 0))⟩ :: ⟨(some 22), (some (20, true)), (.bin .leq (.t 21) (.c (.val (.int .u8 57))))⟩ :: ⟨none, none, .kp [0, 17, 20, 22]⟩ :: vc66_o1_4
def vc66_o1_2 : List VO := ⟨(some 13), (some (12, true)), (.mv (.t 0))⟩ :: ⟨(some 14), (some (12, true)), (.bin .leq (.t 13) (.c (.val (.int .u8 90))))⟩ :: ⟨none, none, .kp [0, 9, 12, 14]⟩ :: ⟨(some 15), (some (9, false)), (.pick (.t 12) (.t 14) (.c (.val (.bool false))))⟩ :: ⟨none, none, .kp [0, 9, 15]⟩ :: ⟨(some 16), none, (.pick (.t 9) (.c (.val (.bool true))) (.t 15))⟩ :: ⟨none, none, .kp [0, 16]⟩ :: ⟨(some 17), none, (.mv (.t 16))⟩ :: vc66_o1_3
def vc66_o1_1 : List VO := ⟨(some 8), none, (.pick (.t 5) (.t 7) (.c (.val (.bool false))))⟩ :: ⟨none, none, .kp [0, 8]⟩ :: ⟨(some 9), none, (.mv (.t 8))⟩ :: ⟨(some 10), (some (9, false)), (.mv (.t 0))⟩ :: ⟨(some 11), (some (9, false)), (.bin .geq (.t 10) (.c (.val (.int .u8 65))))⟩ :: ⟨none, none, .kp [0, 9, 11]⟩ :: ⟨(some 12), (some (9, false)), (.mv (.t 11))⟩ :: vc66_o1_2
def vc66_o1 : List VO := ⟨(some 3), none, (.mv (.t 0))⟩ :: ⟨(some 4), none, (.bin .geq (.t 3) (.c (.val (.int .u8 97))))⟩ :: ⟨(some 5), none, (.mv (.t 4))⟩ :: ⟨none, none, .kp [0, 5]⟩ :: ⟨(some 6), (some (5, true)), (.mv (.t 0))⟩ :: ⟨(some 7), (some (5, true)), (.bin .leq (.t 6) (.c (.val (.int .u8 122))))⟩ :: vc66_o1_1
def vc66_r1 : VCode := (.keep [0] (.seq (.region false vc66_o1) (.keep [2] .ret)))
def vc66_o2 : List VO := ⟨(some 2), none, (.mv (.c (.val (.bool false))))⟩ :: []
def vc66 : VCode := (.seq (.region false vc66_o2) vc66_r1)
theorem comp66 : ccode Try.prog (Try.f66.body.getD .skip) = some (strip vc66) := by kernel_rfl

/- usher/names.Name -/
def vc15_o1 : List VO := ⟨(some 26), none, (.mv (.t 3))⟩ :: ⟨(some 2), none, (.mv (.t 26))⟩ :: []
def vc15_r1 : VCode := (.keep [3] (.seq (.region false vc15_o1) (.keep [2] .ret)))
def vc15_o2 : List VO := ⟨(some 25), none, (.bin .add (.t 17) (.c (.val (.int .i64 1))))⟩ :: ⟨(some 17), none, (.mv (.t 25))⟩ :: []
def vc15_r2 : VCode := (.keep [0, 3, 16, 17] (.region false vc15_o2))
def vc15_o3 : List VO := ⟨(some 3), none, (.mv (.c (.val (.bool false))))⟩ :: []
def vc15_r3 : VCode := (.keep [0, 3, 16, 17, 24] (.cond (.t 24) (.seq (.region false vc15_o3) (.exit 0)) .skip))
def vc15_o4 : List VO := ⟨(some 20), none, (.mv (.t 0))⟩ :: ⟨(some 21), none, (.mv (.t 4))⟩ :: ⟨(some 22), none, (.chr (.t 20) (.t 21))⟩ :: ⟨none, none, .kp [0, 3, 16, 17, 22]⟩ :: ⟨(some 23), none, (.call 65 [] [(.t 22)])⟩ :: ⟨(some 24), none, (.un .not (.t 23))⟩ :: []
def vc15_r4 : VCode := (.keep [0, 3, 4, 16, 17] (.seq (.region false vc15_o4) vc15_r3))
def vc15_o5 : List VO := ⟨(some 19), none, (.mv (.t 17))⟩ :: ⟨(some 4), none, (.mv (.t 19))⟩ :: []
def vc15_r5 : VCode := (.keep [0, 3, 16, 17] (.seq (.block 1 (.seq (.region false vc15_o5) vc15_r4)) vc15_r2))
def vc15_r6 : VCode := (.keep [0, 3, 16, 17, 18] (.seq (.cond (.t 18) .skip (.exit 0)) vc15_r5))
def vc15_o6 : List VO := ⟨(some 18), none, (.bin .lss (.t 17) (.t 16))⟩ :: []
def vc15_l7 : VCode := (.seq (.region false vc15_o6) vc15_r6)
def vc15_r8 : VCode := (.keep [0, 3, 16, 17] (.block 0 (.loop (.keep [0, 3, 16, 17] vc15_l7))))
def vc15_o7 : List VO := ⟨(some 15), none, (.mv (.t 0))⟩ :: ⟨(some 16), none, (.lenS (.t 15))⟩ :: ⟨(some 17), none, (.mv (.c (.val (.int .i64 0))))⟩ :: []
def vc15_r9 : VCode := (.keep [0, 3] (.seq (.seq (.region false vc15_o7) vc15_r8) vc15_r1))
def vc15_o8 : List VO := ⟨(some 12), none, (.mv (.t 0))⟩ :: ⟨(some 13), none, (.chr (.t 12) (.c (.val (.int .i64 0))))⟩ :: ⟨(some 14), none, (.call 64 [] [(.t 13)])⟩ :: ⟨none, none, .kp [0, 14]⟩ :: ⟨(some 3), none, (.mv (.t 14))⟩ :: []
def vc15_r10 : VCode := (.keep [0] (.seq (.region false vc15_o8) (.keep [0, 3] (.seq .skip vc15_r9))))
def vc15_o9 : List VO := ⟨(some 2), none, (.mv (.c (.val (.bool false))))⟩ :: []
def vc15_r11 : VCode := (.keep [0, 11] (.cond (.t 11) (.seq (.region false vc15_o9) (.keep [2] .ret)) .skip))
def vc15_o10_1 : List VO := ⟨(some 10), (some (7, false)), (.bin .gtr (.t 9) (.c (.val (.int .i64 24))))⟩ :: ⟨none, none, .kp [0, 7, 10]⟩ :: ⟨(some 11), none, (.pick (.t 7) (.c (.val (.bool true))) (.t 10))⟩ :: []
def vc15_o10 : List VO := ⟨(some 5), none, (.mv (.t 0))⟩ :: ⟨(some 6), none, (.bin .eql (.t 5) (.c (.val (.string ⟨#[]⟩))))⟩ :: ⟨(some 7), none, (.mv (.t 6))⟩ :: ⟨none, none, .kp [0, 7]⟩ :: ⟨(some 8), (some (7, false)), (.mv (.t 0))⟩ :: ⟨(some 9), (some (7, false)), (.lenS (.t 8))⟩ :: vc15_o10_1
def vc15_r12 : VCode := (.keep [0] (.scope (.seq (.seq (.region false vc15_o10) vc15_r11) vc15_r10)))
def vc15_o11 : List VO := ⟨(some 2), none, (.mv (.c (.val (.bool false))))⟩ :: []
def vc15 : VCode := (.seq (.region false vc15_o11) vc15_r12)
theorem comp15 : ccode Try.prog (Try.f15.body.getD .skip) = some (strip vc15) := by kernel_rfl

/- usher/usherref04.Name -/
def vc16_o1 : List VO := ⟨(some 2), none, (.mv (.c (.val (.bool true))))⟩ :: []
def vc16_r1 : VCode := (.keep [] (.seq (.region false vc16_o1) (.keep [2] .ret)))
def vc16_o2 : List VO := ⟨(some 26), none, (.mv (.t 3))⟩ :: ⟨(some 27), none, (.bin .add (.t 26) (.c (.val (.int .i64 1))))⟩ :: ⟨none, none, .kp [0, 27]⟩ :: ⟨(some 3), none, (.mv (.t 27))⟩ :: []
def vc16_o3 : List VO := ⟨(some 2), none, (.mv (.c (.val (.bool false))))⟩ :: []
def vc16_r2 : VCode := (.keep [0, 3, 32] (.cond (.t 32) (.seq (.region false vc16_o3) (.keep [2] .ret)) .skip))
def vc16_o4 : List VO := ⟨(some 28), none, (.mv (.t 0))⟩ :: ⟨(some 29), none, (.mv (.t 3))⟩ :: ⟨(some 30), none, (.chr (.t 28) (.t 29))⟩ :: ⟨none, none, .kp [0, 3, 30]⟩ :: ⟨(some 31), none, (.call 66 [] [(.t 30)])⟩ :: ⟨(some 32), none, (.un .not (.t 31))⟩ :: []
def vc16_r3 : VCode := (.keep [0, 3] (.seq (.block 1 (.seq (.region false vc16_o4) vc16_r2)) (.keep [0, 3] (.region false vc16_o2))))
def vc16_r4 : VCode := (.keep [0, 3, 25] (.cond (.t 25) .skip (.exit 0)))
def vc16_o5 : List VO := ⟨(some 22), none, (.mv (.t 3))⟩ :: ⟨(some 23), none, (.mv (.t 0))⟩ :: ⟨(some 24), none, (.lenS (.t 23))⟩ :: ⟨(some 25), none, (.bin .lss (.t 22) (.t 24))⟩ :: []
def vc16_l5 : VCode := (.seq (.seq (.region false vc16_o5) vc16_r4) vc16_r3)
def vc16_r6 : VCode := (.keep [0, 3] (.block 0 (.loop (.keep [0, 3] vc16_l5))))
def vc16_o6 : List VO := ⟨(some 3), none, (.mv (.c (.val (.int .i64 0))))⟩ :: []
def vc16_r7 : VCode := (.keep [0] (.seq (.seq (.region false vc16_o6) vc16_r6) vc16_r1))
def vc16_o7 : List VO := ⟨(some 2), none, (.mv (.c (.val (.bool false))))⟩ :: []
def vc16_r8 : VCode := (.keep [0, 21] (.cond (.t 21) (.seq (.region false vc16_o7) (.keep [2] .ret)) .skip))
def vc16_o8_3 : List VO := ⟨(some 19), (some (17, false)), (.chr (.t 18) (.c (.val (.int .i64 0))))⟩ :: ⟨none, none, .kp [0, 17, 19]⟩ :: ⟨(some 20), (some (17, false)), (.bin .eql (.t 19) (.c (.val (.int .u8 45))))⟩ :: ⟨(some 21), none, (.pick (.t 17) (.c (.val (.bool true))) (.t 20))⟩ :: []
def vc16_o8_2 : List VO := ⟨(some 14), (some (12, false)), (.chr (.t 13) (.c (.val (.int .i64 0))))⟩ :: ⟨none, none, .kp [0, 12, 14]⟩ :: ⟨(some 15), (some (12, false)), (.bin .eql (.t 14) (.c (.val (.int .u8 46))))⟩ :: ⟨(some 16), none, (.pick (.t 12) (.c (.val (.bool true))) (.t 15))⟩ :: ⟨none, none, .kp [0, 16]⟩ :: ⟨(some 17), none, (.mv (.t 16))⟩ :: ⟨(some 18), (some (17, false)), (.mv (.t 0))⟩ :: vc16_o8_3
def vc16_o8_1 : List VO := ⟨(some 9), (some (7, false)), (.lenS (.t 8))⟩ :: ⟨none, none, .kp [0, 7, 9]⟩ :: ⟨(some 10), (some (7, false)), (.bin .gtr (.t 9) (.c (.val (.int .i64 24))))⟩ :: ⟨(some 11), none, (.pick (.t 7) (.c (.val (.bool true))) (.t 10))⟩ :: ⟨none, none, .kp [0, 11]⟩ :: ⟨(some 12), none, (.mv (.t 11))⟩ :: ⟨(some 13), (some (12, false)), (.mv (.t 0))⟩ :: vc16_o8_2
def vc16_o8 : List VO := ⟨(some 4), none, (.mv (.t 0))⟩ :: ⟨(some 5), none, (.lenS (.t 4))⟩ :: ⟨(some 6), none, (.bin .lss (.t 5) (.c (.val (.int .i64 1))))⟩ :: ⟨none, none, .kp [0, 6]⟩ :: ⟨(some 7), none, (.mv (.t 6))⟩ :: ⟨(some 8), (some (7, false)), (.mv (.t 0))⟩ :: vc16_o8_1
def vc16_r9 : VCode := (.keep [0] (.seq (.seq (.region false vc16_o8) vc16_r8) vc16_r7))
def vc16_o9 : List VO := ⟨(some 2), none, (.mv (.c (.val (.bool false))))⟩ :: []
def vc16 : VCode := (.seq (.region false vc16_o9) vc16_r9)
theorem comp16 : ccode Try.prog (Try.f16.body.getD .skip) = some (strip vc16) := by kernel_rfl

/- usher/names.Text -/
def vc17_o1 : List VO := ⟨(some 3), none, (.mv (.t 0))⟩ :: ⟨(some 4), none, (.lenS (.t 3))⟩ :: ⟨none, none, .kp [4]⟩ :: ⟨(some 5), none, (.bin .leq (.t 4) (.c (.val (.int .i64 200))))⟩ :: ⟨(some 2), none, (.mv (.t 5))⟩ :: []
def vc17_r1 : VCode := (.keep [0] (.seq (.region false vc17_o1) (.keep [2] .ret)))
def vc17_o2 : List VO := ⟨(some 2), none, (.mv (.c (.val (.bool false))))⟩ :: []
def vc17 : VCode := (.seq (.region false vc17_o2) vc17_r1)
theorem comp17 : ccode Try.prog (Try.f17.body.getD .skip) = some (strip vc17) := by kernel_rfl

/- usher/usherref04.Text -/
def vc18_o1 : List VO := ⟨(some 3), none, (.mv (.t 0))⟩ :: ⟨(some 4), none, (.lenS (.t 3))⟩ :: ⟨none, none, .kp [4]⟩ :: ⟨(some 5), none, (.bin .leq (.t 4) (.c (.val (.int .i64 200))))⟩ :: ⟨(some 2), none, (.mv (.t 5))⟩ :: []
def vc18_r1 : VCode := (.keep [0] (.seq (.region false vc18_o1) (.keep [2] .ret)))
def vc18_o2 : List VO := ⟨(some 2), none, (.mv (.c (.val (.bool false))))⟩ :: []
def vc18 : VCode := (.seq (.region false vc18_o2) vc18_r1)
theorem comp18 : ccode Try.prog (Try.f18.body.getD .skip) = some (strip vc18) := by kernel_rfl

/- usher/names.Row -/
def vc20_o1 : List VO := ⟨(some 3), none, (.mv (.t 0))⟩ :: ⟨(some 4), none, (.bin .add (.c (.val (.string ⟨#[119, 47]⟩))) (.t 3))⟩ :: ⟨none, none, .kp [4]⟩ :: ⟨(some 2), none, (.mv (.t 4))⟩ :: []
def vc20_r1 : VCode := (.keep [0] (.seq (.region false vc20_o1) (.keep [2] .ret)))
def vc20_o2 : List VO := ⟨(some 2), none, (.mv (.c (.val (.string ⟨#[]⟩))))⟩ :: []
def vc20 : VCode := (.seq (.region false vc20_o2) vc20_r1)
theorem comp20 : ccode Try.prog (Try.f20.body.getD .skip) = some (strip vc20) := by kernel_rfl

/- usher/usherref04.Row -/
def vc21_o1 : List VO := ⟨(some 3), none, (.mv (.t 0))⟩ :: ⟨(some 4), none, (.bin .add (.c (.val (.string ⟨#[119, 47]⟩))) (.t 3))⟩ :: ⟨none, none, .kp [4]⟩ :: ⟨(some 2), none, (.mv (.t 4))⟩ :: []
def vc21_r1 : VCode := (.keep [0] (.seq (.region false vc21_o1) (.keep [2] .ret)))
def vc21_o2 : List VO := ⟨(some 2), none, (.mv (.c (.val (.string ⟨#[]⟩))))⟩ :: []
def vc21 : VCode := (.seq (.region false vc21_o2) vc21_r1)
theorem comp21 : ccode Try.prog (Try.f21.body.getD .skip) = some (strip vc21) := by kernel_rfl

/- usher/names.digits -/
def vc67_o1 : List VO := ⟨(some 17), none, (.mv (.t 4))⟩ :: ⟨(some 18), none, (.cutA 20 1 (.t 3) (some (.t 17)) none)⟩ :: ⟨none, none, .kp [18]⟩ :: ⟨(some 19), none, (.toStr (.t 18))⟩ :: ⟨(some 2), none, (.mv (.t 19))⟩ :: []
def vc67_r1 : VCode := (.keep [0, 3, 4, 16] (.cond (.t 16) (.seq (.region false vc67_o1) (.keep [2] .ret)) .skip))
def vc67_o2 : List VO := ⟨(some 15), none, (.mv (.t 0))⟩ :: ⟨(some 16), none, (.bin .eql (.t 15) (.c (.val (.int .i64 0))))⟩ :: []
def vc67_r2 : VCode := (.keep [0, 3, 4] (.seq (.region false vc67_o2) vc67_r1))
def vc67_o3 : List VO := ⟨(some 13), none, (.mv (.t 0))⟩ :: ⟨(some 14), none, (.bin .quo (.t 13) (.c (.val (.int .i64 10))))⟩ :: ⟨none, none, .kp [3, 4, 14]⟩ :: ⟨(some 0), none, (.mv (.t 14))⟩ :: []
def vc67_r3 : VCode := (.keep [0, 3, 4] (.seq (.region false vc67_o3) vc67_r2))
def vc67_o4_1 : List VO := ⟨(some 12), none, (.idxA 20 1 (.t 3) (.t 7))⟩ :: ⟨none, none, .kp [0, 3, 4, 11, 12]⟩ :: ⟨none, none, (.store 1 (.t 12) (.t 11))⟩ :: []
def vc67_o4 : List VO := ⟨(some 7), none, (.mv (.t 4))⟩ :: ⟨(some 8), none, (.mv (.t 0))⟩ :: ⟨(some 9), none, (.bin .rem (.t 8) (.c (.val (.int .i64 10))))⟩ :: ⟨(some 10), none, (.bin .add (.c (.val (.int .i64 48))) (.t 9))⟩ :: ⟨none, none, .kp [0, 3, 4, 7, 10]⟩ :: ⟨(some 11), none, (.cvInt .u8 (.t 10))⟩ :: vc67_o4_1
def vc67_r4 : VCode := (.keep [0, 3, 4] (.seq (.region false vc67_o4) vc67_r3))
def vc67_o5 : List VO := ⟨(some 5), none, (.mv (.t 4))⟩ :: ⟨(some 6), none, (.bin .sub (.t 5) (.c (.val (.int .i64 1))))⟩ :: ⟨none, none, .kp [0, 3, 6]⟩ :: ⟨(some 4), none, (.mv (.t 6))⟩ :: []
def vc67_l5 : VCode := (.block 1 (.seq (.region false vc67_o5) vc67_r4))
def vc67_r6 : VCode := (.keep [0, 3, 4] (.block 0 (.loop (.keep [0, 3, 4] vc67_l5))))
def vc67_o6 : List VO := ⟨(some 4), none, (.mv (.c (.val (.int .i64 20))))⟩ :: []
def vc67_r7 : VCode := (.keep [0, 3] (.seq (.region false vc67_o6) vc67_r6))
def vc67_o7 : List VO := ⟨(some 3), none, (.alloc 89 [(.val (.int .u8 0)), (.val (.int .u8 0)), (.val (.int .u8 0)), (.val (.int .u8 0)), (.val (.int .u8 0)), (.val (.int .u8 0)), (.val (.int .u8 0)), (.val (.int .u8 0)), (.val (.int .u8 0)), (.val (.int .u8 0)), (.val (.int .u8 0)), (.val (.int .u8 0)), (.val (.int .u8 0)), (.val (.int .u8 0)), (.val (.int .u8 0)), (.val (.int .u8 0)), (.val (.int .u8 0)), (.val (.int .u8 0)), (.val (.int .u8 0)), (.val (.int .u8 0))])⟩ :: []
def vc67_r8 : VCode := (.keep [0] (.seq (.region false vc67_o7) vc67_r7))
def vc67_o8 : List VO := ⟨(some 2), none, (.mv (.c (.val (.string ⟨#[]⟩))))⟩ :: []
def vc67 : VCode := (.seq (.region false vc67_o8) vc67_r8)
theorem comp67 : ccode Try.prog (Try.f67.body.getD .skip) = some (strip vc67) := by kernel_rfl

/- usher/usherref04.digits -/
def vc68_o1_1 : List VO := ⟨(some 2), none, (.mv (.t 17))⟩ :: []
def vc68_o1 : List VO := ⟨(some 13), none, (.mv (.t 0))⟩ :: ⟨(some 14), none, (.bin .quo (.t 13) (.c (.val (.int .i64 10))))⟩ :: ⟨none, none, .kp [3, 14]⟩ :: ⟨(some 15), none, (.call 68 [] [(.t 14)])⟩ :: ⟨(some 16), none, (.mv (.t 3))⟩ :: ⟨none, none, .kp [15, 16]⟩ :: ⟨(some 17), none, (.bin .add (.t 15) (.t 16))⟩ :: ⟨none, none, .kp [17]⟩ :: vc68_o1_1
def vc68_r1 : VCode := (.keep [0, 3] (.seq (.region false vc68_o1) (.keep [2] .ret)))
def vc68_o2 : List VO := ⟨(some 12), none, (.mv (.t 3))⟩ :: ⟨(some 2), none, (.mv (.t 12))⟩ :: []
def vc68_r2 : VCode := (.keep [0, 3, 11] (.cond (.t 11) (.seq (.region false vc68_o2) (.keep [2] .ret)) .skip))
def vc68_o3 : List VO := ⟨(some 10), none, (.mv (.t 0))⟩ :: ⟨(some 11), none, (.bin .lss (.t 10) (.c (.val (.int .i64 10))))⟩ :: []
def vc68_r3 : VCode := (.keep [0, 3] (.seq (.seq (.region false vc68_o3) vc68_r2) vc68_r1))
def vc68_o4_1 : List VO := ⟨(some 9), none, (.toStr (.t 8))⟩ :: ⟨(some 3), none, (.mv (.t 9))⟩ :: []
def vc68_o4 : List VO := ⟨(some 4), none, (.mv (.t 0))⟩ :: ⟨(some 5), none, (.bin .rem (.t 4) (.c (.val (.int .i64 10))))⟩ :: ⟨(some 6), none, (.bin .add (.c (.val (.int .i64 48))) (.t 5))⟩ :: ⟨none, none, .kp [0, 6]⟩ :: ⟨(some 7), none, (.cvInt .u8 (.t 6))⟩ :: ⟨(some 8), none, (.lit false 5 1 1 [(.val (.int .u8 0))] [(0, (1, (.t 7)))])⟩ :: ⟨none, none, .kp [0, 8]⟩ :: vc68_o4_1
def vc68_r4 : VCode := (.keep [0] (.seq (.region false vc68_o4) vc68_r3))
def vc68_o5 : List VO := ⟨(some 2), none, (.mv (.c (.val (.string ⟨#[]⟩))))⟩ :: []
def vc68 : VCode := (.seq (.region false vc68_o5) vc68_r4)
theorem comp68 : ccode Try.prog (Try.f68.body.getD .skip) = some (strip vc68) := by kernel_rfl

/- usher/usherlaw04.awake -/
def vc19_o1_1 : List VO := ⟨(some 6), none, (.pick (.t 3) (.t 5) (.c (.val (.bool false))))⟩ :: ⟨none, none, .kp [6]⟩ :: ⟨(some 7), none, (.mv (.t 6))⟩ :: ⟨(some 8), (some (7, true)), (.call 15 [] [(.c (.val (.string ⟨#[97]⟩)))])⟩ :: ⟨(some 9), none, (.pick (.t 7) (.t 8) (.c (.val (.bool false))))⟩ :: ⟨none, none, .kp [9]⟩ :: ⟨(some 0), none, (.mv (.t 9))⟩ :: []
def vc19_o1 : List VO := ⟨(some 1), none, (.call 22 [] [(.c (.val (.string ⟨#[97, 46, 98]⟩))), (.c (.val (.int .i64 10)))])⟩ :: ⟨(some 2), none, (.bin .eql (.t 1) (.c (.val (.string ⟨#[104, 47, 97, 46, 98, 47, 49, 48]⟩))))⟩ :: ⟨(some 3), none, (.mv (.t 2))⟩ :: ⟨none, none, .kp [3]⟩ :: ⟨(some 4), (some (3, true)), (.call 15 [] [(.c (.val (.string ⟨#[]⟩)))])⟩ :: ⟨(some 5), (some (3, true)), (.un .not (.t 4))⟩ :: vc19_o1_1
def vc19_r1 : VCode := (.keep [] (.seq (.region false vc19_o1) (.keep [0] .ret)))
def vc19_o2 : List VO := ⟨(some 0), none, (.mv (.c (.val (.bool false))))⟩ :: []
def vc19 : VCode := (.seq (.region false vc19_o2) vc19_r1)
theorem comp19 : ccode Try.prog (Try.f19.body.getD .skip) = some (strip vc19) := by kernel_rfl

/- usher/names.first -/
def vc64_o1_2 : List VO := ⟨(some 2), none, (.mv (.t 12))⟩ :: []
def vc64_o1_1 : List VO := ⟨(some 8), none, (.pick (.t 5) (.t 7) (.c (.val (.bool false))))⟩ :: ⟨none, none, .kp [0, 8]⟩ :: ⟨(some 9), none, (.mv (.t 8))⟩ :: ⟨(some 10), (some (9, true)), (.mv (.t 0))⟩ :: ⟨none, none, .kp [9, 10]⟩ :: ⟨(some 11), (some (9, true)), (.bin .neq (.t 10) (.c (.val (.int .u8 46))))⟩ :: ⟨(some 12), none, (.pick (.t 9) (.t 11) (.c (.val (.bool false))))⟩ :: ⟨none, none, .kp [12]⟩ :: vc64_o1_2
def vc64_o1 : List VO := ⟨(some 3), none, (.mv (.t 0))⟩ :: ⟨(some 4), none, (.call 65 [] [(.t 3)])⟩ :: ⟨(some 5), none, (.mv (.t 4))⟩ :: ⟨none, none, .kp [0, 5]⟩ :: ⟨(some 6), (some (5, true)), (.mv (.t 0))⟩ :: ⟨(some 7), (some (5, true)), (.bin .neq (.t 6) (.c (.val (.int .u8 45))))⟩ :: vc64_o1_1
def vc64_r1 : VCode := (.keep [0] (.seq (.region false vc64_o1) (.keep [2] .ret)))
def vc64_o2 : List VO := ⟨(some 2), none, (.mv (.c (.val (.bool false))))⟩ :: []
def vc64 : VCode := (.seq (.region false vc64_o2) vc64_r1)
theorem comp64 : ccode Try.prog (Try.f64.body.getD .skip) = some (strip vc64) := by kernel_rfl

/- usher/usherlaw04.NamesSays -/
def vc3_o1_3 : List VO := ⟨(some 2), none, (.mv (.t 17))⟩ :: []
def vc3_o1_2 : List VO := ⟨(some 13), (some (8, true)), (.beq false (.t 10) (.t 12))⟩ :: ⟨none, none, .kp [8, 13]⟩ :: ⟨(some 14), none, (.pick (.t 8) (.t 13) (.c (.val (.bool false))))⟩ :: ⟨none, none, .kp [14]⟩ :: ⟨(some 15), none, (.mv (.t 14))⟩ :: ⟨(some 16), (some (15, true)), (.call 19 [] [])⟩ :: ⟨(some 17), none, (.pick (.t 15) (.t 16) (.c (.val (.bool false))))⟩ :: ⟨none, none, .kp [17]⟩ :: vc3_o1_3
def vc3_o1_1 : List VO := ⟨(some 8), none, (.mv (.t 7))⟩ :: ⟨(some 9), (some (8, true)), (.mv (.t 0))⟩ :: ⟨(some 10), (some (8, true)), (.call 17 [] [(.t 9)])⟩ :: ⟨none, none, .kp [0, 8, 10]⟩ :: ⟨(some 11), (some (8, true)), (.mv (.t 0))⟩ :: ⟨(some 12), (some (8, true)), (.call 18 [] [(.t 11)])⟩ :: ⟨none, none, .kp [8, 10, 12]⟩ :: vc3_o1_2
def vc3_o1 : List VO := ⟨(some 3), none, (.mv (.t 0))⟩ :: ⟨(some 4), none, (.call 15 [] [(.t 3)])⟩ :: ⟨(some 5), none, (.mv (.t 0))⟩ :: ⟨(some 6), none, (.call 16 [] [(.t 5)])⟩ :: ⟨none, none, .kp [0, 4, 6]⟩ :: ⟨(some 7), none, (.beq false (.t 4) (.t 6))⟩ :: ⟨none, none, .kp [0, 7]⟩ :: vc3_o1_1
def vc3_r1 : VCode := (.keep [0] (.seq (.region false vc3_o1) (.keep [2] .ret)))
def vc3_o2 : List VO := ⟨(some 2), none, (.mv (.c (.val (.bool false))))⟩ :: []
def vc3 : VCode := (.seq (.region false vc3_o2) vc3_r1)
theorem comp3 : ccode Try.prog (Try.f3.body.getD .skip) = some (strip vc3) := by kernel_rfl

/- usher/usherlaw04.NamesKeys -/
def vc4_o1_3 : List VO := ⟨(some 20), (some (19, true)), (.call 19 [] [])⟩ :: ⟨(some 21), none, (.pick (.t 19) (.t 20) (.c (.val (.bool false))))⟩ :: ⟨none, none, .kp [21]⟩ :: ⟨(some 4), none, (.mv (.t 21))⟩ :: []
def vc4_o1_2 : List VO := ⟨(some 15), (some (10, true)), (.mv (.t 1))⟩ :: ⟨none, none, .kp [10, 13, 14, 15]⟩ :: ⟨(some 16), (some (10, true)), (.call 23 [] [(.t 14), (.t 15)])⟩ :: ⟨none, none, .kp [10, 13, 16]⟩ :: ⟨(some 17), (some (10, true)), (.bin .eql (.t 13) (.t 16))⟩ :: ⟨none, none, .kp [10, 17]⟩ :: ⟨(some 18), none, (.pick (.t 10) (.t 17) (.c (.val (.bool false))))⟩ :: ⟨none, none, .kp [18]⟩ :: ⟨(some 19), none, (.mv (.t 18))⟩ :: vc4_o1_3
def vc4_o1_1 : List VO := ⟨(some 10), none, (.mv (.t 9))⟩ :: ⟨(some 11), (some (10, true)), (.mv (.t 0))⟩ :: ⟨(some 12), (some (10, true)), (.mv (.t 1))⟩ :: ⟨(some 13), (some (10, true)), (.call 22 [] [(.t 11), (.t 12)])⟩ :: ⟨none, none, .kp [0, 1, 10, 13]⟩ :: ⟨(some 14), (some (10, true)), (.mv (.t 0))⟩ :: vc4_o1_2
def vc4_o1 : List VO := ⟨(some 5), none, (.mv (.t 0))⟩ :: ⟨(some 6), none, (.call 20 [] [(.t 5)])⟩ :: ⟨(some 7), none, (.mv (.t 0))⟩ :: ⟨(some 8), none, (.call 21 [] [(.t 7)])⟩ :: ⟨none, none, .kp [0, 1, 6, 8]⟩ :: ⟨(some 9), none, (.bin .eql (.t 6) (.t 8))⟩ :: ⟨none, none, .kp [0, 1, 9]⟩ :: vc4_o1_1
def vc4_r1 : VCode := (.keep [0, 1] (.seq (.region false vc4_o1) (.keep [4] .ret)))
def vc4_o2 : List VO := ⟨(some 4), none, (.mv (.c (.val (.bool false))))⟩ :: []
def vc4 : VCode := (.seq (.region false vc4_o2) vc4_r1)
theorem comp4 : ccode Try.prog (Try.f4.body.getD .skip) = some (strip vc4) := by kernel_rfl

/- usher/names.Branch -/
def vc22_o1_1 : List VO := ⟨(some 10), none, (.call 67 [] [(.t 9)])⟩ :: ⟨none, none, .kp [7, 10]⟩ :: ⟨(some 11), none, (.bin .add (.t 7) (.t 10))⟩ :: ⟨none, none, .kp [11]⟩ :: ⟨(some 4), none, (.mv (.t 11))⟩ :: []
def vc22_o1 : List VO := ⟨(some 5), none, (.mv (.t 0))⟩ :: ⟨(some 6), none, (.bin .add (.c (.val (.string ⟨#[104, 47]⟩))) (.t 5))⟩ :: ⟨none, none, .kp [1, 6]⟩ :: ⟨(some 7), none, (.bin .add (.t 6) (.c (.val (.string ⟨#[47]⟩))))⟩ :: ⟨(some 8), none, (.mv (.t 1))⟩ :: ⟨none, none, .kp [7, 8]⟩ :: ⟨(some 9), none, (.mm true (.t 8) (.c (.val (.int .i64 0))))⟩ :: vc22_o1_1
def vc22_r1 : VCode := (.keep [0, 1] (.seq (.region false vc22_o1) (.keep [4] .ret)))
def vc22_o2 : List VO := ⟨(some 4), none, (.mv (.c (.val (.string ⟨#[]⟩))))⟩ :: []
def vc22 : VCode := (.seq (.region false vc22_o2) vc22_r1)
theorem comp22 : ccode Try.prog (Try.f22.body.getD .skip) = some (strip vc22) := by kernel_rfl

/- usher/usherref04.Branch -/
def vc23_o1_1 : List VO := ⟨(some 12), none, (.bin .add (.t 9) (.t 11))⟩ :: ⟨none, none, .kp [12]⟩ :: ⟨(some 4), none, (.mv (.t 12))⟩ :: []
def vc23_o1 : List VO := ⟨(some 7), none, (.mv (.t 0))⟩ :: ⟨(some 8), none, (.bin .add (.c (.val (.string ⟨#[104, 47]⟩))) (.t 7))⟩ :: ⟨none, none, .kp [1, 8]⟩ :: ⟨(some 9), none, (.bin .add (.t 8) (.c (.val (.string ⟨#[47]⟩))))⟩ :: ⟨(some 10), none, (.mv (.t 1))⟩ :: ⟨none, none, .kp [9, 10]⟩ :: ⟨(some 11), none, (.call 68 [] [(.t 10)])⟩ :: vc23_o1_1
def vc23_r1 : VCode := (.keep [0, 1] (.seq (.region false vc23_o1) (.keep [4] .ret)))
def vc23_o2 : List VO := ⟨(some 1), none, (.mv (.c (.val (.int .i64 0))))⟩ :: []
def vc23_r2 : VCode := (.keep [0, 1, 6] (.cond (.t 6) (.region false vc23_o2) .skip))
def vc23_o3 : List VO := ⟨(some 5), none, (.mv (.t 1))⟩ :: ⟨(some 6), none, (.bin .lss (.t 5) (.c (.val (.int .i64 0))))⟩ :: []
def vc23_r3 : VCode := (.keep [0, 1] (.seq (.seq (.region false vc23_o3) vc23_r2) vc23_r1))
def vc23_o4 : List VO := ⟨(some 4), none, (.mv (.c (.val (.string ⟨#[]⟩))))⟩ :: []
def vc23 : VCode := (.seq (.region false vc23_o4) vc23_r3)
theorem comp23 : ccode Try.prog (Try.f23.body.getD .skip) = some (strip vc23) := by kernel_rfl

end Go.Proofs.Ytdjgfjnnafddnaa
