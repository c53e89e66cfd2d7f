/- The code of functions, for the abstract machine, and that it is theirs. Printed by vcode.py. -/
import Derived.Test.YtdjgfjnnafddnaaChecked
import Derived.Test.YtdjgfjnnafddnaaVmQ
set_option linter.unusedVariables false
set_option maxRecDepth 100000
namespace Go.Proofs.Ytdjgfjnnafddnaa
open Go Go.Vm

/- bytes.Clone -/
def vc24_o1 : List VO := ⟨(some 5), none, (.lit true 5 1 0 [] [])⟩ :: ⟨(some 6), none, (.mv (.t 0))⟩ :: ⟨(some 7), none, (.app 5 1 1 (.t 5) (.t 6))⟩ :: ⟨none, none, .kp [7]⟩ :: ⟨(some 2), none, (.mv (.t 7))⟩ :: []
def vc24_r1 : VCode := (.keep [0] (.seq (.region false vc24_o1) (.keep [2] .ret)))
def vc24_o2 : List VO := ⟨(some 2), none, (.nilRow 5 1)⟩ :: []
def vc24_r2 : VCode := (.keep [0, 4] (.cond (.t 4) (.seq (.region false vc24_o2) (.keep [2] .ret)) .skip))
def vc24_o3 : List VO := ⟨(some 3), none, (.mv (.t 0))⟩ :: ⟨(some 4), none, (.isnil .s false (.t 3))⟩ :: []
def vc24_r3 : VCode := (.keep [0] (.seq (.seq (.region false vc24_o3) vc24_r2) vc24_r1))
def vc24_o4 : List VO := ⟨(some 2), none, (.nilRow 5 1)⟩ :: []
def vc24 : VCode := (.seq (.region false vc24_o4) vc24_r3)
theorem comp24 : ccode Try.prog (Try.f24.body.getD .skip) = some (strip vc24) := by kernel_rfl

/- bytes.Equal -/
def vc25_o1_1 : List VO := ⟨(some 4), none, (.mv (.t 9))⟩ :: []
def vc25_o1 : List VO := ⟨(some 5), none, (.mv (.t 0))⟩ :: ⟨(some 6), none, (.toStr (.t 5))⟩ :: ⟨none, none, .kp [1, 6]⟩ :: ⟨(some 7), none, (.mv (.t 1))⟩ :: ⟨(some 8), none, (.toStr (.t 7))⟩ :: ⟨none, none, .kp [6, 8]⟩ :: ⟨(some 9), none, (.bin .eql (.t 6) (.t 8))⟩ :: ⟨none, none, .kp [9]⟩ :: vc25_o1_1
def vc25_r1 : VCode := (.keep [0, 1] (.seq (.region false vc25_o1) (.keep [4] .ret)))
def vc25_o2 : List VO := ⟨(some 4), none, (.mv (.c (.val (.bool false))))⟩ :: []
def vc25 : VCode := (.seq (.region false vc25_o2) vc25_r1)
theorem comp25 : ccode Try.prog (Try.f25.body.getD .skip) = some (strip vc25) := by kernel_rfl

/- usher/usherref02.copied -/
def vc72_o1 : List VO := ⟨(some 3), none, (.mv (.t 0))⟩ :: ⟨(some 4), none, (.app 5 1 1 (.c (.val (.slice none 0 0))) (.t 3))⟩ :: ⟨none, none, .kp [4]⟩ :: ⟨(some 2), none, (.mv (.t 4))⟩ :: []
def vc72_r1 : VCode := (.keep [0] (.seq (.region false vc72_o1) (.keep [2] .ret)))
def vc72_o2 : List VO := ⟨(some 2), none, (.mv (.c (.val (.slice none 0 0))))⟩ :: []
def vc72 : VCode := (.seq (.region false vc72_o2) vc72_r1)
theorem comp72 : ccode Try.prog (Try.f72.body.getD .skip) = some (strip vc72) := by kernel_rfl

/- usher/pack.room -/
def vc69_o1 : List VO := ⟨(some 16), none, (.mv (.t 5))⟩ :: ⟨(some 4), none, (.mv (.t 16))⟩ :: []
def vc69_r1 : VCode := (.keep [5] (.seq (.region false vc69_o1) (.keep [4] .ret)))
def vc69_o2 : List VO := ⟨(some 13), none, (.mv (.t 5))⟩ :: ⟨(some 14), none, (.mv (.t 0))⟩ :: ⟨(some 15), none, (.copy 1 (.t 13) (.t 14))⟩ :: []
def vc69_r2 : VCode := (.keep [0, 5] (.seq (.region false vc69_o2) vc69_r1))
def vc69_o3_1 : List VO := ⟨(some 11), none, (.bin .add (.t 9) (.t 10))⟩ :: ⟨none, none, .kp [0, 7, 11]⟩ :: ⟨(some 12), none, (.make 5 1 1 [(.val (.int .u8 0))] (.t 7) (.t 11))⟩ :: ⟨none, none, .kp [0, 12]⟩ :: ⟨(some 5), none, (.mv (.t 12))⟩ :: []
def vc69_o3 : List VO := ⟨(some 6), none, (.mv (.t 0))⟩ :: ⟨(some 7), none, (.len (.t 6))⟩ :: ⟨(some 8), none, (.mv (.t 0))⟩ :: ⟨(some 9), none, (.len (.t 8))⟩ :: ⟨none, none, .kp [0, 1, 7, 9]⟩ :: ⟨(some 10), none, (.mv (.t 1))⟩ :: vc69_o3_1
def vc69_r3 : VCode := (.keep [0, 1] (.seq (.region false vc69_o3) vc69_r2))
def vc69_o4 : List VO := ⟨(some 4), none, (.mv (.c (.val (.slice none 0 0))))⟩ :: []
def vc69 : VCode := (.seq (.region false vc69_o4) vc69_r3)
theorem comp69 : ccode Try.prog (Try.f69.body.getD .skip) = some (strip vc69) := by kernel_rfl

/- usher/pack.width -/
def vc70_o1 : List VO := ⟨(some 12), none, (.mv (.t 3))⟩ :: ⟨(some 2), none, (.mv (.t 12))⟩ :: []
def vc70_r1 : VCode := (.keep [3] (.seq (.region false vc70_o1) (.keep [2] .ret)))
def vc70_o2 : List VO := ⟨(some 8), none, (.mv (.t 0))⟩ :: ⟨(some 9), none, (.bin .shr (.t 8) (.c (.val (.int .u64 8))))⟩ :: ⟨none, none, .kp [3, 9]⟩ :: ⟨(some 0), none, (.mv (.t 9))⟩ :: []
def vc70_o3 : List VO := ⟨(some 10), none, (.mv (.t 3))⟩ :: ⟨(some 11), none, (.bin .add (.t 10) (.c (.val (.int .i64 1))))⟩ :: ⟨none, none, .kp [0, 11]⟩ :: ⟨(some 3), none, (.mv (.t 11))⟩ :: []
def vc70_r2 : VCode := (.keep [0, 3] (.seq (.block 1 (.region false vc70_o3)) (.keep [0, 3] (.region false vc70_o2))))
def vc70_r3 : VCode := (.keep [0, 3, 7] (.cond (.t 7) .skip (.exit 0)))
def vc70_o4 : List VO := ⟨(some 6), none, (.mv (.t 0))⟩ :: ⟨(some 7), none, (.bin .gtr (.t 6) (.c (.val (.int .u64 0))))⟩ :: []
def vc70_l4 : VCode := (.seq (.seq (.region false vc70_o4) vc70_r3) vc70_r2)
def vc70_r5 : VCode := (.keep [0, 3] (.block 0 (.loop (.keep [0, 3] vc70_l4))))
def vc70_o5 : List VO := ⟨(some 4), none, (.mv (.t 0))⟩ :: ⟨(some 5), none, (.bin .shr (.t 4) (.c (.val (.int .u64 8))))⟩ :: ⟨none, none, .kp [3, 5]⟩ :: ⟨(some 0), none, (.mv (.t 5))⟩ :: []
def vc70_r6 : VCode := (.keep [0, 3] (.seq (.seq (.region false vc70_o5) vc70_r5) vc70_r1))
def vc70_o6 : List VO := ⟨(some 3), none, (.mv (.c (.val (.int .i64 1))))⟩ :: []
def vc70_r7 : VCode := (.keep [0] (.seq (.region false vc70_o6) vc70_r6))
def vc70_o7 : List VO := ⟨(some 2), none, (.mv (.c (.val (.int .i64 0))))⟩ :: []
def vc70 : VCode := (.seq (.region false vc70_o7) vc70_r7)
theorem comp70 : ccode Try.prog (Try.f70.body.getD .skip) = some (strip vc70) := by kernel_rfl

/- usher/pack.big -/
def vc71_o1 : List VO := ⟨(some 22), none, (.mv (.t 0))⟩ :: ⟨(some 6), none, (.mv (.t 22))⟩ :: []
def vc71_r1 : VCode := (.keep [0] (.seq (.region false vc71_o1) (.keep [6] .ret)))
def vc71_o2 : List VO := ⟨(some 13), none, (.mv (.t 7))⟩ :: ⟨(some 14), none, (.bin .sub (.t 13) (.c (.val (.int .i64 8))))⟩ :: ⟨none, none, .kp [0, 1, 14]⟩ :: ⟨(some 7), none, (.mv (.t 14))⟩ :: []
def vc71_r2 : VCode := (.keep [0, 1, 7] (.region false vc71_o2))
def vc71_o3_1 : List VO := ⟨(some 20), none, (.lit false 5 1 1 [(.val (.int .u8 0))] [(0, (1, (.t 19)))])⟩ :: ⟨none, none, .kp [1, 7, 15, 20]⟩ :: ⟨(some 21), none, (.app 5 1 1 (.t 15) (.t 20))⟩ :: ⟨none, none, .kp [1, 7, 21]⟩ :: ⟨(some 0), none, (.mv (.t 21))⟩ :: []
def vc71_o3 : List VO := ⟨(some 15), none, (.mv (.t 0))⟩ :: ⟨(some 16), none, (.mv (.t 1))⟩ :: ⟨(some 17), none, (.mv (.t 7))⟩ :: ⟨(some 18), none, (.bin .shr (.t 16) (.t 17))⟩ :: ⟨none, none, .kp [1, 7, 15, 18]⟩ :: ⟨(some 19), none, (.cvInt .u8 (.t 18))⟩ :: vc71_o3_1
def vc71_r3 : VCode := (.keep [0, 1, 7] (.seq (.block 1 (.region false vc71_o3)) vc71_r2))
def vc71_r4 : VCode := (.keep [0, 1, 7, 12] (.cond (.t 12) .skip (.exit 0)))
def vc71_o4 : List VO := ⟨(some 11), none, (.mv (.t 7))⟩ :: ⟨(some 12), none, (.bin .geq (.t 11) (.c (.val (.int .i64 0))))⟩ :: []
def vc71_l5 : VCode := (.seq (.seq (.region false vc71_o4) vc71_r4) vc71_r3)
def vc71_r6 : VCode := (.keep [0, 1, 7] (.block 0 (.loop (.keep [0, 1, 7] vc71_l5))))
def vc71_o5 : List VO := ⟨(some 8), none, (.mv (.t 2))⟩ :: ⟨(some 9), none, (.bin .sub (.t 8) (.c (.val (.int .i64 1))))⟩ :: ⟨none, none, .kp [0, 1, 9]⟩ :: ⟨(some 10), none, (.bin .mul (.c (.val (.int .i64 8))) (.t 9))⟩ :: ⟨(some 7), none, (.mv (.t 10))⟩ :: []
def vc71_r7 : VCode := (.keep [0, 1, 2] (.seq (.seq (.region false vc71_o5) vc71_r6) vc71_r1))
def vc71_o6 : List VO := ⟨(some 6), none, (.mv (.c (.val (.slice none 0 0))))⟩ :: []
def vc71 : VCode := (.seq (.region false vc71_o6) vc71_r7)
theorem comp71 : ccode Try.prog (Try.f71.body.getD .skip) = some (strip vc71) := by kernel_rfl

/- usher/usherref02.bytes -/
def vc73_o1 : List VO := ⟨(some 10), none, (.mv (.t 3))⟩ :: ⟨(some 2), none, (.mv (.t 10))⟩ :: []
def vc73_r1 : VCode := (.keep [3] (.seq (.region false vc73_o1) (.keep [2] .ret)))
def vc73_o2 : List VO := ⟨(some 8), none, (.mv (.t 3))⟩ :: ⟨(some 9), none, (.bin .add (.t 8) (.c (.val (.int .i64 1))))⟩ :: ⟨none, none, .kp [0, 9]⟩ :: ⟨(some 3), none, (.mv (.t 9))⟩ :: []
def vc73_o3 : List VO := ⟨(some 6), none, (.mv (.t 0))⟩ :: ⟨(some 7), none, (.bin .quo (.t 6) (.c (.val (.int .i64 256))))⟩ :: ⟨none, none, .kp [3, 7]⟩ :: ⟨(some 0), none, (.mv (.t 7))⟩ :: []
def vc73_c2 : VCode := (.seq (.region false vc73_o3) (.keep [0, 3] (.region false vc73_o2)))
def vc73_r3 : VCode := (.keep [0, 3, 5] (.cond (.t 5) .skip (.exit 0)))
def vc73_o4 : List VO := ⟨(some 4), none, (.mv (.t 0))⟩ :: ⟨(some 5), none, (.bin .gtr (.t 4) (.c (.val (.int .i64 0))))⟩ :: []
def vc73_l4 : VCode := (.seq (.seq (.region false vc73_o4) vc73_r3) (.keep [0, 3] (.block 1 vc73_c2)))
def vc73_r5 : VCode := (.keep [0, 3] (.seq (.block 0 (.loop (.keep [0, 3] vc73_l4))) vc73_r1))
def vc73_o5 : List VO := ⟨(some 3), none, (.mv (.c (.val (.int .i64 0))))⟩ :: []
def vc73_r6 : VCode := (.keep [0] (.seq (.region false vc73_o5) vc73_r5))
def vc73_o6 : List VO := ⟨(some 2), none, (.mv (.c (.val (.int .i64 0))))⟩ :: []
def vc73 : VCode := (.seq (.region false vc73_o6) vc73_r6)
theorem comp73 : ccode Try.prog (Try.f73.body.getD .skip) = some (strip vc73) := by kernel_rfl

/- usher/usherref02.high -/
def vc74_o1 : List VO := ⟨(some 27), none, (.mv (.t 0))⟩ :: ⟨(some 6), none, (.mv (.t 27))⟩ :: []
def vc74_r1 : VCode := (.keep [0] (.seq (.region false vc74_o1) (.keep [6] .ret)))
def vc74_o2_1 : List VO := ⟨(some 26), none, (.app 5 1 1 (.t 21) (.t 25))⟩ :: ⟨none, none, .kp [1, 2, 26]⟩ :: ⟨(some 0), none, (.mv (.t 26))⟩ :: []
def vc74_o2 : List VO := ⟨(some 21), none, (.mv (.t 0))⟩ :: ⟨(some 22), none, (.mv (.t 7))⟩ :: ⟨none, none, .kp [1, 2, 21, 22]⟩ :: ⟨(some 23), none, (.bin .rem (.t 22) (.c (.val (.int .u64 256))))⟩ :: ⟨(some 24), none, (.cvInt .u8 (.t 23))⟩ :: ⟨none, none, .kp [1, 2, 21, 24]⟩ :: ⟨(some 25), none, (.lit false 5 1 1 [(.val (.int .u8 0))] [(0, (1, (.t 24)))])⟩ :: vc74_o2_1
def vc74_r2 : VCode := (.keep [0, 1, 2, 7] (.region false vc74_o2))
def vc74_o3 : List VO := ⟨(some 17), none, (.mv (.t 8))⟩ :: ⟨(some 18), none, (.bin .add (.t 17) (.c (.val (.int .i64 1))))⟩ :: ⟨none, none, .kp [0, 1, 2, 7, 18]⟩ :: ⟨(some 8), none, (.mv (.t 18))⟩ :: []
def vc74_r3 : VCode := (.keep [0, 1, 2, 7, 8] (.region false vc74_o3))
def vc74_o4 : List VO := ⟨(some 19), none, (.mv (.t 7))⟩ :: ⟨(some 20), none, (.bin .quo (.t 19) (.c (.val (.int .u64 256))))⟩ :: ⟨none, none, .kp [0, 1, 2, 8, 20]⟩ :: ⟨(some 7), none, (.mv (.t 20))⟩ :: []
def vc74_r4 : VCode := (.keep [0, 1, 2, 7, 8] (.seq (.block 3 (.region false vc74_o4)) vc74_r3))
def vc74_r5 : VCode := (.keep [0, 1, 2, 7, 8, 16] (.cond (.t 16) .skip (.exit 2)))
def vc74_o5 : List VO := ⟨(some 14), none, (.mv (.t 8))⟩ :: ⟨(some 15), none, (.mv (.t 2))⟩ :: ⟨(some 16), none, (.bin .lss (.t 14) (.t 15))⟩ :: []
def vc74_l6 : VCode := (.seq (.seq (.region false vc74_o5) vc74_r5) vc74_r4)
def vc74_r7 : VCode := (.keep [0, 1, 2, 7, 8] (.block 2 (.loop (.keep [0, 1, 2, 7, 8] vc74_l6))))
def vc74_o6 : List VO := ⟨(some 8), none, (.mv (.c (.val (.int .i64 0))))⟩ :: []
def vc74_r8 : VCode := (.keep [0, 1, 2, 7] (.seq (.seq (.region false vc74_o6) vc74_r7) vc74_r2))
def vc74_o7 : List VO := ⟨(some 13), none, (.mv (.t 1))⟩ :: ⟨(some 7), none, (.mv (.t 13))⟩ :: []
def vc74_r9 : VCode := (.keep [0, 1, 2] (.seq (.region false vc74_o7) vc74_r8))
def vc74_o8 : List VO := ⟨(some 11), none, (.mv (.t 2))⟩ :: ⟨(some 12), none, (.bin .sub (.t 11) (.c (.val (.int .i64 1))))⟩ :: ⟨none, none, .kp [0, 1, 12]⟩ :: ⟨(some 2), none, (.mv (.t 12))⟩ :: []
def vc74_r10 : VCode := (.keep [0, 1, 2] (.block 1 (.seq (.region false vc74_o8) vc74_r9)))
def vc74_r11 : VCode := (.keep [0, 1, 2, 10] (.cond (.t 10) .skip (.exit 0)))
def vc74_o9 : List VO := ⟨(some 9), none, (.mv (.t 2))⟩ :: ⟨(some 10), none, (.bin .gtr (.t 9) (.c (.val (.int .i64 0))))⟩ :: []
def vc74_l12 : VCode := (.seq (.seq (.region false vc74_o9) vc74_r11) vc74_r10)
def vc74_r13 : VCode := (.keep [0, 1, 2] (.seq (.block 0 (.loop (.keep [0, 1, 2] vc74_l12))) vc74_r1))
def vc74_o10 : List VO := ⟨(some 6), none, (.mv (.c (.val (.slice none 0 0))))⟩ :: []
def vc74 : VCode := (.seq (.region false vc74_o10) vc74_r13)
theorem comp74 : ccode Try.prog (Try.f74.body.getD .skip) = some (strip vc74) := by kernel_rfl

/- usher/pack.Num -/
def vc26_o1_1 : List VO := ⟨(some 26), none, (.app 5 1 1 (.t 21) (.t 25))⟩ :: ⟨none, none, .kp [1, 5, 26]⟩ :: ⟨(some 27), none, (.mv (.t 5))⟩ :: ⟨(some 28), none, (.mv (.t 1))⟩ :: ⟨none, none, .kp [26, 27, 28]⟩ :: ⟨(some 29), none, (.call 71 [true] [(.t 26), (.t 27), (.t 28)])⟩ :: ⟨none, none, .kp [29]⟩ :: ⟨(some 4), none, (.mv (.t 29))⟩ :: []
def vc26_o1 : List VO := ⟨(some 21), none, (.mv (.t 6))⟩ :: ⟨(some 22), none, (.mv (.t 1))⟩ :: ⟨(some 23), none, (.bin .add (.c (.val (.int .i64 239))) (.t 22))⟩ :: ⟨none, none, .kp [1, 5, 21, 23]⟩ :: ⟨(some 24), none, (.cvInt .u8 (.t 23))⟩ :: ⟨(some 25), none, (.lit false 5 1 1 [(.val (.int .u8 0))] [(0, (1, (.t 24)))])⟩ :: ⟨none, none, .kp [1, 5, 21, 25]⟩ :: vc26_o1_1
def vc26_r1 : VCode := (.keep [1, 5, 6] (.seq (.region false vc26_o1) (.keep [4] .ret)))
def vc26_o2 : List VO := ⟨(some 19), none, (.mv (.t 5))⟩ :: ⟨(some 20), none, (.call 70 [] [(.t 19)])⟩ :: ⟨(some 1), none, (.mv (.t 20))⟩ :: []
def vc26_r2 : VCode := (.keep [5, 6] (.seq (.region false vc26_o2) vc26_r1))
def vc26_o3_1 : List VO := ⟨(some 4), none, (.mv (.t 18))⟩ :: []
def vc26_o3 : List VO := ⟨(some 14), none, (.mv (.t 6))⟩ :: ⟨(some 15), none, (.mv (.t 5))⟩ :: ⟨none, none, .kp [14, 15]⟩ :: ⟨(some 16), none, (.cvInt .u8 (.t 15))⟩ :: ⟨(some 17), none, (.lit false 5 1 1 [(.val (.int .u8 0))] [(0, (1, (.t 16)))])⟩ :: ⟨none, none, .kp [14, 17]⟩ :: ⟨(some 18), none, (.app 5 1 1 (.t 14) (.t 17))⟩ :: ⟨none, none, .kp [18]⟩ :: vc26_o3_1
def vc26_r3 : VCode := (.keep [5, 6, 13] (.cond (.t 13) (.seq (.region false vc26_o3) (.keep [4] .ret)) .skip))
def vc26_o4 : List VO := ⟨(some 12), none, (.mv (.t 5))⟩ :: ⟨(some 13), none, (.bin .lss (.t 12) (.c (.val (.int .u64 240))))⟩ :: []
def vc26_r4 : VCode := (.keep [5, 6] (.seq (.seq (.region false vc26_o4) vc26_r3) vc26_r2))
def vc26_o5 : List VO := ⟨(some 10), none, (.mv (.t 0))⟩ :: ⟨(some 11), none, (.call 69 [] [(.t 10), (.c (.val (.int .i64 9)))])⟩ :: ⟨none, none, .kp [5, 11]⟩ :: ⟨(some 6), none, (.mv (.t 11))⟩ :: []
def vc26_r5 : VCode := (.keep [0, 5] (.seq (.region false vc26_o5) vc26_r4))
def vc26_o6 : List VO := ⟨(some 7), none, (.mv (.t 1))⟩ :: ⟨(some 8), none, (.mm true (.t 7) (.c (.val (.int .i64 0))))⟩ :: ⟨none, none, .kp [0, 8]⟩ :: ⟨(some 9), none, (.cvInt .u64 (.t 8))⟩ :: ⟨(some 5), none, (.mv (.t 9))⟩ :: []
def vc26_r6 : VCode := (.keep [0, 1] (.seq (.region false vc26_o6) vc26_r5))
def vc26_o7 : List VO := ⟨(some 4), none, (.mv (.c (.val (.slice none 0 0))))⟩ :: []
def vc26 : VCode := (.seq (.region false vc26_o7) vc26_r6)
theorem comp26 : ccode Try.prog (Try.f26.body.getD .skip) = some (strip vc26) := by kernel_rfl

/- usher/usherref02.Num -/
def vc27_o1_2 : List VO := ⟨(some 28), none, (.call 74 [true] [(.t 24), (.t 26), (.t 27)])⟩ :: ⟨none, none, .kp [28]⟩ :: ⟨(some 4), none, (.mv (.t 28))⟩ :: []
def vc27_o1_1 : List VO := ⟨(some 23), none, (.lit false 5 1 1 [(.val (.int .u8 0))] [(0, (1, (.t 22)))])⟩ :: ⟨(some 24), none, (.app 5 1 1 (.t 19) (.t 23))⟩ :: ⟨none, none, .kp [1, 5, 24]⟩ :: ⟨(some 25), none, (.mv (.t 1))⟩ :: ⟨(some 26), none, (.cvInt .u64 (.t 25))⟩ :: ⟨none, none, .kp [5, 24, 26]⟩ :: ⟨(some 27), none, (.mv (.t 5))⟩ :: vc27_o1_2
def vc27_o1 : List VO := ⟨(some 18), none, (.mv (.t 0))⟩ :: ⟨(some 19), none, (.call 72 [] [(.t 18)])⟩ :: ⟨none, none, .kp [1, 5, 19]⟩ :: ⟨(some 20), none, (.mv (.t 5))⟩ :: ⟨(some 21), none, (.bin .add (.c (.val (.int .i64 239))) (.t 20))⟩ :: ⟨(some 22), none, (.cvInt .u8 (.t 21))⟩ :: ⟨none, none, .kp [1, 5, 19, 22]⟩ :: vc27_o1_1
def vc27_r1 : VCode := (.keep [0, 1, 5] (.seq (.region false vc27_o1) (.keep [4] .ret)))
def vc27_o2 : List VO := ⟨(some 16), none, (.mv (.t 1))⟩ :: ⟨(some 17), none, (.call 73 [] [(.t 16)])⟩ :: ⟨(some 5), none, (.mv (.t 17))⟩ :: []
def vc27_r2 : VCode := (.keep [0, 1] (.seq (.region false vc27_o2) vc27_r1))
def vc27_o3_1 : List VO := ⟨(some 15), none, (.app 5 1 1 (.t 11) (.t 14))⟩ :: ⟨none, none, .kp [15]⟩ :: ⟨(some 4), none, (.mv (.t 15))⟩ :: []
def vc27_o3 : List VO := ⟨(some 10), none, (.mv (.t 0))⟩ :: ⟨(some 11), none, (.call 72 [] [(.t 10)])⟩ :: ⟨none, none, .kp [1, 11]⟩ :: ⟨(some 12), none, (.mv (.t 1))⟩ :: ⟨(some 13), none, (.cvInt .u8 (.t 12))⟩ :: ⟨none, none, .kp [11, 13]⟩ :: ⟨(some 14), none, (.lit false 5 1 1 [(.val (.int .u8 0))] [(0, (1, (.t 13)))])⟩ :: vc27_o3_1
def vc27_r3 : VCode := (.keep [0, 1, 9] (.cond (.t 9) (.seq (.region false vc27_o3) (.keep [4] .ret)) .skip))
def vc27_o4 : List VO := ⟨(some 8), none, (.mv (.t 1))⟩ :: ⟨(some 9), none, (.bin .lss (.t 8) (.c (.val (.int .i64 240))))⟩ :: []
def vc27_r4 : VCode := (.keep [0, 1] (.seq (.seq (.region false vc27_o4) vc27_r3) vc27_r2))
def vc27_o5 : List VO := ⟨(some 1), none, (.mv (.c (.val (.int .i64 0))))⟩ :: []
def vc27_r5 : VCode := (.keep [0, 1, 7] (.cond (.t 7) (.region false vc27_o5) .skip))
def vc27_o6 : List VO := ⟨(some 6), none, (.mv (.t 1))⟩ :: ⟨(some 7), none, (.bin .lss (.t 6) (.c (.val (.int .i64 0))))⟩ :: []
def vc27_r6 : VCode := (.keep [0, 1] (.seq (.seq (.region false vc27_o6) vc27_r5) vc27_r4))
def vc27_o7 : List VO := ⟨(some 4), none, (.mv (.c (.val (.slice none 0 0))))⟩ :: []
def vc27 : VCode := (.seq (.region false vc27_o7) vc27_r6)
theorem comp27 : ccode Try.prog (Try.f27.body.getD .skip) = some (strip vc27) := by kernel_rfl

/- usher/pack.Int -/
def vc28_o1_1 : List VO := ⟨(some 4), none, (.mv (.t 9))⟩ :: []
def vc28_o1 : List VO := ⟨(some 5), none, (.mv (.t 0))⟩ :: ⟨(some 6), none, (.mv (.t 1))⟩ :: ⟨none, none, .kp [5, 6]⟩ :: ⟨(some 7), none, (.cvInt .u64 (.t 6))⟩ :: ⟨(some 8), none, (.bin .xor (.t 7) (.c (.val (.int .u64 9223372036854775808))))⟩ :: ⟨none, none, .kp [5, 8]⟩ :: ⟨(some 9), none, (.call 30 [] [(.t 5), (.t 8)])⟩ :: ⟨none, none, .kp [9]⟩ :: vc28_o1_1
def vc28_r1 : VCode := (.keep [0, 1] (.seq (.region false vc28_o1) (.keep [4] .ret)))
def vc28_o2 : List VO := ⟨(some 4), none, (.mv (.c (.val (.slice none 0 0))))⟩ :: []
def vc28 : VCode := (.seq (.region false vc28_o2) vc28_r1)
theorem comp28 : ccode Try.prog (Try.f28.body.getD .skip) = some (strip vc28) := by kernel_rfl

/- usher/usherref02.Int -/
def vc29_o1_1 : List VO := ⟨(some 10), none, (.call 74 [true] [(.t 6), (.t 9), (.c (.val (.int .i64 8)))])⟩ :: ⟨none, none, .kp [10]⟩ :: ⟨(some 4), none, (.mv (.t 10))⟩ :: []
def vc29_o1 : List VO := ⟨(some 5), none, (.mv (.t 0))⟩ :: ⟨(some 6), none, (.call 72 [] [(.t 5)])⟩ :: ⟨none, none, .kp [1, 6]⟩ :: ⟨(some 7), none, (.mv (.t 1))⟩ :: ⟨(some 8), none, (.cvInt .u64 (.t 7))⟩ :: ⟨none, none, .kp [6, 8]⟩ :: ⟨(some 9), none, (.bin .xor (.t 8) (.c (.val (.int .u64 9223372036854775808))))⟩ :: vc29_o1_1
def vc29_r1 : VCode := (.keep [0, 1] (.seq (.region false vc29_o1) (.keep [4] .ret)))
def vc29_o2 : List VO := ⟨(some 4), none, (.mv (.c (.val (.slice none 0 0))))⟩ :: []
def vc29 : VCode := (.seq (.region false vc29_o2) vc29_r1)
theorem comp29 : ccode Try.prog (Try.f29.body.getD .skip) = some (strip vc29) := by kernel_rfl

/- usher/pack.Bits -/
def vc30_o1 : List VO := ⟨(some 5), none, (.mv (.t 0))⟩ :: ⟨(some 6), none, (.call 69 [] [(.t 5), (.c (.val (.int .i64 8)))])⟩ :: ⟨none, none, .kp [1, 6]⟩ :: ⟨(some 7), none, (.mv (.t 1))⟩ :: ⟨(some 8), none, (.call 71 [true] [(.t 6), (.t 7), (.c (.val (.int .i64 8)))])⟩ :: ⟨none, none, .kp [8]⟩ :: ⟨(some 4), none, (.mv (.t 8))⟩ :: []
def vc30_r1 : VCode := (.keep [0, 1] (.seq (.region false vc30_o1) (.keep [4] .ret)))
def vc30_o2 : List VO := ⟨(some 4), none, (.mv (.c (.val (.slice none 0 0))))⟩ :: []
def vc30 : VCode := (.seq (.region false vc30_o2) vc30_r1)
theorem comp30 : ccode Try.prog (Try.f30.body.getD .skip) = some (strip vc30) := by kernel_rfl

/- usher/usherref02.Bits -/
def vc31_o1 : List VO := ⟨(some 5), none, (.mv (.t 0))⟩ :: ⟨(some 6), none, (.call 72 [] [(.t 5)])⟩ :: ⟨none, none, .kp [1, 6]⟩ :: ⟨(some 7), none, (.mv (.t 1))⟩ :: ⟨(some 8), none, (.call 74 [true] [(.t 6), (.t 7), (.c (.val (.int .i64 8)))])⟩ :: ⟨none, none, .kp [8]⟩ :: ⟨(some 4), none, (.mv (.t 8))⟩ :: []
def vc31_r1 : VCode := (.keep [0, 1] (.seq (.region false vc31_o1) (.keep [4] .ret)))
def vc31_o2 : List VO := ⟨(some 4), none, (.mv (.c (.val (.slice none 0 0))))⟩ :: []
def vc31 : VCode := (.seq (.region false vc31_o2) vc31_r1)
theorem comp31 : ccode Try.prog (Try.f31.body.getD .skip) = some (strip vc31) := by kernel_rfl

/- usher/pack.Text -/
def vc32_o1 : List VO := ⟨(some 14), none, (.mv (.t 5))⟩ :: ⟨(some 15), none, (.mv (.t 1))⟩ :: ⟨none, none, .kp [14, 15]⟩ :: ⟨(some 16), none, (.appS 5 (.t 14) (.t 15))⟩ :: ⟨none, none, .kp [16]⟩ :: ⟨(some 4), none, (.mv (.t 16))⟩ :: []
def vc32_r1 : VCode := (.keep [1, 5] (.seq (.region false vc32_o1) (.keep [4] .ret)))
def vc32_o2_1 : List VO := ⟨(some 11), none, (.mv (.t 1))⟩ :: ⟨(some 12), none, (.lenS (.t 11))⟩ :: ⟨(some 13), none, (.call 26 [] [(.t 10), (.t 12)])⟩ :: ⟨none, none, .kp [1, 13]⟩ :: ⟨(some 5), none, (.mv (.t 13))⟩ :: []
def vc32_o2 : List VO := ⟨(some 6), none, (.mv (.t 0))⟩ :: ⟨(some 7), none, (.mv (.t 1))⟩ :: ⟨(some 8), none, (.lenS (.t 7))⟩ :: ⟨none, none, .kp [1, 6, 8]⟩ :: ⟨(some 9), none, (.bin .add (.c (.val (.int .i64 9))) (.t 8))⟩ :: ⟨(some 10), none, (.call 69 [] [(.t 6), (.t 9)])⟩ :: ⟨none, none, .kp [1, 10]⟩ :: vc32_o2_1
def vc32_r2 : VCode := (.keep [0, 1] (.seq (.region false vc32_o2) vc32_r1))
def vc32_o3 : List VO := ⟨(some 4), none, (.mv (.c (.val (.slice none 0 0))))⟩ :: []
def vc32 : VCode := (.seq (.region false vc32_o3) vc32_r2)
theorem comp32 : ccode Try.prog (Try.f32.body.getD .skip) = some (strip vc32) := by kernel_rfl

/- usher/usherref02.Text -/
def vc33_o1_1 : List VO := ⟨(some 10), none, (.appS 5 (.t 8) (.t 9))⟩ :: ⟨none, none, .kp [10]⟩ :: ⟨(some 4), none, (.mv (.t 10))⟩ :: []
def vc33_o1 : List VO := ⟨(some 5), none, (.mv (.t 0))⟩ :: ⟨(some 6), none, (.mv (.t 1))⟩ :: ⟨(some 7), none, (.lenS (.t 6))⟩ :: ⟨none, none, .kp [1, 5, 7]⟩ :: ⟨(some 8), none, (.call 27 [] [(.t 5), (.t 7)])⟩ :: ⟨none, none, .kp [1, 8]⟩ :: ⟨(some 9), none, (.mv (.t 1))⟩ :: vc33_o1_1
def vc33_r1 : VCode := (.keep [0, 1] (.seq (.region false vc33_o1) (.keep [4] .ret)))
def vc33_o2 : List VO := ⟨(some 4), none, (.mv (.c (.val (.slice none 0 0))))⟩ :: []
def vc33 : VCode := (.seq (.region false vc33_o2) vc33_r1)
theorem comp33 : ccode Try.prog (Try.f33.body.getD .skip) = some (strip vc33) := by kernel_rfl

/- usher/pack.Flag -/
def vc34_o1_1 : List VO := ⟨(some 4), none, (.mv (.t 11))⟩ :: []
def vc34_o1 : List VO := ⟨(some 7), none, (.mv (.t 0))⟩ :: ⟨(some 8), none, (.call 69 [] [(.t 7), (.c (.val (.int .i64 1)))])⟩ :: ⟨none, none, .kp [5, 8]⟩ :: ⟨(some 9), none, (.mv (.t 5))⟩ :: ⟨(some 10), none, (.lit false 5 1 1 [(.val (.int .u8 0))] [(0, (1, (.t 9)))])⟩ :: ⟨none, none, .kp [8, 10]⟩ :: ⟨(some 11), none, (.app 5 1 1 (.t 8) (.t 10))⟩ :: ⟨none, none, .kp [11]⟩ :: vc34_o1_1
def vc34_r1 : VCode := (.keep [0, 5] (.seq (.region false vc34_o1) (.keep [4] .ret)))
def vc34_o2 : List VO := ⟨(some 5), none, (.mv (.c (.val (.int .u8 1))))⟩ :: []
def vc34_r2 : VCode := (.keep [0, 5, 6] (.cond (.t 6) (.region false vc34_o2) .skip))
def vc34_o3 : List VO := ⟨(some 6), none, (.mv (.t 1))⟩ :: []
def vc34_r3 : VCode := (.keep [0, 1, 5] (.seq (.seq (.region false vc34_o3) vc34_r2) vc34_r1))
def vc34_o4 : List VO := ⟨(some 5), none, (.mv (.c (.val (.int .u8 0))))⟩ :: []
def vc34_r4 : VCode := (.keep [0, 1] (.seq (.region false vc34_o4) vc34_r3))
def vc34_o5 : List VO := ⟨(some 4), none, (.mv (.c (.val (.slice none 0 0))))⟩ :: []
def vc34 : VCode := (.seq (.region false vc34_o5) vc34_r4)
theorem comp34 : ccode Try.prog (Try.f34.body.getD .skip) = some (strip vc34) := by kernel_rfl

/- usher/usherref02.Flag -/
def vc35_o1 : List VO := ⟨(some 10), none, (.mv (.t 0))⟩ :: ⟨(some 11), none, (.call 72 [] [(.t 10)])⟩ :: ⟨none, none, .kp [11]⟩ :: ⟨(some 12), none, (.lit false 5 1 1 [(.val (.int .u8 0))] [(0, (1, (.c (.val (.int .u8 0)))))])⟩ :: ⟨(some 13), none, (.app 5 1 1 (.t 11) (.t 12))⟩ :: ⟨none, none, .kp [13]⟩ :: ⟨(some 4), none, (.mv (.t 13))⟩ :: []
def vc35_r1 : VCode := (.keep [0] (.seq (.region false vc35_o1) (.keep [4] .ret)))
def vc35_o2 : List VO := ⟨(some 6), none, (.mv (.t 0))⟩ :: ⟨(some 7), none, (.call 72 [] [(.t 6)])⟩ :: ⟨none, none, .kp [7]⟩ :: ⟨(some 8), none, (.lit false 5 1 1 [(.val (.int .u8 0))] [(0, (1, (.c (.val (.int .u8 1)))))])⟩ :: ⟨(some 9), none, (.app 5 1 1 (.t 7) (.t 8))⟩ :: ⟨none, none, .kp [9]⟩ :: ⟨(some 4), none, (.mv (.t 9))⟩ :: []
def vc35_r2 : VCode := (.keep [0, 5] (.cond (.t 5) (.seq (.region false vc35_o2) (.keep [4] .ret)) .skip))
def vc35_o3 : List VO := ⟨(some 5), none, (.mv (.t 1))⟩ :: []
def vc35_r3 : VCode := (.keep [0, 1] (.seq (.seq (.region false vc35_o3) vc35_r2) vc35_r1))
def vc35_o4 : List VO := ⟨(some 4), none, (.mv (.c (.val (.slice none 0 0))))⟩ :: []
def vc35 : VCode := (.seq (.region false vc35_o4) vc35_r3)
theorem comp35 : ccode Try.prog (Try.f35.body.getD .skip) = some (strip vc35) := by kernel_rfl

/- usher/usherlaw02.awake -/
def vc36_o1 : List VO := ⟨(some 1), none, (.call 26 [] [(.c (.val (.slice none 0 0))), (.c (.val (.int .i64 256)))])⟩ :: ⟨(some 2), none, (.lit false 5 1 3 [(.val (.int .u8 0)), (.val (.int .u8 0)), (.val (.int .u8 0))] [(0, (1, (.c (.val (.int .u8 241))))), (1, (1, (.c (.val (.int .u8 1))))), (2, (1, (.c (.val (.int .u8 0)))))])⟩ :: ⟨(some 3), none, (.call 25 [] [(.t 1), (.t 2)])⟩ :: ⟨none, none, .kp [3]⟩ :: ⟨(some 0), none, (.mv (.t 3))⟩ :: []
def vc36_r1 : VCode := (.keep [] (.seq (.region false vc36_o1) (.keep [0] .ret)))
def vc36_o2 : List VO := ⟨(some 0), none, (.mv (.c (.val (.bool false))))⟩ :: []
def vc36 : VCode := (.seq (.region false vc36_o2) vc36_r1)
theorem comp36 : ccode Try.prog (Try.f36.body.getD .skip) = some (strip vc36) := by kernel_rfl

/- usher/usherlaw02.PackWrites -/
def vc5_o1_1 : List VO := ⟨(some 63), none, (.pick (.t 59) (.t 62) (.c (.val (.bool false))))⟩ :: ⟨none, none, .kp [63]⟩ :: ⟨(some 64), none, (.mv (.t 63))⟩ :: ⟨(some 65), (some (64, true)), (.call 36 [] [])⟩ :: ⟨(some 66), none, (.pick (.t 64) (.t 65) (.c (.val (.bool false))))⟩ :: ⟨none, none, .kp [66]⟩ :: ⟨(some 10), none, (.mv (.t 66))⟩ :: []
def vc5_o1 : List VO := ⟨(some 58), none, (.mv (.t 12))⟩ :: ⟨(some 59), none, (.mv (.t 58))⟩ :: ⟨none, none, .kp [0, 11, 59]⟩ :: ⟨(some 60), (some (59, true)), (.mv (.t 0))⟩ :: ⟨(some 61), (some (59, true)), (.mv (.t 11))⟩ :: ⟨none, none, .kp [59, 60, 61]⟩ :: ⟨(some 62), (some (59, true)), (.call 25 [] [(.t 60), (.t 61)])⟩ :: ⟨none, none, .kp [59, 62]⟩ :: vc5_o1_1
def vc5_r1 : VCode := (.keep [0, 11, 12] (.seq (.region false vc5_o1) (.keep [10] .ret)))
def vc5_o2_8 : List VO := ⟨(some 55), (some (49, true)), (.call 35 [] [(.t 53), (.t 54)])⟩ :: ⟨none, none, .kp [0, 11, 49, 52, 55]⟩ :: ⟨(some 56), (some (49, true)), (.call 25 [] [(.t 52), (.t 55)])⟩ :: ⟨none, none, .kp [0, 11, 49, 56]⟩ :: ⟨(some 57), none, (.pick (.t 49) (.t 56) (.c (.val (.bool false))))⟩ :: ⟨none, none, .kp [0, 11, 57]⟩ :: ⟨(some 12), none, (.mv (.t 57))⟩ :: []
def vc5_o2_7 : List VO := ⟨(some 50), (some (49, true)), (.mv (.t 0))⟩ :: ⟨(some 51), (some (49, true)), (.mv (.t 4))⟩ :: ⟨(some 52), (some (49, true)), (.call 34 [] [(.t 50), (.t 51)])⟩ :: ⟨none, none, .kp [0, 4, 11, 49, 52]⟩ :: ⟨(some 53), (some (49, true)), (.mv (.t 11))⟩ :: ⟨(some 54), (some (49, true)), (.mv (.t 4))⟩ :: vc5_o2_8
def vc5_o2_6 : List VO := ⟨(some 45), (some (40, true)), (.mv (.t 3))⟩ :: ⟨(some 46), (some (40, true)), (.call 33 [] [(.t 44), (.t 45)])⟩ :: ⟨none, none, .kp [0, 4, 11, 40, 43, 46]⟩ :: ⟨(some 47), (some (40, true)), (.call 25 [] [(.t 43), (.t 46)])⟩ :: ⟨none, none, .kp [0, 4, 11, 40, 47]⟩ :: ⟨(some 48), none, (.pick (.t 40) (.t 47) (.c (.val (.bool false))))⟩ :: ⟨none, none, .kp [0, 4, 11, 48]⟩ :: ⟨(some 49), none, (.mv (.t 48))⟩ :: vc5_o2_7
def vc5_o2_5 : List VO := ⟨(some 40), none, (.mv (.t 39))⟩ :: ⟨(some 41), (some (40, true)), (.mv (.t 0))⟩ :: ⟨(some 42), (some (40, true)), (.mv (.t 3))⟩ :: ⟨(some 43), (some (40, true)), (.call 32 [] [(.t 41), (.t 42)])⟩ :: ⟨none, none, .kp [0, 3, 4, 11, 40, 43]⟩ :: ⟨(some 44), (some (40, true)), (.mv (.t 11))⟩ :: vc5_o2_6
def vc5_o2_4 : List VO := ⟨(some 35), (some (31, true)), (.mv (.t 11))⟩ :: ⟨(some 36), (some (31, true)), (.mv (.t 2))⟩ :: ⟨(some 37), (some (31, true)), (.call 31 [] [(.t 35), (.t 36)])⟩ :: ⟨none, none, .kp [0, 3, 4, 11, 31, 34, 37]⟩ :: ⟨(some 38), (some (31, true)), (.call 25 [] [(.t 34), (.t 37)])⟩ :: ⟨none, none, .kp [0, 3, 4, 11, 31, 38]⟩ :: ⟨(some 39), none, (.pick (.t 31) (.t 38) (.c (.val (.bool false))))⟩ :: ⟨none, none, .kp [0, 3, 4, 11, 39]⟩ :: vc5_o2_5
def vc5_o2_3 : List VO := ⟨(some 30), none, (.pick (.t 22) (.t 29) (.c (.val (.bool false))))⟩ :: ⟨none, none, .kp [0, 2, 3, 4, 11, 30]⟩ :: ⟨(some 31), none, (.mv (.t 30))⟩ :: ⟨(some 32), (some (31, true)), (.mv (.t 0))⟩ :: ⟨(some 33), (some (31, true)), (.mv (.t 2))⟩ :: ⟨(some 34), (some (31, true)), (.call 30 [] [(.t 32), (.t 33)])⟩ :: ⟨none, none, .kp [0, 2, 3, 4, 11, 31, 34]⟩ :: vc5_o2_4
def vc5_o2_2 : List VO := ⟨(some 25), (some (22, true)), (.call 28 [] [(.t 23), (.t 24)])⟩ :: ⟨none, none, .kp [0, 1, 2, 3, 4, 11, 22, 25]⟩ :: ⟨(some 26), (some (22, true)), (.mv (.t 11))⟩ :: ⟨(some 27), (some (22, true)), (.mv (.t 1))⟩ :: ⟨(some 28), (some (22, true)), (.call 29 [] [(.t 26), (.t 27)])⟩ :: ⟨none, none, .kp [0, 2, 3, 4, 11, 22, 25, 28]⟩ :: ⟨(some 29), (some (22, true)), (.call 25 [] [(.t 25), (.t 28)])⟩ :: ⟨none, none, .kp [0, 2, 3, 4, 11, 22, 29]⟩ :: vc5_o2_3
def vc5_o2_1 : List VO := ⟨(some 20), none, (.call 27 [] [(.t 18), (.t 19)])⟩ :: ⟨none, none, .kp [0, 1, 2, 3, 4, 11, 17, 20]⟩ :: ⟨(some 21), none, (.call 25 [] [(.t 17), (.t 20)])⟩ :: ⟨none, none, .kp [0, 1, 2, 3, 4, 11, 21]⟩ :: ⟨(some 22), none, (.mv (.t 21))⟩ :: ⟨(some 23), (some (22, true)), (.mv (.t 0))⟩ :: ⟨(some 24), (some (22, true)), (.mv (.t 1))⟩ :: vc5_o2_2
def vc5_o2 : List VO := ⟨(some 15), none, (.mv (.t 0))⟩ :: ⟨(some 16), none, (.mv (.t 1))⟩ :: ⟨(some 17), none, (.call 26 [] [(.t 15), (.t 16)])⟩ :: ⟨none, none, .kp [0, 1, 2, 3, 4, 11, 17]⟩ :: ⟨(some 18), none, (.mv (.t 11))⟩ :: ⟨(some 19), none, (.mv (.t 1))⟩ :: vc5_o2_1
def vc5_r2 : VCode := (.keep [0, 1, 2, 3, 4, 11] (.seq (.region false vc5_o2) vc5_r1))
def vc5_o3 : List VO := ⟨(some 13), none, (.mv (.t 0))⟩ :: ⟨(some 14), none, (.call 24 [] [(.t 13)])⟩ :: ⟨(some 11), none, (.mv (.t 14))⟩ :: []
def vc5_r3 : VCode := (.keep [0, 1, 2, 3, 4] (.seq (.region false vc5_o3) vc5_r2))
def vc5_o4 : List VO := ⟨(some 10), none, (.mv (.c (.val (.bool false))))⟩ :: []
def vc5 : VCode := (.seq (.region false vc5_o4) vc5_r3)
theorem comp5 : ccode Try.prog (Try.f5.body.getD .skip) = some (strip vc5) := by kernel_rfl

end Go.Proofs.Ytdjgfjnnafddnaa
