/- The code of functions, for the abstract machine, and that it is theirs. Printed by vc2.py. -/
import Derived.Test.YtlodbaikbgbhjaaIds
set_option linter.unusedVariables false
set_option maxRecDepth 100000
namespace Go.Proofs.Ytlodbaikbgbhjaa
open Go Go.Vm

/- usher/floats.Canon -/
def vc_floats_Canon_o1 : List VO := ⟨(some 6), none, (.mv (.t 0))⟩ :: ⟨(some 2), none, (.mv (.t 6))⟩ :: []
def vc_floats_Canon_r1 : VCode := (.keep [0] (.seq (.region false vc_floats_Canon_o1) (.keep [2] .ret)))
def vc_floats_Canon_o2 : List VO := ⟨(some 2), none, (.mv (.c (.val (.int .u64 9221120237041090560))))⟩ :: []
def vc_floats_Canon_r2 : VCode := (.keep [0, 5] (.cond (.t 5) (.seq (.region false vc_floats_Canon_o2) (.keep [2] .ret)) .skip))
def vc_floats_Canon_o3 : List VO := ⟨(some 3), none, (.mv (.t 0))⟩ :: ⟨(some 4), none, (.call 92 [] [(.t 3)])⟩ :: ⟨(some 5), none, (.bin .eql (.t 4) (.c (.val (.int .i64 1))))⟩ :: []
def vc_floats_Canon_r3 : VCode := (.keep [0] (.seq (.seq (.region false vc_floats_Canon_o3) vc_floats_Canon_r2) vc_floats_Canon_r1))
def vc_floats_Canon_o4 : List VO := ⟨(some 2), none, (.mv (.c (.val (.int .u64 0))))⟩ :: []
def vc_floats_Canon : VCode := (.seq (.region false vc_floats_Canon_o4) vc_floats_Canon_r3)
def rs_floats_Canon : List RV := [(.t 2)]
theorem comp_floats_Canon : ccode Try.prog (Try.f38.body.getD .skip) = some (strip vc_floats_Canon) := by kernel_rfl
theorem code_floats_Canon : IsCode Try.prog id_floats_Canon 7 vc_floats_Canon rs_floats_Canon := ⟨_, _, Try.func38, by kernel_rfl, rfl, comp_floats_Canon, by kernel_rfl, by kernel_rfl, rfl⟩

/- usher/floats.Order -/
def vc_floats_Order_o1 : List VO := ⟨(some 4), none, (.mv (.c (.val (.int .i64 0))))⟩ :: []
def vc_floats_Order_r1 : VCode := (.keep [] (.seq (.region false vc_floats_Order_o1) (.keep [4] .ret)))
def vc_floats_Order_o2 : List VO := ⟨(some 4), none, (.mv (.c (.val (.int .i64 (-1)))))⟩ :: []
def vc_floats_Order_o3 : List VO := ⟨(some 4), none, (.mv (.c (.val (.int .i64 1))))⟩ :: []
def vc_floats_Order_r2 : VCode := (.keep [15] (.cond (.t 15) (.seq (.region false vc_floats_Order_o3) (.keep [4] .ret)) .skip))
def vc_floats_Order_o4 : List VO := ⟨(some 16), none, (.mv (.t 5))⟩ :: ⟨(some 17), none, (.mv (.t 6))⟩ :: ⟨none, none, .kp [16, 17]⟩ :: ⟨(some 18), none, (.bin .gtr (.t 16) (.t 17))⟩ :: ⟨none, none, .kp [18]⟩ :: ⟨(some 15), none, (.mv (.t 18))⟩ :: []
def vc_floats_Order_r3 : VCode := (.keep [5, 6, 11] (.cond (.t 11) (.seq (.region false vc_floats_Order_o2) (.keep [4] .ret)) (.seq (.region false vc_floats_Order_o4) vc_floats_Order_r2)))
def vc_floats_Order_o5 : List VO := ⟨(some 12), none, (.mv (.t 5))⟩ :: ⟨(some 13), none, (.mv (.t 6))⟩ :: ⟨(some 14), none, (.bin .lss (.t 12) (.t 13))⟩ :: ⟨none, none, .kp [5, 6, 14]⟩ :: ⟨(some 11), none, (.mv (.t 14))⟩ :: []
def vc_floats_Order_r4 : VCode := (.keep [5, 6] (.block 0 (.seq (.region false vc_floats_Order_o5) vc_floats_Order_r3)))
def vc_floats_Order_o6_1 : List VO := ⟨(some 6), none, (.mv (.t 10))⟩ :: []
def vc_floats_Order_o6 : List VO := ⟨(some 7), none, (.mv (.t 0))⟩ :: ⟨(some 8), none, (.call 120 [] [(.t 7)])⟩ :: ⟨none, none, .kp [1, 8]⟩ :: ⟨(some 9), none, (.mv (.t 1))⟩ :: ⟨(some 10), none, (.call 120 [] [(.t 9)])⟩ :: ⟨none, none, .kp [8, 10]⟩ :: ⟨(some 5), none, (.mv (.t 8))⟩ :: vc_floats_Order_o6_1
def vc_floats_Order_r5 : VCode := (.keep [0, 1] (.seq (.seq (.region false vc_floats_Order_o6) vc_floats_Order_r4) vc_floats_Order_r1))
def vc_floats_Order_o7 : List VO := ⟨(some 4), none, (.mv (.c (.val (.int .i64 0))))⟩ :: []
def vc_floats_Order : VCode := (.seq (.region false vc_floats_Order_o7) vc_floats_Order_r5)
def rs_floats_Order : List RV := [(.t 4)]
theorem comp_floats_Order : ccode Try.prog (Try.f67.body.getD .skip) = some (strip vc_floats_Order) := by kernel_rfl
theorem code_floats_Order : IsCode Try.prog id_floats_Order 19 vc_floats_Order rs_floats_Order := ⟨_, _, Try.func67, by kernel_rfl, rfl, comp_floats_Order, by kernel_rfl, by kernel_rfl, rfl⟩

/- usher/floats.Kind -/
def vc_floats_Kind_o1 : List VO := ⟨(some 2), none, (.mv (.c (.val (.int .i64 5))))⟩ :: []
def vc_floats_Kind_r1 : VCode := (.keep [] (.seq (.region false vc_floats_Kind_o1) (.keep [2] .ret)))
def vc_floats_Kind_o2 : List VO := ⟨(some 2), none, (.mv (.c (.val (.int .i64 1))))⟩ :: []
def vc_floats_Kind_o3 : List VO := ⟨(some 2), none, (.mv (.c (.val (.int .i64 2))))⟩ :: []
def vc_floats_Kind_o4 : List VO := ⟨(some 2), none, (.mv (.c (.val (.int .i64 3))))⟩ :: []
def vc_floats_Kind_o5 : List VO := ⟨(some 2), none, (.mv (.c (.val (.int .i64 4))))⟩ :: []
def vc_floats_Kind_r2 : VCode := (.keep [26] (.cond (.t 26) (.seq (.region false vc_floats_Kind_o5) (.keep [2] .ret)) .skip))
def vc_floats_Kind_o6 : List VO := ⟨(some 27), none, (.mv (.t 3))⟩ :: ⟨(some 28), none, (.bin .eql (.t 27) (.c (.val (.int .u64 0))))⟩ :: ⟨none, none, .kp [28]⟩ :: ⟨(some 26), none, (.mv (.t 28))⟩ :: []
def vc_floats_Kind_r3 : VCode := (.keep [3, 19] (.cond (.t 19) (.seq (.region false vc_floats_Kind_o4) (.keep [2] .ret)) (.seq (.region false vc_floats_Kind_o6) vc_floats_Kind_r2)))
def vc_floats_Kind_o7_1 : List VO := ⟨(some 25), none, (.pick (.t 22) (.t 24) (.c (.val (.bool false))))⟩ :: ⟨none, none, .kp [3, 25]⟩ :: ⟨(some 19), none, (.mv (.t 25))⟩ :: []
def vc_floats_Kind_o7 : List VO := ⟨(some 20), none, (.mv (.t 3))⟩ :: ⟨(some 21), none, (.bin .eql (.t 20) (.c (.val (.int .u64 0))))⟩ :: ⟨(some 22), none, (.mv (.t 21))⟩ :: ⟨none, none, .kp [3, 4, 22]⟩ :: ⟨(some 23), (some (22, true)), (.mv (.t 4))⟩ :: ⟨(some 24), (some (22, true)), (.bin .eql (.t 23) (.c (.val (.int .u64 0))))⟩ :: ⟨none, none, .kp [3, 22, 24]⟩ :: vc_floats_Kind_o7_1
def vc_floats_Kind_r4 : VCode := (.keep [3, 4, 16] (.cond (.t 16) (.seq (.region false vc_floats_Kind_o3) (.keep [2] .ret)) (.seq (.region false vc_floats_Kind_o7) vc_floats_Kind_r3)))
def vc_floats_Kind_o8 : List VO := ⟨(some 17), none, (.mv (.t 3))⟩ :: ⟨(some 18), none, (.bin .eql (.t 17) (.c (.val (.int .u64 9218868437227405312))))⟩ :: ⟨(some 16), none, (.mv (.t 18))⟩ :: []
def vc_floats_Kind_r5 : VCode := (.keep [3, 4, 9] (.cond (.t 9) (.seq (.region false vc_floats_Kind_o2) (.keep [2] .ret)) (.seq (.region false vc_floats_Kind_o8) vc_floats_Kind_r4)))
def vc_floats_Kind_o9_1 : List VO := ⟨(some 15), none, (.pick (.t 12) (.t 14) (.c (.val (.bool false))))⟩ :: ⟨none, none, .kp [3, 4, 15]⟩ :: ⟨(some 9), none, (.mv (.t 15))⟩ :: []
def vc_floats_Kind_o9 : List VO := ⟨(some 10), none, (.mv (.t 3))⟩ :: ⟨(some 11), none, (.bin .eql (.t 10) (.c (.val (.int .u64 9218868437227405312))))⟩ :: ⟨(some 12), none, (.mv (.t 11))⟩ :: ⟨none, none, .kp [3, 4, 12]⟩ :: ⟨(some 13), (some (12, true)), (.mv (.t 4))⟩ :: ⟨(some 14), (some (12, true)), (.bin .neq (.t 13) (.c (.val (.int .u64 0))))⟩ :: vc_floats_Kind_o9_1
def vc_floats_Kind_r6 : VCode := (.keep [3, 4] (.seq (.block 0 (.seq (.region false vc_floats_Kind_o9) vc_floats_Kind_r5)) vc_floats_Kind_r1))
def vc_floats_Kind_o10_1 : List VO := ⟨(some 4), none, (.mv (.t 8))⟩ :: []
def vc_floats_Kind_o10 : List VO := ⟨(some 5), none, (.mv (.t 0))⟩ :: ⟨(some 6), none, (.bin .and (.t 5) (.c (.val (.int .u64 9218868437227405312))))⟩ :: ⟨(some 7), none, (.mv (.t 0))⟩ :: ⟨none, none, .kp [6, 7]⟩ :: ⟨(some 8), none, (.bin .and (.t 7) (.c (.val (.int .u64 4503599627370495))))⟩ :: ⟨(some 3), none, (.mv (.t 6))⟩ :: ⟨none, none, .kp [3, 8]⟩ :: vc_floats_Kind_o10_1
def vc_floats_Kind_r7 : VCode := (.keep [0] (.seq (.region false vc_floats_Kind_o10) vc_floats_Kind_r6))
def vc_floats_Kind_o11 : List VO := ⟨(some 2), none, (.mv (.c (.val (.int .i64 0))))⟩ :: []
def vc_floats_Kind : VCode := (.seq (.region false vc_floats_Kind_o11) vc_floats_Kind_r7)
def rs_floats_Kind : List RV := [(.t 2)]
theorem comp_floats_Kind : ccode Try.prog (Try.f92.body.getD .skip) = some (strip vc_floats_Kind) := by kernel_rfl
theorem code_floats_Kind : IsCode Try.prog id_floats_Kind 29 vc_floats_Kind rs_floats_Kind := ⟨_, _, Try.func92, by kernel_rfl, rfl, comp_floats_Kind, by kernel_rfl, by kernel_rfl, rfl⟩

/- usher/floats.key -/
def vc_floats_key_o1 : List VO := ⟨(some 14), none, (.mv (.t 0))⟩ :: ⟨(some 15), none, (.bin .or (.t 14) (.c (.val (.int .u64 9223372036854775808))))⟩ :: ⟨none, none, .kp [15]⟩ :: ⟨(some 2), none, (.mv (.t 15))⟩ :: []
def vc_floats_key_r1 : VCode := (.keep [0] (.seq (.region false vc_floats_key_o1) (.keep [2] .ret)))
def vc_floats_key_o2 : List VO := ⟨(some 2), none, (.mv (.c (.val (.int .u64 18446744073709551615))))⟩ :: []
def vc_floats_key_o3 : List VO := ⟨(some 12), none, (.mv (.t 0))⟩ :: ⟨(some 13), none, (.un .xor (.t 12))⟩ :: ⟨none, none, .kp [13]⟩ :: ⟨(some 2), none, (.mv (.t 13))⟩ :: []
def vc_floats_key_r2 : VCode := (.keep [0, 8] (.cond (.t 8) (.seq (.region false vc_floats_key_o3) (.keep [2] .ret)) .skip))
def vc_floats_key_o4 : List VO := ⟨(some 9), none, (.mv (.t 0))⟩ :: ⟨(some 10), none, (.bin .and (.t 9) (.c (.val (.int .u64 9223372036854775808))))⟩ :: ⟨(some 11), none, (.bin .neq (.t 10) (.c (.val (.int .u64 0))))⟩ :: ⟨none, none, .kp [0, 11]⟩ :: ⟨(some 8), none, (.mv (.t 11))⟩ :: []
def vc_floats_key_r3 : VCode := (.keep [0, 5] (.cond (.t 5) (.seq (.region false vc_floats_key_o2) (.keep [2] .ret)) (.seq (.region false vc_floats_key_o4) vc_floats_key_r2)))
def vc_floats_key_o5 : List VO := ⟨(some 6), none, (.mv (.t 0))⟩ :: ⟨(some 7), none, (.bin .eql (.t 6) (.c (.val (.int .u64 9221120237041090560))))⟩ :: ⟨(some 5), none, (.mv (.t 7))⟩ :: []
def vc_floats_key_r4 : VCode := (.keep [0] (.block 0 (.seq (.region false vc_floats_key_o5) vc_floats_key_r3)))
def vc_floats_key_o6 : List VO := ⟨(some 3), none, (.mv (.t 0))⟩ :: ⟨(some 4), none, (.call 38 [] [(.t 3)])⟩ :: ⟨none, none, .kp [4]⟩ :: ⟨(some 0), none, (.mv (.t 4))⟩ :: []
def vc_floats_key_r5 : VCode := (.keep [0] (.seq (.seq (.region false vc_floats_key_o6) vc_floats_key_r4) vc_floats_key_r1))
def vc_floats_key_o7 : List VO := ⟨(some 2), none, (.mv (.c (.val (.int .u64 0))))⟩ :: []
def vc_floats_key : VCode := (.seq (.region false vc_floats_key_o7) vc_floats_key_r5)
def rs_floats_key : List RV := [(.t 2)]
theorem comp_floats_key : ccode Try.prog (Try.f120.body.getD .skip) = some (strip vc_floats_key) := by kernel_rfl
theorem code_floats_key : IsCode Try.prog id_floats_key 16 vc_floats_key rs_floats_key := ⟨_, _, Try.func120, by kernel_rfl, rfl, comp_floats_key, by kernel_rfl, by kernel_rfl, rfl⟩

end Go.Proofs.Ytlodbaikbgbhjaa
