/- The code of functions, for the abstract machine, and that it is theirs. Printed by vc2.py. -/
import Derived.Test.YtlodbaikbgbhjaaIds
set_option linter.unusedVariables false
set_option maxRecDepth 100000
namespace Go.Proofs.Ytlodbaikbgbhjaa
open Go Go.Vm

/- usher/usherref01.Canon -/
def vc_ref01_Canon_o1 : List VO := ⟨(some 9), none, (.mv (.t 0))⟩ :: ⟨(some 2), none, (.mv (.t 9))⟩ :: []
def vc_ref01_Canon_r1 : VCode := (.keep [0] (.seq (.region false vc_ref01_Canon_o1) (.keep [2] .ret)))
def vc_ref01_Canon_o2 : List VO := ⟨(some 2), none, (.mv (.c (.val (.int .u64 9221120237041090560))))⟩ :: []
def vc_ref01_Canon_r2 : VCode := (.keep [0, 8] (.cond (.t 8) (.seq (.region false vc_ref01_Canon_o2) (.keep [2] .ret)) .skip))
def vc_ref01_Canon_o3 : List VO := ⟨(some 6), none, (.mv (.t 3))⟩ :: ⟨(some 7), none, (.mv (.t 3))⟩ :: ⟨(some 8), none, (.bin .neq (.t 6) (.t 7))⟩ :: []
def vc_ref01_Canon_r3 : VCode := (.keep [0, 3] (.seq (.seq (.region false vc_ref01_Canon_o3) vc_ref01_Canon_r2) vc_ref01_Canon_r1))
def vc_ref01_Canon_o4 : List VO := ⟨(some 4), none, (.mv (.t 0))⟩ :: ⟨(some 5), none, (.call 115 [] [(.t 4)])⟩ :: ⟨(some 3), none, (.mv (.t 5))⟩ :: []
def vc_ref01_Canon_r4 : VCode := (.keep [0] (.seq (.region false vc_ref01_Canon_o4) vc_ref01_Canon_r3))
def vc_ref01_Canon_o5 : List VO := ⟨(some 2), none, (.mv (.c (.val (.int .u64 0))))⟩ :: []
def vc_ref01_Canon : VCode := (.seq (.region false vc_ref01_Canon_o5) vc_ref01_Canon_r4)
def rs_ref01_Canon : List RV := [(.t 2)]
theorem comp_ref01_Canon : ccode Try.prog (Try.f61.body.getD .skip) = some (strip vc_ref01_Canon) := by kernel_rfl
theorem code_ref01_Canon : IsCode Try.prog id_ref01_Canon 10 vc_ref01_Canon rs_ref01_Canon := ⟨_, _, Try.func61, by kernel_rfl, rfl, comp_ref01_Canon, by kernel_rfl, by kernel_rfl, rfl⟩

/- usher/usherref01.Order -/
def vc_ref01_Order_o1 : List VO := ⟨(some 4), none, (.mv (.c (.val (.int .i64 0))))⟩ :: []
def vc_ref01_Order_r1 : VCode := (.keep [] (.seq (.region false vc_ref01_Order_o1) (.keep [4] .ret)))
def vc_ref01_Order_o2 : List VO := ⟨(some 4), none, (.mv (.c (.val (.int .i64 1))))⟩ :: []
def vc_ref01_Order_r2 : VCode := (.keep [56] (.cond (.t 56) (.seq (.region false vc_ref01_Order_o2) (.keep [4] .ret)) .skip))
def vc_ref01_Order_o3_3 : List VO := ⟨(some 56), none, (.pick (.t 44) (.c (.val (.bool true))) (.t 55))⟩ :: []
def vc_ref01_Order_o3_2 : List VO := ⟨(some 51), (some (44, false)), (.mv (.t 50))⟩ :: ⟨(some 52), (some (51, true)), (.mv (.t 0))⟩ :: ⟨none, none, .kp [1, 44, 51, 52]⟩ :: ⟨(some 53), (some (51, true)), (.mv (.t 1))⟩ :: ⟨(some 54), (some (51, true)), (.bin .lss (.t 52) (.t 53))⟩ :: ⟨none, none, .kp [44, 51, 54]⟩ :: ⟨(some 55), (some (44, false)), (.pick (.t 51) (.t 54) (.c (.val (.bool false))))⟩ :: ⟨none, none, .kp [44, 55]⟩ :: vc_ref01_Order_o3_3
def vc_ref01_Order_o3_1 : List VO := ⟨(some 46), (some (44, false)), (.bin .eql (.t 45) (.c (.val (.float .f64 0))))⟩ :: ⟨(some 47), (some (44, false)), (.mv (.t 46))⟩ :: ⟨none, none, .kp [0, 1, 6, 44, 47]⟩ :: ⟨(some 48), (some (47, true)), (.mv (.t 6))⟩ :: ⟨(some 49), (some (47, true)), (.bin .eql (.t 48) (.c (.val (.float .f64 0))))⟩ :: ⟨none, none, .kp [0, 1, 44, 47, 49]⟩ :: ⟨(some 50), (some (44, false)), (.pick (.t 47) (.t 49) (.c (.val (.bool false))))⟩ :: ⟨none, none, .kp [0, 1, 44, 50]⟩ :: vc_ref01_Order_o3_2
def vc_ref01_Order_o3 : List VO := ⟨(some 41), none, (.mv (.t 5))⟩ :: ⟨(some 42), none, (.mv (.t 6))⟩ :: ⟨(some 43), none, (.bin .gtr (.t 41) (.t 42))⟩ :: ⟨none, none, .kp [0, 1, 5, 6, 43]⟩ :: ⟨(some 44), none, (.mv (.t 43))⟩ :: ⟨(some 45), (some (44, false)), (.mv (.t 5))⟩ :: ⟨none, none, .kp [0, 1, 6, 44, 45]⟩ :: vc_ref01_Order_o3_1
def vc_ref01_Order_r3 : VCode := (.keep [0, 1, 5, 6] (.seq (.seq (.region false vc_ref01_Order_o3) vc_ref01_Order_r2) vc_ref01_Order_r1))
def vc_ref01_Order_o4 : List VO := ⟨(some 4), none, (.mv (.c (.val (.int .i64 (-1)))))⟩ :: []
def vc_ref01_Order_r4 : VCode := (.keep [0, 1, 5, 6, 40] (.cond (.t 40) (.seq (.region false vc_ref01_Order_o4) (.keep [4] .ret)) .skip))
def vc_ref01_Order_o5_3 : List VO := ⟨(some 40), none, (.pick (.t 28) (.c (.val (.bool true))) (.t 39))⟩ :: []
def vc_ref01_Order_o5_2 : List VO := ⟨(some 35), (some (28, false)), (.mv (.t 34))⟩ :: ⟨(some 36), (some (35, true)), (.mv (.t 0))⟩ :: ⟨(some 37), (some (35, true)), (.mv (.t 1))⟩ :: ⟨(some 38), (some (35, true)), (.bin .gtr (.t 36) (.t 37))⟩ :: ⟨none, none, .kp [0, 1, 5, 6, 28, 35, 38]⟩ :: ⟨(some 39), (some (28, false)), (.pick (.t 35) (.t 38) (.c (.val (.bool false))))⟩ :: ⟨none, none, .kp [0, 1, 5, 6, 28, 39]⟩ :: vc_ref01_Order_o5_3
def vc_ref01_Order_o5_1 : List VO := ⟨(some 30), (some (28, false)), (.bin .eql (.t 29) (.c (.val (.float .f64 0))))⟩ :: ⟨none, none, .kp [0, 1, 5, 6, 28, 30]⟩ :: ⟨(some 31), (some (28, false)), (.mv (.t 30))⟩ :: ⟨(some 32), (some (31, true)), (.mv (.t 6))⟩ :: ⟨(some 33), (some (31, true)), (.bin .eql (.t 32) (.c (.val (.float .f64 0))))⟩ :: ⟨none, none, .kp [0, 1, 5, 6, 28, 31, 33]⟩ :: ⟨(some 34), (some (28, false)), (.pick (.t 31) (.t 33) (.c (.val (.bool false))))⟩ :: ⟨none, none, .kp [0, 1, 5, 6, 28, 34]⟩ :: vc_ref01_Order_o5_2
def vc_ref01_Order_o5 : List VO := ⟨(some 25), none, (.mv (.t 5))⟩ :: ⟨(some 26), none, (.mv (.t 6))⟩ :: ⟨(some 27), none, (.bin .lss (.t 25) (.t 26))⟩ :: ⟨none, none, .kp [0, 1, 5, 6, 27]⟩ :: ⟨(some 28), none, (.mv (.t 27))⟩ :: ⟨(some 29), (some (28, false)), (.mv (.t 5))⟩ :: vc_ref01_Order_o5_1
def vc_ref01_Order_r5 : VCode := (.keep [0, 1, 5, 6] (.seq (.seq (.region false vc_ref01_Order_o5) vc_ref01_Order_r4) vc_ref01_Order_r3))
def vc_ref01_Order_o6_1 : List VO := ⟨(some 6), none, (.mv (.t 24))⟩ :: []
def vc_ref01_Order_o6 : List VO := ⟨(some 21), none, (.mv (.t 0))⟩ :: ⟨(some 22), none, (.call 115 [] [(.t 21)])⟩ :: ⟨(some 23), none, (.mv (.t 1))⟩ :: ⟨(some 24), none, (.call 115 [] [(.t 23)])⟩ :: ⟨none, none, .kp [0, 1, 22, 24]⟩ :: ⟨(some 5), none, (.mv (.t 22))⟩ :: vc_ref01_Order_o6_1
def vc_ref01_Order_r6 : VCode := (.keep [0, 1] (.seq (.region false vc_ref01_Order_o6) vc_ref01_Order_r5))
def vc_ref01_Order_o7 : List VO := ⟨(some 4), none, (.mv (.c (.val (.int .i64 (-1)))))⟩ :: []
def vc_ref01_Order_r7 : VCode := (.keep [] (.seq (.region false vc_ref01_Order_o7) (.keep [4] .ret)))
def vc_ref01_Order_o8 : List VO := ⟨(some 4), none, (.mv (.c (.val (.int .i64 1))))⟩ :: []
def vc_ref01_Order_r8 : VCode := (.keep [20] (.cond (.t 20) (.seq (.region false vc_ref01_Order_o8) (.keep [4] .ret)) .skip))
def vc_ref01_Order_o9 : List VO := ⟨(some 19), none, (.mv (.t 0))⟩ :: ⟨(some 20), none, (.call 122 [] [(.t 19)])⟩ :: []
def vc_ref01_Order_r9 : VCode := (.keep [0] (.seq (.seq (.region false vc_ref01_Order_o9) vc_ref01_Order_r8) vc_ref01_Order_r7))
def vc_ref01_Order_o10 : List VO := ⟨(some 4), none, (.mv (.c (.val (.int .i64 0))))⟩ :: []
def vc_ref01_Order_r10 : VCode := (.keep [0, 18] (.cond (.t 18) (.seq (.region false vc_ref01_Order_o10) (.keep [4] .ret)) .skip))
def vc_ref01_Order_o11_1 : List VO := ⟨(some 18), none, (.pick (.t 15) (.t 17) (.c (.val (.bool false))))⟩ :: []
def vc_ref01_Order_o11 : List VO := ⟨(some 13), none, (.mv (.t 0))⟩ :: ⟨(some 14), none, (.call 122 [] [(.t 13)])⟩ :: ⟨(some 15), none, (.mv (.t 14))⟩ :: ⟨none, none, .kp [0, 1, 15]⟩ :: ⟨(some 16), (some (15, true)), (.mv (.t 1))⟩ :: ⟨(some 17), (some (15, true)), (.call 122 [] [(.t 16)])⟩ :: ⟨none, none, .kp [0, 15, 17]⟩ :: vc_ref01_Order_o11_1
def vc_ref01_Order_c11 : VCode := (.seq (.seq (.region false vc_ref01_Order_o11) vc_ref01_Order_r10) vc_ref01_Order_r9)
def vc_ref01_Order_r12 : VCode := (.keep [0, 1, 12] (.cond (.t 12) vc_ref01_Order_c11 .skip))
def vc_ref01_Order_o12_1 : List VO := ⟨(some 12), none, (.pick (.t 9) (.c (.val (.bool true))) (.t 11))⟩ :: []
def vc_ref01_Order_o12 : List VO := ⟨(some 7), none, (.mv (.t 0))⟩ :: ⟨(some 8), none, (.call 122 [] [(.t 7)])⟩ :: ⟨(some 9), none, (.mv (.t 8))⟩ :: ⟨none, none, .kp [0, 1, 9]⟩ :: ⟨(some 10), (some (9, false)), (.mv (.t 1))⟩ :: ⟨(some 11), (some (9, false)), (.call 122 [] [(.t 10)])⟩ :: vc_ref01_Order_o12_1
def vc_ref01_Order_r13 : VCode := (.keep [0, 1] (.seq (.seq (.region false vc_ref01_Order_o12) vc_ref01_Order_r12) vc_ref01_Order_r6))
def vc_ref01_Order_o13 : List VO := ⟨(some 4), none, (.mv (.c (.val (.int .i64 0))))⟩ :: []
def vc_ref01_Order : VCode := (.seq (.region false vc_ref01_Order_o13) vc_ref01_Order_r13)
def rs_ref01_Order : List RV := [(.t 4)]
theorem comp_ref01_Order : ccode Try.prog (Try.f71.body.getD .skip) = some (strip vc_ref01_Order) := by kernel_rfl
theorem code_ref01_Order : IsCode Try.prog id_ref01_Order 57 vc_ref01_Order rs_ref01_Order := ⟨_, _, Try.func71, by kernel_rfl, rfl, comp_ref01_Order, by kernel_rfl, by kernel_rfl, rfl⟩

/- usher/usherref01.nan -/
def vc_ref01_nan_o1 : List VO := ⟨(some 6), none, (.mv (.t 3))⟩ :: ⟨(some 7), none, (.mv (.t 3))⟩ :: ⟨(some 8), none, (.bin .neq (.t 6) (.t 7))⟩ :: ⟨none, none, .kp [8]⟩ :: ⟨(some 2), none, (.mv (.t 8))⟩ :: []
def vc_ref01_nan_r1 : VCode := (.keep [3] (.seq (.region false vc_ref01_nan_o1) (.keep [2] .ret)))
def vc_ref01_nan_o2 : List VO := ⟨(some 4), none, (.mv (.t 0))⟩ :: ⟨(some 5), none, (.call 115 [] [(.t 4)])⟩ :: ⟨none, none, .kp [5]⟩ :: ⟨(some 3), none, (.mv (.t 5))⟩ :: []
def vc_ref01_nan_r2 : VCode := (.keep [0] (.seq (.region false vc_ref01_nan_o2) vc_ref01_nan_r1))
def vc_ref01_nan_o3 : List VO := ⟨(some 2), none, (.mv (.c (.val (.bool false))))⟩ :: []
def vc_ref01_nan : VCode := (.seq (.region false vc_ref01_nan_o3) vc_ref01_nan_r2)
def rs_ref01_nan : List RV := [(.t 2)]
theorem comp_ref01_nan : ccode Try.prog (Try.f122.body.getD .skip) = some (strip vc_ref01_nan) := by kernel_rfl
theorem code_ref01_nan : IsCode Try.prog id_ref01_nan 9 vc_ref01_nan rs_ref01_nan := ⟨_, _, Try.func122, by kernel_rfl, rfl, comp_ref01_nan, by kernel_rfl, by kernel_rfl, rfl⟩

end Go.Proofs.Ytlodbaikbgbhjaa
