/- The code of functions, for the abstract machine, and that it is theirs. Printed by vc2.py. -/
import Derived.Test.YtlodbaikbgbhjaaIds
set_option linter.unusedVariables false
set_option maxRecDepth 100000
namespace Go.Proofs.Ytlodbaikbgbhjaa
open Go Go.Vm

/- usher/usherlaw05.ValueOwn -/
def vc_law05_ValueOwn_o1_1 : List VO := ⟨(some 60), none, (.pick (.t 58) (.t 59) (.c (.val (.bool false))))⟩ :: ⟨none, none, .kp [60]⟩ :: ⟨(some 2), none, (.mv (.t 60))⟩ :: []
def vc_law05_ValueOwn_o1 : List VO := ⟨(some 55), none, (.load true 5 (.t 4))⟩ :: ⟨(some 56), none, (.load true 5 (.t 1))⟩ :: ⟨none, none, .kp [55, 56]⟩ :: ⟨(some 57), none, (.call 18 [] [(.t 55), (.t 56)])⟩ :: ⟨none, none, .kp [57]⟩ :: ⟨(some 58), none, (.mv (.t 57))⟩ :: ⟨(some 59), (some (58, true)), (.call 16 [] [])⟩ :: vc_law05_ValueOwn_o1_1
def vc_law05_ValueOwn_r1 : VCode := (.keep [1, 4] (.seq (.region false vc_law05_ValueOwn_o1) (.keep [2] .ret)))
def vc_law05_ValueOwn_o2 : List VO := ⟨(some 54), none, (.bin .add (.t 18) (.c (.val (.int .i64 1))))⟩ :: ⟨(some 18), none, (.mv (.t 54))⟩ :: []
def vc_law05_ValueOwn_r2 : VCode := (.keep [1, 3, 4, 17, 18] (.region false vc_law05_ValueOwn_o2))
def vc_law05_ValueOwn_o3 : List VO := ⟨(some 53), none, (.bin .add (.t 37) (.c (.val (.int .i64 1))))⟩ :: ⟨(some 37), none, (.mv (.t 53))⟩ :: []
def vc_law05_ValueOwn_r3 : VCode := (.keep [1, 3, 4, 5, 17, 18, 36, 37] (.region false vc_law05_ValueOwn_o3))
def vc_law05_ValueOwn_o4_2 : List VO := ⟨(some 50), none, (.bin .add (.t 49) (.c (.val (.string ⟨#[120]⟩))))⟩ :: ⟨none, none, .kp [1, 3, 4, 5, 17, 18, 36, 37, 45, 46, 50]⟩ :: ⟨(some 51), none, (.idx 5 (.t 45) (.t 46))⟩ :: ⟨none, none, .kp [1, 3, 4, 5, 17, 18, 36, 37, 50, 51]⟩ :: ⟨(some 52), none, (.fld 3 (.t 51))⟩ :: ⟨none, none, (.store 1 (.t 52) (.t 50))⟩ :: []
def vc_law05_ValueOwn_o4_1 : List VO := ⟨(some 45), none, (.load false 1 (.t 44))⟩ :: ⟨none, none, .kp [1, 3, 4, 5, 6, 17, 18, 36, 37, 45]⟩ :: ⟨(some 46), none, (.mv (.t 6))⟩ :: ⟨(some 47), none, (.idx 5 (.t 45) (.t 46))⟩ :: ⟨(some 48), none, (.fld 3 (.t 47))⟩ :: ⟨none, none, .kp [1, 3, 4, 5, 17, 18, 36, 37, 45, 46, 48]⟩ :: ⟨(some 49), none, (.load false 1 (.t 48))⟩ :: vc_law05_ValueOwn_o4_2
def vc_law05_ValueOwn_o4 : List VO := ⟨(some 40), none, (.fld 4 (.t 3))⟩ :: ⟨(some 41), none, (.load false 1 (.t 40))⟩ :: ⟨(some 42), none, (.mv (.t 5))⟩ :: ⟨(some 43), none, (.idx 5 (.t 41) (.t 42))⟩ :: ⟨none, none, .kp [1, 3, 4, 5, 6, 17, 18, 36, 37, 43]⟩ :: ⟨(some 44), none, (.fld 4 (.t 43))⟩ :: vc_law05_ValueOwn_o4_1
def vc_law05_ValueOwn_r4 : VCode := (.keep [1, 3, 4, 5, 6, 17, 18, 36, 37] (.region false vc_law05_ValueOwn_o4))
def vc_law05_ValueOwn_o5 : List VO := ⟨(some 39), none, (.mv (.t 37))⟩ :: ⟨(some 6), none, (.mv (.t 39))⟩ :: []
def vc_law05_ValueOwn_c5 : VCode := (.seq (.region false vc_law05_ValueOwn_o5) vc_law05_ValueOwn_r4)
def vc_law05_ValueOwn_r6 : VCode := (.keep [1, 3, 4, 5, 17, 18, 36, 37] (.seq (.block 3 vc_law05_ValueOwn_c5) vc_law05_ValueOwn_r3))
def vc_law05_ValueOwn_r7 : VCode := (.keep [1, 3, 4, 5, 17, 18, 36, 37, 38] (.seq (.cond (.t 38) .skip (.exit 2)) vc_law05_ValueOwn_r6))
def vc_law05_ValueOwn_o6 : List VO := ⟨(some 38), none, (.bin .lss (.t 37) (.t 36))⟩ :: []
def vc_law05_ValueOwn_l8 : VCode := (.seq (.region false vc_law05_ValueOwn_o6) vc_law05_ValueOwn_r7)
def vc_law05_ValueOwn_c9 : VCode := (.loop (.keep [1, 3, 4, 5, 17, 18, 36, 37] vc_law05_ValueOwn_l8))
def vc_law05_ValueOwn_r10 : VCode := (.keep [1, 3, 4, 5, 17, 18, 36, 37] (.block 2 vc_law05_ValueOwn_c9))
def vc_law05_ValueOwn_o7_1 : List VO := ⟨(some 35), none, (.load false 1 (.t 34))⟩ :: ⟨none, none, .kp [1, 3, 4, 5, 17, 18, 35]⟩ :: ⟨(some 36), none, (.len (.t 35))⟩ :: ⟨(some 37), none, (.mv (.c (.val (.int .i64 0))))⟩ :: []
def vc_law05_ValueOwn_o7 : List VO := ⟨(some 30), none, (.fld 4 (.t 3))⟩ :: ⟨(some 31), none, (.load false 1 (.t 30))⟩ :: ⟨(some 32), none, (.mv (.t 5))⟩ :: ⟨(some 33), none, (.idx 5 (.t 31) (.t 32))⟩ :: ⟨none, none, .kp [1, 3, 4, 5, 17, 18, 33]⟩ :: ⟨(some 34), none, (.fld 4 (.t 33))⟩ :: vc_law05_ValueOwn_o7_1
def vc_law05_ValueOwn_r11 : VCode := (.keep [1, 3, 4, 5, 17, 18] (.seq (.region false vc_law05_ValueOwn_o7) vc_law05_ValueOwn_r10))
def vc_law05_ValueOwn_o8_1 : List VO := ⟨(some 26), none, (.load false 1 (.t 25))⟩ :: ⟨(some 27), none, (.bin .add (.t 26) (.c (.val (.int .i64 1))))⟩ :: ⟨none, none, .kp [1, 3, 4, 5, 17, 18, 22, 23, 27]⟩ :: ⟨(some 28), none, (.idx 5 (.t 22) (.t 23))⟩ :: ⟨none, none, .kp [1, 3, 4, 5, 17, 18, 27, 28]⟩ :: ⟨(some 29), none, (.fld 1 (.t 28))⟩ :: ⟨none, none, (.store 1 (.t 29) (.t 27))⟩ :: []
def vc_law05_ValueOwn_o8 : List VO := ⟨(some 21), none, (.fld 4 (.t 3))⟩ :: ⟨(some 22), none, (.load false 1 (.t 21))⟩ :: ⟨(some 23), none, (.mv (.t 5))⟩ :: ⟨(some 24), none, (.idx 5 (.t 22) (.t 23))⟩ :: ⟨(some 25), none, (.fld 1 (.t 24))⟩ :: ⟨none, none, .kp [1, 3, 4, 5, 17, 18, 22, 23, 25]⟩ :: vc_law05_ValueOwn_o8_1
def vc_law05_ValueOwn_r12 : VCode := (.keep [1, 3, 4, 5, 17, 18] (.seq (.region false vc_law05_ValueOwn_o8) vc_law05_ValueOwn_r11))
def vc_law05_ValueOwn_o9 : List VO := ⟨(some 20), none, (.mv (.t 18))⟩ :: ⟨(some 5), none, (.mv (.t 20))⟩ :: []
def vc_law05_ValueOwn_c13 : VCode := (.seq (.region false vc_law05_ValueOwn_o9) vc_law05_ValueOwn_r12)
def vc_law05_ValueOwn_r14 : VCode := (.keep [1, 3, 4, 17, 18] (.seq (.block 1 vc_law05_ValueOwn_c13) vc_law05_ValueOwn_r2))
def vc_law05_ValueOwn_r15 : VCode := (.keep [1, 3, 4, 17, 18, 19] (.seq (.cond (.t 19) .skip (.exit 0)) vc_law05_ValueOwn_r14))
def vc_law05_ValueOwn_o10 : List VO := ⟨(some 19), none, (.bin .lss (.t 18) (.t 17))⟩ :: []
def vc_law05_ValueOwn_l16 : VCode := (.seq (.region false vc_law05_ValueOwn_o10) vc_law05_ValueOwn_r15)
def vc_law05_ValueOwn_r17 : VCode := (.keep [1, 3, 4, 17, 18] (.block 0 (.loop (.keep [1, 3, 4, 17, 18] vc_law05_ValueOwn_l16))))
def vc_law05_ValueOwn_o11 : List VO := ⟨(some 15), none, (.fld 4 (.t 3))⟩ :: ⟨(some 16), none, (.load false 1 (.t 15))⟩ :: ⟨(some 17), none, (.len (.t 16))⟩ :: ⟨none, none, .kp [1, 3, 4, 17]⟩ :: ⟨(some 18), none, (.mv (.c (.val (.int .i64 0))))⟩ :: []
def vc_law05_ValueOwn_r18 : VCode := (.keep [1, 3, 4] (.seq (.seq (.region false vc_law05_ValueOwn_o11) vc_law05_ValueOwn_r17) vc_law05_ValueOwn_r1))
def vc_law05_ValueOwn_d12 : DT := (.op false [1] ⟨(some 3), none, (.alloc 25 [(.val (.int .i64 0)), (.val (.int .i64 0)), (.val (.int .u64 0)), (.val (.string ⟨#[]⟩)), (.val (.slice none 0 0))])⟩ (.op false [1] ⟨(some 4), none, (.alloc 25 [(.val (.int .i64 0)), (.val (.int .i64 0)), (.val (.int .u64 0)), (.val (.string ⟨#[]⟩)), (.val (.slice none 0 0))])⟩ (.op false [1] ⟨none, none, (.store 5 (.t 3) (.t 12))⟩ (.op false [] ⟨none, none, (.store 5 (.t 4) (.t 14))⟩ .done))))
def vc_law05_ValueOwn_d13 : DT := (.op false [1] ⟨(some 4), none, (.alloc 25 [(.val (.int .i64 0)), (.val (.int .i64 0)), (.val (.int .u64 0)), (.val (.string ⟨#[]⟩)), (.val (.slice none 0 0))])⟩ (.op false [1] ⟨(some 3), none, (.alloc 25 [(.val (.int .i64 0)), (.val (.int .i64 0)), (.val (.int .u64 0)), (.val (.string ⟨#[]⟩)), (.val (.slice none 0 0))])⟩ (.op false [1] ⟨none, none, (.store 5 (.t 3) (.t 12))⟩ (.op false [] ⟨none, none, (.store 5 (.t 4) (.t 14))⟩ .done))))
def vc_law05_ValueOwn_d14 : DT := (.op false [1] ⟨(some 14), none, (.call 17 [] [(.t 13)])⟩ (.both vc_law05_ValueOwn_d12 vc_law05_ValueOwn_d13))
def vc_law05_ValueOwn_d15 : DT := (.op false [1] ⟨(some 14), none, (.call 17 [] [(.t 13)])⟩ (.op false [1] ⟨(some 4), none, (.alloc 25 [(.val (.int .i64 0)), (.val (.int .i64 0)), (.val (.int .u64 0)), (.val (.string ⟨#[]⟩)), (.val (.slice none 0 0))])⟩ (.op false [1] ⟨none, none, (.store 5 (.t 3) (.t 12))⟩ (.op false [] ⟨none, none, (.store 5 (.t 4) (.t 14))⟩ .done))))
def vc_law05_ValueOwn_d16 : DT := (.op false [1] ⟨(some 4), none, (.alloc 25 [(.val (.int .i64 0)), (.val (.int .i64 0)), (.val (.int .u64 0)), (.val (.string ⟨#[]⟩)), (.val (.slice none 0 0))])⟩ (.op false [1] ⟨(some 14), none, (.call 17 [] [(.t 13)])⟩ (.op false [1] ⟨none, none, (.store 5 (.t 3) (.t 12))⟩ (.op false [] ⟨none, none, (.store 5 (.t 4) (.t 14))⟩ .done))))
def vc_law05_ValueOwn_d17 : DT := (.op false [1] ⟨(some 3), none, (.alloc 25 [(.val (.int .i64 0)), (.val (.int .i64 0)), (.val (.int .u64 0)), (.val (.string ⟨#[]⟩)), (.val (.slice none 0 0))])⟩ (.both vc_law05_ValueOwn_d15 vc_law05_ValueOwn_d16))
def vc_law05_ValueOwn_d18 : DT := (.op false [1] ⟨(some 14), none, (.call 17 [] [(.t 13)])⟩ (.op false [1] ⟨(some 3), none, (.alloc 25 [(.val (.int .i64 0)), (.val (.int .i64 0)), (.val (.int .u64 0)), (.val (.string ⟨#[]⟩)), (.val (.slice none 0 0))])⟩ (.op false [1] ⟨none, none, (.store 5 (.t 3) (.t 12))⟩ (.op false [] ⟨none, none, (.store 5 (.t 4) (.t 14))⟩ .done))))
def vc_law05_ValueOwn_d19 : DT := (.op false [1] ⟨(some 3), none, (.alloc 25 [(.val (.int .i64 0)), (.val (.int .i64 0)), (.val (.int .u64 0)), (.val (.string ⟨#[]⟩)), (.val (.slice none 0 0))])⟩ (.op false [1] ⟨(some 14), none, (.call 17 [] [(.t 13)])⟩ (.op false [1] ⟨none, none, (.store 5 (.t 3) (.t 12))⟩ (.op false [] ⟨none, none, (.store 5 (.t 4) (.t 14))⟩ .done))))
def vc_law05_ValueOwn_d20 : DT := (.op false [1] ⟨(some 4), none, (.alloc 25 [(.val (.int .i64 0)), (.val (.int .i64 0)), (.val (.int .u64 0)), (.val (.string ⟨#[]⟩)), (.val (.slice none 0 0))])⟩ (.both vc_law05_ValueOwn_d18 vc_law05_ValueOwn_d19))
def vc_law05_ValueOwn_d21 : DT := (.op false [1] ⟨(some 12), none, (.call 17 [] [(.t 11)])⟩ (.both vc_law05_ValueOwn_d14 (.both vc_law05_ValueOwn_d17 vc_law05_ValueOwn_d20)))
def vc_law05_ValueOwn_d22 : DT := (.op false [1] ⟨(some 14), none, (.call 17 [] [(.t 13)])⟩ (.op false [1] ⟨(some 4), none, (.alloc 25 [(.val (.int .i64 0)), (.val (.int .i64 0)), (.val (.int .u64 0)), (.val (.string ⟨#[]⟩)), (.val (.slice none 0 0))])⟩ (.op false [1] ⟨none, none, (.store 5 (.t 3) (.t 12))⟩ (.op false [] ⟨none, none, (.store 5 (.t 4) (.t 14))⟩ .done))))
def vc_law05_ValueOwn_d23 : DT := (.op false [1] ⟨(some 4), none, (.alloc 25 [(.val (.int .i64 0)), (.val (.int .i64 0)), (.val (.int .u64 0)), (.val (.string ⟨#[]⟩)), (.val (.slice none 0 0))])⟩ (.op false [1] ⟨(some 14), none, (.call 17 [] [(.t 13)])⟩ (.op false [1] ⟨none, none, (.store 5 (.t 3) (.t 12))⟩ (.op false [] ⟨none, none, (.store 5 (.t 4) (.t 14))⟩ .done))))
def vc_law05_ValueOwn_d24 : DT := (.op false [1] ⟨(some 12), none, (.call 17 [] [(.t 11)])⟩ (.both vc_law05_ValueOwn_d22 vc_law05_ValueOwn_d23))
def vc_law05_ValueOwn_d25 : DT := (.op false [] ⟨none, none, (.store 5 (.t 4) (.t 14))⟩ .done)
def vc_law05_ValueOwn_d26 : DT := (.op false [1] ⟨(some 4), none, (.alloc 25 [(.val (.int .i64 0)), (.val (.int .i64 0)), (.val (.int .u64 0)), (.val (.string ⟨#[]⟩)), (.val (.slice none 0 0))])⟩ (.op false [1] ⟨(some 12), none, (.call 17 [] [(.t 11)])⟩ (.op false [1] ⟨(some 14), none, (.call 17 [] [(.t 13)])⟩ (.op false [1] ⟨none, none, (.store 5 (.t 3) (.t 12))⟩ vc_law05_ValueOwn_d25))))
def vc_law05_ValueOwn_d27 : DT := (.op false [1] ⟨(some 3), none, (.alloc 25 [(.val (.int .i64 0)), (.val (.int .i64 0)), (.val (.int .u64 0)), (.val (.string ⟨#[]⟩)), (.val (.slice none 0 0))])⟩ (.both vc_law05_ValueOwn_d24 vc_law05_ValueOwn_d26))
def vc_law05_ValueOwn_d28 : DT := (.op false [1] ⟨(some 14), none, (.call 17 [] [(.t 13)])⟩ (.op false [1] ⟨(some 3), none, (.alloc 25 [(.val (.int .i64 0)), (.val (.int .i64 0)), (.val (.int .u64 0)), (.val (.string ⟨#[]⟩)), (.val (.slice none 0 0))])⟩ (.op false [1] ⟨none, none, (.store 5 (.t 3) (.t 12))⟩ (.op false [] ⟨none, none, (.store 5 (.t 4) (.t 14))⟩ .done))))
def vc_law05_ValueOwn_d29 : DT := (.op false [1] ⟨(some 3), none, (.alloc 25 [(.val (.int .i64 0)), (.val (.int .i64 0)), (.val (.int .u64 0)), (.val (.string ⟨#[]⟩)), (.val (.slice none 0 0))])⟩ (.op false [1] ⟨(some 14), none, (.call 17 [] [(.t 13)])⟩ (.op false [1] ⟨none, none, (.store 5 (.t 3) (.t 12))⟩ (.op false [] ⟨none, none, (.store 5 (.t 4) (.t 14))⟩ .done))))
def vc_law05_ValueOwn_d30 : DT := (.op false [1] ⟨(some 12), none, (.call 17 [] [(.t 11)])⟩ (.both vc_law05_ValueOwn_d28 vc_law05_ValueOwn_d29))
def vc_law05_ValueOwn_d31 : DT := (.op false [] ⟨none, none, (.store 5 (.t 4) (.t 14))⟩ .done)
def vc_law05_ValueOwn_d32 : DT := (.op false [1] ⟨(some 3), none, (.alloc 25 [(.val (.int .i64 0)), (.val (.int .i64 0)), (.val (.int .u64 0)), (.val (.string ⟨#[]⟩)), (.val (.slice none 0 0))])⟩ (.op false [1] ⟨(some 12), none, (.call 17 [] [(.t 11)])⟩ (.op false [1] ⟨(some 14), none, (.call 17 [] [(.t 13)])⟩ (.op false [1] ⟨none, none, (.store 5 (.t 3) (.t 12))⟩ vc_law05_ValueOwn_d31))))
def vc_law05_ValueOwn_d33 : DT := (.op false [1] ⟨(some 4), none, (.alloc 25 [(.val (.int .i64 0)), (.val (.int .i64 0)), (.val (.int .u64 0)), (.val (.string ⟨#[]⟩)), (.val (.slice none 0 0))])⟩ (.both vc_law05_ValueOwn_d30 vc_law05_ValueOwn_d32))
def vc_law05_ValueOwn_d34 : DT := (.op true [1] ⟨(some 11), none, (.load true 5 (.t 1))⟩ (.op true [1] ⟨(some 13), none, (.load true 5 (.t 1))⟩ (.both vc_law05_ValueOwn_d21 (.both vc_law05_ValueOwn_d27 vc_law05_ValueOwn_d33))))
def vc_law05_ValueOwn_r19 : VCode := (.keep [1] (.seq (.draws [1, 3, 4] vc_law05_ValueOwn_d34) vc_law05_ValueOwn_r18))
def vc_law05_ValueOwn_o35 : List VO := ⟨(some 10), none, (.call 16 [] [])⟩ :: ⟨(some 2), none, (.mv (.t 10))⟩ :: []
def vc_law05_ValueOwn_c20 : VCode := (.seq (.region false vc_law05_ValueOwn_o35) (.keep [2] .ret))
def vc_law05_ValueOwn_r21 : VCode := (.keep [1, 9] (.cond (.t 9) vc_law05_ValueOwn_c20 .skip))
def vc_law05_ValueOwn_o36 : List VO := ⟨(some 7), none, (.load true 5 (.t 1))⟩ :: ⟨(some 8), none, (.call 15 [] [(.t 7)])⟩ :: ⟨(some 9), none, (.un .not (.t 8))⟩ :: []
def vc_law05_ValueOwn_r22 : VCode := (.keep [1] (.seq (.seq (.region false vc_law05_ValueOwn_o36) vc_law05_ValueOwn_r21) vc_law05_ValueOwn_r19))
def vc_law05_ValueOwn_o37 : List VO := ⟨(some 1), none, (.box 25 (.t 0))⟩ :: ⟨(some 2), none, (.mv (.c (.val (.bool false))))⟩ :: []
def vc_law05_ValueOwn : VCode := (.seq (.region false vc_law05_ValueOwn_o37) vc_law05_ValueOwn_r22)
def rs_law05_ValueOwn : List RV := [(.t 2)]
theorem comp_law05_ValueOwn : ccode Try.prog (Try.f3.body.getD .skip) = some (strip vc_law05_ValueOwn) := by kernel_rfl
theorem code_law05_ValueOwn : IsCode Try.prog id_law05_ValueOwn 61 vc_law05_ValueOwn rs_law05_ValueOwn := ⟨_, _, Try.func3, by kernel_rfl, rfl, comp_law05_ValueOwn, by kernel_rfl, by kernel_rfl, rfl⟩

/- usher/usherlaw05.ValueMakes -/
def vc_law05_ValueMakes_d1 : DT := (.op true [] ⟨(some 75), none, (.pick (.t 73) (.t 74) (.c (.val (.bool false))))⟩ (.op true [] ⟨(some 10), none, (.mv (.t 75))⟩ .done))
def vc_law05_ValueMakes_d2 : DT := (.op false [8, 9] ⟨(some 71), (some (68, true)), (.call 29 [] [(.t 69), (.t 70)])⟩ (.op true [] ⟨(some 72), none, (.pick (.t 68) (.t 71) (.c (.val (.bool false))))⟩ (.op true [] ⟨(some 73), none, (.mv (.t 72))⟩ (.op false [8, 9] ⟨(some 74), (some (73, true)), (.call 16 [] [])⟩ vc_law05_ValueMakes_d1))))
def vc_law05_ValueMakes_d3 : DT := (.op true [] ⟨(some 67), none, (.pick (.t 59) (.t 66) (.c (.val (.bool false))))⟩ (.op true [] ⟨(some 68), none, (.mv (.t 67))⟩ (.op true [8] ⟨(some 69), (some (68, true)), (.load true 5 (.t 8))⟩ (.op true [8] ⟨(some 70), (some (68, true)), (.load true 5 (.t 8))⟩ vc_law05_ValueMakes_d2))))
def vc_law05_ValueMakes_d4 : DT := (.op true [9] ⟨(some 64), (some (59, true)), (.load true 5 (.t 9))⟩ (.op false [8, 9] ⟨(some 62), (some (59, true)), (.call 29 [] [(.t 60), (.t 61)])⟩ (.op false [8, 9] ⟨(some 65), (some (59, true)), (.call 18 [] [(.t 63), (.t 64)])⟩ (.op true [] ⟨(some 66), (some (59, true)), (.beq false (.t 62) (.t 65))⟩ vc_law05_ValueMakes_d3))))
def vc_law05_ValueMakes_d5 : DT := (.op true [] ⟨(some 59), none, (.mv (.t 58))⟩ (.op true [8] ⟨(some 60), (some (59, true)), (.load true 5 (.t 8))⟩ (.op true [9] ⟨(some 61), (some (59, true)), (.load true 5 (.t 9))⟩ (.op true [8] ⟨(some 63), (some (59, true)), (.load true 5 (.t 8))⟩ vc_law05_ValueMakes_d4))))
def vc_law05_ValueMakes_d6 : DT := (.op false [8, 9] ⟨(some 54), (some (52, true)), (.call 27 [] [(.t 53)])⟩ (.op false [8, 9] ⟨(some 56), (some (52, true)), (.call 28 [] [(.t 55)])⟩ (.op true [] ⟨(some 57), (some (52, true)), (.bin .eql (.t 54) (.t 56))⟩ (.op true [] ⟨(some 58), none, (.pick (.t 52) (.t 57) (.c (.val (.bool false))))⟩ vc_law05_ValueMakes_d5))))
def vc_law05_ValueMakes_d7 : DT := (.op true [] ⟨(some 51), none, (.mv (.t 11))⟩ (.op true [] ⟨(some 52), none, (.mv (.t 51))⟩ (.op true [8] ⟨(some 53), (some (52, true)), (.load true 5 (.t 8))⟩ (.op true [8] ⟨(some 55), (some (52, true)), (.load true 5 (.t 8))⟩ vc_law05_ValueMakes_d6))))
def vc_law05_ValueMakes_r1 : VCode := (.keep [8, 9, 11] (.seq (.draws [10] vc_law05_ValueMakes_d7) (.keep [10] .ret)))
def vc_law05_ValueMakes_d8 : DT := (.op true [] ⟨(some 50), none, (.pick (.t 40) (.t 49) (.c (.val (.bool false))))⟩ (.op true [] ⟨(some 11), none, (.mv (.t 50))⟩ .done))
def vc_law05_ValueMakes_d9 : DT := (.op false [8, 9] ⟨(some 44), (some (40, true)), (.call 25 [] [(.t 43)])⟩ (.op false [8, 9] ⟨(some 47), (some (40, true)), (.lit false 25 5 2 [(.val (.int .i64 0)), (.val (.int .i64 0)), (.val (.int .u64 0)), (.val (.string ⟨#[]⟩)), (.val (.slice none 0 0)), (.val (.int .i64 0)), (.val (.int .i64 0)), (.val (.int .u64 0)), (.val (.string ⟨#[]⟩)), (.val (.slice none 0 0))] [(0, (5, (.t 45))), (5, (5, (.t 46)))])⟩ (.op false [8, 9] ⟨(some 48), (some (40, true)), (.call 26 [] [(.t 47)])⟩ (.op false [8, 9] ⟨(some 49), (some (40, true)), (.call 18 [] [(.t 44), (.t 48)])⟩ vc_law05_ValueMakes_d8))))
def vc_law05_ValueMakes_d10 : DT := (.op true [] ⟨(some 50), none, (.pick (.t 40) (.t 49) (.c (.val (.bool false))))⟩ (.op true [] ⟨(some 11), none, (.mv (.t 50))⟩ .done))
def vc_law05_ValueMakes_d11 : DT := (.op false [8, 9] ⟨(some 47), (some (40, true)), (.lit false 25 5 2 [(.val (.int .i64 0)), (.val (.int .i64 0)), (.val (.int .u64 0)), (.val (.string ⟨#[]⟩)), (.val (.slice none 0 0)), (.val (.int .i64 0)), (.val (.int .i64 0)), (.val (.int .u64 0)), (.val (.string ⟨#[]⟩)), (.val (.slice none 0 0))] [(0, (5, (.t 45))), (5, (5, (.t 46)))])⟩ (.op false [8, 9] ⟨(some 44), (some (40, true)), (.call 25 [] [(.t 43)])⟩ (.op false [8, 9] ⟨(some 48), (some (40, true)), (.call 26 [] [(.t 47)])⟩ (.op false [8, 9] ⟨(some 49), (some (40, true)), (.call 18 [] [(.t 44), (.t 48)])⟩ vc_law05_ValueMakes_d10))))
def vc_law05_ValueMakes_d12 : DT := (.op false [8, 9] ⟨(some 43), (some (40, true)), (.lit false 25 5 2 [(.val (.int .i64 0)), (.val (.int .i64 0)), (.val (.int .u64 0)), (.val (.string ⟨#[]⟩)), (.val (.slice none 0 0)), (.val (.int .i64 0)), (.val (.int .i64 0)), (.val (.int .u64 0)), (.val (.string ⟨#[]⟩)), (.val (.slice none 0 0))] [(0, (5, (.t 41))), (5, (5, (.t 42)))])⟩ (.both vc_law05_ValueMakes_d9 vc_law05_ValueMakes_d11))
def vc_law05_ValueMakes_d13 : DT := (.op false [8, 9] ⟨(some 49), (some (40, true)), (.call 18 [] [(.t 44), (.t 48)])⟩ (.op true [] ⟨(some 50), none, (.pick (.t 40) (.t 49) (.c (.val (.bool false))))⟩ (.op true [] ⟨(some 11), none, (.mv (.t 50))⟩ .done)))
def vc_law05_ValueMakes_d14 : DT := (.op false [8, 9] ⟨(some 47), (some (40, true)), (.lit false 25 5 2 [(.val (.int .i64 0)), (.val (.int .i64 0)), (.val (.int .u64 0)), (.val (.string ⟨#[]⟩)), (.val (.slice none 0 0)), (.val (.int .i64 0)), (.val (.int .i64 0)), (.val (.int .u64 0)), (.val (.string ⟨#[]⟩)), (.val (.slice none 0 0))] [(0, (5, (.t 45))), (5, (5, (.t 46)))])⟩ (.op false [8, 9] ⟨(some 43), (some (40, true)), (.lit false 25 5 2 [(.val (.int .i64 0)), (.val (.int .i64 0)), (.val (.int .u64 0)), (.val (.string ⟨#[]⟩)), (.val (.slice none 0 0)), (.val (.int .i64 0)), (.val (.int .i64 0)), (.val (.int .u64 0)), (.val (.string ⟨#[]⟩)), (.val (.slice none 0 0))] [(0, (5, (.t 41))), (5, (5, (.t 42)))])⟩ (.op false [8, 9] ⟨(some 44), (some (40, true)), (.call 25 [] [(.t 43)])⟩ (.op false [8, 9] ⟨(some 48), (some (40, true)), (.call 26 [] [(.t 47)])⟩ vc_law05_ValueMakes_d13))))
def vc_law05_ValueMakes_d15 : DT := (.op true [8] ⟨(some 41), (some (40, true)), (.load true 5 (.t 8))⟩ (.op true [9] ⟨(some 42), (some (40, true)), (.load true 5 (.t 9))⟩ (.op true [8] ⟨(some 45), (some (40, true)), (.load true 5 (.t 8))⟩ (.op true [9] ⟨(some 46), (some (40, true)), (.load true 5 (.t 9))⟩ (.both vc_law05_ValueMakes_d12 vc_law05_ValueMakes_d14)))))
def vc_law05_ValueMakes_d16 : DT := (.op false [8, 9] ⟨(some 37), (some (33, true)), (.call 24 [] [(.t 36)])⟩ (.op false [8, 9] ⟨(some 38), (some (33, true)), (.call 18 [] [(.t 35), (.t 37)])⟩ (.op true [] ⟨(some 39), none, (.pick (.t 33) (.t 38) (.c (.val (.bool false))))⟩ (.op true [] ⟨(some 40), none, (.mv (.t 39))⟩ vc_law05_ValueMakes_d15))))
def vc_law05_ValueMakes_d17 : DT := (.op true [] ⟨(some 33), none, (.mv (.t 32))⟩ (.op true [] ⟨(some 34), (some (33, true)), (.mv (.t 2))⟩ (.op true [] ⟨(some 36), (some (33, true)), (.mv (.t 2))⟩ (.op false [8, 9] ⟨(some 35), (some (33, true)), (.call 23 [] [(.t 34)])⟩ vc_law05_ValueMakes_d16))))
def vc_law05_ValueMakes_d18 : DT := (.op false [8, 9] ⟨(some 28), (some (26, true)), (.call 21 [] [(.t 27)])⟩ (.op false [8, 9] ⟨(some 30), (some (26, true)), (.call 22 [] [(.t 29)])⟩ (.op false [8, 9] ⟨(some 31), (some (26, true)), (.call 18 [] [(.t 28), (.t 30)])⟩ (.op true [] ⟨(some 32), none, (.pick (.t 26) (.t 31) (.c (.val (.bool false))))⟩ vc_law05_ValueMakes_d17))))
def vc_law05_ValueMakes_d19 : DT := (.op false [8, 9] ⟨(some 25), none, (.call 18 [] [(.t 22), (.t 24)])⟩ (.op true [] ⟨(some 26), none, (.mv (.t 25))⟩ (.op true [] ⟨(some 27), (some (26, true)), (.mv (.t 1))⟩ (.op true [] ⟨(some 29), (some (26, true)), (.mv (.t 1))⟩ vc_law05_ValueMakes_d18))))
def vc_law05_ValueMakes_d20 : DT := (.op true [] ⟨(some 21), none, (.mv (.t 0))⟩ (.op true [] ⟨(some 23), none, (.mv (.t 0))⟩ (.op false [8, 9] ⟨(some 22), none, (.call 19 [] [(.t 21)])⟩ (.op false [8, 9] ⟨(some 24), none, (.call 20 [] [(.t 23)])⟩ vc_law05_ValueMakes_d19))))
def vc_law05_ValueMakes_r2 : VCode := (.keep [0, 1, 2, 8, 9] (.seq (.draws [8, 9, 11] vc_law05_ValueMakes_d20) vc_law05_ValueMakes_r1))
def vc_law05_ValueMakes_o21 : List VO := ⟨(some 20), none, (.call 16 [] [])⟩ :: ⟨(some 10), none, (.mv (.t 20))⟩ :: []
def vc_law05_ValueMakes_c3 : VCode := (.seq (.region false vc_law05_ValueMakes_o21) (.keep [10] .ret))
def vc_law05_ValueMakes_r4 : VCode := (.keep [0, 1, 2, 8, 9, 19] (.cond (.t 19) vc_law05_ValueMakes_c3 .skip))
def vc_law05_ValueMakes_o22_1 : List VO := ⟨(some 17), (some (15, false)), (.call 15 [] [(.t 16)])⟩ :: ⟨none, none, .kp [0, 1, 2, 8, 9, 15, 17]⟩ :: ⟨(some 18), (some (15, false)), (.un .not (.t 17))⟩ :: ⟨(some 19), none, (.pick (.t 15) (.c (.val (.bool true))) (.t 18))⟩ :: []
def vc_law05_ValueMakes_o22 : List VO := ⟨(some 12), none, (.load true 5 (.t 8))⟩ :: ⟨(some 13), none, (.call 15 [] [(.t 12)])⟩ :: ⟨(some 14), none, (.un .not (.t 13))⟩ :: ⟨none, none, .kp [0, 1, 2, 8, 9, 14]⟩ :: ⟨(some 15), none, (.mv (.t 14))⟩ :: ⟨(some 16), (some (15, false)), (.load true 5 (.t 9))⟩ :: vc_law05_ValueMakes_o22_1
def vc_law05_ValueMakes_r5 : VCode := (.keep [0, 1, 2, 8, 9] (.seq (.seq (.region false vc_law05_ValueMakes_o22) vc_law05_ValueMakes_r4) vc_law05_ValueMakes_r2))
def vc_law05_ValueMakes_o23 : List VO := ⟨(some 8), none, (.box 25 (.t 3))⟩ :: ⟨(some 9), none, (.box 25 (.t 4))⟩ :: ⟨none, none, .kp [0, 1, 2, 8, 9]⟩ :: ⟨(some 10), none, (.mv (.c (.val (.bool false))))⟩ :: []
def vc_law05_ValueMakes : VCode := (.seq (.region false vc_law05_ValueMakes_o23) vc_law05_ValueMakes_r5)
def rs_law05_ValueMakes : List RV := [(.t 10)]
theorem comp_law05_ValueMakes : ccode Try.prog (Try.f4.body.getD .skip) = some (strip vc_law05_ValueMakes) := by kernel_rfl
theorem code_law05_ValueMakes : IsCode Try.prog id_law05_ValueMakes 76 vc_law05_ValueMakes rs_law05_ValueMakes := ⟨_, _, Try.func4, by kernel_rfl, rfl, comp_law05_ValueMakes, by kernel_rfl, by kernel_rfl, rfl⟩

/- usher/usherlaw05.ValueOrders -/
def vc_law05_ValueOrders_d1 : DT := (.op false [2, 3] ⟨(some 22), (some (21, true)), (.call 16 [] [])⟩ (.op true [] ⟨(some 23), none, (.pick (.t 21) (.t 22) (.c (.val (.bool false))))⟩ (.op true [] ⟨(some 4), none, (.mv (.t 23))⟩ .done)))
def vc_law05_ValueOrders_d2 : DT := (.op false [2, 3] ⟨(some 16), none, (.call 30 [] [(.t 14), (.t 15)])⟩ (.op false [2, 3] ⟨(some 19), none, (.call 31 [] [(.t 17), (.t 18)])⟩ (.op true [] ⟨(some 20), none, (.bin .eql (.t 16) (.t 19))⟩ (.op true [] ⟨(some 21), none, (.mv (.t 20))⟩ vc_law05_ValueOrders_d1))))
def vc_law05_ValueOrders_d3 : DT := (.op true [2] ⟨(some 14), none, (.load true 5 (.t 2))⟩ (.op true [3] ⟨(some 15), none, (.load true 5 (.t 3))⟩ (.op true [2] ⟨(some 17), none, (.load true 5 (.t 2))⟩ (.op true [3] ⟨(some 18), none, (.load true 5 (.t 3))⟩ vc_law05_ValueOrders_d2))))
def vc_law05_ValueOrders_r1 : VCode := (.keep [2, 3] (.seq (.draws [4] vc_law05_ValueOrders_d3) (.keep [4] .ret)))
def vc_law05_ValueOrders_o4 : List VO := ⟨(some 13), none, (.call 16 [] [])⟩ :: ⟨(some 4), none, (.mv (.t 13))⟩ :: []
def vc_law05_ValueOrders_c2 : VCode := (.seq (.region false vc_law05_ValueOrders_o4) (.keep [4] .ret))
def vc_law05_ValueOrders_r3 : VCode := (.keep [2, 3, 12] (.cond (.t 12) vc_law05_ValueOrders_c2 .skip))
def vc_law05_ValueOrders_o5_1 : List VO := ⟨(some 10), (some (8, false)), (.call 15 [] [(.t 9)])⟩ :: ⟨none, none, .kp [2, 3, 8, 10]⟩ :: ⟨(some 11), (some (8, false)), (.un .not (.t 10))⟩ :: ⟨(some 12), none, (.pick (.t 8) (.c (.val (.bool true))) (.t 11))⟩ :: []
def vc_law05_ValueOrders_o5 : List VO := ⟨(some 5), none, (.load true 5 (.t 2))⟩ :: ⟨(some 6), none, (.call 15 [] [(.t 5)])⟩ :: ⟨(some 7), none, (.un .not (.t 6))⟩ :: ⟨none, none, .kp [2, 3, 7]⟩ :: ⟨(some 8), none, (.mv (.t 7))⟩ :: ⟨(some 9), (some (8, false)), (.load true 5 (.t 3))⟩ :: vc_law05_ValueOrders_o5_1
def vc_law05_ValueOrders_r4 : VCode := (.keep [2, 3] (.seq (.seq (.region false vc_law05_ValueOrders_o5) vc_law05_ValueOrders_r3) vc_law05_ValueOrders_r1))
def vc_law05_ValueOrders_o6 : List VO := ⟨(some 2), none, (.box 25 (.t 0))⟩ :: ⟨(some 3), none, (.box 25 (.t 1))⟩ :: ⟨none, none, .kp [2, 3]⟩ :: ⟨(some 4), none, (.mv (.c (.val (.bool false))))⟩ :: []
def vc_law05_ValueOrders : VCode := (.seq (.region false vc_law05_ValueOrders_o6) vc_law05_ValueOrders_r4)
def rs_law05_ValueOrders : List RV := [(.t 4)]
theorem comp_law05_ValueOrders : ccode Try.prog (Try.f5.body.getD .skip) = some (strip vc_law05_ValueOrders) := by kernel_rfl
theorem code_law05_ValueOrders : IsCode Try.prog id_law05_ValueOrders 24 vc_law05_ValueOrders rs_law05_ValueOrders := ⟨_, _, Try.func5, by kernel_rfl, rfl, comp_law05_ValueOrders, by kernel_rfl, by kernel_rfl, rfl⟩

/- usher/usherlaw05.ValueTotal -/
def vc_law05_ValueTotal_d1 : DT := (.op true [] ⟨(some 6), none, (.mv (.t 90))⟩ .done)
def vc_law05_ValueTotal_d2 : DT := (.op true [] ⟨(some 87), none, (.bin .eql (.t 83) (.t 86))⟩ (.op true [] ⟨(some 88), none, (.mv (.t 87))⟩ (.op false [3] ⟨(some 89), (some (88, true)), (.call 16 [] [])⟩ (.op true [] ⟨(some 90), none, (.pick (.t 88) (.t 89) (.c (.val (.bool false))))⟩ vc_law05_ValueTotal_d1))))
def vc_law05_ValueTotal_d3 : DT := (.op false [3] ⟨(some 81), none, (.call 21 [] [(.t 80)])⟩ (.op true [] ⟨(some 82), none, (.getf false 2 1 (.t 81))⟩ (.op false [3] ⟨(some 83), none, (.call 38 [] [(.t 82)])⟩ (.op false [3] ⟨(some 86), none, (.call 38 [] [(.t 85)])⟩ vc_law05_ValueTotal_d2))))
def vc_law05_ValueTotal_d4 : DT := (.op true [3] ⟨(some 79), none, (.fld 2 (.t 3))⟩ (.op true [3] ⟨(some 80), none, (.load false 1 (.t 79))⟩ (.op true [3] ⟨(some 84), none, (.fld 2 (.t 3))⟩ (.op true [3] ⟨(some 85), none, (.load false 1 (.t 84))⟩ vc_law05_ValueTotal_d3))))
def vc_law05_ValueTotal_r1 : VCode := (.keep [3] (.seq (.draws [6] vc_law05_ValueTotal_d4) (.keep [6] .ret)))
def vc_law05_ValueTotal_o5 : List VO := ⟨(some 6), none, (.mv (.c (.val (.bool false))))⟩ :: []
def vc_law05_ValueTotal_c2 : VCode := (.seq (.region false vc_law05_ValueTotal_o5) (.keep [6] .ret))
def vc_law05_ValueTotal_r3 : VCode := (.keep [3, 78] (.cond (.t 78) vc_law05_ValueTotal_c2 .skip))
def vc_law05_ValueTotal_o6_3 : List VO := ⟨(some 78), none, (.pick (.t 71) (.t 77) (.c (.val (.bool false))))⟩ :: []
def vc_law05_ValueTotal_o6_2 : List VO := ⟨(some 73), (some (71, true)), (.bin .eql (.t 72) (.c (.val (.int .i64 0))))⟩ :: ⟨(some 74), (some (71, true)), (.load true 5 (.t 3))⟩ :: ⟨(some 75), (some (71, true)), (.load true 5 (.t 4))⟩ :: ⟨none, none, .kp [3, 71, 73, 74, 75]⟩ :: ⟨(some 76), (some (71, true)), (.call 29 [] [(.t 74), (.t 75)])⟩ :: ⟨none, none, .kp [3, 71, 73, 76]⟩ :: ⟨(some 77), (some (71, true)), (.beq true (.t 73) (.t 76))⟩ :: ⟨none, none, .kp [3, 71, 77]⟩ :: vc_law05_ValueTotal_o6_3
def vc_law05_ValueTotal_o6_1 : List VO := ⟨(some 68), (some (66, true)), (.call 27 [] [(.t 67)])⟩ :: ⟨none, none, .kp [3, 4, 7, 66, 68]⟩ :: ⟨(some 69), (some (66, true)), (.bin .eql (.t 68) (.c (.val (.int .i64 0))))⟩ :: ⟨(some 70), none, (.pick (.t 66) (.t 69) (.c (.val (.bool false))))⟩ :: ⟨none, none, .kp [3, 4, 7, 70]⟩ :: ⟨(some 71), none, (.mv (.t 70))⟩ :: ⟨(some 72), (some (71, true)), (.mv (.t 7))⟩ :: ⟨none, none, .kp [3, 4, 71, 72]⟩ :: vc_law05_ValueTotal_o6_2
def vc_law05_ValueTotal_o6 : List VO := ⟨(some 63), none, (.load true 5 (.t 3))⟩ :: ⟨(some 64), none, (.call 27 [] [(.t 63)])⟩ :: ⟨(some 65), none, (.bin .eql (.t 64) (.c (.val (.int .i64 0))))⟩ :: ⟨none, none, .kp [3, 4, 7, 65]⟩ :: ⟨(some 66), none, (.mv (.t 65))⟩ :: ⟨(some 67), (some (66, true)), (.load true 5 (.t 4))⟩ :: vc_law05_ValueTotal_o6_1
def vc_law05_ValueTotal_r4 : VCode := (.keep [3, 4, 7] (.seq (.seq (.region false vc_law05_ValueTotal_o6) vc_law05_ValueTotal_r3) vc_law05_ValueTotal_r1))
def vc_law05_ValueTotal_o7 : List VO := ⟨(some 6), none, (.mv (.c (.val (.bool false))))⟩ :: []
def vc_law05_ValueTotal_c5 : VCode := (.seq (.region false vc_law05_ValueTotal_o7) (.keep [6] .ret))
def vc_law05_ValueTotal_r6 : VCode := (.keep [3, 4, 7, 62] (.cond (.t 62) vc_law05_ValueTotal_c5 .skip))
def vc_law05_ValueTotal_o8_5 : List VO := ⟨(some 58), (some (51, false)), (.mv (.t 57))⟩ :: ⟨(some 59), (some (58, true)), (.mv (.t 9))⟩ :: ⟨none, none, .kp [3, 4, 7, 51, 58, 59]⟩ :: ⟨(some 60), (some (58, true)), (.bin .geq (.t 59) (.c (.val (.int .i64 0))))⟩ :: ⟨(some 61), (some (51, false)), (.pick (.t 58) (.t 60) (.c (.val (.bool false))))⟩ :: ⟨none, none, .kp [3, 4, 7, 51, 61]⟩ :: ⟨(some 62), none, (.pick (.t 51) (.c (.val (.bool true))) (.t 61))⟩ :: []
def vc_law05_ValueTotal_o8_4 : List VO := ⟨(some 53), (some (51, false)), (.bin .lss (.t 52) (.c (.val (.int .i64 0))))⟩ :: ⟨none, none, .kp [3, 4, 7, 8, 9, 51, 53]⟩ :: ⟨(some 54), (some (51, false)), (.mv (.t 53))⟩ :: ⟨(some 55), (some (54, true)), (.mv (.t 8))⟩ :: ⟨none, none, .kp [3, 4, 7, 9, 51, 54, 55]⟩ :: ⟨(some 56), (some (54, true)), (.bin .lss (.t 55) (.c (.val (.int .i64 0))))⟩ :: ⟨(some 57), (some (51, false)), (.pick (.t 54) (.t 56) (.c (.val (.bool false))))⟩ :: ⟨none, none, .kp [3, 4, 7, 9, 51, 57]⟩ :: vc_law05_ValueTotal_o8_5
def vc_law05_ValueTotal_o8_3 : List VO := ⟨(some 48), (some (46, true)), (.bin .gtr (.t 47) (.c (.val (.int .i64 0))))⟩ :: ⟨none, none, .kp [3, 4, 7, 8, 9, 39, 46, 48]⟩ :: ⟨(some 49), (some (39, false)), (.pick (.t 46) (.t 48) (.c (.val (.bool false))))⟩ :: ⟨none, none, .kp [3, 4, 7, 8, 9, 39, 49]⟩ :: ⟨(some 50), none, (.pick (.t 39) (.c (.val (.bool true))) (.t 49))⟩ :: ⟨none, none, .kp [3, 4, 7, 8, 9, 50]⟩ :: ⟨(some 51), none, (.mv (.t 50))⟩ :: ⟨(some 52), (some (51, false)), (.mv (.t 7))⟩ :: vc_law05_ValueTotal_o8_4
def vc_law05_ValueTotal_o8_2 : List VO := ⟨(some 43), (some (42, true)), (.mv (.t 8))⟩ :: ⟨(some 44), (some (42, true)), (.bin .leq (.t 43) (.c (.val (.int .i64 0))))⟩ :: ⟨none, none, .kp [3, 4, 7, 8, 9, 39, 42, 44]⟩ :: ⟨(some 45), (some (39, false)), (.pick (.t 42) (.t 44) (.c (.val (.bool false))))⟩ :: ⟨none, none, .kp [3, 4, 7, 8, 9, 39, 45]⟩ :: ⟨(some 46), (some (39, false)), (.mv (.t 45))⟩ :: ⟨(some 47), (some (46, true)), (.mv (.t 9))⟩ :: vc_law05_ValueTotal_o8_3
def vc_law05_ValueTotal_o8_1 : List VO := ⟨(some 38), none, (.bin .neq (.t 33) (.t 37))⟩ :: ⟨none, none, .kp [3, 4, 7, 8, 9, 38]⟩ :: ⟨(some 39), none, (.mv (.t 38))⟩ :: ⟨(some 40), (some (39, false)), (.mv (.t 7))⟩ :: ⟨(some 41), (some (39, false)), (.bin .leq (.t 40) (.c (.val (.int .i64 0))))⟩ :: ⟨none, none, .kp [3, 4, 7, 8, 9, 39, 41]⟩ :: ⟨(some 42), (some (39, false)), (.mv (.t 41))⟩ :: vc_law05_ValueTotal_o8_2
def vc_law05_ValueTotal_o8 : List VO := ⟨(some 33), none, (.mv (.t 7))⟩ :: ⟨(some 34), none, (.load true 5 (.t 4))⟩ :: ⟨(some 35), none, (.load true 5 (.t 3))⟩ :: ⟨(some 36), none, (.call 30 [] [(.t 34), (.t 35)])⟩ :: ⟨none, none, .kp [3, 4, 7, 8, 9, 33, 36]⟩ :: ⟨(some 37), none, (.un .neg (.t 36))⟩ :: vc_law05_ValueTotal_o8_1
def vc_law05_ValueTotal_r7 : VCode := (.keep [3, 4, 7, 8, 9] (.seq (.seq (.region false vc_law05_ValueTotal_o8) vc_law05_ValueTotal_r6) vc_law05_ValueTotal_r4))
def vc_law05_ValueTotal_d9 : DT := (.op false [3, 4, 5] ⟨(some 32), none, (.call 30 [] [(.t 30), (.t 31)])⟩ (.op true [] ⟨(some 7), none, (.mv (.t 26))⟩ (.op true [] ⟨(some 8), none, (.mv (.t 29))⟩ (.op true [] ⟨(some 9), none, (.mv (.t 32))⟩ .done))))
def vc_law05_ValueTotal_d10 : DT := (.op true [3] ⟨(some 30), none, (.load true 5 (.t 3))⟩ (.op true [5] ⟨(some 31), none, (.load true 5 (.t 5))⟩ (.op false [4, 5, 3] ⟨(some 26), none, (.call 30 [] [(.t 24), (.t 25)])⟩ (.op false [3, 4, 5] ⟨(some 29), none, (.call 30 [] [(.t 27), (.t 28)])⟩ vc_law05_ValueTotal_d9))))
def vc_law05_ValueTotal_d11 : DT := (.op true [3] ⟨(some 24), none, (.load true 5 (.t 3))⟩ (.op true [4] ⟨(some 25), none, (.load true 5 (.t 4))⟩ (.op true [4] ⟨(some 27), none, (.load true 5 (.t 4))⟩ (.op true [5] ⟨(some 28), none, (.load true 5 (.t 5))⟩ vc_law05_ValueTotal_d10))))
def vc_law05_ValueTotal_r8 : VCode := (.keep [3, 4, 5] (.seq (.draws [3, 4, 7, 8, 9] vc_law05_ValueTotal_d11) vc_law05_ValueTotal_r7))
def vc_law05_ValueTotal_o12 : List VO := ⟨(some 23), none, (.call 16 [] [])⟩ :: ⟨(some 6), none, (.mv (.t 23))⟩ :: []
def vc_law05_ValueTotal_c9 : VCode := (.seq (.region false vc_law05_ValueTotal_o12) (.keep [6] .ret))
def vc_law05_ValueTotal_r10 : VCode := (.keep [3, 4, 5, 22] (.cond (.t 22) vc_law05_ValueTotal_c9 .skip))
def vc_law05_ValueTotal_o13_2 : List VO := ⟨(some 20), (some (18, false)), (.call 15 [] [(.t 19)])⟩ :: ⟨none, none, .kp [3, 4, 5, 18, 20]⟩ :: ⟨(some 21), (some (18, false)), (.un .not (.t 20))⟩ :: ⟨(some 22), none, (.pick (.t 18) (.c (.val (.bool true))) (.t 21))⟩ :: []
def vc_law05_ValueTotal_o13_1 : List VO := ⟨(some 15), (some (13, false)), (.call 15 [] [(.t 14)])⟩ :: ⟨none, none, .kp [3, 4, 5, 13, 15]⟩ :: ⟨(some 16), (some (13, false)), (.un .not (.t 15))⟩ :: ⟨(some 17), none, (.pick (.t 13) (.c (.val (.bool true))) (.t 16))⟩ :: ⟨none, none, .kp [3, 4, 5, 17]⟩ :: ⟨(some 18), none, (.mv (.t 17))⟩ :: ⟨(some 19), (some (18, false)), (.load true 5 (.t 5))⟩ :: vc_law05_ValueTotal_o13_2
def vc_law05_ValueTotal_o13 : List VO := ⟨(some 10), none, (.load true 5 (.t 3))⟩ :: ⟨(some 11), none, (.call 15 [] [(.t 10)])⟩ :: ⟨(some 12), none, (.un .not (.t 11))⟩ :: ⟨none, none, .kp [3, 4, 5, 12]⟩ :: ⟨(some 13), none, (.mv (.t 12))⟩ :: ⟨(some 14), (some (13, false)), (.load true 5 (.t 4))⟩ :: vc_law05_ValueTotal_o13_1
def vc_law05_ValueTotal_r11 : VCode := (.keep [3, 4, 5] (.seq (.seq (.region false vc_law05_ValueTotal_o13) vc_law05_ValueTotal_r10) vc_law05_ValueTotal_r8))
def vc_law05_ValueTotal_o14 : List VO := ⟨(some 3), none, (.box 25 (.t 0))⟩ :: ⟨(some 4), none, (.box 25 (.t 1))⟩ :: ⟨none, none, .kp [2, 3, 4]⟩ :: ⟨(some 5), none, (.box 25 (.t 2))⟩ :: ⟨(some 6), none, (.mv (.c (.val (.bool false))))⟩ :: []
def vc_law05_ValueTotal : VCode := (.seq (.region false vc_law05_ValueTotal_o14) vc_law05_ValueTotal_r11)
def rs_law05_ValueTotal : List RV := [(.t 6)]
theorem comp_law05_ValueTotal : ccode Try.prog (Try.f7.body.getD .skip) = some (strip vc_law05_ValueTotal) := by kernel_rfl
theorem code_law05_ValueTotal : IsCode Try.prog id_law05_ValueTotal 91 vc_law05_ValueTotal rs_law05_ValueTotal := ⟨_, _, Try.func7, by kernel_rfl, rfl, comp_law05_ValueTotal, by kernel_rfl, by kernel_rfl, rfl⟩

/- usher/usherlaw05.ValueBack -/
def vc_law05_ValueBack_o1_3 : List VO := ⟨(some 50), none, (.pick (.t 48) (.t 49) (.c (.val (.bool false))))⟩ :: ⟨none, none, .kp [50]⟩ :: ⟨(some 4), none, (.mv (.t 50))⟩ :: []
def vc_law05_ValueBack_o1_2 : List VO := ⟨(some 45), (some (41, true)), (.call 42 [] [(.t 43), (.t 44)])⟩ :: ⟨none, none, .kp [37, 41, 45]⟩ :: ⟨(some 46), (some (37, false)), (.pick (.t 41) (.t 45) (.c (.val (.bool false))))⟩ :: ⟨none, none, .kp [37, 46]⟩ :: ⟨(some 47), none, (.pick (.t 37) (.c (.val (.bool true))) (.t 46))⟩ :: ⟨none, none, .kp [47]⟩ :: ⟨(some 48), none, (.mv (.t 47))⟩ :: ⟨(some 49), (some (48, true)), (.call 16 [] [])⟩ :: vc_law05_ValueBack_o1_3
def vc_law05_ValueBack_o1_1 : List VO := ⟨(some 40), (some (37, false)), (.bin .eql (.t 39) (.c (.val (.int .i64 0))))⟩ :: ⟨(some 41), (some (37, false)), (.mv (.t 40))⟩ :: ⟨none, none, .kp [1, 7, 37, 41]⟩ :: ⟨(some 42), (some (41, true)), (.load true 5 (.t 7))⟩ :: ⟨(some 43), (some (41, true)), (.call 57 [] [(.c (.val (.slice none 0 0))), (.t 42)])⟩ :: ⟨none, none, .kp [1, 37, 41, 43]⟩ :: ⟨(some 44), (some (41, true)), (.mv (.t 1))⟩ :: vc_law05_ValueBack_o1_2
def vc_law05_ValueBack_o1 : List VO := ⟨(some 35), none, (.mv (.t 8))⟩ :: ⟨(some 36), none, (.bin .neq (.t 35) (.c (.val (.int .i64 0))))⟩ :: ⟨none, none, .kp [1, 7, 36]⟩ :: ⟨(some 37), none, (.mv (.t 36))⟩ :: ⟨(some 38), (some (37, false)), (.load true 5 (.t 7))⟩ :: ⟨(some 39), (some (37, false)), (.call 27 [] [(.t 38)])⟩ :: ⟨none, none, .kp [1, 7, 37, 39]⟩ :: vc_law05_ValueBack_o1_1
def vc_law05_ValueBack_r1 : VCode := (.keep [1, 7, 8] (.seq (.region false vc_law05_ValueBack_o1) (.keep [4] .ret)))
def vc_law05_ValueBack_o2_1 : List VO := ⟨(some 7), none, (.alloc 25 [(.val (.int .i64 0)), (.val (.int .i64 0)), (.val (.int .u64 0)), (.val (.string ⟨#[]⟩)), (.val (.slice none 0 0))])⟩ :: ⟨none, none, (.store 5 (.t 7) (.t 33))⟩ :: ⟨none, none, .kp [1, 7, 34]⟩ :: ⟨(some 8), none, (.mv (.t 34))⟩ :: []
def vc_law05_ValueBack_o2 : List VO := ⟨(some 31), none, (.mv (.t 1))⟩ :: ⟨(some 32), none, (.call 56 [] [(.t 31)])⟩ :: ⟨(some 30), none, (.mv (.t 32))⟩ :: ⟨none, none, .kp [1, 30]⟩ :: ⟨(some 33), none, (.extract (.t 30) 0)⟩ :: ⟨(some 34), none, (.extract (.t 30) 1)⟩ :: vc_law05_ValueBack_o2_1
def vc_law05_ValueBack_r2 : VCode := (.keep [1] (.seq (.region false vc_law05_ValueBack_o2) vc_law05_ValueBack_r1))
def vc_law05_ValueBack_o3 : List VO := ⟨(some 4), none, (.mv (.c (.val (.bool false))))⟩ :: []
def vc_law05_ValueBack_c3 : VCode := (.seq (.region false vc_law05_ValueBack_o3) (.keep [4] .ret))
def vc_law05_ValueBack_r4 : VCode := (.keep [1, 29] (.cond (.t 29) vc_law05_ValueBack_c3 .skip))
def vc_law05_ValueBack_o4_1 : List VO := ⟨(some 27), (some (24, false)), (.call 29 [] [(.t 25), (.t 26)])⟩ :: ⟨none, none, .kp [1, 24, 27]⟩ :: ⟨(some 28), (some (24, false)), (.un .not (.t 27))⟩ :: ⟨(some 29), none, (.pick (.t 24) (.c (.val (.bool true))) (.t 28))⟩ :: []
def vc_law05_ValueBack_o4 : List VO := ⟨(some 22), none, (.mv (.t 6))⟩ :: ⟨(some 23), none, (.bin .neq (.t 22) (.c (.val (.int .i64 0))))⟩ :: ⟨none, none, .kp [1, 2, 5, 23]⟩ :: ⟨(some 24), none, (.mv (.t 23))⟩ :: ⟨(some 25), (some (24, false)), (.load true 5 (.t 5))⟩ :: ⟨none, none, .kp [1, 2, 24, 25]⟩ :: ⟨(some 26), (some (24, false)), (.load true 5 (.t 2))⟩ :: vc_law05_ValueBack_o4_1
def vc_law05_ValueBack_r5 : VCode := (.keep [1, 2, 5, 6] (.seq (.region false vc_law05_ValueBack_o4) vc_law05_ValueBack_r4))
def vc_law05_ValueBack_o5_1 : List VO := ⟨(some 21), none, (.extract (.t 16) 1)⟩ :: ⟨none, none, .kp [1, 2, 20, 21]⟩ :: ⟨(some 5), none, (.alloc 25 [(.val (.int .i64 0)), (.val (.int .i64 0)), (.val (.int .u64 0)), (.val (.string ⟨#[]⟩)), (.val (.slice none 0 0))])⟩ :: ⟨none, none, (.store 5 (.t 5) (.t 20))⟩ :: ⟨(some 6), none, (.mv (.t 21))⟩ :: []
def vc_law05_ValueBack_o5 : List VO := ⟨(some 17), none, (.load true 5 (.t 2))⟩ :: ⟨(some 18), none, (.call 57 [] [(.c (.val (.slice none 0 0))), (.t 17)])⟩ :: ⟨(some 19), none, (.call 56 [] [(.t 18)])⟩ :: ⟨none, none, .kp [1, 2, 19]⟩ :: ⟨(some 16), none, (.mv (.t 19))⟩ :: ⟨(some 20), none, (.extract (.t 16) 0)⟩ :: vc_law05_ValueBack_o5_1
def vc_law05_ValueBack_c6 : VCode := (.seq (.region false vc_law05_ValueBack_o5) vc_law05_ValueBack_r5)
def vc_law05_ValueBack_r7 : VCode := (.keep [1, 2, 15] (.cond (.t 15) vc_law05_ValueBack_c6 .skip))
def vc_law05_ValueBack_o6_1 : List VO := ⟨(some 14), (some (11, true)), (.bin .eql (.t 13) (.c (.val (.int .i64 0))))⟩ :: ⟨none, none, .kp [1, 2, 11, 14]⟩ :: ⟨(some 15), none, (.pick (.t 11) (.t 14) (.c (.val (.bool false))))⟩ :: []
def vc_law05_ValueBack_o6 : List VO := ⟨(some 9), none, (.load true 5 (.t 2))⟩ :: ⟨(some 10), none, (.call 15 [] [(.t 9)])⟩ :: ⟨(some 11), none, (.mv (.t 10))⟩ :: ⟨none, none, .kp [1, 2, 11]⟩ :: ⟨(some 12), (some (11, true)), (.load true 5 (.t 2))⟩ :: ⟨(some 13), (some (11, true)), (.call 27 [] [(.t 12)])⟩ :: vc_law05_ValueBack_o6_1
def vc_law05_ValueBack_r8 : VCode := (.keep [1, 2] (.seq (.seq (.region false vc_law05_ValueBack_o6) vc_law05_ValueBack_r7) vc_law05_ValueBack_r2))
def vc_law05_ValueBack_o7 : List VO := ⟨(some 2), none, (.box 25 (.t 0))⟩ :: ⟨(some 4), none, (.mv (.c (.val (.bool false))))⟩ :: []
def vc_law05_ValueBack : VCode := (.seq (.region false vc_law05_ValueBack_o7) vc_law05_ValueBack_r8)
def rs_law05_ValueBack : List RV := [(.t 4)]
theorem comp_law05_ValueBack : ccode Try.prog (Try.f13.body.getD .skip) = some (strip vc_law05_ValueBack) := by kernel_rfl
theorem code_law05_ValueBack : IsCode Try.prog id_law05_ValueBack 51 vc_law05_ValueBack rs_law05_ValueBack := ⟨_, _, Try.func13, by kernel_rfl, rfl, comp_law05_ValueBack, by kernel_rfl, by kernel_rfl, rfl⟩

/- usher/usherlaw05.fine -/
def vc_law05_fine_o1 : List VO := ⟨(some 10), none, (.mv (.t 4))⟩ :: ⟨(some 2), none, (.mv (.t 10))⟩ :: []
def vc_law05_fine_r1 : VCode := (.keep [4] (.seq (.region false vc_law05_fine_o1) (.keep [2] .ret)))
def vc_law05_fine_o2_1 : List VO := ⟨(some 3), none, (.mv (.t 8))⟩ :: ⟨none, none, .kp [9]⟩ :: ⟨(some 4), none, (.mv (.t 9))⟩ :: []
def vc_law05_fine_o2 : List VO := ⟨(some 6), none, (.load true 5 (.t 1))⟩ :: ⟨(some 7), none, (.call 60 [] [(.t 6), (.c (.val (.int .i64 12)))])⟩ :: ⟨none, none, .kp [7]⟩ :: ⟨(some 5), none, (.mv (.t 7))⟩ :: ⟨(some 8), none, (.extract (.t 5) 0)⟩ :: ⟨(some 9), none, (.extract (.t 5) 1)⟩ :: ⟨none, none, .kp [8, 9]⟩ :: vc_law05_fine_o2_1
def vc_law05_fine_r2 : VCode := (.keep [1] (.seq (.region false vc_law05_fine_o2) vc_law05_fine_r1))
def vc_law05_fine_o3 : List VO := ⟨(some 1), none, (.box 25 (.t 0))⟩ :: ⟨(some 2), none, (.mv (.c (.val (.bool false))))⟩ :: []
def vc_law05_fine : VCode := (.seq (.region false vc_law05_fine_o3) vc_law05_fine_r2)
def rs_law05_fine : List RV := [(.t 2)]
theorem comp_law05_fine : ccode Try.prog (Try.f15.body.getD .skip) = some (strip vc_law05_fine) := by kernel_rfl
theorem code_law05_fine : IsCode Try.prog id_law05_fine 11 vc_law05_fine rs_law05_fine := ⟨_, _, Try.func15, by kernel_rfl, rfl, comp_law05_fine, by kernel_rfl, by kernel_rfl, rfl⟩

/- usher/usherlaw05.awake -/
def vc_law05_awake_o1_1 : List VO := ⟨(some 6), none, (.call 42 [] [(.t 4), (.t 5)])⟩ :: ⟨none, none, .kp [6]⟩ :: ⟨(some 0), none, (.mv (.t 6))⟩ :: []
def vc_law05_awake_o1 : List VO := ⟨(some 1), none, (.call 19 [] [(.c (.val (.int .i64 1)))])⟩ :: ⟨(some 2), none, (.lit false 25 5 1 [(.val (.int .i64 0)), (.val (.int .i64 0)), (.val (.int .u64 0)), (.val (.string ⟨#[]⟩)), (.val (.slice none 0 0))] [(0, (5, (.t 1)))])⟩ :: ⟨(some 3), none, (.call 25 [] [(.t 2)])⟩ :: ⟨none, none, .kp [3]⟩ :: ⟨(some 4), none, (.call 57 [] [(.c (.val (.slice none 0 0))), (.t 3)])⟩ :: ⟨(some 5), none, (.lit false 5 1 11 [(.val (.int .u8 0)), (.val (.int .u8 0)), (.val (.int .u8 0)), (.val (.int .u8 0)), (.val (.int .u8 0)), (.val (.int .u8 0)), (.val (.int .u8 0)), (.val (.int .u8 0)), (.val (.int .u8 0)), (.val (.int .u8 0)), (.val (.int .u8 0))] [(0, (1, (.c (.val (.int .u8 4))))), (1, (1, (.c (.val (.int .u8 1))))), (2, (1, (.c (.val (.int .u8 1))))), (3, (1, (.c (.val (.int .u8 128))))), (4, (1, (.c (.val (.int .u8 0))))), (5, (1, (.c (.val (.int .u8 0))))), (6, (1, (.c (.val (.int .u8 0))))), (7, (1, (.c (.val (.int .u8 0))))), (8, (1, (.c (.val (.int .u8 0))))), (9, (1, (.c (.val (.int .u8 0))))), (10, (1, (.c (.val (.int .u8 1)))))])⟩ :: vc_law05_awake_o1_1
def vc_law05_awake_r1 : VCode := (.keep [] (.seq (.region false vc_law05_awake_o1) (.keep [0] .ret)))
def vc_law05_awake_o2 : List VO := ⟨(some 0), none, (.mv (.c (.val (.bool false))))⟩ :: []
def vc_law05_awake : VCode := (.seq (.region false vc_law05_awake_o2) vc_law05_awake_r1)
def rs_law05_awake : List RV := [(.t 0)]
theorem comp_law05_awake : ccode Try.prog (Try.f16.body.getD .skip) = some (strip vc_law05_awake) := by kernel_rfl
theorem code_law05_awake : IsCode Try.prog id_law05_awake 7 vc_law05_awake rs_law05_awake := ⟨_, _, Try.func16, by kernel_rfl, rfl, comp_law05_awake, by kernel_rfl, by kernel_rfl, rfl⟩

/- usher/usherlaw05.shallow -/
def vc_law05_shallow_o1 : List VO := ⟨(some 40), none, (.mv (.t 6))⟩ :: ⟨(some 4), none, (.mv (.t 40))⟩ :: ⟨none, none, .kp [4]⟩ :: ⟨(some 5), none, (.mv (.c (.val (.bool true))))⟩ :: []
def vc_law05_shallow_r1 : VCode := (.keep [6] (.seq (.region false vc_law05_shallow_o1) (.keep [4, 5] .ret)))
def vc_law05_shallow_o2 : List VO := ⟨(some 39), none, (.bin .add (.t 14) (.c (.val (.int .i64 1))))⟩ :: ⟨(some 14), none, (.mv (.t 39))⟩ :: []
def vc_law05_shallow_r2 : VCode := (.keep [1, 6, 12, 13, 14] (.region false vc_law05_shallow_o2))
def vc_law05_shallow_o3 : List VO := ⟨(some 38), none, (.mv (.t 6))⟩ :: ⟨(some 4), none, (.mv (.t 38))⟩ :: ⟨none, none, .kp [4]⟩ :: ⟨(some 5), none, (.mv (.c (.val (.bool false))))⟩ :: []
def vc_law05_shallow_c3 : VCode := (.seq (.region false vc_law05_shallow_o3) (.keep [4, 5] .ret))
def vc_law05_shallow_r4 : VCode := (.keep [1, 6, 12, 13, 14, 37] (.cond (.t 37) vc_law05_shallow_c3 .skip))
def vc_law05_shallow_o4_1 : List VO := ⟨(some 33), none, (.pick (.t 30) (.c (.val (.bool true))) (.t 32))⟩ :: ⟨none, none, .kp [1, 6, 12, 13, 14, 33]⟩ :: ⟨(some 34), none, (.mv (.t 33))⟩ :: ⟨(some 35), (some (34, false)), (.mv (.t 6))⟩ :: ⟨(some 36), (some (34, false)), (.bin .gtr (.t 35) (.c (.val (.int .i64 500))))⟩ :: ⟨none, none, .kp [1, 6, 12, 13, 14, 34, 36]⟩ :: ⟨(some 37), none, (.pick (.t 34) (.c (.val (.bool true))) (.t 36))⟩ :: []
def vc_law05_shallow_o4 : List VO := ⟨(some 28), none, (.mv (.t 1))⟩ :: ⟨(some 29), none, (.bin .eql (.t 28) (.c (.val (.int .i64 0))))⟩ :: ⟨(some 30), none, (.mv (.t 29))⟩ :: ⟨none, none, .kp [1, 6, 10, 12, 13, 14, 30]⟩ :: ⟨(some 31), (some (30, false)), (.mv (.t 10))⟩ :: ⟨(some 32), (some (30, false)), (.un .not (.t 31))⟩ :: ⟨none, none, .kp [1, 6, 12, 13, 14, 30, 32]⟩ :: vc_law05_shallow_o4_1
def vc_law05_shallow_r5 : VCode := (.keep [1, 6, 10, 12, 13, 14] (.seq (.region false vc_law05_shallow_o4) vc_law05_shallow_r4))
def vc_law05_shallow_o5 : List VO := ⟨(some 25), none, (.mv (.t 6))⟩ :: ⟨(some 26), none, (.mv (.t 9))⟩ :: ⟨none, none, .kp [1, 10, 12, 13, 14, 25, 26]⟩ :: ⟨(some 27), none, (.bin .add (.t 25) (.t 26))⟩ :: ⟨none, none, .kp [1, 10, 12, 13, 14, 27]⟩ :: ⟨(some 6), none, (.mv (.t 27))⟩ :: []
def vc_law05_shallow_r6 : VCode := (.keep [1, 6, 9, 10, 12, 13, 14] (.seq (.region false vc_law05_shallow_o5) vc_law05_shallow_r5))
def vc_law05_shallow_o6_1 : List VO := ⟨(some 23), none, (.extract (.t 18) 0)⟩ :: ⟨(some 24), none, (.extract (.t 18) 1)⟩ :: ⟨none, none, .kp [1, 6, 12, 13, 14, 23, 24]⟩ :: ⟨(some 9), none, (.mv (.t 23))⟩ :: ⟨(some 10), none, (.mv (.t 24))⟩ :: []
def vc_law05_shallow_o6 : List VO := ⟨(some 19), none, (.load true 5 (.t 8))⟩ :: ⟨(some 20), none, (.mv (.t 1))⟩ :: ⟨(some 21), none, (.bin .sub (.t 20) (.c (.val (.int .i64 1))))⟩ :: ⟨none, none, .kp [1, 6, 12, 13, 14, 19, 21]⟩ :: ⟨(some 22), none, (.call 60 [] [(.t 19), (.t 21)])⟩ :: ⟨none, none, .kp [1, 6, 12, 13, 14, 22]⟩ :: ⟨(some 18), none, (.mv (.t 22))⟩ :: vc_law05_shallow_o6_1
def vc_law05_shallow_r7 : VCode := (.keep [1, 6, 8, 12, 13, 14] (.seq (.region false vc_law05_shallow_o6) vc_law05_shallow_r6))
def vc_law05_shallow_o7 : List VO := ⟨(some 16), none, (.idx 5 (.t 12) (.t 14))⟩ :: ⟨(some 17), none, (.load true 5 (.t 16))⟩ :: ⟨(some 8), none, (.alloc 25 [(.val (.int .i64 0)), (.val (.int .i64 0)), (.val (.int .u64 0)), (.val (.string ⟨#[]⟩)), (.val (.slice none 0 0))])⟩ :: ⟨none, none, (.store 5 (.t 8) (.t 17))⟩ :: []
def vc_law05_shallow_c8 : VCode := (.seq (.region false vc_law05_shallow_o7) vc_law05_shallow_r7)
def vc_law05_shallow_r9 : VCode := (.keep [1, 6, 12, 13, 14] (.seq (.block 1 vc_law05_shallow_c8) vc_law05_shallow_r2))
def vc_law05_shallow_r10 : VCode := (.keep [1, 6, 12, 13, 14, 15] (.seq (.cond (.t 15) .skip (.exit 0)) vc_law05_shallow_r9))
def vc_law05_shallow_o8 : List VO := ⟨(some 15), none, (.bin .lss (.t 14) (.t 13))⟩ :: []
def vc_law05_shallow_l11 : VCode := (.seq (.region false vc_law05_shallow_o8) vc_law05_shallow_r10)
def vc_law05_shallow_r12 : VCode := (.keep [1, 6, 12, 13, 14] (.block 0 (.loop (.keep [1, 6, 12, 13, 14] vc_law05_shallow_l11))))
def vc_law05_shallow_o9 : List VO := ⟨(some 11), none, (.fld 4 (.t 2))⟩ :: ⟨(some 12), none, (.load false 1 (.t 11))⟩ :: ⟨none, none, .kp [1, 6, 12]⟩ :: ⟨(some 13), none, (.len (.t 12))⟩ :: ⟨(some 14), none, (.mv (.c (.val (.int .i64 0))))⟩ :: []
def vc_law05_shallow_r13 : VCode := (.keep [1, 2, 6] (.seq (.seq (.region false vc_law05_shallow_o9) vc_law05_shallow_r12) vc_law05_shallow_r1))
def vc_law05_shallow_o10 : List VO := ⟨(some 6), none, (.mv (.c (.val (.int .i64 1))))⟩ :: []
def vc_law05_shallow_r14 : VCode := (.keep [1, 2] (.seq (.region false vc_law05_shallow_o10) vc_law05_shallow_r13))
def vc_law05_shallow_o11 : List VO := ⟨(some 2), none, (.box 25 (.t 0))⟩ :: ⟨(some 4), none, (.mv (.c (.val (.int .i64 0))))⟩ :: ⟨none, none, .kp [1, 2]⟩ :: ⟨(some 5), none, (.mv (.c (.val (.bool false))))⟩ :: []
def vc_law05_shallow : VCode := (.seq (.region false vc_law05_shallow_o11) vc_law05_shallow_r14)
def rs_law05_shallow : List RV := [(.t 4), (.t 5)]
theorem comp_law05_shallow : ccode Try.prog (Try.f60.body.getD .skip) = some (strip vc_law05_shallow) := by kernel_rfl
theorem code_law05_shallow : IsCode Try.prog id_law05_shallow 41 vc_law05_shallow rs_law05_shallow := ⟨_, _, Try.func60, by kernel_rfl, rfl, comp_law05_shallow, by kernel_rfl, by kernel_rfl, rfl⟩

end Go.Proofs.Ytlodbaikbgbhjaa
