/- The code of functions, for the abstract machine, and that it is theirs. Printed by vc2.py. -/
import Derived.Test.YtdjgfjnnafddnaaIds
set_option linter.unusedVariables false
set_option maxRecDepth 100000
namespace Go.Proofs.Ytdjgfjnnafddnaa
open Go Go.Vm

/- usher/usherlaw04.NamesSays -/
def vc_law04_NamesSays_o1_3 : List VO := ⟨(some 2), none, (.mv (.t 17))⟩ :: []
def vc_law04_NamesSays_o1_2 : List VO := ⟨(some 13), (some (8, true)), (.beq false (.t 10) (.t 12))⟩ :: ⟨none, none, .kp [8, 13]⟩ :: ⟨(some 14), none, (.pick (.t 8) (.t 13) (.c (.val (.bool false))))⟩ :: ⟨none, none, .kp [14]⟩ :: ⟨(some 15), none, (.mv (.t 14))⟩ :: ⟨(some 16), (some (15, true)), (.call 19 [] [])⟩ :: ⟨(some 17), none, (.pick (.t 15) (.t 16) (.c (.val (.bool false))))⟩ :: ⟨none, none, .kp [17]⟩ :: vc_law04_NamesSays_o1_3
def vc_law04_NamesSays_o1_1 : List VO := ⟨(some 8), none, (.mv (.t 7))⟩ :: ⟨(some 9), (some (8, true)), (.mv (.t 0))⟩ :: ⟨(some 10), (some (8, true)), (.call 17 [] [(.t 9)])⟩ :: ⟨none, none, .kp [0, 8, 10]⟩ :: ⟨(some 11), (some (8, true)), (.mv (.t 0))⟩ :: ⟨(some 12), (some (8, true)), (.call 18 [] [(.t 11)])⟩ :: ⟨none, none, .kp [8, 10, 12]⟩ :: vc_law04_NamesSays_o1_2
def vc_law04_NamesSays_o1 : List VO := ⟨(some 3), none, (.mv (.t 0))⟩ :: ⟨(some 4), none, (.call 15 [] [(.t 3)])⟩ :: ⟨(some 5), none, (.mv (.t 0))⟩ :: ⟨(some 6), none, (.call 16 [] [(.t 5)])⟩ :: ⟨none, none, .kp [0, 4, 6]⟩ :: ⟨(some 7), none, (.beq false (.t 4) (.t 6))⟩ :: ⟨none, none, .kp [0, 7]⟩ :: vc_law04_NamesSays_o1_1
def vc_law04_NamesSays_r1 : VCode := (.keep [0] (.seq (.region false vc_law04_NamesSays_o1) (.keep [2] .ret)))
def vc_law04_NamesSays_o2 : List VO := ⟨(some 2), none, (.mv (.c (.val (.bool false))))⟩ :: []
def vc_law04_NamesSays : VCode := (.seq (.region false vc_law04_NamesSays_o2) vc_law04_NamesSays_r1)
def rs_law04_NamesSays : List RV := [(.t 2)]
theorem comp_law04_NamesSays : ccode Try.prog (Try.f3.body.getD .skip) = some (strip vc_law04_NamesSays) := by kernel_rfl
theorem code_law04_NamesSays : IsCode Try.prog id_law04_NamesSays 18 vc_law04_NamesSays rs_law04_NamesSays := ⟨_, _, Try.func3, by kernel_rfl, rfl, comp_law04_NamesSays, by kernel_rfl, by kernel_rfl, rfl⟩

/- usher/usherlaw04.NamesKeys -/
def vc_law04_NamesKeys_o1_3 : List VO := ⟨(some 20), (some (19, true)), (.call 19 [] [])⟩ :: ⟨(some 21), none, (.pick (.t 19) (.t 20) (.c (.val (.bool false))))⟩ :: ⟨none, none, .kp [21]⟩ :: ⟨(some 4), none, (.mv (.t 21))⟩ :: []
def vc_law04_NamesKeys_o1_2 : List VO := ⟨(some 15), (some (10, true)), (.mv (.t 1))⟩ :: ⟨none, none, .kp [10, 13, 14, 15]⟩ :: ⟨(some 16), (some (10, true)), (.call 23 [] [(.t 14), (.t 15)])⟩ :: ⟨none, none, .kp [10, 13, 16]⟩ :: ⟨(some 17), (some (10, true)), (.bin .eql (.t 13) (.t 16))⟩ :: ⟨none, none, .kp [10, 17]⟩ :: ⟨(some 18), none, (.pick (.t 10) (.t 17) (.c (.val (.bool false))))⟩ :: ⟨none, none, .kp [18]⟩ :: ⟨(some 19), none, (.mv (.t 18))⟩ :: vc_law04_NamesKeys_o1_3
def vc_law04_NamesKeys_o1_1 : List VO := ⟨(some 10), none, (.mv (.t 9))⟩ :: ⟨(some 11), (some (10, true)), (.mv (.t 0))⟩ :: ⟨(some 12), (some (10, true)), (.mv (.t 1))⟩ :: ⟨(some 13), (some (10, true)), (.call 22 [] [(.t 11), (.t 12)])⟩ :: ⟨none, none, .kp [0, 1, 10, 13]⟩ :: ⟨(some 14), (some (10, true)), (.mv (.t 0))⟩ :: vc_law04_NamesKeys_o1_2
def vc_law04_NamesKeys_o1 : List VO := ⟨(some 5), none, (.mv (.t 0))⟩ :: ⟨(some 6), none, (.call 20 [] [(.t 5)])⟩ :: ⟨(some 7), none, (.mv (.t 0))⟩ :: ⟨(some 8), none, (.call 21 [] [(.t 7)])⟩ :: ⟨none, none, .kp [0, 1, 6, 8]⟩ :: ⟨(some 9), none, (.bin .eql (.t 6) (.t 8))⟩ :: ⟨none, none, .kp [0, 1, 9]⟩ :: vc_law04_NamesKeys_o1_1
def vc_law04_NamesKeys_r1 : VCode := (.keep [0, 1] (.seq (.region false vc_law04_NamesKeys_o1) (.keep [4] .ret)))
def vc_law04_NamesKeys_o2 : List VO := ⟨(some 4), none, (.mv (.c (.val (.bool false))))⟩ :: []
def vc_law04_NamesKeys : VCode := (.seq (.region false vc_law04_NamesKeys_o2) vc_law04_NamesKeys_r1)
def rs_law04_NamesKeys : List RV := [(.t 4)]
theorem comp_law04_NamesKeys : ccode Try.prog (Try.f4.body.getD .skip) = some (strip vc_law04_NamesKeys) := by kernel_rfl
theorem code_law04_NamesKeys : IsCode Try.prog id_law04_NamesKeys 22 vc_law04_NamesKeys rs_law04_NamesKeys := ⟨_, _, Try.func4, by kernel_rfl, rfl, comp_law04_NamesKeys, by kernel_rfl, by kernel_rfl, rfl⟩

/- usher/usherlaw04.NamesReads -/
def vc_law04_NamesReads_o1_5 : List VO := ⟨(some 60), none, (.pick (.t 58) (.t 59) (.c (.val (.bool false))))⟩ :: ⟨none, none, .kp [60]⟩ :: ⟨(some 2), none, (.mv (.t 60))⟩ :: []
def vc_law04_NamesReads_o1_4 : List VO := ⟨(some 55), (some (53, true)), (.mv (.t 12))⟩ :: ⟨(some 56), (some (53, true)), (.beq false (.t 54) (.t 55))⟩ :: ⟨none, none, .kp [53, 56]⟩ :: ⟨(some 57), none, (.pick (.t 53) (.t 56) (.c (.val (.bool false))))⟩ :: ⟨none, none, .kp [57]⟩ :: ⟨(some 58), none, (.mv (.t 57))⟩ :: ⟨(some 59), (some (58, true)), (.call 19 [] [])⟩ :: vc_law04_NamesReads_o1_5
def vc_law04_NamesReads_o1_3 : List VO := ⟨(some 50), (some (48, true)), (.mv (.t 11))⟩ :: ⟨(some 51), (some (48, true)), (.bin .eql (.t 49) (.t 50))⟩ :: ⟨none, none, .kp [9, 12, 48, 51]⟩ :: ⟨(some 52), none, (.pick (.t 48) (.t 51) (.c (.val (.bool false))))⟩ :: ⟨none, none, .kp [9, 12, 52]⟩ :: ⟨(some 53), none, (.mv (.t 52))⟩ :: ⟨(some 54), (some (53, true)), (.mv (.t 9))⟩ :: ⟨none, none, .kp [12, 53, 54]⟩ :: vc_law04_NamesReads_o1_4
def vc_law04_NamesReads_o1_2 : List VO := ⟨(some 45), (some (43, true)), (.mv (.t 10))⟩ :: ⟨(some 46), (some (43, true)), (.bin .eql (.t 44) (.t 45))⟩ :: ⟨none, none, .kp [8, 9, 11, 12, 43, 46]⟩ :: ⟨(some 47), none, (.pick (.t 43) (.t 46) (.c (.val (.bool false))))⟩ :: ⟨none, none, .kp [8, 9, 11, 12, 47]⟩ :: ⟨(some 48), none, (.mv (.t 47))⟩ :: ⟨(some 49), (some (48, true)), (.mv (.t 8))⟩ :: ⟨none, none, .kp [9, 11, 12, 48, 49]⟩ :: vc_law04_NamesReads_o1_3
def vc_law04_NamesReads_o1_1 : List VO := ⟨(some 40), (some (38, true)), (.mv (.t 6))⟩ :: ⟨(some 41), (some (38, true)), (.beq false (.t 39) (.t 40))⟩ :: ⟨none, none, .kp [7, 8, 9, 10, 11, 12, 38, 41]⟩ :: ⟨(some 42), none, (.pick (.t 38) (.t 41) (.c (.val (.bool false))))⟩ :: ⟨none, none, .kp [7, 8, 9, 10, 11, 12, 42]⟩ :: ⟨(some 43), none, (.mv (.t 42))⟩ :: ⟨(some 44), (some (43, true)), (.mv (.t 7))⟩ :: ⟨none, none, .kp [8, 9, 10, 11, 12, 43, 44]⟩ :: vc_law04_NamesReads_o1_2
def vc_law04_NamesReads_o1 : List VO := ⟨(some 35), none, (.mv (.t 3))⟩ :: ⟨(some 36), none, (.mv (.t 5))⟩ :: ⟨none, none, .kp [4, 6, 7, 8, 9, 10, 11, 12, 35, 36]⟩ :: ⟨(some 37), none, (.bin .eql (.t 35) (.t 36))⟩ :: ⟨none, none, .kp [4, 6, 7, 8, 9, 10, 11, 12, 37]⟩ :: ⟨(some 38), none, (.mv (.t 37))⟩ :: ⟨(some 39), (some (38, true)), (.mv (.t 4))⟩ :: ⟨none, none, .kp [6, 7, 8, 9, 10, 11, 12, 38, 39]⟩ :: vc_law04_NamesReads_o1_1
def vc_law04_NamesReads_r1 : VCode := (.keep [3, 4, 5, 6, 7, 8, 9, 10, 11, 12] (.seq (.region false vc_law04_NamesReads_o1) (.keep [2] .ret)))
def vc_law04_NamesReads_o2_1 : List VO := ⟨(some 34), none, (.extract (.t 29) 2)⟩ :: ⟨none, none, .kp [3, 4, 5, 6, 7, 8, 9, 32, 33, 34]⟩ :: ⟨(some 10), none, (.mv (.t 32))⟩ :: ⟨(some 11), none, (.mv (.t 33))⟩ :: ⟨none, none, .kp [3, 4, 5, 6, 7, 8, 9, 10, 11, 34]⟩ :: ⟨(some 12), none, (.mv (.t 34))⟩ :: []
def vc_law04_NamesReads_o2 : List VO := ⟨(some 30), none, (.mv (.t 0))⟩ :: ⟨(some 31), none, (.call 47 [] [(.t 30)])⟩ :: ⟨none, none, .kp [3, 4, 5, 6, 7, 8, 9, 31]⟩ :: ⟨(some 29), none, (.mv (.t 31))⟩ :: ⟨(some 32), none, (.extract (.t 29) 0)⟩ :: ⟨(some 33), none, (.extract (.t 29) 1)⟩ :: vc_law04_NamesReads_o2_1
def vc_law04_NamesReads_r2 : VCode := (.keep [0, 3, 4, 5, 6, 7, 8, 9] (.seq (.region false vc_law04_NamesReads_o2) vc_law04_NamesReads_r1))
def vc_law04_NamesReads_o3_1 : List VO := ⟨(some 28), none, (.extract (.t 23) 2)⟩ :: ⟨(some 7), none, (.mv (.t 26))⟩ :: ⟨none, none, .kp [0, 3, 4, 5, 6, 7, 27, 28]⟩ :: ⟨(some 8), none, (.mv (.t 27))⟩ :: ⟨(some 9), none, (.mv (.t 28))⟩ :: []
def vc_law04_NamesReads_o3 : List VO := ⟨(some 24), none, (.mv (.t 0))⟩ :: ⟨(some 25), none, (.call 46 [] [(.t 24)])⟩ :: ⟨(some 23), none, (.mv (.t 25))⟩ :: ⟨none, none, .kp [0, 3, 4, 5, 6, 23]⟩ :: ⟨(some 26), none, (.extract (.t 23) 0)⟩ :: ⟨(some 27), none, (.extract (.t 23) 1)⟩ :: vc_law04_NamesReads_o3_1
def vc_law04_NamesReads_r3 : VCode := (.keep [0, 3, 4, 5, 6] (.seq (.region false vc_law04_NamesReads_o3) vc_law04_NamesReads_r2))
def vc_law04_NamesReads_o4_1 : List VO := ⟨(some 5), none, (.mv (.t 21))⟩ :: ⟨none, none, .kp [0, 3, 4, 5, 22]⟩ :: ⟨(some 6), none, (.mv (.t 22))⟩ :: []
def vc_law04_NamesReads_o4 : List VO := ⟨(some 19), none, (.mv (.t 0))⟩ :: ⟨(some 20), none, (.call 45 [] [(.t 19)])⟩ :: ⟨(some 18), none, (.mv (.t 20))⟩ :: ⟨none, none, .kp [0, 3, 4, 18]⟩ :: ⟨(some 21), none, (.extract (.t 18) 0)⟩ :: ⟨(some 22), none, (.extract (.t 18) 1)⟩ :: vc_law04_NamesReads_o4_1
def vc_law04_NamesReads_r4 : VCode := (.keep [0, 3, 4] (.seq (.region false vc_law04_NamesReads_o4) vc_law04_NamesReads_r3))
def vc_law04_NamesReads_o5_1 : List VO := ⟨(some 3), none, (.mv (.t 16))⟩ :: ⟨none, none, .kp [0, 3, 17]⟩ :: ⟨(some 4), none, (.mv (.t 17))⟩ :: []
def vc_law04_NamesReads_o5 : List VO := ⟨(some 14), none, (.mv (.t 0))⟩ :: ⟨(some 15), none, (.call 44 [] [(.t 14)])⟩ :: ⟨(some 13), none, (.mv (.t 15))⟩ :: ⟨none, none, .kp [0, 13]⟩ :: ⟨(some 16), none, (.extract (.t 13) 0)⟩ :: ⟨(some 17), none, (.extract (.t 13) 1)⟩ :: vc_law04_NamesReads_o5_1
def vc_law04_NamesReads_r5 : VCode := (.keep [0] (.seq (.region false vc_law04_NamesReads_o5) vc_law04_NamesReads_r4))
def vc_law04_NamesReads_o6 : List VO := ⟨(some 2), none, (.mv (.c (.val (.bool false))))⟩ :: []
def vc_law04_NamesReads : VCode := (.seq (.region false vc_law04_NamesReads_o6) vc_law04_NamesReads_r5)
def rs_law04_NamesReads : List RV := [(.t 2)]
theorem comp_law04_NamesReads : ccode Try.prog (Try.f8.body.getD .skip) = some (strip vc_law04_NamesReads) := by kernel_rfl
theorem code_law04_NamesReads : IsCode Try.prog id_law04_NamesReads 61 vc_law04_NamesReads rs_law04_NamesReads := ⟨_, _, Try.func8, by kernel_rfl, rfl, comp_law04_NamesReads, by kernel_rfl, by kernel_rfl, rfl⟩

/- usher/usherlaw04.NamesBack -/
def vc_law04_NamesBack_o1_9 : List VO := ⟨(some 4), none, (.mv (.t 97))⟩ :: []
def vc_law04_NamesBack_o1_8 : List VO := ⟨(some 93), (some (90, true)), (.un .not (.t 92))⟩ :: ⟨none, none, .kp [90, 93]⟩ :: ⟨(some 94), none, (.pick (.t 90) (.t 93) (.c (.val (.bool false))))⟩ :: ⟨none, none, .kp [94]⟩ :: ⟨(some 95), none, (.mv (.t 94))⟩ :: ⟨(some 96), (some (95, true)), (.call 19 [] [])⟩ :: ⟨(some 97), none, (.pick (.t 95) (.t 96) (.c (.val (.bool false))))⟩ :: ⟨none, none, .kp [97]⟩ :: vc_law04_NamesBack_o1_9
def vc_law04_NamesBack_o1_7 : List VO := ⟨(some 88), (some (85, true)), (.bin .leq (.t 87) (.c (.val (.int .i64 64))))⟩ :: ⟨none, none, .kp [0, 85, 88]⟩ :: ⟨(some 89), none, (.pick (.t 85) (.t 88) (.c (.val (.bool false))))⟩ :: ⟨none, none, .kp [0, 89]⟩ :: ⟨(some 90), none, (.mv (.t 89))⟩ :: ⟨(some 91), (some (90, true)), (.mv (.t 0))⟩ :: ⟨none, none, .kp [90, 91]⟩ :: ⟨(some 92), (some (90, true)), (.call 61 [] [(.t 91), (.c (.val (.string ⟨#[47]⟩)))])⟩ :: vc_law04_NamesBack_o1_8
def vc_law04_NamesBack_o1_6 : List VO := ⟨(some 83), (some (80, true)), (.bin .leq (.t 82) (.c (.val (.int .i64 64))))⟩ :: ⟨none, none, .kp [0, 6, 80, 83]⟩ :: ⟨(some 84), none, (.pick (.t 80) (.t 83) (.c (.val (.bool false))))⟩ :: ⟨none, none, .kp [0, 6, 84]⟩ :: ⟨(some 85), none, (.mv (.t 84))⟩ :: ⟨(some 86), (some (85, true)), (.mv (.t 6))⟩ :: ⟨none, none, .kp [0, 85, 86]⟩ :: ⟨(some 87), (some (85, true)), (.lenS (.t 86))⟩ :: vc_law04_NamesBack_o1_7
def vc_law04_NamesBack_o1_5 : List VO := ⟨(some 78), (some (76, true)), (.un .not (.t 77))⟩ :: ⟨(some 79), none, (.pick (.t 76) (.t 78) (.c (.val (.bool false))))⟩ :: ⟨none, none, .kp [0, 5, 6, 79]⟩ :: ⟨(some 80), none, (.mv (.t 79))⟩ :: ⟨(some 81), (some (80, true)), (.mv (.t 5))⟩ :: ⟨none, none, .kp [0, 6, 80, 81]⟩ :: ⟨(some 82), (some (80, true)), (.lenS (.t 81))⟩ :: vc_law04_NamesBack_o1_6
def vc_law04_NamesBack_o1_4 : List VO := ⟨(some 73), (some (72, true)), (.mv (.t 13))⟩ :: ⟨none, none, .kp [0, 5, 6, 16, 72, 73]⟩ :: ⟨(some 74), (some (72, true)), (.un .not (.t 73))⟩ :: ⟨(some 75), none, (.pick (.t 72) (.t 74) (.c (.val (.bool false))))⟩ :: ⟨none, none, .kp [0, 5, 6, 16, 75]⟩ :: ⟨(some 76), none, (.mv (.t 75))⟩ :: ⟨(some 77), (some (76, true)), (.mv (.t 16))⟩ :: ⟨none, none, .kp [0, 5, 6, 76, 77]⟩ :: vc_law04_NamesBack_o1_5
def vc_law04_NamesBack_o1_3 : List VO := ⟨(some 68), (some (67, true)), (.mv (.t 10))⟩ :: ⟨none, none, .kp [0, 1, 5, 6, 13, 16, 67, 68]⟩ :: ⟨(some 69), (some (67, true)), (.mv (.t 1))⟩ :: ⟨(some 70), (some (67, true)), (.bin .eql (.t 68) (.t 69))⟩ :: ⟨none, none, .kp [0, 5, 6, 13, 16, 67, 70]⟩ :: ⟨(some 71), none, (.pick (.t 67) (.t 70) (.c (.val (.bool false))))⟩ :: ⟨none, none, .kp [0, 5, 6, 13, 16, 71]⟩ :: ⟨(some 72), none, (.mv (.t 71))⟩ :: vc_law04_NamesBack_o1_4
def vc_law04_NamesBack_o1_2 : List VO := ⟨(some 63), (some (62, true)), (.mv (.t 9))⟩ :: ⟨none, none, .kp [0, 1, 5, 6, 10, 13, 16, 62, 63]⟩ :: ⟨(some 64), (some (62, true)), (.mv (.t 0))⟩ :: ⟨(some 65), (some (62, true)), (.bin .eql (.t 63) (.t 64))⟩ :: ⟨none, none, .kp [0, 1, 5, 6, 10, 13, 16, 62, 65]⟩ :: ⟨(some 66), none, (.pick (.t 62) (.t 65) (.c (.val (.bool false))))⟩ :: ⟨none, none, .kp [0, 1, 5, 6, 10, 13, 16, 66]⟩ :: ⟨(some 67), none, (.mv (.t 66))⟩ :: vc_law04_NamesBack_o1_3
def vc_law04_NamesBack_o1_1 : List VO := ⟨(some 58), (some (57, true)), (.mv (.t 7))⟩ :: ⟨none, none, .kp [0, 1, 5, 6, 9, 10, 13, 16, 57, 58]⟩ :: ⟨(some 59), (some (57, true)), (.mv (.t 0))⟩ :: ⟨(some 60), (some (57, true)), (.bin .eql (.t 58) (.t 59))⟩ :: ⟨none, none, .kp [0, 1, 5, 6, 9, 10, 13, 16, 57, 60]⟩ :: ⟨(some 61), none, (.pick (.t 57) (.t 60) (.c (.val (.bool false))))⟩ :: ⟨none, none, .kp [0, 1, 5, 6, 9, 10, 13, 16, 61]⟩ :: ⟨(some 62), none, (.mv (.t 61))⟩ :: vc_law04_NamesBack_o1_2
def vc_law04_NamesBack_o1 : List VO := ⟨(some 53), none, (.mv (.t 8))⟩ :: ⟨(some 54), none, (.mv (.t 53))⟩ :: ⟨none, none, .kp [0, 1, 5, 6, 7, 9, 10, 11, 13, 16, 54]⟩ :: ⟨(some 55), (some (54, true)), (.mv (.t 11))⟩ :: ⟨(some 56), none, (.pick (.t 54) (.t 55) (.c (.val (.bool false))))⟩ :: ⟨none, none, .kp [0, 1, 5, 6, 7, 9, 10, 13, 16, 56]⟩ :: ⟨(some 57), none, (.mv (.t 56))⟩ :: vc_law04_NamesBack_o1_1
def vc_law04_NamesBack_r1 : VCode := (.keep [0, 1, 5, 6, 7, 8, 9, 10, 11, 13, 16] (.seq (.region false vc_law04_NamesBack_o1) (.keep [4] .ret)))
def vc_law04_NamesBack_o2_1 : List VO := ⟨(some 52), none, (.extract (.t 47) 2)⟩ :: ⟨(some 14), none, (.mv (.t 50))⟩ :: ⟨none, none, .kp [0, 1, 5, 6, 7, 8, 9, 10, 11, 13, 51, 52]⟩ :: ⟨(some 15), none, (.mv (.t 51))⟩ :: ⟨none, none, .kp [0, 1, 5, 6, 7, 8, 9, 10, 11, 13, 52]⟩ :: ⟨(some 16), none, (.mv (.t 52))⟩ :: []
def vc_law04_NamesBack_o2 : List VO := ⟨(some 48), none, (.mv (.t 5))⟩ :: ⟨(some 49), none, (.call 46 [] [(.t 48)])⟩ :: ⟨(some 47), none, (.mv (.t 49))⟩ :: ⟨none, none, .kp [0, 1, 5, 6, 7, 8, 9, 10, 11, 13, 47]⟩ :: ⟨(some 50), none, (.extract (.t 47) 0)⟩ :: ⟨(some 51), none, (.extract (.t 47) 1)⟩ :: vc_law04_NamesBack_o2_1
def vc_law04_NamesBack_r2 : VCode := (.keep [0, 1, 5, 6, 7, 8, 9, 10, 11, 13] (.seq (.region false vc_law04_NamesBack_o2) vc_law04_NamesBack_r1))
def vc_law04_NamesBack_o3_1 : List VO := ⟨(some 12), none, (.mv (.t 45))⟩ :: ⟨none, none, .kp [0, 1, 5, 6, 7, 8, 9, 10, 11, 46]⟩ :: ⟨(some 13), none, (.mv (.t 46))⟩ :: []
def vc_law04_NamesBack_o3 : List VO := ⟨(some 43), none, (.mv (.t 6))⟩ :: ⟨(some 44), none, (.call 44 [] [(.t 43)])⟩ :: ⟨(some 42), none, (.mv (.t 44))⟩ :: ⟨none, none, .kp [0, 1, 5, 6, 7, 8, 9, 10, 11, 42]⟩ :: ⟨(some 45), none, (.extract (.t 42) 0)⟩ :: ⟨(some 46), none, (.extract (.t 42) 1)⟩ :: vc_law04_NamesBack_o3_1
def vc_law04_NamesBack_r3 : VCode := (.keep [0, 1, 5, 6, 7, 8, 9, 10, 11] (.seq (.region false vc_law04_NamesBack_o3) vc_law04_NamesBack_r2))
def vc_law04_NamesBack_o4_1 : List VO := ⟨(some 41), none, (.extract (.t 36) 2)⟩ :: ⟨(some 9), none, (.mv (.t 39))⟩ :: ⟨none, none, .kp [0, 1, 5, 6, 7, 8, 9, 40, 41]⟩ :: ⟨(some 10), none, (.mv (.t 40))⟩ :: ⟨(some 11), none, (.mv (.t 41))⟩ :: []
def vc_law04_NamesBack_o4 : List VO := ⟨(some 37), none, (.mv (.t 6))⟩ :: ⟨(some 38), none, (.call 46 [] [(.t 37)])⟩ :: ⟨(some 36), none, (.mv (.t 38))⟩ :: ⟨none, none, .kp [0, 1, 5, 6, 7, 8, 36]⟩ :: ⟨(some 39), none, (.extract (.t 36) 0)⟩ :: ⟨(some 40), none, (.extract (.t 36) 1)⟩ :: vc_law04_NamesBack_o4_1
def vc_law04_NamesBack_r4 : VCode := (.keep [0, 1, 5, 6, 7, 8] (.seq (.region false vc_law04_NamesBack_o4) vc_law04_NamesBack_r3))
def vc_law04_NamesBack_o5_1 : List VO := ⟨(some 7), none, (.mv (.t 34))⟩ :: ⟨none, none, .kp [0, 1, 5, 6, 7, 35]⟩ :: ⟨(some 8), none, (.mv (.t 35))⟩ :: []
def vc_law04_NamesBack_o5 : List VO := ⟨(some 32), none, (.mv (.t 5))⟩ :: ⟨(some 33), none, (.call 44 [] [(.t 32)])⟩ :: ⟨(some 31), none, (.mv (.t 33))⟩ :: ⟨none, none, .kp [0, 1, 5, 6, 31]⟩ :: ⟨(some 34), none, (.extract (.t 31) 0)⟩ :: ⟨(some 35), none, (.extract (.t 31) 1)⟩ :: vc_law04_NamesBack_o5_1
def vc_law04_NamesBack_r5 : VCode := (.keep [0, 1, 5, 6] (.seq (.region false vc_law04_NamesBack_o5) vc_law04_NamesBack_r4))
def vc_law04_NamesBack_o6_1 : List VO := ⟨(some 5), none, (.mv (.t 27))⟩ :: ⟨(some 6), none, (.mv (.t 30))⟩ :: []
def vc_law04_NamesBack_o6 : List VO := ⟨(some 26), none, (.mv (.t 0))⟩ :: ⟨(some 27), none, (.call 20 [] [(.t 26)])⟩ :: ⟨(some 28), none, (.mv (.t 0))⟩ :: ⟨(some 29), none, (.mv (.t 1))⟩ :: ⟨(some 30), none, (.call 22 [] [(.t 28), (.t 29)])⟩ :: ⟨none, none, .kp [0, 1, 27, 30]⟩ :: vc_law04_NamesBack_o6_1
def vc_law04_NamesBack_r6 : VCode := (.keep [0, 1] (.seq (.region false vc_law04_NamesBack_o6) vc_law04_NamesBack_r5))
def vc_law04_NamesBack_o7 : List VO := ⟨(some 25), none, (.call 19 [] [])⟩ :: ⟨(some 4), none, (.mv (.t 25))⟩ :: []
def vc_law04_NamesBack_c7 : VCode := (.seq (.region false vc_law04_NamesBack_o7) (.keep [4] .ret))
def vc_law04_NamesBack_r8 : VCode := (.keep [0, 1, 24] (.cond (.t 24) vc_law04_NamesBack_c7 .skip))
def vc_law04_NamesBack_o8 : List VO := ⟨(some 22), none, (.mv (.t 0))⟩ :: ⟨(some 23), none, (.call 15 [] [(.t 22)])⟩ :: ⟨(some 24), none, (.un .not (.t 23))⟩ :: []
def vc_law04_NamesBack_r9 : VCode := (.keep [0, 1] (.seq (.seq (.region false vc_law04_NamesBack_o8) vc_law04_NamesBack_r8) vc_law04_NamesBack_r6))
def vc_law04_NamesBack_o9_1 : List VO := ⟨(some 1), none, (.mv (.t 21))⟩ :: []
def vc_law04_NamesBack_o9 : List VO := ⟨(some 17), none, (.mv (.t 1))⟩ :: ⟨(some 18), none, (.cvInt .u64 (.t 17))⟩ :: ⟨none, none, .kp [0, 18]⟩ :: ⟨(some 19), none, (.bin .rem (.t 18) (.c (.val (.int .u64 10))))⟩ :: ⟨(some 20), none, (.cvInt .i64 (.t 19))⟩ :: ⟨none, none, .kp [0, 20]⟩ :: ⟨(some 21), none, (.bin .add (.c (.val (.int .i64 1))) (.t 20))⟩ :: vc_law04_NamesBack_o9_1
def vc_law04_NamesBack_r10 : VCode := (.keep [0, 1] (.seq (.region false vc_law04_NamesBack_o9) vc_law04_NamesBack_r9))
def vc_law04_NamesBack_o10 : List VO := ⟨(some 4), none, (.mv (.c (.val (.bool false))))⟩ :: []
def vc_law04_NamesBack : VCode := (.seq (.region false vc_law04_NamesBack_o10) vc_law04_NamesBack_r10)
def rs_law04_NamesBack : List RV := [(.t 4)]
theorem comp_law04_NamesBack : ccode Try.prog (Try.f13.body.getD .skip) = some (strip vc_law04_NamesBack) := by kernel_rfl
theorem code_law04_NamesBack : IsCode Try.prog id_law04_NamesBack 98 vc_law04_NamesBack rs_law04_NamesBack := ⟨_, _, Try.func13, by kernel_rfl, rfl, comp_law04_NamesBack, by kernel_rfl, by kernel_rfl, rfl⟩

/- usher/usherlaw04.awake -/
def vc_law04_awake_o1_1 : List VO := ⟨(some 6), none, (.pick (.t 3) (.t 5) (.c (.val (.bool false))))⟩ :: ⟨none, none, .kp [6]⟩ :: ⟨(some 7), none, (.mv (.t 6))⟩ :: ⟨(some 8), (some (7, true)), (.call 15 [] [(.c (.val (.string ⟨#[97]⟩)))])⟩ :: ⟨(some 9), none, (.pick (.t 7) (.t 8) (.c (.val (.bool false))))⟩ :: ⟨none, none, .kp [9]⟩ :: ⟨(some 0), none, (.mv (.t 9))⟩ :: []
def vc_law04_awake_o1 : List VO := ⟨(some 1), none, (.call 22 [] [(.c (.val (.string ⟨#[97, 46, 98]⟩))), (.c (.val (.int .i64 10)))])⟩ :: ⟨(some 2), none, (.bin .eql (.t 1) (.c (.val (.string ⟨#[104, 47, 97, 46, 98, 47, 49, 48]⟩))))⟩ :: ⟨(some 3), none, (.mv (.t 2))⟩ :: ⟨none, none, .kp [3]⟩ :: ⟨(some 4), (some (3, true)), (.call 15 [] [(.c (.val (.string ⟨#[]⟩)))])⟩ :: ⟨(some 5), (some (3, true)), (.un .not (.t 4))⟩ :: vc_law04_awake_o1_1
def vc_law04_awake_r1 : VCode := (.keep [] (.seq (.region false vc_law04_awake_o1) (.keep [0] .ret)))
def vc_law04_awake_o2 : List VO := ⟨(some 0), none, (.mv (.c (.val (.bool false))))⟩ :: []
def vc_law04_awake : VCode := (.seq (.region false vc_law04_awake_o2) vc_law04_awake_r1)
def rs_law04_awake : List RV := [(.t 0)]
theorem comp_law04_awake : ccode Try.prog (Try.f19.body.getD .skip) = some (strip vc_law04_awake) := by kernel_rfl
theorem code_law04_awake : IsCode Try.prog id_law04_awake 10 vc_law04_awake rs_law04_awake := ⟨_, _, Try.func19, by kernel_rfl, rfl, comp_law04_awake, by kernel_rfl, by kernel_rfl, rfl⟩

end Go.Proofs.Ytdjgfjnnafddnaa
