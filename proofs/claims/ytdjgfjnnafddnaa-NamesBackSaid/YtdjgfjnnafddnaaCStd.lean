/- The code of functions, for the abstract machine, and that it is theirs. Printed by vc2.py. -/
import Derived.Test.YtdjgfjnnafddnaaIds
set_option linter.unusedVariables false
set_option maxRecDepth 100000
namespace Go.Proofs.Ytdjgfjnnafddnaa
open Go Go.Vm

/- gosem.cut.init -/
def vc_gosem_cut_init_o1 : List VO := ⟨(some 0), none, (.call 1 [] [])⟩ :: []
def vc_gosem_cut_init : VCode := (.region false vc_gosem_cut_init_o1)
def rs_gosem_cut_init : List RV := []
theorem comp_gosem_cut_init : ccode Try.prog (Try.f2.body.getD .skip) = some (strip vc_gosem_cut_init) := by kernel_rfl
theorem code_gosem_cut_init : IsCode Try.prog id_gosem_cut_init 1 vc_gosem_cut_init rs_gosem_cut_init := ⟨_, _, Try.func2, by kernel_rfl, rfl, comp_gosem_cut_init, by kernel_rfl, by kernel_rfl, rfl⟩

/- bytes.Clone -/
def vc_bytes_Clone_o1 : List VO := ⟨(some 5), none, (.lit false 5 1 0 [] [])⟩ :: ⟨(some 6), none, (.mv (.t 0))⟩ :: ⟨(some 7), none, (.app 5 1 1 (.t 5) (.t 6))⟩ :: ⟨none, none, .kp [7]⟩ :: ⟨(some 2), none, (.mv (.t 7))⟩ :: []
def vc_bytes_Clone_r1 : VCode := (.keep [0] (.seq (.region false vc_bytes_Clone_o1) (.keep [2] .ret)))
def vc_bytes_Clone_o2 : List VO := ⟨(some 2), none, (.mv (.c (.val (.slice none 0 0))))⟩ :: []
def vc_bytes_Clone_r2 : VCode := (.keep [0, 4] (.cond (.t 4) (.seq (.region false vc_bytes_Clone_o2) (.keep [2] .ret)) .skip))
def vc_bytes_Clone_o3 : List VO := ⟨(some 3), none, (.mv (.t 0))⟩ :: ⟨(some 4), none, (.isnil .s false (.t 3))⟩ :: []
def vc_bytes_Clone_r3 : VCode := (.keep [0] (.seq (.seq (.region false vc_bytes_Clone_o3) vc_bytes_Clone_r2) vc_bytes_Clone_r1))
def vc_bytes_Clone_o4 : List VO := ⟨(some 2), none, (.mv (.c (.val (.slice none 0 0))))⟩ :: []
def vc_bytes_Clone : VCode := (.seq (.region false vc_bytes_Clone_o4) vc_bytes_Clone_r3)
def rs_bytes_Clone : List RV := [(.t 2)]
theorem comp_bytes_Clone : ccode Try.prog (Try.f24.body.getD .skip) = some (strip vc_bytes_Clone) := by kernel_rfl
theorem code_bytes_Clone : IsCode Try.prog id_bytes_Clone 8 vc_bytes_Clone rs_bytes_Clone := ⟨_, _, Try.func24, by kernel_rfl, rfl, comp_bytes_Clone, by kernel_rfl, by kernel_rfl, rfl⟩

/- bytes.Equal -/
def vc_bytes_Equal_o1_1 : List VO := ⟨(some 4), none, (.mv (.t 9))⟩ :: []
def vc_bytes_Equal_o1 : List VO := ⟨(some 5), none, (.mv (.t 0))⟩ :: ⟨(some 6), none, (.toStr (.t 5))⟩ :: ⟨none, none, .kp [1, 6]⟩ :: ⟨(some 7), none, (.mv (.t 1))⟩ :: ⟨(some 8), none, (.toStr (.t 7))⟩ :: ⟨none, none, .kp [6, 8]⟩ :: ⟨(some 9), none, (.bin .eql (.t 6) (.t 8))⟩ :: ⟨none, none, .kp [9]⟩ :: vc_bytes_Equal_o1_1
def vc_bytes_Equal_r1 : VCode := (.keep [0, 1] (.seq (.region false vc_bytes_Equal_o1) (.keep [4] .ret)))
def vc_bytes_Equal_o2 : List VO := ⟨(some 4), none, (.mv (.c (.val (.bool false))))⟩ :: []
def vc_bytes_Equal : VCode := (.seq (.region false vc_bytes_Equal_o2) vc_bytes_Equal_r1)
def rs_bytes_Equal : List RV := [(.t 4)]
theorem comp_bytes_Equal : ccode Try.prog (Try.f25.body.getD .skip) = some (strip vc_bytes_Equal) := by kernel_rfl
theorem code_bytes_Equal : IsCode Try.prog id_bytes_Equal 10 vc_bytes_Equal rs_bytes_Equal := ⟨_, _, Try.func25, by kernel_rfl, rfl, comp_bytes_Equal, by kernel_rfl, by kernel_rfl, rfl⟩

/- bytes.Compare -/
def vc_bytes_Compare_o1 : List VO := ⟨(some 5), none, (.mv (.t 0))⟩ :: ⟨(some 6), none, (.mv (.t 1))⟩ :: ⟨none, none, .kp [5, 6]⟩ :: ⟨(some 7), none, (.call 75 [] [(.t 5), (.t 6)])⟩ :: ⟨none, none, .kp [7]⟩ :: ⟨(some 4), none, (.mv (.t 7))⟩ :: []
def vc_bytes_Compare_r1 : VCode := (.keep [0, 1] (.seq (.region false vc_bytes_Compare_o1) (.keep [4] .ret)))
def vc_bytes_Compare_o2 : List VO := ⟨(some 4), none, (.mv (.c (.val (.int .i64 0))))⟩ :: []
def vc_bytes_Compare : VCode := (.seq (.region false vc_bytes_Compare_o2) vc_bytes_Compare_r1)
def rs_bytes_Compare : List RV := [(.t 4)]
theorem comp_bytes_Compare : ccode Try.prog (Try.f37.body.getD .skip) = some (strip vc_bytes_Compare) := by kernel_rfl
theorem code_bytes_Compare : IsCode Try.prog id_bytes_Compare 8 vc_bytes_Compare rs_bytes_Compare := ⟨_, _, Try.func37, by kernel_rfl, rfl, comp_bytes_Compare, by kernel_rfl, by kernel_rfl, rfl⟩

/- cmp.Compare[int] -/
def vc_cmp_Compare_int_o1 : List VO := ⟨(some 4), none, (.mv (.c (.val (.int .i64 0))))⟩ :: []
def vc_cmp_Compare_int_r1 : VCode := (.keep [] (.seq (.region false vc_cmp_Compare_int_o1) (.keep [4] .ret)))
def vc_cmp_Compare_int_o2 : List VO := ⟨(some 4), none, (.mv (.c (.val (.int .i64 1))))⟩ :: []
def vc_cmp_Compare_int_c2 : VCode := (.seq (.region false vc_cmp_Compare_int_o2) (.keep [4] .ret))
def vc_cmp_Compare_int_r3 : VCode := (.keep [19] (.cond (.t 19) vc_cmp_Compare_int_c2 .skip))
def vc_cmp_Compare_int_o3 : List VO := ⟨(some 17), none, (.mv (.t 0))⟩ :: ⟨(some 18), none, (.mv (.t 1))⟩ :: ⟨none, none, .kp [17, 18]⟩ :: ⟨(some 19), none, (.bin .gtr (.t 17) (.t 18))⟩ :: []
def vc_cmp_Compare_int_r4 : VCode := (.keep [0, 1] (.seq (.seq (.region false vc_cmp_Compare_int_o3) vc_cmp_Compare_int_r3) vc_cmp_Compare_int_r1))
def vc_cmp_Compare_int_o4 : List VO := ⟨(some 4), none, (.mv (.c (.val (.int .i64 (-1)))))⟩ :: []
def vc_cmp_Compare_int_c5 : VCode := (.seq (.region false vc_cmp_Compare_int_o4) (.keep [4] .ret))
def vc_cmp_Compare_int_r6 : VCode := (.keep [0, 1, 16] (.cond (.t 16) vc_cmp_Compare_int_c5 .skip))
def vc_cmp_Compare_int_o5 : List VO := ⟨(some 14), none, (.mv (.t 0))⟩ :: ⟨(some 15), none, (.mv (.t 1))⟩ :: ⟨(some 16), none, (.bin .lss (.t 14) (.t 15))⟩ :: []
def vc_cmp_Compare_int_r7 : VCode := (.keep [0, 1] (.seq (.seq (.region false vc_cmp_Compare_int_o5) vc_cmp_Compare_int_r6) vc_cmp_Compare_int_r4))
def vc_cmp_Compare_int_o6 : List VO := ⟨(some 4), none, (.mv (.c (.val (.int .i64 1))))⟩ :: []
def vc_cmp_Compare_int_c8 : VCode := (.seq (.region false vc_cmp_Compare_int_o6) (.keep [4] .ret))
def vc_cmp_Compare_int_r9 : VCode := (.keep [0, 1, 13] (.cond (.t 13) vc_cmp_Compare_int_c8 .skip))
def vc_cmp_Compare_int_o7 : List VO := ⟨(some 13), none, (.mv (.t 6))⟩ :: []
def vc_cmp_Compare_int_r10 : VCode := (.keep [0, 1, 6] (.seq (.seq (.region false vc_cmp_Compare_int_o7) vc_cmp_Compare_int_r9) vc_cmp_Compare_int_r7))
def vc_cmp_Compare_int_o8 : List VO := ⟨(some 4), none, (.mv (.c (.val (.int .i64 (-1)))))⟩ :: []
def vc_cmp_Compare_int_r11 : VCode := (.keep [] (.seq (.region false vc_cmp_Compare_int_o8) (.keep [4] .ret)))
def vc_cmp_Compare_int_o9 : List VO := ⟨(some 4), none, (.mv (.c (.val (.int .i64 0))))⟩ :: []
def vc_cmp_Compare_int_c12 : VCode := (.seq (.region false vc_cmp_Compare_int_o9) (.keep [4] .ret))
def vc_cmp_Compare_int_r13 : VCode := (.keep [12] (.cond (.t 12) vc_cmp_Compare_int_c12 .skip))
def vc_cmp_Compare_int_o10 : List VO := ⟨(some 12), none, (.mv (.t 6))⟩ :: []
def vc_cmp_Compare_int_c14 : VCode := (.seq (.seq (.region false vc_cmp_Compare_int_o10) vc_cmp_Compare_int_r13) vc_cmp_Compare_int_r11)
def vc_cmp_Compare_int_r15 : VCode := (.keep [0, 1, 6, 11] (.cond (.t 11) vc_cmp_Compare_int_c14 .skip))
def vc_cmp_Compare_int_o11 : List VO := ⟨(some 11), none, (.mv (.t 5))⟩ :: []
def vc_cmp_Compare_int_r16 : VCode := (.keep [0, 1, 5, 6] (.seq (.seq (.region false vc_cmp_Compare_int_o11) vc_cmp_Compare_int_r15) vc_cmp_Compare_int_r10))
def vc_cmp_Compare_int_o12 : List VO := ⟨(some 9), none, (.mv (.t 1))⟩ :: ⟨(some 10), none, (.call 76 [] [(.t 9)])⟩ :: ⟨(some 6), none, (.mv (.t 10))⟩ :: []
def vc_cmp_Compare_int_r17 : VCode := (.keep [0, 1, 5] (.seq (.region false vc_cmp_Compare_int_o12) vc_cmp_Compare_int_r16))
def vc_cmp_Compare_int_o13 : List VO := ⟨(some 7), none, (.mv (.t 0))⟩ :: ⟨(some 8), none, (.call 76 [] [(.t 7)])⟩ :: ⟨(some 5), none, (.mv (.t 8))⟩ :: []
def vc_cmp_Compare_int_r18 : VCode := (.keep [0, 1] (.seq (.region false vc_cmp_Compare_int_o13) vc_cmp_Compare_int_r17))
def vc_cmp_Compare_int_o14 : List VO := ⟨(some 4), none, (.mv (.c (.val (.int .i64 0))))⟩ :: []
def vc_cmp_Compare_int : VCode := (.seq (.region false vc_cmp_Compare_int_o14) vc_cmp_Compare_int_r18)
def rs_cmp_Compare_int : List RV := [(.t 4)]
theorem comp_cmp_Compare_int : ccode Try.prog (Try.f38.body.getD .skip) = some (strip vc_cmp_Compare_int) := by kernel_rfl
theorem code_cmp_Compare_int : IsCode Try.prog id_cmp_Compare_int 20 vc_cmp_Compare_int rs_cmp_Compare_int := ⟨_, _, Try.func38, by kernel_rfl, rfl, comp_cmp_Compare_int, by kernel_rfl, by kernel_rfl, rfl⟩

/- strings.Contains -/
def vc_strings_Contains_o1 : List VO := ⟨(some 5), none, (.mv (.t 0))⟩ :: ⟨(some 6), none, (.mv (.t 1))⟩ :: ⟨none, none, .kp [5, 6]⟩ :: ⟨(some 7), none, (.call 97 [] [(.t 5), (.t 6)])⟩ :: ⟨none, none, .kp [7]⟩ :: ⟨(some 8), none, (.bin .geq (.t 7) (.c (.val (.int .i64 0))))⟩ :: ⟨(some 4), none, (.mv (.t 8))⟩ :: []
def vc_strings_Contains_r1 : VCode := (.keep [0, 1] (.seq (.region false vc_strings_Contains_o1) (.keep [4] .ret)))
def vc_strings_Contains_o2 : List VO := ⟨(some 4), none, (.mv (.c (.val (.bool false))))⟩ :: []
def vc_strings_Contains : VCode := (.seq (.region false vc_strings_Contains_o2) vc_strings_Contains_r1)
def rs_strings_Contains : List RV := [(.t 4)]
theorem comp_strings_Contains : ccode Try.prog (Try.f61.body.getD .skip) = some (strip vc_strings_Contains) := by kernel_rfl
theorem code_strings_Contains : IsCode Try.prog id_strings_Contains 9 vc_strings_Contains rs_strings_Contains := ⟨_, _, Try.func61, by kernel_rfl, rfl, comp_strings_Contains, by kernel_rfl, by kernel_rfl, rfl⟩

/- cmp.isNaN[int] -/
def vc_cmp_isNaN_int_o1 : List VO := ⟨(some 3), none, (.mv (.t 0))⟩ :: ⟨(some 4), none, (.mv (.t 0))⟩ :: ⟨(some 5), none, (.bin .neq (.t 3) (.t 4))⟩ :: ⟨none, none, .kp [5]⟩ :: ⟨(some 2), none, (.mv (.t 5))⟩ :: []
def vc_cmp_isNaN_int_r1 : VCode := (.keep [0] (.seq (.region false vc_cmp_isNaN_int_o1) (.keep [2] .ret)))
def vc_cmp_isNaN_int_o2 : List VO := ⟨(some 2), none, (.mv (.c (.val (.bool false))))⟩ :: []
def vc_cmp_isNaN_int : VCode := (.seq (.region false vc_cmp_isNaN_int_o2) vc_cmp_isNaN_int_r1)
def rs_cmp_isNaN_int : List RV := [(.t 2)]
theorem comp_cmp_isNaN_int : ccode Try.prog (Try.f76.body.getD .skip) = some (strip vc_cmp_isNaN_int) := by kernel_rfl
theorem code_cmp_isNaN_int : IsCode Try.prog id_cmp_isNaN_int 6 vc_cmp_isNaN_int rs_cmp_isNaN_int := ⟨_, _, Try.func76, by kernel_rfl, rfl, comp_cmp_isNaN_int, by kernel_rfl, by kernel_rfl, rfl⟩

/- strings.CutPrefix -/
def vc_strings_CutPrefix_o1_1 : List VO := ⟨(some 4), none, (.mv (.t 9))⟩ :: ⟨none, none, .kp [4, 10]⟩ :: ⟨(some 5), none, (.mv (.t 10))⟩ :: []
def vc_strings_CutPrefix_o1 : List VO := ⟨(some 6), none, (.mv (.t 0))⟩ :: ⟨(some 7), none, (.mv (.t 1))⟩ :: ⟨none, none, .kp [6, 7]⟩ :: ⟨(some 8), none, (.call 103 [] [(.t 6), (.t 7)])⟩ :: ⟨none, none, .kp [8]⟩ :: ⟨(some 9), none, (.extract (.t 8) 0)⟩ :: ⟨(some 10), none, (.extract (.t 8) 1)⟩ :: vc_strings_CutPrefix_o1_1
def vc_strings_CutPrefix_r1 : VCode := (.keep [0, 1] (.seq (.region false vc_strings_CutPrefix_o1) (.keep [4, 5] .ret)))
def vc_strings_CutPrefix_o2 : List VO := ⟨(some 4), none, (.mv (.c (.val (.string ⟨#[]⟩))))⟩ :: ⟨(some 5), none, (.mv (.c (.val (.bool false))))⟩ :: []
def vc_strings_CutPrefix : VCode := (.seq (.region false vc_strings_CutPrefix_o2) vc_strings_CutPrefix_r1)
def rs_strings_CutPrefix : List RV := [(.t 4), (.t 5)]
theorem comp_strings_CutPrefix : ccode Try.prog (Try.f87.body.getD .skip) = some (strip vc_strings_CutPrefix) := by kernel_rfl
theorem code_strings_CutPrefix : IsCode Try.prog id_strings_CutPrefix 11 vc_strings_CutPrefix rs_strings_CutPrefix := ⟨_, _, Try.func87, by kernel_rfl, rfl, comp_strings_CutPrefix, by kernel_rfl, by kernel_rfl, rfl⟩

/- strings.LastIndexByte -/
def vc_strings_LastIndexByte_o1 : List VO := ⟨(some 5), none, (.mv (.t 0))⟩ :: ⟨(some 6), none, (.mv (.t 1))⟩ :: ⟨none, none, .kp [5, 6]⟩ :: ⟨(some 7), none, (.call 104 [] [(.t 5), (.t 6)])⟩ :: ⟨none, none, .kp [7]⟩ :: ⟨(some 4), none, (.mv (.t 7))⟩ :: []
def vc_strings_LastIndexByte_r1 : VCode := (.keep [0, 1] (.seq (.region false vc_strings_LastIndexByte_o1) (.keep [4] .ret)))
def vc_strings_LastIndexByte_o2 : List VO := ⟨(some 4), none, (.mv (.c (.val (.int .i64 0))))⟩ :: []
def vc_strings_LastIndexByte : VCode := (.seq (.region false vc_strings_LastIndexByte_o2) vc_strings_LastIndexByte_r1)
def rs_strings_LastIndexByte : List RV := [(.t 4)]
theorem comp_strings_LastIndexByte : ccode Try.prog (Try.f88.body.getD .skip) = some (strip vc_strings_LastIndexByte) := by kernel_rfl
theorem code_strings_LastIndexByte : IsCode Try.prog id_strings_LastIndexByte 8 vc_strings_LastIndexByte rs_strings_LastIndexByte := ⟨_, _, Try.func88, by kernel_rfl, rfl, comp_strings_LastIndexByte, by kernel_rfl, by kernel_rfl, rfl⟩

/- strings.Index -/
def vc_strings_Index_o1 : List VO := ⟨(some 5), none, (.mv (.t 0))⟩ :: ⟨(some 6), none, (.mv (.t 1))⟩ :: ⟨none, none, .kp [5, 6]⟩ :: ⟨(some 7), none, (.call 105 [] [(.t 5), (.t 6)])⟩ :: ⟨none, none, .kp [7]⟩ :: ⟨(some 4), none, (.mv (.t 7))⟩ :: []
def vc_strings_Index_r1 : VCode := (.keep [0, 1] (.seq (.region false vc_strings_Index_o1) (.keep [4] .ret)))
def vc_strings_Index_o2 : List VO := ⟨(some 4), none, (.mv (.c (.val (.int .i64 0))))⟩ :: []
def vc_strings_Index : VCode := (.seq (.region false vc_strings_Index_o2) vc_strings_Index_r1)
def rs_strings_Index : List RV := [(.t 4)]
theorem comp_strings_Index : ccode Try.prog (Try.f97.body.getD .skip) = some (strip vc_strings_Index) := by kernel_rfl
theorem code_strings_Index : IsCode Try.prog id_strings_Index 8 vc_strings_Index rs_strings_Index := ⟨_, _, Try.func97, by kernel_rfl, rfl, comp_strings_Index, by kernel_rfl, by kernel_rfl, rfl⟩

/- internal/stringslite.CutPrefix -/
def vc_stringslite_CutPrefix_o1_1 : List VO := ⟨(some 5), none, (.mv (.c (.val (.bool true))))⟩ :: []
def vc_stringslite_CutPrefix_o1 : List VO := ⟨(some 11), none, (.mv (.t 0))⟩ :: ⟨(some 12), none, (.mv (.t 1))⟩ :: ⟨none, none, .kp [11, 12]⟩ :: ⟨(some 13), none, (.lenS (.t 12))⟩ :: ⟨(some 14), none, (.cutS (.t 11) (some (.t 13)) none)⟩ :: ⟨none, none, .kp [14]⟩ :: ⟨(some 4), none, (.mv (.t 14))⟩ :: vc_stringslite_CutPrefix_o1_1
def vc_stringslite_CutPrefix_r1 : VCode := (.keep [0, 1] (.seq (.region false vc_stringslite_CutPrefix_o1) (.keep [4, 5] .ret)))
def vc_stringslite_CutPrefix_o2 : List VO := ⟨(some 10), none, (.mv (.t 0))⟩ :: ⟨(some 4), none, (.mv (.t 10))⟩ :: ⟨none, none, .kp [4]⟩ :: ⟨(some 5), none, (.mv (.c (.val (.bool false))))⟩ :: []
def vc_stringslite_CutPrefix_c2 : VCode := (.seq (.region false vc_stringslite_CutPrefix_o2) (.keep [4, 5] .ret))
def vc_stringslite_CutPrefix_r3 : VCode := (.keep [0, 1, 9] (.cond (.t 9) vc_stringslite_CutPrefix_c2 .skip))
def vc_stringslite_CutPrefix_o3 : List VO := ⟨(some 6), none, (.mv (.t 0))⟩ :: ⟨(some 7), none, (.mv (.t 1))⟩ :: ⟨(some 8), none, (.call 107 [] [(.t 6), (.t 7)])⟩ :: ⟨none, none, .kp [0, 1, 8]⟩ :: ⟨(some 9), none, (.un .not (.t 8))⟩ :: []
def vc_stringslite_CutPrefix_r4 : VCode := (.keep [0, 1] (.seq (.seq (.region false vc_stringslite_CutPrefix_o3) vc_stringslite_CutPrefix_r3) vc_stringslite_CutPrefix_r1))
def vc_stringslite_CutPrefix_o4 : List VO := ⟨(some 4), none, (.mv (.c (.val (.string ⟨#[]⟩))))⟩ :: ⟨(some 5), none, (.mv (.c (.val (.bool false))))⟩ :: []
def vc_stringslite_CutPrefix : VCode := (.seq (.region false vc_stringslite_CutPrefix_o4) vc_stringslite_CutPrefix_r4)
def rs_stringslite_CutPrefix : List RV := [(.t 4), (.t 5)]
theorem comp_stringslite_CutPrefix : ccode Try.prog (Try.f103.body.getD .skip) = some (strip vc_stringslite_CutPrefix) := by kernel_rfl
theorem code_stringslite_CutPrefix : IsCode Try.prog id_stringslite_CutPrefix 15 vc_stringslite_CutPrefix rs_stringslite_CutPrefix := ⟨_, _, Try.func103, by kernel_rfl, rfl, comp_stringslite_CutPrefix, by kernel_rfl, by kernel_rfl, rfl⟩

/- internal/bytealg.LastIndexByteString -/
def vc_bytealg_LastIndexByteString_o1 : List VO := ⟨(some 4), none, (.mv (.c (.val (.int .i64 (-1)))))⟩ :: []
def vc_bytealg_LastIndexByteString_r1 : VCode := (.keep [] (.seq (.region false vc_bytealg_LastIndexByteString_o1) (.keep [4] .ret)))
def vc_bytealg_LastIndexByteString_o2 : List VO := ⟨(some 11), none, (.mv (.t 5))⟩ :: ⟨(some 12), none, (.bin .sub (.t 11) (.c (.val (.int .i64 1))))⟩ :: ⟨none, none, .kp [0, 1, 12]⟩ :: ⟨(some 5), none, (.mv (.t 12))⟩ :: []
def vc_bytealg_LastIndexByteString_r2 : VCode := (.keep [0, 1, 5] (.region false vc_bytealg_LastIndexByteString_o2))
def vc_bytealg_LastIndexByteString_o3 : List VO := ⟨(some 18), none, (.mv (.t 5))⟩ :: ⟨(some 4), none, (.mv (.t 18))⟩ :: []
def vc_bytealg_LastIndexByteString_c3 : VCode := (.seq (.region false vc_bytealg_LastIndexByteString_o3) (.keep [4] .ret))
def vc_bytealg_LastIndexByteString_r4 : VCode := (.keep [0, 1, 5, 17] (.cond (.t 17) vc_bytealg_LastIndexByteString_c3 .skip))
def vc_bytealg_LastIndexByteString_o4 : List VO := ⟨(some 13), none, (.mv (.t 0))⟩ :: ⟨(some 14), none, (.mv (.t 5))⟩ :: ⟨(some 15), none, (.chr (.t 13) (.t 14))⟩ :: ⟨none, none, .kp [0, 1, 5, 15]⟩ :: ⟨(some 16), none, (.mv (.t 1))⟩ :: ⟨(some 17), none, (.bin .eql (.t 15) (.t 16))⟩ :: []
def vc_bytealg_LastIndexByteString_c5 : VCode := (.seq (.region false vc_bytealg_LastIndexByteString_o4) vc_bytealg_LastIndexByteString_r4)
def vc_bytealg_LastIndexByteString_r6 : VCode := (.keep [0, 1, 5] (.seq (.block 1 vc_bytealg_LastIndexByteString_c5) vc_bytealg_LastIndexByteString_r2))
def vc_bytealg_LastIndexByteString_r7 : VCode := (.keep [0, 1, 5, 10] (.cond (.t 10) .skip (.exit 0)))
def vc_bytealg_LastIndexByteString_o5 : List VO := ⟨(some 9), none, (.mv (.t 5))⟩ :: ⟨(some 10), none, (.bin .geq (.t 9) (.c (.val (.int .i64 0))))⟩ :: []
def vc_bytealg_LastIndexByteString_l8 : VCode := (.seq (.seq (.region false vc_bytealg_LastIndexByteString_o5) vc_bytealg_LastIndexByteString_r7) vc_bytealg_LastIndexByteString_r6)
def vc_bytealg_LastIndexByteString_r9 : VCode := (.keep [0, 1, 5] (.block 0 (.loop (.keep [0, 1, 5] vc_bytealg_LastIndexByteString_l8))))
def vc_bytealg_LastIndexByteString_o6 : List VO := ⟨(some 6), none, (.mv (.t 0))⟩ :: ⟨(some 7), none, (.lenS (.t 6))⟩ :: ⟨(some 8), none, (.bin .sub (.t 7) (.c (.val (.int .i64 1))))⟩ :: ⟨none, none, .kp [0, 1, 8]⟩ :: ⟨(some 5), none, (.mv (.t 8))⟩ :: []
def vc_bytealg_LastIndexByteString_r10 : VCode := (.keep [0, 1] (.seq (.seq (.region false vc_bytealg_LastIndexByteString_o6) vc_bytealg_LastIndexByteString_r9) vc_bytealg_LastIndexByteString_r1))
def vc_bytealg_LastIndexByteString_o7 : List VO := ⟨(some 4), none, (.mv (.c (.val (.int .i64 0))))⟩ :: []
def vc_bytealg_LastIndexByteString : VCode := (.seq (.region false vc_bytealg_LastIndexByteString_o7) vc_bytealg_LastIndexByteString_r10)
def rs_bytealg_LastIndexByteString : List RV := [(.t 4)]
theorem comp_bytealg_LastIndexByteString : ccode Try.prog (Try.f104.body.getD .skip) = some (strip vc_bytealg_LastIndexByteString) := by kernel_rfl
theorem code_bytealg_LastIndexByteString : IsCode Try.prog id_bytealg_LastIndexByteString 19 vc_bytealg_LastIndexByteString rs_bytealg_LastIndexByteString := ⟨_, _, Try.func104, by kernel_rfl, rfl, comp_bytealg_LastIndexByteString, by kernel_rfl, by kernel_rfl, rfl⟩

/- internal/stringslite.Index -/
def vc_stringslite_Index_o1 : List VO := ⟨(some 4), none, (.mv (.c (.val (.int .i64 (-1)))))⟩ :: []
def vc_stringslite_Index_r1 : VCode := (.keep [] (.seq (.region false vc_stringslite_Index_o1) (.keep [4] .ret)))
def vc_stringslite_Index_o2 : List VO := ⟨(some 4), none, (.mv (.c (.val (.int .i64 (-1)))))⟩ :: []
def vc_stringslite_Index_r2 : VCode := (.keep [] (.seq (.region false vc_stringslite_Index_o2) (.keep [4] .ret)))
def vc_stringslite_Index_o3 : List VO := ⟨(some 115), none, (.mv (.t 12))⟩ :: ⟨(some 116), none, (.mv (.t 8))⟩ :: ⟨none, none, .kp [115, 116]⟩ :: ⟨(some 117), none, (.bin .add (.t 115) (.t 116))⟩ :: ⟨none, none, .kp [117]⟩ :: ⟨(some 4), none, (.mv (.t 117))⟩ :: []
def vc_stringslite_Index_c3 : VCode := (.seq (.region false vc_stringslite_Index_o3) (.keep [4] .ret))
def vc_stringslite_Index_r4 : VCode := (.keep [8, 12, 114] (.cond (.t 114) vc_stringslite_Index_c3 .skip))
def vc_stringslite_Index_o4 : List VO := ⟨(some 113), none, (.mv (.t 12))⟩ :: ⟨(some 114), none, (.bin .geq (.t 113) (.c (.val (.int .i64 0))))⟩ :: []
def vc_stringslite_Index_r5 : VCode := (.keep [8, 12] (.seq (.seq (.region false vc_stringslite_Index_o4) vc_stringslite_Index_r4) vc_stringslite_Index_r2))
def vc_stringslite_Index_o5_1 : List VO := ⟨(some 12), none, (.mv (.t 112))⟩ :: []
def vc_stringslite_Index_o5 : List VO := ⟨(some 108), none, (.mv (.t 0))⟩ :: ⟨(some 109), none, (.mv (.t 8))⟩ :: ⟨(some 110), none, (.cutS (.t 108) (some (.t 109)) none)⟩ :: ⟨none, none, .kp [1, 8, 110]⟩ :: ⟨(some 111), none, (.mv (.t 1))⟩ :: ⟨(some 112), none, (.call 109 [] [(.t 110), (.t 111)])⟩ :: ⟨none, none, .kp [8, 112]⟩ :: vc_stringslite_Index_o5_1
def vc_stringslite_Index_c6 : VCode := (.seq (.region false vc_stringslite_Index_o5) vc_stringslite_Index_r5)
def vc_stringslite_Index_o6 : List VO := ⟨(some 140), none, (.mv (.t 8))⟩ :: ⟨(some 141), none, (.mv (.t 13))⟩ :: ⟨none, none, .kp [140, 141]⟩ :: ⟨(some 142), none, (.bin .add (.t 140) (.t 141))⟩ :: ⟨none, none, .kp [142]⟩ :: ⟨(some 4), none, (.mv (.t 142))⟩ :: []
def vc_stringslite_Index_r7 : VCode := (.keep [8, 13] (.seq (.region false vc_stringslite_Index_o6) (.keep [4] .ret)))
def vc_stringslite_Index_o7 : List VO := ⟨(some 4), none, (.mv (.c (.val (.int .i64 (-1)))))⟩ :: []
def vc_stringslite_Index_c8 : VCode := (.seq (.region false vc_stringslite_Index_o7) (.keep [4] .ret))
def vc_stringslite_Index_r9 : VCode := (.keep [8, 13, 139] (.cond (.t 139) vc_stringslite_Index_c8 .skip))
def vc_stringslite_Index_o8 : List VO := ⟨(some 138), none, (.mv (.t 13))⟩ :: ⟨(some 139), none, (.bin .lss (.t 138) (.c (.val (.int .i64 0))))⟩ :: []
def vc_stringslite_Index_r10 : VCode := (.keep [8, 13] (.seq (.seq (.region false vc_stringslite_Index_o8) vc_stringslite_Index_r9) vc_stringslite_Index_r7))
def vc_stringslite_Index_o9_1 : List VO := ⟨(some 13), none, (.mv (.t 137))⟩ :: []
def vc_stringslite_Index_o9 : List VO := ⟨(some 133), none, (.mv (.t 0))⟩ :: ⟨(some 134), none, (.mv (.t 8))⟩ :: ⟨(some 135), none, (.cutS (.t 133) (some (.t 134)) none)⟩ :: ⟨none, none, .kp [1, 8, 135]⟩ :: ⟨(some 136), none, (.mv (.t 1))⟩ :: ⟨(some 137), none, (.call 111 [] [(.t 135), (.t 136)])⟩ :: ⟨none, none, .kp [8, 137]⟩ :: vc_stringslite_Index_o9_1
def vc_stringslite_Index_c11 : VCode := (.seq (.region false vc_stringslite_Index_o9) vc_stringslite_Index_r10)
def vc_stringslite_Index_r12 : VCode := (.keep [0, 1, 5, 6, 7, 8, 9, 10, 132] (.cond (.t 132) vc_stringslite_Index_c11 .skip))
def vc_stringslite_Index_o10_2 : List VO := ⟨(some 128), none, (.mv (.t 127))⟩ :: ⟨(some 129), (some (128, true)), (.mv (.t 8))⟩ :: ⟨(some 130), (some (128, true)), (.mv (.t 9))⟩ :: ⟨(some 131), (some (128, true)), (.bin .lss (.t 129) (.t 130))⟩ :: ⟨none, none, .kp [0, 1, 5, 6, 7, 8, 9, 10, 128, 131]⟩ :: ⟨(some 132), none, (.pick (.t 128) (.t 131) (.c (.val (.bool false))))⟩ :: []
def vc_stringslite_Index_o10_1 : List VO := ⟨(some 123), (some (121, true)), (.mv (.t 8))⟩ :: ⟨(some 124), (some (121, true)), (.bin .shr (.t 123) (.c (.val (.int .u64 4))))⟩ :: ⟨none, none, .kp [0, 1, 5, 6, 7, 8, 9, 10, 121, 122, 124]⟩ :: ⟨(some 125), (some (121, true)), (.bin .add (.c (.val (.int .i64 4))) (.t 124))⟩ :: ⟨(some 126), (some (121, true)), (.bin .geq (.t 122) (.t 125))⟩ :: ⟨none, none, .kp [0, 1, 5, 6, 7, 8, 9, 10, 121, 126]⟩ :: ⟨(some 127), none, (.pick (.t 121) (.t 126) (.c (.val (.bool false))))⟩ :: ⟨none, none, .kp [0, 1, 5, 6, 7, 8, 9, 10, 127]⟩ :: vc_stringslite_Index_o10_2
def vc_stringslite_Index_o10 : List VO := ⟨(some 118), none, (.mv (.t 5))⟩ :: ⟨(some 119), none, .bad⟩ :: ⟨(some 120), none, (.bin .gtr (.t 118) (.t 119))⟩ :: ⟨none, none, .kp [0, 1, 5, 6, 7, 8, 9, 10, 120]⟩ :: ⟨(some 121), none, (.mv (.t 120))⟩ :: ⟨(some 122), (some (121, true)), (.mv (.t 10))⟩ :: vc_stringslite_Index_o10_1
def vc_stringslite_Index_c13 : VCode := (.seq (.region false vc_stringslite_Index_o10) vc_stringslite_Index_r12)
def vc_stringslite_Index_r14 : VCode := (.keep [0, 1, 5, 6, 7, 8, 9, 10, 107] (.cond (.t 107) vc_stringslite_Index_c6 vc_stringslite_Index_c13))
def vc_stringslite_Index_o11_1 : List VO := ⟨(some 104), (some (102, true)), (.mv (.t 8))⟩ :: ⟨(some 105), (some (102, true)), (.call 110 [] [(.t 104)])⟩ :: ⟨none, none, .kp [0, 1, 5, 6, 7, 8, 9, 10, 102, 103, 105]⟩ :: ⟨(some 106), (some (102, true)), (.bin .gtr (.t 103) (.t 105))⟩ :: ⟨none, none, .kp [0, 1, 5, 6, 7, 8, 9, 10, 102, 106]⟩ :: ⟨(some 107), none, (.pick (.t 102) (.t 106) (.c (.val (.bool false))))⟩ :: []
def vc_stringslite_Index_o11 : List VO := ⟨(some 99), none, (.mv (.t 5))⟩ :: ⟨(some 100), none, .bad⟩ :: ⟨(some 101), none, (.bin .leq (.t 99) (.t 100))⟩ :: ⟨none, none, .kp [0, 1, 5, 6, 7, 8, 9, 10, 101]⟩ :: ⟨(some 102), none, (.mv (.t 101))⟩ :: ⟨(some 103), (some (102, true)), (.mv (.t 10))⟩ :: vc_stringslite_Index_o11_1
def vc_stringslite_Index_r15 : VCode := (.keep [0, 1, 5, 6, 7, 8, 9, 10] (.seq (.region false vc_stringslite_Index_o11) vc_stringslite_Index_r14))
def vc_stringslite_Index_o12 : List VO := ⟨(some 97), none, (.mv (.t 10))⟩ :: ⟨(some 98), none, (.bin .add (.t 97) (.c (.val (.int .i64 1))))⟩ :: ⟨none, none, .kp [0, 1, 5, 6, 7, 8, 9, 98]⟩ :: ⟨(some 10), none, (.mv (.t 98))⟩ :: []
def vc_stringslite_Index_r16 : VCode := (.keep [0, 1, 5, 6, 7, 8, 9, 10] (.seq (.region false vc_stringslite_Index_o12) vc_stringslite_Index_r15))
def vc_stringslite_Index_o13 : List VO := ⟨(some 95), none, (.mv (.t 8))⟩ :: ⟨(some 96), none, (.bin .add (.t 95) (.c (.val (.int .i64 1))))⟩ :: ⟨none, none, .kp [0, 1, 5, 6, 7, 9, 10, 96]⟩ :: ⟨(some 8), none, (.mv (.t 96))⟩ :: []
def vc_stringslite_Index_r17 : VCode := (.keep [0, 1, 5, 6, 7, 8, 9, 10] (.seq (.region false vc_stringslite_Index_o13) vc_stringslite_Index_r16))
def vc_stringslite_Index_o14 : List VO := ⟨(some 94), none, (.mv (.t 8))⟩ :: ⟨(some 4), none, (.mv (.t 94))⟩ :: []
def vc_stringslite_Index_c18 : VCode := (.seq (.region false vc_stringslite_Index_o14) (.keep [4] .ret))
def vc_stringslite_Index_r19 : VCode := (.keep [0, 1, 5, 6, 7, 8, 9, 10, 93] (.cond (.t 93) vc_stringslite_Index_c18 .skip))
def vc_stringslite_Index_o15_3 : List VO := ⟨(some 93), none, (.pick (.t 84) (.t 92) (.c (.val (.bool false))))⟩ :: []
def vc_stringslite_Index_o15_2 : List VO := ⟨(some 88), (some (84, true)), (.mv (.t 5))⟩ :: ⟨(some 89), (some (84, true)), (.bin .add (.t 87) (.t 88))⟩ :: ⟨none, none, .kp [0, 1, 5, 6, 7, 8, 9, 10, 84, 85, 86, 89]⟩ :: ⟨(some 90), (some (84, true)), (.cutS (.t 85) (some (.t 86)) (some (.t 89)))⟩ :: ⟨none, none, .kp [0, 1, 5, 6, 7, 8, 9, 10, 84, 90]⟩ :: ⟨(some 91), (some (84, true)), (.mv (.t 1))⟩ :: ⟨(some 92), (some (84, true)), (.bin .eql (.t 90) (.t 91))⟩ :: ⟨none, none, .kp [0, 1, 5, 6, 7, 8, 9, 10, 84, 92]⟩ :: vc_stringslite_Index_o15_3
def vc_stringslite_Index_o15_1 : List VO := ⟨(some 83), none, (.bin .eql (.t 81) (.t 82))⟩ :: ⟨none, none, .kp [0, 1, 5, 6, 7, 8, 9, 10, 83]⟩ :: ⟨(some 84), none, (.mv (.t 83))⟩ :: ⟨(some 85), (some (84, true)), (.mv (.t 0))⟩ :: ⟨(some 86), (some (84, true)), (.mv (.t 8))⟩ :: ⟨(some 87), (some (84, true)), (.mv (.t 8))⟩ :: vc_stringslite_Index_o15_2
def vc_stringslite_Index_o15 : List VO := ⟨(some 78), none, (.mv (.t 0))⟩ :: ⟨(some 79), none, (.mv (.t 8))⟩ :: ⟨(some 80), none, (.bin .add (.t 79) (.c (.val (.int .i64 1))))⟩ :: ⟨(some 81), none, (.chr (.t 78) (.t 80))⟩ :: ⟨none, none, .kp [0, 1, 5, 6, 7, 8, 9, 10, 81]⟩ :: ⟨(some 82), none, (.mv (.t 7))⟩ :: vc_stringslite_Index_o15_1
def vc_stringslite_Index_r20 : VCode := (.keep [0, 1, 5, 6, 7, 8, 9, 10] (.seq (.seq (.region false vc_stringslite_Index_o15) vc_stringslite_Index_r19) vc_stringslite_Index_r17))
def vc_stringslite_Index_o16 : List VO := ⟨(some 74), none, (.mv (.t 8))⟩ :: ⟨(some 75), none, (.mv (.t 11))⟩ :: ⟨none, none, .kp [0, 1, 5, 6, 7, 9, 10, 74, 75]⟩ :: ⟨(some 76), none, (.bin .add (.t 75) (.c (.val (.int .i64 1))))⟩ :: ⟨(some 77), none, (.bin .add (.t 74) (.t 76))⟩ :: ⟨none, none, .kp [0, 1, 5, 6, 7, 9, 10, 77]⟩ :: ⟨(some 8), none, (.mv (.t 77))⟩ :: []
def vc_stringslite_Index_r21 : VCode := (.keep [0, 1, 5, 6, 7, 8, 9, 10, 11] (.region false vc_stringslite_Index_o16))
def vc_stringslite_Index_o17 : List VO := ⟨(some 4), none, (.mv (.c (.val (.int .i64 (-1)))))⟩ :: []
def vc_stringslite_Index_c22 : VCode := (.seq (.region false vc_stringslite_Index_o17) (.keep [4] .ret))
def vc_stringslite_Index_r23 : VCode := (.keep [0, 1, 5, 6, 7, 8, 9, 10, 11, 73] (.cond (.t 73) vc_stringslite_Index_c22 .skip))
def vc_stringslite_Index_o18 : List VO := ⟨(some 72), none, (.mv (.t 11))⟩ :: ⟨(some 73), none, (.bin .lss (.t 72) (.c (.val (.int .i64 0))))⟩ :: []
def vc_stringslite_Index_r24 : VCode := (.keep [0, 1, 5, 6, 7, 8, 9, 10, 11] (.seq (.seq (.region false vc_stringslite_Index_o18) vc_stringslite_Index_r23) vc_stringslite_Index_r21))
def vc_stringslite_Index_o19_1 : List VO := ⟨(some 70), none, (.mv (.t 6))⟩ :: ⟨(some 71), none, (.call 108 [] [(.t 69), (.t 70)])⟩ :: ⟨none, none, .kp [0, 1, 5, 6, 7, 8, 9, 10, 71]⟩ :: ⟨(some 11), none, (.mv (.t 71))⟩ :: []
def vc_stringslite_Index_o19 : List VO := ⟨(some 65), none, (.mv (.t 0))⟩ :: ⟨(some 66), none, (.mv (.t 8))⟩ :: ⟨(some 67), none, (.bin .add (.t 66) (.c (.val (.int .i64 1))))⟩ :: ⟨(some 68), none, (.mv (.t 9))⟩ :: ⟨(some 69), none, (.cutS (.t 65) (some (.t 67)) (some (.t 68)))⟩ :: ⟨none, none, .kp [0, 1, 5, 6, 7, 8, 9, 10, 69]⟩ :: vc_stringslite_Index_o19_1
def vc_stringslite_Index_c25 : VCode := (.seq (.region false vc_stringslite_Index_o19) vc_stringslite_Index_r24)
def vc_stringslite_Index_r26 : VCode := (.keep [0, 1, 5, 6, 7, 8, 9, 10, 64] (.cond (.t 64) vc_stringslite_Index_c25 .skip))
def vc_stringslite_Index_o20 : List VO := ⟨(some 60), none, (.mv (.t 0))⟩ :: ⟨(some 61), none, (.mv (.t 8))⟩ :: ⟨(some 62), none, (.chr (.t 60) (.t 61))⟩ :: ⟨none, none, .kp [0, 1, 5, 6, 7, 8, 9, 10, 62]⟩ :: ⟨(some 63), none, (.mv (.t 6))⟩ :: ⟨(some 64), none, (.bin .neq (.t 62) (.t 63))⟩ :: []
def vc_stringslite_Index_c27 : VCode := (.seq (.seq (.region false vc_stringslite_Index_o20) vc_stringslite_Index_r26) vc_stringslite_Index_r20)
def vc_stringslite_Index_r28 : VCode := (.keep [0, 1, 5, 6, 7, 8, 9, 10] (.block 2 vc_stringslite_Index_c27))
def vc_stringslite_Index_r29 : VCode := (.keep [0, 1, 5, 6, 7, 8, 9, 10, 59] (.cond (.t 59) .skip (.exit 1)))
def vc_stringslite_Index_o21 : List VO := ⟨(some 57), none, (.mv (.t 8))⟩ :: ⟨(some 58), none, (.mv (.t 9))⟩ :: ⟨(some 59), none, (.bin .lss (.t 57) (.t 58))⟩ :: []
def vc_stringslite_Index_l30 : VCode := (.seq (.seq (.region false vc_stringslite_Index_o21) vc_stringslite_Index_r29) vc_stringslite_Index_r28)
def vc_stringslite_Index_c31 : VCode := (.loop (.keep [0, 1, 5, 6, 7, 8, 9, 10] vc_stringslite_Index_l30))
def vc_stringslite_Index_r32 : VCode := (.keep [0, 1, 5, 6, 7, 8, 9, 10] (.seq (.block 1 vc_stringslite_Index_c31) vc_stringslite_Index_r1))
def vc_stringslite_Index_o22 : List VO := ⟨(some 10), none, (.mv (.c (.val (.int .i64 0))))⟩ :: []
def vc_stringslite_Index_r33 : VCode := (.keep [0, 1, 5, 6, 7, 8, 9] (.seq (.region false vc_stringslite_Index_o22) vc_stringslite_Index_r32))
def vc_stringslite_Index_o23_1 : List VO := ⟨(some 9), none, (.mv (.t 56))⟩ :: []
def vc_stringslite_Index_o23 : List VO := ⟨(some 52), none, (.mv (.t 0))⟩ :: ⟨(some 53), none, (.lenS (.t 52))⟩ :: ⟨(some 54), none, (.mv (.t 5))⟩ :: ⟨(some 55), none, (.bin .sub (.t 53) (.t 54))⟩ :: ⟨none, none, .kp [0, 1, 5, 6, 7, 8, 55]⟩ :: ⟨(some 56), none, (.bin .add (.t 55) (.c (.val (.int .i64 1))))⟩ :: vc_stringslite_Index_o23_1
def vc_stringslite_Index_r34 : VCode := (.keep [0, 1, 5, 6, 7, 8] (.seq (.region false vc_stringslite_Index_o23) vc_stringslite_Index_r33))
def vc_stringslite_Index_o24 : List VO := ⟨(some 8), none, (.mv (.c (.val (.int .i64 0))))⟩ :: []
def vc_stringslite_Index_r35 : VCode := (.keep [0, 1, 5, 6, 7] (.seq (.region false vc_stringslite_Index_o24) vc_stringslite_Index_r34))
def vc_stringslite_Index_o25 : List VO := ⟨(some 50), none, (.mv (.t 1))⟩ :: ⟨(some 51), none, (.chr (.t 50) (.c (.val (.int .i64 1))))⟩ :: ⟨(some 7), none, (.mv (.t 51))⟩ :: []
def vc_stringslite_Index_r36 : VCode := (.keep [0, 1, 5, 6] (.seq (.region false vc_stringslite_Index_o25) vc_stringslite_Index_r35))
def vc_stringslite_Index_o26 : List VO := ⟨(some 48), none, (.mv (.t 1))⟩ :: ⟨(some 49), none, (.chr (.t 48) (.c (.val (.int .i64 0))))⟩ :: ⟨(some 6), none, (.mv (.t 49))⟩ :: []
def vc_stringslite_Index_r37 : VCode := (.keep [0, 1, 5] (.seq (.region false vc_stringslite_Index_o26) vc_stringslite_Index_r36))
def vc_stringslite_Index_o27 : List VO := ⟨(some 4), none, (.mv (.c (.val (.int .i64 0))))⟩ :: []
def vc_stringslite_Index_c38 : VCode := (.seq (.region false vc_stringslite_Index_o27) (.keep [4] .ret))
def vc_stringslite_Index_o28 : List VO := ⟨(some 27), none, (.mv (.t 0))⟩ :: ⟨(some 28), none, (.mv (.t 1))⟩ :: ⟨none, none, .kp [27, 28]⟩ :: ⟨(some 29), none, (.chr (.t 28) (.c (.val (.int .i64 0))))⟩ :: ⟨(some 30), none, (.call 108 [] [(.t 27), (.t 29)])⟩ :: ⟨none, none, .kp [30]⟩ :: ⟨(some 4), none, (.mv (.t 30))⟩ :: []
def vc_stringslite_Index_c39 : VCode := (.seq (.region false vc_stringslite_Index_o28) (.keep [4] .ret))
def vc_stringslite_Index_o29 : List VO := ⟨(some 4), none, (.mv (.c (.val (.int .i64 (-1)))))⟩ :: []
def vc_stringslite_Index_c40 : VCode := (.seq (.region false vc_stringslite_Index_o29) (.keep [4] .ret))
def vc_stringslite_Index_o30 : List VO := ⟨(some 45), none, (.mv (.t 0))⟩ :: ⟨(some 46), none, (.mv (.t 1))⟩ :: ⟨none, none, .kp [45, 46]⟩ :: ⟨(some 47), none, (.call 109 [] [(.t 45), (.t 46)])⟩ :: ⟨none, none, .kp [47]⟩ :: ⟨(some 4), none, (.mv (.t 47))⟩ :: []
def vc_stringslite_Index_c41 : VCode := (.seq (.region false vc_stringslite_Index_o30) (.keep [4] .ret))
def vc_stringslite_Index_r42 : VCode := (.keep [0, 1, 5, 36] (.cond (.t 36) vc_stringslite_Index_c41 .skip))
def vc_stringslite_Index_o31_1 : List VO := ⟨(some 42), (some (40, true)), (.lenS (.t 41))⟩ :: ⟨none, none, .kp [0, 1, 5, 40, 42]⟩ :: ⟨(some 43), (some (40, true)), (.bin .leq (.t 42) (.c (.val (.int .i64 64))))⟩ :: ⟨(some 44), none, (.pick (.t 40) (.t 43) (.c (.val (.bool false))))⟩ :: ⟨none, none, .kp [0, 1, 5, 44]⟩ :: ⟨(some 36), none, (.mv (.t 44))⟩ :: []
def vc_stringslite_Index_o31 : List VO := ⟨(some 37), none, (.mv (.t 5))⟩ :: ⟨(some 38), none, .bad⟩ :: ⟨(some 39), none, (.bin .leq (.t 37) (.t 38))⟩ :: ⟨none, none, .kp [0, 1, 5, 39]⟩ :: ⟨(some 40), none, (.mv (.t 39))⟩ :: ⟨(some 41), (some (40, true)), (.mv (.t 0))⟩ :: vc_stringslite_Index_o31_1
def vc_stringslite_Index_c43 : VCode := (.seq (.region false vc_stringslite_Index_o31) vc_stringslite_Index_r42)
def vc_stringslite_Index_r44 : VCode := (.keep [0, 1, 5, 31] (.cond (.t 31) vc_stringslite_Index_c40 vc_stringslite_Index_c43))
def vc_stringslite_Index_o32 : List VO := ⟨(some 32), none, (.mv (.t 5))⟩ :: ⟨(some 33), none, (.mv (.t 0))⟩ :: ⟨(some 34), none, (.lenS (.t 33))⟩ :: ⟨(some 35), none, (.bin .geq (.t 32) (.t 34))⟩ :: ⟨none, none, .kp [0, 1, 5, 35]⟩ :: ⟨(some 31), none, (.mv (.t 35))⟩ :: []
def vc_stringslite_Index_c45 : VCode := (.seq (.region false vc_stringslite_Index_o32) vc_stringslite_Index_r44)
def vc_stringslite_Index_r46 : VCode := (.keep [0, 1, 5, 24] (.cond (.t 24) vc_stringslite_Index_c39 vc_stringslite_Index_c45))
def vc_stringslite_Index_o33 : List VO := ⟨(some 25), none, (.mv (.t 5))⟩ :: ⟨(some 26), none, (.bin .eql (.t 25) (.c (.val (.int .i64 1))))⟩ :: ⟨(some 24), none, (.mv (.t 26))⟩ :: []
def vc_stringslite_Index_c47 : VCode := (.seq (.region false vc_stringslite_Index_o33) vc_stringslite_Index_r46)
def vc_stringslite_Index_r48 : VCode := (.keep [0, 1, 5, 16] (.cond (.t 16) vc_stringslite_Index_c38 vc_stringslite_Index_c47))
def vc_stringslite_Index_o34_1 : List VO := ⟨(some 22), (some (19, false)), (.bin .eql (.t 20) (.t 21))⟩ :: ⟨none, none, .kp [0, 1, 5, 19, 22]⟩ :: ⟨(some 23), none, (.pick (.t 19) (.c (.val (.bool true))) (.t 22))⟩ :: ⟨none, none, .kp [0, 1, 5, 23]⟩ :: ⟨(some 16), none, (.mv (.t 23))⟩ :: []
def vc_stringslite_Index_o34 : List VO := ⟨(some 17), none, (.mv (.t 5))⟩ :: ⟨(some 18), none, (.bin .eql (.t 17) (.c (.val (.int .i64 0))))⟩ :: ⟨(some 19), none, (.mv (.t 18))⟩ :: ⟨none, none, .kp [0, 1, 5, 19]⟩ :: ⟨(some 20), (some (19, false)), (.mv (.t 1))⟩ :: ⟨(some 21), (some (19, false)), (.mv (.t 0))⟩ :: vc_stringslite_Index_o34_1
def vc_stringslite_Index_c49 : VCode := (.seq (.region false vc_stringslite_Index_o34) vc_stringslite_Index_r48)
def vc_stringslite_Index_r50 : VCode := (.keep [0, 1, 5] (.seq (.block 0 vc_stringslite_Index_c49) vc_stringslite_Index_r37))
def vc_stringslite_Index_o35 : List VO := ⟨(some 14), none, (.mv (.t 1))⟩ :: ⟨(some 15), none, (.lenS (.t 14))⟩ :: ⟨(some 5), none, (.mv (.t 15))⟩ :: []
def vc_stringslite_Index_r51 : VCode := (.keep [0, 1] (.seq (.region false vc_stringslite_Index_o35) vc_stringslite_Index_r50))
def vc_stringslite_Index_o36 : List VO := ⟨(some 4), none, (.mv (.c (.val (.int .i64 0))))⟩ :: []
def vc_stringslite_Index : VCode := (.seq (.region false vc_stringslite_Index_o36) vc_stringslite_Index_r51)
def rs_stringslite_Index : List RV := [(.t 4)]
theorem comp_stringslite_Index : ccode Try.prog (Try.f105.body.getD .skip) = some (strip vc_stringslite_Index) := by kernel_rfl
theorem code_stringslite_Index : IsCode Try.prog id_stringslite_Index 143 vc_stringslite_Index rs_stringslite_Index := ⟨_, _, Try.func105, by kernel_rfl, rfl, comp_stringslite_Index, by kernel_rfl, by kernel_rfl, rfl⟩

/- internal/stringslite.HasPrefix -/
def vc_stringslite_HasPrefix_o1_2 : List VO := ⟨(some 15), (some (10, true)), (.mv (.t 1))⟩ :: ⟨(some 16), (some (10, true)), (.bin .eql (.t 14) (.t 15))⟩ :: ⟨none, none, .kp [10, 16]⟩ :: ⟨(some 17), none, (.pick (.t 10) (.t 16) (.c (.val (.bool false))))⟩ :: ⟨none, none, .kp [17]⟩ :: ⟨(some 4), none, (.mv (.t 17))⟩ :: []
def vc_stringslite_HasPrefix_o1_1 : List VO := ⟨(some 10), none, (.mv (.t 9))⟩ :: ⟨(some 11), (some (10, true)), (.mv (.t 0))⟩ :: ⟨none, none, .kp [1, 10, 11]⟩ :: ⟨(some 12), (some (10, true)), (.mv (.t 1))⟩ :: ⟨(some 13), (some (10, true)), (.lenS (.t 12))⟩ :: ⟨(some 14), (some (10, true)), (.cutS (.t 11) none (some (.t 13)))⟩ :: ⟨none, none, .kp [1, 10, 14]⟩ :: vc_stringslite_HasPrefix_o1_2
def vc_stringslite_HasPrefix_o1 : List VO := ⟨(some 5), none, (.mv (.t 0))⟩ :: ⟨(some 6), none, (.lenS (.t 5))⟩ :: ⟨(some 7), none, (.mv (.t 1))⟩ :: ⟨(some 8), none, (.lenS (.t 7))⟩ :: ⟨none, none, .kp [0, 1, 6, 8]⟩ :: ⟨(some 9), none, (.bin .geq (.t 6) (.t 8))⟩ :: ⟨none, none, .kp [0, 1, 9]⟩ :: vc_stringslite_HasPrefix_o1_1
def vc_stringslite_HasPrefix_r1 : VCode := (.keep [0, 1] (.seq (.region false vc_stringslite_HasPrefix_o1) (.keep [4] .ret)))
def vc_stringslite_HasPrefix_o2 : List VO := ⟨(some 4), none, (.mv (.c (.val (.bool false))))⟩ :: []
def vc_stringslite_HasPrefix : VCode := (.seq (.region false vc_stringslite_HasPrefix_o2) vc_stringslite_HasPrefix_r1)
def rs_stringslite_HasPrefix : List RV := [(.t 4)]
theorem comp_stringslite_HasPrefix : ccode Try.prog (Try.f107.body.getD .skip) = some (strip vc_stringslite_HasPrefix) := by kernel_rfl
theorem code_stringslite_HasPrefix : IsCode Try.prog id_stringslite_HasPrefix 18 vc_stringslite_HasPrefix rs_stringslite_HasPrefix := ⟨_, _, Try.func107, by kernel_rfl, rfl, comp_stringslite_HasPrefix, by kernel_rfl, by kernel_rfl, rfl⟩

/- internal/stringslite.IndexByte -/
def vc_stringslite_IndexByte_o1 : List VO := ⟨(some 5), none, (.mv (.t 0))⟩ :: ⟨(some 6), none, (.mv (.t 1))⟩ :: ⟨none, none, .kp [5, 6]⟩ :: ⟨(some 7), none, (.call 112 [] [(.t 5), (.t 6)])⟩ :: ⟨none, none, .kp [7]⟩ :: ⟨(some 4), none, (.mv (.t 7))⟩ :: []
def vc_stringslite_IndexByte_r1 : VCode := (.keep [0, 1] (.seq (.region false vc_stringslite_IndexByte_o1) (.keep [4] .ret)))
def vc_stringslite_IndexByte_o2 : List VO := ⟨(some 4), none, (.mv (.c (.val (.int .i64 0))))⟩ :: []
def vc_stringslite_IndexByte : VCode := (.seq (.region false vc_stringslite_IndexByte_o2) vc_stringslite_IndexByte_r1)
def rs_stringslite_IndexByte : List RV := [(.t 4)]
theorem comp_stringslite_IndexByte : ccode Try.prog (Try.f108.body.getD .skip) = some (strip vc_stringslite_IndexByte) := by kernel_rfl
theorem code_stringslite_IndexByte : IsCode Try.prog id_stringslite_IndexByte 8 vc_stringslite_IndexByte rs_stringslite_IndexByte := ⟨_, _, Try.func108, by kernel_rfl, rfl, comp_stringslite_IndexByte, by kernel_rfl, by kernel_rfl, rfl⟩

/- internal/bytealg.Cutover -/
def vc_bytealg_Cutover_o1 : List VO := ⟨(some 3), none, (.mv (.t 0))⟩ :: ⟨(some 4), none, (.bin .add (.t 3) (.c (.val (.int .i64 16))))⟩ :: ⟨none, none, .kp [4]⟩ :: ⟨(some 5), none, (.bin .quo (.t 4) (.c (.val (.int .i64 8))))⟩ :: ⟨(some 2), none, (.mv (.t 5))⟩ :: []
def vc_bytealg_Cutover_r1 : VCode := (.keep [0] (.seq (.region false vc_bytealg_Cutover_o1) (.keep [2] .ret)))
def vc_bytealg_Cutover_o2 : List VO := ⟨(some 2), none, (.mv (.c (.val (.int .i64 0))))⟩ :: []
def vc_bytealg_Cutover : VCode := (.seq (.region false vc_bytealg_Cutover_o2) vc_bytealg_Cutover_r1)
def rs_bytealg_Cutover : List RV := [(.t 2)]
theorem comp_bytealg_Cutover : ccode Try.prog (Try.f110.body.getD .skip) = some (strip vc_bytealg_Cutover) := by kernel_rfl
theorem code_bytealg_Cutover : IsCode Try.prog id_bytealg_Cutover 6 vc_bytealg_Cutover rs_bytealg_Cutover := ⟨_, _, Try.func110, by kernel_rfl, rfl, comp_bytealg_Cutover, by kernel_rfl, by kernel_rfl, rfl⟩

/- internal/bytealg.IndexRabinKarp[string] -/
def vc_bytealg_IndexRabinKarp_string_o1 : List VO := ⟨(some 4), none, (.mv (.c (.val (.int .i64 (-1)))))⟩ :: []
def vc_bytealg_IndexRabinKarp_string_r1 : VCode := (.keep [] (.seq (.region false vc_bytealg_IndexRabinKarp_string_o1) (.keep [4] .ret)))
def vc_bytealg_IndexRabinKarp_string_o2 : List VO := ⟨(some 78), none, (.mv (.t 10))⟩ :: ⟨(some 79), none, (.mv (.t 7))⟩ :: ⟨none, none, .kp [78, 79]⟩ :: ⟨(some 80), none, (.bin .sub (.t 78) (.t 79))⟩ :: ⟨none, none, .kp [80]⟩ :: ⟨(some 4), none, (.mv (.t 80))⟩ :: []
def vc_bytealg_IndexRabinKarp_string_c2 : VCode := (.seq (.region false vc_bytealg_IndexRabinKarp_string_o2) (.keep [4] .ret))
def vc_bytealg_IndexRabinKarp_string_r3 : VCode := (.keep [0, 1, 5, 6, 7, 8, 10, 77] (.cond (.t 77) vc_bytealg_IndexRabinKarp_string_c2 .skip))
def vc_bytealg_IndexRabinKarp_string_o3_2 : List VO := ⟨(some 75), (some (68, true)), (.mv (.t 1))⟩ :: ⟨(some 76), (some (68, true)), (.bin .eql (.t 74) (.t 75))⟩ :: ⟨none, none, .kp [0, 1, 5, 6, 7, 8, 10, 68, 76]⟩ :: ⟨(some 77), none, (.pick (.t 68) (.t 76) (.c (.val (.bool false))))⟩ :: []
def vc_bytealg_IndexRabinKarp_string_o3_1 : List VO := ⟨(some 70), (some (68, true)), (.mv (.t 10))⟩ :: ⟨(some 71), (some (68, true)), (.mv (.t 7))⟩ :: ⟨(some 72), (some (68, true)), (.bin .sub (.t 70) (.t 71))⟩ :: ⟨none, none, .kp [0, 1, 5, 6, 7, 8, 10, 68, 69, 72]⟩ :: ⟨(some 73), (some (68, true)), (.mv (.t 10))⟩ :: ⟨(some 74), (some (68, true)), (.cutS (.t 69) (some (.t 72)) (some (.t 73)))⟩ :: ⟨none, none, .kp [0, 1, 5, 6, 7, 8, 10, 68, 74]⟩ :: vc_bytealg_IndexRabinKarp_string_o3_2
def vc_bytealg_IndexRabinKarp_string_o3 : List VO := ⟨(some 65), none, (.mv (.t 8))⟩ :: ⟨(some 66), none, (.mv (.t 5))⟩ :: ⟨(some 67), none, (.bin .eql (.t 65) (.t 66))⟩ :: ⟨none, none, .kp [0, 1, 5, 6, 7, 8, 10, 67]⟩ :: ⟨(some 68), none, (.mv (.t 67))⟩ :: ⟨(some 69), (some (68, true)), (.mv (.t 0))⟩ :: vc_bytealg_IndexRabinKarp_string_o3_1
def vc_bytealg_IndexRabinKarp_string_r4 : VCode := (.keep [0, 1, 5, 6, 7, 8, 10] (.seq (.region false vc_bytealg_IndexRabinKarp_string_o3) vc_bytealg_IndexRabinKarp_string_r3))
def vc_bytealg_IndexRabinKarp_string_o4 : List VO := ⟨(some 63), none, (.mv (.t 10))⟩ :: ⟨(some 64), none, (.bin .add (.t 63) (.c (.val (.int .i64 1))))⟩ :: ⟨none, none, .kp [0, 1, 5, 6, 7, 8, 64]⟩ :: ⟨(some 10), none, (.mv (.t 64))⟩ :: []
def vc_bytealg_IndexRabinKarp_string_r5 : VCode := (.keep [0, 1, 5, 6, 7, 8, 10] (.seq (.region false vc_bytealg_IndexRabinKarp_string_o4) vc_bytealg_IndexRabinKarp_string_r4))
def vc_bytealg_IndexRabinKarp_string_o5_2 : List VO := ⟨(some 8), none, (.mv (.t 62))⟩ :: []
def vc_bytealg_IndexRabinKarp_string_o5_1 : List VO := ⟨(some 58), none, (.bin .sub (.t 56) (.t 57))⟩ :: ⟨none, none, .kp [0, 1, 5, 6, 7, 10, 53, 54, 55, 58]⟩ :: ⟨(some 59), none, (.chr (.t 55) (.t 58))⟩ :: ⟨none, none, .kp [0, 1, 5, 6, 7, 10, 53, 54, 59]⟩ :: ⟨(some 60), none, (.cvInt .u32 (.t 59))⟩ :: ⟨(some 61), none, (.bin .mul (.t 54) (.t 60))⟩ :: ⟨none, none, .kp [0, 1, 5, 6, 7, 10, 53, 61]⟩ :: ⟨(some 62), none, (.bin .sub (.t 53) (.t 61))⟩ :: ⟨none, none, .kp [0, 1, 5, 6, 7, 10, 62]⟩ :: vc_bytealg_IndexRabinKarp_string_o5_2
def vc_bytealg_IndexRabinKarp_string_o5 : List VO := ⟨(some 53), none, (.mv (.t 8))⟩ :: ⟨(some 54), none, (.mv (.t 6))⟩ :: ⟨(some 55), none, (.mv (.t 0))⟩ :: ⟨(some 56), none, (.mv (.t 10))⟩ :: ⟨(some 57), none, (.mv (.t 7))⟩ :: vc_bytealg_IndexRabinKarp_string_o5_1
def vc_bytealg_IndexRabinKarp_string_r6 : VCode := (.keep [0, 1, 5, 6, 7, 8, 10] (.seq (.region false vc_bytealg_IndexRabinKarp_string_o5) vc_bytealg_IndexRabinKarp_string_r5))
def vc_bytealg_IndexRabinKarp_string_o6_1 : List VO := ⟨(some 52), none, (.bin .add (.t 47) (.t 51))⟩ :: ⟨none, none, .kp [0, 1, 5, 6, 7, 10, 52]⟩ :: ⟨(some 8), none, (.mv (.t 52))⟩ :: []
def vc_bytealg_IndexRabinKarp_string_o6 : List VO := ⟨(some 47), none, (.mv (.t 8))⟩ :: ⟨(some 48), none, (.mv (.t 0))⟩ :: ⟨(some 49), none, (.mv (.t 10))⟩ :: ⟨(some 50), none, (.chr (.t 48) (.t 49))⟩ :: ⟨none, none, .kp [0, 1, 5, 6, 7, 10, 47, 50]⟩ :: ⟨(some 51), none, (.cvInt .u32 (.t 50))⟩ :: vc_bytealg_IndexRabinKarp_string_o6_1
def vc_bytealg_IndexRabinKarp_string_r7 : VCode := (.keep [0, 1, 5, 6, 7, 8, 10] (.seq (.region false vc_bytealg_IndexRabinKarp_string_o6) vc_bytealg_IndexRabinKarp_string_r6))
def vc_bytealg_IndexRabinKarp_string_o7 : List VO := ⟨(some 45), none, (.mv (.t 8))⟩ :: ⟨(some 46), none, (.bin .mul (.t 45) (.c (.val (.int .u32 16777619))))⟩ :: ⟨none, none, .kp [0, 1, 5, 6, 7, 10, 46]⟩ :: ⟨(some 8), none, (.mv (.t 46))⟩ :: []
def vc_bytealg_IndexRabinKarp_string_c8 : VCode := (.seq (.region false vc_bytealg_IndexRabinKarp_string_o7) vc_bytealg_IndexRabinKarp_string_r7)
def vc_bytealg_IndexRabinKarp_string_r9 : VCode := (.keep [0, 1, 5, 6, 7, 8, 10] (.block 3 vc_bytealg_IndexRabinKarp_string_c8))
def vc_bytealg_IndexRabinKarp_string_r10 : VCode := (.keep [0, 1, 5, 6, 7, 8, 10, 44] (.cond (.t 44) .skip (.exit 2)))
def vc_bytealg_IndexRabinKarp_string_o8 : List VO := ⟨(some 41), none, (.mv (.t 10))⟩ :: ⟨(some 42), none, (.mv (.t 0))⟩ :: ⟨(some 43), none, (.lenS (.t 42))⟩ :: ⟨(some 44), none, (.bin .lss (.t 41) (.t 43))⟩ :: []
def vc_bytealg_IndexRabinKarp_string_l11 : VCode := (.seq (.seq (.region false vc_bytealg_IndexRabinKarp_string_o8) vc_bytealg_IndexRabinKarp_string_r10) vc_bytealg_IndexRabinKarp_string_r9)
def vc_bytealg_IndexRabinKarp_string_c12 : VCode := (.loop (.keep [0, 1, 5, 6, 7, 8, 10] vc_bytealg_IndexRabinKarp_string_l11))
def vc_bytealg_IndexRabinKarp_string_r13 : VCode := (.keep [0, 1, 5, 6, 7, 8, 10] (.block 2 vc_bytealg_IndexRabinKarp_string_c12))
def vc_bytealg_IndexRabinKarp_string_o9 : List VO := ⟨(some 40), none, (.mv (.t 7))⟩ :: ⟨(some 10), none, (.mv (.t 40))⟩ :: []
def vc_bytealg_IndexRabinKarp_string_r14 : VCode := (.keep [0, 1, 5, 6, 7, 8] (.seq (.seq (.region false vc_bytealg_IndexRabinKarp_string_o9) vc_bytealg_IndexRabinKarp_string_r13) vc_bytealg_IndexRabinKarp_string_r1))
def vc_bytealg_IndexRabinKarp_string_o10 : List VO := ⟨(some 4), none, (.mv (.c (.val (.int .i64 0))))⟩ :: []
def vc_bytealg_IndexRabinKarp_string_c15 : VCode := (.seq (.region false vc_bytealg_IndexRabinKarp_string_o10) (.keep [4] .ret))
def vc_bytealg_IndexRabinKarp_string_r16 : VCode := (.keep [0, 1, 5, 6, 7, 8, 39] (.cond (.t 39) vc_bytealg_IndexRabinKarp_string_c15 .skip))
def vc_bytealg_IndexRabinKarp_string_o11_1 : List VO := ⟨(some 35), (some (33, true)), (.mv (.t 7))⟩ :: ⟨(some 36), (some (33, true)), (.cutS (.t 34) none (some (.t 35)))⟩ :: ⟨none, none, .kp [0, 1, 5, 6, 7, 8, 33, 36]⟩ :: ⟨(some 37), (some (33, true)), (.mv (.t 1))⟩ :: ⟨(some 38), (some (33, true)), (.bin .eql (.t 36) (.t 37))⟩ :: ⟨none, none, .kp [0, 1, 5, 6, 7, 8, 33, 38]⟩ :: ⟨(some 39), none, (.pick (.t 33) (.t 38) (.c (.val (.bool false))))⟩ :: []
def vc_bytealg_IndexRabinKarp_string_o11 : List VO := ⟨(some 30), none, (.mv (.t 8))⟩ :: ⟨(some 31), none, (.mv (.t 5))⟩ :: ⟨(some 32), none, (.bin .eql (.t 30) (.t 31))⟩ :: ⟨none, none, .kp [0, 1, 5, 6, 7, 8, 32]⟩ :: ⟨(some 33), none, (.mv (.t 32))⟩ :: ⟨(some 34), (some (33, true)), (.mv (.t 0))⟩ :: vc_bytealg_IndexRabinKarp_string_o11_1
def vc_bytealg_IndexRabinKarp_string_r17 : VCode := (.keep [0, 1, 5, 6, 7, 8] (.seq (.seq (.region false vc_bytealg_IndexRabinKarp_string_o11) vc_bytealg_IndexRabinKarp_string_r16) vc_bytealg_IndexRabinKarp_string_r14))
def vc_bytealg_IndexRabinKarp_string_o12 : List VO := ⟨(some 21), none, (.mv (.t 9))⟩ :: ⟨(some 22), none, (.bin .add (.t 21) (.c (.val (.int .i64 1))))⟩ :: ⟨none, none, .kp [0, 1, 5, 6, 7, 8, 22]⟩ :: ⟨(some 9), none, (.mv (.t 22))⟩ :: []
def vc_bytealg_IndexRabinKarp_string_r18 : VCode := (.keep [0, 1, 5, 6, 7, 8, 9] (.region false vc_bytealg_IndexRabinKarp_string_o12))
def vc_bytealg_IndexRabinKarp_string_o13_1 : List VO := ⟨(some 28), none, (.cvInt .u32 (.t 27))⟩ :: ⟨(some 29), none, (.bin .add (.t 24) (.t 28))⟩ :: ⟨none, none, .kp [0, 1, 5, 6, 7, 9, 29]⟩ :: ⟨(some 8), none, (.mv (.t 29))⟩ :: []
def vc_bytealg_IndexRabinKarp_string_o13 : List VO := ⟨(some 23), none, (.mv (.t 8))⟩ :: ⟨(some 24), none, (.bin .mul (.t 23) (.c (.val (.int .u32 16777619))))⟩ :: ⟨none, none, .kp [0, 1, 5, 6, 7, 9, 24]⟩ :: ⟨(some 25), none, (.mv (.t 0))⟩ :: ⟨(some 26), none, (.mv (.t 9))⟩ :: ⟨(some 27), none, (.chr (.t 25) (.t 26))⟩ :: ⟨none, none, .kp [0, 1, 5, 6, 7, 9, 24, 27]⟩ :: vc_bytealg_IndexRabinKarp_string_o13_1
def vc_bytealg_IndexRabinKarp_string_r19 : VCode := (.keep [0, 1, 5, 6, 7, 8, 9] (.seq (.block 1 (.region false vc_bytealg_IndexRabinKarp_string_o13)) vc_bytealg_IndexRabinKarp_string_r18))
def vc_bytealg_IndexRabinKarp_string_r20 : VCode := (.keep [0, 1, 5, 6, 7, 8, 9, 20] (.cond (.t 20) .skip (.exit 0)))
def vc_bytealg_IndexRabinKarp_string_o14 : List VO := ⟨(some 18), none, (.mv (.t 9))⟩ :: ⟨(some 19), none, (.mv (.t 7))⟩ :: ⟨(some 20), none, (.bin .lss (.t 18) (.t 19))⟩ :: []
def vc_bytealg_IndexRabinKarp_string_l21 : VCode := (.seq (.seq (.region false vc_bytealg_IndexRabinKarp_string_o14) vc_bytealg_IndexRabinKarp_string_r20) vc_bytealg_IndexRabinKarp_string_r19)
def vc_bytealg_IndexRabinKarp_string_c22 : VCode := (.loop (.keep [0, 1, 5, 6, 7, 8, 9] vc_bytealg_IndexRabinKarp_string_l21))
def vc_bytealg_IndexRabinKarp_string_r23 : VCode := (.keep [0, 1, 5, 6, 7, 8, 9] (.block 0 vc_bytealg_IndexRabinKarp_string_c22))
def vc_bytealg_IndexRabinKarp_string_o15 : List VO := ⟨(some 9), none, (.mv (.c (.val (.int .i64 0))))⟩ :: []
def vc_bytealg_IndexRabinKarp_string_r24 : VCode := (.keep [0, 1, 5, 6, 7, 8] (.seq (.seq (.region false vc_bytealg_IndexRabinKarp_string_o15) vc_bytealg_IndexRabinKarp_string_r23) vc_bytealg_IndexRabinKarp_string_r17))
def vc_bytealg_IndexRabinKarp_string_o16 : List VO := ⟨(some 8), none, (.mv (.c (.val (.int .u32 0))))⟩ :: []
def vc_bytealg_IndexRabinKarp_string_r25 : VCode := (.keep [0, 1, 5, 6, 7] (.seq (.region false vc_bytealg_IndexRabinKarp_string_o16) vc_bytealg_IndexRabinKarp_string_r24))
def vc_bytealg_IndexRabinKarp_string_o17 : List VO := ⟨(some 16), none, (.mv (.t 1))⟩ :: ⟨(some 17), none, (.lenS (.t 16))⟩ :: ⟨(some 7), none, (.mv (.t 17))⟩ :: []
def vc_bytealg_IndexRabinKarp_string_r26 : VCode := (.keep [0, 1, 5, 6] (.seq (.region false vc_bytealg_IndexRabinKarp_string_o17) vc_bytealg_IndexRabinKarp_string_r25))
def vc_bytealg_IndexRabinKarp_string_o18_1 : List VO := ⟨(some 5), none, (.mv (.t 14))⟩ :: ⟨none, none, .kp [0, 1, 5, 15]⟩ :: ⟨(some 6), none, (.mv (.t 15))⟩ :: []
def vc_bytealg_IndexRabinKarp_string_o18 : List VO := ⟨(some 12), none, (.mv (.t 1))⟩ :: ⟨(some 13), none, (.call 113 [] [(.t 12)])⟩ :: ⟨(some 11), none, (.mv (.t 13))⟩ :: ⟨none, none, .kp [0, 1, 11]⟩ :: ⟨(some 14), none, (.extract (.t 11) 0)⟩ :: ⟨(some 15), none, (.extract (.t 11) 1)⟩ :: vc_bytealg_IndexRabinKarp_string_o18_1
def vc_bytealg_IndexRabinKarp_string_r27 : VCode := (.keep [0, 1] (.seq (.region false vc_bytealg_IndexRabinKarp_string_o18) vc_bytealg_IndexRabinKarp_string_r26))
def vc_bytealg_IndexRabinKarp_string_o19 : List VO := ⟨(some 4), none, (.mv (.c (.val (.int .i64 0))))⟩ :: []
def vc_bytealg_IndexRabinKarp_string : VCode := (.seq (.region false vc_bytealg_IndexRabinKarp_string_o19) vc_bytealg_IndexRabinKarp_string_r27)
def rs_bytealg_IndexRabinKarp_string : List RV := [(.t 4)]
theorem comp_bytealg_IndexRabinKarp_string : ccode Try.prog (Try.f111.body.getD .skip) = some (strip vc_bytealg_IndexRabinKarp_string) := by kernel_rfl
theorem code_bytealg_IndexRabinKarp_string : IsCode Try.prog id_bytealg_IndexRabinKarp_string 81 vc_bytealg_IndexRabinKarp_string rs_bytealg_IndexRabinKarp_string := ⟨_, _, Try.func111, by kernel_rfl, rfl, comp_bytealg_IndexRabinKarp_string, by kernel_rfl, by kernel_rfl, rfl⟩

/- internal/bytealg.hashStr[string] -/
def vc_bytealg_hashStr_string_o1 : List VO := ⟨(some 37), none, (.mv (.t 4))⟩ :: ⟨(some 38), none, (.mv (.t 6))⟩ :: ⟨none, none, .kp [37, 38]⟩ :: ⟨(some 2), none, (.mv (.t 37))⟩ :: ⟨(some 3), none, (.mv (.t 38))⟩ :: []
def vc_bytealg_hashStr_string_r1 : VCode := (.keep [4, 6] (.seq (.region false vc_bytealg_hashStr_string_o1) (.keep [2, 3] .ret)))
def vc_bytealg_hashStr_string_o2 : List VO := ⟨(some 26), none, (.mv (.t 8))⟩ :: ⟨(some 27), none, (.bin .shr (.t 26) (.c (.val (.int .u64 1))))⟩ :: ⟨none, none, .kp [4, 6, 7, 27]⟩ :: ⟨(some 8), none, (.mv (.t 27))⟩ :: []
def vc_bytealg_hashStr_string_r2 : VCode := (.keep [4, 6, 7, 8] (.region false vc_bytealg_hashStr_string_o2))
def vc_bytealg_hashStr_string_o3 : List VO := ⟨(some 34), none, (.mv (.t 7))⟩ :: ⟨(some 35), none, (.mv (.t 7))⟩ :: ⟨(some 36), none, (.bin .mul (.t 34) (.t 35))⟩ :: ⟨none, none, .kp [4, 6, 8, 36]⟩ :: ⟨(some 7), none, (.mv (.t 36))⟩ :: []
def vc_bytealg_hashStr_string_r3 : VCode := (.keep [4, 6, 7, 8] (.region false vc_bytealg_hashStr_string_o3))
def vc_bytealg_hashStr_string_o4 : List VO := ⟨(some 31), none, (.mv (.t 6))⟩ :: ⟨(some 32), none, (.mv (.t 7))⟩ :: ⟨(some 33), none, (.bin .mul (.t 31) (.t 32))⟩ :: ⟨none, none, .kp [4, 7, 8, 33]⟩ :: ⟨(some 6), none, (.mv (.t 33))⟩ :: []
def vc_bytealg_hashStr_string_r4 : VCode := (.keep [4, 6, 7, 8, 30] (.cond (.t 30) (.region false vc_bytealg_hashStr_string_o4) .skip))
def vc_bytealg_hashStr_string_o5 : List VO := ⟨(some 28), none, (.mv (.t 8))⟩ :: ⟨(some 29), none, (.bin .and (.t 28) (.c (.val (.int .i64 1))))⟩ :: ⟨(some 30), none, (.bin .neq (.t 29) (.c (.val (.int .i64 0))))⟩ :: []
def vc_bytealg_hashStr_string_c5 : VCode := (.seq (.seq (.region false vc_bytealg_hashStr_string_o5) vc_bytealg_hashStr_string_r4) vc_bytealg_hashStr_string_r3)
def vc_bytealg_hashStr_string_r6 : VCode := (.keep [4, 6, 7, 8] (.seq (.block 3 vc_bytealg_hashStr_string_c5) vc_bytealg_hashStr_string_r2))
def vc_bytealg_hashStr_string_r7 : VCode := (.keep [4, 6, 7, 8, 25] (.cond (.t 25) .skip (.exit 2)))
def vc_bytealg_hashStr_string_o6 : List VO := ⟨(some 24), none, (.mv (.t 8))⟩ :: ⟨(some 25), none, (.bin .gtr (.t 24) (.c (.val (.int .i64 0))))⟩ :: []
def vc_bytealg_hashStr_string_l8 : VCode := (.seq (.seq (.region false vc_bytealg_hashStr_string_o6) vc_bytealg_hashStr_string_r7) vc_bytealg_hashStr_string_r6)
def vc_bytealg_hashStr_string_r9 : VCode := (.keep [4, 6, 7, 8] (.block 2 (.loop (.keep [4, 6, 7, 8] vc_bytealg_hashStr_string_l8))))
def vc_bytealg_hashStr_string_o7 : List VO := ⟨(some 22), none, (.mv (.t 0))⟩ :: ⟨(some 23), none, (.lenS (.t 22))⟩ :: ⟨none, none, .kp [4, 6, 7, 23]⟩ :: ⟨(some 8), none, (.mv (.t 23))⟩ :: []
def vc_bytealg_hashStr_string_r10 : VCode := (.keep [0, 4, 6, 7] (.seq (.seq (.region false vc_bytealg_hashStr_string_o7) vc_bytealg_hashStr_string_r9) vc_bytealg_hashStr_string_r1))
def vc_bytealg_hashStr_string_o8 : List VO := ⟨(some 6), none, (.mv (.c (.val (.int .u32 1))))⟩ :: ⟨(some 7), none, (.mv (.c (.val (.int .u32 16777619))))⟩ :: []
def vc_bytealg_hashStr_string_r11 : VCode := (.keep [0, 4] (.seq (.region false vc_bytealg_hashStr_string_o8) vc_bytealg_hashStr_string_r10))
def vc_bytealg_hashStr_string_o9 : List VO := ⟨(some 13), none, (.mv (.t 5))⟩ :: ⟨(some 14), none, (.bin .add (.t 13) (.c (.val (.int .i64 1))))⟩ :: ⟨none, none, .kp [0, 4, 14]⟩ :: ⟨(some 5), none, (.mv (.t 14))⟩ :: []
def vc_bytealg_hashStr_string_r12 : VCode := (.keep [0, 4, 5] (.region false vc_bytealg_hashStr_string_o9))
def vc_bytealg_hashStr_string_o10_1 : List VO := ⟨(some 20), none, (.cvInt .u32 (.t 19))⟩ :: ⟨(some 21), none, (.bin .add (.t 16) (.t 20))⟩ :: ⟨none, none, .kp [0, 5, 21]⟩ :: ⟨(some 4), none, (.mv (.t 21))⟩ :: []
def vc_bytealg_hashStr_string_o10 : List VO := ⟨(some 15), none, (.mv (.t 4))⟩ :: ⟨(some 16), none, (.bin .mul (.t 15) (.c (.val (.int .u32 16777619))))⟩ :: ⟨none, none, .kp [0, 5, 16]⟩ :: ⟨(some 17), none, (.mv (.t 0))⟩ :: ⟨(some 18), none, (.mv (.t 5))⟩ :: ⟨(some 19), none, (.chr (.t 17) (.t 18))⟩ :: ⟨none, none, .kp [0, 5, 16, 19]⟩ :: vc_bytealg_hashStr_string_o10_1
def vc_bytealg_hashStr_string_r13 : VCode := (.keep [0, 4, 5] (.seq (.block 1 (.region false vc_bytealg_hashStr_string_o10)) vc_bytealg_hashStr_string_r12))
def vc_bytealg_hashStr_string_r14 : VCode := (.keep [0, 4, 5, 12] (.cond (.t 12) .skip (.exit 0)))
def vc_bytealg_hashStr_string_o11 : List VO := ⟨(some 9), none, (.mv (.t 5))⟩ :: ⟨(some 10), none, (.mv (.t 0))⟩ :: ⟨(some 11), none, (.lenS (.t 10))⟩ :: ⟨(some 12), none, (.bin .lss (.t 9) (.t 11))⟩ :: []
def vc_bytealg_hashStr_string_l15 : VCode := (.seq (.seq (.region false vc_bytealg_hashStr_string_o11) vc_bytealg_hashStr_string_r14) vc_bytealg_hashStr_string_r13)
def vc_bytealg_hashStr_string_r16 : VCode := (.keep [0, 4, 5] (.block 0 (.loop (.keep [0, 4, 5] vc_bytealg_hashStr_string_l15))))
def vc_bytealg_hashStr_string_o12 : List VO := ⟨(some 5), none, (.mv (.c (.val (.int .i64 0))))⟩ :: []
def vc_bytealg_hashStr_string_r17 : VCode := (.keep [0, 4] (.seq (.seq (.region false vc_bytealg_hashStr_string_o12) vc_bytealg_hashStr_string_r16) vc_bytealg_hashStr_string_r11))
def vc_bytealg_hashStr_string_o13 : List VO := ⟨(some 4), none, (.mv (.c (.val (.int .u32 0))))⟩ :: []
def vc_bytealg_hashStr_string_r18 : VCode := (.keep [0] (.seq (.region false vc_bytealg_hashStr_string_o13) vc_bytealg_hashStr_string_r17))
def vc_bytealg_hashStr_string_o14 : List VO := ⟨(some 2), none, (.mv (.c (.val (.int .u32 0))))⟩ :: ⟨(some 3), none, (.mv (.c (.val (.int .u32 0))))⟩ :: []
def vc_bytealg_hashStr_string : VCode := (.seq (.region false vc_bytealg_hashStr_string_o14) vc_bytealg_hashStr_string_r18)
def rs_bytealg_hashStr_string : List RV := [(.t 2), (.t 3)]
theorem comp_bytealg_hashStr_string : ccode Try.prog (Try.f113.body.getD .skip) = some (strip vc_bytealg_hashStr_string) := by kernel_rfl
theorem code_bytealg_hashStr_string : IsCode Try.prog id_bytealg_hashStr_string 39 vc_bytealg_hashStr_string rs_bytealg_hashStr_string := ⟨_, _, Try.func113, by kernel_rfl, rfl, comp_bytealg_hashStr_string, by kernel_rfl, by kernel_rfl, rfl⟩

end Go.Proofs.Ytdjgfjnnafddnaa
