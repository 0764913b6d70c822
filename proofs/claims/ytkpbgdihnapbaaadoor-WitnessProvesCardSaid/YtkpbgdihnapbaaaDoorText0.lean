/- The interpreter's text of the functions, printed by a program, and that each is the compiled one. -/
import Derived.Test.YtkpbgdihnapbaaaDoorProg
import Derived.Test.YtkpbgdihnapbaaaDoorAiC
import Derived.KernelRfl
set_option linter.unusedVariables false
namespace Go.AI
open Go Go.Proofs
def n_main_main : Nat := 0
def n_gosem_cut : Nat := 1
def n_gosem_cut_init : Nat := 2
def n_law37_WitnessProves : Nat := 3
def n_law36_Own : Nat := 4
def n_law26_Own : Nat := 5
def n_witness_Sound : Nat := 6
def n_witness_Match : Nat := 7
def n_law37_lives : Nat := 8
def n_graph_Doomed : Nat := 9
def n_ref02_Has : Nat := 10
def n_report_Check : Nat := 11
def n_bits_Of : Nat := 12
def n_witness_lacks : Nat := 13
def n_witness_same : Nat := 14
def n_law37_ask : Nat := 15
def n_witness_Core : Nat := 16
def n_witness_Lack : Nat := 17
def n_witness_Part : Nat := 18
def n_graph_Check : Nat := 19
def n_graph_order : Nat := 20
def n_bits_All : Nat := 21
def n_report_node : Nat := 22
def n_bits_one : Nat := 23
def n_slices_IndexFunc_Lapi_Term_api_Term : Nat := 24
def n_witness_lacks_1 : Nat := 25
def n_witness_comes : Nat := 26
def n_witness_same_1 : Nat := 27
def n_slices_Equal_Lapi_Share_api_Share : Nat := 28
def n_witness_same_2 : Nat := 29
def n_slices_EqualFunc_Lapi_Term_Lapi_Term_api_Term_api_Term : Nat := 30
def n_slices_EqualFunc_LLapi_Term_LLapi_Term_Lapi_Term_Lapi_Term : Nat := 31
def n_bits_Set_Has : Nat := 32
def n_slices_BinarySearch_Lint_int : Nat := 33
def n_bits_Set_First : Nat := 34
def n_bits_Set_Without : Nat := 35
def n_bits_Set_With : Nat := 36
def n_bits_Set_List : Nat := 37
def n_witness_clone : Nat := 38
def n_graph_asks : Nat := 39
def n_graph_met : Nat := 40
def n_report_term : Nat := 41
def n_cmp_Less_int : Nat := 42
def n_slices_isNaN_int : Nat := 43
def n_math_bits_TrailingZeros64 : Nat := 44
def n_bits_Set_Count : Nat := 45
def n_slices_Clone_Lapi_Share_api_Share : Nat := 46
def n_graph_met_1 : Nat := 47
def n_graph_comes : Nat := 48
def n_graph_met_2 : Nat := 49
def n_slices_ContainsFunc_Lapi_Term_api_Term : Nat := 50
def n_slices_ContainsFunc_LLapi_Term_Lapi_Term : Nat := 51
def n_report_units : Nat := 52
def n_cmp_isNaN_int : Nat := 53
def n_math_bits_OnesCount64 : Nat := 54
def n_graph_share : Nat := 55
def n_slices_IndexFunc_LLapi_Term_Lapi_Term : Nat := 56
def n_runtime_boundsError_Error : Nat := 57
def n_runtime_boundsError_RuntimeError : Nat := 58
def n_runtime_errorString_Error : Nat := 59
def n_runtime_errorString_RuntimeError : Nat := 60
def n_runtime_plainError_Error : Nat := 61
def n_runtime_plainError_RuntimeError : Nat := 62
def n_runtime_errorAddressString_Error : Nat := 63
def n_runtime_errorAddressString_RuntimeError : Nat := 64
def n_runtime_TypeAssertionError_Error : Nat := 65
def n_runtime_TypeAssertionError_RuntimeError : Nat := 66
def n_runtime_PanicNilError_Error : Nat := 67
def n_runtime_PanicNilError_RuntimeError : Nat := 68
def n_internal_abi_Type_Align : Nat := 69
def n_internal_runtime_maps_unhashableTypeError_Error : Nat := 70
def n_internal_runtime_maps_unhashableTypeError_RuntimeError : Nat := 71
def n_api_Errno_Error : Nat := 72
def n_internal_abi_Kind_String : Nat := 73
def n_var_s_door_gosem_cut_vars_holds_initialisers_alone_see_the_manifest_s_row_cutvarsword_look_11_test_files_too : Nat := 74
def n_var_s_door_math_bits_deBruijn64tab_is_laid_by_its_own_initialiser_plain_data_look_11 : Nat := 75
def n_var_s_door_the_look_of_gosem_cut_vars_went_over_the_folder_that_the_caller_named_as_the_repository_s_root_look_11 : Nat := 76
def n_gosem_cut_vars : Nat := 77
def g_math_bits_deBruijn64tab : Nat := 0
def glob_math_bits_deBruijn64tab : List AV := [.int .u8 (0), .int .u8 (1), .int .u8 (56), .int .u8 (2), .int .u8 (57), .int .u8 (49), .int .u8 (28), .int .u8 (3), .int .u8 (61), .int .u8 (58), .int .u8 (42), .int .u8 (50), .int .u8 (38), .int .u8 (29), .int .u8 (17), .int .u8 (4), .int .u8 (62), .int .u8 (47), .int .u8 (59), .int .u8 (36), .int .u8 (45), .int .u8 (43), .int .u8 (51), .int .u8 (22), .int .u8 (53), .int .u8 (39), .int .u8 (33), .int .u8 (30), .int .u8 (24), .int .u8 (18), .int .u8 (12), .int .u8 (5), .int .u8 (63), .int .u8 (55), .int .u8 (48), .int .u8 (27), .int .u8 (60), .int .u8 (41), .int .u8 (37), .int .u8 (16), .int .u8 (46), .int .u8 (35), .int .u8 (44), .int .u8 (21), .int .u8 (52), .int .u8 (32), .int .u8 (23), .int .u8 (11), .int .u8 (54), .int .u8 (26), .int .u8 (40), .int .u8 (15), .int .u8 (34), .int .u8 (20), .int .u8 (31), .int .u8 (10), .int .u8 (25), .int .u8 (14), .int .u8 (19), .int .u8 (9), .int .u8 (13), .int .u8 (8), .int .u8 (7), .int .u8 (6)]
/- logjam/logjamlaw37.WitnessProves -/
def F_law37_WitnessProves_r0 : SCode := .region [
    ⟨(some 2), none, .boxA 3 (.slot 0)⟩,
    ⟨(some 4), none, .mov (.lit (.bool false))⟩] [1] [2] []
def F_law37_WitnessProves_r1 : SCode := .region [
    ⟨(some 7), none, .loadA true 3 2⟩,
    ⟨(some 8), none, .call n_law36_Own [(.slot 7)]⟩,
    ⟨(some 9), none, .mov (.slot 1)⟩,
    ⟨(some 10), none, .call n_law26_Own [(.slot 9)]⟩,
    ⟨none, none, .storeA 3 2 (.slot 8)⟩,
    ⟨(some 1), none, .mov (.slot 10)⟩] [1] [2] []
def F_law37_WitnessProves_r2 : SCode := .region [
    ⟨(some 11), none, .mov (.slot 1)⟩,
    ⟨(some 12), none, .len .sl (.slot 11)⟩,
    ⟨(some 13), none, .bin .gtr .no (.slot 12) (.lit (.int .i64 (64)))⟩,
    ⟨(some 14), none, .mov (.slot 13)⟩,
    ⟨(some 15), some (14, false), .loadA true 3 2⟩,
    ⟨(some 16), some (14, false), .call n_law36_Own [(.slot 15)]⟩,
    ⟨(some 17), some (14, false), .call n_witness_Sound [(.slot 16)]⟩,
    ⟨(some 18), some (14, false), .un .not (.slot 17)⟩,
    ⟨(some 19), none, .pick (.slot 14) (.lit (.bool true)) (.slot 18)⟩,
    ⟨(some 20), none, .mov (.slot 19)⟩,
    ⟨(some 21), some (20, false), .loadA true 3 2⟩,
    ⟨(some 22), some (20, false), .call n_law36_Own [(.slot 21)]⟩,
    ⟨(some 23), some (20, false), .mov (.slot 1)⟩,
    ⟨(some 24), some (20, false), .call n_law26_Own [(.slot 23)]⟩,
    ⟨(some 25), some (20, false), .call n_witness_Match [(.slot 22), (.slot 24)]⟩,
    ⟨(some 26), some (20, false), .un .not (.slot 25)⟩,
    ⟨(some 27), none, .pick (.slot 20) (.lit (.bool true)) (.slot 26)⟩] [1, 27] [2] []
def F_law37_WitnessProves_r3 : SCode := .region [
    ⟨(some 28), none, .call n_law37_lives []⟩,
    ⟨(some 4), none, .mov (.slot 28)⟩] [4] [] []
def F_law37_WitnessProves_r4 : SCode := .region [
    ⟨(some 29), none, .mov (.slot 1)⟩,
    ⟨(some 30), none, .call n_law26_Own [(.slot 29)]⟩,
    ⟨(some 31), none, .call n_graph_Doomed [(.slot 30)]⟩,
    ⟨(some 5), none, .mov (.slot 31)⟩] [5] [2] []
def F_law37_WitnessProves_r5 : SCode := .region [
    ⟨(some 6), none, .mov (.lit (.int .i64 (0)))⟩] [5, 6] [2] []
def F_law37_WitnessProves_r6 : SCode := .region [
    ⟨(some 32), none, .mov (.slot 6)⟩,
    ⟨(some 33), none, .faddrA 1 2⟩,
    ⟨(some 34), none, .loadA false 1 33⟩,
    ⟨(some 35), none, .len .sl (.slot 34)⟩,
    ⟨(some 36), none, .bin .lss .no (.slot 32) (.slot 35)⟩] [5, 6, 36] [2] []
def F_law37_WitnessProves_r7 : SCode := .region [
    ⟨(some 39), none, .mov (.slot 5)⟩,
    ⟨(some 40), none, .faddrA 1 2⟩,
    ⟨(some 41), none, .loadA false 1 40⟩,
    ⟨(some 42), none, .mov (.slot 6)⟩,
    ⟨(some 43), none, .iaddr 1 (.slot 41) (.slot 42)⟩,
    ⟨(some 44), none, .load false 1 (.slot 43)⟩,
    ⟨(some 45), none, .call n_ref02_Has [(.slot 39), (.slot 44)]⟩,
    ⟨(some 46), none, .un .not (.slot 45)⟩] [5, 6, 46] [2] []
def F_law37_WitnessProves_r8 : SCode := .region [
    ⟨(some 4), none, .mov (.lit (.bool false))⟩] [4] [] []
def F_law37_WitnessProves_r9 : SCode := .region [
    ⟨(some 37), none, .mov (.slot 6)⟩,
    ⟨(some 38), none, .bin .add .no (.slot 37) (.lit (.int .i64 (1)))⟩,
    ⟨(some 6), none, .mov (.slot 38)⟩] [5, 6] [2] []
def F_law37_WitnessProves_l10 : SCode := (.seq (.seq F_law37_WitnessProves_r6 (.cond (.slot 36) .skip (.exit 0))) (.seq (.block 1 (.seq F_law37_WitnessProves_r7 (.cond (.slot 46) (.seq F_law37_WitnessProves_r8 .ret) .skip))) F_law37_WitnessProves_r9))
def F_law37_WitnessProves_r11 : SCode := .region [
    ⟨(some 47), none, .call n_law37_lives []⟩,
    ⟨(some 4), none, .mov (.slot 47)⟩] [4] [] []
def F_law37_WitnessProves : SFun := ⟨2, (.seq F_law37_WitnessProves_r0 (.seq F_law37_WitnessProves_r1 (.seq (.seq F_law37_WitnessProves_r2 (.cond (.slot 27) (.seq F_law37_WitnessProves_r3 .ret) .skip)) (.seq F_law37_WitnessProves_r4 (.seq (.seq F_law37_WitnessProves_r5 (.block 0 (.loop F_law37_WitnessProves_l10))) (.seq F_law37_WitnessProves_r11 .ret)))))), [.slot 4], false⟩
def h_law37_WitnessProves : Hints := { boxes := [2], addrs := [33, 40], post := [(10, [4], [], []), (7, [5, 6], [2], []), (9, [4], [], []), (8, [5, 6, 46], [2], []), (6, [5, 6, 36], [2], []), (5, [5, 6], [2], []), (4, [5], [2], []), (3, [4], [], []), (2, [1, 27], [2], []), (1, [1], [2], []), (0, [1], [2], [])], order := [], keep := false }
theorem ok_law37_WitnessProves : cFunc Tryd.prog h_law37_WitnessProves n_law37_WitnessProves = some F_law37_WitnessProves := by kernel_rfl
/- logjam/logjamlaw36.Own -/
def F_law36_Own_r0 : SCode := .region [
    ⟨(some 1), none, .boxA 3 (.slot 0)⟩,
    ⟨(some 2), none, .allocA [.int .i64 (0), .nilsl, .nilsl]⟩] [] [1, 2] []
def F_law36_Own_r1 : SCode := .region [
    ⟨(some 7), none, .faddrA 0 1⟩,
    ⟨(some 8), none, .loadA false 1 7⟩,
    ⟨(some 9), none, .build [.int .i64 (0), .nilsl, .nilsl] [(0, 1, (.slot 8))]⟩,
    ⟨(some 3), none, .alloc (.agg [.int .i64 (0), .nilsl, .nilsl])⟩,
    ⟨none, none, .store 3 (.slot 3) (.slot 9)⟩] [3] [1, 2] []
def F_law36_Own_r2 : SCode := .region [
    ⟨(some 4), none, .mov (.lit (.int .i64 (0)))⟩] [3, 4] [1, 2] []
def F_law36_Own_r3 : SCode := .region [
    ⟨(some 10), none, .mov (.slot 4)⟩,
    ⟨(some 11), none, .faddrA 1 1⟩,
    ⟨(some 12), none, .loadA false 1 11⟩,
    ⟨(some 13), none, .len .sl (.slot 12)⟩,
    ⟨(some 14), none, .bin .lss .no (.slot 10) (.slot 13)⟩,
    ⟨(some 15), none, .mov (.slot 14)⟩,
    ⟨(some 16), some (15, true), .mov (.slot 4)⟩,
    ⟨(some 17), some (15, true), .bin .lss .no (.slot 16) (.lit (.int .i64 (70)))⟩,
    ⟨(some 18), none, .pick (.slot 15) (.slot 17) (.lit (.bool false))⟩] [3, 4, 18] [1, 2] []
def F_law36_Own_d4 : SCode := .draw (.take 0 ⟨(some 21), none, .faddr 1 (.slot 3)⟩ (.take 1 ⟨(some 22), none, .load false 1 (.slot 21)⟩ (.take 2 ⟨(some 23), none, .faddrA 1 1⟩ (.take 3 ⟨(some 24), none, .loadA false 1 23⟩ (.take 4 ⟨(some 25), none, .mov (.slot 4)⟩ (.take 5 ⟨(some 26), none, .iaddr 1 (.slot 24) (.slot 25)⟩ (.take 6 ⟨(some 27), none, .load false 1 (.slot 26)⟩ (.only [5, 4, 2, 3, 6] ⟨(some 28), none, .buildSlice 1 (.int .i64 (0)) 1 [(0, (.slot 27))]⟩ (.only [6, 3, 2, 4, 5, 7, 0, 1] ⟨(some 29), none, .append 1 8 (.slot 22) (.slot 28)⟩ (.take 9 ⟨(some 30), none, .faddr 1 (.slot 3)⟩ (.only [0, 1, 2, 3, 4, 5, 6, 7, 8, 9] ⟨none, none, .store 1 (.slot 30) (.slot 29)⟩ (.done)))))))))))) [3, 4] [1, 2] []
def F_law36_Own_r5 : SCode := .region [
    ⟨(some 19), none, .mov (.slot 4)⟩,
    ⟨(some 20), none, .bin .add .no (.slot 19) (.lit (.int .i64 (1)))⟩,
    ⟨(some 4), none, .mov (.slot 20)⟩] [3, 4] [1, 2] []
def F_law36_Own_l6 : SCode := (.seq (.seq F_law36_Own_r3 (.cond (.slot 18) .skip (.exit 0))) (.seq (.block 1 F_law36_Own_d4) F_law36_Own_r5))
def F_law36_Own_r7 : SCode := .region [
    ⟨(some 31), none, .faddrA 2 1⟩,
    ⟨(some 32), none, .loadA false 1 31⟩,
    ⟨(some 5), none, .mov (.slot 32)⟩] [3, 5] [2] []
def F_law36_Own_r8 : SCode := .region [
    ⟨(some 6), none, .mov (.lit (.int .i64 (0)))⟩] [3, 5, 6] [2] []
def F_law36_Own_r9 : SCode := .region [
    ⟨(some 33), none, .mov (.slot 6)⟩,
    ⟨(some 34), none, .mov (.slot 5)⟩,
    ⟨(some 35), none, .len .sl (.slot 34)⟩,
    ⟨(some 36), none, .bin .lss .no (.slot 33) (.slot 35)⟩,
    ⟨(some 37), none, .mov (.slot 36)⟩,
    ⟨(some 38), some (37, true), .mov (.slot 6)⟩,
    ⟨(some 39), some (37, true), .bin .lss .no (.slot 38) (.lit (.int .i64 (70)))⟩,
    ⟨(some 40), none, .pick (.slot 37) (.slot 39) (.lit (.bool false))⟩] [3, 5, 6, 40] [2] []
def F_law36_Own_d10 : SCode := .draw (.take 0 ⟨(some 43), none, .faddr 2 (.slot 3)⟩ (.take 1 ⟨(some 44), none, .load false 1 (.slot 43)⟩ (.take 2 ⟨(some 45), none, .mov (.slot 5)⟩ (.take 3 ⟨(some 46), none, .mov (.slot 6)⟩ (.take 4 ⟨(some 47), none, .mov (.slot 6)⟩ (.take 5 ⟨(some 48), none, .bin .add .no (.slot 47) (.lit (.int .i64 (1)))⟩ (.take 6 ⟨(some 49), none, .slice 2 (.slot 45) (some (.slot 46)) (some (.slot 48)) none⟩ (.only [2, 3, 5, 4, 6] ⟨(some 50), none, .call n_law26_Own [(.slot 49)]⟩ (.take 8 ⟨(some 51), none, .iaddr 2 (.slot 50) (.lit (.int .i64 (0)))⟩ (.take 9 ⟨(some 52), none, .load true 2 (.slot 51)⟩ (.only [8, 6, 4, 5, 3, 2, 7, 9] ⟨(some 53), none, .buildSlice 2 (.agg [.bool false, .nilsl]) 1 [(0, (.slot 52))]⟩ (.only [9, 7, 2, 3, 5, 4, 6, 8, 10, 0, 1] ⟨(some 54), none, .append 2 32 (.slot 44) (.slot 53)⟩ (.take 12 ⟨(some 55), none, .faddr 2 (.slot 3)⟩ (.only [0, 1, 2, 3, 4, 5, 6, 7, 8, 9, 10, 11, 12] ⟨none, none, .store 1 (.slot 55) (.slot 54)⟩ (.done))))))))))))))) [3, 5, 6] [2] []
def F_law36_Own_r11 : SCode := .region [
    ⟨(some 41), none, .mov (.slot 6)⟩,
    ⟨(some 42), none, .bin .add .no (.slot 41) (.lit (.int .i64 (1)))⟩,
    ⟨(some 6), none, .mov (.slot 42)⟩] [3, 5, 6] [2] []
def F_law36_Own_l12 : SCode := (.seq (.seq F_law36_Own_r9 (.cond (.slot 40) .skip (.exit 2))) (.seq (.block 3 F_law36_Own_d10) F_law36_Own_r11))
def F_law36_Own_r13 : SCode := .region [
    ⟨(some 56), none, .load true 3 (.slot 3)⟩,
    ⟨none, none, .storeA 3 2 (.slot 56)⟩] [] [2] []
def F_law36_Own : SFun := ⟨1, (.seq F_law36_Own_r0 (.seq F_law36_Own_r1 (.seq (.seq F_law36_Own_r2 (.block 0 (.loop F_law36_Own_l6))) (.seq F_law36_Own_r7 (.seq (.seq F_law36_Own_r8 (.block 2 (.loop F_law36_Own_l12))) (.seq F_law36_Own_r13 .ret)))))), [.cellA true 3 2], false⟩
def h_law36_Own : Hints := { boxes := [1, 2], addrs := [7, 11, 23, 31], post := [(11, [], [2], []), (9, [3, 5, 6], [2], []), (10, [3, 5, 6], [2], []), (8, [3, 5, 6, 40], [2], []), (7, [3, 5, 6], [2], []), (6, [3, 5], [2], []), (4, [3, 4], [1, 2], []), (5, [3, 4], [1, 2], []), (3, [3, 4, 18], [1, 2], []), (2, [3, 4], [1, 2], []), (1, [3], [1, 2], []), (0, [], [1, 2], [])], order := [(5, [0, 1, 2, 3, 4, 5, 6, 7, 8, 9, 10]), (10, [0, 1, 2, 3, 4, 5, 6, 7, 8, 9, 10, 11, 12, 13])], keep := false }
theorem ok_law36_Own : cFunc Tryd.prog h_law36_Own n_law36_Own = some F_law36_Own := by kernel_rfl
/- logjam/logjamlaw26.Own -/
def F_law26_Own_r0 : SCode := .region [
    ⟨(some 2), none, .mov (.lit (.nilsl))⟩] [0] [] []
def F_law26_Own_r1 : SCode := .region [
    ⟨(some 11), none, .buildSlice 2 (.agg [.bool false, .nilsl]) 0 []⟩,
    ⟨(some 3), none, .mov (.slot 11)⟩] [0, 3] [] []
def F_law26_Own_r2 : SCode := .region [
    ⟨(some 4), none, .mov (.lit (.int .i64 (0)))⟩] [0, 3, 4] [] []
def F_law26_Own_r3 : SCode := .region [
    ⟨(some 12), none, .mov (.slot 4)⟩,
    ⟨(some 13), none, .mov (.slot 0)⟩,
    ⟨(some 14), none, .len .sl (.slot 13)⟩,
    ⟨(some 15), none, .bin .lss .no (.slot 12) (.slot 14)⟩,
    ⟨(some 16), none, .mov (.slot 15)⟩,
    ⟨(some 17), some (16, true), .mov (.slot 4)⟩,
    ⟨(some 18), some (16, true), .bin .lss .no (.slot 17) (.lit (.int .i64 (70)))⟩,
    ⟨(some 19), none, .pick (.slot 16) (.slot 18) (.lit (.bool false))⟩] [0, 3, 4, 19] [] []
def F_law26_Own_r4 : SCode := .region [
    ⟨(some 22), none, .mov (.slot 0)⟩,
    ⟨(some 23), none, .mov (.slot 4)⟩,
    ⟨(some 24), none, .iaddr 2 (.slot 22) (.slot 23)⟩,
    ⟨(some 25), none, .faddr 0 (.slot 24)⟩,
    ⟨(some 26), none, .load false 1 (.slot 25)⟩,
    ⟨(some 27), none, .build [.bool false, .nilsl] [(0, 1, (.slot 26))]⟩,
    ⟨(some 5), none, .allocA [.bool false, .nilsl]⟩,
    ⟨none, none, .storeA 2 5 (.slot 27)⟩] [0, 3, 4] [5] []
def F_law26_Own_r5 : SCode := .region [
    ⟨(some 6), none, .mov (.lit (.int .i64 (0)))⟩] [0, 3, 4, 6] [5] []
def F_law26_Own_r6 : SCode := .region [
    ⟨(some 28), none, .mov (.slot 6)⟩,
    ⟨(some 29), none, .mov (.slot 0)⟩,
    ⟨(some 30), none, .mov (.slot 4)⟩,
    ⟨(some 31), none, .iaddr 2 (.slot 29) (.slot 30)⟩,
    ⟨(some 32), none, .faddr 1 (.slot 31)⟩,
    ⟨(some 33), none, .load false 1 (.slot 32)⟩,
    ⟨(some 34), none, .len .sl (.slot 33)⟩,
    ⟨(some 35), none, .bin .lss .no (.slot 28) (.slot 34)⟩,
    ⟨(some 36), none, .mov (.slot 35)⟩,
    ⟨(some 37), some (36, true), .mov (.slot 6)⟩,
    ⟨(some 38), some (36, true), .bin .lss .no (.slot 37) (.lit (.int .i64 (6)))⟩,
    ⟨(some 39), none, .pick (.slot 36) (.slot 38) (.lit (.bool false))⟩] [0, 3, 4, 6, 39] [5] []
def F_law26_Own_r7 : SCode := .region [
    ⟨(some 42), none, .buildSlice 2 (.agg [.int .i64 (0), .nilsl]) 0 []⟩,
    ⟨(some 7), none, .mov (.slot 42)⟩] [0, 3, 4, 6, 7] [5] []
def F_law26_Own_r8 : SCode := .region [
    ⟨(some 8), none, .mov (.lit (.int .i64 (0)))⟩] [0, 3, 4, 6, 7, 8] [5] []
def F_law26_Own_r9 : SCode := .region [
    ⟨(some 43), none, .mov (.slot 8)⟩,
    ⟨(some 44), none, .mov (.slot 0)⟩,
    ⟨(some 45), none, .mov (.slot 4)⟩,
    ⟨(some 46), none, .iaddr 2 (.slot 44) (.slot 45)⟩,
    ⟨(some 47), none, .faddr 1 (.slot 46)⟩,
    ⟨(some 48), none, .load false 1 (.slot 47)⟩,
    ⟨(some 49), none, .mov (.slot 6)⟩,
    ⟨(some 50), none, .iaddr 1 (.slot 48) (.slot 49)⟩,
    ⟨(some 51), none, .load false 1 (.slot 50)⟩,
    ⟨(some 52), none, .len .sl (.slot 51)⟩,
    ⟨(some 53), none, .bin .lss .no (.slot 43) (.slot 52)⟩,
    ⟨(some 54), none, .mov (.slot 53)⟩,
    ⟨(some 55), some (54, true), .mov (.slot 8)⟩,
    ⟨(some 56), some (54, true), .bin .lss .no (.slot 55) (.lit (.int .i64 (6)))⟩,
    ⟨(some 57), none, .pick (.slot 54) (.slot 56) (.lit (.bool false))⟩] [0, 3, 4, 6, 7, 8, 57] [5] []
def F_law26_Own_r10 : SCode := .region [
    ⟨(some 60), none, .mov (.slot 0)⟩,
    ⟨(some 61), none, .mov (.slot 4)⟩,
    ⟨(some 62), none, .iaddr 2 (.slot 60) (.slot 61)⟩,
    ⟨(some 63), none, .faddr 1 (.slot 62)⟩,
    ⟨(some 64), none, .load false 1 (.slot 63)⟩,
    ⟨(some 65), none, .mov (.slot 6)⟩,
    ⟨(some 66), none, .iaddr 1 (.slot 64) (.slot 65)⟩,
    ⟨(some 67), none, .load false 1 (.slot 66)⟩,
    ⟨(some 68), none, .mov (.slot 8)⟩,
    ⟨(some 69), none, .iaddr 2 (.slot 67) (.slot 68)⟩,
    ⟨(some 70), none, .load true 2 (.slot 69)⟩,
    ⟨(some 9), none, .allocA [.int .i64 (0), .nilsl]⟩,
    ⟨none, none, .storeA 2 9 (.slot 70)⟩] [0, 3, 4, 6, 7, 8] [5, 9] []
def F_law26_Own_r11 : SCode := .region [
    ⟨(some 71), none, .faddrA 1 9⟩,
    ⟨(some 72), none, .loadA false 1 71⟩,
    ⟨(some 10), none, .mov (.slot 72)⟩] [0, 3, 4, 6, 7, 8, 10] [5, 9] []
def F_law26_Own_r12 : SCode := .region [
    ⟨(some 73), none, .mov (.slot 10)⟩,
    ⟨(some 74), none, .len .sl (.slot 73)⟩,
    ⟨(some 75), none, .bin .gtr .no (.slot 74) (.lit (.int .i64 (70)))⟩] [0, 3, 4, 6, 7, 8, 10, 75] [5, 9] []
def F_law26_Own_r13 : SCode := .region [
    ⟨(some 76), none, .mov (.slot 10)⟩,
    ⟨(some 77), none, .slice 2 (.slot 76) none (some (.lit (.int .i64 (70)))) none⟩,
    ⟨(some 10), none, .mov (.slot 77)⟩] [0, 3, 4, 6, 7, 8, 10] [5, 9] []
def F_law26_Own_d14 : SCode := .draw (.take 0 ⟨(some 78), none, .mov (.slot 7)⟩ (.take 1 ⟨(some 79), none, .faddrA 0 9⟩ (.take 2 ⟨(some 80), none, .loadA false 1 79⟩ (.take 4 ⟨(some 82), none, .mov (.slot 10)⟩ (.only [] ⟨(some 81), none, .buildSlice 2 (.agg [.int .i64 (0), .int .i64 (0)]) 0 []⟩ (.only [4, 3] ⟨(some 83), none, .append 2 16 (.slot 81) (.slot 82)⟩ (.take 6 ⟨(some 84), none, .build [.int .i64 (0), .nilsl] [(0, 1, (.slot 80)), (1, 1, (.slot 83))]⟩ (.only [2, 1, 5, 4, 3, 6] ⟨(some 85), none, .buildSlice 2 (.agg [.int .i64 (0), .nilsl]) 1 [(0, (.slot 84))]⟩ (.only [6, 3, 4, 5, 1, 2, 7, 0] ⟨(some 86), none, .append 2 32 (.slot 78) (.slot 85)⟩ (.take 9 ⟨(some 7), none, .mov (.slot 86)⟩ (.done))))))))))) [0, 3, 4, 6, 7, 8] [5] []
def F_law26_Own_r15 : SCode := .region [
    ⟨(some 58), none, .mov (.slot 8)⟩,
    ⟨(some 59), none, .bin .add .no (.slot 58) (.lit (.int .i64 (1)))⟩,
    ⟨(some 8), none, .mov (.slot 59)⟩] [0, 3, 4, 6, 7, 8] [5] []
def F_law26_Own_l16 : SCode := (.seq (.seq F_law26_Own_r9 (.cond (.slot 57) .skip (.exit 4))) (.seq (.block 5 (.seq F_law26_Own_r10 (.seq F_law26_Own_r11 (.seq (.seq F_law26_Own_r12 (.cond (.slot 75) F_law26_Own_r13 .skip)) F_law26_Own_d14)))) F_law26_Own_r15))
def F_law26_Own_r17 : SCode := .region [
    ⟨(some 87), none, .faddrA 1 5⟩,
    ⟨(some 88), none, .loadA false 1 87⟩,
    ⟨(some 89), none, .mov (.slot 7)⟩,
    ⟨(some 90), none, .buildSlice 1 (.nilsl) 1 [(0, (.slot 89))]⟩,
    ⟨(some 91), none, .append 1 24 (.slot 88) (.slot 90)⟩,
    ⟨(some 92), none, .faddrA 1 5⟩,
    ⟨none, none, .storeA 1 92 (.slot 91)⟩] [0, 3, 4, 6] [5] []
def F_law26_Own_r18 : SCode := .region [
    ⟨(some 40), none, .mov (.slot 6)⟩,
    ⟨(some 41), none, .bin .add .no (.slot 40) (.lit (.int .i64 (1)))⟩,
    ⟨(some 6), none, .mov (.slot 41)⟩] [0, 3, 4, 6] [5] []
def F_law26_Own_l19 : SCode := (.seq (.seq F_law26_Own_r6 (.cond (.slot 39) .skip (.exit 2))) (.seq (.block 3 (.seq F_law26_Own_r7 (.seq (.seq F_law26_Own_r8 (.block 4 (.loop F_law26_Own_l16))) F_law26_Own_r17))) F_law26_Own_r18))
def F_law26_Own_r20 : SCode := .region [
    ⟨(some 93), none, .mov (.slot 3)⟩,
    ⟨(some 94), none, .loadA true 2 5⟩,
    ⟨(some 95), none, .buildSlice 2 (.agg [.bool false, .nilsl]) 1 [(0, (.slot 94))]⟩,
    ⟨(some 96), none, .append 2 32 (.slot 93) (.slot 95)⟩,
    ⟨(some 3), none, .mov (.slot 96)⟩] [0, 3, 4] [] []
def F_law26_Own_r21 : SCode := .region [
    ⟨(some 20), none, .mov (.slot 4)⟩,
    ⟨(some 21), none, .bin .add .no (.slot 20) (.lit (.int .i64 (1)))⟩,
    ⟨(some 4), none, .mov (.slot 21)⟩] [0, 3, 4] [] []
def F_law26_Own_l22 : SCode := (.seq (.seq F_law26_Own_r3 (.cond (.slot 19) .skip (.exit 0))) (.seq (.block 1 (.seq F_law26_Own_r4 (.seq (.seq F_law26_Own_r5 (.block 2 (.loop F_law26_Own_l19))) F_law26_Own_r20))) F_law26_Own_r21))
def F_law26_Own_r23 : SCode := .region [
    ⟨(some 97), none, .mov (.slot 3)⟩,
    ⟨(some 2), none, .mov (.slot 97)⟩] [2] [] []
def F_law26_Own : SFun := ⟨1, (.seq F_law26_Own_r0 (.seq F_law26_Own_r1 (.seq (.seq F_law26_Own_r2 (.block 0 (.loop F_law26_Own_l22))) (.seq F_law26_Own_r23 .ret)))), [.slot 2], false⟩
def h_law26_Own : Hints := { boxes := [5, 9], addrs := [71, 79, 87, 92], post := [(20, [2], [], []), (4, [0, 3, 4], [], []), (19, [0, 3, 4], [], []), (8, [0, 3, 4, 6], [5], []), (18, [0, 3, 4, 6], [5], []), (12, [0, 3, 4, 6, 7, 8], [5], []), (17, [0, 3, 4, 6, 7, 8], [5], []), (16, [0, 3, 4, 6, 7, 8, 10], [5, 9], []), (15, [0, 3, 4, 6, 7, 8, 10, 75], [5, 9], []), (14, [0, 3, 4, 6, 7, 8, 10], [5, 9], []), (13, [0, 3, 4, 6, 7, 8], [5, 9], []), (11, [0, 3, 4, 6, 7, 8, 57], [5], []), (10, [0, 3, 4, 6, 7, 8], [5], []), (9, [0, 3, 4, 6, 7], [5], []), (7, [0, 3, 4, 6, 39], [5], []), (6, [0, 3, 4, 6], [5], []), (5, [0, 3, 4], [5], []), (3, [0, 3, 4, 19], [], []), (2, [0, 3, 4], [], []), (1, [0, 3], [], []), (0, [0], [], [])], order := [(17, [0, 1, 2, 4, 3, 5, 6, 7, 8, 9])], keep := false }
theorem ok_law26_Own : cFunc Tryd.prog h_law26_Own n_law26_Own = some F_law26_Own := by kernel_rfl
/- logjam/witness.Sound -/
def F_witness_Sound_r0 : SCode := .region [
    ⟨(some 1), none, .boxA 3 (.slot 0)⟩,
    ⟨(some 2), none, .mov (.lit (.bool false))⟩] [] [1] []
def F_witness_Sound_r1 : SCode := .region [
    ⟨(some 8), none, .loadA true 3 1⟩,
    ⟨(some 9), none, .call n_report_Check [(.slot 8)]⟩,
    ⟨(some 10), none, .bin .neq .int (.slot 9) (.lit (.int .i64 (0)))⟩] [10] [1] []
def F_witness_Sound_r2 : SCode := .region [
    ⟨(some 2), none, .mov (.lit (.bool false))⟩] [2] [] []
def F_witness_Sound_r3 : SCode := .region [
    ⟨(some 11), none, .faddrA 1 1⟩,
    ⟨(some 12), none, .loadA false 1 11⟩,
    ⟨(some 13), none, .call n_bits_Of [(.slot 12)]⟩,
    ⟨(some 3), none, .mov (.slot 13)⟩] [3] [1] []
def F_witness_Sound_r4 : SCode := .region [
    ⟨(some 14), none, .faddrA 2 1⟩,
    ⟨(some 15), none, .loadA false 1 14⟩,
    ⟨(some 16), none, .len .sl (.slot 15)⟩,
    ⟨(some 17), none, .mov (.lit (.int .i64 (0)))⟩] [3, 15, 16, 17] [] []
def F_witness_Sound_r5 : SCode := .region [
    ⟨(some 18), none, .bin .lss .no (.slot 17) (.slot 16)⟩] [3, 15, 16, 17, 18] [] []
def F_witness_Sound_r6 : SCode := .region [
    ⟨(some 19), none, .iaddr 2 (.slot 15) (.slot 17)⟩,
    ⟨(some 20), none, .load true 2 (.slot 19)⟩,
    ⟨(some 5), none, .allocA [.bool false, .nilsl]⟩,
    ⟨none, none, .storeA 2 5 (.slot 20)⟩] [3, 15, 16, 17] [5] []
def F_witness_Sound_r7 : SCode := .region [
    ⟨(some 21), none, .faddrA 1 5⟩,
    ⟨(some 22), none, .loadA false 1 21⟩,
    ⟨(some 23), none, .len .sl (.slot 22)⟩,
    ⟨(some 24), none, .mov (.lit (.int .i64 (0)))⟩] [3, 15, 16, 17, 22, 23, 24] [] []
def F_witness_Sound_r8 : SCode := .region [
    ⟨(some 25), none, .bin .lss .no (.slot 24) (.slot 23)⟩] [3, 15, 16, 17, 22, 23, 24, 25] [] []
def F_witness_Sound_r9 : SCode := .region [
    ⟨(some 26), none, .iaddr 1 (.slot 22) (.slot 24)⟩,
    ⟨(some 27), none, .load false 1 (.slot 26)⟩,
    ⟨(some 7), none, .mov (.slot 27)⟩] [3, 7, 15, 16, 17, 22, 23, 24] [] []
def F_witness_Sound_r10 : SCode := .region [
    ⟨(some 28), none, .mov (.slot 7)⟩,
    ⟨(some 29), none, .mov (.slot 3)⟩,
    ⟨(some 30), none, .call n_witness_lacks [(.slot 28), (.slot 29)]⟩,
    ⟨(some 31), none, .bin .lss .no (.slot 30) (.lit (.int .i64 (0)))⟩] [3, 15, 16, 17, 22, 23, 24, 31] [] []
def F_witness_Sound_r11 : SCode := .region [
    ⟨(some 2), none, .mov (.lit (.bool false))⟩] [2] [] []
def F_witness_Sound_r12 : SCode := .region [
    ⟨(some 32), none, .bin .add .no (.slot 24) (.lit (.int .i64 (1)))⟩,
    ⟨(some 24), none, .mov (.slot 32)⟩] [3, 15, 16, 17, 22, 23, 24] [] []
def F_witness_Sound_l13 : SCode := (.seq F_witness_Sound_r8 (.seq (.cond (.slot 25) .skip (.exit 2)) (.seq (.block 3 (.seq F_witness_Sound_r9 (.seq F_witness_Sound_r10 (.cond (.slot 31) (.seq F_witness_Sound_r11 .ret) .skip)))) F_witness_Sound_r12)))
def F_witness_Sound_r14 : SCode := .region [
    ⟨(some 33), none, .bin .add .no (.slot 17) (.lit (.int .i64 (1)))⟩,
    ⟨(some 17), none, .mov (.slot 33)⟩] [3, 15, 16, 17] [] []
def F_witness_Sound_l15 : SCode := (.seq F_witness_Sound_r5 (.seq (.cond (.slot 18) .skip (.exit 0)) (.seq (.block 1 (.seq F_witness_Sound_r6 (.seq F_witness_Sound_r7 (.block 2 (.loop F_witness_Sound_l13))))) F_witness_Sound_r14)))
def F_witness_Sound_r16 : SCode := .region [
    ⟨(some 2), none, .mov (.lit (.bool true))⟩] [2] [] []
def F_witness_Sound : SFun := ⟨1, (.seq F_witness_Sound_r0 (.seq (.seq F_witness_Sound_r1 (.cond (.slot 10) (.seq F_witness_Sound_r2 .ret) .skip)) (.seq F_witness_Sound_r3 (.seq (.seq F_witness_Sound_r4 (.block 0 (.loop F_witness_Sound_l15))) (.seq F_witness_Sound_r16 .ret))))), [.slot 2], false⟩
def h_witness_Sound : Hints := { boxes := [1, 5], addrs := [11, 14, 21], post := [(14, [2], [], []), (13, [3, 15, 16, 17], [], []), (12, [3, 15, 16, 17, 22, 23, 24], [], []), (11, [2], [], []), (10, [3, 15, 16, 17, 22, 23, 24, 31], [], []), (9, [3, 7, 15, 16, 17, 22, 23, 24], [], []), (8, [3, 15, 16, 17, 22, 23, 24, 25], [], []), (7, [3, 15, 16, 17, 22, 23, 24], [], []), (6, [3, 15, 16, 17], [5], []), (5, [3, 15, 16, 17, 18], [], []), (4, [3, 15, 16, 17], [], []), (3, [3], [1], []), (2, [2], [], []), (1, [10], [1], []), (0, [], [1], [])], order := [], keep := false }
theorem ok_witness_Sound : cFunc Tryd.prog h_witness_Sound n_witness_Sound = some F_witness_Sound := by kernel_rfl
/- logjam/witness.Match -/
def F_witness_Match_r0 : SCode := .region [
    ⟨(some 2), none, .boxA 3 (.slot 0)⟩,
    ⟨(some 4), none, .mov (.lit (.bool false))⟩] [1] [2] []
def F_witness_Match_r1 : SCode := .region [
    ⟨(some 7), none, .loadA true 3 2⟩,
    ⟨(some 8), none, .call n_report_Check [(.slot 7)]⟩,
    ⟨(some 9), none, .bin .neq .int (.slot 8) (.lit (.int .i64 (0)))⟩] [1, 9] [2] []
def F_witness_Match_r2 : SCode := .region [
    ⟨(some 4), none, .mov (.lit (.bool false))⟩] [4] [] []
def F_witness_Match_r3 : SCode := .region [
    ⟨(some 10), none, .faddrA 1 2⟩,
    ⟨(some 11), none, .loadA false 1 10⟩,
    ⟨(some 12), none, .len .sl (.slot 11)⟩,
    ⟨(some 13), none, .mov (.lit (.int .i64 (0)))⟩] [1, 11, 12, 13] [2] []
def F_witness_Match_r4 : SCode := .region [
    ⟨(some 14), none, .bin .lss .no (.slot 13) (.slot 12)⟩] [1, 11, 12, 13, 14] [2] []
def F_witness_Match_r5 : SCode := .region [
    ⟨(some 15), none, .mov (.slot 13)⟩,
    ⟨(some 16), none, .iaddr 1 (.slot 11) (.slot 13)⟩,
    ⟨(some 17), none, .load false 1 (.slot 16)⟩,
    ⟨(some 5), none, .mov (.slot 15)⟩,
    ⟨(some 6), none, .mov (.slot 17)⟩] [1, 5, 6, 11, 12, 13] [2] []
def F_witness_Match_d6 : SCode := .draw (.take 0 ⟨(some 18), none, .mov (.slot 6)⟩ (.take 1 ⟨(some 19), none, .mov (.slot 1)⟩ (.take 2 ⟨(some 20), none, .len .sl (.slot 19)⟩ (.take 3 ⟨(some 21), none, .bin .geq .no (.slot 18) (.slot 20)⟩ (.take 4 ⟨(some 22), none, .mov (.slot 21)⟩ (.take 5 ⟨(some 23), some (22, false), .faddrA 2 2⟩ (.take 6 ⟨(some 24), some (22, false), .loadA false 1 23⟩ (.take 7 ⟨(some 25), some (22, false), .mov (.slot 5)⟩ (.take 8 ⟨(some 26), some (22, false), .iaddr 2 (.slot 24) (.slot 25)⟩ (.take 9 ⟨(some 27), some (22, false), .load true 2 (.slot 26)⟩ (.take 10 ⟨(some 28), some (22, false), .mov (.slot 1)⟩ (.take 11 ⟨(some 29), some (22, false), .mov (.slot 6)⟩ (.take 12 ⟨(some 30), some (22, false), .iaddr 2 (.slot 28) (.slot 29)⟩ (.take 13 ⟨(some 31), some (22, false), .load true 2 (.slot 30)⟩ (.only [12, 11, 10, 13, 8, 7, 5, 3, 1, 2, 0, 4, 6, 9] ⟨(some 32), some (22, false), .call n_witness_same [(.slot 27), (.slot 31)]⟩ (.take 15 ⟨(some 33), some (22, false), .un .not (.slot 32)⟩ (.take 16 ⟨(some 34), none, .pick (.slot 22) (.lit (.bool true)) (.slot 33)⟩ (.done)))))))))))))))))) [1, 11, 12, 13, 34] [2] []
def F_witness_Match_r7 : SCode := .region [
    ⟨(some 4), none, .mov (.lit (.bool false))⟩] [4] [] []
def F_witness_Match_r8 : SCode := .region [
    ⟨(some 35), none, .bin .add .no (.slot 13) (.lit (.int .i64 (1)))⟩,
    ⟨(some 13), none, .mov (.slot 35)⟩] [1, 11, 12, 13] [2] []
def F_witness_Match_l9 : SCode := (.seq F_witness_Match_r4 (.seq (.cond (.slot 14) .skip (.exit 0)) (.seq (.block 1 (.seq F_witness_Match_r5 (.seq F_witness_Match_d6 (.cond (.slot 34) (.seq F_witness_Match_r7 .ret) .skip)))) F_witness_Match_r8)))
def F_witness_Match_r10 : SCode := .region [
    ⟨(some 4), none, .mov (.lit (.bool true))⟩] [4] [] []
def F_witness_Match : SFun := ⟨2, (.seq F_witness_Match_r0 (.seq (.seq F_witness_Match_r1 (.cond (.slot 9) (.seq F_witness_Match_r2 .ret) .skip)) (.seq (.seq F_witness_Match_r3 (.block 0 (.loop F_witness_Match_l9))) (.seq F_witness_Match_r10 .ret)))), [.slot 4], false⟩
def h_witness_Match : Hints := { boxes := [2], addrs := [10, 23], post := [(9, [4], [], []), (8, [1, 11, 12, 13], [2], []), (7, [4], [], []), (6, [1, 11, 12, 13, 34], [2], []), (5, [1, 5, 6, 11, 12, 13], [2], []), (4, [1, 11, 12, 13, 14], [2], []), (3, [1, 11, 12, 13], [2], []), (2, [4], [], []), (1, [1, 9], [2], []), (0, [1], [2], [])], order := [(6, [0, 1, 2, 3, 4, 5, 6, 7, 8, 9, 10, 11, 12, 13, 14, 15, 16])], keep := false }
theorem ok_witness_Match : cFunc Tryd.prog h_witness_Match n_witness_Match = some F_witness_Match := by kernel_rfl
/- logjam/logjamlaw37.lives -/
def F_law37_lives_r0 : SCode := .region [
    ⟨(some 0), none, .mov (.lit (.bool false))⟩] [] [] []
def F_law37_lives_r1 : SCode := .region [
    ⟨(some 6), none, .buildSlice 1 (.int .i64 (0)) 3 [(0, (.lit (.int .i64 (0)))), (1, (.lit (.int .i64 (1)))), (2, (.lit (.int .i64 (2))))]⟩,
    ⟨(some 7), none, .call n_law37_ask [(.lit (.int .i64 (1)))]⟩,
    ⟨(some 8), none, .call n_law37_ask [(.lit (.int .i64 (0)))]⟩,
    ⟨(some 9), none, .call n_law37_ask [(.lit (.int .i64 (1)))]⟩,
    ⟨(some 10), none, .buildSlice 2 (.agg [.bool false, .nilsl]) 3 [(0, (.slot 7)), (1, (.slot 8)), (2, (.slot 9))]⟩,
    ⟨(some 11), none, .build [.int .i64 (0), .nilsl, .nilsl] [(1, 1, (.slot 6)), (2, 1, (.slot 10))]⟩,
    ⟨(some 1), none, .allocA [.int .i64 (0), .nilsl, .nilsl]⟩,
    ⟨none, none, .storeA 3 1 (.slot 11)⟩] [] [1] []
def F_law37_lives_r2 : SCode := .region [
    ⟨(some 12), none, .loadA true 3 1⟩,
    ⟨(some 13), none, .call n_witness_Core [(.slot 12), (.lit (.int .i64 (1)))]⟩,
    ⟨(some 2), none, .mov (.slot 13)⟩] [2] [1] []
def F_law37_lives_r3 : SCode := .region [
    ⟨(some 15), none, .loadA true 3 1⟩,
    ⟨(some 16), none, .call n_witness_Lack [(.slot 15), (.lit (.int .i64 (2)))]⟩,
    ⟨(some 14), none, .mov (.slot 16)⟩,
    ⟨(some 17), none, .extract (.slot 14) 0⟩,
    ⟨(some 18), none, .extract (.slot 14) 1⟩,
    ⟨(some 19), none, .extract (.slot 14) 2⟩,
    ⟨(some 3), none, .mov (.slot 17)⟩,
    ⟨(some 4), none, .mov (.slot 18)⟩,
    ⟨(some 5), none, .mov (.slot 19)⟩] [2, 3, 4, 5] [1] []
def F_law37_lives_r4 : SCode := .region [
    ⟨(some 20), none, .loadA true 3 1⟩,
    ⟨(some 21), none, .call n_witness_Sound [(.slot 20)]⟩,
    ⟨(some 22), none, .mov (.slot 21)⟩,
    ⟨(some 23), some (22, true), .loadA true 3 1⟩,
    ⟨(some 24), some (22, true), .faddrA 2 1⟩,
    ⟨(some 25), some (22, true), .loadA false 1 24⟩,
    ⟨(some 26), some (22, true), .call n_witness_Match [(.slot 23), (.slot 25)]⟩,
    ⟨(some 27), none, .pick (.slot 22) (.slot 26) (.lit (.bool false))⟩,
    ⟨(some 28), none, .mov (.slot 27)⟩,
    ⟨(some 29), some (28, true), .loadA true 3 1⟩,
    ⟨(some 30), some (28, true), .call n_witness_Match [(.slot 29), (.lit (.nilsl))]⟩,
    ⟨(some 31), some (28, true), .un .not (.slot 30)⟩,
    ⟨(some 32), none, .pick (.slot 28) (.slot 31) (.lit (.bool false))⟩,
    ⟨(some 33), none, .mov (.slot 32)⟩,
    ⟨(some 34), some (33, true), .mov (.slot 2)⟩,
    ⟨(some 35), some (33, true), .len .sl (.slot 34)⟩,
    ⟨(some 36), some (33, true), .bin .eql .int (.slot 35) (.lit (.int .i64 (2)))⟩,
    ⟨(some 37), none, .pick (.slot 33) (.slot 36) (.lit (.bool false))⟩,
    ⟨(some 38), none, .mov (.slot 37)⟩,
    ⟨(some 39), some (38, true), .mov (.slot 2)⟩,
    ⟨(some 40), some (38, true), .iaddr 1 (.slot 39) (.lit (.int .i64 (1)))⟩,
    ⟨(some 41), some (38, true), .load false 1 (.slot 40)⟩,
    ⟨(some 42), some (38, true), .bin .eql .int (.slot 41) (.lit (.int .i64 (1)))⟩,
    ⟨(some 43), none, .pick (.slot 38) (.slot 42) (.lit (.bool false))⟩,
    ⟨(some 44), none, .mov (.slot 43)⟩,
    ⟨(some 45), some (44, true), .mov (.slot 3)⟩,
    ⟨(some 46), some (44, true), .bin .eql .int (.slot 45) (.lit (.int .i64 (0)))⟩,
    ⟨(some 47), none, .pick (.slot 44) (.slot 46) (.lit (.bool false))⟩,
    ⟨(some 48), none, .mov (.slot 47)⟩,
    ⟨(some 49), some (48, true), .mov (.slot 4)⟩,
    ⟨(some 50), some (48, true), .bin .eql .int (.slot 49) (.lit (.int .i64 (0)))⟩,
    ⟨(some 51), none, .pick (.slot 48) (.slot 50) (.lit (.bool false))⟩,
    ⟨(some 52), none, .mov (.slot 51)⟩,
    ⟨(some 53), some (52, true), .mov (.slot 5)⟩,
    ⟨(some 54), none, .pick (.slot 52) (.slot 53) (.lit (.bool false))⟩,
    ⟨(some 55), none, .mov (.slot 54)⟩,
    ⟨(some 56), some (55, true), .loadA true 3 1⟩,
    ⟨(some 57), some (55, true), .buildSlice 1 (.int .i64 (0)) 2 [(0, (.lit (.int .i64 (0)))), (1, (.lit (.int .i64 (2))))]⟩,
    ⟨(some 58), some (55, true), .call n_witness_Part [(.slot 56), (.slot 57)]⟩,
    ⟨(some 59), some (55, true), .call n_witness_Sound [(.slot 58)]⟩,
    ⟨(some 60), some (55, true), .un .not (.slot 59)⟩,
    ⟨(some 61), none, .pick (.slot 55) (.slot 60) (.lit (.bool false))⟩,
    ⟨(some 0), none, .mov (.slot 61)⟩] [0] [] []
def F_law37_lives : SFun := ⟨0, (.seq F_law37_lives_r0 (.seq F_law37_lives_r1 (.seq F_law37_lives_r2 (.seq F_law37_lives_r3 (.seq F_law37_lives_r4 .ret))))), [.slot 0], false⟩
def h_law37_lives : Hints := { boxes := [1], addrs := [24], post := [(4, [0], [], []), (3, [2, 3, 4, 5], [1], []), (2, [2], [1], []), (1, [], [1], []), (0, [], [], [])], order := [], keep := false }
theorem ok_law37_lives : cFunc Tryd.prog h_law37_lives n_law37_lives = some F_law37_lives := by kernel_rfl
/- logjam/graph.Doomed -/
def F_graph_Doomed_r0 : SCode := .region [
    ⟨(some 2), none, .mov (.lit (.int .u64 (0)))⟩] [0] [] []
def F_graph_Doomed_r1 : SCode := .region [
    ⟨(some 5), none, .mov (.slot 0)⟩,
    ⟨(some 6), none, .call n_graph_Check [(.slot 5)]⟩,
    ⟨(some 7), none, .bin .neq .int (.slot 6) (.lit (.int .i64 (0)))⟩] [0, 7] [] []
def F_graph_Doomed_r2 : SCode := .region [
    ⟨(some 2), none, .mov (.lit (.int .u64 (0)))⟩] [2] [] []
def F_graph_Doomed_r3 : SCode := .region [
    ⟨(some 9), none, .mov (.slot 0)⟩,
    ⟨(some 10), none, .call n_graph_order [(.slot 9)]⟩,
    ⟨(some 8), none, .mov (.slot 10)⟩,
    ⟨(some 11), none, .extract (.slot 8) 0⟩,
    ⟨(some 12), none, .extract (.slot 8) 1⟩,
    ⟨(some 3), none, .mov (.slot 11)⟩,
    ⟨(some 4), none, .mov (.slot 12)⟩] [0, 4] [] []
def F_graph_Doomed_r4 : SCode := .region [
    ⟨(some 13), none, .mov (.slot 0)⟩,
    ⟨(some 14), none, .len .sl (.slot 13)⟩,
    ⟨(some 15), none, .call n_bits_All [(.slot 14)]⟩,
    ⟨(some 16), none, .mov (.slot 4)⟩,
    ⟨(some 17), none, .bin .andNot .no (.slot 15) (.slot 16)⟩,
    ⟨(some 2), none, .mov (.slot 17)⟩] [2] [] []
def F_graph_Doomed : SFun := ⟨1, (.seq F_graph_Doomed_r0 (.seq (.seq F_graph_Doomed_r1 (.cond (.slot 7) (.seq F_graph_Doomed_r2 .ret) .skip)) (.seq F_graph_Doomed_r3 (.seq F_graph_Doomed_r4 .ret)))), [.slot 2], false⟩
def h_graph_Doomed : Hints := { boxes := [], addrs := [], post := [(4, [2], [], []), (3, [0, 4], [], []), (2, [2], [], []), (1, [0, 7], [], []), (0, [0], [], [])], order := [], keep := false }
theorem ok_graph_Doomed : cFunc Tryd.prog h_graph_Doomed n_graph_Doomed = some F_graph_Doomed := by kernel_rfl
/- logjam/logjamref02.Has -/
def F_ref02_Has_r0 : SCode := .region [
    ⟨(some 4), none, .mov (.lit (.bool false))⟩] [0, 1] [] []
def F_ref02_Has_r1 : SCode := .region [
    ⟨(some 6), none, .mov (.slot 1)⟩,
    ⟨(some 7), none, .bin .lss .no (.slot 6) (.lit (.int .i64 (0)))⟩,
    ⟨(some 8), none, .mov (.slot 7)⟩,
    ⟨(some 9), some (8, false), .mov (.slot 1)⟩,
    ⟨(some 10), some (8, false), .bin .gtr .no (.slot 9) (.lit (.int .i64 (63)))⟩,
    ⟨(some 11), none, .pick (.slot 8) (.lit (.bool true)) (.slot 10)⟩] [0, 1, 11] [] []
def F_ref02_Has_r2 : SCode := .region [
    ⟨(some 4), none, .mov (.lit (.bool false))⟩] [4] [] []
def F_ref02_Has_r3 : SCode := .region [
    ⟨(some 5), none, .mov (.lit (.int .i64 (0)))⟩] [0, 1, 5] [] []
def F_ref02_Has_r4 : SCode := .region [
    ⟨(some 12), none, .mov (.slot 5)⟩,
    ⟨(some 13), none, .mov (.slot 1)⟩,
    ⟨(some 14), none, .bin .lss .no (.slot 12) (.slot 13)⟩] [0, 1, 5, 14] [] []
def F_ref02_Has_r5 : SCode := .region [
    ⟨(some 17), none, .mov (.slot 0)⟩,
    ⟨(some 18), none, .bin .quo .no (.slot 17) (.lit (.int .u64 (2)))⟩,
    ⟨(some 0), none, .mov (.slot 18)⟩] [0, 1, 5] [] []
def F_ref02_Has_r6 : SCode := .region [
    ⟨(some 15), none, .mov (.slot 5)⟩,
    ⟨(some 16), none, .bin .add .no (.slot 15) (.lit (.int .i64 (1)))⟩,
    ⟨(some 5), none, .mov (.slot 16)⟩] [0, 1, 5] [] []
def F_ref02_Has_l7 : SCode := (.seq (.seq F_ref02_Has_r4 (.cond (.slot 14) .skip (.exit 0))) (.seq (.block 1 F_ref02_Has_r5) F_ref02_Has_r6))
def F_ref02_Has_r8 : SCode := .region [
    ⟨(some 19), none, .mov (.slot 0)⟩,
    ⟨(some 20), none, .bin .rem .no (.slot 19) (.lit (.int .u64 (2)))⟩,
    ⟨(some 21), none, .bin .eql .int (.slot 20) (.lit (.int .u64 (1)))⟩,
    ⟨(some 4), none, .mov (.slot 21)⟩] [4] [] []
def F_ref02_Has : SFun := ⟨2, (.seq F_ref02_Has_r0 (.seq (.seq F_ref02_Has_r1 (.cond (.slot 11) (.seq F_ref02_Has_r2 .ret) .skip)) (.seq (.seq F_ref02_Has_r3 (.block 0 (.loop F_ref02_Has_l7))) (.seq F_ref02_Has_r8 .ret)))), [.slot 4], false⟩
def h_ref02_Has : Hints := { boxes := [], addrs := [], post := [(7, [4], [], []), (5, [0, 1, 5], [], []), (6, [0, 1, 5], [], []), (4, [0, 1, 5, 14], [], []), (3, [0, 1, 5], [], []), (2, [4], [], []), (1, [0, 1, 11], [], []), (0, [0, 1], [], [])], order := [], keep := false }
theorem ok_ref02_Has : cFunc Tryd.prog h_ref02_Has n_ref02_Has = some F_ref02_Has := by kernel_rfl
/- logjam/report.Check -/
def F_report_Check_r0 : SCode := .region [
    ⟨(some 1), none, .boxA 3 (.slot 0)⟩,
    ⟨(some 2), none, .mov (.lit (.int .i64 (0)))⟩] [] [1] []
def F_report_Check_r1 : SCode := .region [
    ⟨(some 9), none, .faddrA 0 1⟩,
    ⟨(some 10), none, .loadA false 1 9⟩,
    ⟨(some 11), none, .bin .lss .no (.slot 10) (.lit (.int .i64 (0)))⟩,
    ⟨(some 12), none, .mov (.slot 11)⟩,
    ⟨(some 13), some (12, false), .faddrA 0 1⟩,
    ⟨(some 14), some (12, false), .loadA false 1 13⟩,
    ⟨(some 15), some (12, false), .bin .gtr .no (.slot 14) (.lit (.int .i64 (1073741824)))⟩,
    ⟨(some 16), none, .pick (.slot 12) (.lit (.bool true)) (.slot 15)⟩] [16] [1] []
def F_report_Check_r2 : SCode := .region [
    ⟨(some 2), none, .mov (.lit (.int .i64 (1)))⟩] [2] [] []
def F_report_Check_r3 : SCode := .region [
    ⟨(some 17), none, .faddrA 1 1⟩,
    ⟨(some 18), none, .loadA false 1 17⟩,
    ⟨(some 19), none, .len .sl (.slot 18)⟩,
    ⟨(some 20), none, .faddrA 2 1⟩,
    ⟨(some 21), none, .loadA false 1 20⟩,
    ⟨(some 22), none, .len .sl (.slot 21)⟩,
    ⟨(some 23), none, .bin .neq .int (.slot 19) (.slot 22)⟩] [23] [1] []
def F_report_Check_r4 : SCode := .region [
    ⟨(some 2), none, .mov (.lit (.int .i64 (2)))⟩] [2] [] []
def F_report_Check_r5 : SCode := .region [
    ⟨(some 3), none, .mov (.lit (.int .i64 (-1)))⟩] [3] [1] []
def F_report_Check_r6 : SCode := .region [
    ⟨(some 24), none, .faddrA 1 1⟩,
    ⟨(some 25), none, .loadA false 1 24⟩,
    ⟨(some 26), none, .len .sl (.slot 25)⟩,
    ⟨(some 27), none, .mov (.lit (.int .i64 (0)))⟩] [3, 25, 26, 27] [1] []
def F_report_Check_r7 : SCode := .region [
    ⟨(some 28), none, .bin .lss .no (.slot 27) (.slot 26)⟩] [3, 25, 26, 27, 28] [1] []
def F_report_Check_r8 : SCode := .region [
    ⟨(some 29), none, .iaddr 1 (.slot 25) (.slot 27)⟩,
    ⟨(some 30), none, .load false 1 (.slot 29)⟩,
    ⟨(some 5), none, .mov (.slot 30)⟩] [3, 5, 25, 26, 27] [1] []
def F_report_Check_r9 : SCode := .region [
    ⟨(some 31), none, .mov (.slot 5)⟩,
    ⟨(some 32), none, .mov (.slot 3)⟩,
    ⟨(some 33), none, .bin .leq .no (.slot 31) (.slot 32)⟩,
    ⟨(some 34), none, .mov (.slot 33)⟩,
    ⟨(some 35), some (34, false), .mov (.slot 5)⟩,
    ⟨(some 36), some (34, false), .bin .geq .no (.slot 35) (.lit (.int .i64 (64)))⟩,
    ⟨(some 37), none, .pick (.slot 34) (.lit (.bool true)) (.slot 36)⟩] [5, 25, 26, 27, 37] [1] []
def F_report_Check_r10 : SCode := .region [
    ⟨(some 2), none, .mov (.lit (.int .i64 (2)))⟩] [2] [] []
def F_report_Check_r11 : SCode := .region [
    ⟨(some 38), none, .mov (.slot 5)⟩,
    ⟨(some 3), none, .mov (.slot 38)⟩] [3, 25, 26, 27] [1] []
def F_report_Check_r12 : SCode := .region [
    ⟨(some 39), none, .bin .add .no (.slot 27) (.lit (.int .i64 (1)))⟩,
    ⟨(some 27), none, .mov (.slot 39)⟩] [3, 25, 26, 27] [1] []
def F_report_Check_l13 : SCode := (.seq F_report_Check_r7 (.seq (.cond (.slot 28) .skip (.exit 0)) (.seq (.block 1 (.seq F_report_Check_r8 (.seq (.seq F_report_Check_r9 (.cond (.slot 37) (.seq F_report_Check_r10 .ret) .skip)) F_report_Check_r11))) F_report_Check_r12)))
def F_report_Check_r14 : SCode := .region [
    ⟨(some 40), none, .faddrA 2 1⟩,
    ⟨(some 41), none, .loadA false 1 40⟩,
    ⟨(some 42), none, .len .sl (.slot 41)⟩,
    ⟨(some 43), none, .mov (.lit (.int .i64 (0)))⟩] [41, 42, 43] [] []
def F_report_Check_r15 : SCode := .region [
    ⟨(some 44), none, .bin .lss .no (.slot 43) (.slot 42)⟩] [41, 42, 43, 44] [] []
def F_report_Check_r16 : SCode := .region [
    ⟨(some 45), none, .iaddr 2 (.slot 41) (.slot 43)⟩,
    ⟨(some 46), none, .load true 2 (.slot 45)⟩,
    ⟨(some 7), none, .allocA [.bool false, .nilsl]⟩,
    ⟨none, none, .storeA 2 7 (.slot 46)⟩] [41, 42, 43] [7] []
def F_report_Check_r17 : SCode := .region [
    ⟨(some 47), none, .loadA true 2 7⟩,
    ⟨(some 48), none, .call n_report_node [(.slot 47)]⟩,
    ⟨(some 8), none, .mov (.slot 48)⟩] [8, 41, 42, 43] [] []
def F_report_Check_r18 : SCode := .region [
    ⟨(some 49), none, .mov (.slot 8)⟩,
    ⟨(some 50), none, .bin .neq .int (.slot 49) (.lit (.int .i64 (0)))⟩] [8, 41, 42, 43, 50] [] []
def F_report_Check_r19 : SCode := .region [
    ⟨(some 51), none, .mov (.slot 8)⟩,
    ⟨(some 2), none, .mov (.slot 51)⟩] [2] [] []
def F_report_Check_r20 : SCode := .region [
    ⟨(some 52), none, .bin .add .no (.slot 43) (.lit (.int .i64 (1)))⟩,
    ⟨(some 43), none, .mov (.slot 52)⟩] [41, 42, 43] [] []
def F_report_Check_l21 : SCode := (.seq F_report_Check_r15 (.seq (.cond (.slot 44) .skip (.exit 2)) (.seq (.block 3 (.seq F_report_Check_r16 (.seq F_report_Check_r17 (.seq F_report_Check_r18 (.cond (.slot 50) (.seq F_report_Check_r19 .ret) .skip))))) F_report_Check_r20)))
def F_report_Check_r22 : SCode := .region [
    ⟨(some 2), none, .mov (.lit (.int .i64 (0)))⟩] [2] [] []
def F_report_Check : SFun := ⟨1, (.seq F_report_Check_r0 (.seq (.seq F_report_Check_r1 (.cond (.slot 16) (.seq F_report_Check_r2 .ret) .skip)) (.seq (.seq F_report_Check_r3 (.cond (.slot 23) (.seq F_report_Check_r4 .ret) .skip)) (.seq F_report_Check_r5 (.seq (.seq F_report_Check_r6 (.block 0 (.loop F_report_Check_l13))) (.seq (.seq F_report_Check_r14 (.block 2 (.loop F_report_Check_l21))) (.seq F_report_Check_r22 .ret))))))), [.slot 2], false⟩
def h_report_Check : Hints := { boxes := [1, 7], addrs := [9, 13, 17, 20, 24, 40], post := [(20, [2], [], []), (19, [41, 42, 43], [], []), (18, [2], [], []), (17, [8, 41, 42, 43, 50], [], []), (16, [8, 41, 42, 43], [], []), (15, [41, 42, 43], [7], []), (14, [41, 42, 43, 44], [], []), (13, [41, 42, 43], [], []), (12, [3, 25, 26, 27], [1], []), (11, [3, 25, 26, 27], [1], []), (10, [2], [], []), (9, [5, 25, 26, 27, 37], [1], []), (8, [3, 5, 25, 26, 27], [1], []), (7, [3, 25, 26, 27, 28], [1], []), (6, [3, 25, 26, 27], [1], []), (5, [3], [1], []), (4, [2], [], []), (3, [23], [1], []), (2, [2], [], []), (1, [16], [1], []), (0, [], [1], [])], order := [], keep := false }
theorem ok_report_Check : cFunc Tryd.prog h_report_Check n_report_Check = some F_report_Check := by kernel_rfl
/- logjam/bits.Of -/
def F_bits_Of_r0 : SCode := .region [
    ⟨(some 2), none, .mov (.lit (.int .u64 (0)))⟩] [0] [] []
def F_bits_Of_r1 : SCode := .region [
    ⟨(some 3), none, .mov (.lit (.int .u64 (0)))⟩] [0, 3] [] []
def F_bits_Of_r2 : SCode := .region [
    ⟨(some 6), none, .mov (.slot 0)⟩,
    ⟨(some 7), none, .len .sl (.slot 6)⟩,
    ⟨(some 8), none, .mov (.lit (.int .i64 (0)))⟩] [3, 6, 7, 8] [] []
def F_bits_Of_r3 : SCode := .region [
    ⟨(some 9), none, .bin .lss .no (.slot 8) (.slot 7)⟩] [3, 6, 7, 8, 9] [] []
def F_bits_Of_r4 : SCode := .region [
    ⟨(some 10), none, .iaddr 1 (.slot 6) (.slot 8)⟩,
    ⟨(some 11), none, .load false 1 (.slot 10)⟩,
    ⟨(some 5), none, .mov (.slot 11)⟩] [3, 5, 6, 7, 8] [] []
def F_bits_Of_r5 : SCode := .region [
    ⟨(some 12), none, .mov (.slot 3)⟩,
    ⟨(some 13), none, .mov (.slot 5)⟩,
    ⟨(some 14), none, .call n_bits_one [(.slot 13)]⟩,
    ⟨(some 15), none, .bin .or .no (.slot 12) (.slot 14)⟩,
    ⟨(some 3), none, .mov (.slot 15)⟩] [3, 6, 7, 8] [] []
def F_bits_Of_r6 : SCode := .region [
    ⟨(some 16), none, .bin .add .no (.slot 8) (.lit (.int .i64 (1)))⟩,
    ⟨(some 8), none, .mov (.slot 16)⟩] [3, 6, 7, 8] [] []
def F_bits_Of_l7 : SCode := (.seq F_bits_Of_r3 (.seq (.cond (.slot 9) .skip (.exit 0)) (.seq (.block 1 (.seq F_bits_Of_r4 F_bits_Of_r5)) F_bits_Of_r6)))
def F_bits_Of_r8 : SCode := .region [
    ⟨(some 17), none, .mov (.slot 3)⟩,
    ⟨(some 2), none, .mov (.slot 17)⟩] [2] [] []
def F_bits_Of : SFun := ⟨1, (.seq F_bits_Of_r0 (.seq F_bits_Of_r1 (.seq (.seq F_bits_Of_r2 (.block 0 (.loop F_bits_Of_l7))) (.seq F_bits_Of_r8 .ret)))), [.slot 2], false⟩
def h_bits_Of : Hints := { boxes := [], addrs := [], post := [(7, [2], [], []), (6, [3, 6, 7, 8], [], []), (5, [3, 6, 7, 8], [], []), (4, [3, 5, 6, 7, 8], [], []), (3, [3, 6, 7, 8, 9], [], []), (2, [3, 6, 7, 8], [], []), (1, [0, 3], [], []), (0, [0], [], [])], order := [], keep := false }
theorem ok_bits_Of : cFunc Tryd.prog h_bits_Of n_bits_Of = some F_bits_Of := by kernel_rfl
/- logjam/witness.lacks -/
def F_witness_lacks_r0 : SCode := .region [
    ⟨(some 3), none, .box 1 (.slot 1)⟩,
    ⟨(some 4), none, .mov (.lit (.int .i64 (0)))⟩] [0, 3] [] []
def F_witness_lacks_r1 : SCode := .region [
    ⟨(some 5), none, .mov (.slot 0)⟩,
    ⟨(some 6), none, .mkFunc n_witness_lacks_1 [(.slot 3)]⟩,
    ⟨(some 7), none, .call n_slices_IndexFunc_Lapi_Term_api_Term [(.slot 5), (.slot 6)]⟩,
    ⟨(some 4), none, .mov (.slot 7)⟩] [4] [] []
def F_witness_lacks : SFun := ⟨2, (.seq F_witness_lacks_r0 (.seq F_witness_lacks_r1 .ret)), [.slot 4], false⟩
def h_witness_lacks : Hints := { boxes := [], addrs := [], post := [(1, [4], [], []), (0, [0, 3], [], [])], order := [], keep := false }
theorem ok_witness_lacks : cFunc Tryd.prog h_witness_lacks n_witness_lacks = some F_witness_lacks := by kernel_rfl
/- logjam/witness.same -/
def F_witness_same_r0 : SCode := .region [
    ⟨(some 2), none, .boxA 2 (.slot 0)⟩,
    ⟨(some 3), none, .boxA 2 (.slot 1)⟩,
    ⟨(some 4), none, .mov (.lit (.bool false))⟩] [] [2, 3] []
def F_witness_same_r1 : SCode := .region [
    ⟨(some 5), none, .alloc (.nilfn)⟩,
    ⟨none, none, .store 1 (.slot 5) (.lit (.fn n_witness_same_1 []))⟩] [5] [2, 3] []
def F_witness_same_r2 : SCode := .region [
    ⟨(some 7), none, .mkFunc n_witness_same_2 [(.slot 5)]⟩,
    ⟨(some 6), none, .mov (.slot 7)⟩] [6] [2, 3] []
def F_witness_same_r3 : SCode := .region [
    ⟨(some 8), none, .faddrA 0 2⟩,
    ⟨(some 9), none, .loadA false 1 8⟩,
    ⟨(some 10), none, .faddrA 0 3⟩,
    ⟨(some 11), none, .loadA false 1 10⟩,
    ⟨(some 12), none, .bin .eql .bool (.slot 9) (.slot 11)⟩,
    ⟨(some 13), none, .mov (.slot 12)⟩,
    ⟨(some 14), some (13, true), .faddrA 1 2⟩,
    ⟨(some 15), some (13, true), .loadA false 1 14⟩,
    ⟨(some 16), some (13, true), .faddrA 1 3⟩,
    ⟨(some 17), some (13, true), .loadA false 1 16⟩,
    ⟨(some 18), some (13, true), .mov (.slot 6)⟩,
    ⟨(some 19), some (13, true), .call n_slices_EqualFunc_LLapi_Term_LLapi_Term_Lapi_Term_Lapi_Term [(.slot 15), (.slot 17), (.slot 18)]⟩,
    ⟨(some 20), none, .pick (.slot 13) (.slot 19) (.lit (.bool false))⟩,
    ⟨(some 4), none, .mov (.slot 20)⟩] [4] [] []
def F_witness_same : SFun := ⟨2, (.seq F_witness_same_r0 (.seq F_witness_same_r1 (.seq F_witness_same_r2 (.seq F_witness_same_r3 .ret)))), [.slot 4], false⟩
def h_witness_same : Hints := { boxes := [2, 3], addrs := [8, 10, 14, 16], post := [(3, [4], [], []), (2, [6], [2, 3], []), (1, [5], [2, 3], []), (0, [], [2, 3], [])], order := [], keep := false }
theorem ok_witness_same : cFunc Tryd.prog h_witness_same n_witness_same = some F_witness_same := by kernel_rfl
/- logjam/logjamlaw37.ask -/
def F_law37_ask_r0 : SCode := .region [
    ⟨(some 2), none, .allocA [.bool false, .nilsl]⟩] [0] [2] []
def F_law37_ask_r1 : SCode := .region [
    ⟨(some 3), none, .mov (.slot 0)⟩,
    ⟨(some 4), none, .build [.int .i64 (0), .int .i64 (0)] [(0, 1, (.slot 3)), (1, 1, (.lit (.int .i64 (1))))]⟩,
    ⟨(some 5), none, .buildSlice 2 (.agg [.int .i64 (0), .int .i64 (0)]) 1 [(0, (.slot 4))]⟩,
    ⟨(some 6), none, .build [.int .i64 (0), .nilsl] [(0, 1, (.lit (.int .i64 (1)))), (1, 1, (.slot 5))]⟩,
    ⟨(some 7), none, .buildSlice 2 (.agg [.int .i64 (0), .nilsl]) 1 [(0, (.slot 6))]⟩,
    ⟨(some 8), none, .buildSlice 1 (.nilsl) 1 [(0, (.slot 7))]⟩,
    ⟨(some 9), none, .build [.bool false, .nilsl] [(0, 1, (.lit (.bool true))), (1, 1, (.slot 8))]⟩,
    ⟨none, none, .storeA 2 2 (.slot 9)⟩] [] [2] []
def F_law37_ask : SFun := ⟨1, (.seq F_law37_ask_r0 (.seq F_law37_ask_r1 .ret)), [.cellA true 2 2], false⟩
def h_law37_ask : Hints := { boxes := [2], addrs := [], post := [(1, [], [2], []), (0, [0], [2], [])], order := [], keep := false }
theorem ok_law37_ask : cFunc Tryd.prog h_law37_ask n_law37_ask = some F_law37_ask := by kernel_rfl
/- logjam/witness.Core -/
def F_witness_Core_r0 : SCode := .region [
    ⟨(some 2), none, .boxA 3 (.slot 0)⟩,
    ⟨(some 4), none, .mov (.lit (.nilsl))⟩] [1] [2] []
def F_witness_Core_r1 : SCode := .region [
    ⟨(some 14), none, .faddrA 1 2⟩,
    ⟨(some 15), none, .loadA false 1 14⟩,
    ⟨(some 16), none, .call n_bits_Of [(.slot 15)]⟩,
    ⟨(some 5), none, .mov (.slot 16)⟩] [1, 5] [2] []
def F_witness_Core_r2 : SCode := .region [
    ⟨(some 17), none, .loadA true 3 2⟩,
    ⟨(some 18), none, .call n_witness_Sound [(.slot 17)]⟩,
    ⟨(some 19), none, .un .not (.slot 18)⟩,
    ⟨(some 20), none, .mov (.slot 19)⟩,
    ⟨(some 21), some (20, false), .mov (.slot 5)⟩,
    ⟨(some 22), some (20, false), .mov (.slot 1)⟩,
    ⟨(some 23), some (20, false), .call n_bits_Set_Has [(.slot 21), (.slot 22)]⟩,
    ⟨(some 24), some (20, false), .un .not (.slot 23)⟩,
    ⟨(some 25), none, .pick (.slot 20) (.lit (.bool true)) (.slot 24)⟩] [1, 5, 25] [2] []
def F_witness_Core_r3 : SCode := .region [
    ⟨(some 4), none, .mov (.lit (.nilsl))⟩] [4] [] []
def F_witness_Core_r4 : SCode := .region [
    ⟨(some 26), none, .mov (.slot 1)⟩,
    ⟨(some 27), none, .buildSlice 1 (.int .i64 (0)) 1 [(0, (.slot 26))]⟩,
    ⟨(some 28), none, .call n_bits_Of [(.slot 27)]⟩,
    ⟨(some 29), none, .mov (.slot 1)⟩,
    ⟨(some 30), none, .buildSlice 1 (.int .i64 (0)) 1 [(0, (.slot 29))]⟩,
    ⟨(some 31), none, .call n_bits_Of [(.slot 30)]⟩,
    ⟨(some 6), none, .mov (.slot 28)⟩,
    ⟨(some 7), none, .mov (.slot 31)⟩] [5, 6, 7] [2] []
def F_witness_Core_r5 : SCode := .region [
    ⟨(some 32), none, .mov (.slot 7)⟩,
    ⟨(some 33), none, .bin .neq .int (.slot 32) (.lit (.int .u64 (0)))⟩] [5, 6, 7, 33] [2] []
def F_witness_Core_d6 : SCode := .draw (.take 0 ⟨(some 35), none, .faddrA 1 2⟩ (.take 1 ⟨(some 36), none, .loadA false 1 35⟩ (.take 2 ⟨(some 37), none, .mov (.slot 7)⟩ (.only [2] ⟨(some 38), none, .call n_bits_Set_First [(.slot 37)]⟩ (.only [2, 3, 0, 1] ⟨(some 39), none, .call n_slices_BinarySearch_Lint_int [(.slot 36), (.slot 38)]⟩ (.take 5 ⟨(some 34), none, .mov (.slot 39)⟩ (.take 6 ⟨(some 40), none, .extract (.slot 34) 0⟩ (.take 7 ⟨(some 41), none, .extract (.slot 34) 1⟩ (.take 8 ⟨(some 8), none, .mov (.slot 40)⟩ (.take 9 ⟨(some 9), none, .mov (.slot 41)⟩ (.done))))))))))) [5, 6, 7, 8] [2] []
def F_witness_Core_r7 : SCode := .region [
    ⟨(some 42), none, .mov (.slot 7)⟩,
    ⟨(some 43), none, .mov (.slot 7)⟩,
    ⟨(some 44), none, .call n_bits_Set_First [(.slot 43)]⟩,
    ⟨(some 45), none, .call n_bits_Set_Without [(.slot 42), (.slot 44)]⟩,
    ⟨(some 7), none, .mov (.slot 45)⟩] [5, 6, 7, 8] [2] []
def F_witness_Core_r8 : SCode := .region [
    ⟨(some 46), none, .faddrA 2 2⟩,
    ⟨(some 47), none, .loadA false 1 46⟩,
    ⟨(some 48), none, .mov (.slot 8)⟩,
    ⟨(some 49), none, .iaddr 2 (.slot 47) (.slot 48)⟩,
    ⟨(some 50), none, .faddr 1 (.slot 49)⟩,
    ⟨(some 51), none, .load false 1 (.slot 50)⟩,
    ⟨(some 52), none, .len .sl (.slot 51)⟩,
    ⟨(some 53), none, .mov (.lit (.int .i64 (0)))⟩] [5, 6, 7, 51, 52, 53] [2] []
def F_witness_Core_r9 : SCode := .region [
    ⟨(some 54), none, .bin .lss .no (.slot 53) (.slot 52)⟩] [5, 6, 7, 51, 52, 53, 54] [2] []
def F_witness_Core_r10 : SCode := .region [
    ⟨(some 55), none, .iaddr 1 (.slot 51) (.slot 53)⟩,
    ⟨(some 56), none, .load false 1 (.slot 55)⟩,
    ⟨(some 11), none, .mov (.slot 56)⟩] [5, 6, 7, 11, 51, 52, 53] [2] []
def F_witness_Core_r11 : SCode := .region [
    ⟨(some 57), none, .mov (.slot 11)⟩,
    ⟨(some 58), none, .mov (.slot 11)⟩,
    ⟨(some 59), none, .mov (.slot 5)⟩,
    ⟨(some 60), none, .call n_witness_lacks [(.slot 58), (.slot 59)]⟩,
    ⟨(some 61), none, .iaddr 2 (.slot 57) (.slot 60)⟩,
    ⟨(some 62), none, .faddr 1 (.slot 61)⟩,
    ⟨(some 63), none, .load false 1 (.slot 62)⟩,
    ⟨(some 64), none, .len .sl (.slot 63)⟩,
    ⟨(some 65), none, .mov (.lit (.int .i64 (0)))⟩] [5, 6, 7, 51, 52, 53, 63, 64, 65] [2] []
def F_witness_Core_r12 : SCode := .region [
    ⟨(some 66), none, .bin .lss .no (.slot 65) (.slot 64)⟩] [5, 6, 7, 51, 52, 53, 63, 64, 65, 66] [2] []
def F_witness_Core_r13 : SCode := .region [
    ⟨(some 67), none, .iaddr 2 (.slot 63) (.slot 65)⟩,
    ⟨(some 68), none, .load true 2 (.slot 67)⟩,
    ⟨(some 13), none, .allocA [.int .i64 (0), .int .i64 (0)]⟩,
    ⟨none, none, .storeA 2 13 (.slot 68)⟩] [5, 6, 7, 51, 52, 53, 63, 64, 65] [2, 13] []
def F_witness_Core_r14 : SCode := .region [
    ⟨(some 69), none, .mov (.slot 5)⟩,
    ⟨(some 70), none, .faddrA 0 13⟩,
    ⟨(some 71), none, .loadA false 1 70⟩,
    ⟨(some 72), none, .call n_bits_Set_Has [(.slot 69), (.slot 71)]⟩,
    ⟨(some 73), none, .mov (.slot 72)⟩,
    ⟨(some 74), some (73, true), .mov (.slot 6)⟩,
    ⟨(some 75), some (73, true), .faddrA 0 13⟩,
    ⟨(some 76), some (73, true), .loadA false 1 75⟩,
    ⟨(some 77), some (73, true), .call n_bits_Set_Has [(.slot 74), (.slot 76)]⟩,
    ⟨(some 78), some (73, true), .un .not (.slot 77)⟩,
    ⟨(some 79), none, .pick (.slot 73) (.slot 78) (.lit (.bool false))⟩] [5, 6, 7, 51, 52, 53, 63, 64, 65, 79] [2, 13] []
def F_witness_Core_d15 : SCode := .draw (.take 0 ⟨(some 80), none, .mov (.slot 6)⟩ (.take 1 ⟨(some 81), none, .faddrA 0 13⟩ (.take 2 ⟨(some 82), none, .loadA false 1 81⟩ (.take 4 ⟨(some 84), none, .mov (.slot 7)⟩ (.take 5 ⟨(some 85), none, .faddrA 0 13⟩ (.take 6 ⟨(some 86), none, .loadA false 1 85⟩ (.only [1, 2, 0] ⟨(some 83), none, .call n_bits_Set_With [(.slot 80), (.slot 82)]⟩ (.only [0, 2, 1, 3, 5, 6, 4] ⟨(some 87), none, .call n_bits_Set_With [(.slot 84), (.slot 86)]⟩ (.take 8 ⟨(some 6), none, .mov (.slot 83)⟩ (.take 9 ⟨(some 7), none, .mov (.slot 87)⟩ (.done))))))))))) [5, 6, 7, 51, 52, 53, 63, 64, 65] [2] []
def F_witness_Core_r16 : SCode := .region [
    ⟨(some 88), none, .bin .add .no (.slot 65) (.lit (.int .i64 (1)))⟩,
    ⟨(some 65), none, .mov (.slot 88)⟩] [5, 6, 7, 51, 52, 53, 63, 64, 65] [2] []
def F_witness_Core_l17 : SCode := (.seq F_witness_Core_r12 (.seq (.cond (.slot 66) .skip (.exit 4)) (.seq (.block 5 (.seq F_witness_Core_r13 (.seq F_witness_Core_r14 (.cond (.slot 79) F_witness_Core_d15 .skip)))) F_witness_Core_r16)))
def F_witness_Core_r18 : SCode := .region [
    ⟨(some 89), none, .bin .add .no (.slot 53) (.lit (.int .i64 (1)))⟩,
    ⟨(some 53), none, .mov (.slot 89)⟩] [5, 6, 7, 51, 52, 53] [2] []
def F_witness_Core_l19 : SCode := (.seq F_witness_Core_r9 (.seq (.cond (.slot 54) .skip (.exit 2)) (.seq (.block 3 (.seq F_witness_Core_r10 (.seq F_witness_Core_r11 (.block 4 (.loop F_witness_Core_l17))))) F_witness_Core_r18)))
def F_witness_Core_l20 : SCode := (.seq (.seq F_witness_Core_r5 (.cond (.slot 33) .skip (.exit 0))) (.block 1 (.seq F_witness_Core_d6 (.seq F_witness_Core_r7 (.seq F_witness_Core_r8 (.block 2 (.loop F_witness_Core_l19)))))))
def F_witness_Core_r21 : SCode := .region [
    ⟨(some 90), none, .mov (.slot 6)⟩,
    ⟨(some 91), none, .call n_bits_Set_List [(.slot 90)]⟩,
    ⟨(some 4), none, .mov (.slot 91)⟩] [4] [] []
def F_witness_Core : SFun := ⟨2, (.seq F_witness_Core_r0 (.seq F_witness_Core_r1 (.seq (.seq F_witness_Core_r2 (.cond (.slot 25) (.seq F_witness_Core_r3 .ret) .skip)) (.seq F_witness_Core_r4 (.seq (.block 0 (.loop F_witness_Core_l20)) (.seq F_witness_Core_r21 .ret)))))), [.slot 4], false⟩
def h_witness_Core : Hints := { boxes := [2, 13], addrs := [14, 35, 46, 70, 75, 81, 85], post := [(18, [4], [], []), (17, [5, 6, 7, 51, 52, 53], [2], []), (16, [5, 6, 7, 51, 52, 53, 63, 64, 65], [2], []), (15, [5, 6, 7, 51, 52, 53, 63, 64, 65], [2], []), (14, [5, 6, 7, 51, 52, 53, 63, 64, 65, 79], [2, 13], []), (13, [5, 6, 7, 51, 52, 53, 63, 64, 65], [2, 13], []), (12, [5, 6, 7, 51, 52, 53, 63, 64, 65, 66], [2], []), (11, [5, 6, 7, 51, 52, 53, 63, 64, 65], [2], []), (10, [5, 6, 7, 11, 51, 52, 53], [2], []), (9, [5, 6, 7, 51, 52, 53, 54], [2], []), (8, [5, 6, 7, 51, 52, 53], [2], []), (7, [5, 6, 7, 8], [2], []), (6, [5, 6, 7, 8], [2], []), (5, [5, 6, 7, 33], [2], []), (4, [5, 6, 7], [2], []), (3, [4], [], []), (2, [1, 5, 25], [2], []), (1, [1, 5], [2], []), (0, [1], [2], [])], order := [(6, [0, 1, 2, 3, 4, 5, 6, 7, 8, 9]), (15, [0, 1, 2, 4, 5, 6, 3, 7, 8, 9])], keep := false }
theorem ok_witness_Core : cFunc Tryd.prog h_witness_Core n_witness_Core = some F_witness_Core := by kernel_rfl
/- logjam/witness.Lack -/
def F_witness_Lack_r0 : SCode := .region [
    ⟨(some 2), none, .boxA 3 (.slot 0)⟩,
    ⟨(some 4), none, .mov (.lit (.int .i64 (0)))⟩,
    ⟨(some 5), none, .mov (.lit (.int .i64 (0)))⟩,
    ⟨(some 6), none, .mov (.lit (.bool false))⟩] [1] [2] []
def F_witness_Lack_r1 : SCode := .region [
    ⟨(some 11), none, .faddrA 1 2⟩,
    ⟨(some 12), none, .loadA false 1 11⟩,
    ⟨(some 13), none, .mov (.slot 1)⟩,
    ⟨(some 14), none, .call n_slices_BinarySearch_Lint_int [(.slot 12), (.slot 13)]⟩,
    ⟨(some 10), none, .mov (.slot 14)⟩,
    ⟨(some 15), none, .extract (.slot 10) 0⟩,
    ⟨(some 16), none, .extract (.slot 10) 1⟩,
    ⟨(some 7), none, .mov (.slot 15)⟩,
    ⟨(some 8), none, .mov (.slot 16)⟩] [7, 8] [2] []
def F_witness_Lack_r2 : SCode := .region [
    ⟨(some 17), none, .mov (.slot 8)⟩,
    ⟨(some 18), none, .un .not (.slot 17)⟩,
    ⟨(some 19), none, .mov (.slot 18)⟩,
    ⟨(some 20), some (19, false), .loadA true 3 2⟩,
    ⟨(some 21), some (19, false), .call n_report_Check [(.slot 20)]⟩,
    ⟨(some 22), some (19, false), .bin .neq .int (.slot 21) (.lit (.int .i64 (0)))⟩,
    ⟨(some 23), none, .pick (.slot 19) (.lit (.bool true)) (.slot 22)⟩,
    ⟨(some 24), none, .mov (.slot 23)⟩,
    ⟨(some 25), some (24, false), .faddrA 2 2⟩,
    ⟨(some 26), some (24, false), .loadA false 1 25⟩,
    ⟨(some 27), some (24, false), .mov (.slot 7)⟩,
    ⟨(some 28), some (24, false), .iaddr 2 (.slot 26) (.slot 27)⟩,
    ⟨(some 29), some (24, false), .faddr 1 (.slot 28)⟩,
    ⟨(some 30), some (24, false), .load false 1 (.slot 29)⟩,
    ⟨(some 31), some (24, false), .len .sl (.slot 30)⟩,
    ⟨(some 32), some (24, false), .bin .eql .int (.slot 31) (.lit (.int .i64 (0)))⟩,
    ⟨(some 33), none, .pick (.slot 24) (.lit (.bool true)) (.slot 32)⟩] [7, 33] [2] []
def F_witness_Lack_r3 : SCode := .region [
    ⟨(some 4), none, .mov (.lit (.int .i64 (0)))⟩,
    ⟨(some 5), none, .mov (.lit (.int .i64 (0)))⟩,
    ⟨(some 6), none, .mov (.lit (.bool false))⟩] [4, 5, 6] [] []
def F_witness_Lack_d4 : SCode := .draw (.take 0 ⟨(some 34), none, .faddrA 2 2⟩ (.take 1 ⟨(some 35), none, .loadA false 1 34⟩ (.take 2 ⟨(some 36), none, .mov (.slot 7)⟩ (.take 3 ⟨(some 37), none, .iaddr 2 (.slot 35) (.slot 36)⟩ (.take 4 ⟨(some 38), none, .faddr 1 (.slot 37)⟩ (.take 5 ⟨(some 39), none, .load false 1 (.slot 38)⟩ (.take 6 ⟨(some 40), none, .iaddr 1 (.slot 39) (.lit (.int .i64 (0)))⟩ (.take 7 ⟨(some 41), none, .load false 1 (.slot 40)⟩ (.take 8 ⟨(some 42), none, .faddrA 1 2⟩ (.take 9 ⟨(some 43), none, .loadA false 1 42⟩ (.only [8, 9] ⟨(some 44), none, .call n_bits_Of [(.slot 43)]⟩ (.only [9, 8, 10, 6, 4, 1, 0, 2, 3, 5, 7] ⟨(some 45), none, .call n_witness_lacks [(.slot 41), (.slot 44)]⟩ (.take 12 ⟨(some 9), none, .mov (.slot 45)⟩ (.done)))))))))))))) [9] [] []
def F_witness_Lack_r5 : SCode := .region [
    ⟨(some 46), none, .mov (.slot 9)⟩,
    ⟨(some 47), none, .bin .lss .no (.slot 46) (.lit (.int .i64 (0)))⟩] [9, 47] [] []
def F_witness_Lack_r6 : SCode := .region [
    ⟨(some 4), none, .mov (.lit (.int .i64 (0)))⟩,
    ⟨(some 5), none, .mov (.lit (.int .i64 (0)))⟩,
    ⟨(some 6), none, .mov (.lit (.bool false))⟩] [4, 5, 6] [] []
def F_witness_Lack_r7 : SCode := .region [
    ⟨(some 48), none, .mov (.slot 9)⟩,
    ⟨(some 4), none, .mov (.lit (.int .i64 (0)))⟩,
    ⟨(some 5), none, .mov (.slot 48)⟩,
    ⟨(some 6), none, .mov (.lit (.bool true))⟩] [4, 5, 6] [] []
def F_witness_Lack : SFun := ⟨2, (.seq F_witness_Lack_r0 (.seq F_witness_Lack_r1 (.seq (.seq F_witness_Lack_r2 (.cond (.slot 33) (.seq F_witness_Lack_r3 .ret) .skip)) (.seq F_witness_Lack_d4 (.seq (.seq F_witness_Lack_r5 (.cond (.slot 47) (.seq F_witness_Lack_r6 .ret) .skip)) (.seq F_witness_Lack_r7 .ret)))))), [.slot 4, .slot 5, .slot 6], false⟩
def h_witness_Lack : Hints := { boxes := [2], addrs := [11, 25, 34, 42], post := [(7, [4, 5, 6], [], []), (6, [4, 5, 6], [], []), (5, [9, 47], [], []), (4, [9], [], []), (3, [4, 5, 6], [], []), (2, [7, 33], [2], []), (1, [7, 8], [2], []), (0, [1], [2], [])], order := [(4, [0, 1, 2, 3, 4, 5, 6, 7, 8, 9, 10, 11, 12])], keep := false }
theorem ok_witness_Lack : cFunc Tryd.prog h_witness_Lack n_witness_Lack = some F_witness_Lack := by kernel_rfl
/- logjam/witness.Part -/
def F_witness_Part_r0 : SCode := .region [
    ⟨(some 2), none, .boxA 3 (.slot 0)⟩,
    ⟨(some 4), none, .allocA [.int .i64 (0), .nilsl, .nilsl]⟩] [1] [2, 4] []
def F_witness_Part_r1 : SCode := .region [
    ⟨(some 9), none, .loadA true 3 2⟩,
    ⟨(some 10), none, .call n_report_Check [(.slot 9)]⟩,
    ⟨(some 11), none, .bin .neq .int (.slot 10) (.lit (.int .i64 (0)))⟩] [1, 11] [2, 4] []
def F_witness_Part_r2 : SCode := .region [
    ⟨(some 12), none, .build [.int .i64 (0), .nilsl, .nilsl] []⟩,
    ⟨none, none, .storeA 3 4 (.slot 12)⟩] [] [4] []
def F_witness_Part_d3 : SCode := .draw (.take 0 ⟨(some 13), none, .faddrA 0 2⟩ (.take 1 ⟨(some 14), none, .loadA false 1 13⟩ (.take 2 ⟨(some 15), none, .build [.int .i64 (0), .nilsl, .nilsl] [(0, 1, (.slot 14))]⟩ (.take 3 ⟨(some 16), none, .mov (.slot 1)⟩ (.fork [3] ⟨(some 17), none, .call n_bits_Of [(.slot 16)]⟩ (.only [] ⟨(some 5), none, .alloc (.agg [.int .i64 (0), .nilsl, .nilsl])⟩ (.only [3, 4, 1, 0, 2, 5] ⟨none, none, .store 3 (.slot 5) (.slot 15)⟩ (.take 7 ⟨(some 6), none, .mov (.slot 17)⟩ (.done)))) [] ⟨(some 5), none, .alloc (.agg [.int .i64 (0), .nilsl, .nilsl])⟩ (.only [3] ⟨(some 17), none, .call n_bits_Of [(.slot 16)]⟩ (.only [3, 4, 1, 0, 2, 5] ⟨none, none, .store 3 (.slot 5) (.slot 15)⟩ (.take 7 ⟨(some 6), none, .mov (.slot 17)⟩ (.done))))))))) [5, 6] [2, 4] []
def F_witness_Part_r4 : SCode := .region [
    ⟨(some 18), none, .faddrA 1 2⟩,
    ⟨(some 19), none, .loadA false 1 18⟩,
    ⟨(some 20), none, .len .sl (.slot 19)⟩,
    ⟨(some 21), none, .mov (.lit (.int .i64 (0)))⟩] [5, 6, 19, 20, 21] [2, 4] []
def F_witness_Part_r5 : SCode := .region [
    ⟨(some 22), none, .bin .lss .no (.slot 21) (.slot 20)⟩] [5, 6, 19, 20, 21, 22] [2, 4] []
def F_witness_Part_r6 : SCode := .region [
    ⟨(some 23), none, .mov (.slot 21)⟩,
    ⟨(some 24), none, .iaddr 1 (.slot 19) (.slot 21)⟩,
    ⟨(some 25), none, .load false 1 (.slot 24)⟩,
    ⟨(some 7), none, .mov (.slot 23)⟩,
    ⟨(some 8), none, .mov (.slot 25)⟩] [5, 6, 7, 8, 19, 20, 21] [2, 4] []
def F_witness_Part_r7 : SCode := .region [
    ⟨(some 26), none, .mov (.slot 6)⟩,
    ⟨(some 27), none, .mov (.slot 8)⟩,
    ⟨(some 28), none, .call n_bits_Set_Has [(.slot 26), (.slot 27)]⟩] [5, 6, 7, 8, 19, 20, 21, 28] [2, 4] []
def F_witness_Part_r8 : SCode := .region [
    ⟨(some 29), none, .faddr 1 (.slot 5)⟩,
    ⟨(some 30), none, .load false 1 (.slot 29)⟩,
    ⟨(some 31), none, .mov (.slot 8)⟩,
    ⟨(some 32), none, .buildSlice 1 (.int .i64 (0)) 1 [(0, (.slot 31))]⟩,
    ⟨(some 33), none, .append 1 8 (.slot 30) (.slot 32)⟩,
    ⟨(some 34), none, .faddr 1 (.slot 5)⟩,
    ⟨none, none, .store 1 (.slot 34) (.slot 33)⟩] [5, 6, 7, 19, 20, 21] [2, 4] []
def F_witness_Part_d9 : SCode := .draw (.take 0 ⟨(some 35), none, .faddr 2 (.slot 5)⟩ (.take 1 ⟨(some 36), none, .load false 1 (.slot 35)⟩ (.take 2 ⟨(some 37), none, .faddrA 2 2⟩ (.take 3 ⟨(some 38), none, .loadA false 1 37⟩ (.take 4 ⟨(some 39), none, .mov (.slot 7)⟩ (.take 5 ⟨(some 40), none, .iaddr 2 (.slot 38) (.slot 39)⟩ (.take 6 ⟨(some 41), none, .load true 2 (.slot 40)⟩ (.only [5, 4, 2, 3, 6] ⟨(some 42), none, .call n_witness_clone [(.slot 41)]⟩ (.only [6, 3, 2, 4, 5, 7] ⟨(some 43), none, .buildSlice 2 (.agg [.bool false, .nilsl]) 1 [(0, (.slot 42))]⟩ (.only [7, 5, 4, 2, 3, 6, 8, 0, 1] ⟨(some 44), none, .append 2 32 (.slot 36) (.slot 43)⟩ (.take 10 ⟨(some 45), none, .faddr 2 (.slot 5)⟩ (.only [0, 1, 2, 3, 4, 5, 6, 7, 8, 9, 10] ⟨none, none, .store 1 (.slot 45) (.slot 44)⟩ (.done))))))))))))) [5, 6, 19, 20, 21] [2, 4] []
def F_witness_Part_r10 : SCode := .region [
    ⟨(some 46), none, .bin .add .no (.slot 21) (.lit (.int .i64 (1)))⟩,
    ⟨(some 21), none, .mov (.slot 46)⟩] [5, 6, 19, 20, 21] [2, 4] []
def F_witness_Part_l11 : SCode := (.seq F_witness_Part_r5 (.seq (.cond (.slot 22) .skip (.exit 0)) (.seq (.block 1 (.seq F_witness_Part_r6 (.seq F_witness_Part_r7 (.cond (.slot 28) (.seq F_witness_Part_r8 F_witness_Part_d9) .skip)))) F_witness_Part_r10)))
def F_witness_Part_r12 : SCode := .region [
    ⟨(some 47), none, .load true 3 (.slot 5)⟩,
    ⟨none, none, .storeA 3 4 (.slot 47)⟩] [] [4] []
def F_witness_Part : SFun := ⟨2, (.seq F_witness_Part_r0 (.seq (.seq F_witness_Part_r1 (.cond (.slot 11) (.seq F_witness_Part_r2 .ret) .skip)) (.seq F_witness_Part_d3 (.seq (.seq F_witness_Part_r4 (.block 0 (.loop F_witness_Part_l11))) (.seq F_witness_Part_r12 .ret))))), [.cellA true 3 4], false⟩
def h_witness_Part : Hints := { boxes := [2, 4], addrs := [13, 18, 37], post := [(11, [], [4], []), (10, [5, 6, 19, 20, 21], [2, 4], []), (9, [5, 6, 19, 20, 21], [2, 4], []), (8, [5, 6, 7, 19, 20, 21], [2, 4], []), (7, [5, 6, 7, 8, 19, 20, 21, 28], [2, 4], []), (6, [5, 6, 7, 8, 19, 20, 21], [2, 4], []), (5, [5, 6, 19, 20, 21, 22], [2, 4], []), (4, [5, 6, 19, 20, 21], [2, 4], []), (3, [5, 6], [2, 4], []), (2, [], [4], []), (1, [1, 11], [2, 4], []), (0, [1], [2, 4], [])], order := [(3, [0, 1, 2, 3, 4, 5, 6, 7]), (9, [0, 1, 2, 3, 4, 5, 6, 7, 8, 9, 10, 11])], keep := false }
theorem ok_witness_Part : cFunc Tryd.prog h_witness_Part n_witness_Part = some F_witness_Part := by kernel_rfl
/- logjam/graph.Check -/
def F_graph_Check_r0 : SCode := .region [
    ⟨(some 2), none, .mov (.lit (.int .i64 (0)))⟩] [0] [] []
def F_graph_Check_r1 : SCode := .region [
    ⟨(some 3), none, .mov (.slot 0)⟩,
    ⟨(some 4), none, .len .sl (.slot 3)⟩,
    ⟨(some 5), none, .bin .gtr .no (.slot 4) (.lit (.int .i64 (64)))⟩] [5] [] []
def F_graph_Check_r2 : SCode := .region [
    ⟨(some 2), none, .mov (.lit (.int .i64 (4)))⟩] [2] [] []
def F_graph_Check_r3 : SCode := .region [
    ⟨(some 2), none, .mov (.lit (.int .i64 (0)))⟩] [2] [] []
def F_graph_Check : SFun := ⟨1, (.seq F_graph_Check_r0 (.seq (.seq F_graph_Check_r1 (.cond (.slot 5) (.seq F_graph_Check_r2 .ret) .skip)) (.seq F_graph_Check_r3 .ret))), [.slot 2], false⟩
def h_graph_Check : Hints := { boxes := [], addrs := [], post := [(3, [2], [], []), (2, [2], [], []), (1, [5], [], []), (0, [0], [], [])], order := [], keep := false }
theorem ok_graph_Check : cFunc Tryd.prog h_graph_Check n_graph_Check = some F_graph_Check := by kernel_rfl
/- logjam/graph.order -/
def F_graph_order_r0 : SCode := .region [
    ⟨(some 2), none, .mov (.lit (.nilsl))⟩,
    ⟨(some 3), none, .mov (.lit (.int .u64 (0)))⟩] [0] [] []
def F_graph_order_r1 : SCode := .region [
    ⟨(some 4), none, .mov (.lit (.int .u64 (0)))⟩,
    ⟨(some 5), none, .mov (.lit (.nilsl))⟩,
    ⟨(some 6), none, .mov (.lit (.int .u64 (0)))⟩] [0, 4, 5, 6] [] []
def F_graph_order_r2 : SCode := .region [
    ⟨(some 15), none, .mov (.slot 0)⟩,
    ⟨(some 16), none, .call n_graph_asks [(.slot 15)]⟩,
    ⟨(some 7), none, .allocA [.int .u64 (0), .int .u64 (0), .int .u64 (0), .int .u64 (0), .int .u64 (0), .int .u64 (0), .int .u64 (0), .int .u64 (0), .int .u64 (0), .int .u64 (0), .int .u64 (0), .int .u64 (0), .int .u64 (0), .int .u64 (0), .int .u64 (0), .int .u64 (0), .int .u64 (0), .int .u64 (0), .int .u64 (0), .int .u64 (0), .int .u64 (0), .int .u64 (0), .int .u64 (0), .int .u64 (0), .int .u64 (0), .int .u64 (0), .int .u64 (0), .int .u64 (0), .int .u64 (0), .int .u64 (0), .int .u64 (0), .int .u64 (0), .int .u64 (0), .int .u64 (0), .int .u64 (0), .int .u64 (0), .int .u64 (0), .int .u64 (0), .int .u64 (0), .int .u64 (0), .int .u64 (0), .int .u64 (0), .int .u64 (0), .int .u64 (0), .int .u64 (0), .int .u64 (0), .int .u64 (0), .int .u64 (0), .int .u64 (0), .int .u64 (0), .int .u64 (0), .int .u64 (0), .int .u64 (0), .int .u64 (0), .int .u64 (0), .int .u64 (0), .int .u64 (0), .int .u64 (0), .int .u64 (0), .int .u64 (0), .int .u64 (0), .int .u64 (0), .int .u64 (0), .int .u64 (0)]⟩,
    ⟨none, none, .storeA 64 7 (.slot 16)⟩] [0, 4, 5, 6] [7] []
def F_graph_order_r3 : SCode := .region [
    ⟨(some 17), none, .mov (.slot 0)⟩,
    ⟨(some 18), none, .len .sl (.slot 17)⟩,
    ⟨(some 19), none, .mov (.lit (.int .i64 (0)))⟩] [0, 4, 5, 6, 17, 18, 19] [7] []
def F_graph_order_r4 : SCode := .region [
    ⟨(some 20), none, .bin .lss .no (.slot 19) (.slot 18)⟩] [0, 4, 5, 6, 17, 18, 19, 20] [7] []
def F_graph_order_r5 : SCode := .region [
    ⟨(some 21), none, .mov (.slot 19)⟩,
    ⟨(some 22), none, .iaddr 2 (.slot 17) (.slot 19)⟩,
    ⟨(some 23), none, .load true 2 (.slot 22)⟩,
    ⟨(some 9), none, .allocA [.bool false, .nilsl]⟩,
    ⟨(some 8), none, .mov (.slot 21)⟩,
    ⟨none, none, .storeA 2 9 (.slot 23)⟩] [0, 4, 5, 6, 8, 17, 18, 19] [7, 9] []
def F_graph_order_r6 : SCode := .region [
    ⟨(some 24), none, .faddrA 0 9⟩,
    ⟨(some 25), none, .loadA false 1 24⟩,
    ⟨(some 26), none, .un .not (.slot 25)⟩] [0, 4, 5, 6, 8, 17, 18, 19, 26] [7] []
def F_graph_order_r7 : SCode := .region [
    ⟨(some 27), none, .mov (.slot 4)⟩,
    ⟨(some 28), none, .mov (.slot 8)⟩,
    ⟨(some 29), none, .call n_bits_Set_With [(.slot 27), (.slot 28)]⟩,
    ⟨(some 4), none, .mov (.slot 29)⟩] [0, 4, 5, 6, 8, 17, 18, 19] [7] []
def F_graph_order_r8 : SCode := .region [
    ⟨(some 30), none, .mov (.slot 5)⟩,
    ⟨(some 31), none, .mov (.slot 8)⟩,
    ⟨(some 32), none, .buildSlice 1 (.int .i64 (0)) 1 [(0, (.slot 31))]⟩,
    ⟨(some 33), none, .append 1 8 (.slot 30) (.slot 32)⟩,
    ⟨(some 5), none, .mov (.slot 33)⟩] [0, 4, 5, 6, 17, 18, 19] [7] []
def F_graph_order_r9 : SCode := .region [
    ⟨(some 34), none, .bin .add .no (.slot 19) (.lit (.int .i64 (1)))⟩,
    ⟨(some 19), none, .mov (.slot 34)⟩] [0, 4, 5, 6, 17, 18, 19] [7] []
def F_graph_order_l10 : SCode := (.seq F_graph_order_r4 (.seq (.cond (.slot 20) .skip (.exit 0)) (.seq (.block 1 (.seq F_graph_order_r5 (.seq F_graph_order_r6 (.cond (.slot 26) (.seq F_graph_order_r7 F_graph_order_r8) .skip)))) F_graph_order_r9)))
def F_graph_order_r11 : SCode := .region [
    ⟨(some 35), none, .mov (.slot 0)⟩,
    ⟨(some 36), none, .len .sl (.slot 35)⟩,
    ⟨(some 37), none, .mov (.lit (.int .i64 (0)))⟩] [0, 4, 5, 6, 35, 36, 37] [7] []
def F_graph_order_r12 : SCode := .region [
    ⟨(some 38), none, .bin .lss .no (.slot 37) (.slot 36)⟩] [0, 4, 5, 6, 35, 36, 37, 38] [7] []
def F_graph_order_r13 : SCode := .region [
    ⟨(some 39), none, .mov (.slot 37)⟩,
    ⟨(some 40), none, .iaddr 2 (.slot 35) (.slot 37)⟩,
    ⟨(some 41), none, .load true 2 (.slot 40)⟩,
    ⟨(some 11), none, .allocA [.bool false, .nilsl]⟩,
    ⟨(some 10), none, .mov (.slot 39)⟩,
    ⟨none, none, .storeA 2 11 (.slot 41)⟩] [0, 4, 5, 6, 10, 35, 36, 37] [7, 11] []
def F_graph_order_r14 : SCode := .region [
    ⟨(some 42), none, .faddrA 0 11⟩,
    ⟨(some 43), none, .loadA false 1 42⟩,
    ⟨(some 44), none, .mov (.slot 43)⟩,
    ⟨(some 45), some (44, true), .loadA true 2 11⟩,
    ⟨(some 46), some (44, true), .mov (.slot 4)⟩,
    ⟨(some 47), some (44, true), .call n_graph_met [(.slot 45), (.slot 46)]⟩,
    ⟨(some 48), none, .pick (.slot 44) (.slot 47) (.lit (.bool false))⟩] [0, 4, 5, 6, 10, 35, 36, 37, 48] [7] []
def F_graph_order_r15 : SCode := .region [
    ⟨(some 49), none, .mov (.slot 6)⟩,
    ⟨(some 50), none, .mov (.slot 10)⟩,
    ⟨(some 51), none, .call n_bits_Set_With [(.slot 49), (.slot 50)]⟩,
    ⟨(some 6), none, .mov (.slot 51)⟩] [0, 4, 5, 6, 35, 36, 37] [7] []
def F_graph_order_r16 : SCode := .region [
    ⟨(some 52), none, .bin .add .no (.slot 37) (.lit (.int .i64 (1)))⟩,
    ⟨(some 37), none, .mov (.slot 52)⟩] [0, 4, 5, 6, 35, 36, 37] [7] []
def F_graph_order_l17 : SCode := (.seq F_graph_order_r12 (.seq (.cond (.slot 38) .skip (.exit 2)) (.seq (.block 3 (.seq F_graph_order_r13 (.seq F_graph_order_r14 (.cond (.slot 48) F_graph_order_r15 .skip)))) F_graph_order_r16)))
def F_graph_order_r18 : SCode := .region [
    ⟨(some 53), none, .mov (.slot 6)⟩,
    ⟨(some 54), none, .bin .neq .int (.slot 53) (.lit (.int .u64 (0)))⟩] [0, 4, 5, 6, 54] [7] []
def F_graph_order_r19 : SCode := .region [
    ⟨(some 55), none, .mov (.slot 6)⟩,
    ⟨(some 56), none, .call n_bits_Set_First [(.slot 55)]⟩,
    ⟨(some 12), none, .mov (.slot 56)⟩] [0, 4, 5, 6, 12] [7] []
def F_graph_order_r20 : SCode := .region [
    ⟨(some 57), none, .mov (.slot 4)⟩,
    ⟨(some 58), none, .mov (.slot 12)⟩,
    ⟨(some 59), none, .call n_bits_Set_With [(.slot 57), (.slot 58)]⟩,
    ⟨(some 60), none, .mov (.slot 6)⟩,
    ⟨(some 61), none, .mov (.slot 12)⟩,
    ⟨(some 62), none, .call n_bits_Set_Without [(.slot 60), (.slot 61)]⟩,
    ⟨(some 4), none, .mov (.slot 59)⟩,
    ⟨(some 6), none, .mov (.slot 62)⟩] [0, 4, 5, 6, 12] [7] []
def F_graph_order_r21 : SCode := .region [
    ⟨(some 63), none, .mov (.slot 5)⟩,
    ⟨(some 64), none, .mov (.slot 12)⟩,
    ⟨(some 65), none, .buildSlice 1 (.int .i64 (0)) 1 [(0, (.slot 64))]⟩,
    ⟨(some 66), none, .append 1 8 (.slot 63) (.slot 65)⟩,
    ⟨(some 5), none, .mov (.slot 66)⟩] [0, 4, 5, 6, 12] [7] []
def F_graph_order_r22 : SCode := .region [
    ⟨(some 67), none, .mov (.slot 12)⟩,
    ⟨(some 68), none, .iaddrA 64 1 7 (.slot 67)⟩,
    ⟨(some 69), none, .loadA false 1 68⟩,
    ⟨(some 70), none, .mov (.slot 4)⟩,
    ⟨(some 71), none, .bin .andNot .no (.slot 69) (.slot 70)⟩,
    ⟨(some 72), none, .mov (.slot 6)⟩,
    ⟨(some 73), none, .bin .andNot .no (.slot 71) (.slot 72)⟩,
    ⟨(some 74), none, .call n_bits_Set_List [(.slot 73)]⟩,
    ⟨(some 75), none, .len .sl (.slot 74)⟩,
    ⟨(some 76), none, .mov (.lit (.int .i64 (0)))⟩] [0, 4, 5, 6, 74, 75, 76] [7] []
def F_graph_order_r23 : SCode := .region [
    ⟨(some 77), none, .bin .lss .no (.slot 76) (.slot 75)⟩] [0, 4, 5, 6, 74, 75, 76, 77] [7] []
def F_graph_order_r24 : SCode := .region [
    ⟨(some 78), none, .iaddr 1 (.slot 74) (.slot 76)⟩,
    ⟨(some 79), none, .load false 1 (.slot 78)⟩,
    ⟨(some 14), none, .mov (.slot 79)⟩] [0, 4, 5, 6, 14, 74, 75, 76] [7] []
def F_graph_order_r25 : SCode := .region [
    ⟨(some 80), none, .mov (.slot 0)⟩,
    ⟨(some 81), none, .mov (.slot 14)⟩,
    ⟨(some 82), none, .iaddr 2 (.slot 80) (.slot 81)⟩,
    ⟨(some 83), none, .load true 2 (.slot 82)⟩,
    ⟨(some 84), none, .mov (.slot 4)⟩,
    ⟨(some 85), none, .call n_graph_met [(.slot 83), (.slot 84)]⟩] [0, 4, 5, 6, 14, 74, 75, 76, 85] [7] []
def F_graph_order_r26 : SCode := .region [
    ⟨(some 86), none, .mov (.slot 6)⟩,
    ⟨(some 87), none, .mov (.slot 14)⟩,
    ⟨(some 88), none, .call n_bits_Set_With [(.slot 86), (.slot 87)]⟩,
    ⟨(some 6), none, .mov (.slot 88)⟩] [0, 4, 5, 6, 74, 75, 76] [7] []
def F_graph_order_r27 : SCode := .region [
    ⟨(some 89), none, .bin .add .no (.slot 76) (.lit (.int .i64 (1)))⟩,
    ⟨(some 76), none, .mov (.slot 89)⟩] [0, 4, 5, 6, 74, 75, 76] [7] []
def F_graph_order_l28 : SCode := (.seq F_graph_order_r23 (.seq (.cond (.slot 77) .skip (.exit 6)) (.seq (.block 7 (.seq F_graph_order_r24 (.seq F_graph_order_r25 (.cond (.slot 85) F_graph_order_r26 .skip)))) F_graph_order_r27)))
def F_graph_order_l29 : SCode := (.seq (.seq F_graph_order_r18 (.cond (.slot 54) .skip (.exit 4))) (.block 5 (.seq F_graph_order_r19 (.seq F_graph_order_r20 (.seq F_graph_order_r21 (.seq F_graph_order_r22 (.block 6 (.loop F_graph_order_l28))))))))
def F_graph_order_r30 : SCode := .region [
    ⟨(some 90), none, .mov (.slot 5)⟩,
    ⟨(some 91), none, .mov (.slot 4)⟩,
    ⟨(some 2), none, .mov (.slot 90)⟩,
    ⟨(some 3), none, .mov (.slot 91)⟩] [2, 3] [] []
def F_graph_order : SFun := ⟨1, (.seq F_graph_order_r0 (.seq F_graph_order_r1 (.seq F_graph_order_r2 (.seq (.seq F_graph_order_r3 (.block 0 (.loop F_graph_order_l10))) (.seq (.seq F_graph_order_r11 (.block 2 (.loop F_graph_order_l17))) (.seq (.block 4 (.loop F_graph_order_l29)) (.seq F_graph_order_r30 .ret))))))), [.slot 2, .slot 3], false⟩
def h_graph_order : Hints := { boxes := [7, 9, 11], addrs := [24, 42, 68], post := [(26, [2, 3], [], []), (25, [0, 4, 5, 6, 74, 75, 76], [7], []), (24, [0, 4, 5, 6, 74, 75, 76], [7], []), (23, [0, 4, 5, 6, 14, 74, 75, 76, 85], [7], []), (22, [0, 4, 5, 6, 14, 74, 75, 76], [7], []), (21, [0, 4, 5, 6, 74, 75, 76, 77], [7], []), (20, [0, 4, 5, 6, 74, 75, 76], [7], []), (19, [0, 4, 5, 6, 12], [7], []), (18, [0, 4, 5, 6, 12], [7], []), (17, [0, 4, 5, 6, 12], [7], []), (16, [0, 4, 5, 6, 54], [7], []), (15, [0, 4, 5, 6, 35, 36, 37], [7], []), (14, [0, 4, 5, 6, 35, 36, 37], [7], []), (13, [0, 4, 5, 6, 10, 35, 36, 37, 48], [7], []), (12, [0, 4, 5, 6, 10, 35, 36, 37], [7, 11], []), (11, [0, 4, 5, 6, 35, 36, 37, 38], [7], []), (10, [0, 4, 5, 6, 35, 36, 37], [7], []), (9, [0, 4, 5, 6, 17, 18, 19], [7], []), (8, [0, 4, 5, 6, 17, 18, 19], [7], []), (7, [0, 4, 5, 6, 8, 17, 18, 19], [7], []), (6, [0, 4, 5, 6, 8, 17, 18, 19, 26], [7], []), (5, [0, 4, 5, 6, 8, 17, 18, 19], [7, 9], []), (4, [0, 4, 5, 6, 17, 18, 19, 20], [7], []), (3, [0, 4, 5, 6, 17, 18, 19], [7], []), (2, [0, 4, 5, 6], [7], []), (1, [0, 4, 5, 6], [], []), (0, [0], [], [])], order := [], keep := false }
theorem ok_graph_order : cFunc Tryd.prog h_graph_order n_graph_order = some F_graph_order := by kernel_rfl
/- logjam/bits.All -/
def F_bits_All_r0 : SCode := .region [
    ⟨(some 2), none, .mov (.lit (.int .u64 (0)))⟩] [0] [] []
def F_bits_All_r1 : SCode := .region [
    ⟨(some 3), none, .mov (.slot 0)⟩,
    ⟨(some 4), none, .bin .leq .no (.slot 3) (.lit (.int .i64 (0)))⟩] [0, 4] [] []
def F_bits_All_r2 : SCode := .region [
    ⟨(some 2), none, .mov (.lit (.int .u64 (0)))⟩] [2] [] []
def F_bits_All_r3 : SCode := .region [
    ⟨(some 5), none, .mov (.slot 0)⟩,
    ⟨(some 6), none, .bin .gtr .no (.slot 5) (.lit (.int .i64 (63)))⟩] [0, 6] [] []
def F_bits_All_r4 : SCode := .region [
    ⟨(some 2), none, .mov (.lit (.int .u64 (18446744073709551615)))⟩] [2] [] []
def F_bits_All_r5 : SCode := .region [
    ⟨(some 7), none, .mov (.slot 0)⟩,
    ⟨(some 8), none, .bin .shl .no (.lit (.int .u64 (1))) (.slot 7)⟩,
    ⟨(some 9), none, .bin .sub .no (.slot 8) (.lit (.int .u64 (1)))⟩,
    ⟨(some 2), none, .mov (.slot 9)⟩] [2] [] []
def F_bits_All : SFun := ⟨1, (.seq F_bits_All_r0 (.seq (.seq F_bits_All_r1 (.cond (.slot 4) (.seq F_bits_All_r2 .ret) .skip)) (.seq (.seq F_bits_All_r3 (.cond (.slot 6) (.seq F_bits_All_r4 .ret) .skip)) (.seq F_bits_All_r5 .ret)))), [.slot 2], false⟩
def h_bits_All : Hints := { boxes := [], addrs := [], post := [(5, [2], [], []), (4, [2], [], []), (3, [0, 6], [], []), (2, [2], [], []), (1, [0, 4], [], []), (0, [0], [], [])], order := [], keep := false }
theorem ok_bits_All : cFunc Tryd.prog h_bits_All n_bits_All = some F_bits_All := by kernel_rfl
/- logjam/report.node -/
def F_report_node_r0 : SCode := .region [
    ⟨(some 1), none, .boxA 2 (.slot 0)⟩,
    ⟨(some 2), none, .mov (.lit (.int .i64 (0)))⟩] [] [1] []
def F_report_node_r1 : SCode := .region [
    ⟨(some 8), none, .faddrA 0 1⟩,
    ⟨(some 9), none, .loadA false 1 8⟩,
    ⟨(some 10), none, .un .not (.slot 9)⟩] [10] [1] []
def F_report_node_r2 : SCode := .region [
    ⟨(some 2), none, .mov (.lit (.int .i64 (2)))⟩] [2] [] []
def F_report_node_r3 : SCode := .region [
    ⟨(some 11), none, .faddrA 1 1⟩,
    ⟨(some 12), none, .loadA false 1 11⟩,
    ⟨(some 13), none, .len .sl (.slot 12)⟩,
    ⟨(some 14), none, .bin .gtr .no (.slot 13) (.lit (.int .i64 (4)))⟩] [14] [1] []
def F_report_node_r4 : SCode := .region [
    ⟨(some 2), none, .mov (.lit (.int .i64 (4)))⟩] [2] [] []
def F_report_node_r5 : SCode := .region [
    ⟨(some 15), none, .faddrA 1 1⟩,
    ⟨(some 16), none, .loadA false 1 15⟩,
    ⟨(some 17), none, .len .sl (.slot 16)⟩,
    ⟨(some 18), none, .mov (.lit (.int .i64 (0)))⟩] [16, 17, 18] [] []
def F_report_node_r6 : SCode := .region [
    ⟨(some 19), none, .bin .lss .no (.slot 18) (.slot 17)⟩] [16, 17, 18, 19] [] []
def F_report_node_r7 : SCode := .region [
    ⟨(some 20), none, .iaddr 1 (.slot 16) (.slot 18)⟩,
    ⟨(some 21), none, .load false 1 (.slot 20)⟩,
    ⟨(some 4), none, .mov (.slot 21)⟩] [4, 16, 17, 18] [] []
def F_report_node_r8 : SCode := .region [
    ⟨(some 22), none, .mov (.slot 4)⟩,
    ⟨(some 23), none, .len .sl (.slot 22)⟩,
    ⟨(some 24), none, .bin .gtr .no (.slot 23) (.lit (.int .i64 (256)))⟩] [4, 16, 17, 18, 24] [] []
def F_report_node_r9 : SCode := .region [
    ⟨(some 2), none, .mov (.lit (.int .i64 (4)))⟩] [2] [] []
def F_report_node_r10 : SCode := .region [
    ⟨(some 25), none, .mov (.slot 4)⟩,
    ⟨(some 26), none, .len .sl (.slot 25)⟩,
    ⟨(some 27), none, .mov (.lit (.int .i64 (0)))⟩] [16, 17, 18, 25, 26, 27] [] []
def F_report_node_r11 : SCode := .region [
    ⟨(some 28), none, .bin .lss .no (.slot 27) (.slot 26)⟩] [16, 17, 18, 25, 26, 27, 28] [] []
def F_report_node_r12 : SCode := .region [
    ⟨(some 29), none, .iaddr 2 (.slot 25) (.slot 27)⟩,
    ⟨(some 30), none, .load true 2 (.slot 29)⟩,
    ⟨(some 6), none, .allocA [.int .i64 (0), .nilsl]⟩,
    ⟨none, none, .storeA 2 6 (.slot 30)⟩] [16, 17, 18, 25, 26, 27] [6] []
def F_report_node_r13 : SCode := .region [
    ⟨(some 31), none, .loadA true 2 6⟩,
    ⟨(some 32), none, .call n_report_term [(.slot 31)]⟩,
    ⟨(some 7), none, .mov (.slot 32)⟩] [7, 16, 17, 18, 25, 26, 27] [] []
def F_report_node_r14 : SCode := .region [
    ⟨(some 33), none, .mov (.slot 7)⟩,
    ⟨(some 34), none, .bin .neq .int (.slot 33) (.lit (.int .i64 (0)))⟩] [7, 16, 17, 18, 25, 26, 27, 34] [] []
def F_report_node_r15 : SCode := .region [
    ⟨(some 35), none, .mov (.slot 7)⟩,
    ⟨(some 2), none, .mov (.slot 35)⟩] [2] [] []
def F_report_node_r16 : SCode := .region [
    ⟨(some 36), none, .bin .add .no (.slot 27) (.lit (.int .i64 (1)))⟩,
    ⟨(some 27), none, .mov (.slot 36)⟩] [16, 17, 18, 25, 26, 27] [] []
def F_report_node_l17 : SCode := (.seq F_report_node_r11 (.seq (.cond (.slot 28) .skip (.exit 2)) (.seq (.block 3 (.seq F_report_node_r12 (.seq F_report_node_r13 (.seq F_report_node_r14 (.cond (.slot 34) (.seq F_report_node_r15 .ret) .skip))))) F_report_node_r16)))
def F_report_node_r18 : SCode := .region [
    ⟨(some 37), none, .bin .add .no (.slot 18) (.lit (.int .i64 (1)))⟩,
    ⟨(some 18), none, .mov (.slot 37)⟩] [16, 17, 18] [] []
def F_report_node_l19 : SCode := (.seq F_report_node_r6 (.seq (.cond (.slot 19) .skip (.exit 0)) (.seq (.block 1 (.seq F_report_node_r7 (.seq (.seq F_report_node_r8 (.cond (.slot 24) (.seq F_report_node_r9 .ret) .skip)) (.seq F_report_node_r10 (.block 2 (.loop F_report_node_l17)))))) F_report_node_r18)))
def F_report_node_r20 : SCode := .region [
    ⟨(some 2), none, .mov (.lit (.int .i64 (0)))⟩] [2] [] []
def F_report_node : SFun := ⟨1, (.seq F_report_node_r0 (.seq (.seq F_report_node_r1 (.cond (.slot 10) (.seq F_report_node_r2 .ret) .skip)) (.seq (.seq F_report_node_r3 (.cond (.slot 14) (.seq F_report_node_r4 .ret) .skip)) (.seq (.seq F_report_node_r5 (.block 0 (.loop F_report_node_l19))) (.seq F_report_node_r20 .ret))))), [.slot 2], false⟩
def h_report_node : Hints := { boxes := [1, 6], addrs := [8, 11, 15], post := [(18, [2], [], []), (17, [16, 17, 18], [], []), (16, [16, 17, 18, 25, 26, 27], [], []), (15, [2], [], []), (14, [7, 16, 17, 18, 25, 26, 27, 34], [], []), (13, [7, 16, 17, 18, 25, 26, 27], [], []), (12, [16, 17, 18, 25, 26, 27], [6], []), (11, [16, 17, 18, 25, 26, 27, 28], [], []), (10, [16, 17, 18, 25, 26, 27], [], []), (9, [2], [], []), (8, [4, 16, 17, 18, 24], [], []), (7, [4, 16, 17, 18], [], []), (6, [16, 17, 18, 19], [], []), (5, [16, 17, 18], [], []), (4, [2], [], []), (3, [14], [1], []), (2, [2], [], []), (1, [10], [1], []), (0, [], [1], [])], order := [], keep := false }
theorem ok_report_node : cFunc Tryd.prog h_report_node n_report_node = some F_report_node := by kernel_rfl
/- logjam/bits.one -/
def F_bits_one_r0 : SCode := .region [
    ⟨(some 2), none, .mov (.lit (.int .u64 (0)))⟩] [0] [] []
def F_bits_one_r1 : SCode := .region [
    ⟨(some 3), none, .mov (.slot 0)⟩,
    ⟨(some 4), none, .bin .lss .no (.slot 3) (.lit (.int .i64 (0)))⟩,
    ⟨(some 5), none, .mov (.slot 4)⟩,
    ⟨(some 6), some (5, false), .mov (.slot 0)⟩,
    ⟨(some 7), some (5, false), .bin .gtr .no (.slot 6) (.lit (.int .i64 (63)))⟩,
    ⟨(some 8), none, .pick (.slot 5) (.lit (.bool true)) (.slot 7)⟩] [0, 8] [] []
def F_bits_one_r2 : SCode := .region [
    ⟨(some 2), none, .mov (.lit (.int .u64 (0)))⟩] [2] [] []
def F_bits_one_r3 : SCode := .region [
    ⟨(some 9), none, .mov (.slot 0)⟩,
    ⟨(some 10), none, .bin .shl .no (.lit (.int .u64 (1))) (.slot 9)⟩,
    ⟨(some 2), none, .mov (.slot 10)⟩] [2] [] []
def F_bits_one : SFun := ⟨1, (.seq F_bits_one_r0 (.seq (.seq F_bits_one_r1 (.cond (.slot 8) (.seq F_bits_one_r2 .ret) .skip)) (.seq F_bits_one_r3 .ret))), [.slot 2], false⟩
def h_bits_one : Hints := { boxes := [], addrs := [], post := [(3, [2], [], []), (2, [2], [], []), (1, [0, 8], [], []), (0, [0], [], [])], order := [], keep := false }
theorem ok_bits_one : cFunc Tryd.prog h_bits_one n_bits_one = some F_bits_one := by kernel_rfl
/- slices.IndexFunc[[]logjam/api.Term,logjam/api.Term] -/
def F_slices_IndexFunc_Lapi_Term_api_Term_r0 : SCode := .region [
    ⟨(some 4), none, .mov (.lit (.int .i64 (0)))⟩] [0, 1] [] []
def F_slices_IndexFunc_Lapi_Term_api_Term_r1 : SCode := .region [
    ⟨(some 6), none, .mov (.slot 0)⟩,
    ⟨(some 7), none, .len .sl (.slot 6)⟩,
    ⟨(some 8), none, .mov (.lit (.int .i64 (0)))⟩] [0, 1, 7, 8] [] []
def F_slices_IndexFunc_Lapi_Term_api_Term_r2 : SCode := .region [
    ⟨(some 9), none, .bin .lss .no (.slot 8) (.slot 7)⟩] [0, 1, 7, 8, 9] [] []
def F_slices_IndexFunc_Lapi_Term_api_Term_r3 : SCode := .region [
    ⟨(some 10), none, .mov (.slot 8)⟩,
    ⟨(some 5), none, .mov (.slot 10)⟩] [0, 1, 5, 7, 8] [] []
def F_slices_IndexFunc_Lapi_Term_api_Term_r4 : SCode := .region [
    ⟨(some 11), none, .mov (.slot 1)⟩,
    ⟨(some 12), none, .mov (.slot 0)⟩,
    ⟨(some 13), none, .mov (.slot 5)⟩,
    ⟨(some 14), none, .iaddr 2 (.slot 12) (.slot 13)⟩,
    ⟨(some 15), none, .load true 2 (.slot 14)⟩,
    ⟨(some 16), none, .callv (.slot 11) [(.slot 15)]⟩] [0, 1, 5, 7, 8, 16] [] []
def F_slices_IndexFunc_Lapi_Term_api_Term_r5 : SCode := .region [
    ⟨(some 17), none, .mov (.slot 5)⟩,
    ⟨(some 4), none, .mov (.slot 17)⟩] [4] [] []
def F_slices_IndexFunc_Lapi_Term_api_Term_r6 : SCode := .region [
    ⟨(some 18), none, .bin .add .no (.slot 8) (.lit (.int .i64 (1)))⟩,
    ⟨(some 8), none, .mov (.slot 18)⟩] [0, 1, 7, 8] [] []
def F_slices_IndexFunc_Lapi_Term_api_Term_l7 : SCode := (.seq F_slices_IndexFunc_Lapi_Term_api_Term_r2 (.seq (.cond (.slot 9) .skip (.exit 0)) (.seq (.block 1 (.seq F_slices_IndexFunc_Lapi_Term_api_Term_r3 (.seq F_slices_IndexFunc_Lapi_Term_api_Term_r4 (.cond (.slot 16) (.seq F_slices_IndexFunc_Lapi_Term_api_Term_r5 .ret) .skip)))) F_slices_IndexFunc_Lapi_Term_api_Term_r6)))
def F_slices_IndexFunc_Lapi_Term_api_Term_r8 : SCode := .region [
    ⟨(some 4), none, .mov (.lit (.int .i64 (-1)))⟩] [4] [] []
def F_slices_IndexFunc_Lapi_Term_api_Term : SFun := ⟨2, (.seq F_slices_IndexFunc_Lapi_Term_api_Term_r0 (.seq (.seq F_slices_IndexFunc_Lapi_Term_api_Term_r1 (.block 0 (.loop F_slices_IndexFunc_Lapi_Term_api_Term_l7))) (.seq F_slices_IndexFunc_Lapi_Term_api_Term_r8 .ret))), [.slot 4], false⟩
def h_slices_IndexFunc_Lapi_Term_api_Term : Hints := { boxes := [], addrs := [], post := [(7, [4], [], []), (6, [0, 1, 7, 8], [], []), (5, [4], [], []), (4, [0, 1, 5, 7, 8, 16], [], []), (3, [0, 1, 5, 7, 8], [], []), (2, [0, 1, 7, 8, 9], [], []), (1, [0, 1, 7, 8], [], []), (0, [0, 1], [], [])], order := [], keep := false }
theorem ok_slices_IndexFunc_Lapi_Term_api_Term : cFunc Tryd.prog h_slices_IndexFunc_Lapi_Term_api_Term n_slices_IndexFunc_Lapi_Term_api_Term = some F_slices_IndexFunc_Lapi_Term_api_Term := by kernel_rfl
/- logjam/witness.lacks$1 -/
def F_witness_lacks_1_r0 : SCode := .region [
    ⟨(some 2), none, .boxA 2 (.slot 0)⟩,
    ⟨(some 3), none, .mov (.lit (.bool false))⟩] [1] [2] []
def F_witness_lacks_1_d1 : SCode := .draw (.take 0 ⟨(some 4), none, .loadA true 2 2⟩ (.take 1 ⟨(some 5), none, .load false 1 (.slot 1)⟩ (.take 3 ⟨(some 7), none, .faddrA 0 2⟩ (.take 4 ⟨(some 8), none, .loadA false 1 7⟩ (.only [1, 0] ⟨(some 6), none, .call n_witness_comes [(.slot 4), (.slot 5)]⟩ (.take 5 ⟨(some 9), none, .bin .lss .no (.slot 6) (.slot 8)⟩ (.take 6 ⟨(some 3), none, .mov (.slot 9)⟩ (.done)))))))) [3] [] []
def F_witness_lacks_1 : SFun := ⟨2, (.seq F_witness_lacks_1_r0 (.seq F_witness_lacks_1_d1 .ret)), [.slot 3], false⟩
def h_witness_lacks_1 : Hints := { boxes := [2], addrs := [7], post := [(1, [3], [], []), (0, [1], [2], [])], order := [(1, [0, 1, 3, 4, 2, 5, 6])], keep := false }
theorem ok_witness_lacks_1 : cFunc Tryd.prog h_witness_lacks_1 n_witness_lacks_1 = some F_witness_lacks_1 := by kernel_rfl
/- logjam/witness.comes -/
def F_witness_comes_r0 : SCode := .region [
    ⟨(some 2), none, .boxA 2 (.slot 0)⟩,
    ⟨(some 4), none, .mov (.lit (.int .i64 (0)))⟩] [1] [2] []
def F_witness_comes_r1 : SCode := .region [
    ⟨(some 5), none, .mov (.lit (.int .i64 (0)))⟩] [1, 5] [2] []
def F_witness_comes_r2 : SCode := .region [
    ⟨(some 8), none, .faddrA 1 2⟩,
    ⟨(some 9), none, .loadA false 1 8⟩,
    ⟨(some 10), none, .len .sl (.slot 9)⟩,
    ⟨(some 11), none, .mov (.lit (.int .i64 (0)))⟩] [1, 5, 9, 10, 11] [] []
def F_witness_comes_r3 : SCode := .region [
    ⟨(some 12), none, .bin .lss .no (.slot 11) (.slot 10)⟩] [1, 5, 9, 10, 11, 12] [] []
def F_witness_comes_r4 : SCode := .region [
    ⟨(some 13), none, .iaddr 2 (.slot 9) (.slot 11)⟩,
    ⟨(some 14), none, .load true 2 (.slot 13)⟩,
    ⟨(some 7), none, .allocA [.int .i64 (0), .int .i64 (0)]⟩,
    ⟨none, none, .storeA 2 7 (.slot 14)⟩] [1, 5, 9, 10, 11] [7] []
def F_witness_comes_r5 : SCode := .region [
    ⟨(some 15), none, .mov (.slot 1)⟩,
    ⟨(some 16), none, .faddrA 0 7⟩,
    ⟨(some 17), none, .loadA false 1 16⟩,
    ⟨(some 18), none, .call n_bits_Set_Has [(.slot 15), (.slot 17)]⟩,
    ⟨(some 19), none, .un .not (.slot 18)⟩] [1, 5, 9, 10, 11, 19] [7] []
def F_witness_comes_r6 : SCode := .region [
    ⟨(some 20), none, .mov (.slot 5)⟩,
    ⟨(some 21), none, .faddrA 1 7⟩,
    ⟨(some 22), none, .loadA false 1 21⟩,
    ⟨(some 23), none, .bin .add .no (.slot 20) (.slot 22)⟩,
    ⟨(some 5), none, .mov (.slot 23)⟩] [1, 5, 9, 10, 11] [] []
def F_witness_comes_r7 : SCode := .region [
    ⟨(some 24), none, .bin .add .no (.slot 11) (.lit (.int .i64 (1)))⟩,
    ⟨(some 11), none, .mov (.slot 24)⟩] [1, 5, 9, 10, 11] [] []
def F_witness_comes_l8 : SCode := (.seq F_witness_comes_r3 (.seq (.cond (.slot 12) .skip (.exit 0)) (.seq (.block 1 (.seq F_witness_comes_r4 (.seq F_witness_comes_r5 (.cond (.slot 19) F_witness_comes_r6 .skip)))) F_witness_comes_r7)))
def F_witness_comes_r9 : SCode := .region [
    ⟨(some 25), none, .mov (.slot 5)⟩,
    ⟨(some 4), none, .mov (.slot 25)⟩] [4] [] []
def F_witness_comes : SFun := ⟨2, (.seq F_witness_comes_r0 (.seq F_witness_comes_r1 (.seq (.seq F_witness_comes_r2 (.block 0 (.loop F_witness_comes_l8))) (.seq F_witness_comes_r9 .ret)))), [.slot 4], false⟩
def h_witness_comes : Hints := { boxes := [2, 7], addrs := [8, 16, 21], post := [(8, [4], [], []), (7, [1, 5, 9, 10, 11], [], []), (6, [1, 5, 9, 10, 11], [], []), (5, [1, 5, 9, 10, 11, 19], [7], []), (4, [1, 5, 9, 10, 11], [7], []), (3, [1, 5, 9, 10, 11, 12], [], []), (2, [1, 5, 9, 10, 11], [], []), (1, [1, 5], [2], []), (0, [1], [2], [])], order := [], keep := false }
theorem ok_witness_comes : cFunc Tryd.prog h_witness_comes n_witness_comes = some F_witness_comes := by kernel_rfl
/- logjam/witness.same$1 -/
def F_witness_same_1_r0 : SCode := .region [
    ⟨(some 2), none, .boxA 2 (.slot 0)⟩,
    ⟨(some 3), none, .boxA 2 (.slot 1)⟩,
    ⟨(some 4), none, .mov (.lit (.bool false))⟩] [] [2, 3] []
def F_witness_same_1_r1 : SCode := .region [
    ⟨(some 5), none, .faddrA 0 2⟩,
    ⟨(some 6), none, .loadA false 1 5⟩,
    ⟨(some 7), none, .faddrA 0 3⟩,
    ⟨(some 8), none, .loadA false 1 7⟩,
    ⟨(some 9), none, .bin .eql .int (.slot 6) (.slot 8)⟩,
    ⟨(some 10), none, .mov (.slot 9)⟩,
    ⟨(some 11), some (10, true), .faddrA 1 2⟩,
    ⟨(some 12), some (10, true), .loadA false 1 11⟩,
    ⟨(some 13), some (10, true), .faddrA 1 3⟩,
    ⟨(some 14), some (10, true), .loadA false 1 13⟩,
    ⟨(some 15), some (10, true), .call n_slices_Equal_Lapi_Share_api_Share [(.slot 12), (.slot 14)]⟩,
    ⟨(some 16), none, .pick (.slot 10) (.slot 15) (.lit (.bool false))⟩,
    ⟨(some 4), none, .mov (.slot 16)⟩] [4] [] []
def F_witness_same_1 : SFun := ⟨2, (.seq F_witness_same_1_r0 (.seq F_witness_same_1_r1 .ret)), [.slot 4], false⟩
def h_witness_same_1 : Hints := { boxes := [2, 3], addrs := [5, 7, 11, 13], post := [(1, [4], [], []), (0, [], [2, 3], [])], order := [], keep := false }
theorem ok_witness_same_1 : cFunc Tryd.prog h_witness_same_1 n_witness_same_1 = some F_witness_same_1 := by kernel_rfl
/- slices.Equal[[]logjam/api.Share,logjam/api.Share] -/
def F_slices_Equal_Lapi_Share_api_Share_r0 : SCode := .region [
    ⟨(some 4), none, .mov (.lit (.bool false))⟩] [0, 1] [] []
def F_slices_Equal_Lapi_Share_api_Share_r1 : SCode := .region [
    ⟨(some 6), none, .mov (.slot 0)⟩,
    ⟨(some 7), none, .len .sl (.slot 6)⟩,
    ⟨(some 8), none, .mov (.slot 1)⟩,
    ⟨(some 9), none, .len .sl (.slot 8)⟩,
    ⟨(some 10), none, .bin .neq .int (.slot 7) (.slot 9)⟩] [0, 1, 10] [] []
def F_slices_Equal_Lapi_Share_api_Share_r2 : SCode := .region [
    ⟨(some 4), none, .mov (.lit (.bool false))⟩] [4] [] []
def F_slices_Equal_Lapi_Share_api_Share_r3 : SCode := .region [
    ⟨(some 11), none, .mov (.slot 0)⟩,
    ⟨(some 12), none, .len .sl (.slot 11)⟩,
    ⟨(some 13), none, .mov (.lit (.int .i64 (0)))⟩] [0, 1, 12, 13] [] []
def F_slices_Equal_Lapi_Share_api_Share_r4 : SCode := .region [
    ⟨(some 14), none, .bin .lss .no (.slot 13) (.slot 12)⟩] [0, 1, 12, 13, 14] [] []
def F_slices_Equal_Lapi_Share_api_Share_r5 : SCode := .region [
    ⟨(some 15), none, .mov (.slot 13)⟩,
    ⟨(some 5), none, .mov (.slot 15)⟩] [0, 1, 5, 12, 13] [] []
def F_slices_Equal_Lapi_Share_api_Share_d6 : SCode := .draw (.take 0 ⟨(some 16), none, .mov (.slot 0)⟩ (.take 1 ⟨(some 17), none, .mov (.slot 5)⟩ (.take 2 ⟨(some 18), none, .iaddr 2 (.slot 16) (.slot 17)⟩ (.take 3 ⟨(some 19), none, .load true 2 (.slot 18)⟩ (.take 4 ⟨(some 20), none, .mov (.slot 1)⟩ (.take 5 ⟨(some 21), none, .mov (.slot 5)⟩ (.take 6 ⟨(some 22), none, .iaddr 2 (.slot 20) (.slot 21)⟩ (.take 7 ⟨(some 23), none, .load true 2 (.slot 22)⟩ (.take 8 ⟨(some 24), none, .bin .neq (.struct [(0, .int), (1, .int)]) (.slot 19) (.slot 23)⟩ (.done)))))))))) [0, 1, 12, 13, 24] [] []
def F_slices_Equal_Lapi_Share_api_Share_r7 : SCode := .region [
    ⟨(some 4), none, .mov (.lit (.bool false))⟩] [4] [] []
def F_slices_Equal_Lapi_Share_api_Share_r8 : SCode := .region [
    ⟨(some 25), none, .bin .add .no (.slot 13) (.lit (.int .i64 (1)))⟩,
    ⟨(some 13), none, .mov (.slot 25)⟩] [0, 1, 12, 13] [] []
def F_slices_Equal_Lapi_Share_api_Share_l9 : SCode := (.seq F_slices_Equal_Lapi_Share_api_Share_r4 (.seq (.cond (.slot 14) .skip (.exit 0)) (.seq (.block 1 (.seq F_slices_Equal_Lapi_Share_api_Share_r5 (.seq F_slices_Equal_Lapi_Share_api_Share_d6 (.cond (.slot 24) (.seq F_slices_Equal_Lapi_Share_api_Share_r7 .ret) .skip)))) F_slices_Equal_Lapi_Share_api_Share_r8)))
def F_slices_Equal_Lapi_Share_api_Share_r10 : SCode := .region [
    ⟨(some 4), none, .mov (.lit (.bool true))⟩] [4] [] []
def F_slices_Equal_Lapi_Share_api_Share : SFun := ⟨2, (.seq F_slices_Equal_Lapi_Share_api_Share_r0 (.seq (.seq F_slices_Equal_Lapi_Share_api_Share_r1 (.cond (.slot 10) (.seq F_slices_Equal_Lapi_Share_api_Share_r2 .ret) .skip)) (.seq (.seq F_slices_Equal_Lapi_Share_api_Share_r3 (.block 0 (.loop F_slices_Equal_Lapi_Share_api_Share_l9))) (.seq F_slices_Equal_Lapi_Share_api_Share_r10 .ret)))), [.slot 4], false⟩
def h_slices_Equal_Lapi_Share_api_Share : Hints := { boxes := [], addrs := [], post := [(9, [4], [], []), (8, [0, 1, 12, 13], [], []), (7, [4], [], []), (6, [0, 1, 12, 13, 24], [], []), (5, [0, 1, 5, 12, 13], [], []), (4, [0, 1, 12, 13, 14], [], []), (3, [0, 1, 12, 13], [], []), (2, [4], [], []), (1, [0, 1, 10], [], []), (0, [0, 1], [], [])], order := [(6, [0, 1, 2, 3, 4, 5, 6, 7, 8])], keep := false }
theorem ok_slices_Equal_Lapi_Share_api_Share : cFunc Tryd.prog h_slices_Equal_Lapi_Share_api_Share n_slices_Equal_Lapi_Share_api_Share = some F_slices_Equal_Lapi_Share_api_Share := by kernel_rfl
/- logjam/witness.same$2 -/
def F_witness_same_2_r0 : SCode := .region [
    ⟨(some 5), none, .mov (.lit (.bool false))⟩] [0, 1, 2] [] []
def F_witness_same_2_r1 : SCode := .region [
    ⟨(some 6), none, .mov (.slot 0)⟩,
    ⟨(some 7), none, .mov (.slot 1)⟩,
    ⟨(some 8), none, .load false 1 (.slot 2)⟩,
    ⟨(some 9), none, .call n_slices_EqualFunc_Lapi_Term_Lapi_Term_api_Term_api_Term [(.slot 6), (.slot 7), (.slot 8)]⟩,
    ⟨(some 5), none, .mov (.slot 9)⟩] [5] [] []
def F_witness_same_2 : SFun := ⟨3, (.seq F_witness_same_2_r0 (.seq F_witness_same_2_r1 .ret)), [.slot 5], false⟩
def h_witness_same_2 : Hints := { boxes := [], addrs := [], post := [(1, [5], [], []), (0, [0, 1, 2], [], [])], order := [], keep := false }
theorem ok_witness_same_2 : cFunc Tryd.prog h_witness_same_2 n_witness_same_2 = some F_witness_same_2 := by kernel_rfl
/- slices.EqualFunc[[]logjam/api.Term,[]logjam/api.Term,logjam/api.Term,logjam/api.Term] -/
def F_slices_EqualFunc_Lapi_Term_Lapi_Term_api_Term_api_Term_r0 : SCode := .region [
    ⟨(some 6), none, .mov (.lit (.bool false))⟩] [0, 1, 2] [] []
def F_slices_EqualFunc_Lapi_Term_Lapi_Term_api_Term_api_Term_r1 : SCode := .region [
    ⟨(some 10), none, .mov (.slot 0)⟩,
    ⟨(some 11), none, .len .sl (.slot 10)⟩,
    ⟨(some 12), none, .mov (.slot 1)⟩,
    ⟨(some 13), none, .len .sl (.slot 12)⟩,
    ⟨(some 14), none, .bin .neq .int (.slot 11) (.slot 13)⟩] [0, 1, 2, 14] [] []
def F_slices_EqualFunc_Lapi_Term_Lapi_Term_api_Term_api_Term_r2 : SCode := .region [
    ⟨(some 6), none, .mov (.lit (.bool false))⟩] [6] [] []
def F_slices_EqualFunc_Lapi_Term_Lapi_Term_api_Term_api_Term_r3 : SCode := .region [
    ⟨(some 15), none, .mov (.slot 0)⟩,
    ⟨(some 16), none, .len .sl (.slot 15)⟩,
    ⟨(some 17), none, .mov (.lit (.int .i64 (0)))⟩] [1, 2, 15, 16, 17] [] []
def F_slices_EqualFunc_Lapi_Term_Lapi_Term_api_Term_api_Term_r4 : SCode := .region [
    ⟨(some 18), none, .bin .lss .no (.slot 17) (.slot 16)⟩] [1, 2, 15, 16, 17, 18] [] []
def F_slices_EqualFunc_Lapi_Term_Lapi_Term_api_Term_api_Term_r5 : SCode := .region [
    ⟨(some 19), none, .mov (.slot 17)⟩,
    ⟨(some 20), none, .iaddr 2 (.slot 15) (.slot 17)⟩,
    ⟨(some 21), none, .load true 2 (.slot 20)⟩,
    ⟨(some 8), none, .allocA [.int .i64 (0), .nilsl]⟩,
    ⟨(some 7), none, .mov (.slot 19)⟩,
    ⟨none, none, .storeA 2 8 (.slot 21)⟩] [1, 2, 7, 15, 16, 17] [8] []
def F_slices_EqualFunc_Lapi_Term_Lapi_Term_api_Term_api_Term_r6 : SCode := .region [
    ⟨(some 22), none, .mov (.slot 1)⟩,
    ⟨(some 23), none, .mov (.slot 7)⟩,
    ⟨(some 24), none, .iaddr 2 (.slot 22) (.slot 23)⟩,
    ⟨(some 25), none, .load true 2 (.slot 24)⟩,
    ⟨(some 9), none, .allocA [.int .i64 (0), .nilsl]⟩,
    ⟨none, none, .storeA 2 9 (.slot 25)⟩] [1, 2, 15, 16, 17] [8, 9] []
def F_slices_EqualFunc_Lapi_Term_Lapi_Term_api_Term_api_Term_r7 : SCode := .region [
    ⟨(some 26), none, .mov (.slot 2)⟩,
    ⟨(some 27), none, .loadA true 2 8⟩,
    ⟨(some 28), none, .loadA true 2 9⟩,
    ⟨(some 29), none, .callv (.slot 26) [(.slot 27), (.slot 28)]⟩,
    ⟨(some 30), none, .un .not (.slot 29)⟩] [1, 2, 15, 16, 17, 30] [] []
def F_slices_EqualFunc_Lapi_Term_Lapi_Term_api_Term_api_Term_r8 : SCode := .region [
    ⟨(some 6), none, .mov (.lit (.bool false))⟩] [6] [] []
def F_slices_EqualFunc_Lapi_Term_Lapi_Term_api_Term_api_Term_r9 : SCode := .region [
    ⟨(some 31), none, .bin .add .no (.slot 17) (.lit (.int .i64 (1)))⟩,
    ⟨(some 17), none, .mov (.slot 31)⟩] [1, 2, 15, 16, 17] [] []
def F_slices_EqualFunc_Lapi_Term_Lapi_Term_api_Term_api_Term_l10 : SCode := (.seq F_slices_EqualFunc_Lapi_Term_Lapi_Term_api_Term_api_Term_r4 (.seq (.cond (.slot 18) .skip (.exit 0)) (.seq (.block 1 (.seq F_slices_EqualFunc_Lapi_Term_Lapi_Term_api_Term_api_Term_r5 (.seq F_slices_EqualFunc_Lapi_Term_Lapi_Term_api_Term_api_Term_r6 (.seq F_slices_EqualFunc_Lapi_Term_Lapi_Term_api_Term_api_Term_r7 (.cond (.slot 30) (.seq F_slices_EqualFunc_Lapi_Term_Lapi_Term_api_Term_api_Term_r8 .ret) .skip))))) F_slices_EqualFunc_Lapi_Term_Lapi_Term_api_Term_api_Term_r9)))
def F_slices_EqualFunc_Lapi_Term_Lapi_Term_api_Term_api_Term_r11 : SCode := .region [
    ⟨(some 6), none, .mov (.lit (.bool true))⟩] [6] [] []
def F_slices_EqualFunc_Lapi_Term_Lapi_Term_api_Term_api_Term : SFun := ⟨3, (.seq F_slices_EqualFunc_Lapi_Term_Lapi_Term_api_Term_api_Term_r0 (.seq (.seq F_slices_EqualFunc_Lapi_Term_Lapi_Term_api_Term_api_Term_r1 (.cond (.slot 14) (.seq F_slices_EqualFunc_Lapi_Term_Lapi_Term_api_Term_api_Term_r2 .ret) .skip)) (.seq (.seq F_slices_EqualFunc_Lapi_Term_Lapi_Term_api_Term_api_Term_r3 (.block 0 (.loop F_slices_EqualFunc_Lapi_Term_Lapi_Term_api_Term_api_Term_l10))) (.seq F_slices_EqualFunc_Lapi_Term_Lapi_Term_api_Term_api_Term_r11 .ret)))), [.slot 6], false⟩
def h_slices_EqualFunc_Lapi_Term_Lapi_Term_api_Term_api_Term : Hints := { boxes := [8, 9], addrs := [], post := [(10, [6], [], []), (9, [1, 2, 15, 16, 17], [], []), (8, [6], [], []), (7, [1, 2, 15, 16, 17, 30], [], []), (6, [1, 2, 15, 16, 17], [8, 9], []), (5, [1, 2, 7, 15, 16, 17], [8], []), (4, [1, 2, 15, 16, 17, 18], [], []), (3, [1, 2, 15, 16, 17], [], []), (2, [6], [], []), (1, [0, 1, 2, 14], [], []), (0, [0, 1, 2], [], [])], order := [], keep := false }
theorem ok_slices_EqualFunc_Lapi_Term_Lapi_Term_api_Term_api_Term : cFunc Tryd.prog h_slices_EqualFunc_Lapi_Term_Lapi_Term_api_Term_api_Term n_slices_EqualFunc_Lapi_Term_Lapi_Term_api_Term_api_Term = some F_slices_EqualFunc_Lapi_Term_Lapi_Term_api_Term_api_Term := by kernel_rfl
/- slices.EqualFunc[[][]logjam/api.Term,[][]logjam/api.Term,[]logjam/api.Term,[]logjam/api.Term] -/
def F_slices_EqualFunc_LLapi_Term_LLapi_Term_Lapi_Term_Lapi_Term_r0 : SCode := .region [
    ⟨(some 6), none, .mov (.lit (.bool false))⟩] [0, 1, 2] [] []
def F_slices_EqualFunc_LLapi_Term_LLapi_Term_Lapi_Term_Lapi_Term_r1 : SCode := .region [
    ⟨(some 10), none, .mov (.slot 0)⟩,
    ⟨(some 11), none, .len .sl (.slot 10)⟩,
    ⟨(some 12), none, .mov (.slot 1)⟩,
    ⟨(some 13), none, .len .sl (.slot 12)⟩,
    ⟨(some 14), none, .bin .neq .int (.slot 11) (.slot 13)⟩] [0, 1, 2, 14] [] []
def F_slices_EqualFunc_LLapi_Term_LLapi_Term_Lapi_Term_Lapi_Term_r2 : SCode := .region [
    ⟨(some 6), none, .mov (.lit (.bool false))⟩] [6] [] []
def F_slices_EqualFunc_LLapi_Term_LLapi_Term_Lapi_Term_Lapi_Term_r3 : SCode := .region [
    ⟨(some 15), none, .mov (.slot 0)⟩,
    ⟨(some 16), none, .len .sl (.slot 15)⟩,
    ⟨(some 17), none, .mov (.lit (.int .i64 (0)))⟩] [1, 2, 15, 16, 17] [] []
def F_slices_EqualFunc_LLapi_Term_LLapi_Term_Lapi_Term_Lapi_Term_r4 : SCode := .region [
    ⟨(some 18), none, .bin .lss .no (.slot 17) (.slot 16)⟩] [1, 2, 15, 16, 17, 18] [] []
def F_slices_EqualFunc_LLapi_Term_LLapi_Term_Lapi_Term_Lapi_Term_r5 : SCode := .region [
    ⟨(some 19), none, .mov (.slot 17)⟩,
    ⟨(some 20), none, .iaddr 1 (.slot 15) (.slot 17)⟩,
    ⟨(some 21), none, .load false 1 (.slot 20)⟩,
    ⟨(some 7), none, .mov (.slot 19)⟩,
    ⟨(some 8), none, .mov (.slot 21)⟩] [1, 2, 7, 8, 15, 16, 17] [] []
def F_slices_EqualFunc_LLapi_Term_LLapi_Term_Lapi_Term_Lapi_Term_r6 : SCode := .region [
    ⟨(some 22), none, .mov (.slot 1)⟩,
    ⟨(some 23), none, .mov (.slot 7)⟩,
    ⟨(some 24), none, .iaddr 1 (.slot 22) (.slot 23)⟩,
    ⟨(some 25), none, .load false 1 (.slot 24)⟩,
    ⟨(some 9), none, .mov (.slot 25)⟩] [1, 2, 8, 9, 15, 16, 17] [] []
def F_slices_EqualFunc_LLapi_Term_LLapi_Term_Lapi_Term_Lapi_Term_r7 : SCode := .region [
    ⟨(some 26), none, .mov (.slot 2)⟩,
    ⟨(some 27), none, .mov (.slot 8)⟩,
    ⟨(some 28), none, .mov (.slot 9)⟩,
    ⟨(some 29), none, .callv (.slot 26) [(.slot 27), (.slot 28)]⟩,
    ⟨(some 30), none, .un .not (.slot 29)⟩] [1, 2, 15, 16, 17, 30] [] []
def F_slices_EqualFunc_LLapi_Term_LLapi_Term_Lapi_Term_Lapi_Term_r8 : SCode := .region [
    ⟨(some 6), none, .mov (.lit (.bool false))⟩] [6] [] []
def F_slices_EqualFunc_LLapi_Term_LLapi_Term_Lapi_Term_Lapi_Term_r9 : SCode := .region [
    ⟨(some 31), none, .bin .add .no (.slot 17) (.lit (.int .i64 (1)))⟩,
    ⟨(some 17), none, .mov (.slot 31)⟩] [1, 2, 15, 16, 17] [] []
def F_slices_EqualFunc_LLapi_Term_LLapi_Term_Lapi_Term_Lapi_Term_l10 : SCode := (.seq F_slices_EqualFunc_LLapi_Term_LLapi_Term_Lapi_Term_Lapi_Term_r4 (.seq (.cond (.slot 18) .skip (.exit 0)) (.seq (.block 1 (.seq F_slices_EqualFunc_LLapi_Term_LLapi_Term_Lapi_Term_Lapi_Term_r5 (.seq F_slices_EqualFunc_LLapi_Term_LLapi_Term_Lapi_Term_Lapi_Term_r6 (.seq F_slices_EqualFunc_LLapi_Term_LLapi_Term_Lapi_Term_Lapi_Term_r7 (.cond (.slot 30) (.seq F_slices_EqualFunc_LLapi_Term_LLapi_Term_Lapi_Term_Lapi_Term_r8 .ret) .skip))))) F_slices_EqualFunc_LLapi_Term_LLapi_Term_Lapi_Term_Lapi_Term_r9)))
def F_slices_EqualFunc_LLapi_Term_LLapi_Term_Lapi_Term_Lapi_Term_r11 : SCode := .region [
    ⟨(some 6), none, .mov (.lit (.bool true))⟩] [6] [] []
def F_slices_EqualFunc_LLapi_Term_LLapi_Term_Lapi_Term_Lapi_Term : SFun := ⟨3, (.seq F_slices_EqualFunc_LLapi_Term_LLapi_Term_Lapi_Term_Lapi_Term_r0 (.seq (.seq F_slices_EqualFunc_LLapi_Term_LLapi_Term_Lapi_Term_Lapi_Term_r1 (.cond (.slot 14) (.seq F_slices_EqualFunc_LLapi_Term_LLapi_Term_Lapi_Term_Lapi_Term_r2 .ret) .skip)) (.seq (.seq F_slices_EqualFunc_LLapi_Term_LLapi_Term_Lapi_Term_Lapi_Term_r3 (.block 0 (.loop F_slices_EqualFunc_LLapi_Term_LLapi_Term_Lapi_Term_Lapi_Term_l10))) (.seq F_slices_EqualFunc_LLapi_Term_LLapi_Term_Lapi_Term_Lapi_Term_r11 .ret)))), [.slot 6], false⟩
def h_slices_EqualFunc_LLapi_Term_LLapi_Term_Lapi_Term_Lapi_Term : Hints := { boxes := [], addrs := [], post := [(10, [6], [], []), (9, [1, 2, 15, 16, 17], [], []), (8, [6], [], []), (7, [1, 2, 15, 16, 17, 30], [], []), (6, [1, 2, 8, 9, 15, 16, 17], [], []), (5, [1, 2, 7, 8, 15, 16, 17], [], []), (4, [1, 2, 15, 16, 17, 18], [], []), (3, [1, 2, 15, 16, 17], [], []), (2, [6], [], []), (1, [0, 1, 2, 14], [], []), (0, [0, 1, 2], [], [])], order := [], keep := false }
theorem ok_slices_EqualFunc_LLapi_Term_LLapi_Term_Lapi_Term_Lapi_Term : cFunc Tryd.prog h_slices_EqualFunc_LLapi_Term_LLapi_Term_Lapi_Term_Lapi_Term n_slices_EqualFunc_LLapi_Term_LLapi_Term_Lapi_Term_Lapi_Term = some F_slices_EqualFunc_LLapi_Term_LLapi_Term_Lapi_Term_Lapi_Term := by kernel_rfl
/- (logjam/bits.Set).Has -/
def F_bits_Set_Has_r0 : SCode := .region [
    ⟨(some 4), none, .mov (.lit (.bool false))⟩] [0, 1] [] []
def F_bits_Set_Has_r1 : SCode := .region [
    ⟨(some 5), none, .mov (.slot 0)⟩,
    ⟨(some 6), none, .mov (.slot 1)⟩,
    ⟨(some 7), none, .call n_bits_one [(.slot 6)]⟩,
    ⟨(some 8), none, .bin .and .no (.slot 5) (.slot 7)⟩,
    ⟨(some 9), none, .bin .neq .int (.slot 8) (.lit (.int .u64 (0)))⟩,
    ⟨(some 4), none, .mov (.slot 9)⟩] [4] [] []
def F_bits_Set_Has : SFun := ⟨2, (.seq F_bits_Set_Has_r0 (.seq F_bits_Set_Has_r1 .ret)), [.slot 4], false⟩
def h_bits_Set_Has : Hints := { boxes := [], addrs := [], post := [(1, [4], [], []), (0, [0, 1], [], [])], order := [], keep := false }
theorem ok_bits_Set_Has : cFunc Tryd.prog h_bits_Set_Has n_bits_Set_Has = some F_bits_Set_Has := by kernel_rfl
/- slices.BinarySearch[[]int,int] -/
def F_slices_BinarySearch_Lint_int_r0 : SCode := .region [
    ⟨(some 4), none, .mov (.lit (.int .i64 (0)))⟩,
    ⟨(some 5), none, .mov (.lit (.bool false))⟩] [0, 1] [] []
def F_slices_BinarySearch_Lint_int_r1 : SCode := .region [
    ⟨(some 10), none, .mov (.slot 0)⟩,
    ⟨(some 11), none, .len .sl (.slot 10)⟩,
    ⟨(some 6), none, .mov (.slot 11)⟩] [0, 1, 6] [] []
def F_slices_BinarySearch_Lint_int_r2 : SCode := .region [
    ⟨(some 12), none, .mov (.slot 6)⟩,
    ⟨(some 7), none, .mov (.lit (.int .i64 (0)))⟩,
    ⟨(some 8), none, .mov (.slot 12)⟩] [0, 1, 6, 7, 8] [] []
def F_slices_BinarySearch_Lint_int_r3 : SCode := .region [
    ⟨(some 13), none, .mov (.slot 7)⟩,
    ⟨(some 14), none, .mov (.slot 8)⟩,
    ⟨(some 15), none, .bin .lss .no (.slot 13) (.slot 14)⟩] [0, 1, 6, 7, 8, 15] [] []
def F_slices_BinarySearch_Lint_int_r4 : SCode := .region [
    ⟨(some 16), none, .mov (.slot 7)⟩,
    ⟨(some 17), none, .mov (.slot 8)⟩,
    ⟨(some 18), none, .bin .add .no (.slot 16) (.slot 17)⟩,
    ⟨(some 19), none, .conv .u64 (.slot 18)⟩,
    ⟨(some 20), none, .bin .shr .no (.slot 19) (.lit (.int .u64 (1)))⟩,
    ⟨(some 21), none, .conv .i64 (.slot 20)⟩,
    ⟨(some 9), none, .mov (.slot 21)⟩] [0, 1, 6, 7, 8, 9] [] []
def F_slices_BinarySearch_Lint_int_r5 : SCode := .region [
    ⟨(some 22), none, .mov (.slot 0)⟩,
    ⟨(some 23), none, .mov (.slot 9)⟩,
    ⟨(some 24), none, .iaddr 1 (.slot 22) (.slot 23)⟩,
    ⟨(some 25), none, .load false 1 (.slot 24)⟩,
    ⟨(some 26), none, .mov (.slot 1)⟩,
    ⟨(some 27), none, .call n_cmp_Less_int [(.slot 25), (.slot 26)]⟩] [0, 1, 6, 7, 8, 9, 27] [] []
def F_slices_BinarySearch_Lint_int_r6 : SCode := .region [
    ⟨(some 28), none, .mov (.slot 9)⟩,
    ⟨(some 29), none, .bin .add .no (.slot 28) (.lit (.int .i64 (1)))⟩,
    ⟨(some 7), none, .mov (.slot 29)⟩] [0, 1, 6, 7, 8] [] []
def F_slices_BinarySearch_Lint_int_r7 : SCode := .region [
    ⟨(some 30), none, .mov (.slot 9)⟩,
    ⟨(some 8), none, .mov (.slot 30)⟩] [0, 1, 6, 7, 8] [] []
def F_slices_BinarySearch_Lint_int_l8 : SCode := (.seq (.seq F_slices_BinarySearch_Lint_int_r3 (.cond (.slot 15) .skip (.exit 0))) (.block 1 (.seq F_slices_BinarySearch_Lint_int_r4 (.seq F_slices_BinarySearch_Lint_int_r5 (.cond (.slot 27) F_slices_BinarySearch_Lint_int_r6 F_slices_BinarySearch_Lint_int_r7)))))
def F_slices_BinarySearch_Lint_int_r9 : SCode := .region [
    ⟨(some 31), none, .mov (.slot 7)⟩,
    ⟨(some 32), none, .mov (.slot 7)⟩,
    ⟨(some 33), none, .mov (.slot 6)⟩,
    ⟨(some 34), none, .bin .lss .no (.slot 32) (.slot 33)⟩,
    ⟨(some 35), none, .mov (.slot 34)⟩,
    ⟨(some 36), some (35, true), .mov (.slot 0)⟩,
    ⟨(some 37), some (35, true), .mov (.slot 7)⟩,
    ⟨(some 38), some (35, true), .iaddr 1 (.slot 36) (.slot 37)⟩,
    ⟨(some 39), some (35, true), .load false 1 (.slot 38)⟩,
    ⟨(some 40), some (35, true), .mov (.slot 1)⟩,
    ⟨(some 41), some (35, true), .bin .eql .int (.slot 39) (.slot 40)⟩,
    ⟨(some 42), some (35, true), .mov (.slot 41)⟩,
    ⟨(some 43), some (42, false), .mov (.slot 0)⟩,
    ⟨(some 44), some (42, false), .mov (.slot 7)⟩,
    ⟨(some 45), some (42, false), .iaddr 1 (.slot 43) (.slot 44)⟩,
    ⟨(some 46), some (42, false), .load false 1 (.slot 45)⟩,
    ⟨(some 47), some (42, false), .call n_slices_isNaN_int [(.slot 46)]⟩,
    ⟨(some 48), some (42, false), .mov (.slot 47)⟩,
    ⟨(some 49), some (48, true), .mov (.slot 1)⟩,
    ⟨(some 50), some (48, true), .call n_slices_isNaN_int [(.slot 49)]⟩,
    ⟨(some 51), some (42, false), .pick (.slot 48) (.slot 50) (.lit (.bool false))⟩,
    ⟨(some 52), some (35, true), .pick (.slot 42) (.lit (.bool true)) (.slot 51)⟩,
    ⟨(some 53), none, .pick (.slot 35) (.slot 52) (.lit (.bool false))⟩,
    ⟨(some 4), none, .mov (.slot 31)⟩,
    ⟨(some 5), none, .mov (.slot 53)⟩] [4, 5] [] []
def F_slices_BinarySearch_Lint_int : SFun := ⟨2, (.seq F_slices_BinarySearch_Lint_int_r0 (.seq F_slices_BinarySearch_Lint_int_r1 (.seq F_slices_BinarySearch_Lint_int_r2 (.seq (.block 0 (.loop F_slices_BinarySearch_Lint_int_l8)) (.seq F_slices_BinarySearch_Lint_int_r9 .ret))))), [.slot 4, .slot 5], false⟩
def h_slices_BinarySearch_Lint_int : Hints := { boxes := [], addrs := [], post := [(8, [4, 5], [], []), (6, [0, 1, 6, 7, 8], [], []), (7, [0, 1, 6, 7, 8], [], []), (5, [0, 1, 6, 7, 8, 9, 27], [], []), (4, [0, 1, 6, 7, 8, 9], [], []), (3, [0, 1, 6, 7, 8, 15], [], []), (2, [0, 1, 6, 7, 8], [], []), (1, [0, 1, 6], [], []), (0, [0, 1], [], [])], order := [], keep := false }
theorem ok_slices_BinarySearch_Lint_int : cFunc Tryd.prog h_slices_BinarySearch_Lint_int n_slices_BinarySearch_Lint_int = some F_slices_BinarySearch_Lint_int := by kernel_rfl
/- (logjam/bits.Set).First -/
def F_bits_Set_First_r0 : SCode := .region [
    ⟨(some 2), none, .mov (.lit (.int .i64 (0)))⟩] [0] [] []
def F_bits_Set_First_r1 : SCode := .region [
    ⟨(some 3), none, .mov (.slot 0)⟩,
    ⟨(some 4), none, .bin .eql .int (.slot 3) (.lit (.int .u64 (0)))⟩] [0, 4] [] []
def F_bits_Set_First_r2 : SCode := .region [
    ⟨(some 2), none, .mov (.lit (.int .i64 (-1)))⟩] [2] [] []
def F_bits_Set_First_r3 : SCode := .region [
    ⟨(some 5), none, .mov (.slot 0)⟩,
    ⟨(some 6), none, .call n_math_bits_TrailingZeros64 [(.slot 5)]⟩,
    ⟨(some 2), none, .mov (.slot 6)⟩] [2] [] []
def F_bits_Set_First : SFun := ⟨1, (.seq F_bits_Set_First_r0 (.seq (.seq F_bits_Set_First_r1 (.cond (.slot 4) (.seq F_bits_Set_First_r2 .ret) .skip)) (.seq F_bits_Set_First_r3 .ret))), [.slot 2], false⟩
def h_bits_Set_First : Hints := { boxes := [], addrs := [], post := [(3, [2], [], []), (2, [2], [], []), (1, [0, 4], [], []), (0, [0], [], [])], order := [], keep := false }
theorem ok_bits_Set_First : cFunc Tryd.prog h_bits_Set_First n_bits_Set_First = some F_bits_Set_First := by kernel_rfl
/- (logjam/bits.Set).Without -/
def F_bits_Set_Without_r0 : SCode := .region [
    ⟨(some 4), none, .mov (.lit (.int .u64 (0)))⟩] [0, 1] [] []
def F_bits_Set_Without_r1 : SCode := .region [
    ⟨(some 5), none, .mov (.slot 0)⟩,
    ⟨(some 6), none, .mov (.slot 1)⟩,
    ⟨(some 7), none, .call n_bits_one [(.slot 6)]⟩,
    ⟨(some 8), none, .bin .andNot .no (.slot 5) (.slot 7)⟩,
    ⟨(some 4), none, .mov (.slot 8)⟩] [4] [] []
def F_bits_Set_Without : SFun := ⟨2, (.seq F_bits_Set_Without_r0 (.seq F_bits_Set_Without_r1 .ret)), [.slot 4], false⟩
def h_bits_Set_Without : Hints := { boxes := [], addrs := [], post := [(1, [4], [], []), (0, [0, 1], [], [])], order := [], keep := false }
theorem ok_bits_Set_Without : cFunc Tryd.prog h_bits_Set_Without n_bits_Set_Without = some F_bits_Set_Without := by kernel_rfl
/- (logjam/bits.Set).With -/
def F_bits_Set_With_r0 : SCode := .region [
    ⟨(some 4), none, .mov (.lit (.int .u64 (0)))⟩] [0, 1] [] []
def F_bits_Set_With_r1 : SCode := .region [
    ⟨(some 5), none, .mov (.slot 0)⟩,
    ⟨(some 6), none, .mov (.slot 1)⟩,
    ⟨(some 7), none, .call n_bits_one [(.slot 6)]⟩,
    ⟨(some 8), none, .bin .or .no (.slot 5) (.slot 7)⟩,
    ⟨(some 4), none, .mov (.slot 8)⟩] [4] [] []
def F_bits_Set_With : SFun := ⟨2, (.seq F_bits_Set_With_r0 (.seq F_bits_Set_With_r1 .ret)), [.slot 4], false⟩
def h_bits_Set_With : Hints := { boxes := [], addrs := [], post := [(1, [4], [], []), (0, [0, 1], [], [])], order := [], keep := false }
theorem ok_bits_Set_With : cFunc Tryd.prog h_bits_Set_With n_bits_Set_With = some F_bits_Set_With := by kernel_rfl
/- (logjam/bits.Set).List -/
def F_bits_Set_List_r0 : SCode := .region [
    ⟨(some 2), none, .mov (.lit (.nilsl))⟩] [0] [] []
def F_bits_Set_List_r1 : SCode := .region [
    ⟨(some 4), none, .mov (.slot 0)⟩,
    ⟨(some 5), none, .call n_bits_Set_Count [(.slot 4)]⟩,
    ⟨(some 6), none, .makeSlice 1 8 (.int .i64 (0)) (.lit (.int .i64 (0))) (.slot 5)⟩,
    ⟨(some 3), none, .mov (.slot 6)⟩] [0, 3] [] []
def F_bits_Set_List_r2 : SCode := .region [
    ⟨(some 7), none, .mov (.slot 0)⟩,
    ⟨(some 8), none, .bin .neq .int (.slot 7) (.lit (.int .u64 (0)))⟩] [0, 3, 8] [] []
def F_bits_Set_List_r3 : SCode := .region [
    ⟨(some 13), none, .mov (.slot 3)⟩,
    ⟨(some 14), none, .mov (.slot 0)⟩,
    ⟨(some 15), none, .call n_bits_Set_First [(.slot 14)]⟩,
    ⟨(some 16), none, .buildSlice 1 (.int .i64 (0)) 1 [(0, (.slot 15))]⟩,
    ⟨(some 17), none, .append 1 8 (.slot 13) (.slot 16)⟩,
    ⟨(some 3), none, .mov (.slot 17)⟩] [0, 3] [] []
def F_bits_Set_List_r4 : SCode := .region [
    ⟨(some 9), none, .mov (.slot 0)⟩,
    ⟨(some 10), none, .mov (.slot 0)⟩,
    ⟨(some 11), none, .bin .sub .no (.slot 10) (.lit (.int .u64 (1)))⟩,
    ⟨(some 12), none, .bin .and .no (.slot 9) (.slot 11)⟩,
    ⟨(some 0), none, .mov (.slot 12)⟩] [0, 3] [] []
def F_bits_Set_List_l5 : SCode := (.seq (.seq F_bits_Set_List_r2 (.cond (.slot 8) .skip (.exit 0))) (.seq (.block 1 F_bits_Set_List_r3) F_bits_Set_List_r4))
def F_bits_Set_List_r6 : SCode := .region [
    ⟨(some 18), none, .mov (.slot 3)⟩,
    ⟨(some 2), none, .mov (.slot 18)⟩] [2] [] []
def F_bits_Set_List : SFun := ⟨1, (.seq F_bits_Set_List_r0 (.seq F_bits_Set_List_r1 (.seq (.block 0 (.loop F_bits_Set_List_l5)) (.seq F_bits_Set_List_r6 .ret)))), [.slot 2], false⟩
def h_bits_Set_List : Hints := { boxes := [], addrs := [], post := [(5, [2], [], []), (3, [0, 3], [], []), (4, [0, 3], [], []), (2, [0, 3, 8], [], []), (1, [0, 3], [], []), (0, [0], [], [])], order := [], keep := false }
theorem ok_bits_Set_List : cFunc Tryd.prog h_bits_Set_List n_bits_Set_List = some F_bits_Set_List := by kernel_rfl
/- logjam/witness.clone -/
def F_witness_clone_r0 : SCode := .region [
    ⟨(some 1), none, .boxA 2 (.slot 0)⟩,
    ⟨(some 2), none, .allocA [.bool false, .nilsl]⟩] [] [1, 2] []
def F_witness_clone_r1 : SCode := .region [
    ⟨(some 9), none, .faddrA 0 1⟩,
    ⟨(some 10), none, .loadA false 1 9⟩,
    ⟨(some 11), none, .build [.bool false, .nilsl] [(0, 1, (.slot 10))]⟩,
    ⟨(some 3), none, .allocA [.bool false, .nilsl]⟩,
    ⟨none, none, .storeA 2 3 (.slot 11)⟩] [] [1, 2, 3] []
def F_witness_clone_r2 : SCode := .region [
    ⟨(some 12), none, .faddrA 1 1⟩,
    ⟨(some 13), none, .loadA false 1 12⟩,
    ⟨(some 14), none, .len .sl (.slot 13)⟩,
    ⟨(some 15), none, .mov (.lit (.int .i64 (0)))⟩] [13, 14, 15] [2, 3] []
def F_witness_clone_r3 : SCode := .region [
    ⟨(some 16), none, .bin .lss .no (.slot 15) (.slot 14)⟩] [13, 14, 15, 16] [2, 3] []
def F_witness_clone_r4 : SCode := .region [
    ⟨(some 17), none, .iaddr 1 (.slot 13) (.slot 15)⟩,
    ⟨(some 18), none, .load false 1 (.slot 17)⟩,
    ⟨(some 5), none, .mov (.slot 18)⟩] [5, 13, 14, 15] [2, 3] []
def F_witness_clone_r5 : SCode := .region [
    ⟨(some 6), none, .mov (.lit (.nilsl))⟩] [5, 6, 13, 14, 15] [2, 3] []
def F_witness_clone_r6 : SCode := .region [
    ⟨(some 19), none, .mov (.slot 5)⟩,
    ⟨(some 20), none, .len .sl (.slot 19)⟩,
    ⟨(some 21), none, .mov (.lit (.int .i64 (0)))⟩] [6, 13, 14, 15, 19, 20, 21] [2, 3] []
def F_witness_clone_r7 : SCode := .region [
    ⟨(some 22), none, .bin .lss .no (.slot 21) (.slot 20)⟩] [6, 13, 14, 15, 19, 20, 21, 22] [2, 3] []
def F_witness_clone_r8 : SCode := .region [
    ⟨(some 23), none, .iaddr 2 (.slot 19) (.slot 21)⟩,
    ⟨(some 24), none, .load true 2 (.slot 23)⟩,
    ⟨(some 8), none, .allocA [.int .i64 (0), .nilsl]⟩,
    ⟨none, none, .storeA 2 8 (.slot 24)⟩] [6, 13, 14, 15, 19, 20, 21] [2, 3, 8] []
def F_witness_clone_d9 : SCode := .draw (.take 0 ⟨(some 25), none, .mov (.slot 6)⟩ (.take 1 ⟨(some 26), none, .faddrA 0 8⟩ (.take 2 ⟨(some 27), none, .loadA false 1 26⟩ (.take 3 ⟨(some 28), none, .faddrA 1 8⟩ (.take 4 ⟨(some 29), none, .loadA false 1 28⟩ (.only [3, 4] ⟨(some 30), none, .call n_slices_Clone_Lapi_Share_api_Share [(.slot 29)]⟩ (.take 6 ⟨(some 31), none, .build [.int .i64 (0), .nilsl] [(0, 1, (.slot 27)), (1, 1, (.slot 30))]⟩ (.only [2, 1, 5, 3, 4, 6] ⟨(some 32), none, .buildSlice 2 (.agg [.int .i64 (0), .nilsl]) 1 [(0, (.slot 31))]⟩ (.only [6, 4, 3, 5, 1, 2, 7, 0] ⟨(some 33), none, .append 2 32 (.slot 25) (.slot 32)⟩ (.take 9 ⟨(some 6), none, .mov (.slot 33)⟩ (.done))))))))))) [6, 13, 14, 15, 19, 20, 21] [2, 3] []
def F_witness_clone_r10 : SCode := .region [
    ⟨(some 34), none, .bin .add .no (.slot 21) (.lit (.int .i64 (1)))⟩,
    ⟨(some 21), none, .mov (.slot 34)⟩] [6, 13, 14, 15, 19, 20, 21] [2, 3] []
def F_witness_clone_l11 : SCode := (.seq F_witness_clone_r7 (.seq (.cond (.slot 22) .skip (.exit 2)) (.seq (.block 3 (.seq F_witness_clone_r8 F_witness_clone_d9)) F_witness_clone_r10)))
def F_witness_clone_r12 : SCode := .region [
    ⟨(some 35), none, .faddrA 1 3⟩,
    ⟨(some 36), none, .loadA false 1 35⟩,
    ⟨(some 37), none, .mov (.slot 6)⟩,
    ⟨(some 38), none, .buildSlice 1 (.nilsl) 1 [(0, (.slot 37))]⟩,
    ⟨(some 39), none, .append 1 24 (.slot 36) (.slot 38)⟩,
    ⟨(some 40), none, .faddrA 1 3⟩,
    ⟨none, none, .storeA 1 40 (.slot 39)⟩] [13, 14, 15] [2, 3] []
def F_witness_clone_r13 : SCode := .region [
    ⟨(some 41), none, .bin .add .no (.slot 15) (.lit (.int .i64 (1)))⟩,
    ⟨(some 15), none, .mov (.slot 41)⟩] [13, 14, 15] [2, 3] []
def F_witness_clone_l14 : SCode := (.seq F_witness_clone_r3 (.seq (.cond (.slot 16) .skip (.exit 0)) (.seq (.block 1 (.seq F_witness_clone_r4 (.seq F_witness_clone_r5 (.seq (.seq F_witness_clone_r6 (.block 2 (.loop F_witness_clone_l11))) F_witness_clone_r12)))) F_witness_clone_r13)))
def F_witness_clone_r15 : SCode := .region [
    ⟨(some 42), none, .loadA true 2 3⟩,
    ⟨none, none, .storeA 2 2 (.slot 42)⟩] [] [2] []
def F_witness_clone : SFun := ⟨1, (.seq F_witness_clone_r0 (.seq F_witness_clone_r1 (.seq (.seq F_witness_clone_r2 (.block 0 (.loop F_witness_clone_l14))) (.seq F_witness_clone_r15 .ret)))), [.cellA true 2 2], false⟩
def h_witness_clone : Hints := { boxes := [1, 2, 3, 8], addrs := [9, 12, 26, 28, 35, 40], post := [(13, [], [2], []), (12, [13, 14, 15], [2, 3], []), (11, [13, 14, 15], [2, 3], []), (10, [6, 13, 14, 15, 19, 20, 21], [2, 3], []), (9, [6, 13, 14, 15, 19, 20, 21], [2, 3], []), (8, [6, 13, 14, 15, 19, 20, 21], [2, 3, 8], []), (7, [6, 13, 14, 15, 19, 20, 21, 22], [2, 3], []), (6, [6, 13, 14, 15, 19, 20, 21], [2, 3], []), (5, [5, 6, 13, 14, 15], [2, 3], []), (4, [5, 13, 14, 15], [2, 3], []), (3, [13, 14, 15, 16], [2, 3], []), (2, [13, 14, 15], [2, 3], []), (1, [], [1, 2, 3], []), (0, [], [1, 2], [])], order := [(9, [0, 1, 2, 3, 4, 5, 6, 7, 8, 9])], keep := false }
theorem ok_witness_clone : cFunc Tryd.prog h_witness_clone n_witness_clone = some F_witness_clone := by kernel_rfl
/- logjam/graph.asks -/
def F_graph_asks_r0 : SCode := .region [
    ⟨(some 2), none, .allocA [.int .u64 (0), .int .u64 (0), .int .u64 (0), .int .u64 (0), .int .u64 (0), .int .u64 (0), .int .u64 (0), .int .u64 (0), .int .u64 (0), .int .u64 (0), .int .u64 (0), .int .u64 (0), .int .u64 (0), .int .u64 (0), .int .u64 (0), .int .u64 (0), .int .u64 (0), .int .u64 (0), .int .u64 (0), .int .u64 (0), .int .u64 (0), .int .u64 (0), .int .u64 (0), .int .u64 (0), .int .u64 (0), .int .u64 (0), .int .u64 (0), .int .u64 (0), .int .u64 (0), .int .u64 (0), .int .u64 (0), .int .u64 (0), .int .u64 (0), .int .u64 (0), .int .u64 (0), .int .u64 (0), .int .u64 (0), .int .u64 (0), .int .u64 (0), .int .u64 (0), .int .u64 (0), .int .u64 (0), .int .u64 (0), .int .u64 (0), .int .u64 (0), .int .u64 (0), .int .u64 (0), .int .u64 (0), .int .u64 (0), .int .u64 (0), .int .u64 (0), .int .u64 (0), .int .u64 (0), .int .u64 (0), .int .u64 (0), .int .u64 (0), .int .u64 (0), .int .u64 (0), .int .u64 (0), .int .u64 (0), .int .u64 (0), .int .u64 (0), .int .u64 (0), .int .u64 (0)]⟩] [0] [2] []
def F_graph_asks_r1 : SCode := .region [
    ⟨(some 3), none, .alloc (.agg [.int .u64 (0), .int .u64 (0), .int .u64 (0), .int .u64 (0), .int .u64 (0), .int .u64 (0), .int .u64 (0), .int .u64 (0), .int .u64 (0), .int .u64 (0), .int .u64 (0), .int .u64 (0), .int .u64 (0), .int .u64 (0), .int .u64 (0), .int .u64 (0), .int .u64 (0), .int .u64 (0), .int .u64 (0), .int .u64 (0), .int .u64 (0), .int .u64 (0), .int .u64 (0), .int .u64 (0), .int .u64 (0), .int .u64 (0), .int .u64 (0), .int .u64 (0), .int .u64 (0), .int .u64 (0), .int .u64 (0), .int .u64 (0), .int .u64 (0), .int .u64 (0), .int .u64 (0), .int .u64 (0), .int .u64 (0), .int .u64 (0), .int .u64 (0), .int .u64 (0), .int .u64 (0), .int .u64 (0), .int .u64 (0), .int .u64 (0), .int .u64 (0), .int .u64 (0), .int .u64 (0), .int .u64 (0), .int .u64 (0), .int .u64 (0), .int .u64 (0), .int .u64 (0), .int .u64 (0), .int .u64 (0), .int .u64 (0), .int .u64 (0), .int .u64 (0), .int .u64 (0), .int .u64 (0), .int .u64 (0), .int .u64 (0), .int .u64 (0), .int .u64 (0), .int .u64 (0)])⟩] [0, 3] [2] []
def F_graph_asks_r2 : SCode := .region [
    ⟨(some 12), none, .mov (.slot 0)⟩,
    ⟨(some 13), none, .len .sl (.slot 12)⟩,
    ⟨(some 14), none, .mov (.lit (.int .i64 (0)))⟩] [0, 3, 12, 13, 14] [2] []
def F_graph_asks_r3 : SCode := .region [
    ⟨(some 15), none, .bin .lss .no (.slot 14) (.slot 13)⟩] [0, 3, 12, 13, 14, 15] [2] []
def F_graph_asks_r4 : SCode := .region [
    ⟨(some 16), none, .mov (.slot 14)⟩,
    ⟨(some 17), none, .iaddr 2 (.slot 12) (.slot 14)⟩,
    ⟨(some 18), none, .load true 2 (.slot 17)⟩,
    ⟨(some 5), none, .allocA [.bool false, .nilsl]⟩,
    ⟨(some 4), none, .mov (.slot 16)⟩,
    ⟨none, none, .storeA 2 5 (.slot 18)⟩] [0, 3, 4, 12, 13, 14] [2, 5] []
def F_graph_asks_r5 : SCode := .region [
    ⟨(some 19), none, .faddrA 1 5⟩,
    ⟨(some 20), none, .loadA false 1 19⟩,
    ⟨(some 21), none, .len .sl (.slot 20)⟩,
    ⟨(some 22), none, .mov (.lit (.int .i64 (0)))⟩] [0, 3, 4, 12, 13, 14, 20, 21, 22] [2] []
def F_graph_asks_r6 : SCode := .region [
    ⟨(some 23), none, .bin .lss .no (.slot 22) (.slot 21)⟩] [0, 3, 4, 12, 13, 14, 20, 21, 22, 23] [2] []
def F_graph_asks_r7 : SCode := .region [
    ⟨(some 24), none, .iaddr 1 (.slot 20) (.slot 22)⟩,
    ⟨(some 25), none, .load false 1 (.slot 24)⟩,
    ⟨(some 7), none, .mov (.slot 25)⟩] [0, 3, 4, 7, 12, 13, 14, 20, 21, 22] [2] []
def F_graph_asks_r8 : SCode := .region [
    ⟨(some 26), none, .mov (.slot 7)⟩,
    ⟨(some 27), none, .len .sl (.slot 26)⟩,
    ⟨(some 28), none, .mov (.lit (.int .i64 (0)))⟩] [0, 3, 4, 12, 13, 14, 20, 21, 22, 26, 27, 28] [2] []
def F_graph_asks_r9 : SCode := .region [
    ⟨(some 29), none, .bin .lss .no (.slot 28) (.slot 27)⟩] [0, 3, 4, 12, 13, 14, 20, 21, 22, 26, 27, 28, 29] [2] []
def F_graph_asks_r10 : SCode := .region [
    ⟨(some 30), none, .iaddr 2 (.slot 26) (.slot 28)⟩,
    ⟨(some 31), none, .load true 2 (.slot 30)⟩,
    ⟨(some 9), none, .allocA [.int .i64 (0), .nilsl]⟩,
    ⟨none, none, .storeA 2 9 (.slot 31)⟩] [0, 3, 4, 12, 13, 14, 20, 21, 22, 26, 27, 28] [2, 9] []
def F_graph_asks_r11 : SCode := .region [
    ⟨(some 32), none, .faddrA 1 9⟩,
    ⟨(some 33), none, .loadA false 1 32⟩,
    ⟨(some 34), none, .len .sl (.slot 33)⟩,
    ⟨(some 35), none, .mov (.lit (.int .i64 (0)))⟩] [0, 3, 4, 12, 13, 14, 20, 21, 22, 26, 27, 28, 33, 34, 35] [2] []
def F_graph_asks_r12 : SCode := .region [
    ⟨(some 36), none, .bin .lss .no (.slot 35) (.slot 34)⟩] [0, 3, 4, 12, 13, 14, 20, 21, 22, 26, 27, 28, 33, 34, 35, 36] [2] []
def F_graph_asks_r13 : SCode := .region [
    ⟨(some 37), none, .iaddr 2 (.slot 33) (.slot 35)⟩,
    ⟨(some 38), none, .load true 2 (.slot 37)⟩,
    ⟨(some 11), none, .allocA [.int .i64 (0), .int .i64 (0)]⟩,
    ⟨none, none, .storeA 2 11 (.slot 38)⟩] [0, 3, 4, 12, 13, 14, 20, 21, 22, 26, 27, 28, 33, 34, 35] [2, 11] []
def F_graph_asks_r14 : SCode := .region [
    ⟨(some 39), none, .faddrA 0 11⟩,
    ⟨(some 40), none, .loadA false 1 39⟩,
    ⟨(some 41), none, .bin .geq .no (.slot 40) (.lit (.int .i64 (0)))⟩,
    ⟨(some 42), none, .mov (.slot 41)⟩,
    ⟨(some 43), some (42, true), .faddrA 0 11⟩,
    ⟨(some 44), some (42, true), .loadA false 1 43⟩,
    ⟨(some 45), some (42, true), .mov (.slot 0)⟩,
    ⟨(some 46), some (42, true), .len .sl (.slot 45)⟩,
    ⟨(some 47), some (42, true), .bin .lss .no (.slot 44) (.slot 46)⟩,
    ⟨(some 48), none, .pick (.slot 42) (.slot 47) (.lit (.bool false))⟩] [0, 3, 4, 12, 13, 14, 20, 21, 22, 26, 27, 28, 33, 34, 35, 48] [2, 11] []
def F_graph_asks_d15 : SCode := .draw (.take 0 ⟨(some 49), none, .faddrA 0 11⟩ (.take 1 ⟨(some 50), none, .loadA false 1 49⟩ (.take 2 ⟨(some 51), none, .faddrA 0 11⟩ (.take 3 ⟨(some 52), none, .loadA false 1 51⟩ (.take 4 ⟨(some 53), none, .iaddrP 64 1 (.slot 3) (.slot 52)⟩ (.take 5 ⟨(some 54), none, .load false 1 (.slot 53)⟩ (.take 6 ⟨(some 55), none, .mov (.slot 4)⟩ (.only [6, 4, 2, 3, 5] ⟨(some 56), none, .call n_bits_Set_With [(.slot 54), (.slot 55)]⟩ (.take 8 ⟨(some 57), none, .iaddrP 64 1 (.slot 3) (.slot 50)⟩ (.only [1, 0, 2, 3, 4, 5, 6, 7, 8] ⟨none, none, .store 1 (.slot 57) (.slot 56)⟩ (.done))))))))))) [0, 3, 4, 12, 13, 14, 20, 21, 22, 26, 27, 28, 33, 34, 35] [2] []
def F_graph_asks_r16 : SCode := .region [
    ⟨(some 58), none, .bin .add .no (.slot 35) (.lit (.int .i64 (1)))⟩,
    ⟨(some 35), none, .mov (.slot 58)⟩] [0, 3, 4, 12, 13, 14, 20, 21, 22, 26, 27, 28, 33, 34, 35] [2] []
def F_graph_asks_l17 : SCode := (.seq F_graph_asks_r12 (.seq (.cond (.slot 36) .skip (.exit 6)) (.seq (.block 7 (.seq F_graph_asks_r13 (.seq F_graph_asks_r14 (.cond (.slot 48) F_graph_asks_d15 .skip)))) F_graph_asks_r16)))
def F_graph_asks_r18 : SCode := .region [
    ⟨(some 59), none, .bin .add .no (.slot 28) (.lit (.int .i64 (1)))⟩,
    ⟨(some 28), none, .mov (.slot 59)⟩] [0, 3, 4, 12, 13, 14, 20, 21, 22, 26, 27, 28] [2] []
def F_graph_asks_l19 : SCode := (.seq F_graph_asks_r9 (.seq (.cond (.slot 29) .skip (.exit 4)) (.seq (.block 5 (.seq F_graph_asks_r10 (.seq F_graph_asks_r11 (.block 6 (.loop F_graph_asks_l17))))) F_graph_asks_r18)))
def F_graph_asks_r20 : SCode := .region [
    ⟨(some 60), none, .bin .add .no (.slot 22) (.lit (.int .i64 (1)))⟩,
    ⟨(some 22), none, .mov (.slot 60)⟩] [0, 3, 4, 12, 13, 14, 20, 21, 22] [2] []
def F_graph_asks_l21 : SCode := (.seq F_graph_asks_r6 (.seq (.cond (.slot 23) .skip (.exit 2)) (.seq (.block 3 (.seq F_graph_asks_r7 (.seq F_graph_asks_r8 (.block 4 (.loop F_graph_asks_l19))))) F_graph_asks_r20)))
def F_graph_asks_r22 : SCode := .region [
    ⟨(some 61), none, .bin .add .no (.slot 14) (.lit (.int .i64 (1)))⟩,
    ⟨(some 14), none, .mov (.slot 61)⟩] [0, 3, 12, 13, 14] [2] []
def F_graph_asks_l23 : SCode := (.seq F_graph_asks_r3 (.seq (.cond (.slot 15) .skip (.exit 0)) (.seq (.block 1 (.seq F_graph_asks_r4 (.seq F_graph_asks_r5 (.block 2 (.loop F_graph_asks_l21))))) F_graph_asks_r22)))
def F_graph_asks_r24 : SCode := .region [
    ⟨(some 62), none, .load true 64 (.slot 3)⟩,
    ⟨none, none, .storeA 64 2 (.slot 62)⟩] [] [2] []
def F_graph_asks : SFun := ⟨1, (.seq F_graph_asks_r0 (.seq F_graph_asks_r1 (.seq (.seq F_graph_asks_r2 (.block 0 (.loop F_graph_asks_l23))) (.seq F_graph_asks_r24 .ret)))), [.cellA true 64 2], false⟩
def h_graph_asks : Hints := { boxes := [2, 5, 9, 11], addrs := [19, 32, 39, 43, 49, 51], post := [(20, [], [2], []), (19, [0, 3, 12, 13, 14], [2], []), (18, [0, 3, 4, 12, 13, 14, 20, 21, 22], [2], []), (17, [0, 3, 4, 12, 13, 14, 20, 21, 22, 26, 27, 28], [2], []), (16, [0, 3, 4, 12, 13, 14, 20, 21, 22, 26, 27, 28, 33, 34, 35], [2], []), (15, [0, 3, 4, 12, 13, 14, 20, 21, 22, 26, 27, 28, 33, 34, 35], [2], []), (14, [0, 3, 4, 12, 13, 14, 20, 21, 22, 26, 27, 28, 33, 34, 35, 48], [2, 11], []), (13, [0, 3, 4, 12, 13, 14, 20, 21, 22, 26, 27, 28, 33, 34, 35], [2, 11], []), (12, [0, 3, 4, 12, 13, 14, 20, 21, 22, 26, 27, 28, 33, 34, 35, 36], [2], []), (11, [0, 3, 4, 12, 13, 14, 20, 21, 22, 26, 27, 28, 33, 34, 35], [2], []), (10, [0, 3, 4, 12, 13, 14, 20, 21, 22, 26, 27, 28], [2, 9], []), (9, [0, 3, 4, 12, 13, 14, 20, 21, 22, 26, 27, 28, 29], [2], []), (8, [0, 3, 4, 12, 13, 14, 20, 21, 22, 26, 27, 28], [2], []), (7, [0, 3, 4, 7, 12, 13, 14, 20, 21, 22], [2], []), (6, [0, 3, 4, 12, 13, 14, 20, 21, 22, 23], [2], []), (5, [0, 3, 4, 12, 13, 14, 20, 21, 22], [2], []), (4, [0, 3, 4, 12, 13, 14], [2, 5], []), (3, [0, 3, 12, 13, 14, 15], [2], []), (2, [0, 3, 12, 13, 14], [2], []), (1, [0, 3], [2], []), (0, [0], [2], [])], order := [(15, [0, 1, 2, 3, 4, 5, 6, 7, 8, 9])], keep := false }
theorem ok_graph_asks : cFunc Tryd.prog h_graph_asks n_graph_asks = some F_graph_asks := by kernel_rfl
/- logjam/graph.met -/
def F_graph_met_r0 : SCode := .region [
    ⟨(some 2), none, .boxA 2 (.slot 0)⟩,
    ⟨(some 3), none, .box 1 (.slot 1)⟩,
    ⟨(some 4), none, .mov (.lit (.bool false))⟩] [3] [2] []
def F_graph_met_r1 : SCode := .region [
    ⟨(some 7), none, .mkFunc n_graph_met_1 [(.slot 3)]⟩,
    ⟨(some 5), none, .alloc (.nilfn)⟩,
    ⟨none, none, .store 1 (.slot 5) (.slot 7)⟩] [5] [2] []
def F_graph_met_r2 : SCode := .region [
    ⟨(some 8), none, .mkFunc n_graph_met_2 [(.slot 5)]⟩,
    ⟨(some 6), none, .mov (.slot 8)⟩] [6] [2] []
def F_graph_met_r3 : SCode := .region [
    ⟨(some 9), none, .faddrA 0 2⟩,
    ⟨(some 10), none, .loadA false 1 9⟩,
    ⟨(some 11), none, .un .not (.slot 10)⟩,
    ⟨(some 12), none, .mov (.slot 11)⟩,
    ⟨(some 13), some (12, false), .faddrA 1 2⟩,
    ⟨(some 14), some (12, false), .loadA false 1 13⟩,
    ⟨(some 15), some (12, false), .mov (.slot 6)⟩,
    ⟨(some 16), some (12, false), .call n_slices_ContainsFunc_LLapi_Term_Lapi_Term [(.slot 14), (.slot 15)]⟩,
    ⟨(some 17), none, .pick (.slot 12) (.lit (.bool true)) (.slot 16)⟩,
    ⟨(some 4), none, .mov (.slot 17)⟩] [4] [] []
def F_graph_met : SFun := ⟨2, (.seq F_graph_met_r0 (.seq F_graph_met_r1 (.seq F_graph_met_r2 (.seq F_graph_met_r3 .ret)))), [.slot 4], false⟩
def h_graph_met : Hints := { boxes := [2], addrs := [9, 13], post := [(3, [4], [], []), (2, [6], [2], []), (1, [5], [2], []), (0, [3], [2], [])], order := [], keep := false }
theorem ok_graph_met : cFunc Tryd.prog h_graph_met n_graph_met = some F_graph_met := by kernel_rfl
/- logjam/report.term -/
def F_report_term_r0 : SCode := .region [
    ⟨(some 1), none, .boxA 2 (.slot 0)⟩,
    ⟨(some 2), none, .mov (.lit (.int .i64 (0)))⟩] [] [1] []
def F_report_term_r1 : SCode := .region [
    ⟨(some 7), none, .faddrA 0 1⟩,
    ⟨(some 8), none, .loadA false 1 7⟩,
    ⟨(some 9), none, .call n_report_units [(.slot 8)]⟩,
    ⟨(some 10), none, .un .not (.slot 9)⟩] [10] [1] []
def F_report_term_r2 : SCode := .region [
    ⟨(some 2), none, .mov (.lit (.int .i64 (1)))⟩] [2] [] []
def F_report_term_r3 : SCode := .region [
    ⟨(some 3), none, .mov (.lit (.int .i64 (-1)))⟩,
    ⟨(some 4), none, .mov (.lit (.int .i64 (0)))⟩] [3, 4] [1] []
def F_report_term_r4 : SCode := .region [
    ⟨(some 11), none, .faddrA 1 1⟩,
    ⟨(some 12), none, .loadA false 1 11⟩,
    ⟨(some 13), none, .len .sl (.slot 12)⟩,
    ⟨(some 14), none, .mov (.lit (.int .i64 (0)))⟩] [3, 4, 12, 13, 14] [] []
def F_report_term_r5 : SCode := .region [
    ⟨(some 15), none, .bin .lss .no (.slot 14) (.slot 13)⟩] [3, 4, 12, 13, 14, 15] [] []
def F_report_term_r6 : SCode := .region [
    ⟨(some 16), none, .iaddr 2 (.slot 12) (.slot 14)⟩,
    ⟨(some 17), none, .load true 2 (.slot 16)⟩,
    ⟨(some 6), none, .allocA [.int .i64 (0), .int .i64 (0)]⟩,
    ⟨none, none, .storeA 2 6 (.slot 17)⟩] [3, 4, 12, 13, 14] [6] []
def F_report_term_r7 : SCode := .region [
    ⟨(some 18), none, .faddrA 0 6⟩,
    ⟨(some 19), none, .loadA false 1 18⟩,
    ⟨(some 20), none, .mov (.slot 3)⟩,
    ⟨(some 21), none, .bin .leq .no (.slot 19) (.slot 20)⟩,
    ⟨(some 22), none, .mov (.slot 21)⟩,
    ⟨(some 23), some (22, false), .faddrA 0 6⟩,
    ⟨(some 24), some (22, false), .loadA false 1 23⟩,
    ⟨(some 25), some (22, false), .bin .geq .no (.slot 24) (.lit (.int .i64 (64)))⟩,
    ⟨(some 26), none, .pick (.slot 22) (.lit (.bool true)) (.slot 25)⟩] [4, 12, 13, 14, 26] [6] []
def F_report_term_r8 : SCode := .region [
    ⟨(some 2), none, .mov (.lit (.int .i64 (2)))⟩] [2] [] []
def F_report_term_r9 : SCode := .region [
    ⟨(some 27), none, .faddrA 0 6⟩,
    ⟨(some 28), none, .loadA false 1 27⟩,
    ⟨(some 3), none, .mov (.slot 28)⟩] [3, 4, 12, 13, 14] [6] []
def F_report_term_r10 : SCode := .region [
    ⟨(some 29), none, .faddrA 1 6⟩,
    ⟨(some 30), none, .loadA false 1 29⟩,
    ⟨(some 31), none, .call n_report_units [(.slot 30)]⟩,
    ⟨(some 32), none, .un .not (.slot 31)⟩] [3, 4, 12, 13, 14, 32] [] []
def F_report_term_r11 : SCode := .region [
    ⟨(some 4), none, .mov (.lit (.int .i64 (1)))⟩] [3, 4, 12, 13, 14] [] []
def F_report_term_r12 : SCode := .region [
    ⟨(some 33), none, .bin .add .no (.slot 14) (.lit (.int .i64 (1)))⟩,
    ⟨(some 14), none, .mov (.slot 33)⟩] [3, 4, 12, 13, 14] [] []
def F_report_term_l13 : SCode := (.seq F_report_term_r5 (.seq (.cond (.slot 15) .skip (.exit 0)) (.seq (.block 1 (.seq F_report_term_r6 (.seq (.seq F_report_term_r7 (.cond (.slot 26) (.seq F_report_term_r8 .ret) .skip)) (.seq F_report_term_r9 (.seq F_report_term_r10 (.cond (.slot 32) F_report_term_r11 .skip)))))) F_report_term_r12)))
def F_report_term_r14 : SCode := .region [
    ⟨(some 34), none, .mov (.slot 4)⟩,
    ⟨(some 2), none, .mov (.slot 34)⟩] [2] [] []
def F_report_term : SFun := ⟨1, (.seq F_report_term_r0 (.seq (.seq F_report_term_r1 (.cond (.slot 10) (.seq F_report_term_r2 .ret) .skip)) (.seq F_report_term_r3 (.seq (.seq F_report_term_r4 (.block 0 (.loop F_report_term_l13))) (.seq F_report_term_r14 .ret))))), [.slot 2], false⟩
def h_report_term : Hints := { boxes := [1, 6], addrs := [7, 11, 18, 23, 27, 29], post := [(13, [2], [], []), (12, [3, 4, 12, 13, 14], [], []), (11, [3, 4, 12, 13, 14], [], []), (10, [3, 4, 12, 13, 14, 32], [], []), (9, [3, 4, 12, 13, 14], [6], []), (8, [2], [], []), (7, [4, 12, 13, 14, 26], [6], []), (6, [3, 4, 12, 13, 14], [6], []), (5, [3, 4, 12, 13, 14, 15], [], []), (4, [3, 4, 12, 13, 14], [], []), (3, [3, 4], [1], []), (2, [2], [], []), (1, [10], [1], []), (0, [], [1], [])], order := [], keep := false }
theorem ok_report_term : cFunc Tryd.prog h_report_term n_report_term = some F_report_term := by kernel_rfl
/- cmp.Less[int] -/
def F_cmp_Less_int_r0 : SCode := .region [
    ⟨(some 4), none, .mov (.lit (.bool false))⟩] [0, 1] [] []
def F_cmp_Less_int_r1 : SCode := .region [
    ⟨(some 5), none, .mov (.slot 0)⟩,
    ⟨(some 6), none, .call n_cmp_isNaN_int [(.slot 5)]⟩,
    ⟨(some 7), none, .mov (.slot 6)⟩,
    ⟨(some 8), some (7, true), .mov (.slot 1)⟩,
    ⟨(some 9), some (7, true), .call n_cmp_isNaN_int [(.slot 8)]⟩,
    ⟨(some 10), some (7, true), .un .not (.slot 9)⟩,
    ⟨(some 11), none, .pick (.slot 7) (.slot 10) (.lit (.bool false))⟩,
    ⟨(some 12), none, .mov (.slot 11)⟩,
    ⟨(some 13), some (12, false), .mov (.slot 0)⟩,
    ⟨(some 14), some (12, false), .mov (.slot 1)⟩,
    ⟨(some 15), some (12, false), .bin .lss .no (.slot 13) (.slot 14)⟩,
    ⟨(some 16), none, .pick (.slot 12) (.lit (.bool true)) (.slot 15)⟩,
    ⟨(some 4), none, .mov (.slot 16)⟩] [4] [] []
def F_cmp_Less_int : SFun := ⟨2, (.seq F_cmp_Less_int_r0 (.seq F_cmp_Less_int_r1 .ret)), [.slot 4], false⟩
def h_cmp_Less_int : Hints := { boxes := [], addrs := [], post := [(1, [4], [], []), (0, [0, 1], [], [])], order := [], keep := false }
theorem ok_cmp_Less_int : cFunc Tryd.prog h_cmp_Less_int n_cmp_Less_int = some F_cmp_Less_int := by kernel_rfl
/- slices.isNaN[int] -/
def F_slices_isNaN_int_r0 : SCode := .region [
    ⟨(some 2), none, .mov (.lit (.bool false))⟩] [0] [] []
def F_slices_isNaN_int_r1 : SCode := .region [
    ⟨(some 3), none, .mov (.slot 0)⟩,
    ⟨(some 4), none, .mov (.slot 0)⟩,
    ⟨(some 5), none, .bin .neq .int (.slot 3) (.slot 4)⟩,
    ⟨(some 2), none, .mov (.slot 5)⟩] [2] [] []
def F_slices_isNaN_int : SFun := ⟨1, (.seq F_slices_isNaN_int_r0 (.seq F_slices_isNaN_int_r1 .ret)), [.slot 2], false⟩
def h_slices_isNaN_int : Hints := { boxes := [], addrs := [], post := [(1, [2], [], []), (0, [0], [], [])], order := [], keep := false }
theorem ok_slices_isNaN_int : cFunc Tryd.prog h_slices_isNaN_int n_slices_isNaN_int = some F_slices_isNaN_int := by kernel_rfl
/- math/bits.TrailingZeros64 -/
def F_math_bits_TrailingZeros64_r0 : SCode := .region [
    ⟨(some 2), none, .mov (.lit (.int .i64 (0)))⟩] [0] [] []
def F_math_bits_TrailingZeros64_r1 : SCode := .region [
    ⟨(some 3), none, .mov (.slot 0)⟩,
    ⟨(some 4), none, .bin .eql .int (.slot 3) (.lit (.int .u64 (0)))⟩] [0, 4] [] []
def F_math_bits_TrailingZeros64_r2 : SCode := .region [
    ⟨(some 2), none, .mov (.lit (.int .i64 (64)))⟩] [2] [] []
def F_math_bits_TrailingZeros64_r3 : SCode := .region [
    ⟨(some 5), none, .mov (.slot 0)⟩,
    ⟨(some 6), none, .mov (.slot 0)⟩,
    ⟨(some 7), none, .un .neg (.slot 6)⟩,
    ⟨(some 8), none, .bin .and .no (.slot 5) (.slot 7)⟩,
    ⟨(some 9), none, .bin .mul .no (.slot 8) (.lit (.int .u64 (285870213051353865)))⟩,
    ⟨(some 10), none, .bin .shr .no (.slot 9) (.lit (.int .u64 (58)))⟩,
    ⟨(some 11), none, .iaddrP 64 1 (.lit (.fptr glob_math_bits_deBruijn64tab 0)) (.slot 10)⟩,
    ⟨(some 12), none, .load false 1 (.slot 11)⟩,
    ⟨(some 13), none, .conv .i64 (.slot 12)⟩,
    ⟨(some 2), none, .mov (.slot 13)⟩] [2] [] []
def F_math_bits_TrailingZeros64 : SFun := ⟨1, (.seq F_math_bits_TrailingZeros64_r0 (.seq (.seq F_math_bits_TrailingZeros64_r1 (.cond (.slot 4) (.seq F_math_bits_TrailingZeros64_r2 .ret) .skip)) (.seq F_math_bits_TrailingZeros64_r3 .ret))), [.slot 2], false⟩
def h_math_bits_TrailingZeros64 : Hints := { boxes := [], addrs := [], post := [(3, [2], [], []), (2, [2], [], []), (1, [0, 4], [], []), (0, [0], [], [])], order := [], keep := false, globals := [(g_math_bits_deBruijn64tab, glob_math_bits_deBruijn64tab)] }
theorem ok_math_bits_TrailingZeros64 : cFunc Tryd.prog h_math_bits_TrailingZeros64 n_math_bits_TrailingZeros64 = some F_math_bits_TrailingZeros64 := by kernel_rfl
/- (logjam/bits.Set).Count -/
def F_bits_Set_Count_r0 : SCode := .region [
    ⟨(some 2), none, .mov (.lit (.int .i64 (0)))⟩] [0] [] []
def F_bits_Set_Count_r1 : SCode := .region [
    ⟨(some 3), none, .mov (.slot 0)⟩,
    ⟨(some 4), none, .call n_math_bits_OnesCount64 [(.slot 3)]⟩,
    ⟨(some 2), none, .mov (.slot 4)⟩] [2] [] []
def F_bits_Set_Count : SFun := ⟨1, (.seq F_bits_Set_Count_r0 (.seq F_bits_Set_Count_r1 .ret)), [.slot 2], false⟩
def h_bits_Set_Count : Hints := { boxes := [], addrs := [], post := [(1, [2], [], []), (0, [0], [], [])], order := [], keep := false }
theorem ok_bits_Set_Count : cFunc Tryd.prog h_bits_Set_Count n_bits_Set_Count = some F_bits_Set_Count := by kernel_rfl
/- slices.Clone[[]logjam/api.Share,logjam/api.Share] -/
def F_slices_Clone_Lapi_Share_api_Share_r0 : SCode := .region [
    ⟨(some 2), none, .mov (.lit (.nilsl))⟩] [0] [] []
def F_slices_Clone_Lapi_Share_api_Share_r1 : SCode := .region [
    ⟨(some 3), none, .mov (.slot 0)⟩,
    ⟨(some 4), none, .bin .eql .slice (.slot 3) (.lit (.nilsl))⟩] [0, 4] [] []
def F_slices_Clone_Lapi_Share_api_Share_r2 : SCode := .region [
    ⟨(some 2), none, .mov (.lit (.nilsl))⟩] [2] [] []
def F_slices_Clone_Lapi_Share_api_Share_r3 : SCode := .region [
    ⟨(some 5), none, .buildSlice 2 (.agg [.int .i64 (0), .int .i64 (0)]) 0 []⟩,
    ⟨(some 6), none, .mov (.slot 0)⟩,
    ⟨(some 7), none, .append 2 16 (.slot 5) (.slot 6)⟩,
    ⟨(some 2), none, .mov (.slot 7)⟩] [2] [] []
def F_slices_Clone_Lapi_Share_api_Share : SFun := ⟨1, (.seq F_slices_Clone_Lapi_Share_api_Share_r0 (.seq (.seq F_slices_Clone_Lapi_Share_api_Share_r1 (.cond (.slot 4) (.seq F_slices_Clone_Lapi_Share_api_Share_r2 .ret) .skip)) (.seq F_slices_Clone_Lapi_Share_api_Share_r3 .ret))), [.slot 2], false⟩
def h_slices_Clone_Lapi_Share_api_Share : Hints := { boxes := [], addrs := [], post := [(3, [2], [], []), (2, [2], [], []), (1, [0, 4], [], []), (0, [0], [], [])], order := [], keep := false }
theorem ok_slices_Clone_Lapi_Share_api_Share : cFunc Tryd.prog h_slices_Clone_Lapi_Share_api_Share n_slices_Clone_Lapi_Share_api_Share = some F_slices_Clone_Lapi_Share_api_Share := by kernel_rfl
/- logjam/graph.met$1 -/
def F_graph_met_1_r0 : SCode := .region [
    ⟨(some 2), none, .boxA 2 (.slot 0)⟩,
    ⟨(some 3), none, .mov (.lit (.bool false))⟩] [1] [2] []
def F_graph_met_1_r1 : SCode := .region [
    ⟨(some 4), none, .loadA true 2 2⟩,
    ⟨(some 5), none, .load false 1 (.slot 1)⟩,
    ⟨(some 6), none, .call n_graph_comes [(.slot 4), (.slot 5)]⟩,
    ⟨(some 7), none, .un .not (.slot 6)⟩,
    ⟨(some 3), none, .mov (.slot 7)⟩] [3] [] []
def F_graph_met_1 : SFun := ⟨2, (.seq F_graph_met_1_r0 (.seq F_graph_met_1_r1 .ret)), [.slot 3], false⟩
def h_graph_met_1 : Hints := { boxes := [2], addrs := [], post := [(1, [3], [], []), (0, [1], [2], [])], order := [], keep := false }
theorem ok_graph_met_1 : cFunc Tryd.prog h_graph_met_1 n_graph_met_1 = some F_graph_met_1 := by kernel_rfl
/- logjam/graph.comes -/
def F_graph_comes_r0 : SCode := .region [
    ⟨(some 2), none, .boxA 2 (.slot 0)⟩,
    ⟨(some 4), none, .mov (.lit (.bool false))⟩] [1] [2] []
def F_graph_comes_r1 : SCode := .region [
    ⟨(some 5), none, .mov (.lit (.int .i64 (0)))⟩] [1, 5] [2] []
def F_graph_comes_r2 : SCode := .region [
    ⟨(some 8), none, .faddrA 1 2⟩,
    ⟨(some 9), none, .loadA false 1 8⟩,
    ⟨(some 10), none, .len .sl (.slot 9)⟩,
    ⟨(some 11), none, .mov (.lit (.int .i64 (0)))⟩] [1, 5, 9, 10, 11] [2] []
def F_graph_comes_r3 : SCode := .region [
    ⟨(some 12), none, .bin .lss .no (.slot 11) (.slot 10)⟩] [1, 5, 9, 10, 11, 12] [2] []
def F_graph_comes_r4 : SCode := .region [
    ⟨(some 13), none, .iaddr 2 (.slot 9) (.slot 11)⟩,
    ⟨(some 14), none, .load true 2 (.slot 13)⟩,
    ⟨(some 7), none, .allocA [.int .i64 (0), .int .i64 (0)]⟩,
    ⟨none, none, .storeA 2 7 (.slot 14)⟩] [1, 5, 9, 10, 11] [2, 7] []
def F_graph_comes_r5 : SCode := .region [
    ⟨(some 15), none, .mov (.slot 1)⟩,
    ⟨(some 16), none, .faddrA 0 7⟩,
    ⟨(some 17), none, .loadA false 1 16⟩,
    ⟨(some 18), none, .call n_bits_Set_Has [(.slot 15), (.slot 17)]⟩] [1, 5, 9, 10, 11, 18] [2, 7] []
def F_graph_comes_r6 : SCode := .region [
    ⟨(some 19), none, .mov (.slot 5)⟩,
    ⟨(some 20), none, .loadA true 2 7⟩,
    ⟨(some 21), none, .call n_graph_share [(.slot 20)]⟩,
    ⟨(some 22), none, .bin .add .no (.slot 19) (.slot 21)⟩,
    ⟨(some 5), none, .mov (.slot 22)⟩] [1, 5, 9, 10, 11] [2] []
def F_graph_comes_r7 : SCode := .region [
    ⟨(some 23), none, .bin .add .no (.slot 11) (.lit (.int .i64 (1)))⟩,
    ⟨(some 11), none, .mov (.slot 23)⟩] [1, 5, 9, 10, 11] [2] []
def F_graph_comes_l8 : SCode := (.seq F_graph_comes_r3 (.seq (.cond (.slot 12) .skip (.exit 0)) (.seq (.block 1 (.seq F_graph_comes_r4 (.seq F_graph_comes_r5 (.cond (.slot 18) F_graph_comes_r6 .skip)))) F_graph_comes_r7)))
def F_graph_comes_r9 : SCode := .region [
    ⟨(some 24), none, .mov (.slot 5)⟩,
    ⟨(some 25), none, .faddrA 0 2⟩,
    ⟨(some 26), none, .loadA false 1 25⟩,
    ⟨(some 27), none, .bin .geq .no (.slot 24) (.slot 26)⟩,
    ⟨(some 4), none, .mov (.slot 27)⟩] [4] [] []
def F_graph_comes : SFun := ⟨2, (.seq F_graph_comes_r0 (.seq F_graph_comes_r1 (.seq (.seq F_graph_comes_r2 (.block 0 (.loop F_graph_comes_l8))) (.seq F_graph_comes_r9 .ret)))), [.slot 4], false⟩
def h_graph_comes : Hints := { boxes := [2, 7], addrs := [8, 16, 25], post := [(8, [4], [], []), (7, [1, 5, 9, 10, 11], [2], []), (6, [1, 5, 9, 10, 11], [2], []), (5, [1, 5, 9, 10, 11, 18], [2, 7], []), (4, [1, 5, 9, 10, 11], [2, 7], []), (3, [1, 5, 9, 10, 11, 12], [2], []), (2, [1, 5, 9, 10, 11], [2], []), (1, [1, 5], [2], []), (0, [1], [2], [])], order := [], keep := false }
theorem ok_graph_comes : cFunc Tryd.prog h_graph_comes n_graph_comes = some F_graph_comes := by kernel_rfl
/- logjam/graph.met$2 -/
def F_graph_met_2_r0 : SCode := .region [
    ⟨(some 3), none, .mov (.lit (.bool false))⟩] [0, 1] [] []
def F_graph_met_2_r1 : SCode := .region [
    ⟨(some 4), none, .mov (.slot 0)⟩,
    ⟨(some 5), none, .load false 1 (.slot 1)⟩,
    ⟨(some 6), none, .call n_slices_ContainsFunc_Lapi_Term_api_Term [(.slot 4), (.slot 5)]⟩,
    ⟨(some 7), none, .un .not (.slot 6)⟩,
    ⟨(some 3), none, .mov (.slot 7)⟩] [3] [] []
def F_graph_met_2 : SFun := ⟨2, (.seq F_graph_met_2_r0 (.seq F_graph_met_2_r1 .ret)), [.slot 3], false⟩
def h_graph_met_2 : Hints := { boxes := [], addrs := [], post := [(1, [3], [], []), (0, [0, 1], [], [])], order := [], keep := false }
theorem ok_graph_met_2 : cFunc Tryd.prog h_graph_met_2 n_graph_met_2 = some F_graph_met_2 := by kernel_rfl
/- slices.ContainsFunc[[]logjam/api.Term,logjam/api.Term] -/
def F_slices_ContainsFunc_Lapi_Term_api_Term_r0 : SCode := .region [
    ⟨(some 4), none, .mov (.lit (.bool false))⟩] [0, 1] [] []
def F_slices_ContainsFunc_Lapi_Term_api_Term_r1 : SCode := .region [
    ⟨(some 5), none, .mov (.slot 0)⟩,
    ⟨(some 6), none, .mov (.slot 1)⟩,
    ⟨(some 7), none, .call n_slices_IndexFunc_Lapi_Term_api_Term [(.slot 5), (.slot 6)]⟩,
    ⟨(some 8), none, .bin .geq .no (.slot 7) (.lit (.int .i64 (0)))⟩,
    ⟨(some 4), none, .mov (.slot 8)⟩] [4] [] []
def F_slices_ContainsFunc_Lapi_Term_api_Term : SFun := ⟨2, (.seq F_slices_ContainsFunc_Lapi_Term_api_Term_r0 (.seq F_slices_ContainsFunc_Lapi_Term_api_Term_r1 .ret)), [.slot 4], false⟩
def h_slices_ContainsFunc_Lapi_Term_api_Term : Hints := { boxes := [], addrs := [], post := [(1, [4], [], []), (0, [0, 1], [], [])], order := [], keep := false }
theorem ok_slices_ContainsFunc_Lapi_Term_api_Term : cFunc Tryd.prog h_slices_ContainsFunc_Lapi_Term_api_Term n_slices_ContainsFunc_Lapi_Term_api_Term = some F_slices_ContainsFunc_Lapi_Term_api_Term := by kernel_rfl
/- slices.ContainsFunc[[][]logjam/api.Term,[]logjam/api.Term] -/
def F_slices_ContainsFunc_LLapi_Term_Lapi_Term_r0 : SCode := .region [
    ⟨(some 4), none, .mov (.lit (.bool false))⟩] [0, 1] [] []
def F_slices_ContainsFunc_LLapi_Term_Lapi_Term_r1 : SCode := .region [
    ⟨(some 5), none, .mov (.slot 0)⟩,
    ⟨(some 6), none, .mov (.slot 1)⟩,
    ⟨(some 7), none, .call n_slices_IndexFunc_LLapi_Term_Lapi_Term [(.slot 5), (.slot 6)]⟩,
    ⟨(some 8), none, .bin .geq .no (.slot 7) (.lit (.int .i64 (0)))⟩,
    ⟨(some 4), none, .mov (.slot 8)⟩] [4] [] []
def F_slices_ContainsFunc_LLapi_Term_Lapi_Term : SFun := ⟨2, (.seq F_slices_ContainsFunc_LLapi_Term_Lapi_Term_r0 (.seq F_slices_ContainsFunc_LLapi_Term_Lapi_Term_r1 .ret)), [.slot 4], false⟩
def h_slices_ContainsFunc_LLapi_Term_Lapi_Term : Hints := { boxes := [], addrs := [], post := [(1, [4], [], []), (0, [0, 1], [], [])], order := [], keep := false }
theorem ok_slices_ContainsFunc_LLapi_Term_Lapi_Term : cFunc Tryd.prog h_slices_ContainsFunc_LLapi_Term_Lapi_Term n_slices_ContainsFunc_LLapi_Term_Lapi_Term = some F_slices_ContainsFunc_LLapi_Term_Lapi_Term := by kernel_rfl
/- logjam/report.units -/
def F_report_units_r0 : SCode := .region [
    ⟨(some 2), none, .mov (.lit (.bool false))⟩] [0] [] []
def F_report_units_r1 : SCode := .region [
    ⟨(some 3), none, .mov (.slot 0)⟩,
    ⟨(some 4), none, .bin .geq .no (.slot 3) (.lit (.int .i64 (1)))⟩,
    ⟨(some 5), none, .mov (.slot 4)⟩,
    ⟨(some 6), some (5, true), .mov (.slot 0)⟩,
    ⟨(some 7), some (5, true), .bin .leq .no (.slot 6) (.lit (.int .i64 (1000)))⟩,
    ⟨(some 8), none, .pick (.slot 5) (.slot 7) (.lit (.bool false))⟩,
    ⟨(some 2), none, .mov (.slot 8)⟩] [2] [] []
def F_report_units : SFun := ⟨1, (.seq F_report_units_r0 (.seq F_report_units_r1 .ret)), [.slot 2], false⟩
def h_report_units : Hints := { boxes := [], addrs := [], post := [(1, [2], [], []), (0, [0], [], [])], order := [], keep := false }
theorem ok_report_units : cFunc Tryd.prog h_report_units n_report_units = some F_report_units := by kernel_rfl
/- cmp.isNaN[int] -/
def F_cmp_isNaN_int_r0 : SCode := .region [
    ⟨(some 2), none, .mov (.lit (.bool false))⟩] [0] [] []
def F_cmp_isNaN_int_r1 : SCode := .region [
    ⟨(some 3), none, .mov (.slot 0)⟩,
    ⟨(some 4), none, .mov (.slot 0)⟩,
    ⟨(some 5), none, .bin .neq .int (.slot 3) (.slot 4)⟩,
    ⟨(some 2), none, .mov (.slot 5)⟩] [2] [] []
def F_cmp_isNaN_int : SFun := ⟨1, (.seq F_cmp_isNaN_int_r0 (.seq F_cmp_isNaN_int_r1 .ret)), [.slot 2], false⟩
def h_cmp_isNaN_int : Hints := { boxes := [], addrs := [], post := [(1, [2], [], []), (0, [0], [], [])], order := [], keep := false }
theorem ok_cmp_isNaN_int : cFunc Tryd.prog h_cmp_isNaN_int n_cmp_isNaN_int = some F_cmp_isNaN_int := by kernel_rfl
/- math/bits.OnesCount64 -/
def F_math_bits_OnesCount64_r0 : SCode := .region [
    ⟨(some 2), none, .mov (.lit (.int .i64 (0)))⟩] [0] [] []
def F_math_bits_OnesCount64_r1 : SCode := .region [
    ⟨(some 3), none, .mov (.slot 0)⟩,
    ⟨(some 4), none, .bin .shr .no (.slot 3) (.lit (.int .u64 (1)))⟩,
    ⟨(some 5), none, .bin .and .no (.slot 4) (.lit (.int .u64 (6148914691236517205)))⟩,
    ⟨(some 6), none, .mov (.slot 0)⟩,
    ⟨(some 7), none, .bin .and .no (.slot 6) (.lit (.int .u64 (6148914691236517205)))⟩,
    ⟨(some 8), none, .bin .add .no (.slot 5) (.slot 7)⟩,
    ⟨(some 0), none, .mov (.slot 8)⟩] [0] [] []
def F_math_bits_OnesCount64_r2 : SCode := .region [
    ⟨(some 9), none, .mov (.slot 0)⟩,
    ⟨(some 10), none, .bin .shr .no (.slot 9) (.lit (.int .u64 (2)))⟩,
    ⟨(some 11), none, .bin .and .no (.slot 10) (.lit (.int .u64 (3689348814741910323)))⟩,
    ⟨(some 12), none, .mov (.slot 0)⟩,
    ⟨(some 13), none, .bin .and .no (.slot 12) (.lit (.int .u64 (3689348814741910323)))⟩,
    ⟨(some 14), none, .bin .add .no (.slot 11) (.slot 13)⟩,
    ⟨(some 0), none, .mov (.slot 14)⟩] [0] [] []
def F_math_bits_OnesCount64_r3 : SCode := .region [
    ⟨(some 15), none, .mov (.slot 0)⟩,
    ⟨(some 16), none, .bin .shr .no (.slot 15) (.lit (.int .u64 (4)))⟩,
    ⟨(some 17), none, .mov (.slot 0)⟩,
    ⟨(some 18), none, .bin .add .no (.slot 16) (.slot 17)⟩,
    ⟨(some 19), none, .bin .and .no (.slot 18) (.lit (.int .u64 (1085102592571150095)))⟩,
    ⟨(some 0), none, .mov (.slot 19)⟩] [0] [] []
def F_math_bits_OnesCount64_r4 : SCode := .region [
    ⟨(some 20), none, .mov (.slot 0)⟩,
    ⟨(some 21), none, .mov (.slot 0)⟩,
    ⟨(some 22), none, .bin .shr .no (.slot 21) (.lit (.int .u64 (8)))⟩,
    ⟨(some 23), none, .bin .add .no (.slot 20) (.slot 22)⟩,
    ⟨(some 0), none, .mov (.slot 23)⟩] [0] [] []
def F_math_bits_OnesCount64_r5 : SCode := .region [
    ⟨(some 24), none, .mov (.slot 0)⟩,
    ⟨(some 25), none, .mov (.slot 0)⟩,
    ⟨(some 26), none, .bin .shr .no (.slot 25) (.lit (.int .u64 (16)))⟩,
    ⟨(some 27), none, .bin .add .no (.slot 24) (.slot 26)⟩,
    ⟨(some 0), none, .mov (.slot 27)⟩] [0] [] []
def F_math_bits_OnesCount64_r6 : SCode := .region [
    ⟨(some 28), none, .mov (.slot 0)⟩,
    ⟨(some 29), none, .mov (.slot 0)⟩,
    ⟨(some 30), none, .bin .shr .no (.slot 29) (.lit (.int .u64 (32)))⟩,
    ⟨(some 31), none, .bin .add .no (.slot 28) (.slot 30)⟩,
    ⟨(some 0), none, .mov (.slot 31)⟩] [0] [] []
def F_math_bits_OnesCount64_r7 : SCode := .region [
    ⟨(some 32), none, .mov (.slot 0)⟩,
    ⟨(some 33), none, .conv .i64 (.slot 32)⟩,
    ⟨(some 34), none, .bin .and .no (.slot 33) (.lit (.int .i64 (127)))⟩,
    ⟨(some 2), none, .mov (.slot 34)⟩] [2] [] []
def F_math_bits_OnesCount64 : SFun := ⟨1, (.seq F_math_bits_OnesCount64_r0 (.seq F_math_bits_OnesCount64_r1 (.seq F_math_bits_OnesCount64_r2 (.seq F_math_bits_OnesCount64_r3 (.seq F_math_bits_OnesCount64_r4 (.seq F_math_bits_OnesCount64_r5 (.seq F_math_bits_OnesCount64_r6 (.seq F_math_bits_OnesCount64_r7 .ret)))))))), [.slot 2], false⟩
def h_math_bits_OnesCount64 : Hints := { boxes := [], addrs := [], post := [(7, [2], [], []), (6, [0], [], []), (5, [0], [], []), (4, [0], [], []), (3, [0], [], []), (2, [0], [], []), (1, [0], [], []), (0, [0], [], [])], order := [], keep := false }
theorem ok_math_bits_OnesCount64 : cFunc Tryd.prog h_math_bits_OnesCount64 n_math_bits_OnesCount64 = some F_math_bits_OnesCount64 := by kernel_rfl
/- logjam/graph.share -/
def F_graph_share_r0 : SCode := .region [
    ⟨(some 1), none, .boxA 2 (.slot 0)⟩,
    ⟨(some 2), none, .mov (.lit (.int .i64 (0)))⟩] [] [1] []
def F_graph_share_r1 : SCode := .region [
    ⟨(some 3), none, .faddrA 1 1⟩,
    ⟨(some 4), none, .loadA false 1 3⟩,
    ⟨(some 5), none, .minmax true [(.slot 4), (.lit (.int .i64 (0)))]⟩,
    ⟨(some 6), none, .minmax false [(.slot 5), (.lit (.int .i64 (1048576)))]⟩,
    ⟨(some 2), none, .mov (.slot 6)⟩] [2] [] []
def F_graph_share : SFun := ⟨1, (.seq F_graph_share_r0 (.seq F_graph_share_r1 .ret)), [.slot 2], false⟩
def h_graph_share : Hints := { boxes := [1], addrs := [3], post := [(1, [2], [], []), (0, [], [1], [])], order := [], keep := false }
theorem ok_graph_share : cFunc Tryd.prog h_graph_share n_graph_share = some F_graph_share := by kernel_rfl
/- slices.IndexFunc[[][]logjam/api.Term,[]logjam/api.Term] -/
def F_slices_IndexFunc_LLapi_Term_Lapi_Term_r0 : SCode := .region [
    ⟨(some 4), none, .mov (.lit (.int .i64 (0)))⟩] [0, 1] [] []
def F_slices_IndexFunc_LLapi_Term_Lapi_Term_r1 : SCode := .region [
    ⟨(some 6), none, .mov (.slot 0)⟩,
    ⟨(some 7), none, .len .sl (.slot 6)⟩,
    ⟨(some 8), none, .mov (.lit (.int .i64 (0)))⟩] [0, 1, 7, 8] [] []
def F_slices_IndexFunc_LLapi_Term_Lapi_Term_r2 : SCode := .region [
    ⟨(some 9), none, .bin .lss .no (.slot 8) (.slot 7)⟩] [0, 1, 7, 8, 9] [] []
def F_slices_IndexFunc_LLapi_Term_Lapi_Term_r3 : SCode := .region [
    ⟨(some 10), none, .mov (.slot 8)⟩,
    ⟨(some 5), none, .mov (.slot 10)⟩] [0, 1, 5, 7, 8] [] []
def F_slices_IndexFunc_LLapi_Term_Lapi_Term_r4 : SCode := .region [
    ⟨(some 11), none, .mov (.slot 1)⟩,
    ⟨(some 12), none, .mov (.slot 0)⟩,
    ⟨(some 13), none, .mov (.slot 5)⟩,
    ⟨(some 14), none, .iaddr 1 (.slot 12) (.slot 13)⟩,
    ⟨(some 15), none, .load false 1 (.slot 14)⟩,
    ⟨(some 16), none, .callv (.slot 11) [(.slot 15)]⟩] [0, 1, 5, 7, 8, 16] [] []
def F_slices_IndexFunc_LLapi_Term_Lapi_Term_r5 : SCode := .region [
    ⟨(some 17), none, .mov (.slot 5)⟩,
    ⟨(some 4), none, .mov (.slot 17)⟩] [4] [] []
def F_slices_IndexFunc_LLapi_Term_Lapi_Term_r6 : SCode := .region [
    ⟨(some 18), none, .bin .add .no (.slot 8) (.lit (.int .i64 (1)))⟩,
    ⟨(some 8), none, .mov (.slot 18)⟩] [0, 1, 7, 8] [] []
def F_slices_IndexFunc_LLapi_Term_Lapi_Term_l7 : SCode := (.seq F_slices_IndexFunc_LLapi_Term_Lapi_Term_r2 (.seq (.cond (.slot 9) .skip (.exit 0)) (.seq (.block 1 (.seq F_slices_IndexFunc_LLapi_Term_Lapi_Term_r3 (.seq F_slices_IndexFunc_LLapi_Term_Lapi_Term_r4 (.cond (.slot 16) (.seq F_slices_IndexFunc_LLapi_Term_Lapi_Term_r5 .ret) .skip)))) F_slices_IndexFunc_LLapi_Term_Lapi_Term_r6)))
def F_slices_IndexFunc_LLapi_Term_Lapi_Term_r8 : SCode := .region [
    ⟨(some 4), none, .mov (.lit (.int .i64 (-1)))⟩] [4] [] []
def F_slices_IndexFunc_LLapi_Term_Lapi_Term : SFun := ⟨2, (.seq F_slices_IndexFunc_LLapi_Term_Lapi_Term_r0 (.seq (.seq F_slices_IndexFunc_LLapi_Term_Lapi_Term_r1 (.block 0 (.loop F_slices_IndexFunc_LLapi_Term_Lapi_Term_l7))) (.seq F_slices_IndexFunc_LLapi_Term_Lapi_Term_r8 .ret))), [.slot 4], false⟩
def h_slices_IndexFunc_LLapi_Term_Lapi_Term : Hints := { boxes := [], addrs := [], post := [(7, [4], [], []), (6, [0, 1, 7, 8], [], []), (5, [4], [], []), (4, [0, 1, 5, 7, 8, 16], [], []), (3, [0, 1, 5, 7, 8], [], []), (2, [0, 1, 7, 8, 9], [], []), (1, [0, 1, 7, 8], [], []), (0, [0, 1], [], [])], order := [], keep := false }
theorem ok_slices_IndexFunc_LLapi_Term_Lapi_Term : cFunc Tryd.prog h_slices_IndexFunc_LLapi_Term_Lapi_Term n_slices_IndexFunc_LLapi_Term_Lapi_Term = some F_slices_IndexFunc_LLapi_Term_Lapi_Term := by kernel_rfl
def tab_0 : List (Nat × SFun) := [
  (n_law37_WitnessProves, F_law37_WitnessProves),
  (n_law36_Own, F_law36_Own),
  (n_law26_Own, F_law26_Own),
  (n_witness_Sound, F_witness_Sound),
  (n_witness_Match, F_witness_Match),
  (n_law37_lives, F_law37_lives),
  (n_graph_Doomed, F_graph_Doomed),
  (n_ref02_Has, F_ref02_Has),
  (n_report_Check, F_report_Check),
  (n_bits_Of, F_bits_Of),
  (n_witness_lacks, F_witness_lacks),
  (n_witness_same, F_witness_same),
  (n_law37_ask, F_law37_ask),
  (n_witness_Core, F_witness_Core),
  (n_witness_Lack, F_witness_Lack),
  (n_witness_Part, F_witness_Part),
  (n_graph_Check, F_graph_Check),
  (n_graph_order, F_graph_order),
  (n_bits_All, F_bits_All),
  (n_report_node, F_report_node),
  (n_bits_one, F_bits_one),
  (n_slices_IndexFunc_Lapi_Term_api_Term, F_slices_IndexFunc_Lapi_Term_api_Term),
  (n_witness_lacks_1, F_witness_lacks_1),
  (n_witness_comes, F_witness_comes),
  (n_witness_same_1, F_witness_same_1),
  (n_slices_Equal_Lapi_Share_api_Share, F_slices_Equal_Lapi_Share_api_Share),
  (n_witness_same_2, F_witness_same_2),
  (n_slices_EqualFunc_Lapi_Term_Lapi_Term_api_Term_api_Term, F_slices_EqualFunc_Lapi_Term_Lapi_Term_api_Term_api_Term),
  (n_slices_EqualFunc_LLapi_Term_LLapi_Term_Lapi_Term_Lapi_Term, F_slices_EqualFunc_LLapi_Term_LLapi_Term_Lapi_Term_Lapi_Term),
  (n_bits_Set_Has, F_bits_Set_Has),
  (n_slices_BinarySearch_Lint_int, F_slices_BinarySearch_Lint_int),
  (n_bits_Set_First, F_bits_Set_First),
  (n_bits_Set_Without, F_bits_Set_Without),
  (n_bits_Set_With, F_bits_Set_With),
  (n_bits_Set_List, F_bits_Set_List),
  (n_witness_clone, F_witness_clone),
  (n_graph_asks, F_graph_asks),
  (n_graph_met, F_graph_met),
  (n_report_term, F_report_term),
  (n_cmp_Less_int, F_cmp_Less_int),
  (n_slices_isNaN_int, F_slices_isNaN_int),
  (n_math_bits_TrailingZeros64, F_math_bits_TrailingZeros64),
  (n_bits_Set_Count, F_bits_Set_Count),
  (n_slices_Clone_Lapi_Share_api_Share, F_slices_Clone_Lapi_Share_api_Share),
  (n_graph_met_1, F_graph_met_1),
  (n_graph_comes, F_graph_comes),
  (n_graph_met_2, F_graph_met_2),
  (n_slices_ContainsFunc_Lapi_Term_api_Term, F_slices_ContainsFunc_Lapi_Term_api_Term),
  (n_slices_ContainsFunc_LLapi_Term_Lapi_Term, F_slices_ContainsFunc_LLapi_Term_Lapi_Term),
  (n_report_units, F_report_units),
  (n_cmp_isNaN_int, F_cmp_isNaN_int),
  (n_math_bits_OnesCount64, F_math_bits_OnesCount64),
  (n_graph_share, F_graph_share),
  (n_slices_IndexFunc_LLapi_Term_Lapi_Term, F_slices_IndexFunc_LLapi_Term_Lapi_Term)]
end Go.AI

