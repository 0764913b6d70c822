/- The table of the interpreter's functions. -/
import Derived.Test.YtkpbgdihnapbaaaDoorText0
set_option linter.unusedVariables false
namespace Go.AI
open Go Go.Proofs
def tabL : List (Nat × SFun) := tab_0
def lookF : List (Nat × SFun) → Nat → Option Spec
  | [], _ => none
  | (k, v) :: r, f => if k = f then some (.code v) else lookF r f
def tab : Nat → Option Spec := lookF tabL
theorem tab_law37_WitnessProves : tab n_law37_WitnessProves = some (.code F_law37_WitnessProves) := by kernel_rfl
theorem tab_law36_Own : tab n_law36_Own = some (.code F_law36_Own) := by kernel_rfl
theorem tab_law26_Own : tab n_law26_Own = some (.code F_law26_Own) := by kernel_rfl
theorem tab_witness_Sound : tab n_witness_Sound = some (.code F_witness_Sound) := by kernel_rfl
theorem tab_witness_Match : tab n_witness_Match = some (.code F_witness_Match) := by kernel_rfl
theorem tab_law37_lives : tab n_law37_lives = some (.code F_law37_lives) := by kernel_rfl
theorem tab_graph_Doomed : tab n_graph_Doomed = some (.code F_graph_Doomed) := by kernel_rfl
theorem tab_ref02_Has : tab n_ref02_Has = some (.code F_ref02_Has) := by kernel_rfl
theorem tab_report_Check : tab n_report_Check = some (.code F_report_Check) := by kernel_rfl
theorem tab_bits_Of : tab n_bits_Of = some (.code F_bits_Of) := by kernel_rfl
theorem tab_witness_lacks : tab n_witness_lacks = some (.code F_witness_lacks) := by kernel_rfl
theorem tab_witness_same : tab n_witness_same = some (.code F_witness_same) := by kernel_rfl
theorem tab_law37_ask : tab n_law37_ask = some (.code F_law37_ask) := by kernel_rfl
theorem tab_witness_Core : tab n_witness_Core = some (.code F_witness_Core) := by kernel_rfl
theorem tab_witness_Lack : tab n_witness_Lack = some (.code F_witness_Lack) := by kernel_rfl
theorem tab_witness_Part : tab n_witness_Part = some (.code F_witness_Part) := by kernel_rfl
theorem tab_graph_Check : tab n_graph_Check = some (.code F_graph_Check) := by kernel_rfl
theorem tab_graph_order : tab n_graph_order = some (.code F_graph_order) := by kernel_rfl
theorem tab_bits_All : tab n_bits_All = some (.code F_bits_All) := by kernel_rfl
theorem tab_report_node : tab n_report_node = some (.code F_report_node) := by kernel_rfl
theorem tab_bits_one : tab n_bits_one = some (.code F_bits_one) := by kernel_rfl
theorem tab_slices_IndexFunc_Lapi_Term_api_Term : tab n_slices_IndexFunc_Lapi_Term_api_Term = some (.code F_slices_IndexFunc_Lapi_Term_api_Term) := by kernel_rfl
theorem tab_witness_lacks_1 : tab n_witness_lacks_1 = some (.code F_witness_lacks_1) := by kernel_rfl
theorem tab_witness_comes : tab n_witness_comes = some (.code F_witness_comes) := by kernel_rfl
theorem tab_witness_same_1 : tab n_witness_same_1 = some (.code F_witness_same_1) := by kernel_rfl
theorem tab_slices_Equal_Lapi_Share_api_Share : tab n_slices_Equal_Lapi_Share_api_Share = some (.code F_slices_Equal_Lapi_Share_api_Share) := by kernel_rfl
theorem tab_witness_same_2 : tab n_witness_same_2 = some (.code F_witness_same_2) := by kernel_rfl
theorem tab_slices_EqualFunc_Lapi_Term_Lapi_Term_api_Term_api_Term : tab n_slices_EqualFunc_Lapi_Term_Lapi_Term_api_Term_api_Term = some (.code F_slices_EqualFunc_Lapi_Term_Lapi_Term_api_Term_api_Term) := by kernel_rfl
theorem tab_slices_EqualFunc_LLapi_Term_LLapi_Term_Lapi_Term_Lapi_Term : tab n_slices_EqualFunc_LLapi_Term_LLapi_Term_Lapi_Term_Lapi_Term = some (.code F_slices_EqualFunc_LLapi_Term_LLapi_Term_Lapi_Term_Lapi_Term) := by kernel_rfl
theorem tab_bits_Set_Has : tab n_bits_Set_Has = some (.code F_bits_Set_Has) := by kernel_rfl
theorem tab_slices_BinarySearch_Lint_int : tab n_slices_BinarySearch_Lint_int = some (.code F_slices_BinarySearch_Lint_int) := by kernel_rfl
theorem tab_bits_Set_First : tab n_bits_Set_First = some (.code F_bits_Set_First) := by kernel_rfl
theorem tab_bits_Set_Without : tab n_bits_Set_Without = some (.code F_bits_Set_Without) := by kernel_rfl
theorem tab_bits_Set_With : tab n_bits_Set_With = some (.code F_bits_Set_With) := by kernel_rfl
theorem tab_bits_Set_List : tab n_bits_Set_List = some (.code F_bits_Set_List) := by kernel_rfl
theorem tab_witness_clone : tab n_witness_clone = some (.code F_witness_clone) := by kernel_rfl
theorem tab_graph_asks : tab n_graph_asks = some (.code F_graph_asks) := by kernel_rfl
theorem tab_graph_met : tab n_graph_met = some (.code F_graph_met) := by kernel_rfl
theorem tab_report_term : tab n_report_term = some (.code F_report_term) := by kernel_rfl
theorem tab_cmp_Less_int : tab n_cmp_Less_int = some (.code F_cmp_Less_int) := by kernel_rfl
theorem tab_slices_isNaN_int : tab n_slices_isNaN_int = some (.code F_slices_isNaN_int) := by kernel_rfl
theorem tab_math_bits_TrailingZeros64 : tab n_math_bits_TrailingZeros64 = some (.code F_math_bits_TrailingZeros64) := by kernel_rfl
theorem tab_bits_Set_Count : tab n_bits_Set_Count = some (.code F_bits_Set_Count) := by kernel_rfl
theorem tab_slices_Clone_Lapi_Share_api_Share : tab n_slices_Clone_Lapi_Share_api_Share = some (.code F_slices_Clone_Lapi_Share_api_Share) := by kernel_rfl
theorem tab_graph_met_1 : tab n_graph_met_1 = some (.code F_graph_met_1) := by kernel_rfl
theorem tab_graph_comes : tab n_graph_comes = some (.code F_graph_comes) := by kernel_rfl
theorem tab_graph_met_2 : tab n_graph_met_2 = some (.code F_graph_met_2) := by kernel_rfl
theorem tab_slices_ContainsFunc_Lapi_Term_api_Term : tab n_slices_ContainsFunc_Lapi_Term_api_Term = some (.code F_slices_ContainsFunc_Lapi_Term_api_Term) := by kernel_rfl
theorem tab_slices_ContainsFunc_LLapi_Term_Lapi_Term : tab n_slices_ContainsFunc_LLapi_Term_Lapi_Term = some (.code F_slices_ContainsFunc_LLapi_Term_Lapi_Term) := by kernel_rfl
theorem tab_report_units : tab n_report_units = some (.code F_report_units) := by kernel_rfl
theorem tab_cmp_isNaN_int : tab n_cmp_isNaN_int = some (.code F_cmp_isNaN_int) := by kernel_rfl
theorem tab_math_bits_OnesCount64 : tab n_math_bits_OnesCount64 = some (.code F_math_bits_OnesCount64) := by kernel_rfl
theorem tab_graph_share : tab n_graph_share = some (.code F_graph_share) := by kernel_rfl
theorem tab_slices_IndexFunc_LLapi_Term_Lapi_Term : tab n_slices_IndexFunc_LLapi_Term_Lapi_Term = some (.code F_slices_IndexFunc_LLapi_Term_Lapi_Term) := by kernel_rfl
def Gtab (vals : Nat → Option (List Value)) : Prop := GlobsOK vals [(g_math_bits_deBruijn64tab, glob_math_bits_deBruijn64tab)]
theorem globOf_append_nil (g : Nat) : globOf [] g = none := rfl
theorem lookF_ok {P : Program} {G : Nat → Option (List Value)} : ∀ {l : List (Nat × SFun)}, (∀ p ∈ l, ∃ h, GlobsOK G h.globals ∧ cFunc P h p.1 = some p.2) → ∀ {f sp}, lookF l f = some sp → ∃ sf, sp = .code sf ∧ ∃ h, GlobsOK G h.globals ∧ cFunc P h f = some sf
  | [], _, f, sp, h => by cases h
  | (k, v) :: r, hl, f, sp, h => by
    simp only [lookF] at h
    split at h
    · rename_i e
      subst e
      cases h
      exact ⟨v, rfl, hl (k, v) (List.mem_cons_self ..)⟩
    · exact lookF_ok (fun p hp => hl p (List.mem_cons_of_mem _ hp)) h
theorem tab_0_ok {G : Nat → Option (List Value)} (hg : Gtab G) : ∀ p ∈ tab_0, ∃ h, GlobsOK G h.globals ∧ cFunc Tryd.prog h p.1 = some p.2 := by
  unfold tab_0
  simp only [List.forall_mem_cons]
  exact ⟨⟨h_law37_WitnessProves, .nil, ok_law37_WitnessProves⟩, ⟨h_law36_Own, .nil, ok_law36_Own⟩, ⟨h_law26_Own, .nil, ok_law26_Own⟩, ⟨h_witness_Sound, .nil, ok_witness_Sound⟩, ⟨h_witness_Match, .nil, ok_witness_Match⟩, ⟨h_law37_lives, .nil, ok_law37_lives⟩, ⟨h_graph_Doomed, .nil, ok_graph_Doomed⟩, ⟨h_ref02_Has, .nil, ok_ref02_Has⟩, ⟨h_report_Check, .nil, ok_report_Check⟩, ⟨h_bits_Of, .nil, ok_bits_Of⟩, ⟨h_witness_lacks, .nil, ok_witness_lacks⟩, ⟨h_witness_same, .nil, ok_witness_same⟩, ⟨h_law37_ask, .nil, ok_law37_ask⟩, ⟨h_witness_Core, .nil, ok_witness_Core⟩, ⟨h_witness_Lack, .nil, ok_witness_Lack⟩, ⟨h_witness_Part, .nil, ok_witness_Part⟩, ⟨h_graph_Check, .nil, ok_graph_Check⟩, ⟨h_graph_order, .nil, ok_graph_order⟩, ⟨h_bits_All, .nil, ok_bits_All⟩, ⟨h_report_node, .nil, ok_report_node⟩, ⟨h_bits_one, .nil, ok_bits_one⟩, ⟨h_slices_IndexFunc_Lapi_Term_api_Term, .nil, ok_slices_IndexFunc_Lapi_Term_api_Term⟩, ⟨h_witness_lacks_1, .nil, ok_witness_lacks_1⟩, ⟨h_witness_comes, .nil, ok_witness_comes⟩, ⟨h_witness_same_1, .nil, ok_witness_same_1⟩, ⟨h_slices_Equal_Lapi_Share_api_Share, .nil, ok_slices_Equal_Lapi_Share_api_Share⟩, ⟨h_witness_same_2, .nil, ok_witness_same_2⟩, ⟨h_slices_EqualFunc_Lapi_Term_Lapi_Term_api_Term_api_Term, .nil, ok_slices_EqualFunc_Lapi_Term_Lapi_Term_api_Term_api_Term⟩, ⟨h_slices_EqualFunc_LLapi_Term_LLapi_Term_Lapi_Term_Lapi_Term, .nil, ok_slices_EqualFunc_LLapi_Term_LLapi_Term_Lapi_Term_Lapi_Term⟩, ⟨h_bits_Set_Has, .nil, ok_bits_Set_Has⟩, ⟨h_slices_BinarySearch_Lint_int, .nil, ok_slices_BinarySearch_Lint_int⟩, ⟨h_bits_Set_First, .nil, ok_bits_Set_First⟩, ⟨h_bits_Set_Without, .nil, ok_bits_Set_Without⟩, ⟨h_bits_Set_With, .nil, ok_bits_Set_With⟩, ⟨h_bits_Set_List, .nil, ok_bits_Set_List⟩, ⟨h_witness_clone, .nil, ok_witness_clone⟩, ⟨h_graph_asks, .nil, ok_graph_asks⟩, ⟨h_graph_met, .nil, ok_graph_met⟩, ⟨h_report_term, .nil, ok_report_term⟩, ⟨h_cmp_Less_int, .nil, ok_cmp_Less_int⟩, ⟨h_slices_isNaN_int, .nil, ok_slices_isNaN_int⟩, ⟨h_math_bits_TrailingZeros64, by simpa [h_math_bits_TrailingZeros64, Gtab] using hg, ok_math_bits_TrailingZeros64⟩, ⟨h_bits_Set_Count, .nil, ok_bits_Set_Count⟩, ⟨h_slices_Clone_Lapi_Share_api_Share, .nil, ok_slices_Clone_Lapi_Share_api_Share⟩, ⟨h_graph_met_1, .nil, ok_graph_met_1⟩, ⟨h_graph_comes, .nil, ok_graph_comes⟩, ⟨h_graph_met_2, .nil, ok_graph_met_2⟩, ⟨h_slices_ContainsFunc_Lapi_Term_api_Term, .nil, ok_slices_ContainsFunc_Lapi_Term_api_Term⟩, ⟨h_slices_ContainsFunc_LLapi_Term_Lapi_Term, .nil, ok_slices_ContainsFunc_LLapi_Term_Lapi_Term⟩, ⟨h_report_units, .nil, ok_report_units⟩, ⟨h_cmp_isNaN_int, .nil, ok_cmp_isNaN_int⟩, ⟨h_math_bits_OnesCount64, .nil, ok_math_bits_OnesCount64⟩, ⟨h_graph_share, .nil, ok_graph_share⟩, ⟨h_slices_IndexFunc_LLapi_Term_Lapi_Term, .nil, ok_slices_IndexFunc_LLapi_Term_Lapi_Term⟩, fun _ h => absurd h List.not_mem_nil⟩
theorem tab_ok {G : Nat → Option (List Value)} (hg : Gtab G) : TableOK Tryd.prog G tab := fun f sp h => by
  obtain ⟨sf, rfl, hh⟩ := lookF_ok (P := Tryd.prog) (G := G) (l := tabL) (by
    intro p hp
    simp only [tabL, List.mem_append] at hp
    exact tab_0_ok hg p hp) h
  exact hh
theorem tab_left : PrimLeft tab := fun f g h => by
  have : ∀ (l : List (Nat × SFun)) {sp}, lookF l f = some sp → ∃ sf, sp = .code sf := by
    intro l
    induction l with
    | nil => intro sp h; cases h
    | cons x r ih =>
      intro sp h
      simp only [lookF] at h
      split at h
      · cases h; exact ⟨_, rfl⟩
      · exact ih h
  obtain ⟨sf, e⟩ := this tabL h
  cases e
end Go.AI

