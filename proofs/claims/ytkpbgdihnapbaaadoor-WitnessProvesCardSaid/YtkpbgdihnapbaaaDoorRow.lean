/- WitnessProves: if a report is sound, and says what a graph says, all of it are doomed there; for every input, the table of math/bits being what its initialiser lays. -/
import Derived.Test.YtkpbgdihnapbaaaDoorLaw37
import Derived.Test.YtkpbgdihnapbaaaDoorAiD
import Derived.Test.YtkpbgdihnapbaaaDoorRows
import Derived.Test.YtkpbgdihnapbaaaDoorCards
import Derived.Test.YtkpbgdihnapbaaaDoorTie
import Derived.SevenTiedAt
set_option linter.unusedVariables false
set_option linter.unusedSimpArgs false
namespace Go.Proofs.YtkpbgdihnapbaaaDoor
open Go Go.AI Go.ChangeShapes Go.WideShapes Go.ChangeAt Go.RowKit

theorem own : ownKnob Tryd.prog.godebug = none := by kernel_rfl
theorem laidOut : laidOutB Tryd.prog = true := by kernel_rfl

def tabZ : List Int := Lib.deBruijn64tab.map fun n => ((n : Nat) : Int)
theorem laid_tab : Rows.witnessProvesRow.laid = [("math/bits.deBruijn64tab", Lib.tabData .u8 tabZ)] := rfl
def gvals : Nat → Option (List Value) := fun g => if g = g_math_bits_deBruijn64tab then some (tabZ.map fun z => Value.int .u8 z) else none
theorem gvals_ok : Gtab gvals := globs_tab (zs := tabZ) (by rfl) (by unfold gvals; rw [if_pos rfl])
theorem named : Tryd.prog.globalNamed "math/bits.deBruijn64tab" = some g_math_bits_deBruijn64tab := by kernel_rfl

theorem tab_is {W : World} (hL : laidMetH Tryd.prog Rows.witnessProvesRow.laid W) : Lib.TabIs Tryd.prog W "math/bits.deBruijn64tab" .u8 tabZ := by
  rw [laid_tab] at hL
  rw [MakeChecks.laidMetH_plain _ _ _ (by kernel_rfl)] at hL
  exact Lib.tabIs_of_head (t := 85) (e := 5) (n := 64) named (by kernel_rfl) Tryd.underlying85 Tryd.underlying5 (by kernel_rfl) (by kernel_rfl) hL

noncomputable def laidWorld (os : Os) : World :=
  let w0 := World.holding Tryd.prog os ⟨#[], #[], []⟩
  { w0 with heap := w0.heap.modify 0 fun
      | .cells _ t frozen => .cells (tabZ.map fun z => Value.int .u8 z).toArray t frozen
      | o => o }
theorem laidWorld_met (os : Os) (args : Array Value) : laidMetH Tryd.prog Rows.witnessProvesRow.laid ((laidWorld os).forCall (fun _ _ => 0) ⟨#[], args, []⟩).memory := by
  rw [laid_tab, MakeChecks.laidMetH_plain _ _ _ (by kernel_rfl)]
  exact laidMet_of_run' 8 (by kernel_rfl) (by kernel_rfl)

theorem shape25 : shapeE Tryd.prog 12 25 = some (true, shReport) := by kernel_rfl
theorem shape23 : shapeE Tryd.prog 12 23 = some (false, [.sl true shNode]) := by kernel_rfl

set_option maxRecDepth 100000 in
theorem f_lifted (os : Os) (started : os.Started) (H : Type) (enc : TypeId × Value → H) :
    ReturnsInHanded {} Tryd.checked os 3 .any (fun w args => (Rows.witnessProvesSpec.pre enc Tryd.prog Tryd.f3 [] false w args ∧ laidMetH Tryd.prog Rows.witnessProvesRow.laid w) ∧ sizedMet enc Tryd.prog Tryd.f3 (OpenSpec.ofChange Rows.witnessProvesSpec) false w args)
      (Rows.witnessProvesSpec.post enc Tryd.prog Tryd.f3 false true false false) := by
  refine returnsInHanded_of_change_and (C := Tryd.checked) (X := fun w _ => laidMetH Tryd.prog Rows.witnessProvesRow.laid w) (fun _ _ _ hh h => h.of_heap hh) own started (by kernel_rfl) Tryd.func3
    (ChangeSpec.witness_at (enc := enc) (C := Tryd.checked) (os := os) (X := fun w _ => laidMetH Tryd.prog Rows.witnessProvesRow.laid w) false (laidWorld os) #[.agg #[.int .i64 0, .slice none 0 0, .slice none 0 0], .slice none 0 0] 8 rfl (by kernel_rfl) (by kernel_rfl) (by kernel_rfl) (by kernel_rfl) (by kernel_rfl) (laidWorld_met os _)) ?_
  intro W base args ds gs before hval0 hW _ _ hL _
  have hval : ∀ (j : Nat) t v, Tryd.f3.params[j]? = some t → args[j]? = some v → Value.okWide Tryd.prog W .any base t v := hval0
  have hW' := hW
  have hlt := hW.lt
  obtain ⟨p, q, hA0, hV0, rfl, hfz, hnd⟩ := hW
  have hA : DataW.TrodAll enc Tryd.prog W 0 (fun _ => true) true Tryd.f3.params.toList args.toList ds p := hA0
  rw [Tryd.params3] at hA hval
  obtain ⟨v0, v1, d0, d1, p0, p1, rfl, rfl, rfl, h0, h1⟩ := trodAll_two hA
  obtain ⟨rfl, rfl⟩ := trodVars_none hV0
  obtain ⟨as0, hf0, hr0⟩ := arg_fits shape25 (hval 0 25 v0 rfl rfl) h0
  obtain ⟨as1, hf1, hr1⟩ := arg_fits shape23 (hval 1 23 v1 rfl rfl) h1
  obtain ⟨r, er⟩ := fits_report _ hf0
  obtain ⟨l, el⟩ := fits_graph _ hf1
  rw [er] at hr0
  rw [el] at hr1
  have ht := tab_is hL
  have hrange := tab_range ht named (by decide)
  have hcall := law_calls (P := Tryd.prog) (G := gvals) (F := tab) (tab_ok gvals_ok) tab_left tab_law37_WitnessProves (W := W) (args := #[v0, v1]) (avs := [r.av, .vsl (l.map Node.av)])
    (fun g vs hg => by
      unfold gvals at hg
      split at hg
      · rename_i e; subst e; cases hg; exact hrange
      · cases hg)
    ⟨rfl, fun k v a e1 e2 => by
      match k, e1, e2 with
      | 0, e1, e2 => cases e1; cases e2; exact hr0
      | 1, e1, e2 => cases e1; cases e2; exact hr1
      | k + 2, e1, e2 => simp at e2⟩
    (c_WitnessProves r l)
  refine hcall.mono fun e W' ⟨he, bel⟩ => ?_
  subst he
  have e1 : Rows.witnessProvesSpec.fn H ([d0, d1] ++ []) = { results := [.lit (.bool true)], args := [d0, d1] } := rfl
  refine ⟨_, rfl, _, _, _, [], p0 ++ p1, [], hW', ?_, ?_, ?_, bel.frame _, fun h => by cases h⟩
  · rw [e1]; exact trodAll_mk1 (shut_bool Tryd.underlying4 true)
  · rw [e1]
    exact trodAll_mk2 (Below.trod laidOut (by kernel_rfl) (of_decide_eq_true (by kernel_rfl)) h0 bel (fun x hx => hlt x (by simp [hx])))
      (Below.trod laidOut (by kernel_rfl) (of_decide_eq_true (by kernel_rfl)) h1 bel (fun x hx => hlt x (by simp [hx])))
  · rw [e1]; rfl

theorem f_holds : Rows.WitnessProvesSaid :=
  OpenClaim.holds_of_wide 3 Tryd.f3 rfl rfl rfl rfl rfl rfl rfl ⟨rfl, rfl, rfl, rfl, rfl⟩ rfl rfl rfl rfl rfl (by kernel_rfl) Tryd.func3 (by kernel_rfl)
    (of_decide_eq_true (by kernel_rfl)) (by unfold Func.isWrapper; rw [if_neg (of_decide_eq_false (by kernel_rfl))]; exact ⟨rfl, rfl⟩)
    (fun os started H enc _ => f_lifted os started H enc)

/-- The card. -/
theorem card_holds : Rows.WitnessProvesCardSaid :=
  Claim7.holds_tied_plain_at .later [] [.data] true _ _
    f_holds (fun _ h => by cases h) (by kernel_rfl) (fun _ h => by cases h) witnessProves_row_tie rfl ⟨rfl, rfl⟩ (by kernel_rfl) rfl
    (fun f fn hf hfn => by
      obtain rfl : f = 3 := Option.some.inj ((show Tryd.prog.funcNamed "logjam/logjamlaw37.WitnessProves" = some 3 by kernel_rfl).symm.trans hf) |>.symm
      obtain rfl : fn = Tryd.f3 := (Option.some.inj (Tryd.func3.symm.trans hfn)).symm
      exact ⟨by kernel_rfl, fun j t ht => by
        rw [Tryd.params3] at ht
        have h3 : t = 25 ∨ t = 23 := by
          match j, ht with
          | 0, ht => left; simpa using ht.symm
          | 1, ht => right; simpa using ht.symm
          | k + 2, ht => simp at ht
        rcases h3 with rfl | rfl
        · exact (show Tryd.prog.wantsStandIn 25 = false by kernel_rfl)
        · exact (show Tryd.prog.wantsStandIn 23 = false by kernel_rfl)⟩)
    (by kernel_rfl)
#print axioms card_holds
end Go.Proofs.YtkpbgdihnapbaaaDoor

