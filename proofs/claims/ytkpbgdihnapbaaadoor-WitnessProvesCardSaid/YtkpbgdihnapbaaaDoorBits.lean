/- The package bits: what its functions compute. -/
import Derived.Test.YtkpbgdihnapbaaaDoorText
import Derived.Test.YtkpbgdihnapbaaaDoorAiC
import Derived.Lib.TrailingZeros
set_option linter.unusedVariables false
set_option linter.unusedSimpArgs false
namespace Go.AI
open Go Go.Proofs

def one (n : Int) : BitVec 64 := if n < 0 ∨ 63 < n then 0#64 else 1#64 <<< n.toNat
def has (s : BitVec 64) (n : Int) : Bool := !decide (s &&& one n = 0#64)

theorem one_bit (n : Int) (j : Nat) : (one n).getLsbD j = (decide (0 ≤ n) && decide (n ≤ 63) && decide (n.toNat = j)) := by
  unfold one
  split
  · rename_i h
    rcases h with h | h
    · simp; omega
    · simp; omega
  · rename_i h
    have h0 : 0 ≤ n := by omega
    have h1 : n ≤ 63 := by omega
    simp only [BitVec.getLsbD_shiftLeft, BitVec.getLsbD_one, h0, h1, decide_true, Bool.true_and]
    by_cases e : n.toNat = j
    · subst e; simp; omega
    · simp [e]; omega

theorem has_iff (s : BitVec 64) (n : Int) : has s n = true ↔ 0 ≤ n ∧ n ≤ 63 ∧ s.getLsbD n.toNat = true := by
  unfold has
  constructor
  · intro h
    simp only [Bool.not_eq_true', decide_eq_false_iff_not] at h
    have : ∃ j, (s &&& one n).getLsbD j = true := by
      apply Classical.byContradiction
      intro hn
      apply h
      apply BitVec.eq_of_getLsbD_eq
      intro i hi
      simp only [BitVec.getLsbD_zero]
      cases hb : (s &&& one n).getLsbD i with
      | false => rfl
      | true => exact absurd ⟨i, hb⟩ hn
    obtain ⟨j, hj⟩ := this
    rw [BitVec.getLsbD_and, one_bit] at hj
    simp only [Bool.and_eq_true, decide_eq_true_eq] at hj
    obtain ⟨h1, ⟨h2, h3⟩, h4⟩ := hj
    exact ⟨h2, h3, h4 ▸ h1⟩
  · rintro ⟨h1, h2, h3⟩
    simp only [Bool.not_eq_true', decide_eq_false_iff_not]
    intro h
    have := congrArg (fun x => x.getLsbD n.toNat) h
    simp only [BitVec.getLsbD_and, h3, one_bit, h1, h2, decide_true, Bool.and_self, BitVec.getLsbD_zero] at this
    cases this

theorem c_bits_one (n : Int) (H : Heap) : runT tab n_bits_one [.int .i64 n] H = some (.int .u64 (one n).toNat, H, H.length) := by
  rw [x_fun tab_bits_one _ (Nat.le_refl _)]
  by_cases h1 : n < 0
  · simp only [go_sem, Nat.reduceEqDiff, Nat.reduceAdd, Nat.reduceMul, Nat.reduceLeDiff, Nat.reduceBEq, reduceCtorEq, ↓reduceIte, Int.reduceToNat, Int.reduceLE, Int.reduceLT, F_bits_one, F_bits_one_r0, F_bits_one_r1, F_bits_one_r2, F_bits_one_r3, h1]
    simp [one, h1]
  · by_cases h2 : 63 < n
    · simp only [go_sem, Nat.reduceEqDiff, Nat.reduceAdd, Nat.reduceMul, Nat.reduceLeDiff, Nat.reduceBEq, reduceCtorEq, ↓reduceIte, Int.reduceToNat, Int.reduceLE, Int.reduceLT, F_bits_one, F_bits_one_r0, F_bits_one_r1, F_bits_one_r2, F_bits_one_r3, h1, h2]
      simp [one, h2]
    · simp only [go_sem, Nat.reduceEqDiff, Nat.reduceAdd, Nat.reduceMul, Nat.reduceLeDiff, Nat.reduceBEq, reduceCtorEq, ↓reduceIte, Int.reduceToNat, Int.reduceLE, Int.reduceLT, F_bits_one, F_bits_one_r0, F_bits_one_r1, F_bits_one_r2, F_bits_one_r3, h1, h2]
      have hm : min n.toNat 64 = n.toNat := Nat.min_eq_left (by omega)
      have h3 : n.toNat < 64 := by omega
      rw [hm]
      unfold one
      rw [if_neg (by omega)]
      have hp : (2 : Nat) ^ n.toNat < 2 ^ 64 := Nat.pow_lt_pow_right (by decide) h3
      have hp' : (2 : Int) ^ n.toNat = ((2 ^ n.toNat : Nat) : Int) := by simp
      have hv : (1#64 <<< n.toNat).toNat = 2 ^ n.toNat := by
        rw [BitVec.toNat_shiftLeft, Nat.shiftLeft_eq]
        simp only [BitVec.toNat_ofNat]
        rw [show (1 % 2 ^ 64 : Nat) = 1 from rfl, Nat.one_mul]
        exact Nat.mod_eq_of_lt hp
      rw [hv, hp']
      generalize (2 : Nat) ^ n.toNat = q at hp ⊢
      rw [wrap_u64 (by omega) (by omega), Int.one_mul]

theorem c_bits_Has (s : BitVec 64) (n : Int) (H : Heap) : runT tab n_bits_Set_Has [.int .u64 s.toNat, .int .i64 n] H = some (.bool (has s n), H, H.length) := by
  rw [x_fun tab_bits_Set_Has _ (Nat.le_refl _)]
  simp only [go_sem, Nat.reduceEqDiff, Nat.reduceAdd, Nat.reduceMul, Nat.reduceLeDiff, Nat.reduceBEq, reduceCtorEq, ↓reduceIte, Int.reduceToNat, Int.reduceLE, Int.reduceLT, F_bits_Set_Has, F_bits_Set_Has_r0, F_bits_Set_Has_r1, c_bits_one]
  rfl

theorem c_bits_With (s : BitVec 64) (n : Int) (H : Heap) : runT tab n_bits_Set_With [.int .u64 s.toNat, .int .i64 n] H = some (.int .u64 (s ||| one n).toNat, H, H.length) := by
  rw [x_fun tab_bits_Set_With _ (Nat.le_refl _)]
  simp only [go_sem, Nat.reduceEqDiff, Nat.reduceAdd, Nat.reduceMul, Nat.reduceLeDiff, Nat.reduceBEq, reduceCtorEq, ↓reduceIte, Int.reduceToNat, Int.reduceLE, Int.reduceLT, F_bits_Set_With, F_bits_Set_With_r0, F_bits_Set_With_r1, c_bits_one]

theorem c_bits_Without (s : BitVec 64) (n : Int) (H : Heap) : runT tab n_bits_Set_Without [.int .u64 s.toNat, .int .i64 n] H = some (.int .u64 (s &&& ~~~ one n).toNat, H, H.length) := by
  rw [x_fun tab_bits_Set_Without _ (Nat.le_refl _)]
  simp only [go_sem, Nat.reduceEqDiff, Nat.reduceAdd, Nat.reduceMul, Nat.reduceLeDiff, Nat.reduceBEq, reduceCtorEq, ↓reduceIte, Int.reduceToNat, Int.reduceLE, Int.reduceLT, F_bits_Set_Without, F_bits_Set_Without_r0, F_bits_Set_Without_r1, c_bits_one]

def setOf (l : List Int) : BitVec 64 := l.foldl (fun s n => s ||| one n) 0#64

theorem c_bits_Of (l : List Int) (hl : l.length ≤ 1000000) (H : Heap) : runT tab n_bits_Of [.vsl (l.map (.int .i64))] H = some (.int .u64 (setOf l).toNat, H, H.length) := by
  rw [x_fun tab_bits_Of _ (Nat.le_refl _)]
  have hloop := loop_fold (F := tab) (b := F_bits_Of_l7) l
    (fun i (s : BitVec 64) => ⟨[(3, some (.int .u64 s.toNat)), (6, some (.vsl (l.map (.int .i64)))), (7, some (.int .i64 l.length)), (8, some (.int .i64 i))], [], [], H, H.length, H.length⟩)
    (fun s n => s ||| one n) (.exit 0) (by decide)
    (fun s => ⟨[(3, some (.int .u64 s.toNat)), (6, some (.vsl (l.map (.int .i64)))), (7, some (.int .i64 l.length)), (8, some (.int .i64 l.length)), (9, some (.bool false))], [], [], H, H.length, H.length⟩)
    (fun i s x hx hi => by
      simp only [go_sem, Nat.reduceEqDiff, Nat.reduceAdd, Nat.reduceMul, Nat.reduceLeDiff, Nat.reduceBEq, reduceCtorEq, ↓reduceIte, Int.reduceToNat, Int.reduceLE, Int.reduceLT, F_bits_Of_l7, F_bits_Of_r3, F_bits_Of_r4, F_bits_Of_r5, F_bits_Of_r6, c_bits_one, hx, hi, wi (show i < 4611686018427387904 by omega)])
    (fun s => by simp only [go_sem, Nat.reduceEqDiff, Nat.reduceAdd, Nat.reduceMul, Nat.reduceLeDiff, Nat.reduceBEq, reduceCtorEq, ↓reduceIte, Int.reduceToNat, Int.reduceLE, Int.reduceLT, F_bits_Of_l7, F_bits_Of_r3, F_bits_Of_r4, F_bits_Of_r5, F_bits_Of_r6, Nat.lt_irrefl])
    0#64
  simp only [cast0, bv0] at hloop
  simp only [go_sem, Nat.reduceEqDiff, Nat.reduceAdd, Nat.reduceMul, Nat.reduceLeDiff, Nat.reduceBEq, reduceCtorEq, ↓reduceIte, Int.reduceToNat, Int.reduceLE, Int.reduceLT, F_bits_Of, F_bits_Of_r0, F_bits_Of_r1, F_bits_Of_r2, F_bits_Of_r8, hloop]
  rfl
end Go.AI

