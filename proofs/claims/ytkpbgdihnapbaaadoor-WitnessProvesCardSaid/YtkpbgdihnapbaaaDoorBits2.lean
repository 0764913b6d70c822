/- The package bits: the least, all, and those of a set. -/
import Derived.Test.YtkpbgdihnapbaaaDoorBits
set_option linter.unusedVariables false
set_option linter.unusedSimpArgs false
namespace Go.AI
open Go Go.Proofs

/-- the least of a set that has one -/
def firstB (s : BitVec 64) : Nat := Lib.ctz 64 s.toNat

theorem firstB_spec {s : BitVec 64} (h : s ≠ 0#64) : firstB s < 64 ∧ s.getLsbD (firstB s) = true ∧ ∀ j, j < firstB s → s.getLsbD j = false := by
  have h0 : s.toNat ≠ 0 := fun e => h (BitVec.eq_of_toNat_eq (by simpa using e))
  obtain ⟨m, hm, hk⟩ := Lib.ctzFrom_spec 64 s.toNat (by omega) s.isLt
  have e : firstB s = Lib.ctzFrom 64 s.toNat := by simp [firstB, Lib.ctz, h0]
  rw [e]
  generalize Lib.ctzFrom 64 s.toNat = k at hm hk
  refine ⟨hk, ?_, fun j hj => ?_⟩
  · rw [BitVec.getLsbD, hm, Nat.mul_comm, Nat.testBit_mul_two_pow]
    simp [Nat.testBit_zero]
  · rw [BitVec.getLsbD, hm, Nat.mul_comm, Nat.testBit_mul_two_pow]
    simp; omega

theorem tz_table (k : Nat) (hk : k < 64) (i : Nat) (hi : i < 64) (h : Lib.deBruijn64tab.getD i 0 = k) : glob_math_bits_deBruijn64tab[i]? = some (.int .u8 k) := by
  have e : glob_math_bits_deBruijn64tab = Lib.deBruijn64tab.map fun n => .int .u8 (n : Nat) := rfl
  rw [e, List.getElem?_map]
  have hl : i < Lib.deBruijn64tab.length := hi
  rw [List.getElem?_eq_getElem hl]
  rw [List.getD_eq_getElem?_getD, List.getElem?_eq_getElem hl] at h
  simp only [Option.getD_some] at h
  rw [h]; rfl

/-- where the table is looked up -/
def tzIx (z : Nat) : Nat := z * 285870213051353865 % 18446744073709551616 / 288230376151711744
theorem tzIx_at : ∀ k, k < 64 → tzIx (2 ^ k) < 64 ∧ Lib.deBruijn64tab.getD (tzIx (2 ^ k)) 0 = k := by decide +kernel

theorem tz_shr (q : Nat) : (IntKind.u64.wrap ((q : Int) * 285870213051353865)).fdiv (2 ^ min 58 64) = ((tzIx q : Nat) : Int) := by
  have e : IntKind.u64.wrap ((q : Int) * 285870213051353865) = ((q * 285870213051353865 % 18446744073709551616 : Nat) : Int) := by
    simp [IntKind.wrap, IntKind.signed, IntKind.bits]
  have e2 : (2 : Int) ^ min 58 64 = ((288230376151711744 : Nat) : Int) := by
    have : min 58 64 = 58 := rfl
    rw [this]; rfl
  rw [e, e2]
  unfold tzIx
  generalize q * 285870213051353865 % 18446744073709551616 = z
  rw [Int.fdiv_eq_ediv_of_nonneg _ (by omega)]
  rfl

theorem tz_neg (s : BitVec 64) (h0 : s.toNat ≠ 0) : IntKind.u64.wrap (0 - (s.toNat : Int)) = (((-s).toNat : Nat) : Int) := by
  have hlt := s.isLt
  rw [BitVec.toNat_neg, Nat.mod_eq_of_lt (by omega)]
  generalize s.toNat = x at hlt h0
  simp [IntKind.wrap, IntKind.signed, IntKind.bits]; omega

theorem tz_and (s : BitVec 64) (h0 : s.toNat ≠ 0) : (s &&& -s).toNat = 2 ^ Lib.ctz 64 s.toNat ∧ Lib.ctz 64 s.toNat < 64 := by
  have hlt := s.isLt
  obtain ⟨hlow, hk⟩ := Lib.lowest_bit 64 s.toNat h0 hlt
  refine ⟨?_, hk⟩
  rw [BitVec.toNat_and, BitVec.toNat_neg, Nat.mod_eq_of_lt (by omega), hlow]

theorem tz_conv (k : Nat) (hk : k < 64) : IntKind.i64.wrap ((k : Nat) : Int) = (k : Nat) := wrap_i64 (by omega) (by omega)

/-- Where the table is looked up, and what is found there. -/
theorem tz_all (k z : Nat) (hk : k < 64) (hz : z = 2 ^ k) : ∃ q : Nat, (IntKind.u64.wrap ((z : Int) * 285870213051353865)).fdiv (2 ^ min 58 64) = (q : Int) ∧ q < 64 ∧ glob_math_bits_deBruijn64tab[q]? = some (.int .u8 k) ∧
    IntKind.i64.wrap ((k : Nat) : Int) = (k : Nat) := by
  obtain ⟨hi, htab⟩ := tzIx_at k hk
  subst hz
  exact ⟨tzIx (2 ^ k), tz_shr (2 ^ k), hi, tz_table k hk (tzIx (2 ^ k)) hi htab, tz_conv k hk⟩

theorem tz_run (s : BitVec 64) (h : s ≠ 0#64) (H : Heap) (k z q : Nat) (hneg : IntKind.u64.wrap (0 - (s.toNat : Int)) = (((-s).toNat : Nat) : Int)) (hand : (s &&& -s).toNat = z)
    (hshr : (IntKind.u64.wrap ((z : Int) * 285870213051353865)).fdiv (2 ^ min 58 64) = (q : Int)) (hi : q < 64) (ht : glob_math_bits_deBruijn64tab[q]? = some (.int .u8 k)) (hconv : IntKind.i64.wrap ((k : Nat) : Int) = (k : Nat)) :
    runT tab n_math_bits_TrailingZeros64 [.int .u64 s.toNat] H = some (.int .i64 k, H, H.length) := by
  rw [x_fun tab_math_bits_TrailingZeros64 _ (Nat.le_refl _)]
  have h58 : ¬ ((58 : Int) < 0) := by decide
  simp only [go_sem, Nat.reduceEqDiff, Nat.reduceAdd, Nat.reduceMul, Nat.reduceLeDiff, Nat.reduceBEq, reduceCtorEq, ↓reduceIte, Int.reduceToNat, Int.reduceLE, Int.reduceLT, F_math_bits_TrailingZeros64, F_math_bits_TrailingZeros64_r0, F_math_bits_TrailingZeros64_r1, F_math_bits_TrailingZeros64_r2, F_math_bits_TrailingZeros64_r3, h, hneg, hand, hshr, hi, ht, hconv, Nat.mul_one, h58]

theorem c_TrailingZeros64 (s : BitVec 64) (h : s ≠ 0#64) (H : Heap) : runT tab n_math_bits_TrailingZeros64 [.int .u64 s.toNat] H = some (.int .i64 (firstB s), H, H.length) := by
  have h0 : s.toNat ≠ 0 := fun e => h (BitVec.eq_of_toNat_eq (by simpa using e))
  obtain ⟨hand, hk⟩ := tz_and s h0
  obtain ⟨q, h1, h2, h3, h4⟩ := tz_all _ _ hk hand
  exact tz_run s h H _ _ q (tz_neg s h0) rfl h1 h2 h3 h4

theorem c_bits_First (s : BitVec 64) (h : s ≠ 0#64) (H : Heap) : runT tab n_bits_Set_First [.int .u64 s.toNat] H = some (.int .i64 (firstB s), H, H.length) := by
  rw [x_fun tab_bits_Set_First _ (Nat.le_refl _)]
  simp only [go_sem, Nat.reduceEqDiff, Nat.reduceAdd, Nat.reduceMul, Nat.reduceLeDiff, Nat.reduceBEq, reduceCtorEq, ↓reduceIte, Int.reduceToNat, Int.reduceLE, Int.reduceLT, F_bits_Set_First, F_bits_Set_First_r0, F_bits_Set_First_r1, F_bits_Set_First_r2, F_bits_Set_First_r3, h, c_TrailingZeros64 s h]

def allB (n : Int) : BitVec 64 := if n ≤ 0 then 0#64 else if 63 < n then BitVec.allOnes 64 else BitVec.ofNat 64 (2 ^ n.toNat - 1)

theorem allB_bit (n : Int) (j : Nat) (hj : j < 64) : (allB n).getLsbD j = decide ((j : Int) < n) := by
  unfold allB
  split
  · simp; omega
  · split
    · rw [BitVec.getLsbD_allOnes]; simp [hj]; omega
    · rw [BitVec.getLsbD_ofNat, Nat.testBit_two_pow_sub_one]
      simp [hj]

theorem c_bits_All (n : Int) (H : Heap) : runT tab n_bits_All [.int .i64 n] H = some (.int .u64 (allB n).toNat, H, H.length) := by
  rw [x_fun tab_bits_All _ (Nat.le_refl _)]
  by_cases h1 : n ≤ 0
  · simp only [go_sem, Nat.reduceEqDiff, Nat.reduceAdd, Nat.reduceMul, Nat.reduceLeDiff, Nat.reduceBEq, reduceCtorEq, ↓reduceIte, Int.reduceToNat, Int.reduceLE, Int.reduceLT, F_bits_All, F_bits_All_r0, F_bits_All_r1, F_bits_All_r2, F_bits_All_r3, F_bits_All_r4, F_bits_All_r5, h1]
    simp [allB, h1]
  · by_cases h2 : 63 < n
    · simp only [go_sem, Nat.reduceEqDiff, Nat.reduceAdd, Nat.reduceMul, Nat.reduceLeDiff, Nat.reduceBEq, reduceCtorEq, ↓reduceIte, Int.reduceToNat, Int.reduceLE, Int.reduceLT, F_bits_All, F_bits_All_r0, F_bits_All_r1, F_bits_All_r2, F_bits_All_r3, F_bits_All_r4, F_bits_All_r5, h1, h2]
      simp [allB, h1, h2]
    · have h3 : n.toNat < 64 := by omega
      have hp : (2 : Nat) ^ n.toNat < 2 ^ 64 := Nat.pow_lt_pow_right (by decide) h3
      have hp0 : 0 < (2 : Nat) ^ n.toNat := Nat.pow_pos (by decide)
      have hp' : (2 : Int) ^ n.toNat = ((2 ^ n.toNat : Nat) : Int) := by simp
      have hm : min n.toNat 64 = n.toNat := Nat.min_eq_left (by omega)
      have hn : ¬ n < 0 := by omega
      simp only [go_sem, Nat.reduceEqDiff, Nat.reduceAdd, Nat.reduceMul, Nat.reduceLeDiff, Nat.reduceBEq, reduceCtorEq, ↓reduceIte, Int.reduceToNat, Int.reduceLE, Int.reduceLT, F_bits_All, F_bits_All_r0, F_bits_All_r1, F_bits_All_r2, F_bits_All_r3, F_bits_All_r4, F_bits_All_r5, h1, h2, hn]
      rw [hm, hp']
      unfold allB
      rw [if_neg h1, if_neg h2, BitVec.toNat_ofNat]
      generalize (2 : Nat) ^ n.toNat = q at hp hp0
      rw [Int.one_mul, wrap_u64 (n := (q : Int)) (by omega) (by omega), wrap_u64 (by omega) (by omega), Nat.mod_eq_of_lt (by omega)]
      congr 3
      omega
end Go.AI

