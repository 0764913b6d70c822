/- The package bits: how many, and all of a set, rising. -/
import Derived.Test.YtkpbgdihnapbaaaDoorBits2
set_option linter.unusedVariables false
set_option linter.unusedSimpArgs false
namespace Go.AI
open Go Go.Proofs

def listB (s : BitVec 64) : List Nat := (List.range 64).filter fun j => s.getLsbD j
def dropB (s : BitVec 64) : BitVec 64 := s &&& (s - 1#64)

theorem sub1_nat {s : BitVec 64} (h : s ≠ 0#64) : (s - 1#64).toNat = s.toNat - 1 := by
  have h0 : s.toNat ≠ 0 := fun e => h (BitVec.eq_of_toNat_eq (by simpa using e))
  have hlt := s.isLt
  rw [BitVec.toNat_sub]
  simp only [BitVec.toNat_ofNat]
  omega

theorem dropB_bit {s : BitVec 64} (h : s ≠ 0#64) (j : Nat) : (dropB s).getLsbD j = (s.getLsbD j && !decide (j = firstB s)) := by
  have h0 : s.toNat ≠ 0 := fun e => h (BitVec.eq_of_toNat_eq (by simpa using e))
  obtain ⟨m, hm, hk⟩ := Lib.ctzFrom_spec 64 s.toNat (by omega) s.isLt
  have e : firstB s = Lib.ctzFrom 64 s.toNat := by simp [firstB, Lib.ctz, h0]
  rw [e]
  unfold dropB
  rw [BitVec.getLsbD_and]
  simp only [BitVec.getLsbD]
  rw [sub1_nat h]
  generalize Lib.ctzFrom 64 s.toNat = k at hm hk
  have h1 : s.toNat - 1 = 2 ^ k * (2 * m) + (2 ^ k - 1) := by
    rw [hm, Nat.mul_add]
    have : 0 < 2 ^ k := Nat.pow_pos (by decide)
    omega
  have hlt : 2 ^ k - 1 < 2 ^ k := by have : 0 < 2 ^ k := Nat.pow_pos (by decide); omega
  rw [h1, Nat.testBit_two_pow_mul_add _ hlt, hm]
  have h2 : 2 ^ k * (2 * m + 1) = 2 ^ k * (2 * m + 1) + 0 := rfl
  rw [h2, Nat.testBit_two_pow_mul_add _ (Nat.pow_pos (by decide))]
  by_cases hj : j < k
  · simp [hj]
  · simp only [if_neg hj]
    by_cases hjk : j = k
    · subst hjk; simp [Nat.testBit_zero]
    · obtain ⟨i, rfl⟩ : ∃ i, j = k + (i + 1) := ⟨j - k - 1, by omega⟩
      have e3 : k + (i + 1) - k = i + 1 := by omega
      simp only [e3, hjk, decide_false, Bool.not_false, Bool.and_true]
      rw [Nat.testBit_succ, Nat.testBit_succ]
      have d1 : (2 * m + 1) / 2 = m := by omega
      have d2 : 2 * m / 2 = m := by omega
      rw [d1, d2, Bool.and_self]

theorem listB_zero : listB 0#64 = [] := by
  unfold listB; simp

theorem filter_split (p : Nat → Bool) (k : Nat) : ∀ (n b : Nat), b ≤ k → k < b + n → p k = true → (∀ j, b ≤ j → j < k → p j = false) →
    (List.range' b n).filter p = k :: (List.range' b n).filter fun j => p j && !decide (j = k)
  | 0, b, h1, h2, _, _ => by omega
  | n + 1, b, h1, h2, h3, h4 => by
    rw [List.range'_succ, List.filter_cons, List.filter_cons]
    by_cases e : b = k
    · subst e
      simp only [h3, if_true, decide_true, Bool.not_true, Bool.and_false]
      congr 1
      apply List.filter_congr
      intro x hx
      have := (List.mem_range'_1.1 hx).1
      have hne : ¬ x = b := by omega
      simp [hne]
    · have hb := h4 b (Nat.le_refl _) (by omega)
      simp only [hb, Bool.false_and]
      exact filter_split p k n (b + 1) (by omega) (by omega) h3 fun j hj hj' => h4 j (by omega) hj'

theorem listB_cons {s : BitVec 64} (h : s ≠ 0#64) : listB s = firstB s :: listB (dropB s) := by
  obtain ⟨h1, h2, h3⟩ := firstB_spec h
  unfold listB
  rw [List.range_eq_range']
  rw [filter_split (fun j => s.getLsbD j) (firstB s) 64 0 (Nat.zero_le _) (by omega) h2 (fun j _ hj => h3 j hj)]
  congr 1
  apply List.filter_congr
  intro x _
  exact (dropB_bit h x).symm

theorem dropB_lt {s : BitVec 64} (h : s ≠ 0#64) : (dropB s).toNat < s.toNat := by
  have h0 : s.toNat ≠ 0 := fun e => h (BitVec.eq_of_toNat_eq (by simpa using e))
  unfold dropB
  rw [BitVec.toNat_and, sub1_nat h]
  have := Nat.and_le_right (n := s.toNat) (m := s.toNat - 1)
  omega

theorem and127 (x : BitVec 64) : ∃ c : Int, IntKind.i64.wrap ((x &&& 127#64).toNat : Int) = c ∧ 0 ≤ c ∧ c ≤ 127 := by
  refine ⟨(x &&& 127#64).toNat, wrap_i64 ?_ ?_, ?_, ?_⟩
  all_goals
    have h : (x &&& 127#64).toNat ≤ 127 := by rw [BitVec.toNat_and]; exact Nat.and_le_right
    omega

/-- How many there are, as far as it is needed. -/
theorem c_OnesCount64 (s : BitVec 64) (H : Heap) : ∃ c : Int, runT tab n_math_bits_OnesCount64 [.int .u64 s.toNat] H = some (.int .i64 c, H, H.length) ∧ 0 ≤ c ∧ c ≤ 127 := by
  rw [x_fun tab_math_bits_OnesCount64 _ (Nat.le_refl _)]
  have h1 : ¬ ((1 : Int) < 0) := by decide
  have h2 : ¬ ((2 : Int) < 0) := by decide
  have h4 : ¬ ((4 : Int) < 0) := by decide
  have h8 : ¬ ((8 : Int) < 0) := by decide
  have h16 : ¬ ((16 : Int) < 0) := by decide
  have h32 : ¬ ((32 : Int) < 0) := by decide
  have ha : ∀ (a b : Int), ∃ c, binOp .and .no (.int .u64 a) (.int .u64 b) = some (.int .u64 c) := fun a b => ⟨_, bo_and⟩
  have hs : ∀ (a b : Int), 0 ≤ b → ∃ c, binOp .shr .no (.int .u64 a) (.int .u64 b) = some (.int .u64 c) := fun a b h => ⟨_, by rw [bo_shr, if_neg (by omega)]⟩
  obtain ⟨a1, e1⟩ := hs s.toNat 1 (by decide)
  obtain ⟨a2, e2⟩ := ha a1 6148914691236517205
  obtain ⟨a3, e3⟩ := ha s.toNat 6148914691236517205
  obtain ⟨y1, f1⟩ : ∃ y, IntKind.u64.wrap (a2 + a3) = y := ⟨_, rfl⟩
  obtain ⟨a4, e4⟩ := hs y1 2 (by decide)
  obtain ⟨a5, e5⟩ := ha a4 3689348814741910323
  obtain ⟨a6, e6⟩ := ha y1 3689348814741910323
  obtain ⟨y2, f2⟩ : ∃ y, IntKind.u64.wrap (a5 + a6) = y := ⟨_, rfl⟩
  obtain ⟨a7, e7⟩ := hs y2 4 (by decide)
  obtain ⟨y3, f3⟩ : ∃ y, IntKind.u64.wrap (a7 + y2) = y := ⟨_, rfl⟩
  obtain ⟨a8, e8⟩ := ha y3 1085102592571150095
  obtain ⟨a9, e9⟩ := hs a8 8 (by decide)
  obtain ⟨y4, f4⟩ : ∃ y, IntKind.u64.wrap (a8 + a9) = y := ⟨_, rfl⟩
  obtain ⟨a10, e10⟩ := hs y4 16 (by decide)
  obtain ⟨y5, f5⟩ : ∃ y, IntKind.u64.wrap (y4 + a10) = y := ⟨_, rfl⟩
  obtain ⟨a11, e11⟩ := hs y5 32 (by decide)
  obtain ⟨y6, f6⟩ : ∃ y, IntKind.u64.wrap (y5 + a11) = y := ⟨_, rfl⟩
  obtain ⟨y7, f7⟩ : ∃ y, IntKind.i64.wrap y6 = y := ⟨_, rfl⟩
  obtain ⟨c, g1, g2, g3⟩ := and127 (BitVec.ofInt 64 y7)
  have e12 : binOp .and .no (.int .i64 y7) (.int .i64 127) = some (.int .i64 c) := by
    rw [bo_and, ← g1]; rfl
  refine ⟨c, ?_, g2, g3⟩
  simp only [go_sem, Nat.reduceEqDiff, Nat.reduceAdd, Nat.reduceMul, Nat.reduceLeDiff, Nat.reduceBEq, reduceCtorEq, ↓reduceIte, Int.reduceToNat, Int.reduceLE, Int.reduceLT, F_math_bits_OnesCount64, F_math_bits_OnesCount64_r0, F_math_bits_OnesCount64_r1, F_math_bits_OnesCount64_r2, F_math_bits_OnesCount64_r3, F_math_bits_OnesCount64_r4, F_math_bits_OnesCount64_r5, F_math_bits_OnesCount64_r6, F_math_bits_OnesCount64_r7, e1, e2, e3, f1, e4, e5, e6, f2, e7, f3, e8, e9, f4, e10, f5, e11, f6, f7, e12]

theorem c_bits_Count (s : BitVec 64) (H : Heap) : ∃ c : Int, runT tab n_bits_Set_Count [.int .u64 s.toNat] H = some (.int .i64 c, H, H.length) ∧ 0 ≤ c ∧ c ≤ 127 := by
  obtain ⟨c, h, h1, h2⟩ := c_OnesCount64 s H
  refine ⟨c, ?_, h1, h2⟩
  rw [x_fun tab_bits_Set_Count _ (Nat.le_refl _)]
  simp only [go_sem, Nat.reduceEqDiff, Nat.reduceAdd, Nat.reduceMul, Nat.reduceLeDiff, Nat.reduceBEq, reduceCtorEq, ↓reduceIte, Int.reduceToNat, Int.reduceLE, Int.reduceLT, F_bits_Set_Count, F_bits_Set_Count_r0, F_bits_Set_Count_r1, h]

theorem u64_sub1 {s : BitVec 64} (h : s ≠ 0#64) : IntKind.u64.wrap ((s.toNat : Int) - 1) = ((s - 1#64).toNat : Int) := by
  have h0 : s.toNat ≠ 0 := fun e => h (BitVec.eq_of_toNat_eq (by simpa using e))
  have hlt := s.isLt
  rw [sub1_nat h, wrap_u64 (by omega) (by omega)]
  omega

theorem c_bits_List (s : BitVec 64) (H : Heap) : runT tab n_bits_Set_List [.int .u64 s.toNat] H = some (.vsl ((listB s).map fun j => .int .i64 (j : Nat)), H, H.length) := by
  rw [x_fun tab_bits_Set_List _ (Nat.le_refl _)]
  obtain ⟨c, hc, h0, h1⟩ := c_bits_Count s H
  -- the slice that is made
  obtain ⟨v0, K0, hmk, hK0, hB0⟩ : ∃ v0 K0, (∀ (e : Env) (r : List SI), stepAll (runT tab) (⟨some 6, none, .makeSlice 1 8 (.int .i64 (0)) (.lit (.int .i64 (0))) (.slot 5)⟩ :: r) ⟨(5, some (.int .i64 c)) :: e, [], [], H, H.length, H.length⟩ =
      stepAll (runT tab) r ⟨(6, some v0) :: (5, some (.int .i64 c)) :: e, [], [], K0, H.length, H.length⟩) ∧ H.length ≤ K0.length ∧ Bld H.length K0 1 7 v0 [] := by
    have hcc : (0 : Int) ≤ 0 ∧ 0 ≤ c ∧ c ≤ 140737488355328 ∧ c.toNat * 8 ≤ maxBytes := ⟨by decide, h0, by omega, by unfold maxBytes; omega⟩
    by_cases hz : c = 0
    · refine ⟨.emp, H, fun e r => ?_, Nat.le_refl _, Bld.emp⟩
      rw [w_makeSlice]
      simp only [evX_lit, evX_slot, look_cons', if_true, bind_some', if_pos hcc, if_pos hz]
    · refine ⟨.ref H.length 0 0 0, H ++ [some (.row 1 0 [])], fun e r => ?_, by simp, .inr ⟨H.length, 0, [], rfl, Nat.le_refl _, row_last, rfl⟩⟩
      rw [w_makeSlice]
      simp only [evX_lit, evX_slot, look_cons', if_true, bind_some', if_pos hcc, if_neg hz]
      rfl
  have hloop := loop_inv (F := tab) (b := F_bits_Set_List_l5)
    (fun n st => ∃ (x : BitVec 64) (v : AV) (K : Heap) (acc : List AV), n = x.toNat ∧ st = ⟨[(0, some (.int .u64 x.toNat)), (3, some v)], [], [], K, H.length, H.length⟩ ∧ H.length ≤ K.length ∧
      Bld H.length K 1 7 v acc ∧ acc ++ (listB x).map (fun j => .int .i64 (j : Nat)) = (listB s).map fun j => .int .i64 (j : Nat))
    (fun r => ∃ (v : AV) (K : Heap), r = (.exit 0, ⟨[(0, some (.int .u64 0)), (3, some v), (8, some (.bool false))], [], [], K, H.length, H.length⟩) ∧ Bld H.length K 1 7 v ((listB s).map fun j => .int .i64 (j : Nat)))
    (by
      rintro n st ⟨x, v, K, acc, rfl, rfl, hK, hB, hacc⟩
      by_cases hx : x = 0#64
      · left
        subst hx
        rw [listB_zero, List.map_nil, List.append_nil] at hacc
        subst hacc
        refine ⟨(.exit 0, ⟨[(0, some (.int .u64 0)), (3, some v), (8, some (.bool false))], [], [], K, H.length, H.length⟩), ?_, by simp, v, K, rfl, hB⟩
        simp only [go_sem, Nat.reduceEqDiff, Nat.reduceAdd, Nat.reduceMul, Nat.reduceLeDiff, Nat.reduceBEq, reduceCtorEq, ↓reduceIte, Int.reduceToNat, Int.reduceLE, Int.reduceLT, F_bits_Set_List_l5, F_bits_Set_List_r2, F_bits_Set_List_r3, F_bits_Set_List_r4]
      · right
        have hle : (listB s).length ≤ 64 := by
          unfold listB; exact Nat.le_trans (List.length_filter_le _ _) (by simp)
        have hal : acc.length ≤ 64 := by
          have := congrArg List.length hacc
          simp at this
          omega
        obtain ⟨v', K', happ, hB', _, hK'⟩ := hB.append1 hK (y := .int .i64 (firstB x)) (fun _ _ _ => rfl) (bytes := 8) (z := 1) (by unfold maxBytes; omega) (by unfold maxBytes; omega)
        refine ⟨(dropB x).toNat, ⟨[(0, some (.int .u64 (dropB x).toNat)), (3, some v')], [], [], K', H.length, H.length⟩, dropB_lt hx, ?_, dropB x, v', K', acc ++ [.int .i64 (firstB x)], rfl, rfl, hK', hB', ?_⟩
        · have h1 := c_bits_First x hx K
          have hm : min H.length K.length = H.length := Nat.min_eq_left hK
          have hu := u64_sub1 hx
          simp only [go_sem, Nat.reduceEqDiff, Nat.reduceAdd, Nat.reduceMul, Nat.reduceLeDiff, Nat.reduceBEq, reduceCtorEq, ↓reduceIte, Int.reduceToNat, Int.reduceLE, Int.reduceLT, F_bits_Set_List_l5, F_bits_Set_List_r2, F_bits_Set_List_r3, F_bits_Set_List_r4, hx, h1, hm, List.replicate, List.set, Nat.zero_lt_one, happ, hu, List.reduceReplicate]
          rfl
        · rw [← hacc, listB_cons hx]; simp)
    s.toNat _ ⟨s, v0, K0, [], rfl, rfl, hK0, hB0, rfl⟩
  obtain ⟨r, hr, v, K, rfl, hB⟩ := hloop
  have hv := hB.view (m := 9) (by decide) false
  simp only [go_sem, Nat.reduceEqDiff, Nat.reduceAdd, Nat.reduceMul, Nat.reduceLeDiff, Nat.reduceBEq, reduceCtorEq, ↓reduceIte, Int.reduceToNat, Int.reduceLE, Int.reduceLT, F_bits_Set_List, F_bits_Set_List_r0, F_bits_Set_List_r1, F_bits_Set_List_r6, hc, hmk, hr, hv]
end Go.AI

