/- The package graph: who comes free, and who never does. -/
import Derived.Test.YtkpbgdihnapbaaaDoorGraph2
set_option linter.unusedVariables false
set_option linter.unusedSectionVars false
set_option linter.unusedSimpArgs false
namespace Go.AI
open Go Go.Proofs

def dis (a b : BitVec 64) : Prop := ∀ j, a.getLsbD j = true → b.getLsbD j = true → False
/-- Those that wait for one another alone. -/
def Closed (D : BitVec 64) (l : List Node) : Prop := ∀ u x, l[u]? = some x → D.getLsbD u = true → x.stuck = true ∧ ∀ free, dis free D → gmet free x = false

theorem or_one_bit {s : BitVec 64} {t : Nat} {j : Nat} : (s ||| one (t : Int)).getLsbD j = true ↔ s.getLsbD j = true ∨ (t = j ∧ t < 64) := by
  rw [BitVec.getLsbD_or, one_bit, Bool.or_eq_true]
  simp only [Bool.and_eq_true, decide_eq_true_eq, Int.toNat_natCast]
  constructor
  · rintro (h | h)
    · exact .inl h
    · exact .inr ⟨h.2, by omega⟩
  · rintro (h | h)
    · exact .inl h
    · exact .inr ⟨⟨by omega, by omega⟩, h.1⟩
theorem without_bit {s : BitVec 64} {t : Nat} {j : Nat} (hj : j < 64) : (s &&& ~~~ one (t : Int)).getLsbD j = true ↔ s.getLsbD j = true ∧ ¬ (t = j ∧ t < 64) := by
  rw [BitVec.getLsbD_and, BitVec.getLsbD_not, one_bit]
  simp only [Bool.and_eq_true, decide_eq_true_eq, Int.toNat_natCast, hj, decide_true, Bool.true_and, Bool.not_eq_true', Bool.and_eq_false_iff, decide_eq_false_iff_not]
  constructor
  · rintro ⟨h, h'⟩
    exact ⟨h, by omega⟩
  · rintro ⟨h, h'⟩
    exact ⟨h, by omega⟩
theorem bit_lt {s : BitVec 64} {j : Nat} (h : s.getLsbD j = true) : j < 64 := by
  rcases Nat.lt_or_ge j 64 with h' | h'
  · exact h'
  · rw [BitVec.getLsbD_of_ge _ _ h'] at h; cases h

theorem filter_lt {p q : Nat → Bool} : ∀ {l : List Nat}, (∀ j ∈ l, q j = true → p j = true) → (∃ j ∈ l, p j = true ∧ q j = false) → (l.filter q).length < (l.filter p).length
  | [], _, ⟨j, h, _⟩ => by simp at h
  | x :: r, h1, ⟨j, hj, hp, hq⟩ => by
    have hr : ∀ j ∈ r, q j = true → p j = true := fun j hj => h1 j (List.mem_cons_of_mem _ hj)
    have hle : (r.filter q).length ≤ (r.filter p).length := by
      rw [← List.countP_eq_length_filter, ← List.countP_eq_length_filter]
      exact List.countP_mono_left hr
    rw [List.filter_cons, List.filter_cons]
    rcases List.mem_cons.1 hj with rfl | hj
    · simp only [hp, hq, if_true, Bool.false_eq_true, if_false, List.length_cons]; omega
    · have := filter_lt hr ⟨j, hj, hp, hq⟩
      cases hx : q x with
      | true => simp only [h1 x (List.mem_cons_self ..) hx, if_true, List.length_cons]; omega
      | false =>
        cases p x
        · simpa using this
        · simp only [Bool.false_eq_true, if_false, if_true, List.length_cons]; omega

def left (free : BitVec 64) : Nat := ((List.range 64).filter fun j => !free.getLsbD j).length
theorem left_le (free : BitVec 64) : left free ≤ 64 := Nat.le_trans (List.length_filter_le _ _) (by simp)
theorem left_lt {free : BitVec 64} {t : Nat} (ht : t < 64) (h : free.getLsbD t = false) : left (free ||| one (t : Int)) < left free := by
  unfold left
  refine filter_lt (fun j _ hj => ?_) ⟨t, List.mem_range.2 ht, by simp [h], ?_⟩
  · simp only [Bool.not_eq_true'] at hj ⊢
    cases hf : free.getLsbD j with
    | false => rfl
    | true => rw [or_one_bit.2 (.inl hf)] at hj; cases hj
  · simp only [Bool.not_eq_false']
    exact or_one_bit.2 (.inr ⟨rfl, ht⟩)

def goF (l : List Node) (free : BitVec 64) (todo : BitVec 64) (u : Nat) : BitVec 64 :=
  match l[u]? with
  | some x => if gmet free x = true then todo ||| one (u : Int) else todo
  | none => todo

section
variable (l : List Node) (hl : l.length ≤ 64) (hs : graphSmall l) (H : Heap) (A : Arr)
include hl hs

theorem order_go (free todo : BitVec 64) (v : AV) (K : Heap) (hK : H.length ≤ K.length) (us : List Nat) (hus : ∀ u ∈ us, u < l.length) (hul : us.length ≤ 64) :
    execT tab (.loop F_graph_order_l28) ⟨[(0, some (.vsl (l.map Node.av))), (4, some (.int .u64 free.toNat)), (5, some v), (6, some (.int .u64 todo.toNat)), (74, some (.vsl (us.map fun j => .int .i64 (j : Nat)))), (75, some (.int .i64 us.length)), (76, some (.int .i64 0))], [(7, some (A.1.map uS))], [(7, some (7, 0))], K, H.length, H.length⟩ =
    some (.exit 6, ⟨[(0, some (.vsl (l.map Node.av))), (4, some (.int .u64 free.toNat)), (5, some v), (6, some (.int .u64 (us.foldl (goF l free) todo).toNat)), (74, some (.vsl (us.map fun j => .int .i64 (j : Nat)))), (75, some (.int .i64 us.length)), (76, some (.int .i64 us.length)), (77, some (.bool false))], [(7, some (A.1.map uS))], [(7, some (7, 0))], K, H.length, H.length⟩) := by
  have hloop := loop_fold (F := tab) (b := F_graph_order_l28) us
    (fun i (todo : BitVec 64) => ⟨[(0, some (.vsl (l.map Node.av))), (4, some (.int .u64 free.toNat)), (5, some v), (6, some (.int .u64 todo.toNat)), (74, some (.vsl (us.map fun j => .int .i64 (j : Nat)))), (75, some (.int .i64 us.length)), (76, some (.int .i64 i))], [(7, some (A.1.map uS))], [(7, some (7, 0))], K, H.length, H.length⟩)
    (goF l free) (.exit 6) (by decide)
    (fun todo => ⟨[(0, some (.vsl (l.map Node.av))), (4, some (.int .u64 free.toNat)), (5, some v), (6, some (.int .u64 todo.toNat)), (74, some (.vsl (us.map fun j => .int .i64 (j : Nat)))), (75, some (.int .i64 us.length)), (76, some (.int .i64 us.length)), (77, some (.bool false))], [(7, some (A.1.map uS))], [(7, some (7, 0))], K, H.length, H.length⟩)
    (fun i todo u hu hi => by
      have hi' := wi (show i < 4611686018427387904 by omega)
      have hlt := hus u (mem_of_get hu)
      obtain ⟨x, hx⟩ : ∃ x, l[u]? = some x := ⟨_, List.getElem?_eq_getElem hlt⟩
      have hc := c_graph_met x (hs.2 x (mem_of_get hx)) free K
      unfold Node.av at hc
      have hm := Nat.min_eq_left hK
      cases h : gmet free x with
      | true => simp only [go_sem, Nat.reduceEqDiff, Nat.reduceAdd, Nat.reduceMul, Nat.reduceLeDiff, Nat.reduceBEq, reduceCtorEq, ↓reduceIte, Int.reduceToNat, Int.reduceLE, Int.reduceLT, F_graph_order_l28, F_graph_order_r23, F_graph_order_r24, F_graph_order_r25, F_graph_order_r26, F_graph_order_r27, hu, hi, hi', hx, Node.av, hc, h, goF, c_bits_With, hm]
      | false => simp only [go_sem, Nat.reduceEqDiff, Nat.reduceAdd, Nat.reduceMul, Nat.reduceLeDiff, Nat.reduceBEq, reduceCtorEq, ↓reduceIte, Int.reduceToNat, Int.reduceLE, Int.reduceLT, F_graph_order_l28, F_graph_order_r23, F_graph_order_r24, F_graph_order_r25, F_graph_order_r26, F_graph_order_r27, hu, hi, hi', hx, Node.av, hc, h, goF, hm])
    (fun A => by simp only [go_sem, Nat.reduceEqDiff, Nat.reduceAdd, Nat.reduceMul, Nat.reduceLeDiff, Nat.reduceBEq, reduceCtorEq, ↓reduceIte, Int.reduceToNat, Int.reduceLE, Int.reduceLT, F_graph_order_l28, F_graph_order_r23, F_graph_order_r24, F_graph_order_r25, F_graph_order_r26, F_graph_order_r27, Nat.lt_irrefl]) todo
  simp only [cast0] at hloop
  exact hloop
end

theorem goF_spec {l : List Node} {free : BitVec 64} : ∀ (us : List Nat) (todo : BitVec 64), (∀ u ∈ us, u < 64) → ∀ j, (us.foldl (goF l free) todo).getLsbD j = true → todo.getLsbD j = true ∨ (j ∈ us ∧ ∃ x, l[j]? = some x ∧ gmet free x = true)
  | [], todo, _, j, h => .inl h
  | u :: r, todo, hu, j, h => by
    rw [List.foldl_cons] at h
    rcases goF_spec r _ (fun v hv => hu v (List.mem_cons_of_mem _ hv)) j h with h1 | ⟨h1, h2⟩
    · unfold goF at h1
      split at h1
      · rename_i x hx
        split at h1
        · rename_i hm
          rcases or_one_bit.1 h1 with h1 | ⟨rfl, _⟩
          · exact .inl h1
          · exact .inr ⟨List.mem_cons_self .., x, hx, hm⟩
        · exact .inl h1
      · exact .inl h1
    · exact .inr ⟨List.mem_cons_of_mem _ h1, h2⟩

structure Ord (l : List Node) (free todo : BitVec 64) : Prop where
  f1 : ∀ D, Closed D l → dis free D
  f2 : ∀ D, Closed D l → dis todo D
  off : dis free todo
  lt : ∀ j, todo.getLsbD j = true → j < l.length

theorem c_graph_order (l : List Node) (hl : l.length ≤ 64) (hs : graphSmall l) (H : Heap) : ∃ (out : List AV) (free : BitVec 64), runT tab n_graph_order [.vsl (l.map Node.av)] H = some (.tup [.vsl out, .int .u64 free.toNat], H, H.length) ∧ ∀ D, Closed D l → dis free D := by
  obtain ⟨A, hA, hAb⟩ := c_graph_asks l hl hs H
  have hlen : (A.1.map uS).length = 64 := by simp [A.2]
  -- those that are not stuck
  have l1 := loop_inv (F := tab) (b := F_graph_order_l10)
    (fun n st => ∃ (i : Nat) (free : BitVec 64) (v : AV) (K : Heap) (acc : List AV), n = l.length - i ∧ i ≤ l.length ∧ acc.length ≤ i ∧ H.length ≤ K.length ∧ Bld H.length K 1 7 v acc ∧ (∀ j, free.getLsbD j = true → ∃ x, l[j]? = some x ∧ x.stuck = false) ∧
      st = ⟨[(0, some (.vsl (l.map Node.av))), (4, some (.int .u64 free.toNat)), (5, some v), (6, some (.int .u64 0)), (17, some (.vsl (l.map Node.av))), (18, some (.int .i64 l.length)), (19, some (.int .i64 i))], [(7, some (A.1.map uS))], [(7, some (7, 0))], K, H.length, H.length⟩)
    (fun r => ∃ (free : BitVec 64) (v : AV) (K : Heap) (acc : List AV), acc.length ≤ l.length ∧ H.length ≤ K.length ∧ Bld H.length K 1 7 v acc ∧ (∀ j, free.getLsbD j = true → ∃ x, l[j]? = some x ∧ x.stuck = false) ∧
      r = (.exit 0, ⟨[(0, some (.vsl (l.map Node.av))), (4, some (.int .u64 free.toNat)), (5, some v), (6, some (.int .u64 0)), (17, some (.vsl (l.map Node.av))), (18, some (.int .i64 l.length)), (19, some (.int .i64 l.length)), (20, some (.bool false))], [(7, some (A.1.map uS))], [(7, some (7, 0))], K, H.length, H.length⟩))
    (by
      rintro n st ⟨i, free, v, K, acc, rfl, hi, hal, hK, hB, hf, rfl⟩
      rcases Nat.lt_or_ge i l.length with hlt | hge
      · right
        obtain ⟨x, hx⟩ : ∃ x, l[i]? = some x := ⟨_, List.getElem?_eq_getElem hlt⟩
        have hi' := wi (show i < 4611686018427387904 by omega)
        have hm := Nat.min_eq_left hK
        cases hst : x.stuck with
        | true =>
          refine ⟨l.length - (i + 1), _, by omega, ?_, i + 1, free, v, K, acc, rfl, hlt, by omega, hK, hB, hf, rfl⟩
          simp only [go_sem, Nat.reduceEqDiff, Nat.reduceAdd, Nat.reduceMul, Nat.reduceLeDiff, Nat.reduceBEq, reduceCtorEq, ↓reduceIte, Int.reduceToNat, Int.reduceLE, Int.reduceLT, F_graph_order_l10, F_graph_order_r4, F_graph_order_r5, F_graph_order_r6, F_graph_order_r7, F_graph_order_r8, F_graph_order_r9, hx, hlt, hi', Node.av, splice_def, hst]
        | false =>
          obtain ⟨v', K', happ, hB', _, hK'⟩ := hB.append1 hK (y := .int .i64 (i : Nat)) (fun _ _ _ => rfl) (bytes := 8) (z := 1) (by unfold maxBytes; omega) (by unfold maxBytes; omega)
          refine ⟨l.length - (i + 1), _, by omega, ?_, i + 1, free ||| one (i : Int), v', K', acc ++ [.int .i64 (i : Nat)], rfl, hlt, by simp; omega, hK', hB', fun j hj => ?_, rfl⟩
          · simp only [go_sem, Nat.reduceEqDiff, Nat.reduceAdd, Nat.reduceMul, Nat.reduceLeDiff, Nat.reduceBEq, reduceCtorEq, ↓reduceIte, Int.reduceToNat, Int.reduceLE, Int.reduceLT, F_graph_order_l10, F_graph_order_r4, F_graph_order_r5, F_graph_order_r6, F_graph_order_r7, F_graph_order_r8, F_graph_order_r9, hx, hlt, hi', Node.av, splice_def, hst, c_bits_With, hm, List.set, Nat.zero_lt_one, happ, List.reduceReplicate]
          · rcases or_one_bit.1 hj with hj | ⟨rfl, _⟩
            · exact hf j hj
            · exact ⟨x, hx, hst⟩
      · left
        have : i = l.length := by omega
        subst this
        refine ⟨_, ?_, ?_, free, v, K, acc, hal, hK, hB, hf, rfl⟩
        · simp only [go_sem, Nat.reduceEqDiff, Nat.reduceAdd, Nat.reduceMul, Nat.reduceLeDiff, Nat.reduceBEq, reduceCtorEq, ↓reduceIte, Int.reduceToNat, Int.reduceLE, Int.reduceLT, F_graph_order_l10, F_graph_order_r4, F_graph_order_r5, F_graph_order_r6, F_graph_order_r7, F_graph_order_r8, F_graph_order_r9, Nat.lt_irrefl]
        · simp)
    l.length _ ⟨0, 0#64, .nilsl, H, [], by simp, Nat.zero_le _, by simp, Nat.le_refl _, Bld.nil, fun j hj => by simp at hj, rfl⟩
  obtain ⟨r1, hr1, free1, v1, K1, acc1, hal1, hK1, hB1, hf1, rfl⟩ := l1
  have hm1 := Nat.min_eq_left hK1
  -- those that can go on at once
  have l2 := loop_inv (F := tab) (b := F_graph_order_l17)
    (fun n st => ∃ (i : Nat) (todo : BitVec 64), n = l.length - i ∧ i ≤ l.length ∧ (∀ j, todo.getLsbD j = true → ∃ x, l[j]? = some x ∧ x.stuck = true ∧ gmet free1 x = true) ∧
      st = ⟨[(0, some (.vsl (l.map Node.av))), (4, some (.int .u64 free1.toNat)), (5, some v1), (6, some (.int .u64 todo.toNat)), (35, some (.vsl (l.map Node.av))), (36, some (.int .i64 l.length)), (37, some (.int .i64 i))], [(7, some (A.1.map uS))], [(7, some (7, 0))], K1, H.length, H.length⟩)
    (fun r => ∃ (todo : BitVec 64), (∀ j, todo.getLsbD j = true → ∃ x, l[j]? = some x ∧ x.stuck = true ∧ gmet free1 x = true) ∧
      r = (.exit 2, ⟨[(0, some (.vsl (l.map Node.av))), (4, some (.int .u64 free1.toNat)), (5, some v1), (6, some (.int .u64 todo.toNat)), (35, some (.vsl (l.map Node.av))), (36, some (.int .i64 l.length)), (37, some (.int .i64 l.length)), (38, some (.bool false))], [(7, some (A.1.map uS))], [(7, some (7, 0))], K1, H.length, H.length⟩))
    (by
      rintro n st ⟨i, todo, rfl, hi, hf, rfl⟩
      rcases Nat.lt_or_ge i l.length with hlt | hge
      · right
        obtain ⟨x, hx⟩ : ∃ x, l[i]? = some x := ⟨_, List.getElem?_eq_getElem hlt⟩
        have hi' := wi (show i < 4611686018427387904 by omega)
        have hc := c_graph_met x (hs.2 x (mem_of_get hx)) free1 K1
        unfold Node.av at hc
        cases hst : x.stuck with
        | false =>
          refine ⟨l.length - (i + 1), _, by omega, ?_, i + 1, todo, rfl, hlt, hf, rfl⟩
          simp only [go_sem, Nat.reduceEqDiff, Nat.reduceAdd, Nat.reduceMul, Nat.reduceLeDiff, Nat.reduceBEq, reduceCtorEq, ↓reduceIte, Int.reduceToNat, Int.reduceLE, Int.reduceLT, F_graph_order_l17, F_graph_order_r12, F_graph_order_r13, F_graph_order_r14, F_graph_order_r15, F_graph_order_r16, hx, hlt, hi', Node.av, splice_def, hst]
        | true =>
          rw [hst] at hc
          cases hg : gmet free1 x with
          | false =>
            rw [hg] at hc
            refine ⟨l.length - (i + 1), _, by omega, ?_, i + 1, todo, rfl, hlt, hf, rfl⟩
            simp only [go_sem, Nat.reduceEqDiff, Nat.reduceAdd, Nat.reduceMul, Nat.reduceLeDiff, Nat.reduceBEq, reduceCtorEq, ↓reduceIte, Int.reduceToNat, Int.reduceLE, Int.reduceLT, F_graph_order_l17, F_graph_order_r12, F_graph_order_r13, F_graph_order_r14, F_graph_order_r15, F_graph_order_r16, hx, hlt, hi', Node.av, splice_def, hst, hc, hm1]
          | true =>
            rw [hg] at hc
            refine ⟨l.length - (i + 1), _, by omega, ?_, i + 1, todo ||| one (i : Int), rfl, hlt, fun j hj => ?_, rfl⟩
            · simp only [go_sem, Nat.reduceEqDiff, Nat.reduceAdd, Nat.reduceMul, Nat.reduceLeDiff, Nat.reduceBEq, reduceCtorEq, ↓reduceIte, Int.reduceToNat, Int.reduceLE, Int.reduceLT, F_graph_order_l17, F_graph_order_r12, F_graph_order_r13, F_graph_order_r14, F_graph_order_r15, F_graph_order_r16, hx, hlt, hi', Node.av, splice_def, hst, hc, c_bits_With, hm1]
            · rcases or_one_bit.1 hj with hj | ⟨rfl, _⟩
              · exact hf j hj
              · exact ⟨x, hx, hst, hg⟩
      · left
        have : i = l.length := by omega
        subst this
        refine ⟨_, ?_, ?_, todo, hf, rfl⟩
        · simp only [go_sem, Nat.reduceEqDiff, Nat.reduceAdd, Nat.reduceMul, Nat.reduceLeDiff, Nat.reduceBEq, reduceCtorEq, ↓reduceIte, Int.reduceToNat, Int.reduceLE, Int.reduceLT, F_graph_order_l17, F_graph_order_r12, F_graph_order_r13, F_graph_order_r14, F_graph_order_r15, F_graph_order_r16, Nat.lt_irrefl]
        · simp)
    l.length _ ⟨0, 0#64, by simp, Nat.zero_le _, fun j hj => by simp at hj, rfl⟩
  obtain ⟨r2, hr2, todo2, ht2, rfl⟩ := l2
  -- one after the other
  have hd1 : ∀ D, Closed D l → dis free1 D := fun D hD j h1 h2 => by
    obtain ⟨x, hx, hst⟩ := hf1 j h1
    rw [(hD j x hx h2).1] at hst; cases hst
  have o0 : Ord l free1 todo2 := {
    f1 := hd1
    f2 := fun D hD j h1 h2 => by
      obtain ⟨x, hx, hst, hg⟩ := ht2 j h1
      rw [(hD j x hx h2).2 free1 (hd1 D hD)] at hg; cases hg
    off := fun j h1 h2 => by
      obtain ⟨x, hx, hst⟩ := hf1 j h1
      obtain ⟨y, hy, hst', _⟩ := ht2 j h2
      rw [hx] at hy; cases hy; rw [hst] at hst'; cases hst'
    lt := fun j h => by
      obtain ⟨x, hx, _⟩ := ht2 j h
      exact (List.getElem?_eq_some_iff.1 hx).1 }
  have l3 := loop_inv (F := tab) (b := F_graph_order_l29)
    (fun n st => ∃ (free todo : BitVec 64) (v : AV) (K : Heap) (acc : List AV) (ex : Env), n = left free ∧ acc.length + left free ≤ 128 ∧ H.length ≤ K.length ∧ Bld H.length K 1 7 v acc ∧ Ord l free todo ∧
      st = ⟨(0, some (.vsl (l.map Node.av))) :: (4, some (.int .u64 free.toNat)) :: (5, some v) :: (6, some (.int .u64 todo.toNat)) :: ex, [(7, some (A.1.map uS))], [(7, some (7, 0))], K, H.length, H.length⟩)
    (fun r => ∃ (free : BitVec 64) (v : AV) (K : Heap) (acc : List AV), Bld H.length K 1 7 v acc ∧ (∀ D, Closed D l → dis free D) ∧
      r = (.exit 4, ⟨[(0, some (.vsl (l.map Node.av))), (4, some (.int .u64 free.toNat)), (5, some v), (6, some (.int .u64 0)), (54, some (.bool false))], [(7, some (A.1.map uS))], [(7, some (7, 0))], K, H.length, H.length⟩))
    (by
      rintro n st ⟨free, todo, v, K, acc, ex, rfl, hal, hK, hB, ho, rfl⟩
      by_cases ht : todo = 0#64
      · left
        subst ht
        refine ⟨_, ?_, ?_, free, v, K, acc, hB, ho.f1, rfl⟩
        · simp only [go_sem, Nat.reduceEqDiff, Nat.reduceAdd, Nat.reduceMul, Nat.reduceLeDiff, Nat.reduceBEq, reduceCtorEq, ↓reduceIte, Int.reduceToNat, Int.reduceLE, Int.reduceLT, F_graph_order_l29, F_graph_order_r18, F_graph_order_r19, F_graph_order_r20, F_graph_order_r21, F_graph_order_r22]
        · simp
      · right
        obtain ⟨h1, h2, _⟩ := firstB_spec ht
        have hnf : free.getLsbD (firstB todo) = false := by
          cases hx : free.getLsbD (firstB todo) with
          | false => rfl
          | true => exact (ho.off (firstB todo) hx h2).elim
        have hlf := left_lt h1 hnf
        obtain ⟨v', K', happ, hB', _, hK'⟩ := hB.append1 hK (y := .int .i64 (firstB todo : Nat)) (fun _ _ _ => rfl) (bytes := 8) (z := 1) (by unfold maxBytes; omega) (by unfold maxBytes; omega)
        have hm := Nat.min_eq_left hK
        have hm' := Nat.min_eq_left hK'
        have hc := c_bits_First todo ht K
        -- the list of those that may go on
        generalize hfr : free ||| one (firstB todo : Int) = free' at *
        generalize htd : todo &&& ~~~ one (firstB todo : Int) = todo' at *
        have hat : (A.1.map uS)[firstB todo]? = some (.int .u64 (A.at (firstB todo)).toNat) := by
          rw [List.getElem?_map]
          unfold Arr.at
          rw [List.getElem?_eq_getElem (by rw [A.2]; exact h1)]
          rfl
        generalize hus : A.at (firstB todo) &&& ~~~ free' &&& ~~~ todo' = us
        have husb : ∀ u ∈ listB us, us.getLsbD u = true ∧ u < 64 := fun u hu => by
          unfold listB at hu
          have := List.mem_filter.1 hu
          exact ⟨this.2, List.mem_range.1 this.1⟩
        have husn : ∀ u ∈ listB us, u < l.length := fun u hu => by
          have h3 := (husb u hu).1
          rw [← hus, BitVec.getLsbD_and, BitVec.getLsbD_and, Bool.and_eq_true, Bool.and_eq_true] at h3
          have h4 := h3.1.1
          unfold Arr.at at h4
          rw [List.getElem?_eq_getElem (by rw [A.2]; exact h1)] at h4
          exact hAb _ (List.getElem_mem _) u h4
        have hul : (listB us).length ≤ 64 := Nat.le_trans (List.length_filter_le _ _) (by simp)
        have hgo := order_go l hl hs H A free' todo' v' K' hK' (listB us) husn hul
        have hlist := c_bits_List us K'
        have hti : (0 : Int) ≤ (firstB todo : Nat) ∧ ((firstB todo : Nat) : Int) < ((64 : Nat) : Int) := by omega
        have h1' := c_bits_With free (firstB todo : Int) K
        have h2' := c_bits_Without todo (firstB todo : Int) K
        rw [hfr] at h1'
        rw [htd] at h2'
        refine ⟨left free', _, hlf, ?_, free', (listB us).foldl (goF l free') todo', v', K', acc ++ [.int .i64 (firstB todo : Nat)], [(74, some (.vsl ((listB us).map fun j => .int .i64 (j : Nat)))), (75, some (.int .i64 (listB us).length)), (76, some (.int .i64 (listB us).length)), (77, some (.bool false))], rfl, by simp; omega, hK', hB', ?_, rfl⟩
        · simp only [go_sem, Nat.reduceEqDiff, Nat.reduceAdd, Nat.reduceMul, Nat.reduceLeDiff, Nat.reduceBEq, reduceCtorEq, ↓reduceIte, Int.reduceToNat, Int.reduceLE, Int.reduceLT, F_graph_order_l29, F_graph_order_r18, F_graph_order_r19, F_graph_order_r20, F_graph_order_r21, F_graph_order_r22, ht, hc, hm, h1', h2', List.set, Nat.zero_lt_one, happ, List.reduceReplicate, hat, h1, Nat.mul_one, hus, hlist, hm', hgo]
        · have hfb : ∀ j, free'.getLsbD j = true ↔ free.getLsbD j = true ∨ (firstB todo = j ∧ firstB todo < 64) := fun j => by rw [← hfr]; exact or_one_bit
          have htb : ∀ j, todo'.getLsbD j = true → todo.getLsbD j = true ∧ firstB todo ≠ j := fun j hj => by
            have hj64 := bit_lt hj
            rw [← htd] at hj
            have := (without_bit hj64).1 hj
            exact ⟨this.1, fun e => this.2 ⟨e, h1⟩⟩
          have hdf : ∀ D, Closed D l → dis free' D := fun D hD j hj hj' => by
            rcases (hfb j).1 hj with hj | ⟨rfl, _⟩
            · exact ho.f1 D hD j hj hj'
            · exact ho.f2 D hD _ h2 hj'
          have hgs := goF_spec (l := l) (free := free') (listB us) todo' (fun u hu => (husb u hu).2)
          exact {
            f1 := hdf
            f2 := fun D hD j hj hj' => by
              rcases hgs j hj with hj | ⟨_, x, hx, hg⟩
              · exact ho.f2 D hD j (htb j hj).1 hj'
              · rw [(hD j x hx hj').2 free' (hdf D hD)] at hg; cases hg
            off := fun j hj hj' => by
              rcases hgs j hj' with hj' | ⟨hm, _⟩
              · obtain ⟨h3, h4⟩ := htb j hj'
                rcases (hfb j).1 hj with hj | ⟨e, _⟩
                · exact ho.off j hj h3
                · exact h4 e
              · have h3 := (husb j hm).1
                have h4 := bit_lt h3
                rw [← hus, BitVec.getLsbD_and, BitVec.getLsbD_and, BitVec.getLsbD_not, hj] at h3
                simp at h3
            lt := fun j hj => by
              rcases hgs j hj with hj | ⟨_, x, hx, _⟩
              · exact ho.lt j (htb j hj).1
              · exact (List.getElem?_eq_some_iff.1 hx).1 })
    (left free1) _ ⟨free1, todo2, v1, K1, acc1, [(35, some (.vsl (l.map Node.av))), (36, some (.int .i64 l.length)), (37, some (.int .i64 l.length)), (38, some (.bool false))], rfl, by have := left_le free1; omega, hK1, hB1, o0, rfl⟩
  obtain ⟨r3, hr3, free3, v3, K3, acc3, hB3, hd3, rfl⟩ := l3
  refine ⟨acc3, free3, ?_, hd3⟩
  rw [x_fun tab_graph_order _ (Nat.le_refl _)]
  have hv := hB3.view (m := 8) (by decide) false
  have hAv : A.av = .agg (A.1.map uS) := rfl
  simp only [cast0, bv0] at hr1 hr2
  simp only [go_sem, Nat.reduceEqDiff, Nat.reduceAdd, Nat.reduceMul, Nat.reduceLeDiff, Nat.reduceBEq, reduceCtorEq, ↓reduceIte, Int.reduceToNat, Int.reduceLE, Int.reduceLT, F_graph_order, F_graph_order_r0, F_graph_order_r1, F_graph_order_r2, F_graph_order_r3, F_graph_order_r11, F_graph_order_r30, hA, hAv, hlen, splice_all, hr1, hr2, hr3, hv]

def doomedSpec (l : List Node) (d : BitVec 64) : Prop := ∀ D, Closed D l → ∀ j, j < l.length → D.getLsbD j = true → d.getLsbD j = true

theorem c_graph_Doomed (l : List Node) (hl : l.length ≤ 64) (hs : graphSmall l) (H : Heap) : ∃ d : BitVec 64, runT tab n_graph_Doomed [.vsl (l.map Node.av)] H = some (.int .u64 d.toNat, H, H.length) ∧ doomedSpec l d := by
  obtain ⟨out, free, ho, hd⟩ := c_graph_order l hl hs H
  have hch : runT tab n_graph_Check [.vsl (l.map Node.av)] H = some (.int .i64 0, H, H.length) := by
    rw [x_fun tab_graph_Check _ (Nat.le_refl _)]
    have h64 : ¬ (64 : Int) < l.length := by omega
    simp only [go_sem, Nat.reduceEqDiff, Nat.reduceAdd, Nat.reduceMul, Nat.reduceLeDiff, Nat.reduceBEq, reduceCtorEq, ↓reduceIte, Int.reduceToNat, Int.reduceLE, Int.reduceLT, F_graph_Check, F_graph_Check_r0, F_graph_Check_r1, F_graph_Check_r2, F_graph_Check_r3, h64]
  refine ⟨allB l.length &&& ~~~ free, ?_, fun D hD j hj hb => ?_⟩
  · rw [x_fun tab_graph_Doomed _ (Nat.le_refl _)]
    simp only [go_sem, Nat.reduceEqDiff, Nat.reduceAdd, Nat.reduceMul, Nat.reduceLeDiff, Nat.reduceBEq, reduceCtorEq, ↓reduceIte, Int.reduceToNat, Int.reduceLE, Int.reduceLT, F_graph_Doomed, F_graph_Doomed_r0, F_graph_Doomed_r1, F_graph_Doomed_r2, F_graph_Doomed_r3, F_graph_Doomed_r4, hch, ho, c_bits_All]
  · rw [BitVec.getLsbD_and, BitVec.getLsbD_not, allB_bit _ _ (by omega)]
    have : free.getLsbD j = false := by
      cases hf : free.getLsbD j with
      | false => rfl
      | true => exact (hd D hD j hf hb).elim
    simp [this]
    omega
end Go.AI

