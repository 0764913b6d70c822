/- The package witness: sound reports, and those that say what a graph says. -/
import Derived.Test.YtkpbgdihnapbaaaDoorWitness
set_option linter.unusedVariables false
set_option linter.unusedSimpArgs false
namespace Go.AI
open Go Go.Proofs

def soundB (r : Report) : Bool := decide (checkE r = 0) && r.nodes.all fun x => x.alts.all fun w => w.any (lacksB (setOf r.dead))

theorem c_witness_Sound (r : Report) (hr : r.small) (hd : r.dead.length ≤ 1000000) (H : Heap) : runT tab n_witness_Sound [r.av] H = some (.bool (soundB r), H, H.length) := by
  rw [x_fun tab_witness_Sound _ (Nat.le_refl _)]
  have hk := c_report_Check r hr H
  have hb := c_bits_Of r.dead hd H
  unfold Report.av at hk ⊢
  by_cases hc : checkE r = 0
  case neg =>
    simp only [go_sem, Nat.reduceEqDiff, Nat.reduceAdd, Nat.reduceMul, Nat.reduceLeDiff, Nat.reduceBEq, reduceCtorEq, ↓reduceIte, Int.reduceToNat, Int.reduceLE, Int.reduceLT, F_witness_Sound, F_witness_Sound_r0, F_witness_Sound_r1, F_witness_Sound_r2, F_witness_Sound_r3, F_witness_Sound_r4, F_witness_Sound_r16, hk, hc]
    simp [soundB, hc]
  have inner : ∀ (x : Node) (hx : x.small) (N I L : AV), execT tab (.loop F_witness_Sound_l13) ⟨[(3, some (.int .u64 (setOf r.dead).toNat)), (15, some L), (16, some N), (17, some I), (22, some (.vsl (x.alts.map wayAv))), (23, some (.int .i64 x.alts.length)), (24, some (.int .i64 0))], [], [], H, H.length, H.length⟩ =
      some (if (x.alts.all fun w => w.any (lacksB (setOf r.dead))) = true then (.exit 2, ⟨[(3, some (.int .u64 (setOf r.dead).toNat)), (15, some L), (16, some N), (17, some I), (22, some (.vsl (x.alts.map wayAv))), (23, some (.int .i64 x.alts.length)), (24, some (.int .i64 x.alts.length)), (25, some (.bool false))], [], [], H, H.length, H.length⟩)
        else (.ret, ⟨[(2, some (.bool false))], [], [], H, H.length, H.length⟩)) := by
    intro x hx N I L
    have := loop_all (F := tab) (b := F_witness_Sound_l13) x.alts
      (fun i => ⟨[(3, some (.int .u64 (setOf r.dead).toNat)), (15, some L), (16, some N), (17, some I), (22, some (.vsl (x.alts.map wayAv))), (23, some (.int .i64 x.alts.length)), (24, some (.int .i64 i))], [], [], H, H.length, H.length⟩)
      (fun w => w.any (lacksB (setOf r.dead)))
      (.exit 2, ⟨[(3, some (.int .u64 (setOf r.dead).toNat)), (15, some L), (16, some N), (17, some I), (22, some (.vsl (x.alts.map wayAv))), (23, some (.int .i64 x.alts.length)), (24, some (.int .i64 x.alts.length)), (25, some (.bool false))], [], [], H, H.length, H.length⟩)
      (.ret, ⟨[(2, some (.bool false))], [], [], H, H.length, H.length⟩)
      (fun i w hw hi => by
        have hi' := wi (big_lt hx.1 hi)
        have hl := c_witness_lacks w (hx.2 w (mem_of_get hw)) (setOf r.dead) H
        unfold wayAv at hl
        cases h : w.any (lacksB (setOf r.dead)) with
        | true =>
          have hn : ¬ idx (lacksB (setOf r.dead)) w < 0 := by rw [idx_neg, h]; decide
          simp only [go_sem, Nat.reduceEqDiff, Nat.reduceAdd, Nat.reduceMul, Nat.reduceLeDiff, Nat.reduceBEq, reduceCtorEq, ↓reduceIte, Int.reduceToNat, Int.reduceLE, Int.reduceLT, F_witness_Sound_l13, F_witness_Sound_r8, F_witness_Sound_r9, F_witness_Sound_r10, F_witness_Sound_r11, F_witness_Sound_r12, hw, hi, hi', hl, hn, wayAv]
        | false =>
          have hn : idx (lacksB (setOf r.dead)) w < 0 := by rw [idx_neg, h]
          simp only [go_sem, Nat.reduceEqDiff, Nat.reduceAdd, Nat.reduceMul, Nat.reduceLeDiff, Nat.reduceBEq, reduceCtorEq, ↓reduceIte, Int.reduceToNat, Int.reduceLE, Int.reduceLT, F_witness_Sound_l13, F_witness_Sound_r8, F_witness_Sound_r9, F_witness_Sound_r10, F_witness_Sound_r11, F_witness_Sound_r12, hw, hi, hi', hl, hn, wayAv])
      (by simp only [go_sem, Nat.reduceEqDiff, Nat.reduceAdd, Nat.reduceMul, Nat.reduceLeDiff, Nat.reduceBEq, reduceCtorEq, ↓reduceIte, Int.reduceToNat, Int.reduceLE, Int.reduceLT, F_witness_Sound_l13, F_witness_Sound_r8, F_witness_Sound_r9, F_witness_Sound_r10, F_witness_Sound_r11, F_witness_Sound_r12, Nat.lt_irrefl]) (by simp) (by simp)
    simp only [cast0] at this
    exact this
  have outer := loop_all (F := tab) (b := F_witness_Sound_l15) r.nodes
    (fun i => ⟨[(3, some (.int .u64 (setOf r.dead).toNat)), (15, some (.vsl (r.nodes.map Node.av))), (16, some (.int .i64 r.nodes.length)), (17, some (.int .i64 i))], [], [], H, H.length, H.length⟩)
    (fun x => x.alts.all fun w => w.any (lacksB (setOf r.dead)))
    (.exit 0, ⟨[(3, some (.int .u64 (setOf r.dead).toNat)), (15, some (.vsl (r.nodes.map Node.av))), (16, some (.int .i64 r.nodes.length)), (17, some (.int .i64 r.nodes.length)), (18, some (.bool false))], [], [], H, H.length, H.length⟩)
    (.ret, ⟨[(2, some (.bool false))], [], [], H, H.length, H.length⟩)
    (fun i x hx hi => by
      have hi' := wi (big_lt hr.2.1 hi)
      have hin := inner x (hr.2.2 x (mem_of_get hx))
      cases h : (x.alts.all fun w => w.any (lacksB (setOf r.dead))) with
      | true =>
        simp only [h] at hin
        simp only [go_sem, Nat.reduceEqDiff, Nat.reduceAdd, Nat.reduceMul, Nat.reduceLeDiff, Nat.reduceBEq, reduceCtorEq, ↓reduceIte, Int.reduceToNat, Int.reduceLE, Int.reduceLT, F_witness_Sound_l15, F_witness_Sound_r5, F_witness_Sound_r6, F_witness_Sound_r7, F_witness_Sound_r14, hx, hi, hi', hin, Node.av, splice_def]
      | false =>
        simp only [h] at hin
        simp only [go_sem, Nat.reduceEqDiff, Nat.reduceAdd, Nat.reduceMul, Nat.reduceLeDiff, Nat.reduceBEq, reduceCtorEq, ↓reduceIte, Int.reduceToNat, Int.reduceLE, Int.reduceLT, F_witness_Sound_l15, F_witness_Sound_r5, F_witness_Sound_r6, F_witness_Sound_r7, F_witness_Sound_r14, hx, hi, hi', hin, Node.av, splice_def])
    (by simp only [go_sem, Nat.reduceEqDiff, Nat.reduceAdd, Nat.reduceMul, Nat.reduceLeDiff, Nat.reduceBEq, reduceCtorEq, ↓reduceIte, Int.reduceToNat, Int.reduceLE, Int.reduceLT, F_witness_Sound_l15, F_witness_Sound_r5, F_witness_Sound_r6, F_witness_Sound_r7, F_witness_Sound_r14, Nat.lt_irrefl]) (by simp) (by simp)
  simp only [cast0] at outer
  cases h : (r.nodes.all fun x => x.alts.all fun w => w.any (lacksB (setOf r.dead))) with
  | true =>
    rw [h] at outer
    simp only [go_sem, Nat.reduceEqDiff, Nat.reduceAdd, Nat.reduceMul, Nat.reduceLeDiff, Nat.reduceBEq, reduceCtorEq, ↓reduceIte, Int.reduceToNat, Int.reduceLE, Int.reduceLT, F_witness_Sound, F_witness_Sound_r0, F_witness_Sound_r1, F_witness_Sound_r2, F_witness_Sound_r3, F_witness_Sound_r4, F_witness_Sound_r16, hk, hc, hb, outer]
    simp [soundB, hc, h]
  | false =>
    rw [h] at outer
    simp only [go_sem, Nat.reduceEqDiff, Nat.reduceAdd, Nat.reduceMul, Nat.reduceLeDiff, Nat.reduceBEq, reduceCtorEq, ↓reduceIte, Int.reduceToNat, Int.reduceLE, Int.reduceLT, F_witness_Sound, F_witness_Sound_r0, F_witness_Sound_r1, F_witness_Sound_r2, F_witness_Sound_r3, F_witness_Sound_r4, F_witness_Sound_r16, hk, hc, hb, outer]
    simp [soundB, hc, h]

theorem c_Equal_Share (l l' : List Share) (hl : l.length ≤ big) (H : Heap) : runT tab n_slices_Equal_Lapi_Share_api_Share [.vsl (l.map Share.av), .vsl (l'.map Share.av)] H = some (.bool (decide (l = l')), H, H.length) := by
  rw [x_fun tab_slices_Equal_Lapi_Share_api_Share _ (Nat.le_refl _)]
  by_cases hn : l.length = l'.length
  case neg =>
    have hn' : ¬ ((l.length : Int) = l'.length) := by omega
    simp only [go_sem, Nat.reduceEqDiff, Nat.reduceAdd, Nat.reduceMul, Nat.reduceLeDiff, Nat.reduceBEq, reduceCtorEq, ↓reduceIte, Int.reduceToNat, Int.reduceLE, Int.reduceLT, F_slices_Equal_Lapi_Share_api_Share, F_slices_Equal_Lapi_Share_api_Share_r0, F_slices_Equal_Lapi_Share_api_Share_r1, F_slices_Equal_Lapi_Share_api_Share_r2, F_slices_Equal_Lapi_Share_api_Share_r3, F_slices_Equal_Lapi_Share_api_Share_r10, hn']
    have : l ≠ l' := fun e => hn (e ▸ rfl)
    simp [this]
  have hn' : decide ((l.length : Int) = l'.length) = true := by simp [hn]
  have hz : (l.zip l').length = l.length := by simp [hn]
  have hloop := loop_all (F := tab) (b := F_slices_Equal_Lapi_Share_api_Share_l9) (l.zip l')
    (fun i => ⟨[(0, some (.vsl (l.map Share.av))), (1, some (.vsl (l'.map Share.av))), (12, some (.int .i64 l.length)), (13, some (.int .i64 i))], [], [], H, H.length, H.length⟩)
    (fun p => decide (p.1 = p.2))
    (.exit 0, ⟨[(0, some (.vsl (l.map Share.av))), (1, some (.vsl (l'.map Share.av))), (12, some (.int .i64 l.length)), (13, some (.int .i64 l.length)), (14, some (.bool false))], [], [], H, H.length, H.length⟩)
    (.ret, ⟨[(4, some (.bool false))], [], [], H, H.length, H.length⟩)
    (fun i p hp hi => by
      obtain ⟨h1, h2⟩ := zip_get hp
      rw [hz] at hi
      have hi' := wi (big_lt hl hi)
      obtain ⟨⟨a, b⟩, ⟨c, d⟩⟩ := p
      by_cases e : a = c
      · by_cases e' : b = d
        · simp only [go_sem, Nat.reduceEqDiff, Nat.reduceAdd, Nat.reduceMul, Nat.reduceLeDiff, Nat.reduceBEq, reduceCtorEq, ↓reduceIte, Int.reduceToNat, Int.reduceLE, Int.reduceLT, F_slices_Equal_Lapi_Share_api_Share_l9, F_slices_Equal_Lapi_Share_api_Share_r4, F_slices_Equal_Lapi_Share_api_Share_r5, F_slices_Equal_Lapi_Share_api_Share_d6, F_slices_Equal_Lapi_Share_api_Share_r7, F_slices_Equal_Lapi_Share_api_Share_r8, h1, h2, hi, hi', Share.av, e, e']
        · simp only [go_sem, Nat.reduceEqDiff, Nat.reduceAdd, Nat.reduceMul, Nat.reduceLeDiff, Nat.reduceBEq, reduceCtorEq, ↓reduceIte, Int.reduceToNat, Int.reduceLE, Int.reduceLT, F_slices_Equal_Lapi_Share_api_Share_l9, F_slices_Equal_Lapi_Share_api_Share_r4, F_slices_Equal_Lapi_Share_api_Share_r5, F_slices_Equal_Lapi_Share_api_Share_d6, F_slices_Equal_Lapi_Share_api_Share_r7, F_slices_Equal_Lapi_Share_api_Share_r8, h1, h2, hi, hi', Share.av, e, e', Share.mk.injEq]
      · simp only [go_sem, Nat.reduceEqDiff, Nat.reduceAdd, Nat.reduceMul, Nat.reduceLeDiff, Nat.reduceBEq, reduceCtorEq, ↓reduceIte, Int.reduceToNat, Int.reduceLE, Int.reduceLT, F_slices_Equal_Lapi_Share_api_Share_l9, F_slices_Equal_Lapi_Share_api_Share_r4, F_slices_Equal_Lapi_Share_api_Share_r5, F_slices_Equal_Lapi_Share_api_Share_d6, F_slices_Equal_Lapi_Share_api_Share_r7, F_slices_Equal_Lapi_Share_api_Share_r8, h1, h2, hi, hi', Share.av, e, Share.mk.injEq])
    (by rw [hz]; simp only [go_sem, Nat.reduceEqDiff, Nat.reduceAdd, Nat.reduceMul, Nat.reduceLeDiff, Nat.reduceBEq, reduceCtorEq, ↓reduceIte, Int.reduceToNat, Int.reduceLE, Int.reduceLT, F_slices_Equal_Lapi_Share_api_Share_l9, F_slices_Equal_Lapi_Share_api_Share_r4, F_slices_Equal_Lapi_Share_api_Share_r5, F_slices_Equal_Lapi_Share_api_Share_d6, F_slices_Equal_Lapi_Share_api_Share_r7, F_slices_Equal_Lapi_Share_api_Share_r8, Nat.lt_irrefl]) (by simp) (by simp)
  rw [eq_zip hn] at hloop
  simp only [cast0] at hloop
  by_cases e : l = l'
  · simp only [e, decide_true, if_true] at hloop
    subst e
    simp only [go_sem, Nat.reduceEqDiff, Nat.reduceAdd, Nat.reduceMul, Nat.reduceLeDiff, Nat.reduceBEq, reduceCtorEq, ↓reduceIte, Int.reduceToNat, Int.reduceLE, Int.reduceLT, F_slices_Equal_Lapi_Share_api_Share, F_slices_Equal_Lapi_Share_api_Share_r0, F_slices_Equal_Lapi_Share_api_Share_r1, F_slices_Equal_Lapi_Share_api_Share_r2, F_slices_Equal_Lapi_Share_api_Share_r3, F_slices_Equal_Lapi_Share_api_Share_r10, hloop]
  · simp only [e, decide_false] at hloop
    simp only [go_sem, Nat.reduceEqDiff, Nat.reduceAdd, Nat.reduceMul, Nat.reduceLeDiff, Nat.reduceBEq, reduceCtorEq, ↓reduceIte, Int.reduceToNat, Int.reduceLE, Int.reduceLT, F_slices_Equal_Lapi_Share_api_Share, F_slices_Equal_Lapi_Share_api_Share_r0, F_slices_Equal_Lapi_Share_api_Share_r1, F_slices_Equal_Lapi_Share_api_Share_r2, F_slices_Equal_Lapi_Share_api_Share_r3, F_slices_Equal_Lapi_Share_api_Share_r10, hloop, hn', e]

theorem c_witness_same_1 (a b : Term) (ha : a.small) (H : Heap) : runT tab n_witness_same_1 [a.av, b.av] H = some (.bool (decide (a = b)), H, H.length) := by
  rw [x_fun tab_witness_same_1 _ (Nat.le_refl _)]
  have he := c_Equal_Share a.src b.src ha H
  obtain ⟨k, s⟩ := a
  obtain ⟨k', s'⟩ := b
  unfold Term.av
  by_cases h : k = k'
  · simp only [go_sem, Nat.reduceEqDiff, Nat.reduceAdd, Nat.reduceMul, Nat.reduceLeDiff, Nat.reduceBEq, reduceCtorEq, ↓reduceIte, Int.reduceToNat, Int.reduceLE, Int.reduceLT, F_witness_same_1, F_witness_same_1_r0, F_witness_same_1_r1, he, h, Term.mk.injEq]
  · simp only [go_sem, Nat.reduceEqDiff, Nat.reduceAdd, Nat.reduceMul, Nat.reduceLeDiff, Nat.reduceBEq, reduceCtorEq, ↓reduceIte, Int.reduceToNat, Int.reduceLE, Int.reduceLT, F_witness_same_1, F_witness_same_1_r0, F_witness_same_1_r1, he, h, Term.mk.injEq]

theorem c_EqualFunc_Term (l l' : List Term) (hl : waySmall l) (H : Heap) :
    runT tab n_slices_EqualFunc_Lapi_Term_Lapi_Term_api_Term_api_Term [wayAv l, wayAv l', .fn n_witness_same_1 []] H = some (.bool (decide (l = l')), H, H.length) := by
  rw [x_fun tab_slices_EqualFunc_Lapi_Term_Lapi_Term_api_Term_api_Term _ (Nat.le_refl _)]
  unfold wayAv
  by_cases hn : l.length = l'.length
  case neg =>
    have hn' : ¬ ((l.length : Int) = l'.length) := by omega
    simp only [go_sem, Nat.reduceEqDiff, Nat.reduceAdd, Nat.reduceMul, Nat.reduceLeDiff, Nat.reduceBEq, reduceCtorEq, ↓reduceIte, Int.reduceToNat, Int.reduceLE, Int.reduceLT, F_slices_EqualFunc_Lapi_Term_Lapi_Term_api_Term_api_Term, F_slices_EqualFunc_Lapi_Term_Lapi_Term_api_Term_api_Term_r0, F_slices_EqualFunc_Lapi_Term_Lapi_Term_api_Term_api_Term_r1, F_slices_EqualFunc_Lapi_Term_Lapi_Term_api_Term_api_Term_r2, F_slices_EqualFunc_Lapi_Term_Lapi_Term_api_Term_api_Term_r3, F_slices_EqualFunc_Lapi_Term_Lapi_Term_api_Term_api_Term_r11, hn']
    have : l ≠ l' := fun e => hn (e ▸ rfl)
    simp [this]
  have hn' : decide ((l.length : Int) = l'.length) = true := by simp [hn]
  have hz : (l.zip l').length = l.length := by simp [hn]
  have hloop := loop_all (F := tab) (b := F_slices_EqualFunc_Lapi_Term_Lapi_Term_api_Term_api_Term_l10) (l.zip l')
    (fun i => ⟨[(1, some (.vsl (l'.map Term.av))), (2, some (.fn n_witness_same_1 [])), (15, some (.vsl (l.map Term.av))), (16, some (.int .i64 l.length)), (17, some (.int .i64 i))], [], [], H, H.length, H.length⟩)
    (fun p => decide (p.1 = p.2))
    (.exit 0, ⟨[(1, some (.vsl (l'.map Term.av))), (2, some (.fn n_witness_same_1 [])), (15, some (.vsl (l.map Term.av))), (16, some (.int .i64 l.length)), (17, some (.int .i64 l.length)), (18, some (.bool false))], [], [], H, H.length, H.length⟩)
    (.ret, ⟨[(6, some (.bool false))], [], [], H, H.length, H.length⟩)
    (fun i p hp hi => by
      obtain ⟨h1, h2⟩ := zip_get hp
      rw [hz] at hi
      have hi' := wi (big_lt hl.1 hi)
      have hc := c_witness_same_1 p.1 p.2 (hl.2 _ (mem_of_get h1)) H
      unfold Term.av at hc
      by_cases e : p.1 = p.2
      · simp only [e] at hc h1
        simp only [go_sem, Nat.reduceEqDiff, Nat.reduceAdd, Nat.reduceMul, Nat.reduceLeDiff, Nat.reduceBEq, reduceCtorEq, ↓reduceIte, Int.reduceToNat, Int.reduceLE, Int.reduceLT, F_slices_EqualFunc_Lapi_Term_Lapi_Term_api_Term_api_Term_l10, F_slices_EqualFunc_Lapi_Term_Lapi_Term_api_Term_api_Term_r4, F_slices_EqualFunc_Lapi_Term_Lapi_Term_api_Term_api_Term_r5, F_slices_EqualFunc_Lapi_Term_Lapi_Term_api_Term_api_Term_r6, F_slices_EqualFunc_Lapi_Term_Lapi_Term_api_Term_api_Term_r7, F_slices_EqualFunc_Lapi_Term_Lapi_Term_api_Term_api_Term_r8, F_slices_EqualFunc_Lapi_Term_Lapi_Term_api_Term_api_Term_r9, h1, h2, hi, hi', Term.av, hc, e, splice_def]
      · simp only [e] at hc
        simp only [go_sem, Nat.reduceEqDiff, Nat.reduceAdd, Nat.reduceMul, Nat.reduceLeDiff, Nat.reduceBEq, reduceCtorEq, ↓reduceIte, Int.reduceToNat, Int.reduceLE, Int.reduceLT, F_slices_EqualFunc_Lapi_Term_Lapi_Term_api_Term_api_Term_l10, F_slices_EqualFunc_Lapi_Term_Lapi_Term_api_Term_api_Term_r4, F_slices_EqualFunc_Lapi_Term_Lapi_Term_api_Term_api_Term_r5, F_slices_EqualFunc_Lapi_Term_Lapi_Term_api_Term_api_Term_r6, F_slices_EqualFunc_Lapi_Term_Lapi_Term_api_Term_api_Term_r7, F_slices_EqualFunc_Lapi_Term_Lapi_Term_api_Term_api_Term_r8, F_slices_EqualFunc_Lapi_Term_Lapi_Term_api_Term_api_Term_r9, h1, h2, hi, hi', Term.av, hc, e, splice_def])
    (by rw [hz]; simp only [go_sem, Nat.reduceEqDiff, Nat.reduceAdd, Nat.reduceMul, Nat.reduceLeDiff, Nat.reduceBEq, reduceCtorEq, ↓reduceIte, Int.reduceToNat, Int.reduceLE, Int.reduceLT, F_slices_EqualFunc_Lapi_Term_Lapi_Term_api_Term_api_Term_l10, F_slices_EqualFunc_Lapi_Term_Lapi_Term_api_Term_api_Term_r4, F_slices_EqualFunc_Lapi_Term_Lapi_Term_api_Term_api_Term_r5, F_slices_EqualFunc_Lapi_Term_Lapi_Term_api_Term_api_Term_r6, F_slices_EqualFunc_Lapi_Term_Lapi_Term_api_Term_api_Term_r7, F_slices_EqualFunc_Lapi_Term_Lapi_Term_api_Term_api_Term_r8, F_slices_EqualFunc_Lapi_Term_Lapi_Term_api_Term_api_Term_r9, Nat.lt_irrefl]) (by simp) (by simp)
  rw [eq_zip hn] at hloop
  simp only [cast0] at hloop
  by_cases e : l = l'
  · simp only [e, decide_true, if_true] at hloop
    subst e
    simp only [go_sem, Nat.reduceEqDiff, Nat.reduceAdd, Nat.reduceMul, Nat.reduceLeDiff, Nat.reduceBEq, reduceCtorEq, ↓reduceIte, Int.reduceToNat, Int.reduceLE, Int.reduceLT, F_slices_EqualFunc_Lapi_Term_Lapi_Term_api_Term_api_Term, F_slices_EqualFunc_Lapi_Term_Lapi_Term_api_Term_api_Term_r0, F_slices_EqualFunc_Lapi_Term_Lapi_Term_api_Term_api_Term_r1, F_slices_EqualFunc_Lapi_Term_Lapi_Term_api_Term_api_Term_r2, F_slices_EqualFunc_Lapi_Term_Lapi_Term_api_Term_api_Term_r3, F_slices_EqualFunc_Lapi_Term_Lapi_Term_api_Term_api_Term_r11, hloop]
  · simp only [e, decide_false] at hloop
    simp only [go_sem, Nat.reduceEqDiff, Nat.reduceAdd, Nat.reduceMul, Nat.reduceLeDiff, Nat.reduceBEq, reduceCtorEq, ↓reduceIte, Int.reduceToNat, Int.reduceLE, Int.reduceLT, F_slices_EqualFunc_Lapi_Term_Lapi_Term_api_Term_api_Term, F_slices_EqualFunc_Lapi_Term_Lapi_Term_api_Term_api_Term_r0, F_slices_EqualFunc_Lapi_Term_Lapi_Term_api_Term_api_Term_r1, F_slices_EqualFunc_Lapi_Term_Lapi_Term_api_Term_api_Term_r2, F_slices_EqualFunc_Lapi_Term_Lapi_Term_api_Term_api_Term_r3, F_slices_EqualFunc_Lapi_Term_Lapi_Term_api_Term_api_Term_r11, hloop, hn', e]

theorem c_witness_same_2 (a b : List Term) (ha : waySmall a) (p g : Nat) (H : Heap) (hb : H.row p g = some (1, [.fn n_witness_same_1 []])) :
    runT tab n_witness_same_2 [wayAv a, wayAv b, .ptr p g 0 0] H = some (.bool (decide (a = b)), H, H.length) := by
  rw [x_fun tab_witness_same_2 _ (Nat.le_refl _)]
  have he := c_EqualFunc_Term a b ha H
  simp only [go_sem, Nat.reduceEqDiff, Nat.reduceAdd, Nat.reduceMul, Nat.reduceLeDiff, Nat.reduceBEq, reduceCtorEq, ↓reduceIte, Int.reduceToNat, Int.reduceLE, Int.reduceLT, F_witness_same_2, F_witness_same_2_r0, F_witness_same_2_r1, hb, he]

theorem c_EqualFunc_Way (l l' : List (List Term)) (hl : l.length ≤ big ∧ ∀ w ∈ l, waySmall w) (p g : Nat) (H : Heap) (hb : H.row p g = some (1, [.fn n_witness_same_1 []])) :
    runT tab n_slices_EqualFunc_LLapi_Term_LLapi_Term_Lapi_Term_Lapi_Term [.vsl (l.map wayAv), .vsl (l'.map wayAv), .fn n_witness_same_2 [.ptr p g 0 0]] H = some (.bool (decide (l = l')), H, H.length) := by
  rw [x_fun tab_slices_EqualFunc_LLapi_Term_LLapi_Term_Lapi_Term_Lapi_Term _ (Nat.le_refl _)]
  by_cases hn : l.length = l'.length
  case neg =>
    have hn' : ¬ ((l.length : Int) = l'.length) := by omega
    simp only [go_sem, Nat.reduceEqDiff, Nat.reduceAdd, Nat.reduceMul, Nat.reduceLeDiff, Nat.reduceBEq, reduceCtorEq, ↓reduceIte, Int.reduceToNat, Int.reduceLE, Int.reduceLT, F_slices_EqualFunc_LLapi_Term_LLapi_Term_Lapi_Term_Lapi_Term, F_slices_EqualFunc_LLapi_Term_LLapi_Term_Lapi_Term_Lapi_Term_r0, F_slices_EqualFunc_LLapi_Term_LLapi_Term_Lapi_Term_Lapi_Term_r1, F_slices_EqualFunc_LLapi_Term_LLapi_Term_Lapi_Term_Lapi_Term_r2, F_slices_EqualFunc_LLapi_Term_LLapi_Term_Lapi_Term_Lapi_Term_r3, F_slices_EqualFunc_LLapi_Term_LLapi_Term_Lapi_Term_Lapi_Term_r11, hn']
    have : l ≠ l' := fun e => hn (e ▸ rfl)
    simp [this]
  have hn' : decide ((l.length : Int) = l'.length) = true := by simp [hn]
  have hz : (l.zip l').length = l.length := by simp [hn]
  have hloop := loop_all (F := tab) (b := F_slices_EqualFunc_LLapi_Term_LLapi_Term_Lapi_Term_Lapi_Term_l10) (l.zip l')
    (fun i => ⟨[(1, some (.vsl (l'.map wayAv))), (2, some (.fn n_witness_same_2 [.ptr p g 0 0])), (15, some (.vsl (l.map wayAv))), (16, some (.int .i64 l.length)), (17, some (.int .i64 i))], [], [], H, H.length, H.length⟩)
    (fun p => decide (p.1 = p.2))
    (.exit 0, ⟨[(1, some (.vsl (l'.map wayAv))), (2, some (.fn n_witness_same_2 [.ptr p g 0 0])), (15, some (.vsl (l.map wayAv))), (16, some (.int .i64 l.length)), (17, some (.int .i64 l.length)), (18, some (.bool false))], [], [], H, H.length, H.length⟩)
    (.ret, ⟨[(6, some (.bool false))], [], [], H, H.length, H.length⟩)
    (fun i q hq hi => by
      obtain ⟨h1, h2⟩ := zip_get hq
      rw [hz] at hi
      have hi' := wi (big_lt hl.1 hi)
      have hc := c_witness_same_2 q.1 q.2 (hl.2 _ (mem_of_get h1)) p g H hb
      unfold wayAv at hc
      by_cases e : q.1 = q.2
      · simp only [e] at hc h1
        simp only [go_sem, Nat.reduceEqDiff, Nat.reduceAdd, Nat.reduceMul, Nat.reduceLeDiff, Nat.reduceBEq, reduceCtorEq, ↓reduceIte, Int.reduceToNat, Int.reduceLE, Int.reduceLT, F_slices_EqualFunc_LLapi_Term_LLapi_Term_Lapi_Term_Lapi_Term_l10, F_slices_EqualFunc_LLapi_Term_LLapi_Term_Lapi_Term_Lapi_Term_r4, F_slices_EqualFunc_LLapi_Term_LLapi_Term_Lapi_Term_Lapi_Term_r5, F_slices_EqualFunc_LLapi_Term_LLapi_Term_Lapi_Term_Lapi_Term_r6, F_slices_EqualFunc_LLapi_Term_LLapi_Term_Lapi_Term_Lapi_Term_r7, F_slices_EqualFunc_LLapi_Term_LLapi_Term_Lapi_Term_Lapi_Term_r8, F_slices_EqualFunc_LLapi_Term_LLapi_Term_Lapi_Term_Lapi_Term_r9, h1, h2, hi, hi', wayAv, hc, e]
      · simp only [e] at hc
        simp only [go_sem, Nat.reduceEqDiff, Nat.reduceAdd, Nat.reduceMul, Nat.reduceLeDiff, Nat.reduceBEq, reduceCtorEq, ↓reduceIte, Int.reduceToNat, Int.reduceLE, Int.reduceLT, F_slices_EqualFunc_LLapi_Term_LLapi_Term_Lapi_Term_Lapi_Term_l10, F_slices_EqualFunc_LLapi_Term_LLapi_Term_Lapi_Term_Lapi_Term_r4, F_slices_EqualFunc_LLapi_Term_LLapi_Term_Lapi_Term_Lapi_Term_r5, F_slices_EqualFunc_LLapi_Term_LLapi_Term_Lapi_Term_Lapi_Term_r6, F_slices_EqualFunc_LLapi_Term_LLapi_Term_Lapi_Term_Lapi_Term_r7, F_slices_EqualFunc_LLapi_Term_LLapi_Term_Lapi_Term_Lapi_Term_r8, F_slices_EqualFunc_LLapi_Term_LLapi_Term_Lapi_Term_Lapi_Term_r9, h1, h2, hi, hi', wayAv, hc, e])
    (by rw [hz]; simp only [go_sem, Nat.reduceEqDiff, Nat.reduceAdd, Nat.reduceMul, Nat.reduceLeDiff, Nat.reduceBEq, reduceCtorEq, ↓reduceIte, Int.reduceToNat, Int.reduceLE, Int.reduceLT, F_slices_EqualFunc_LLapi_Term_LLapi_Term_Lapi_Term_Lapi_Term_l10, F_slices_EqualFunc_LLapi_Term_LLapi_Term_Lapi_Term_Lapi_Term_r4, F_slices_EqualFunc_LLapi_Term_LLapi_Term_Lapi_Term_Lapi_Term_r5, F_slices_EqualFunc_LLapi_Term_LLapi_Term_Lapi_Term_Lapi_Term_r6, F_slices_EqualFunc_LLapi_Term_LLapi_Term_Lapi_Term_Lapi_Term_r7, F_slices_EqualFunc_LLapi_Term_LLapi_Term_Lapi_Term_Lapi_Term_r8, F_slices_EqualFunc_LLapi_Term_LLapi_Term_Lapi_Term_Lapi_Term_r9, Nat.lt_irrefl]) (by simp) (by simp)
  rw [eq_zip hn] at hloop
  simp only [cast0] at hloop
  by_cases e : l = l'
  · simp only [e, decide_true, if_true] at hloop
    subst e
    simp only [go_sem, Nat.reduceEqDiff, Nat.reduceAdd, Nat.reduceMul, Nat.reduceLeDiff, Nat.reduceBEq, reduceCtorEq, ↓reduceIte, Int.reduceToNat, Int.reduceLE, Int.reduceLT, F_slices_EqualFunc_LLapi_Term_LLapi_Term_Lapi_Term_Lapi_Term, F_slices_EqualFunc_LLapi_Term_LLapi_Term_Lapi_Term_Lapi_Term_r0, F_slices_EqualFunc_LLapi_Term_LLapi_Term_Lapi_Term_Lapi_Term_r1, F_slices_EqualFunc_LLapi_Term_LLapi_Term_Lapi_Term_Lapi_Term_r2, F_slices_EqualFunc_LLapi_Term_LLapi_Term_Lapi_Term_Lapi_Term_r3, F_slices_EqualFunc_LLapi_Term_LLapi_Term_Lapi_Term_Lapi_Term_r11, hloop]
  · simp only [e, decide_false] at hloop
    simp only [go_sem, Nat.reduceEqDiff, Nat.reduceAdd, Nat.reduceMul, Nat.reduceLeDiff, Nat.reduceBEq, reduceCtorEq, ↓reduceIte, Int.reduceToNat, Int.reduceLE, Int.reduceLT, F_slices_EqualFunc_LLapi_Term_LLapi_Term_Lapi_Term_Lapi_Term, F_slices_EqualFunc_LLapi_Term_LLapi_Term_Lapi_Term_Lapi_Term_r0, F_slices_EqualFunc_LLapi_Term_LLapi_Term_Lapi_Term_Lapi_Term_r1, F_slices_EqualFunc_LLapi_Term_LLapi_Term_Lapi_Term_Lapi_Term_r2, F_slices_EqualFunc_LLapi_Term_LLapi_Term_Lapi_Term_Lapi_Term_r3, F_slices_EqualFunc_LLapi_Term_LLapi_Term_Lapi_Term_Lapi_Term_r11, hloop, hn', e]

theorem c_witness_same (a b : Node) (ha : a.small) (H : Heap) : runT tab n_witness_same [a.av, b.av] H = some (.bool (decide (a = b)), H, H.length) := by
  rw [x_fun tab_witness_same _ (Nat.le_refl _)]
  have he := c_EqualFunc_Way a.alts b.alts ha H.length 0 (H ++ [some (.row 1 0 [.fn n_witness_same_1 []])]) row_last
  obtain ⟨s, l⟩ := a
  obtain ⟨s', l'⟩ := b
  unfold Node.av
  have hst : storeV (H ++ [some (.row 1 0 [AV.nilfn])]) 1 (.ptr H.length 0 0 0) (.fn n_witness_same_1 []) = some (H.length, H ++ [some (.row 1 0 [.fn n_witness_same_1 []])]) := by
    simp [storeV, row_last, cells_fn, plain_fn, storeRow, writeElem]
  cases h : (s == s') with
  | true =>
    have : s = s' := by simpa using h
    simp only [go_sem, Nat.reduceEqDiff, Nat.reduceAdd, Nat.reduceMul, Nat.reduceLeDiff, Nat.reduceBEq, reduceCtorEq, ↓reduceIte, Int.reduceToNat, Int.reduceLE, Int.reduceLT, F_witness_same, F_witness_same_r0, F_witness_same_r1, F_witness_same_r2, F_witness_same_r3, hst, he, h, this, Node.mk.injEq]
    simp
  | false =>
    have : s ≠ s' := by simpa using h
    simp only [go_sem, Nat.reduceEqDiff, Nat.reduceAdd, Nat.reduceMul, Nat.reduceLeDiff, Nat.reduceBEq, reduceCtorEq, ↓reduceIte, Int.reduceToNat, Int.reduceLE, Int.reduceLT, F_witness_same, F_witness_same_r0, F_witness_same_r1, F_witness_same_r2, F_witness_same_r3, hst, he, h, this, Node.mk.injEq]

def matchB (r : Report) (l : List Node) : Bool := decide (checkE r = 0) && (r.dead.zip r.nodes).all fun p => match l[p.1.toNat]? with
  | some y => decide (p.2 = y)
  | none => false

theorem deadF_pos : ∀ (l : List Int) (last last' : Int), foldE deadF last l = .inl last' → ∀ t ∈ l, last < t ∧ t < 64
  | [], _, _, _, t, ht => by simp at ht
  | x :: r, last, last', h, t, ht => by
    simp only [foldE, deadF] at h
    by_cases hc : x ≤ last ∨ 64 ≤ x
    · rw [if_pos hc] at h; cases h
    · rw [if_neg hc] at h
      simp only at h
      rcases List.mem_cons.1 ht with rfl | ht
      · omega
      · have := deadF_pos r x last' h t ht
        omega

theorem checkE_dead {r : Report} (h : checkE r = 0) : r.dead.length = r.nodes.length ∧ ∀ t ∈ r.dead, 0 ≤ t ∧ t < 64 := by
  unfold checkE at h
  split at h
  · cases h
  · split at h
    · cases h
    · rename_i hl
      refine ⟨by simpa using hl, ?_⟩
      cases hf : foldE deadF (-1) r.dead with
      | inl last =>
        intro t ht
        have := deadF_pos r.dead (-1) last hf t ht
        omega
      | inr q =>
        rw [hf] at h
        simp only at h
        -- the error is one
        have : ∀ (l : List Int) (last : Int) (q : Int), foldE deadF last l = .inr q → q = 2 := by
          intro l
          induction l with
          | nil => intro _ _ h; cases h
          | cons x r ih =>
            intro last q h
            simp only [foldE, deadF] at h
            by_cases hc : x ≤ last ∨ 64 ≤ x
            · rw [if_pos hc] at h; simp at h; exact h.symm
            · rw [if_neg hc] at h; exact ih _ _ h
        have := this _ _ _ hf
        omega

theorem c_witness_Match (r : Report) (hr : r.small) (l : List Node) (H : Heap) : runT tab n_witness_Match [r.av, .vsl (l.map Node.av)] H = some (.bool (matchB r l), H, H.length) := by
  rw [x_fun tab_witness_Match _ (Nat.le_refl _)]
  have hk := c_report_Check r hr H
  unfold Report.av at hk ⊢
  by_cases hc : checkE r = 0
  case neg =>
    simp only [go_sem, Nat.reduceEqDiff, Nat.reduceAdd, Nat.reduceMul, Nat.reduceLeDiff, Nat.reduceBEq, reduceCtorEq, ↓reduceIte, Int.reduceToNat, Int.reduceLE, Int.reduceLT, F_witness_Match, F_witness_Match_r0, F_witness_Match_r1, F_witness_Match_r2, F_witness_Match_r3, F_witness_Match_r10, hk, hc]
    simp [matchB, hc]
  obtain ⟨hlen, hpos⟩ := checkE_dead hc
  have hz : (r.dead.zip r.nodes).length = r.dead.length := by simp [hlen]
  have hloop := loop_all (F := tab) (b := F_witness_Match_l9) (r.dead.zip r.nodes)
    (fun i => ⟨[(1, some (.vsl (l.map Node.av))), (11, some (.vsl (r.dead.map (.int .i64)))), (12, some (.int .i64 r.dead.length)), (13, some (.int .i64 i))], [(2, some [.int .i64 r.time, .vsl (r.dead.map (.int .i64)), .vsl (r.nodes.map Node.av)])], [(2, some (2, 0))], H, H.length, H.length⟩)
    (fun p => match l[p.1.toNat]? with
      | some y => decide (p.2 = y)
      | none => false)
    (.exit 0, ⟨[(1, some (.vsl (l.map Node.av))), (11, some (.vsl (r.dead.map (.int .i64)))), (12, some (.int .i64 r.dead.length)), (13, some (.int .i64 r.dead.length)), (14, some (.bool false))], [(2, some [.int .i64 r.time, .vsl (r.dead.map (.int .i64)), .vsl (r.nodes.map Node.av)])], [(2, some (2, 0))], H, H.length, H.length⟩)
    (.ret, ⟨[(4, some (.bool false))], [], [], H, H.length, H.length⟩)
    (fun i p hp hi => by
      obtain ⟨h1, h2⟩ := zip_get hp
      rw [hz] at hi
      have hi' := wi (big_lt hr.1 hi)
      obtain ⟨t, x⟩ := p
      have ht := hpos t (mem_of_get h1)
      simp only at h1 h2
      by_cases hlt : l.length ≤ t.toNat
      · have hlt' : (l.length : Int) ≤ t := by omega
        have hno : l[t.toNat]? = none := List.getElem?_eq_none hlt
        simp only [go_sem, Nat.reduceEqDiff, Nat.reduceAdd, Nat.reduceMul, Nat.reduceLeDiff, Nat.reduceBEq, reduceCtorEq, ↓reduceIte, Int.reduceToNat, Int.reduceLE, Int.reduceLT, F_witness_Match_l9, F_witness_Match_r4, F_witness_Match_r5, F_witness_Match_d6, F_witness_Match_r7, F_witness_Match_r8, h1, h2, hi, hi', hlt', hno]
      · have hlt' : ¬ (l.length : Int) ≤ t := by omega
        obtain ⟨y, hy⟩ : ∃ y, l[t.toNat]? = some y := ⟨_, List.getElem?_eq_getElem (by omega)⟩
        have hsm := c_witness_same x y (hr.2.2 x (mem_of_get h2)) H
        unfold Node.av at hsm
        have h0 : 0 ≤ t := ht.1
        by_cases e : x = y
        · simp only [e] at hsm h2
          simp only [go_sem, Nat.reduceEqDiff, Nat.reduceAdd, Nat.reduceMul, Nat.reduceLeDiff, Nat.reduceBEq, reduceCtorEq, ↓reduceIte, Int.reduceToNat, Int.reduceLE, Int.reduceLT, F_witness_Match_l9, F_witness_Match_r4, F_witness_Match_r5, F_witness_Match_d6, F_witness_Match_r7, F_witness_Match_r8, h1, h2, hi, hi', hlt', hy, Node.av, hsm, e, h0]
        · simp only [e] at hsm
          simp only [go_sem, Nat.reduceEqDiff, Nat.reduceAdd, Nat.reduceMul, Nat.reduceLeDiff, Nat.reduceBEq, reduceCtorEq, ↓reduceIte, Int.reduceToNat, Int.reduceLE, Int.reduceLT, F_witness_Match_l9, F_witness_Match_r4, F_witness_Match_r5, F_witness_Match_d6, F_witness_Match_r7, F_witness_Match_r8, h1, h2, hi, hi', hlt', hy, Node.av, hsm, e, h0])
    (by rw [hz]; simp only [go_sem, Nat.reduceEqDiff, Nat.reduceAdd, Nat.reduceMul, Nat.reduceLeDiff, Nat.reduceBEq, reduceCtorEq, ↓reduceIte, Int.reduceToNat, Int.reduceLE, Int.reduceLT, F_witness_Match_l9, F_witness_Match_r4, F_witness_Match_r5, F_witness_Match_d6, F_witness_Match_r7, F_witness_Match_r8, Nat.lt_irrefl]) (by simp) (by simp)
  simp only [cast0] at hloop
  unfold matchB
  cases h : ((r.dead.zip r.nodes).all fun p => match l[p.1.toNat]? with
      | some y => decide (p.2 = y)
      | none => false) with
  | true =>
    rw [h] at hloop
    simp only [go_sem, Nat.reduceEqDiff, Nat.reduceAdd, Nat.reduceMul, Nat.reduceLeDiff, Nat.reduceBEq, reduceCtorEq, ↓reduceIte, Int.reduceToNat, Int.reduceLE, Int.reduceLT, F_witness_Match, F_witness_Match_r0, F_witness_Match_r1, F_witness_Match_r2, F_witness_Match_r3, F_witness_Match_r10, hk, hc, hloop]
  | false =>
    rw [h] at hloop
    simp only [go_sem, Nat.reduceEqDiff, Nat.reduceAdd, Nat.reduceMul, Nat.reduceLeDiff, Nat.reduceBEq, reduceCtorEq, ↓reduceIte, Int.reduceToNat, Int.reduceLE, Int.reduceLT, F_witness_Match, F_witness_Match_r0, F_witness_Match_r1, F_witness_Match_r2, F_witness_Match_r3, F_witness_Match_r10, hk, hc, hloop]
end Go.AI

