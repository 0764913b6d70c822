/- If a report is sound, and says what a graph says, all of it are doomed there. -/
import Derived.Test.YtkpbgdihnapbaaaDoorWitness2
import Derived.Test.YtkpbgdihnapbaaaDoorGraph3
import Derived.Test.YtkpbgdihnapbaaaDoorOwn36
set_option linter.unusedVariables false
set_option linter.unusedSimpArgs false
namespace Go.AI
open Go Go.Proofs

theorem c_ref02_Has (s : BitVec 64) (n : Int) (H : Heap) : runT tab n_ref02_Has [.int .u64 s.toNat, .int .i64 n] H = some (.bool (has s n), H, H.length) := by
  rw [x_fun tab_ref02_Has _ (Nat.le_refl _)]
  have hno : ¬ (0 ≤ n ∧ n ≤ 63) → has s n = false := fun h => by
    cases hh : has s n with
    | false => rfl
    | true => exact (h ⟨((has_iff s n).1 hh).1, ((has_iff s n).1 hh).2.1⟩).elim
  by_cases h1 : n < 0
  · simp only [go_sem, Nat.reduceEqDiff, Nat.reduceAdd, Nat.reduceMul, Nat.reduceLeDiff, Nat.reduceBEq, reduceCtorEq, ↓reduceIte, Int.reduceToNat, Int.reduceLE, Int.reduceLT, F_ref02_Has, F_ref02_Has_r0, F_ref02_Has_r1, F_ref02_Has_r2, F_ref02_Has_r3, F_ref02_Has_r8, h1]
    rw [hno (by omega)]
  by_cases h2 : 63 < n
  · simp only [go_sem, Nat.reduceEqDiff, Nat.reduceAdd, Nat.reduceMul, Nat.reduceLeDiff, Nat.reduceBEq, reduceCtorEq, ↓reduceIte, Int.reduceToNat, Int.reduceLE, Int.reduceLT, F_ref02_Has, F_ref02_Has_r0, F_ref02_Has_r1, F_ref02_Has_r2, F_ref02_Has_r3, F_ref02_Has_r8, h1, h2]
    rw [hno (by omega)]
  have hloop := loop_inv (F := tab) (b := F_ref02_Has_l7)
    (fun m st => ∃ i : Nat, m = n.toNat - i ∧ i ≤ n.toNat ∧ st = ⟨[(0, some (.int .u64 (s.toNat / 2 ^ i : Nat))), (1, some (.int .i64 n)), (5, some (.int .i64 i))], [], [], H, H.length, H.length⟩)
    (fun r => r = (.exit 0, ⟨[(0, some (.int .u64 (s.toNat / 2 ^ n.toNat : Nat))), (1, some (.int .i64 n)), (5, some (.int .i64 n)), (14, some (.bool false))], [], [], H, H.length, H.length⟩))
    (by
      rintro m st ⟨i, rfl, hi, rfl⟩
      rcases Nat.lt_or_ge i n.toNat with hlt | hge
      · right
        have hi' := wi (show i < 4611686018427387904 by omega)
        have hlt' : ((i : Nat) : Int) < n := by omega
        have hq : IntKind.u64.wrap (((s.toNat / 2 ^ i : Nat) : Int).tdiv 2) = ((s.toNat / 2 ^ (i + 1) : Nat) : Int) := by
          have e : ((s.toNat / 2 ^ i : Nat) : Int).tdiv 2 = ((s.toNat / 2 ^ i / 2 : Nat) : Int) := rfl
          rw [e, Nat.div_div_eq_div_mul, ← Nat.pow_succ]
          have hlt := s.isLt
          have hle := Nat.div_le_self s.toNat (2 ^ (i + 1))
          generalize s.toNat / 2 ^ (i + 1) = z at *
          exact wrap_u64 (by omega) (by omega)
        have h20 : ¬ ((2 : Int) = 0) := by decide
        generalize s.toNat / 2 ^ i = z at *
        refine ⟨n.toNat - (i + 1), _, by omega, ?_, i + 1, rfl, hlt, rfl⟩
        simp only [go_sem, Nat.reduceEqDiff, Nat.reduceAdd, Nat.reduceMul, Nat.reduceLeDiff, Nat.reduceBEq, reduceCtorEq, ↓reduceIte, Int.reduceToNat, Int.reduceLE, Int.reduceLT, F_ref02_Has_l7, F_ref02_Has_r4, F_ref02_Has_r5, F_ref02_Has_r6, hlt', hi', h20, hq]
      · left
        have : i = n.toNat := by omega
        subst this
        have hn : ((n.toNat : Nat) : Int) = n := Int.toNat_of_nonneg (by omega)
        have hlt : ¬ (n < n) := by omega
        generalize s.toNat / 2 ^ n.toNat = z at *
        refine ⟨_, ?_, ?_, rfl⟩
        · simp only [go_sem, Nat.reduceEqDiff, Nat.reduceAdd, Nat.reduceMul, Nat.reduceLeDiff, Nat.reduceBEq, reduceCtorEq, ↓reduceIte, Int.reduceToNat, Int.reduceLE, Int.reduceLT, F_ref02_Has_l7, F_ref02_Has_r4, F_ref02_Has_r5, F_ref02_Has_r6, hn, hlt]
        · simp)
    n.toNat _ ⟨0, rfl, Nat.zero_le _, rfl⟩
  obtain ⟨r, hr, rfl⟩ := hloop
  have hz : (s.toNat / 2 ^ 0 : Nat) = s.toNat := by simp
  rw [hz] at hr
  simp only [cast0] at hr
  have hhas : has s n = decide ((s.toNat / 2 ^ n.toNat) % 2 = 1) := by
    have := has_iff s n
    have hb : s.getLsbD n.toNat = decide ((s.toNat / 2 ^ n.toNat) % 2 = 1) := by
      rw [BitVec.getLsbD, Nat.testBit_eq_decide_div_mod_eq]
    cases hh : decide ((s.toNat / 2 ^ n.toNat) % 2 = 1) with
    | true => exact this.2 ⟨by omega, by omega, by rw [hb, hh]⟩
    | false =>
      cases hx : has s n with
      | false => rfl
      | true => have := (this.1 hx).2.2; rw [hb, hh] at this; cases this
  rw [hhas]
  have hm : ((s.toNat / 2 ^ n.toNat : Nat) : Int).tmod 2 = ((s.toNat / 2 ^ n.toNat % 2 : Nat) : Int) := rfl
  have h20 : ¬ ((2 : Int) = 0) := by decide
  generalize s.toNat / 2 ^ n.toNat = z at *
  simp only [go_sem, Nat.reduceEqDiff, Nat.reduceAdd, Nat.reduceMul, Nat.reduceLeDiff, Nat.reduceBEq, reduceCtorEq, ↓reduceIte, Int.reduceToNat, Int.reduceLE, Int.reduceLT, F_ref02_Has, F_ref02_Has_r0, F_ref02_Has_r1, F_ref02_Has_r2, F_ref02_Has_r3, F_ref02_Has_r8, h1, h2, hr, hm, h20]
  congr 3
  apply decide_eq_decide.2
  omega

/-! ### The plain law -/

theorem foldE_all {α : Type} {f : Unit → α → Sum Unit Int} : ∀ {l : List α}, foldE f () l = .inl () → ∀ x ∈ l, f () x = .inl ()
  | [], _, x, hx => by simp at hx
  | y :: r, h, x, hx => by
    simp only [foldE] at h
    cases hy : f () y with
    | inl u =>
      rw [hy] at h
      rcases List.mem_cons.1 hx with rfl | hx
      · rw [hy]
      · exact foldE_all h x hx
    | inr q => rw [hy] at h; cases h
theorem foldE_err {α : Type} {f : Unit → α → Sum Unit Int} (hf : ∀ x q, f () x = .inr q → q ≠ 0) : ∀ {l : List α} {q : Int}, foldE f () l = .inr q → q ≠ 0
  | [], q, h => by cases h
  | y :: r, q, h => by
    simp only [foldE] at h
    cases hy : f () y with
    | inl u => rw [hy] at h; exact foldE_err hf h
    | inr q' => rw [hy] at h; cases h; exact hf y _ hy

theorem wayF_err : ∀ x q, wayF () x = .inr q → q ≠ 0 := fun x q h => by
  unfold wayF at h
  split at h
  · cases h
  · cases h; assumption
theorem altF_err : ∀ x q, altF () x = .inr q → q ≠ 0 := fun x q h => by
  unfold altF at h
  split at h
  · cases h; decide
  · exact foldE_err wayF_err h
theorem nodesF_err : ∀ x q, nodesF () x = .inr q → q ≠ 0 := fun x q h => by
  unfold nodesF at h
  split at h
  · cases h
  · cases h; assumption

theorem termF_units : ∀ (l : List Share) (p p' : Int × Int), foldE termF p l = .inl p' → p'.2 = 0 → p.2 = 0 ∧ ∀ s ∈ l, units s.n = true
  | [], p, p', h, h0 => by simp only [foldE] at h; cases h; exact ⟨h0, fun s hs => by simp at hs⟩
  | x :: r, p, p', h, h0 => by
    simp only [foldE, termF] at h
    by_cases hc : x.t ≤ p.1 ∨ 64 ≤ x.t
    · rw [if_pos hc] at h; cases h
    · rw [if_neg hc] at h
      simp only at h
      obtain ⟨h1, h2⟩ := termF_units r _ _ h h0
      simp only at h1
      cases hu : units x.n with
      | false => rw [hu] at h1; simp at h1
      | true =>
        rw [hu] at h1
        simp only [if_true] at h1
        exact ⟨h1, fun s hs => by rcases List.mem_cons.1 hs with rfl | hs; exact hu; exact h2 s hs⟩

theorem termE_units {m : Term} (h : termE m = 0) : ∀ s ∈ m.src, units s.n = true := by
  unfold termE at h
  split at h
  · cases hf : foldE termF (-1, 0) m.src with
    | inl p => rw [hf] at h; exact (termF_units _ _ _ hf h).2
    | inr q =>
      rw [hf] at h
      simp only at h
      have : ∀ (l : List Share) (p : Int × Int) (q : Int), foldE termF p l = .inr q → q = 2 := by
        intro l
        induction l with
        | nil => intro p q h; cases h
        | cons x r ih =>
          intro p q h
          simp only [foldE, termF] at h
          by_cases hc : x.t ≤ p.1 ∨ 64 ≤ x.t
          · rw [if_pos hc] at h; simp at h; exact h.symm
          · rw [if_neg hc] at h; exact ih _ _ h
      have := this _ _ _ hf
      omega
  · cases h

theorem checkE_nodes {r : Report} (h : checkE r = 0) : ∀ x ∈ r.nodes, x.stuck = true ∧ ∀ w ∈ x.alts, ∀ m ∈ w, ∀ s ∈ m.src, units s.n = true := by
  have hn : foldE nodesF () r.nodes = .inl () := by
    unfold checkE at h
    split at h
    · cases h
    · split at h
      · cases h
      · split at h
        · rename_i q hq
          have : ∀ (l : List Int) (last : Int) (q : Int), foldE deadF last l = .inr q → q = 2 := by
            intro l
            induction l with
            | nil => intro _ _ h; cases h
            | cons x r ih =>
              intro last q h
              simp only [foldE, deadF] at h
              by_cases hc : x ≤ last ∨ 64 ≤ x
              · rw [if_pos hc] at h; simp at h; exact h.symm
              · rw [if_neg hc] at h; exact ih _ _ h
          have := this _ _ _ hq
          omega
        · split at h
          · rename_i q hq
            exact (foldE_err nodesF_err hq h).elim
          · rename_i u hu; exact hu
  intro x hx
  have h1 := foldE_all hn x hx
  have h2 : nodeE x = 0 := by
    unfold nodesF at h1
    split at h1
    · assumption
    · cases h1
  unfold nodeE at h2
  split at h2
  · rename_i hs
    refine ⟨hs, ?_⟩
    split at h2
    · cases h2
    · split at h2
      · rename_i u hu
        intro w hw m hm
        have h3 := foldE_all (f := altF) (l := x.alts) hu w hw
        unfold altF at h3
        split at h3
        · cases h3
        · have h4 := foldE_all h3 m hm
          unfold wayF at h4
          split at h4
          · rename_i ht; exact termE_units ht
          · cases h4
      · rename_i q hq
        exact (foldE_err altF_err hq h2).elim
  · cases h2

theorem comes_le {D free : BitVec 64} (hd : dis free D) : ∀ (l : List Share) (a b : Int) (k : Nat), (∀ s ∈ l, units s.n = true) → a ≤ b → 0 ≤ a → b ≤ 1000 * k → k + l.length ≤ 1000000 → l.foldl (gcomesF free) a ≤ l.foldl (comesF D) b
  | [], a, b, k, _, h, _, _, _ => h
  | s :: r, a, b, k, hu, h, h0, hb, hk => by
    have hs := hu s (List.mem_cons_self ..)
    simp only [units, Bool.and_eq_true, decide_eq_true_eq] at hs
    have hr := fun s hs => hu s (List.mem_cons_of_mem _ hs)
    have he : shareE s = s.n := by unfold shareE; omega
    simp only [List.length_cons] at hk
    simp only [List.foldl_cons]
    have hkk : (k : Int) ≤ 1000000 := by omega
    cases hf : has free s.t with
    | true =>
      have hnd : has D s.t = false := by
        cases hx : has D s.t with
        | false => rfl
        | true => exact (hd _ ((has_iff _ _).1 hf).2.2 ((has_iff _ _).1 hx).2.2).elim
      have e1 : gcomesF free a s = a + s.n := by
        unfold gcomesF; rw [hf, he, if_pos rfl, wrap_i64 (by omega) (by omega)]
      have e2 : comesF D b s = b + s.n := by
        unfold comesF; rw [hnd, if_neg (by decide), wrap_i64 (by omega) (by omega)]
      rw [e1, e2]
      exact comes_le hd r _ _ (k + 1) hr (by omega) (by omega) (by omega) (by omega)
    | false =>
      have e1 : gcomesF free a s = a := by unfold gcomesF; rw [hf, if_neg (by decide)]
      rw [e1]
      cases hx : has D s.t with
      | true =>
        have e2 : comesF D b s = b := by unfold comesF; rw [hx, if_pos rfl]
        rw [e2]
        exact comes_le hd r _ _ (k + 1) hr h h0 (by omega) (by omega)
      | false =>
        have e2 : comesF D b s = b + s.n := by
          unfold comesF; rw [hx, if_neg (by decide), wrap_i64 (by omega) (by omega)]
        rw [e2]
        exact comes_le hd r _ _ (k + 1) hr (by omega) h0 (by omega) (by omega)

theorem setOf_bit : ∀ (l : List Int) (s : BitVec 64) (j : Nat), (l.foldl (fun s n => s ||| one n) s).getLsbD j = true ↔ s.getLsbD j = true ∨ ∃ t ∈ l, (one t).getLsbD j = true
  | [], s, j => by simp
  | x :: r, s, j => by
    rw [List.foldl_cons, setOf_bit r, BitVec.getLsbD_or, Bool.or_eq_true]
    simp only [List.mem_cons]
    constructor
    · rintro ((h | h) | ⟨t, ht, h⟩)
      · exact .inl h
      · exact .inr ⟨x, .inl rfl, h⟩
      · exact .inr ⟨t, .inr ht, h⟩
    · rintro (h | ⟨t, rfl | ht, h⟩)
      · exact .inl (.inl h)
      · exact .inl (.inr h)
      · exact .inr ⟨t, ht, h⟩

/-- What is sound, and says what a graph says, is closed there. -/
theorem sound_closed {r : Report} {l : List Node} (hs : soundB r = true) (hm : matchB r l = true) (hsm : ∀ x ∈ r.nodes, ∀ w ∈ x.alts, ∀ m ∈ w, m.src.length ≤ 70) : Closed (setOf r.dead) l ∧ ∀ t ∈ r.dead, 0 ≤ t ∧ t < 64 ∧ t.toNat < l.length ∧ (setOf r.dead).getLsbD t.toNat = true := by
  unfold soundB at hs
  unfold matchB at hm
  simp only [Bool.and_eq_true, decide_eq_true_eq] at hs hm
  obtain ⟨hc, hs⟩ := hs
  have hm := hm.2
  obtain ⟨hlen, hpos⟩ := checkE_dead hc
  have hnodes := checkE_nodes hc
  have hat : ∀ (i : Nat) (t : Int), r.dead[i]? = some t → ∃ x, r.nodes[i]? = some x ∧ l[t.toNat]? = some x := fun i t hi => by
    have hil := (List.getElem?_eq_some_iff.1 hi).1
    obtain ⟨x, hx⟩ : ∃ x, r.nodes[i]? = some x := ⟨_, List.getElem?_eq_getElem (by omega)⟩
    have hmem : (t, x) ∈ r.dead.zip r.nodes := List.mem_of_getElem? (by rw [List.getElem?_zip_eq_some]; exact ⟨hi, hx⟩)
    have := List.all_eq_true.1 hm _ hmem
    simp only at this
    split at this
    · rename_i y hy
      simp only [decide_eq_true_eq] at this
      exact ⟨x, hx, by rw [hy, this]⟩
    · cases this
  refine ⟨fun u x hx hu => ?_, fun t ht => ?_⟩
  · rw [setOf, setOf_bit] at hu
    rcases hu with hu | ⟨t, ht, hu⟩
    · simp at hu
    · rw [one_bit] at hu
      simp only [Bool.and_eq_true, decide_eq_true_eq] at hu
      obtain ⟨i, hi⟩ := List.getElem?_of_mem ht
      obtain ⟨y, hy, hly⟩ := hat i t hi
      rw [hu.2, hx] at hly
      cases hly
      have hmem := List.mem_of_getElem? hy
      obtain ⟨hst, hun⟩ := hnodes x hmem
      refine ⟨hst, fun free hd => ?_⟩
      unfold gmet
      rw [hst, Bool.not_true, Bool.false_or, List.any_eq_false]
      intro w hw
      rw [Bool.not_eq_true, List.all_eq_false]
      have := List.all_eq_true.1 (List.all_eq_true.1 hs x hmem) w hw
      obtain ⟨m, hmw, hl⟩ := List.any_eq_true.1 this
      refine ⟨m, hmw, ?_⟩
      unfold lacksB comesW at hl
      unfold gcomes
      simp only [decide_eq_true_eq] at hl ⊢
      have := comes_le hd m.src 0 0 0 (hun w hw m hmw) (by omega) (by omega) (by omega) (by have := hsm x hmem w hw m hmw; omega)
      omega
  · obtain ⟨i, hi⟩ := List.getElem?_of_mem ht
    obtain ⟨y, hy, hly⟩ := hat i t hi
    have hp := hpos t ht
    refine ⟨hp.1, hp.2, (List.getElem?_eq_some_iff.1 hly).1, ?_⟩
    rw [setOf, setOf_bit]
    refine .inr ⟨t, ht, ?_⟩
    rw [one_bit]
    simp; omega

/-! ### Copies -/
theorem ownTerm_own (m : Term) : ownTerm (ownTerm m) = ownTerm m := by simp [ownTerm, List.take_take]
theorem ownWay_own (w : List Term) : ownWay (ownWay w) = ownWay w := by
  unfold ownWay
  rw [← List.map_take, List.take_take, List.map_map]
  exact List.map_congr_left fun m _ => ownTerm_own m
theorem ownNode_own (x : Node) : ownNode (ownNode x) = ownNode x := by
  unfold ownNode
  simp only [Node.mk.injEq, true_and]
  rw [← List.map_take, List.take_take, List.map_map]
  exact List.map_congr_left fun m _ => ownWay_own m
theorem ownGraph_own (l : List Node) : ownGraph (ownGraph l) = ownGraph l := by
  unfold ownGraph
  rw [← List.map_take, List.take_take, List.map_map]
  exact List.map_congr_left fun m _ => ownNode_own m
theorem ownReport_own (r : Report) : ownReport (ownReport r) = ownReport r := by
  unfold ownReport
  simp only [List.take_take, Report.mk.injEq, true_and]
  refine ⟨by simp, ?_⟩
  rw [← List.map_take, List.take_take, List.map_map]
  exact List.map_congr_left fun m _ => ownNode_own m
theorem ownTerm_len (m : Term) : (ownTerm m).src.length ≤ 70 := by simp [ownTerm]; omega
theorem ownWay_small (w : List Term) : waySmall (ownWay w) := ⟨by simp [ownWay, big]; omega, fun m hm => by
  obtain ⟨m', _, rfl⟩ := List.mem_map.1 hm
  have := ownTerm_len m'
  unfold Term.small big; omega⟩
theorem ownNode_small (x : Node) : (ownNode x).small := ⟨by simp [ownNode, big]; omega, fun w hw => by
  obtain ⟨w', _, rfl⟩ := List.mem_map.1 hw
  exact ownWay_small w'⟩
theorem ownGraph_small (l : List Node) : graphSmall (ownGraph l) := ⟨by simp [ownGraph, big]; omega, fun x hx => by
  obtain ⟨x', _, rfl⟩ := List.mem_map.1 hx
  exact ownNode_small x'⟩
theorem ownReport_small (r : Report) : (ownReport r).small := ⟨by simp [ownReport, big]; omega, ⟨by simp [ownReport, big]; omega, fun x hx => by
  obtain ⟨x', _, rfl⟩ := List.mem_map.1 hx
  exact ownNode_small x'⟩⟩
theorem ownReport_terms (r : Report) : ∀ x ∈ (ownReport r).nodes, ∀ w ∈ x.alts, ∀ m ∈ w, m.src.length ≤ 70 := by
  intro x hx w hw m hm
  obtain ⟨x', _, rfl⟩ := List.mem_map.1 hx
  obtain ⟨w', _, rfl⟩ := List.mem_map.1 hw
  obtain ⟨m', _, rfl⟩ := List.mem_map.1 hm
  exact ownTerm_len m'

/-! ### The statement's function -/
theorem lives37 : runT tab n_law37_lives [] [] = some (.bool true, [], 0) := (runT_iff tab).2 ⟨80, by kernel_rfl⟩

theorem c_WitnessProves (r : Report) (l : List Node) : runT tab n_law37_WitnessProves [r.av, .vsl (l.map Node.av)] [] = some (.bool true, [], 0) := by
  rw [x_fun tab_law37_WitnessProves _ (Nat.le_refl _)]
  have o1 := c_law36_Own r []
  have o2 := c_law26_Own l []
  have o3 := c_law36_Own (ownReport r) []
  have o4 := c_law26_Own (ownGraph l) []
  rw [ownReport_own] at o3
  rw [ownGraph_own] at o4
  have hsr := ownReport_small r
  have hsl := ownGraph_small l
  have htm := ownReport_terms r
  have hdlen : (ownReport r).dead.length ≤ 70 := by simp [ownReport]; omega
  generalize ownReport r = r' at *
  generalize ownGraph l = l' at *
  have hS := c_witness_Sound r' hsr
  have hM := c_witness_Match r' hsr l' []
  have hlv := lives37
  by_cases h64 : (64 : Int) < l'.length
  · unfold Report.av at *
    simp only [go_sem, Nat.reduceEqDiff, Nat.reduceAdd, Nat.reduceMul, Nat.reduceLeDiff, Nat.reduceBEq, reduceCtorEq, ↓reduceIte, Int.reduceToNat, Int.reduceLE, Int.reduceLT, F_law37_WitnessProves, F_law37_WitnessProves_r0, F_law37_WitnessProves_r1, F_law37_WitnessProves_r2, F_law37_WitnessProves_r3, F_law37_WitnessProves_r4, F_law37_WitnessProves_r5, F_law37_WitnessProves_r11, o1, o2, h64, hlv, splice_def]
  by_cases hdl : r'.dead.length ≤ 1000000
  case neg => exact (hdl (by have := hdlen; omega)).elim
  have hS := hS hdl []
  cases hs : soundB r' with
  | false =>
    rw [hs] at hS
    unfold Report.av at *
    simp only [go_sem, Nat.reduceEqDiff, Nat.reduceAdd, Nat.reduceMul, Nat.reduceLeDiff, Nat.reduceBEq, reduceCtorEq, ↓reduceIte, Int.reduceToNat, Int.reduceLE, Int.reduceLT, F_law37_WitnessProves, F_law37_WitnessProves_r0, F_law37_WitnessProves_r1, F_law37_WitnessProves_r2, F_law37_WitnessProves_r3, F_law37_WitnessProves_r4, F_law37_WitnessProves_r5, F_law37_WitnessProves_r11, o1, o2, o3, h64, hlv, splice_def, hS]
  | true =>
    rw [hs] at hS
    cases hm : matchB r' l' with
    | false =>
      rw [hm] at hM
      unfold Report.av at *
      simp only [go_sem, Nat.reduceEqDiff, Nat.reduceAdd, Nat.reduceMul, Nat.reduceLeDiff, Nat.reduceBEq, reduceCtorEq, ↓reduceIte, Int.reduceToNat, Int.reduceLE, Int.reduceLT, F_law37_WitnessProves, F_law37_WitnessProves_r0, F_law37_WitnessProves_r1, F_law37_WitnessProves_r2, F_law37_WitnessProves_r3, F_law37_WitnessProves_r4, F_law37_WitnessProves_r5, F_law37_WitnessProves_r11, o1, o2, o3, o4, h64, hlv, splice_def, hS, hM]
    | true =>
      rw [hm] at hM
      obtain ⟨hcl, hin⟩ := sound_closed hs hm htm
      obtain ⟨d, hd, hds⟩ := c_graph_Doomed l' (by omega) hsl []
      have hloop := loop_all (F := tab) (b := F_law37_WitnessProves_l10) r'.dead
        (fun i => ⟨[(5, some (.int .u64 d.toNat)), (6, some (.int .i64 i))], [(2, some [.int .i64 r'.time, .vsl (r'.dead.map (.int .i64)), .vsl (r'.nodes.map Node.av)])], [(2, some (2, 0))], [], 0, 0⟩)
        (fun _ => true)
        (.exit 0, ⟨[(5, some (.int .u64 d.toNat)), (6, some (.int .i64 r'.dead.length)), (36, some (.bool false))], [(2, some [.int .i64 r'.time, .vsl (r'.dead.map (.int .i64)), .vsl (r'.nodes.map Node.av)])], [(2, some (2, 0))], [], 0, 0⟩)
        (.ret, ⟨[(4, some (.bool false))], [], [], [], 0, 0⟩)
        (fun i t ht hi => by
          have hi' := wi (show i < 4611686018427387904 by omega)
          obtain ⟨h1, h2, h3, h4⟩ := hin t (mem_of_get ht)
          have hb := hds _ hcl t.toNat h3 h4
          have hh : has d t = true := (has_iff d t).2 ⟨h1, by omega, hb⟩
          have hc := c_ref02_Has d t []
          rw [hh] at hc
          simp only [go_sem, Nat.reduceEqDiff, Nat.reduceAdd, Nat.reduceMul, Nat.reduceLeDiff, Nat.reduceBEq, reduceCtorEq, ↓reduceIte, Int.reduceToNat, Int.reduceLE, Int.reduceLT, F_law37_WitnessProves_l10, F_law37_WitnessProves_r6, F_law37_WitnessProves_r7, F_law37_WitnessProves_r8, F_law37_WitnessProves_r9, ht, hi, hi', hc])
        (by simp only [go_sem, Nat.reduceEqDiff, Nat.reduceAdd, Nat.reduceMul, Nat.reduceLeDiff, Nat.reduceBEq, reduceCtorEq, ↓reduceIte, Int.reduceToNat, Int.reduceLE, Int.reduceLT, F_law37_WitnessProves_l10, F_law37_WitnessProves_r6, F_law37_WitnessProves_r7, F_law37_WitnessProves_r8, F_law37_WitnessProves_r9, Nat.lt_irrefl]) (by simp) (by simp)
      simp only [cast0, List.all_eq_true, implies_true, if_true] at hloop
      unfold Report.av at *
      simp only [go_sem, Nat.reduceEqDiff, Nat.reduceAdd, Nat.reduceMul, Nat.reduceLeDiff, Nat.reduceBEq, reduceCtorEq, ↓reduceIte, Int.reduceToNat, Int.reduceLE, Int.reduceLT, F_law37_WitnessProves, F_law37_WitnessProves_r0, F_law37_WitnessProves_r1, F_law37_WitnessProves_r2, F_law37_WitnessProves_r3, F_law37_WitnessProves_r4, F_law37_WitnessProves_r5, F_law37_WitnessProves_r11, o1, o2, o3, o4, h64, hlv, splice_def, hS, hM, hd, hloop]
end Go.AI

