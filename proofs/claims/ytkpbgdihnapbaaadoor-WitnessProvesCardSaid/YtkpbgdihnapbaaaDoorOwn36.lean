/- The statements' own copies of reports. -/
import Derived.Test.YtkpbgdihnapbaaaDoorOwn26
set_option linter.unusedVariables false
set_option linter.unusedSimpArgs false
namespace Go.AI
open Go Go.Proofs

def ownReport (r : Report) : Report := ⟨r.time, r.dead.take 70, (r.nodes.take 70).map ownNode⟩

theorem Bld.shape {n0 : Nat} {K : Heap} {sz n : Nat} {v : AV} {xs : List AV} (h : Bld n0 K sz n v xs) : v.cells = [v] ∧ v.plain = true := by
  rcases h with ⟨_, rfl | rfl⟩ | ⟨b, g, es, rfl, _⟩ <;> exact ⟨rfl, rfl⟩

theorem own36_dead (r : Report) (H : Heap) (Z : List AV) (K0 : Heap) (h0 : H.length + 1 ≤ K0.length) (hr0 : K0.row H.length 0 = some (3, [.agg [.int .i64 r.time, .nilsl, .nilsl]])) :
    ∃ K v, execT tab (.loop F_law36_Own_l6) ⟨[(3, some (.ptr H.length 0 0 0)), (4, some (.int .i64 0))], [(1, some [.int .i64 r.time, .vsl (r.dead.map (.int .i64)), .vsl (r.nodes.map Node.av)]), (2, some Z)], [(1, some (1, 0)), (2, some (2, 0))], K0, H.length, H.length⟩ =
      some (.exit 0, ⟨[(3, some (.ptr H.length 0 0 0)), (4, some (.int .i64 (min r.dead.length 70 : Nat))), (18, some (.bool false))], [(1, some [.int .i64 r.time, .vsl (r.dead.map (.int .i64)), .vsl (r.nodes.map Node.av)]), (2, some Z)], [(1, some (1, 0)), (2, some (2, 0))], K, H.length, H.length⟩) ∧
      H.length + 1 ≤ K.length ∧ K.row H.length 0 = some (3, [.agg [.int .i64 r.time, v, .nilsl]]) ∧ Bld (H.length + 1) K 1 6 v ((r.dead.take 70).map (.int .i64)) := by
  have hloop := loop_inv (F := tab) (b := F_law36_Own_l6)
    (fun n st => ∃ (i : Nat) (v : AV) (K : Heap), n = 70 - i ∧ i ≤ 70 ∧ i ≤ r.dead.length ∧ H.length + 1 ≤ K.length ∧ K.row H.length 0 = some (3, [.agg [.int .i64 r.time, v, .nilsl]]) ∧ Bld (H.length + 1) K 1 6 v ((r.dead.take i).map (.int .i64)) ∧
      st = ⟨[(3, some (.ptr H.length 0 0 0)), (4, some (.int .i64 i))], [(1, some [.int .i64 r.time, .vsl (r.dead.map (.int .i64)), .vsl (r.nodes.map Node.av)]), (2, some Z)], [(1, some (1, 0)), (2, some (2, 0))], K, H.length, H.length⟩)
    (fun q => ∃ K v, q = (.exit 0, ⟨[(3, some (.ptr H.length 0 0 0)), (4, some (.int .i64 (min r.dead.length 70 : Nat))), (18, some (.bool false))], [(1, some [.int .i64 r.time, .vsl (r.dead.map (.int .i64)), .vsl (r.nodes.map Node.av)]), (2, some Z)], [(1, some (1, 0)), (2, some (2, 0))], K, H.length, H.length⟩) ∧
      H.length + 1 ≤ K.length ∧ K.row H.length 0 = some (3, [.agg [.int .i64 r.time, v, .nilsl]]) ∧ Bld (H.length + 1) K 1 6 v ((r.dead.take 70).map (.int .i64)))
    (by
      rintro n st ⟨i, v, K, rfl, h70, hil, hK, hrow, hB, rfl⟩
      rcases Nat.lt_or_ge i r.dead.length with hlt | hge
      · rcases Nat.lt_or_ge i 70 with h70' | h70'
        · right
          obtain ⟨t, ht⟩ : ∃ t, r.dead[i]? = some t := ⟨_, List.getElem?_eq_getElem hlt⟩
          have h70i : ((i : Nat) : Int) < 70 := by omega
          have hi' := wi (show i < 4611686018427387904 by omega)
          have hal : ((r.dead.take i).map (AV.int .i64)).length = i := by simp; omega
          obtain ⟨v', K', m, hm, happ, hB', hpre, hK'⟩ := hB.appendL hK (n1 := K.length) hK (hB.below (n1 := 0)) (y := .int .i64 t) (y' := .int .i64 t) rfl (bytes := 8) (z := 1) (by rw [hal]; unfold maxBytes; omega) (by rw [hal]; unfold maxBytes; omega)
          have hrow' : K'.row H.length 0 = some (3, [.agg [.int .i64 r.time, v, .nilsl]]) := by
            unfold Heap.row Heap.get at hrow ⊢
            rw [hpre _ (Nat.lt_succ_self _)]; exact hrow
          have hsh := hB'.shape
          have hst := store_fld hrow' (off := 1) (v := v') (by simp) hsh.1 hsh.2
          have hrow1 : Heap.row (K ++ [some (Blk.row 1 0 [.int .i64 t])]) H.length 0 = some (3, [.agg [.int .i64 r.time, v, .nilsl]]) := row_app hrow
          have happ' := fun e bx ad ba => happ e bx ad (K.length + 1) ba (Nat.le_refl _)
          refine ⟨70 - (i + 1), ⟨[(3, some (.ptr H.length 0 0 0)), (4, some (.int .i64 (i + 1 : Nat)))], [(1, some [.int .i64 r.time, .vsl (r.dead.map (.int .i64)), .vsl (r.nodes.map Node.av)]), (2, some Z)], [(1, some (1, 0)), (2, some (2, 0))], K'.set H.length (some (Blk.row 3 0 [.agg [.int .i64 r.time, v', .nilsl]])), H.length, H.length⟩, by omega, ?_,
            i + 1, v', _, rfl, by omega, hlt, by rw [List.length_set]; exact hK', row_set_self (by omega), ?_, rfl⟩
          · have e1 : min H.length (K.length + 1) = H.length := by omega
            have e2 : min H.length (min (K.length + 1) m) = H.length := by omega
            have e3 : min H.length (min K'.length H.length) = H.length := by omega
            have e4 : min H.length K.length = H.length := by omega
            have e5 : min K'.length H.length = H.length := by omega
            simp only [go_sem, Nat.reduceEqDiff, Nat.reduceAdd, Nat.reduceMul, Nat.reduceLeDiff, Nat.reduceBEq, reduceCtorEq, ↓reduceIte, Int.reduceToNat, Int.reduceLE, Int.reduceLT, F_law36_Own_l6, F_law36_Own_r3, F_law36_Own_d4, F_law36_Own_r5, ht, hlt, h70i, hi', hrow, hrow1, happ', hst, e1, e2, e3, e4, e5, hK, List.set, Nat.zero_lt_one, List.reduceReplicate, List.set_cons_zero, List.set_cons_succ]
          · rw [List.take_add_one, ht]
            have := hB'.ext2 (K' := K'.set H.length (some (Blk.row 3 0 [.agg [.int .i64 r.time, v', .nilsl]]))) fun b hb _ => by rw [List.getElem?_set_ne (by omega)]
            simpa using this
        · left
          have : i = 70 := by omega
          subst this
          have hmn : min r.dead.length 70 = 70 := by omega
          refine ⟨_, ?_, ?_, K, v, rfl, hK, hrow, hB⟩
          · rw [hmn]
            simp only [go_sem, Nat.reduceEqDiff, Nat.reduceAdd, Nat.reduceMul, Nat.reduceLeDiff, Nat.reduceBEq, reduceCtorEq, ↓reduceIte, Int.reduceToNat, Int.reduceLE, Int.reduceLT, F_law36_Own_l6, F_law36_Own_r3, F_law36_Own_d4, F_law36_Own_r5, hlt, show ¬ (((70 : Nat) : Int) < 70) by decide]
          · simp
      · left
        have : i = r.dead.length := by omega
        subst this
        have hmn : min r.dead.length 70 = r.dead.length := by omega
        have htk : r.dead.take 70 = r.dead.take r.dead.length := by rw [List.take_of_length_le h70, List.take_length]
        refine ⟨_, ?_, ?_, K, v, rfl, hK, hrow, by rw [htk]; exact hB⟩
        · rw [hmn]
          simp only [go_sem, Nat.reduceEqDiff, Nat.reduceAdd, Nat.reduceMul, Nat.reduceLeDiff, Nat.reduceBEq, reduceCtorEq, ↓reduceIte, Int.reduceToNat, Int.reduceLE, Int.reduceLT, F_law36_Own_l6, F_law36_Own_r3, F_law36_Own_d4, F_law36_Own_r5, Nat.lt_irrefl]
        · simp)
    70 _ ⟨0, .nilsl, K0, rfl, Nat.zero_le _, Nat.zero_le _, h0, hr0, Bld.nil, rfl⟩
  obtain ⟨q, hq, K, v, rfl, h1, h2, h3⟩ := hloop
  simp only [cast0] at hq
  exact ⟨K, v, hq, h1, h2, h3⟩

theorem own36_nodes (N : List Node) (t : Int) (D : List AV) (H : Heap) (Z : List AV) (vd : AV) (K0 : Heap) (h0 : H.length + 1 ≤ K0.length) (hr0 : K0.row H.length 0 = some (3, [.agg [.int .i64 t, vd, .nilsl]])) (hD : Bld (H.length + 1) K0 1 6 vd D) :
    ∃ K v, execT tab (.loop F_law36_Own_l12) ⟨[(3, some (.ptr H.length 0 0 0)), (5, some (.vsl (N.map Node.av))), (6, some (.int .i64 0))], [(2, some Z)], [(2, some (2, 0))], K0, H.length, H.length⟩ =
      some (.exit 2, ⟨[(3, some (.ptr H.length 0 0 0)), (5, some (.vsl (N.map Node.av))), (6, some (.int .i64 (min N.length 70 : Nat))), (40, some (.bool false))], [(2, some Z)], [(2, some (2, 0))], K, H.length, H.length⟩) ∧
      K.row H.length 0 = some (3, [.agg [.int .i64 t, vd, v]]) ∧ Bld (H.length + 1) K 1 6 vd D ∧ Bld K0.length K 2 6 v (((N.take 70).map ownNode).map Node.av) := by
  have hloop := loop_inv (F := tab) (b := F_law36_Own_l12)
    (fun n st => ∃ (i : Nat) (v : AV) (K : Heap), n = 70 - i ∧ i ≤ 70 ∧ i ≤ N.length ∧ K0.length ≤ K.length ∧ K.row H.length 0 = some (3, [.agg [.int .i64 t, vd, v]]) ∧ Bld (H.length + 1) K 1 6 vd D ∧ Bld K0.length K 2 6 v (((N.take i).map ownNode).map Node.av) ∧
      (∀ b, H.length + 1 ≤ b → b < K0.length → K[b]? = K0[b]?) ∧
      st = ⟨[(3, some (.ptr H.length 0 0 0)), (5, some (.vsl (N.map Node.av))), (6, some (.int .i64 i))], [(2, some Z)], [(2, some (2, 0))], K, H.length, H.length⟩)
    (fun q => ∃ K v, q = (.exit 2, ⟨[(3, some (.ptr H.length 0 0 0)), (5, some (.vsl (N.map Node.av))), (6, some (.int .i64 (min N.length 70 : Nat))), (40, some (.bool false))], [(2, some Z)], [(2, some (2, 0))], K, H.length, H.length⟩) ∧
      K.row H.length 0 = some (3, [.agg [.int .i64 t, vd, v]]) ∧ Bld (H.length + 1) K 1 6 vd D ∧ Bld K0.length K 2 6 v (((N.take 70).map ownNode).map Node.av))
    (by
      rintro n st ⟨i, v, K, rfl, h70, hil, hK, hrow, hBd, hB, hpre0, rfl⟩
      rcases Nat.lt_or_ge i N.length with hlt | hge
      · rcases Nat.lt_or_ge i 70 with h70' | h70'
        · right
          obtain ⟨x, hx⟩ : ∃ x, N[i]? = some x := ⟨_, List.getElem?_eq_getElem hlt⟩
          have h70i : ((i : Nat) : Int) < 70 := by omega
          have hi' := wi (show i < 4611686018427387904 by omega)
          have hal : (((N.take i).map ownNode).map Node.av).length = i := by simp; omega
          obtain ⟨v', K', m, hm, happ, hB', hpre, hK'⟩ := hB.appendL hK (n1 := K.length) hK (hB.below (n1 := 0)) (y := (ownNode x).av) (y' := (ownNode x).av) rfl (bytes := 32) (z := 2) (by rw [hal]; unfold maxBytes; omega) (by rw [hal]; unfold maxBytes; omega)
          have hrow' : K'.row H.length 0 = some (3, [.agg [.int .i64 t, vd, v]]) := by
            unfold Heap.row Heap.get at hrow ⊢
            rw [hpre _ (by omega)]; exact hrow
          have hsh := hB'.shape
          have hst := store_fld hrow' (off := 2) (v := v') (by simp) hsh.1 hsh.2
          have hrow1 : Heap.row (K ++ [some (Blk.row 2 0 [(ownNode x).av])]) H.length 0 = some (3, [.agg [.int .i64 t, vd, v]]) := row_app hrow
          have happ' := fun e bx ad ba => happ e bx ad (K.length + 1) ba (Nat.le_refl _)
          have hone : ((N.map Node.av).take (i + 1)).drop i = [x.av] := by
            rw [List.drop_take]
            have : (N.map Node.av).drop i = x.av :: (N.map Node.av).drop (i + 1) := by
              rw [List.drop_eq_getElem_cons (by simpa using hlt)]
              congr 1
              have h := (List.getElem?_eq_some_iff.1 hx).2
              simp [h]
            rw [this]
            have : i + 1 - i = 1 := by omega
            rw [this]; rfl
          have hown := c_law26_Own [x] K
          have hle1 : (0 : Int) ≤ ((i + 1 : Nat) : Int) ∧ ((i + 1 : Nat) : Int) ≤ ((N.length : Nat) : Int) := by omega
          have hle2 : i + 1 ≤ N.length := hlt
          have hle3 : i ≤ i + 1 := Nat.le_succ i
          have hsz : szOk 2 (N.map Node.av) = true := szOk_map fun _ => rfl
          have hg1 : (ownGraph [x]).map Node.av = [(ownNode x).av] := rfl
          rw [hg1] at hown
          refine ⟨70 - (i + 1), ⟨[(3, some (.ptr H.length 0 0 0)), (5, some (.vsl (N.map Node.av))), (6, some (.int .i64 (i + 1 : Nat)))], [(2, some Z)], [(2, some (2, 0))], K'.set H.length (some (Blk.row 3 0 [.agg [.int .i64 t, vd, v']])), H.length, H.length⟩, by omega, ?_,
            i + 1, v', _, rfl, by omega, hlt, by rw [List.length_set]; exact hK', row_set_self (by omega), ?_, ?_, ?_, rfl⟩
          · have e1 : min H.length (K.length + 1) = H.length := by omega
            have e2 : min H.length (min (K.length + 1) m) = H.length := by omega
            have e3 : min H.length (min K'.length H.length) = H.length := by omega
            have e4 : min H.length K.length = H.length := by omega
            have e5 : min K'.length H.length = H.length := by omega
            have hKH : H.length + 1 ≤ K.length := by omega
            simp only [Node.av, List.map] at hown hone hrow1 happ'
            simp only [go_sem, Nat.reduceEqDiff, Nat.reduceAdd, Nat.reduceMul, Nat.reduceLeDiff, Nat.reduceBEq, reduceCtorEq, ↓reduceIte, Int.reduceToNat, Int.reduceLE, Int.reduceLT, F_law36_Own_l12, F_law36_Own_r9, F_law36_Own_d10, F_law36_Own_r11, hlt, h70i, hi', hrow, hrow1, happ', hst, e1, e2, e3, e4, e5, hKH, hsz, hle2, hle3, hone, hown, Node.av, List.set, Nat.zero_lt_one, List.reduceReplicate, List.set_cons_zero, List.set_cons_succ]
          · exact hD.ext2 fun b hb hbK => by rw [List.getElem?_set_ne (by omega), hpre b hbK]; exact hpre0 b hb hbK
          · rw [List.take_add_one, hx]
            have := hB'.ext2 (K' := K'.set H.length (some (Blk.row 3 0 [.agg [.int .i64 t, vd, v']]))) fun b hb _ => by rw [List.getElem?_set_ne (by omega)]
            simpa using this
          · intro b hb hb'
            rw [List.getElem?_set_ne (by omega), hpre b hb']
            exact hpre0 b hb hb'
        · left
          have : i = 70 := by omega
          subst this
          have hmn : min N.length 70 = 70 := by omega
          refine ⟨_, ?_, ?_, K, v, rfl, hrow, hBd, hB⟩
          · rw [hmn]
            simp only [go_sem, Nat.reduceEqDiff, Nat.reduceAdd, Nat.reduceMul, Nat.reduceLeDiff, Nat.reduceBEq, reduceCtorEq, ↓reduceIte, Int.reduceToNat, Int.reduceLE, Int.reduceLT, F_law36_Own_l12, F_law36_Own_r9, F_law36_Own_d10, F_law36_Own_r11, hlt, show ¬ (((70 : Nat) : Int) < 70) by decide]
          · simp
      · left
        have : i = N.length := by omega
        subst this
        have hmn : min N.length 70 = N.length := by omega
        have htk : N.take 70 = N.take N.length := by rw [List.take_of_length_le h70, List.take_length]
        refine ⟨_, ?_, ?_, K, v, rfl, hrow, hBd, by rw [htk]; exact hB⟩
        · rw [hmn]
          simp only [go_sem, Nat.reduceEqDiff, Nat.reduceAdd, Nat.reduceMul, Nat.reduceLeDiff, Nat.reduceBEq, reduceCtorEq, ↓reduceIte, Int.reduceToNat, Int.reduceLE, Int.reduceLT, F_law36_Own_l12, F_law36_Own_r9, F_law36_Own_d10, F_law36_Own_r11, Nat.lt_irrefl]
        · simp)
    70 _ ⟨0, .nilsl, K0, rfl, Nat.zero_le _, Nat.zero_le _, Nat.le_refl _, hr0, hD, Bld.nil, fun _ _ _ => rfl, rfl⟩
  obtain ⟨q, hq, K, v, rfl, h1, h2, h3⟩ := hloop
  simp only [cast0] at hq
  exact ⟨K, v, hq, h1, h2, h3⟩

theorem c_law36_Own (r : Report) (H : Heap) : runT tab n_law36_Own [r.av] H = some ((ownReport r).av, H, H.length) := by
  rw [x_fun tab_law36_Own _ (Nat.le_refl _)]
  have hrow0 : Heap.row (H ++ [some (Blk.row 3 0 [.agg [.int .i64 0, .nilsl, .nilsl]])]) H.length 0 = some (3, [.agg [.int .i64 0, .nilsl, .nilsl]]) := row_last
  have hst : storeV (H ++ [some (Blk.row 3 0 [.agg [.int .i64 0, .nilsl, .nilsl]])]) 3 (.ptr H.length 0 0 0) (.agg [.int .i64 r.time, .nilsl, .nilsl]) =
      some (H.length, H ++ [some (Blk.row 3 0 [.agg [.int .i64 r.time, .nilsl, .nilsl]])]) := by
    simp only [storeV, hrow0, cells_agg, plain_agg, List.length_cons, List.length_nil, and_self, if_true, storeRow, List.getElem?_cons_zero, writeElem]
    simp [splice_def]
  obtain ⟨K1, vd, h1, hK1, hrow1, hD⟩ := own36_dead r H [.int .i64 0, .nilsl, .nilsl] (H ++ [some (Blk.row 3 0 [.agg [.int .i64 r.time, .nilsl, .nilsl]])]) (by simp) row_last
  obtain ⟨K2, vn, h2, hrow2, hD2, hN⟩ := own36_nodes r.nodes r.time _ H [.int .i64 0, .nilsl, .nilsl] vd K1 hK1 hrow1 hD
  have f1 : frzV K2 H.length false 8 vd = some (.vsl ((r.dead.take 70).map (.int .i64))) := hD2.see (by decide) (Nat.le_succ _) false
  have f2 : frzV K2 H.length false 8 vn = some (.vsl (((r.nodes.take 70).map ownNode).map Node.av)) := hN.see (by decide) (by omega) false
  unfold Report.av
  simp only [go_sem, Nat.reduceEqDiff, Nat.reduceAdd, Nat.reduceMul, Nat.reduceLeDiff, Nat.reduceBEq, reduceCtorEq, ↓reduceIte, Int.reduceToNat, Int.reduceLE, Int.reduceLT, F_law36_Own, F_law36_Own_r0, F_law36_Own_r1, F_law36_Own_r2, F_law36_Own_r7, F_law36_Own_r8, F_law36_Own_r13, hst, h1, h2, hrow2, splice_def, f1, f2]
  rfl
end Go.AI

