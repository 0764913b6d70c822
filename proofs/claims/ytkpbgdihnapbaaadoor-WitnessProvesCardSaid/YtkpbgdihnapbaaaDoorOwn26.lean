/- The statements' own copies of graphs. -/
import Derived.Test.YtkpbgdihnapbaaaDoorText
import Derived.Test.YtkpbgdihnapbaaaDoorAiC
set_option linter.unusedVariables false
set_option linter.unusedSimpArgs false
namespace Go.AI
open Go Go.Proofs

def ownTerm (m : Term) : Term := ⟨m.k, m.src.take 70⟩
def ownWay (w : List Term) : List Term := (w.take 6).map ownTerm
def ownNode (x : Node) : Node := ⟨x.stuck, (x.alts.take 6).map ownWay⟩
def ownGraph (l : List Node) : List Node := (l.take 70).map ownNode

theorem share_frozen (n : Nat) (s : Share) : Frozen (n + 2) s.av := fun _ _ _ => rfl

theorem wcase {a b : Nat} : (((a : Nat) : Int) < ((b : Nat) : Int)) ↔ a < b := by omega

section
variable (L : List Node) (i a : Nat) (x : Node) (w : List Term) (hx : L[i]? = some x) (hw : x.alts[a]? = some w)
include hx hw

/-- The terms of one way. -/
theorem own26_terms (H : Heap) (O C5 : AV) (K0 : Heap) (hH : H.length ≤ K0.length) :
    ∃ K v, execT tab (.loop F_law26_Own_l16) ⟨[(0, some (.vsl (L.map Node.av))), (3, some O), (4, some (.int .i64 i)), (6, some (.int .i64 a)), (7, some .emp), (8, some (.int .i64 0))], [(5, some [.bool x.stuck, C5])], [(5, some (5, 0))], K0, H.length, H.length⟩ =
      some (.exit 4, ⟨[(0, some (.vsl (L.map Node.av))), (3, some O), (4, some (.int .i64 i)), (6, some (.int .i64 a)), (7, some v), (8, some (.int .i64 (min w.length 6 : Nat))), (57, some (.bool false))], [(5, some [.bool x.stuck, C5])], [(5, some (5, 0))], K, H.length, H.length⟩) ∧
      K0.length ≤ K.length ∧ (∀ b, b < K0.length → K[b]? = K0[b]?) ∧ Bld K0.length K 2 5 v ((ownWay w).map Term.av) := by
  have hloop := loop_inv (F := tab) (b := F_law26_Own_l16)
    (fun n st => ∃ (k : Nat) (v : AV) (K : Heap), n = 6 - k ∧ k ≤ 6 ∧ k ≤ w.length ∧ K0.length ≤ K.length ∧ (∀ b, b < K0.length → K[b]? = K0[b]?) ∧ Bld K0.length K 2 5 v (((w.take k).map ownTerm).map Term.av) ∧
      st = ⟨[(0, some (.vsl (L.map Node.av))), (3, some O), (4, some (.int .i64 i)), (6, some (.int .i64 a)), (7, some v), (8, some (.int .i64 k))], [(5, some [.bool x.stuck, C5])], [(5, some (5, 0))], K, H.length, H.length⟩)
    (fun r => ∃ K v, r = (.exit 4, ⟨[(0, some (.vsl (L.map Node.av))), (3, some O), (4, some (.int .i64 i)), (6, some (.int .i64 a)), (7, some v), (8, some (.int .i64 (min w.length 6 : Nat))), (57, some (.bool false))], [(5, some [.bool x.stuck, C5])], [(5, some (5, 0))], K, H.length, H.length⟩) ∧
      K0.length ≤ K.length ∧ (∀ b, b < K0.length → K[b]? = K0[b]?) ∧ Bld K0.length K 2 5 v ((ownWay w).map Term.av))
    (by
      rintro n st ⟨k, v, K, rfl, h6, hkl, hK, hpre, hB, rfl⟩
      rcases Nat.lt_or_ge k w.length with hlt | hge
      · rcases Nat.lt_or_ge k 6 with h6' | h6'
        · right
          obtain ⟨m, hm⟩ : ∃ m, w[k]? = some m := ⟨_, List.getElem?_eq_getElem hlt⟩
          have h6i : ((k : Nat) : Int) < 6 := by omega
          have hk' := wi (show k < 4611686018427387904 by omega)
          have hlo1 : H.length ≤ K.length := Nat.le_trans hH hK
          -- the shares
          have hys : ∀ y ∈ (m.src.take 70).map Share.av, Frozen 3 y := fun y hy => by
            obtain ⟨s, _, rfl⟩ := List.mem_map.1 hy
            exact share_frozen 1 s
          have hl70 : ((m.src.take 70).map Share.av).length ≤ 70 := by simp; omega
          obtain ⟨v83, T, happ, hc1, hp1, hcs, hvw⟩ := app_new (K := K) (sz := 2) (bytes := 16) hys (by unfold maxBytes; omega) (by unfold maxBytes; omega) (x := .emp) (.inr rfl)
          have hKT : K.length ≤ (K ++ T).length := by simp
          have hB1 : Bld K0.length (K ++ T) 2 5 v (((w.take k).map ownTerm).map Term.av) := hB.ext fun b hb => List.getElem?_append_left hb
          have hyv : frzV (K ++ T) K.length true 5 (.agg [.int .i64 m.k, v83]) = some (ownTerm m).av := by
            simp only [fz_agg, mapO_cons, fz_int, hvw, bind_some', mapO_nil, Option.map_some]
            rfl
          have hal : (((w.take k).map ownTerm).map Term.av).length = k := by simp; omega
          obtain ⟨v', K', mm, hmm, happ2, hB', hpre', hK'⟩ := hB1.appendL (Nat.le_trans hK hKT) (n1 := K.length) hK (hB.below (n1 := 0)) hyv (bytes := 32) (z := 2) (by rw [hal]; unfold maxBytes; omega) (by rw [hal]; unfold maxBytes; omega)
          have hsz : szOk 2 ((m.src.take 70).map Share.av) = true := szOk_map fun _ => rfl
          have hsz0 : szOk 2 (m.src.map Share.av) = true := szOk_map fun _ => rfl
          refine ⟨6 - (k + 1), ⟨[(0, some (.vsl (L.map Node.av))), (3, some O), (4, some (.int .i64 i)), (6, some (.int .i64 a)), (7, some v'), (8, some (.int .i64 (k + 1 : Nat)))], [(5, some [.bool x.stuck, C5])], [(5, some (5, 0))], K', H.length, H.length⟩, by omega, ?_, k + 1, v', K', rfl, by omega, hlt, hK', fun b hb => ?_, ?_, rfl⟩
          · have hlen1 : (K ++ T).length ≤ (K ++ T).length + 1 := Nat.le_succ _
            have e1 : min H.length K.length = H.length := Nat.min_eq_left hlo1
            have e2 : min H.length ((K ++ T).length) = H.length := Nat.min_eq_left (Nat.le_trans hlo1 hKT)
            have e3 : min H.length (min ((K ++ T).length + 1) mm) = H.length := by omega
            have e4 : min H.length (K.length + T.length) = H.length := by simpa using e2
            have happ2' : ∀ (e : Env) (bx : List (Nat × Option (List AV))) (ad : List (Nat × Option (Nat × Nat))) (ba : Nat), appendOp 2 32 v [.agg [.int .i64 m.k, v83]] ⟨e, bx, ad, K ++ T ++ [some (Blk.row 2 0 [.agg [.int .i64 m.k, v83]])], K.length + T.length + 1, ba⟩ =
                some (v', ⟨e, bx, ad, K', min (K.length + T.length + 1) mm, ba⟩) := fun e bx ad ba => by
              have := happ2 e bx ad (K.length + T.length + 1) ba (by simp)
              exact this
            have e5 : min H.length (min (K.length + T.length + 1) mm) = H.length := by omega
            have e6 : min H.length (K.length + T.length + 1) = H.length := by omega
            have hrl : Heap.row (K ++ T ++ [some (Blk.row 2 0 [.agg [.int .i64 m.k, v83]])]) (K.length + T.length) 0 = some (2, [.agg [.int .i64 m.k, v83]]) := by
              have := row_last (K := K ++ T) (s := 2) (g := 0) (es := [.agg [.int .i64 m.k, v83]])
              simpa using this
            by_cases h70 : (70 : Int) < m.src.length
            · have hle70 : 70 ≤ m.src.length := by omega
              have hmin : ((70 : Int) ≤ (m.src.length : Int)) := by omega
              have h0 : (0 : Int) ≤ 70 := by decide
              simp only [go_sem, Nat.reduceEqDiff, Nat.reduceAdd, Nat.reduceMul, Nat.reduceLeDiff, Nat.reduceBEq, reduceCtorEq, ↓reduceIte, Int.reduceToNat, Int.reduceLE, Int.reduceLT, F_law26_Own_l16, F_law26_Own_r9, F_law26_Own_r10, F_law26_Own_r11, F_law26_Own_r12, F_law26_Own_r13, F_law26_Own_d14, F_law26_Own_r15, hx, hw, hm, hlt, h6i, hk', Node.av, wayAv, Term.av, splice_def, h70, hsz0, hmin, h0, show Int.toNat 70 = 70 from rfl, happ, hsz, hc1, hp1, hcs, e1, e2, e3, e4, e5, hrl, happ2', ← List.map_take, e6, List.set, Nat.zero_lt_one, List.reduceReplicate]
            · have h70' : m.src.take 70 = m.src := List.take_of_length_le (by omega)
              rw [h70'] at happ hsz
              simp only [go_sem, Nat.reduceEqDiff, Nat.reduceAdd, Nat.reduceMul, Nat.reduceLeDiff, Nat.reduceBEq, reduceCtorEq, ↓reduceIte, Int.reduceToNat, Int.reduceLE, Int.reduceLT, F_law26_Own_l16, F_law26_Own_r9, F_law26_Own_r10, F_law26_Own_r11, F_law26_Own_r12, F_law26_Own_r13, F_law26_Own_d14, F_law26_Own_r15, hx, hw, hm, hlt, h6i, hk', Node.av, wayAv, Term.av, splice_def, h70, hsz0, happ, hc1, hp1, hcs, e1, e2, e3, e4, e5, hrl, happ2', e6, List.set, Nat.zero_lt_one, List.reduceReplicate]
          · rw [hpre' b hb]
            rw [List.getElem?_append_left (by omega)]
            exact hpre b hb
          · rw [List.take_add_one, hm]
            simpa using hB'
        · left
          have : k = 6 := by omega
          subst this
          have hmn : min w.length 6 = 6 := by omega
          refine ⟨_, ?_, ?_, K, v, rfl, hK, hpre, hB⟩
          · rw [hmn]
            simp only [go_sem, Nat.reduceEqDiff, Nat.reduceAdd, Nat.reduceMul, Nat.reduceLeDiff, Nat.reduceBEq, reduceCtorEq, ↓reduceIte, Int.reduceToNat, Int.reduceLE, Int.reduceLT, F_law26_Own_l16, F_law26_Own_r9, F_law26_Own_r10, F_law26_Own_r11, F_law26_Own_r12, F_law26_Own_r13, F_law26_Own_d14, F_law26_Own_r15, hx, hw, hlt, Node.av, wayAv, show ¬ (((6 : Nat) : Int) < 6) by decide]
          · simp
      · left
        have : k = w.length := by omega
        subst this
        have hmn : min w.length 6 = w.length := by omega
        have htk : ownWay w = (w.take w.length).map ownTerm := by unfold ownWay; rw [List.take_of_length_le h6, List.take_length]
        refine ⟨_, ?_, ?_, K, v, rfl, hK, hpre, by rw [htk]; exact hB⟩
        · rw [hmn]
          simp only [go_sem, Nat.reduceEqDiff, Nat.reduceAdd, Nat.reduceMul, Nat.reduceLeDiff, Nat.reduceBEq, reduceCtorEq, ↓reduceIte, Int.reduceToNat, Int.reduceLE, Int.reduceLT, F_law26_Own_l16, F_law26_Own_r9, F_law26_Own_r10, F_law26_Own_r11, F_law26_Own_r12, F_law26_Own_r13, F_law26_Own_d14, F_law26_Own_r15, hx, hw, Nat.lt_irrefl, Node.av, wayAv]
        · simp)
    6 _ ⟨0, .emp, K0, rfl, Nat.zero_le _, Nat.zero_le _, Nat.le_refl _, fun _ _ => rfl, Bld.emp, rfl⟩
  obtain ⟨r, hr, K, v, rfl, h1, h2, h3⟩ := hloop
  simp only [cast0] at hr
  exact ⟨K, v, hr, h1, h2, h3⟩
end

section
variable (L : List Node) (i : Nat) (x : Node) (hx : L[i]? = some x)
include hx

/-- The ways of one node. -/
theorem own26_ways (H : Heap) (O : AV) (K0 : Heap) (hH : H.length ≤ K0.length) :
    ∃ K v, execT tab (.loop F_law26_Own_l19) ⟨[(0, some (.vsl (L.map Node.av))), (3, some O), (4, some (.int .i64 i)), (6, some (.int .i64 0))], [(5, some [.bool x.stuck, .nilsl])], [(5, some (5, 0))], K0, H.length, H.length⟩ =
      some (.exit 2, ⟨[(0, some (.vsl (L.map Node.av))), (3, some O), (4, some (.int .i64 i)), (6, some (.int .i64 (min x.alts.length 6 : Nat))), (39, some (.bool false))], [(5, some [.bool x.stuck, v])], [(5, some (5, 0))], K, H.length, H.length⟩) ∧
      K0.length ≤ K.length ∧ (∀ b, b < K0.length → K[b]? = K0[b]?) ∧ Bld K0.length K 1 6 v ((ownNode x).alts.map wayAv) := by
  have hloop := loop_inv (F := tab) (b := F_law26_Own_l19)
    (fun n st => ∃ (a : Nat) (v : AV) (K : Heap), n = 6 - a ∧ a ≤ 6 ∧ a ≤ x.alts.length ∧ K0.length ≤ K.length ∧ (∀ b, b < K0.length → K[b]? = K0[b]?) ∧ Bld K0.length K 1 6 v (((x.alts.take a).map ownWay).map wayAv) ∧ v.plain = true ∧ v.cells = [v] ∧
      st = ⟨[(0, some (.vsl (L.map Node.av))), (3, some O), (4, some (.int .i64 i)), (6, some (.int .i64 a))], [(5, some [.bool x.stuck, v])], [(5, some (5, 0))], K, H.length, H.length⟩)
    (fun r => ∃ K v, r = (.exit 2, ⟨[(0, some (.vsl (L.map Node.av))), (3, some O), (4, some (.int .i64 i)), (6, some (.int .i64 (min x.alts.length 6 : Nat))), (39, some (.bool false))], [(5, some [.bool x.stuck, v])], [(5, some (5, 0))], K, H.length, H.length⟩) ∧
      K0.length ≤ K.length ∧ (∀ b, b < K0.length → K[b]? = K0[b]?) ∧ Bld K0.length K 1 6 v ((ownNode x).alts.map wayAv))
    (by
      rintro n st ⟨a, v, K, rfl, h6, hal, hK, hpre, hB, hpl, hcl, rfl⟩
      rcases Nat.lt_or_ge a x.alts.length with hlt | hge
      · rcases Nat.lt_or_ge a 6 with h6' | h6'
        · right
          obtain ⟨w, hw⟩ : ∃ w, x.alts[a]? = some w := ⟨_, List.getElem?_eq_getElem hlt⟩
          have h6i : ((a : Nat) : Int) < 6 := by omega
          have ha' := wi (show a < 4611686018427387904 by omega)
          have hlo1 : H.length ≤ K.length := Nat.le_trans hH hK
          obtain ⟨K1, w7, hin, hK1, hpre1, hB7⟩ := own26_terms L i a x w hx hw H O v K hlo1
          have hBv : Bld K0.length K1 1 6 v (((x.alts.take a).map ownWay).map wayAv) := hB.ext hpre1
          have hyv : frzV K1 K.length true 6 w7 = some (wayAv (ownWay w)) := hB7.view (by decide) true
          have hal' : (((x.alts.take a).map ownWay).map wayAv).length = a := by simp; omega
          have hbel : ∀ b g o l, v = .ref b g o l → b < K.length := hB.below (n1 := 0)
          obtain ⟨v', K', happ, hB', hpre', hK'⟩ := hBv.append (Nat.le_trans hK hK1) (n1 := K.length) hK hbel hyv (bytes := 24) (z := 1) (by rw [hal']; unfold maxBytes; omega) (by rw [hal']; unfold maxBytes; omega)
          have hw7 : w7.cells = [w7] ∧ w7.plain = true := by
            rcases hB7 with ⟨_, rfl | rfl⟩ | ⟨b, g, es, rfl, _⟩ <;> exact ⟨rfl, rfl⟩
          have hv' : v'.cells = [v'] ∧ v'.plain = true := by
            rcases hB' with ⟨_, rfl | rfl⟩ | ⟨b, g, es, rfl, _⟩ <;> exact ⟨rfl, rfl⟩
          refine ⟨6 - (a + 1), ⟨[(0, some (.vsl (L.map Node.av))), (3, some O), (4, some (.int .i64 i)), (6, some (.int .i64 (a + 1 : Nat)))], [(5, some [.bool x.stuck, v'])], [(5, some (5, 0))], K', H.length, H.length⟩, by omega, ?_, a + 1, v', K', rfl, by omega, hlt, hK', fun b hb => ?_, ?_, hv'.2, hv'.1, rfl⟩
          · have hlo2 : H.length ≤ K1.length := Nat.le_trans hlo1 hK1
            have e1 : min H.length K1.length = H.length := Nat.min_eq_left hlo2
            have happ' := fun e bx ad ba => happ e bx ad H.length ba hH
            simp only [go_sem, Nat.reduceEqDiff, Nat.reduceAdd, Nat.reduceMul, Nat.reduceLeDiff, Nat.reduceBEq, reduceCtorEq, ↓reduceIte, Int.reduceToNat, Int.reduceLE, Int.reduceLT, F_law26_Own_l19, F_law26_Own_r6, F_law26_Own_r7, F_law26_Own_r8, F_law26_Own_r17, F_law26_Own_r18, hx, hw, hlt, h6i, ha', Node.av, splice_def, hin, hw7.1, hw7.2, hv'.1, hv'.2, e1, happ', List.set, Nat.zero_lt_one, List.reduceReplicate]
          · rw [hpre' b hb, hpre1 b (by omega)]
            exact hpre b hb
          · rw [List.take_add_one, hw]
            simpa using hB'
        · left
          have : a = 6 := by omega
          subst this
          have hmn : min x.alts.length 6 = 6 := by omega
          refine ⟨_, ?_, ?_, K, v, rfl, hK, hpre, hB⟩
          · rw [hmn]
            simp only [go_sem, Nat.reduceEqDiff, Nat.reduceAdd, Nat.reduceMul, Nat.reduceLeDiff, Nat.reduceBEq, reduceCtorEq, ↓reduceIte, Int.reduceToNat, Int.reduceLE, Int.reduceLT, F_law26_Own_l19, F_law26_Own_r6, F_law26_Own_r7, F_law26_Own_r8, F_law26_Own_r17, F_law26_Own_r18, hx, hlt, Node.av, show ¬ (((6 : Nat) : Int) < 6) by decide]
          · simp
      · left
        have : a = x.alts.length := by omega
        subst this
        have hmn : min x.alts.length 6 = x.alts.length := by omega
        have htk : (ownNode x).alts = (x.alts.take x.alts.length).map ownWay := by unfold ownNode; rw [List.take_of_length_le h6, List.take_length]
        refine ⟨_, ?_, ?_, K, v, rfl, hK, hpre, by rw [htk]; exact hB⟩
        · rw [hmn]
          simp only [go_sem, Nat.reduceEqDiff, Nat.reduceAdd, Nat.reduceMul, Nat.reduceLeDiff, Nat.reduceBEq, reduceCtorEq, ↓reduceIte, Int.reduceToNat, Int.reduceLE, Int.reduceLT, F_law26_Own_l19, F_law26_Own_r6, F_law26_Own_r7, F_law26_Own_r8, F_law26_Own_r17, F_law26_Own_r18, hx, Nat.lt_irrefl, Node.av]
        · simp)
    6 _ ⟨0, .nilsl, K0, rfl, Nat.zero_le _, Nat.zero_le _, Nat.le_refl _, fun _ _ => rfl, Bld.nil, rfl, rfl, rfl⟩
  obtain ⟨r, hr, K, v, rfl, h1, h2, h3⟩ := hloop
  simp only [cast0] at hr
  exact ⟨K, v, hr, h1, h2, h3⟩
end

theorem c_law26_Own (L : List Node) (H : Heap) : runT tab n_law26_Own [.vsl (L.map Node.av)] H = some (.vsl ((ownGraph L).map Node.av), H, H.length) := by
  rw [x_fun tab_law26_Own _ (Nat.le_refl _)]
  have hloop := loop_inv (F := tab) (b := F_law26_Own_l22)
    (fun n st => ∃ (i : Nat) (v : AV) (K : Heap), n = 70 - i ∧ i ≤ 70 ∧ i ≤ L.length ∧ H.length ≤ K.length ∧ Bld H.length K 2 8 v (((L.take i).map ownNode).map Node.av) ∧
      st = ⟨[(0, some (.vsl (L.map Node.av))), (3, some v), (4, some (.int .i64 i))], [], [], K, H.length, H.length⟩)
    (fun r => ∃ K v, r = (.exit 0, ⟨[(0, some (.vsl (L.map Node.av))), (3, some v), (4, some (.int .i64 (min L.length 70 : Nat))), (19, some (.bool false))], [], [], K, H.length, H.length⟩) ∧
      Bld H.length K 2 8 v ((ownGraph L).map Node.av))
    (by
      rintro n st ⟨i, v, K, rfl, h70, hil, hK, hB, rfl⟩
      rcases Nat.lt_or_ge i L.length with hlt | hge
      · rcases Nat.lt_or_ge i 70 with h70' | h70'
        · right
          obtain ⟨x, hx⟩ : ∃ x, L[i]? = some x := ⟨_, List.getElem?_eq_getElem hlt⟩
          have h70i : ((i : Nat) : Int) < 70 := by omega
          have hi' := wi (show i < 4611686018427387904 by omega)
          obtain ⟨K1, v5, hin, hK1, hpre1, hB5⟩ := own26_ways L i x hx H v K hK
          have hBv : Bld H.length K1 2 8 v (((L.take i).map ownNode).map Node.av) := hB.ext hpre1
          have hyv : frzV K1 K.length true 8 (.agg [.bool x.stuck, v5]) = some (ownNode x).av := by
            have := hB5.view (m := 7) (by decide) true
            simp only [fz_agg, mapO_cons, fz_bool, this, bind_some', mapO_nil, Option.map_some]
            rfl
          have hal' : (((L.take i).map ownNode).map Node.av).length = i := by simp; omega
          have hbel : ∀ b g o l, v = .ref b g o l → b < K.length := hB.below (n1 := 0)
          obtain ⟨v', K', happ, hB', hpre', hK'⟩ := hBv.append (Nat.le_trans hK hK1) (n1 := K.length) hK hbel hyv (bytes := 32) (z := 2) (by rw [hal']; unfold maxBytes; omega) (by rw [hal']; unfold maxBytes; omega)
          refine ⟨70 - (i + 1), ⟨[(0, some (.vsl (L.map Node.av))), (3, some v'), (4, some (.int .i64 (i + 1 : Nat)))], [], [], K', H.length, H.length⟩, by omega, ?_, i + 1, v', K', rfl, by omega, hlt, hK', ?_, rfl⟩
          · have happ' := fun e bx ad ba => happ e bx ad H.length ba (Nat.le_refl _)
            simp only [go_sem, Nat.reduceEqDiff, Nat.reduceAdd, Nat.reduceMul, Nat.reduceLeDiff, Nat.reduceBEq, reduceCtorEq, ↓reduceIte, Int.reduceToNat, Int.reduceLE, Int.reduceLT, F_law26_Own_l22, F_law26_Own_r3, F_law26_Own_r4, F_law26_Own_r5, F_law26_Own_r20, F_law26_Own_r21, hx, hlt, h70i, hi', Node.av, splice_def, hin, happ', List.set, Nat.zero_lt_one, List.reduceReplicate]
          · rw [List.take_add_one, hx]
            simpa using hB'
        · left
          have : i = 70 := by omega
          subst this
          have hmn : min L.length 70 = 70 := by omega
          refine ⟨_, ?_, ?_, K, v, rfl, hB⟩
          · rw [hmn]
            simp only [go_sem, Nat.reduceEqDiff, Nat.reduceAdd, Nat.reduceMul, Nat.reduceLeDiff, Nat.reduceBEq, reduceCtorEq, ↓reduceIte, Int.reduceToNat, Int.reduceLE, Int.reduceLT, F_law26_Own_l22, F_law26_Own_r3, F_law26_Own_r4, F_law26_Own_r5, F_law26_Own_r20, F_law26_Own_r21, hlt, Node.av, show ¬ (((70 : Nat) : Int) < 70) by decide]
          · simp
      · left
        have : i = L.length := by omega
        subst this
        have hmn : min L.length 70 = L.length := by omega
        have htk : ownGraph L = (L.take L.length).map ownNode := by unfold ownGraph; rw [List.take_of_length_le h70, List.take_length]
        refine ⟨_, ?_, ?_, K, v, rfl, by rw [htk]; exact hB⟩
        · rw [hmn]
          simp only [go_sem, Nat.reduceEqDiff, Nat.reduceAdd, Nat.reduceMul, Nat.reduceLeDiff, Nat.reduceBEq, reduceCtorEq, ↓reduceIte, Int.reduceToNat, Int.reduceLE, Int.reduceLT, F_law26_Own_l22, F_law26_Own_r3, F_law26_Own_r4, F_law26_Own_r5, F_law26_Own_r20, F_law26_Own_r21, Nat.lt_irrefl, Node.av]
        · simp)
    70 _ ⟨0, .emp, H, rfl, Nat.zero_le _, Nat.zero_le _, Nat.le_refl _, Bld.emp, rfl⟩
  obtain ⟨r, hr, K, v, rfl, h3⟩ := hloop
  simp only [cast0] at hr
  have hv := h3.view (m := 9) (by decide) false
  simp only [go_sem, Nat.reduceEqDiff, Nat.reduceAdd, Nat.reduceMul, Nat.reduceLeDiff, Nat.reduceBEq, reduceCtorEq, ↓reduceIte, Int.reduceToNat, Int.reduceLE, Int.reduceLT, F_law26_Own, F_law26_Own_r0, F_law26_Own_r1, F_law26_Own_r2, F_law26_Own_r23, hr, hv]
end Go.AI

