/- The package report: what is wrong with a report. -/
import Derived.Test.YtkpbgdihnapbaaaDoorBits
import Derived.Test.YtkpbgdihnapbaaaDoorAiC
set_option linter.unusedVariables false
set_option linter.unusedSimpArgs false
namespace Go.AI
open Go Go.Proofs

def units (n : Int) : Bool := decide (1 ≤ n) && decide (n ≤ 1000)
theorem c_report_units (n : Int) (H : Heap) : runT tab n_report_units [.int .i64 n] H = some (.bool (units n), H, H.length) := by
  rw [x_fun tab_report_units _ (Nat.le_refl _)]
  by_cases h1 : 1 ≤ n
  · simp only [go_sem, Nat.reduceEqDiff, Nat.reduceAdd, Nat.reduceMul, Nat.reduceLeDiff, Nat.reduceBEq, reduceCtorEq, ↓reduceIte, Int.reduceToNat, Int.reduceLE, Int.reduceLT, F_report_units, F_report_units_r0, F_report_units_r1, h1]
    simp [units, h1]
  · simp only [go_sem, Nat.reduceEqDiff, Nat.reduceAdd, Nat.reduceMul, Nat.reduceLeDiff, Nat.reduceBEq, reduceCtorEq, ↓reduceIte, Int.reduceToNat, Int.reduceLE, Int.reduceLT, F_report_units, F_report_units_r0, F_report_units_r1, h1]
    simp [units, h1]

def termF (p : Int × Int) (s : Share) : Sum (Int × Int) Int :=
  if s.t ≤ p.1 ∨ 64 ≤ s.t then .inr 2 else .inl (s.t, if units s.n then p.2 else 1)
def termE (m : Term) : Int :=
  if units m.k then (match foldE termF (-1, 0) m.src with
    | .inl p => p.2
    | .inr q => q) else 1

theorem c_report_term (m : Term) (hm : m.small) (H : Heap) : runT tab n_report_term [m.av] H = some (.int .i64 (termE m), H, H.length) := by
  rw [x_fun tab_report_term _ (Nat.le_refl _)]
  unfold Term.av
  cases hu : units m.k with
  | false =>
    simp only [go_sem, Nat.reduceEqDiff, Nat.reduceAdd, Nat.reduceMul, Nat.reduceLeDiff, Nat.reduceBEq, reduceCtorEq, ↓reduceIte, Int.reduceToNat, Int.reduceLE, Int.reduceLT, F_report_term, F_report_term_r0, F_report_term_r1, F_report_term_r2, F_report_term_r3, F_report_term_r4, F_report_term_r14, c_report_units, hu]
    simp [termE, hu]
  | true =>
    have hloop := loop_foldE (F := tab) (b := F_report_term_l13) m.src
      (fun i (p : Int × Int) => ⟨[(3, some (.int .i64 p.1)), (4, some (.int .i64 p.2)), (12, some (.vsl (m.src.map Share.av))), (13, some (.int .i64 m.src.length)), (14, some (.int .i64 i))], [], [], H, H.length, H.length⟩)
      termF
      (fun p => (.exit 0, ⟨[(3, some (.int .i64 p.1)), (4, some (.int .i64 p.2)), (12, some (.vsl (m.src.map Share.av))), (13, some (.int .i64 m.src.length)), (14, some (.int .i64 m.src.length)), (15, some (.bool false))], [], [], H, H.length, H.length⟩))
      (fun q => (.ret, ⟨[(2, some (.int .i64 q))], [], [], H, H.length, H.length⟩))
      (fun i p x hx hi => by
        have hw := wi (big_lt hm hi)
        by_cases h1 : x.t ≤ p.1
        · simp only [go_sem, Nat.reduceEqDiff, Nat.reduceAdd, Nat.reduceMul, Nat.reduceLeDiff, Nat.reduceBEq, reduceCtorEq, ↓reduceIte, Int.reduceToNat, Int.reduceLE, Int.reduceLT, F_report_term_l13, F_report_term_r5, F_report_term_r6, F_report_term_r7, F_report_term_r8, F_report_term_r9, F_report_term_r10, F_report_term_r11, F_report_term_r12, hx, hi, h1, Share.av, termF, splice_def]
        · by_cases h2 : 64 ≤ x.t
          · simp only [go_sem, Nat.reduceEqDiff, Nat.reduceAdd, Nat.reduceMul, Nat.reduceLeDiff, Nat.reduceBEq, reduceCtorEq, ↓reduceIte, Int.reduceToNat, Int.reduceLE, Int.reduceLT, F_report_term_l13, F_report_term_r5, F_report_term_r6, F_report_term_r7, F_report_term_r8, F_report_term_r9, F_report_term_r10, F_report_term_r11, F_report_term_r12, hx, hi, h1, h2, Share.av, termF, splice_def]
          · cases h3 : units x.n with
            | true => simp only [go_sem, Nat.reduceEqDiff, Nat.reduceAdd, Nat.reduceMul, Nat.reduceLeDiff, Nat.reduceBEq, reduceCtorEq, ↓reduceIte, Int.reduceToNat, Int.reduceLE, Int.reduceLT, F_report_term_l13, F_report_term_r5, F_report_term_r6, F_report_term_r7, F_report_term_r8, F_report_term_r9, F_report_term_r10, F_report_term_r11, F_report_term_r12, hx, hi, h1, h2, h3, Share.av, termF, splice_def, c_report_units, hw]
            | false => simp only [go_sem, Nat.reduceEqDiff, Nat.reduceAdd, Nat.reduceMul, Nat.reduceLeDiff, Nat.reduceBEq, reduceCtorEq, ↓reduceIte, Int.reduceToNat, Int.reduceLE, Int.reduceLT, F_report_term_l13, F_report_term_r5, F_report_term_r6, F_report_term_r7, F_report_term_r8, F_report_term_r9, F_report_term_r10, F_report_term_r11, F_report_term_r12, hx, hi, h1, h2, h3, Share.av, termF, splice_def, c_report_units, hw])
      (fun p => by simp only [go_sem, Nat.reduceEqDiff, Nat.reduceAdd, Nat.reduceMul, Nat.reduceLeDiff, Nat.reduceBEq, reduceCtorEq, ↓reduceIte, Int.reduceToNat, Int.reduceLE, Int.reduceLT, F_report_term_l13, F_report_term_r5, F_report_term_r6, F_report_term_r7, F_report_term_r8, F_report_term_r9, F_report_term_r10, F_report_term_r11, F_report_term_r12, Nat.lt_irrefl])
      (fun p => by simp) (fun q => by simp) (-1, 0)
    simp only [cast0] at hloop
    cases hf : foldE termF (-1, 0) m.src with
    | inl p =>
      rw [hf] at hloop
      simp only [go_sem, Nat.reduceEqDiff, Nat.reduceAdd, Nat.reduceMul, Nat.reduceLeDiff, Nat.reduceBEq, reduceCtorEq, ↓reduceIte, Int.reduceToNat, Int.reduceLE, Int.reduceLT, F_report_term, F_report_term_r0, F_report_term_r1, F_report_term_r2, F_report_term_r3, F_report_term_r4, F_report_term_r14, c_report_units, hu, hloop, hf]
      simp [termE, hu, hf]
    | inr q =>
      rw [hf] at hloop
      simp only [go_sem, Nat.reduceEqDiff, Nat.reduceAdd, Nat.reduceMul, Nat.reduceLeDiff, Nat.reduceBEq, reduceCtorEq, ↓reduceIte, Int.reduceToNat, Int.reduceLE, Int.reduceLT, F_report_term, F_report_term_r0, F_report_term_r1, F_report_term_r2, F_report_term_r3, F_report_term_r4, F_report_term_r14, c_report_units, hu, hloop, hf]
      simp [termE, hu, hf]

def wayF (_ : Unit) (m : Term) : Sum Unit Int := if termE m = 0 then .inl () else .inr (termE m)
def altF (_ : Unit) (w : List Term) : Sum Unit Int := if 256 < w.length then .inr 4 else foldE wayF () w
def nodeE (x : Node) : Int :=
  if x.stuck then (if 4 < x.alts.length then 4 else match foldE altF () x.alts with
    | .inl _ => 0
    | .inr q => q) else 2

theorem report_node_way (w : List Term) (hw : waySmall w) (A N I : AV) (H : Heap) : execT tab (.loop F_report_node_l17) ⟨[(16, some A), (17, some N), (18, some I), (25, some (wayAv w)), (26, some (.int .i64 w.length)), (27, some (.int .i64 0))], [], [], H, H.length, H.length⟩ =
    some (Sum.elim
      (fun _ => (.exit 2, ⟨[(16, some A), (17, some N), (18, some I), (25, some (wayAv w)), (26, some (.int .i64 w.length)), (27, some (.int .i64 w.length)), (28, some (.bool false))], [], [], H, H.length, H.length⟩))
      (fun q => (.ret, ⟨[(2, some (.int .i64 q))], [], [], H, H.length, H.length⟩)) (foldE wayF () w)) := by
  have hloop := loop_foldE (F := tab) (b := F_report_node_l17) w
      (fun i (_ : Unit) => ⟨[(16, some A), (17, some N), (18, some I), (25, some (wayAv w)), (26, some (.int .i64 w.length)), (27, some (.int .i64 i))], [], [], H, H.length, H.length⟩)
      wayF
      (fun _ => (.exit 2, ⟨[(16, some A), (17, some N), (18, some I), (25, some (wayAv w)), (26, some (.int .i64 w.length)), (27, some (.int .i64 w.length)), (28, some (.bool false))], [], [], H, H.length, H.length⟩))
      (fun q => (.ret, ⟨[(2, some (.int .i64 q))], [], [], H, H.length, H.length⟩))
      (fun i p x hx hi => by
        have hi' := wi (big_lt hw.1 hi)
        have hc := c_report_term x (hw.2 x (mem_of_get hx)) H
        simp only [Term.av] at hc
        by_cases h1 : termE x = 0
        · simp only [go_sem, Nat.reduceEqDiff, Nat.reduceAdd, Nat.reduceMul, Nat.reduceLeDiff, Nat.reduceBEq, reduceCtorEq, ↓reduceIte, Int.reduceToNat, Int.reduceLE, Int.reduceLT, F_report_node_l17, F_report_node_r11, F_report_node_r12, F_report_node_r13, F_report_node_r14, F_report_node_r15, F_report_node_r16, hx, hi, h1, wayAv, Term.av, wayF, splice_def, hc, hi']
        · simp only [go_sem, Nat.reduceEqDiff, Nat.reduceAdd, Nat.reduceMul, Nat.reduceLeDiff, Nat.reduceBEq, reduceCtorEq, ↓reduceIte, Int.reduceToNat, Int.reduceLE, Int.reduceLT, F_report_node_l17, F_report_node_r11, F_report_node_r12, F_report_node_r13, F_report_node_r14, F_report_node_r15, F_report_node_r16, hx, hi, h1, wayAv, Term.av, wayF, splice_def, hc, hi'])
      (fun p => by simp only [go_sem, Nat.reduceEqDiff, Nat.reduceAdd, Nat.reduceMul, Nat.reduceLeDiff, Nat.reduceBEq, reduceCtorEq, ↓reduceIte, Int.reduceToNat, Int.reduceLE, Int.reduceLT, F_report_node_l17, F_report_node_r11, F_report_node_r12, F_report_node_r13, F_report_node_r14, F_report_node_r15, F_report_node_r16, Nat.lt_irrefl])
      (fun p => by simp) (fun q => by simp) ()
  simp only [cast0] at hloop
  exact hloop

theorem c_report_node (x : Node) (hx : x.small) (H : Heap) : runT tab n_report_node [x.av] H = some (.int .i64 (nodeE x), H, H.length) := by
  rw [x_fun tab_report_node _ (Nat.le_refl _)]
  unfold Node.av
  cases hs : x.stuck with
  | false =>
    simp only [go_sem, Nat.reduceEqDiff, Nat.reduceAdd, Nat.reduceMul, Nat.reduceLeDiff, Nat.reduceBEq, reduceCtorEq, ↓reduceIte, Int.reduceToNat, Int.reduceLE, Int.reduceLT, F_report_node, F_report_node_r0, F_report_node_r1, F_report_node_r2, F_report_node_r3, F_report_node_r4, F_report_node_r5, F_report_node_r20]
    simp [nodeE, hs]
  | true =>
    by_cases h4 : 4 < x.alts.length
    · have h4' : (4 : Int) < x.alts.length := by omega
      simp only [go_sem, Nat.reduceEqDiff, Nat.reduceAdd, Nat.reduceMul, Nat.reduceLeDiff, Nat.reduceBEq, reduceCtorEq, ↓reduceIte, Int.reduceToNat, Int.reduceLE, Int.reduceLT, F_report_node, F_report_node_r0, F_report_node_r1, F_report_node_r2, F_report_node_r3, F_report_node_r4, F_report_node_r5, F_report_node_r20, h4']
      simp [nodeE, hs, h4]
    · have h4' : ¬ (4 : Int) < x.alts.length := by omega
      have hloop := loop_foldE (F := tab) (b := F_report_node_l19) x.alts
        (fun i (_ : Unit) => ⟨[(16, some (.vsl (x.alts.map wayAv))), (17, some (.int .i64 x.alts.length)), (18, some (.int .i64 i))], [], [], H, H.length, H.length⟩)
        altF
        (fun _ => (.exit 0, ⟨[(16, some (.vsl (x.alts.map wayAv))), (17, some (.int .i64 x.alts.length)), (18, some (.int .i64 x.alts.length)), (19, some (.bool false))], [], [], H, H.length, H.length⟩))
        (fun q => (.ret, ⟨[(2, some (.int .i64 q))], [], [], H, H.length, H.length⟩))
        (fun i p w hw hi => by
          have hi' := wi (big_lt hx.1 hi)
          have hin := report_node_way w (hx.2 w (mem_of_get hw))
          simp only [wayAv] at hin
          by_cases h1 : 256 < w.length
          · have h1' : (256 : Int) < w.length := by omega
            simp only [go_sem, Nat.reduceEqDiff, Nat.reduceAdd, Nat.reduceMul, Nat.reduceLeDiff, Nat.reduceBEq, reduceCtorEq, ↓reduceIte, Int.reduceToNat, Int.reduceLE, Int.reduceLT, F_report_node_l19, F_report_node_r6, F_report_node_r7, F_report_node_r8, F_report_node_r9, F_report_node_r10, F_report_node_r18, hw, hi, h1, h1', wayAv, altF]
          · have h1' : ¬ (256 : Int) < w.length := by omega
            cases hf : foldE wayF () w with
            | inl u =>
              simp only [hf] at hin
              simp only [go_sem, Nat.reduceEqDiff, Nat.reduceAdd, Nat.reduceMul, Nat.reduceLeDiff, Nat.reduceBEq, reduceCtorEq, ↓reduceIte, Int.reduceToNat, Int.reduceLE, Int.reduceLT, F_report_node_l19, F_report_node_r6, F_report_node_r7, F_report_node_r8, F_report_node_r9, F_report_node_r10, F_report_node_r18, hw, hi, h1, h1', wayAv, altF, hin, hf, hi']
            | inr q =>
              simp only [hf] at hin
              simp only [go_sem, Nat.reduceEqDiff, Nat.reduceAdd, Nat.reduceMul, Nat.reduceLeDiff, Nat.reduceBEq, reduceCtorEq, ↓reduceIte, Int.reduceToNat, Int.reduceLE, Int.reduceLT, F_report_node_l19, F_report_node_r6, F_report_node_r7, F_report_node_r8, F_report_node_r9, F_report_node_r10, F_report_node_r18, hw, hi, h1, h1', wayAv, altF, hin, hf, hi'])
        (fun p => by simp only [go_sem, Nat.reduceEqDiff, Nat.reduceAdd, Nat.reduceMul, Nat.reduceLeDiff, Nat.reduceBEq, reduceCtorEq, ↓reduceIte, Int.reduceToNat, Int.reduceLE, Int.reduceLT, F_report_node_l19, F_report_node_r6, F_report_node_r7, F_report_node_r8, F_report_node_r9, F_report_node_r10, F_report_node_r18, Nat.lt_irrefl])
        (fun p => by simp) (fun q => by simp) ()
      simp only [cast0] at hloop
      cases hf : foldE altF () x.alts with
      | inl p =>
        rw [hf] at hloop
        simp only [go_sem, Nat.reduceEqDiff, Nat.reduceAdd, Nat.reduceMul, Nat.reduceLeDiff, Nat.reduceBEq, reduceCtorEq, ↓reduceIte, Int.reduceToNat, Int.reduceLE, Int.reduceLT, F_report_node, F_report_node_r0, F_report_node_r1, F_report_node_r2, F_report_node_r3, F_report_node_r4, F_report_node_r5, F_report_node_r20, h4', hloop]
        simp [nodeE, hs, h4, hf]
      | inr q =>
        rw [hf] at hloop
        simp only [go_sem, Nat.reduceEqDiff, Nat.reduceAdd, Nat.reduceMul, Nat.reduceLeDiff, Nat.reduceBEq, reduceCtorEq, ↓reduceIte, Int.reduceToNat, Int.reduceLE, Int.reduceLT, F_report_node, F_report_node_r0, F_report_node_r1, F_report_node_r2, F_report_node_r3, F_report_node_r4, F_report_node_r5, F_report_node_r20, h4', hloop]
        simp [nodeE, hs, h4, hf]

def deadF (last t : Int) : Sum Int Int := if t ≤ last ∨ 64 ≤ t then .inr 2 else .inl t
def nodesF (_ : Unit) (x : Node) : Sum Unit Int := if nodeE x = 0 then .inl () else .inr (nodeE x)
def checkE (r : Report) : Int :=
  if r.time < 0 ∨ 1073741824 < r.time then 1 else
  if r.dead.length ≠ r.nodes.length then 2 else
  match foldE deadF (-1) r.dead with
  | .inr q => q
  | .inl _ => match foldE nodesF () r.nodes with
    | .inr q => q
    | .inl _ => 0

theorem c_report_Check (r : Report) (hr : r.small) (H : Heap) : runT tab n_report_Check [r.av] H = some (.int .i64 (checkE r), H, H.length) := by
  rw [x_fun tab_report_Check _ (Nat.le_refl _)]
  unfold Report.av
  by_cases ht : r.time < 0
  · simp only [go_sem, Nat.reduceEqDiff, Nat.reduceAdd, Nat.reduceMul, Nat.reduceLeDiff, Nat.reduceBEq, reduceCtorEq, ↓reduceIte, Int.reduceToNat, Int.reduceLE, Int.reduceLT, F_report_Check, F_report_Check_r0, F_report_Check_r1, F_report_Check_r2, F_report_Check_r3, F_report_Check_r4, F_report_Check_r5, F_report_Check_r6, F_report_Check_r14, F_report_Check_r22, ht]
    simp [checkE, ht]
  by_cases ht' : 1073741824 < r.time
  · simp only [go_sem, Nat.reduceEqDiff, Nat.reduceAdd, Nat.reduceMul, Nat.reduceLeDiff, Nat.reduceBEq, reduceCtorEq, ↓reduceIte, Int.reduceToNat, Int.reduceLE, Int.reduceLT, F_report_Check, F_report_Check_r0, F_report_Check_r1, F_report_Check_r2, F_report_Check_r3, F_report_Check_r4, F_report_Check_r5, F_report_Check_r6, F_report_Check_r14, F_report_Check_r22, ht, ht']
    simp [checkE, ht']
  by_cases hl : r.dead.length = r.nodes.length
  case neg =>
    have hl' : ¬ ((r.dead.length : Int) = r.nodes.length) := by omega
    simp only [go_sem, Nat.reduceEqDiff, Nat.reduceAdd, Nat.reduceMul, Nat.reduceLeDiff, Nat.reduceBEq, reduceCtorEq, ↓reduceIte, Int.reduceToNat, Int.reduceLE, Int.reduceLT, F_report_Check, F_report_Check_r0, F_report_Check_r1, F_report_Check_r2, F_report_Check_r3, F_report_Check_r4, F_report_Check_r5, F_report_Check_r6, F_report_Check_r14, F_report_Check_r22, ht, ht', hl']
    simp [checkE, ht, ht', hl]
  have hl' : decide ((r.dead.length : Int) = r.nodes.length) = true := by simp [hl]
  have h1 := loop_foldE (F := tab) (b := F_report_Check_l13) r.dead
    (fun i (last : Int) => ⟨[(3, some (.int .i64 last)), (25, some (.vsl (r.dead.map (.int .i64)))), (26, some (.int .i64 r.dead.length)), (27, some (.int .i64 i))], [(1, some [.int .i64 r.time, .vsl (r.dead.map (.int .i64)), .vsl (r.nodes.map Node.av)])], [(1, some (1, 0))], H, H.length, H.length⟩)
    deadF
    (fun last => (.exit 0, ⟨[(3, some (.int .i64 last)), (25, some (.vsl (r.dead.map (.int .i64)))), (26, some (.int .i64 r.dead.length)), (27, some (.int .i64 r.dead.length)), (28, some (.bool false))], [(1, some [.int .i64 r.time, .vsl (r.dead.map (.int .i64)), .vsl (r.nodes.map Node.av)])], [(1, some (1, 0))], H, H.length, H.length⟩))
    (fun q => (.ret, ⟨[(2, some (.int .i64 q))], [], [], H, H.length, H.length⟩))
    (fun i last t hx hi => by
      have hi' := wi (big_lt hr.1 hi)
      by_cases k1 : t ≤ last
      · simp only [go_sem, Nat.reduceEqDiff, Nat.reduceAdd, Nat.reduceMul, Nat.reduceLeDiff, Nat.reduceBEq, reduceCtorEq, ↓reduceIte, Int.reduceToNat, Int.reduceLE, Int.reduceLT, F_report_Check_l13, F_report_Check_r7, F_report_Check_r8, F_report_Check_r9, F_report_Check_r10, F_report_Check_r11, F_report_Check_r12, hx, hi, k1, deadF]
      · by_cases k2 : 64 ≤ t
        · simp only [go_sem, Nat.reduceEqDiff, Nat.reduceAdd, Nat.reduceMul, Nat.reduceLeDiff, Nat.reduceBEq, reduceCtorEq, ↓reduceIte, Int.reduceToNat, Int.reduceLE, Int.reduceLT, F_report_Check_l13, F_report_Check_r7, F_report_Check_r8, F_report_Check_r9, F_report_Check_r10, F_report_Check_r11, F_report_Check_r12, hx, hi, k1, k2, deadF]
        · simp only [go_sem, Nat.reduceEqDiff, Nat.reduceAdd, Nat.reduceMul, Nat.reduceLeDiff, Nat.reduceBEq, reduceCtorEq, ↓reduceIte, Int.reduceToNat, Int.reduceLE, Int.reduceLT, F_report_Check_l13, F_report_Check_r7, F_report_Check_r8, F_report_Check_r9, F_report_Check_r10, F_report_Check_r11, F_report_Check_r12, hx, hi, k1, k2, deadF, hi'])
    (fun p => by simp only [go_sem, Nat.reduceEqDiff, Nat.reduceAdd, Nat.reduceMul, Nat.reduceLeDiff, Nat.reduceBEq, reduceCtorEq, ↓reduceIte, Int.reduceToNat, Int.reduceLE, Int.reduceLT, F_report_Check_l13, F_report_Check_r7, F_report_Check_r8, F_report_Check_r9, F_report_Check_r10, F_report_Check_r11, F_report_Check_r12, Nat.lt_irrefl])
    (fun p => by simp) (fun q => by simp) (-1)
  have h2 := loop_foldE (F := tab) (b := F_report_Check_l21) r.nodes
    (fun i (_ : Unit) => ⟨[(41, some (.vsl (r.nodes.map Node.av))), (42, some (.int .i64 r.nodes.length)), (43, some (.int .i64 i))], [], [], H, H.length, H.length⟩)
    nodesF
    (fun _ => (.exit 2, ⟨[(41, some (.vsl (r.nodes.map Node.av))), (42, some (.int .i64 r.nodes.length)), (43, some (.int .i64 r.nodes.length)), (44, some (.bool false))], [], [], H, H.length, H.length⟩))
    (fun q => (.ret, ⟨[(2, some (.int .i64 q))], [], [], H, H.length, H.length⟩))
    (fun i p x hx hi => by
      have hi' := wi (big_lt hr.2.1 hi)
      have hc := c_report_node x (hr.2.2 x (mem_of_get hx)) H
      simp only [Node.av] at hc
      by_cases h1 : nodeE x = 0
      · simp only [go_sem, Nat.reduceEqDiff, Nat.reduceAdd, Nat.reduceMul, Nat.reduceLeDiff, Nat.reduceBEq, reduceCtorEq, ↓reduceIte, Int.reduceToNat, Int.reduceLE, Int.reduceLT, F_report_Check_l21, F_report_Check_r15, F_report_Check_r16, F_report_Check_r17, F_report_Check_r18, F_report_Check_r19, F_report_Check_r20, hx, hi, h1, Node.av, nodesF, splice_def, hc, hi']
      · simp only [go_sem, Nat.reduceEqDiff, Nat.reduceAdd, Nat.reduceMul, Nat.reduceLeDiff, Nat.reduceBEq, reduceCtorEq, ↓reduceIte, Int.reduceToNat, Int.reduceLE, Int.reduceLT, F_report_Check_l21, F_report_Check_r15, F_report_Check_r16, F_report_Check_r17, F_report_Check_r18, F_report_Check_r19, F_report_Check_r20, hx, hi, h1, Node.av, nodesF, splice_def, hc, hi'])
    (fun p => by simp only [go_sem, Nat.reduceEqDiff, Nat.reduceAdd, Nat.reduceMul, Nat.reduceLeDiff, Nat.reduceBEq, reduceCtorEq, ↓reduceIte, Int.reduceToNat, Int.reduceLE, Int.reduceLT, F_report_Check_l21, F_report_Check_r15, F_report_Check_r16, F_report_Check_r17, F_report_Check_r18, F_report_Check_r19, F_report_Check_r20, Nat.lt_irrefl])
    (fun p => by simp) (fun q => by simp) ()
  simp only [cast0] at h1 h2
  cases hf : foldE deadF (-1) r.dead with
  | inr q =>
    rw [hf] at h1
    simp only [go_sem, Nat.reduceEqDiff, Nat.reduceAdd, Nat.reduceMul, Nat.reduceLeDiff, Nat.reduceBEq, reduceCtorEq, ↓reduceIte, Int.reduceToNat, Int.reduceLE, Int.reduceLT, F_report_Check, F_report_Check_r0, F_report_Check_r1, F_report_Check_r2, F_report_Check_r3, F_report_Check_r4, F_report_Check_r5, F_report_Check_r6, F_report_Check_r14, F_report_Check_r22, ht, ht', hl', h1]
    simp [checkE, ht, ht', hl, hf]
  | inl last =>
    rw [hf] at h1
    cases hg : foldE nodesF () r.nodes with
    | inr q =>
      rw [hg] at h2
      simp only [go_sem, Nat.reduceEqDiff, Nat.reduceAdd, Nat.reduceMul, Nat.reduceLeDiff, Nat.reduceBEq, reduceCtorEq, ↓reduceIte, Int.reduceToNat, Int.reduceLE, Int.reduceLT, F_report_Check, F_report_Check_r0, F_report_Check_r1, F_report_Check_r2, F_report_Check_r3, F_report_Check_r4, F_report_Check_r5, F_report_Check_r6, F_report_Check_r14, F_report_Check_r22, ht, ht', hl', h1, h2]
      simp [checkE, ht, ht', hl, hf, hg]
    | inl u =>
      rw [hg] at h2
      simp only [go_sem, Nat.reduceEqDiff, Nat.reduceAdd, Nat.reduceMul, Nat.reduceLeDiff, Nat.reduceBEq, reduceCtorEq, ↓reduceIte, Int.reduceToNat, Int.reduceLE, Int.reduceLT, F_report_Check, F_report_Check_r0, F_report_Check_r1, F_report_Check_r2, F_report_Check_r3, F_report_Check_r4, F_report_Check_r5, F_report_Check_r6, F_report_Check_r14, F_report_Check_r22, ht, ht', hl', h1, h2]
      simp [checkE, ht, ht', hl, hf, hg]
end Go.AI

