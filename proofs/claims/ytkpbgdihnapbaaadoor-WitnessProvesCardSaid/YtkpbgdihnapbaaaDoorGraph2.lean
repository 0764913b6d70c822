/- The package graph: who asks whom. -/
import Derived.Test.YtkpbgdihnapbaaaDoorGraph
import Derived.Test.YtkpbgdihnapbaaaDoorBits3
set_option linter.unusedVariables false
set_option linter.unusedSimpArgs false
namespace Go.AI
open Go Go.Proofs

abbrev Arr := {A : List (BitVec 64) // A.length = 64}
def uS (s : BitVec 64) : AV := .int .u64 (s.toNat : Int)
def Arr.upd (A : Arr) (i : Nat) (v : BitVec 64) : Arr := ⟨A.1.set i v, by rw [List.length_set]; exact A.2⟩
def Arr.av (A : Arr) : AV := .agg (A.1.map uS)
def Arr.at (A : Arr) (i : Nat) : BitVec 64 := A.1[i]?.getD 0#64
def zeroA : Arr := ⟨List.replicate 64 0#64, rfl⟩
theorem zeroA_av : Arr.av zeroA = .agg (List.replicate 64 (.int .u64 0)) := rfl

theorem splice_set {A : List (BitVec 64)} {i : Nat} {v : BitVec 64} (h : i < A.length) : splice (A.map uS) i [uS v] = (A.set i v).map uS := by
  have : i < (A.map uS).length := by simpa using h
  rw [splice_def, List.map_set, List.set_eq_take_append_cons_drop, if_pos (by simpa using h)]
  simp

def askS (n : Nat) (t : Int) (A : Arr) (s : Share) : Arr := if 0 ≤ s.t ∧ s.t < n then A.upd s.t.toNat (A.at s.t.toNat ||| one t) else A
def askT (n : Nat) (t : Int) (A : Arr) (m : Term) : Arr := m.src.foldl (askS n t) A
def askW (n : Nat) (t : Int) (A : Arr) (w : List Term) : Arr := w.foldl (askT n t) A
def askN (n : Nat) (t : Int) (A : Arr) (x : Node) : Arr := x.alts.foldl (askW n t) A

def heapA (H : Heap) (A : Arr) : Heap := H ++ [some (.row 64 0 [A.av])]
theorem heapA_row {H : Heap} {A : Arr} : (heapA H A).row H.length 0 = some (64, [A.av]) := row_last
theorem heapA_len {H : Heap} {A : Arr} : (heapA H A).length = H.length + 1 := by simp [heapA]
theorem heapA_store {H : Heap} {A : Arr} {i : Nat} {v : BitVec 64} (h : i < 64) : storeV (heapA H A) 1 (.ptr H.length 0 0 i) (uS v) = some (H.length, heapA H (A.upd i v)) := by
  have hs : splice (A.1.map uS) i [uS v] = (A.1.set i v).map uS := splice_set (by rw [A.2]; exact h)
  simp only [storeV, heapA_row]
  have h1 : (uS v).cells = [uS v] := rfl
  have h2 : (uS v).plain = true := rfl
  simp only [h1, h2, List.length_cons, List.length_nil, and_self, if_true, storeRow, List.getElem?_cons_zero, Arr.av, writeElem, List.length_map, A.2]
  rw [if_pos (by omega), hs]
  simp [heapA, Arr.upd, Arr.av]

/-- Whoever asks is a node. -/
def Arr.below (A : Arr) (n : Nat) : Prop := ∀ a ∈ A.1, ∀ j, a.getLsbD j = true → j < n

theorem below_askS {n : Nat} {t : Nat} (ht : t < n) {A : Arr} (h : A.below n) (s : Share) : (askS n t A s).below n := by
  unfold askS
  split
  · intro a ha j hj
    rcases List.mem_or_eq_of_mem_set ha with ha | rfl
    · exact h a ha j hj
    · rw [BitVec.getLsbD_or, Bool.or_eq_true] at hj
      rcases hj with hj | hj
      · unfold Arr.at at hj
        cases hx : A.1[s.t.toNat]? with
        | none => rw [hx] at hj; simp at hj
        | some x => rw [hx] at hj; exact h x (List.mem_of_getElem? hx) j hj
      · rw [one_bit] at hj
        simp only [Bool.and_eq_true, decide_eq_true_eq] at hj
        omega
  · exact h
theorem below_fold {α : Type} {n : Nat} {f : Arr → α → Arr} (hf : ∀ A x, A.below n → (f A x).below n) : ∀ (l : List α) (A : Arr), A.below n → (l.foldl f A).below n
  | [], A, h => h
  | x :: r, A, h => below_fold hf r (f A x) (hf A x h)
theorem below_askN {n t : Nat} (ht : t < n) {A : Arr} (h : A.below n) (x : Node) : (askN n t A x).below n :=
  below_fold (fun A w h => below_fold (fun A m h => below_fold (fun A s h => below_askS ht h s) _ _ h) _ _ h) _ _ h

section
variable (L : AV) (l : List Node) (hl : l.length ≤ 64) (hL : L = .vsl (l.map Node.av)) (H : Heap) (Z : List AV)
include hl hL

theorem asks_share (t : Nat) (P J N2 : AV) (W K N3 : AV) (m : Term) (hm : m.small) (A : Arr) (J2 : AV) :
    execT tab (.loop F_graph_asks_l17) ⟨[(0, some L), (3, some (.ptr H.length 0 0 0)), (4, some (.int .i64 t)), (12, some L), (13, some (.int .i64 l.length)), (14, some (.int .i64 t)), (20, some P), (21, some N2), (22, some J), (26, some W), (27, some N3), (28, some K), (33, some (.vsl (m.src.map Share.av))), (34, some (.int .i64 m.src.length)), (35, some (.int .i64 0))], [(2, some Z)], [(2, some (2, 0))], heapA H A, H.length, H.length⟩ =
    some (.exit 6, ⟨[(0, some L), (3, some (.ptr H.length 0 0 0)), (4, some (.int .i64 t)), (12, some L), (13, some (.int .i64 l.length)), (14, some (.int .i64 t)), (20, some P), (21, some N2), (22, some J), (26, some W), (27, some N3), (28, some K), (33, some (.vsl (m.src.map Share.av))), (34, some (.int .i64 m.src.length)), (35, some (.int .i64 m.src.length)), (36, some (.bool false))], [(2, some Z)], [(2, some (2, 0))], heapA H (askT l.length t A m), H.length, H.length⟩) := by
  subst hL
  have hloop := loop_fold (F := tab) (b := F_graph_asks_l17) m.src
    (fun i (A : Arr) => ⟨[(0, some (.vsl (l.map Node.av))), (3, some (.ptr H.length 0 0 0)), (4, some (.int .i64 t)), (12, some (.vsl (l.map Node.av))), (13, some (.int .i64 l.length)), (14, some (.int .i64 t)), (20, some P), (21, some N2), (22, some J), (26, some W), (27, some N3), (28, some K), (33, some (.vsl (m.src.map Share.av))), (34, some (.int .i64 m.src.length)), (35, some (.int .i64 i))], [(2, some Z)], [(2, some (2, 0))], heapA H A, H.length, H.length⟩)
    (askS l.length t) (.exit 6) (by decide)
    (fun A => ⟨[(0, some (.vsl (l.map Node.av))), (3, some (.ptr H.length 0 0 0)), (4, some (.int .i64 t)), (12, some (.vsl (l.map Node.av))), (13, some (.int .i64 l.length)), (14, some (.int .i64 t)), (20, some P), (21, some N2), (22, some J), (26, some W), (27, some N3), (28, some K), (33, some (.vsl (m.src.map Share.av))), (34, some (.int .i64 m.src.length)), (35, some (.int .i64 m.src.length)), (36, some (.bool false))], [(2, some Z)], [(2, some (2, 0))], heapA H A, H.length, H.length⟩)
    (fun i A x hx hi => by
      have hi' := wi (big_lt hm hi)
      have h1 : H.length ≤ H.length + 1 := Nat.le_succ _
      have hm1 : min H.length (H.length + 1) = H.length := Nat.min_eq_left h1
      have hm2 : min (H.length + 1) H.length = H.length := Nat.min_eq_right h1
      by_cases h0 : 0 ≤ x.t
      · by_cases hn : x.t < l.length
        · have h64 : x.t < ((64 : Nat) : Int) := by omega
          have h64n : x.t.toNat < 64 := by omega
          have hat : (A.1.map uS)[x.t.toNat]? = some (.int .u64 (A.at x.t.toNat).toNat) := by
            rw [List.getElem?_map]
            unfold Arr.at
            rw [List.getElem?_eq_getElem (by rw [A.2]; exact h64n)]
            rfl
          have hst := heapA_store (H := H) (A := A) (i := x.t.toNat) (v := A.at x.t.toNat ||| one t) h64n
          unfold uS at hst
          have hat' : (A.1.map fun s => AV.int .u64 (s.toNat : Int))[x.t.toNat]? = some (.int .u64 (A.at x.t.toNat).toNat) := hat
          have hav : ∀ A : Arr, A.av.cells = A.1.map uS := fun _ => rfl
          have hcond : 0 ≤ x.t ∧ x.t < l.length := ⟨h0, hn⟩
          simp only [go_sem, Nat.reduceEqDiff, Nat.reduceAdd, Nat.reduceMul, Nat.reduceLeDiff, Nat.reduceBEq, reduceCtorEq, ↓reduceIte, Int.reduceToNat, Int.reduceLE, Int.reduceLT, F_graph_asks_l17, F_graph_asks_r12, F_graph_asks_r13, F_graph_asks_r14, F_graph_asks_d15, F_graph_asks_r16, hx, hi, hi', Share.av, splice_def, h0, hn, h64, heapA_row, hav, hat, Nat.mul_one, c_bits_With, hst, heapA_len, hm1, hm2, askS, h1]
        · simp only [go_sem, Nat.reduceEqDiff, Nat.reduceAdd, Nat.reduceMul, Nat.reduceLeDiff, Nat.reduceBEq, reduceCtorEq, ↓reduceIte, Int.reduceToNat, Int.reduceLE, Int.reduceLT, F_graph_asks_l17, F_graph_asks_r12, F_graph_asks_r13, F_graph_asks_r14, F_graph_asks_d15, F_graph_asks_r16, hx, hi, hi', Share.av, splice_def, h0, hn, askS]
      · simp only [go_sem, Nat.reduceEqDiff, Nat.reduceAdd, Nat.reduceMul, Nat.reduceLeDiff, Nat.reduceBEq, reduceCtorEq, ↓reduceIte, Int.reduceToNat, Int.reduceLE, Int.reduceLT, F_graph_asks_l17, F_graph_asks_r12, F_graph_asks_r13, F_graph_asks_r14, F_graph_asks_d15, F_graph_asks_r16, hx, hi, hi', Share.av, splice_def, h0, askS])
    (fun A => by simp only [go_sem, Nat.reduceEqDiff, Nat.reduceAdd, Nat.reduceMul, Nat.reduceLeDiff, Nat.reduceBEq, reduceCtorEq, ↓reduceIte, Int.reduceToNat, Int.reduceLE, Int.reduceLT, F_graph_asks_l17, F_graph_asks_r12, F_graph_asks_r13, F_graph_asks_r14, F_graph_asks_d15, F_graph_asks_r16, Nat.lt_irrefl]) A
  simp only [cast0] at hloop
  exact hloop

theorem asks_way (t : Nat) (P J N2 : AV) (w : List Term) (hw : waySmall w) (A : Arr) :
    execT tab (.loop F_graph_asks_l19) ⟨[(0, some L), (3, some (.ptr H.length 0 0 0)), (4, some (.int .i64 t)), (12, some L), (13, some (.int .i64 l.length)), (14, some (.int .i64 t)), (20, some P), (21, some N2), (22, some J), (26, some (wayAv w)), (27, some (.int .i64 w.length)), (28, some (.int .i64 0))], [(2, some Z)], [(2, some (2, 0))], heapA H A, H.length, H.length⟩ =
    some (.exit 4, ⟨[(0, some L), (3, some (.ptr H.length 0 0 0)), (4, some (.int .i64 t)), (12, some L), (13, some (.int .i64 l.length)), (14, some (.int .i64 t)), (20, some P), (21, some N2), (22, some J), (26, some (wayAv w)), (27, some (.int .i64 w.length)), (28, some (.int .i64 w.length)), (29, some (.bool false))], [(2, some Z)], [(2, some (2, 0))], heapA H (askW l.length t A w), H.length, H.length⟩) := by
  have hloop := loop_fold (F := tab) (b := F_graph_asks_l19) w
    (fun i (A : Arr) => ⟨[(0, some L), (3, some (.ptr H.length 0 0 0)), (4, some (.int .i64 t)), (12, some L), (13, some (.int .i64 l.length)), (14, some (.int .i64 t)), (20, some P), (21, some N2), (22, some J), (26, some (wayAv w)), (27, some (.int .i64 w.length)), (28, some (.int .i64 i))], [(2, some Z)], [(2, some (2, 0))], heapA H A, H.length, H.length⟩)
    (askT l.length t) (.exit 4) (by decide)
    (fun A => ⟨[(0, some L), (3, some (.ptr H.length 0 0 0)), (4, some (.int .i64 t)), (12, some L), (13, some (.int .i64 l.length)), (14, some (.int .i64 t)), (20, some P), (21, some N2), (22, some J), (26, some (wayAv w)), (27, some (.int .i64 w.length)), (28, some (.int .i64 w.length)), (29, some (.bool false))], [(2, some Z)], [(2, some (2, 0))], heapA H A, H.length, H.length⟩)
    (fun i A x hx hi => by
      have hi' := wi (big_lt hw.1 hi)
      have hin := asks_share L l hl hL H Z t P J N2 (wayAv w) (.int .i64 i) (.int .i64 w.length) x (hw.2 x (mem_of_get hx)) A J
      unfold wayAv at hin ⊢
      simp only [go_sem, Nat.reduceEqDiff, Nat.reduceAdd, Nat.reduceMul, Nat.reduceLeDiff, Nat.reduceBEq, reduceCtorEq, ↓reduceIte, Int.reduceToNat, Int.reduceLE, Int.reduceLT, F_graph_asks_l19, F_graph_asks_r9, F_graph_asks_r10, F_graph_asks_r11, F_graph_asks_r18, hx, hi, hi', Term.av, splice_def, hin])
    (fun A => by simp only [go_sem, Nat.reduceEqDiff, Nat.reduceAdd, Nat.reduceMul, Nat.reduceLeDiff, Nat.reduceBEq, reduceCtorEq, ↓reduceIte, Int.reduceToNat, Int.reduceLE, Int.reduceLT, F_graph_asks_l19, F_graph_asks_r9, F_graph_asks_r10, F_graph_asks_r11, F_graph_asks_r18, Nat.lt_irrefl]) A
  simp only [cast0] at hloop
  exact hloop

theorem asks_node (t : Nat) (x : Node) (hx : x.small) (A : Arr) :
    execT tab (.loop F_graph_asks_l21) ⟨[(0, some L), (3, some (.ptr H.length 0 0 0)), (4, some (.int .i64 t)), (12, some L), (13, some (.int .i64 l.length)), (14, some (.int .i64 t)), (20, some (.vsl (x.alts.map wayAv))), (21, some (.int .i64 x.alts.length)), (22, some (.int .i64 0))], [(2, some Z)], [(2, some (2, 0))], heapA H A, H.length, H.length⟩ =
    some (.exit 2, ⟨[(0, some L), (3, some (.ptr H.length 0 0 0)), (4, some (.int .i64 t)), (12, some L), (13, some (.int .i64 l.length)), (14, some (.int .i64 t)), (20, some (.vsl (x.alts.map wayAv))), (21, some (.int .i64 x.alts.length)), (22, some (.int .i64 x.alts.length)), (23, some (.bool false))], [(2, some Z)], [(2, some (2, 0))], heapA H (askN l.length t A x), H.length, H.length⟩) := by
  have hloop := loop_fold (F := tab) (b := F_graph_asks_l21) x.alts
    (fun i (A : Arr) => ⟨[(0, some L), (3, some (.ptr H.length 0 0 0)), (4, some (.int .i64 t)), (12, some L), (13, some (.int .i64 l.length)), (14, some (.int .i64 t)), (20, some (.vsl (x.alts.map wayAv))), (21, some (.int .i64 x.alts.length)), (22, some (.int .i64 i))], [(2, some Z)], [(2, some (2, 0))], heapA H A, H.length, H.length⟩)
    (askW l.length t) (.exit 2) (by decide)
    (fun A => ⟨[(0, some L), (3, some (.ptr H.length 0 0 0)), (4, some (.int .i64 t)), (12, some L), (13, some (.int .i64 l.length)), (14, some (.int .i64 t)), (20, some (.vsl (x.alts.map wayAv))), (21, some (.int .i64 x.alts.length)), (22, some (.int .i64 x.alts.length)), (23, some (.bool false))], [(2, some Z)], [(2, some (2, 0))], heapA H A, H.length, H.length⟩)
    (fun i A w hw hi => by
      have hi' := wi (big_lt hx.1 hi)
      have hin := asks_way L l hl hL H Z t (.vsl (x.alts.map wayAv)) (.int .i64 i) (.int .i64 x.alts.length) w (hx.2 w (mem_of_get hw)) A
      unfold wayAv at hin ⊢
      simp only [go_sem, Nat.reduceEqDiff, Nat.reduceAdd, Nat.reduceMul, Nat.reduceLeDiff, Nat.reduceBEq, reduceCtorEq, ↓reduceIte, Int.reduceToNat, Int.reduceLE, Int.reduceLT, F_graph_asks_l21, F_graph_asks_r6, F_graph_asks_r7, F_graph_asks_r8, F_graph_asks_r20, hw, hi, hi', wayAv, hin])
    (fun A => by simp only [go_sem, Nat.reduceEqDiff, Nat.reduceAdd, Nat.reduceMul, Nat.reduceLeDiff, Nat.reduceBEq, reduceCtorEq, ↓reduceIte, Int.reduceToNat, Int.reduceLE, Int.reduceLT, F_graph_asks_l21, F_graph_asks_r6, F_graph_asks_r7, F_graph_asks_r8, F_graph_asks_r20, Nat.lt_irrefl]) A
  simp only [cast0] at hloop
  exact hloop
end

/-- Who asks for whom: somebody, that is a node. -/
theorem c_graph_asks (l : List Node) (hl : l.length ≤ 64) (hs : graphSmall l) (H : Heap) : ∃ A : Arr, runT tab n_graph_asks [.vsl (l.map Node.av)] H = some (A.av, H, H.length) ∧ A.below l.length := by
  have hloop := loop_inv (F := tab) (b := F_graph_asks_l23)
    (fun n st => ∃ (i : Nat) (A : Arr), n = l.length - i ∧ i ≤ l.length ∧ A.below l.length ∧ st = ⟨[(0, some (.vsl (l.map Node.av))), (3, some (.ptr H.length 0 0 0)), (12, some (.vsl (l.map Node.av))), (13, some (.int .i64 l.length)), (14, some (.int .i64 i))], [(2, some (List.replicate 64 (.int .u64 0)))], [(2, some (2, 0))], heapA H A, H.length, H.length⟩)
    (fun r => ∃ A : Arr, A.below l.length ∧ r = (.exit 0, ⟨[(0, some (.vsl (l.map Node.av))), (3, some (.ptr H.length 0 0 0)), (12, some (.vsl (l.map Node.av))), (13, some (.int .i64 l.length)), (14, some (.int .i64 l.length)), (15, some (.bool false))], [(2, some (List.replicate 64 (.int .u64 0)))], [(2, some (2, 0))], heapA H A, H.length, H.length⟩))
    (by
      rintro n st ⟨i, A, rfl, hi, hb, rfl⟩
      rcases Nat.lt_or_ge i l.length with hlt | hge
      · right
        obtain ⟨x, hx⟩ : ∃ x, l[i]? = some x := ⟨_, List.getElem?_eq_getElem hlt⟩
        have hi' := wi (show i < 4611686018427387904 by omega)
        have hin := asks_node (.vsl (l.map Node.av)) l hl rfl H (List.replicate 64 (.int .u64 0)) i x (hs.2 x (mem_of_get hx)) A
        refine ⟨l.length - (i + 1), _, by omega, ?_, i + 1, askN l.length i A x, rfl, hlt, below_askN hlt hb x, rfl⟩
        simp only [go_sem, Nat.reduceEqDiff, Nat.reduceAdd, Nat.reduceMul, Nat.reduceLeDiff, Nat.reduceBEq, reduceCtorEq, ↓reduceIte, Int.reduceToNat, Int.reduceLE, Int.reduceLT, F_graph_asks_l23, F_graph_asks_r3, F_graph_asks_r4, F_graph_asks_r5, F_graph_asks_r22, hx, hlt, hi', Node.av, splice_def, hin]
      · left
        have : i = l.length := by omega
        subst this
        refine ⟨_, ?_, ?_, A, hb, rfl⟩
        · simp only [go_sem, Nat.reduceEqDiff, Nat.reduceAdd, Nat.reduceMul, Nat.reduceLeDiff, Nat.reduceBEq, reduceCtorEq, ↓reduceIte, Int.reduceToNat, Int.reduceLE, Int.reduceLT, F_graph_asks_l23, F_graph_asks_r3, F_graph_asks_r4, F_graph_asks_r5, F_graph_asks_r22, Nat.lt_irrefl]
        · simp)
    l.length _ ⟨0, zeroA, by simp, Nat.zero_le _, fun a ha j hj => by
      have : a = 0#64 := (List.mem_replicate.1 ha).2
      rw [this] at hj; simp at hj, rfl⟩
  obtain ⟨r, hr, A, hb, rfl⟩ := hloop
  refine ⟨A, ?_, hb⟩
  rw [x_fun tab_graph_asks _ (Nat.le_refl _)]
  have hrep : (AV.agg (List.replicate 64 (.int .u64 0))).cells.length = 64 := rfl
  have hh : heapA H zeroA = H ++ [some (.row 64 0 [.agg (List.replicate 64 (.int .u64 0))])] := rfl
  have hlen : (A.1.map uS).length = 64 := by simp [A.2]
  have hdt : (A.1.map uS).take 64 = A.1.map uS := List.take_of_length_le (by simp [A.2])
  have hav : A.av = .agg (A.1.map uS) := rfl
  rw [hh] at hr
  simp only [List.replicate, cast0] at hr
  have h1 : H.length ≤ H.length + 1 := Nat.le_succ _
  have hm1 : min H.length (H.length + 1) = H.length := Nat.min_eq_left h1
  have hfz : mapO (frzV (heapA H A) H.length false 8) (A.1.map uS) = some (A.1.map uS) := mapO_same (fun x hx => by
    obtain ⟨y, _, rfl⟩ := List.mem_map.1 hx
    rfl)
  simp only [go_sem, Nat.reduceEqDiff, Nat.reduceAdd, Nat.reduceMul, Nat.reduceLeDiff, Nat.reduceBEq, reduceCtorEq, ↓reduceIte, Int.reduceToNat, Int.reduceLE, Int.reduceLT, F_graph_asks, F_graph_asks_r0, F_graph_asks_r1, F_graph_asks_r2, F_graph_asks_r24, hr, heapA_row, hav, splice_all, hlen, hdt, hm1, h1, hfz]
end Go.AI

