/- The package witness: reports that are checked by themselves. -/
import Derived.Test.YtkpbgdihnapbaaaDoorReport
set_option linter.unusedVariables false
set_option linter.unusedSimpArgs false
namespace Go.AI
open Go Go.Proofs

def comesF (dead : BitVec 64) (n : Int) (s : Share) : Int := if has dead s.t = true then n else IntKind.i64.wrap (n + s.n)
/-- how much of a term comes of threads that are not in a set -/
def comesW (m : Term) (dead : BitVec 64) : Int := m.src.foldl (comesF dead) 0

theorem c_witness_comes (m : Term) (hm : m.small) (dead : BitVec 64) (H : Heap) : runT tab n_witness_comes [m.av, .int .u64 dead.toNat] H = some (.int .i64 (comesW m dead), H, H.length) := by
  rw [x_fun tab_witness_comes _ (Nat.le_refl _)]
  unfold Term.av
  have hloop := loop_fold (F := tab) (b := F_witness_comes_l8) m.src
    (fun i (n : Int) => ⟨[(1, some (.int .u64 dead.toNat)), (5, some (.int .i64 n)), (9, some (.vsl (m.src.map Share.av))), (10, some (.int .i64 m.src.length)), (11, some (.int .i64 i))], [], [], H, H.length, H.length⟩)
    (comesF dead) (.exit 0) (by decide)
    (fun n => ⟨[(1, some (.int .u64 dead.toNat)), (5, some (.int .i64 n)), (9, some (.vsl (m.src.map Share.av))), (10, some (.int .i64 m.src.length)), (11, some (.int .i64 m.src.length)), (12, some (.bool false))], [], [], H, H.length, H.length⟩)
    (fun i n x hx hi => by
      have hi' := wi (big_lt hm hi)
      cases h : has dead x.t with
      | true => simp only [go_sem, Nat.reduceEqDiff, Nat.reduceAdd, Nat.reduceMul, Nat.reduceLeDiff, Nat.reduceBEq, reduceCtorEq, ↓reduceIte, Int.reduceToNat, Int.reduceLE, Int.reduceLT, F_witness_comes_l8, F_witness_comes_r3, F_witness_comes_r4, F_witness_comes_r5, F_witness_comes_r6, F_witness_comes_r7, hx, hi, hi', Share.av, splice_def, c_bits_Has, h, comesF]
      | false => simp only [go_sem, Nat.reduceEqDiff, Nat.reduceAdd, Nat.reduceMul, Nat.reduceLeDiff, Nat.reduceBEq, reduceCtorEq, ↓reduceIte, Int.reduceToNat, Int.reduceLE, Int.reduceLT, F_witness_comes_l8, F_witness_comes_r3, F_witness_comes_r4, F_witness_comes_r5, F_witness_comes_r6, F_witness_comes_r7, hx, hi, hi', Share.av, splice_def, c_bits_Has, h, comesF])
    (fun n => by simp only [go_sem, Nat.reduceEqDiff, Nat.reduceAdd, Nat.reduceMul, Nat.reduceLeDiff, Nat.reduceBEq, reduceCtorEq, ↓reduceIte, Int.reduceToNat, Int.reduceLE, Int.reduceLT, F_witness_comes_l8, F_witness_comes_r3, F_witness_comes_r4, F_witness_comes_r5, F_witness_comes_r6, F_witness_comes_r7, Nat.lt_irrefl]) 0
  simp only [cast0] at hloop
  simp only [go_sem, Nat.reduceEqDiff, Nat.reduceAdd, Nat.reduceMul, Nat.reduceLeDiff, Nat.reduceBEq, reduceCtorEq, ↓reduceIte, Int.reduceToNat, Int.reduceLE, Int.reduceLT, F_witness_comes, F_witness_comes_r0, F_witness_comes_r1, F_witness_comes_r2, F_witness_comes_r9, hloop]
  rfl

def lacksB (dead : BitVec 64) (m : Term) : Bool := decide (comesW m dead < m.k)

theorem c_witness_lacks_1 (m : Term) (hm : m.small) (dead : BitVec 64) (b g : Nat) (H : Heap) (hb : H.row b g = some (1, [.int .u64 dead.toNat])) :
    runT tab n_witness_lacks_1 [m.av, .ptr b g 0 0] H = some (.bool (lacksB dead m), H, H.length) := by
  rw [x_fun tab_witness_lacks_1 _ (Nat.le_refl _)]
  have hc := c_witness_comes m hm dead H
  unfold Term.av at hc ⊢
  simp only [go_sem, Nat.reduceEqDiff, Nat.reduceAdd, Nat.reduceMul, Nat.reduceLeDiff, Nat.reduceBEq, reduceCtorEq, ↓reduceIte, Int.reduceToNat, Int.reduceLE, Int.reduceLT, F_witness_lacks_1, F_witness_lacks_1_r0, F_witness_lacks_1_d1, hb, hc]
  rfl

theorem c_IndexFunc_Term (w : List Term) (hw : w.length ≤ big) (f : Nat) (cap : List AV) (p : Term → Bool) (H : Heap)
    (hf : ∀ m ∈ w, runT tab f (m.av :: cap) H = some (.bool (p m), H, H.length)) :
    runT tab n_slices_IndexFunc_Lapi_Term_api_Term [.vsl (w.map Term.av), .fn f cap] H = some (.int .i64 (idx p w), H, H.length) := by
  rw [x_fun tab_slices_IndexFunc_Lapi_Term_api_Term _ (Nat.le_refl _)]
  have hloop := loop_foldI (F := tab) (b := F_slices_IndexFunc_Lapi_Term_api_Term_l7) w
    (fun i (_ : Unit) => ⟨[(0, some (.vsl (w.map Term.av))), (1, some (.fn f cap)), (7, some (.int .i64 w.length)), (8, some (.int .i64 i))], [], [], H, H.length, H.length⟩)
    (fun i _ x => if p x = true then .inr i else .inl ())
    (fun _ => (.exit 0, ⟨[(0, some (.vsl (w.map Term.av))), (1, some (.fn f cap)), (7, some (.int .i64 w.length)), (8, some (.int .i64 w.length)), (9, some (.bool false))], [], [], H, H.length, H.length⟩))
    (fun i => (.ret, ⟨[(4, some (.int .i64 (i : Nat)))], [], [], H, H.length, H.length⟩))
    (fun i _ x hx hi => by
      have hi' := wi (big_lt hw hi)
      have hc := hf x (mem_of_get hx)
      unfold Term.av at hc
      cases h : p x with
      | true => simp only [go_sem, Nat.reduceEqDiff, Nat.reduceAdd, Nat.reduceMul, Nat.reduceLeDiff, Nat.reduceBEq, reduceCtorEq, ↓reduceIte, Int.reduceToNat, Int.reduceLE, Int.reduceLT, F_slices_IndexFunc_Lapi_Term_api_Term_l7, F_slices_IndexFunc_Lapi_Term_api_Term_r2, F_slices_IndexFunc_Lapi_Term_api_Term_r3, F_slices_IndexFunc_Lapi_Term_api_Term_r4, F_slices_IndexFunc_Lapi_Term_api_Term_r5, F_slices_IndexFunc_Lapi_Term_api_Term_r6, hx, hi, hi', Term.av, h, hc]
      | false => simp only [go_sem, Nat.reduceEqDiff, Nat.reduceAdd, Nat.reduceMul, Nat.reduceLeDiff, Nat.reduceBEq, reduceCtorEq, ↓reduceIte, Int.reduceToNat, Int.reduceLE, Int.reduceLT, F_slices_IndexFunc_Lapi_Term_api_Term_l7, F_slices_IndexFunc_Lapi_Term_api_Term_r2, F_slices_IndexFunc_Lapi_Term_api_Term_r3, F_slices_IndexFunc_Lapi_Term_api_Term_r4, F_slices_IndexFunc_Lapi_Term_api_Term_r5, F_slices_IndexFunc_Lapi_Term_api_Term_r6, hx, hi, hi', Term.av, h, hc])
    (fun _ => by simp only [go_sem, Nat.reduceEqDiff, Nat.reduceAdd, Nat.reduceMul, Nat.reduceLeDiff, Nat.reduceBEq, reduceCtorEq, ↓reduceIte, Int.reduceToNat, Int.reduceLE, Int.reduceLT, F_slices_IndexFunc_Lapi_Term_api_Term_l7, F_slices_IndexFunc_Lapi_Term_api_Term_r2, F_slices_IndexFunc_Lapi_Term_api_Term_r3, F_slices_IndexFunc_Lapi_Term_api_Term_r4, F_slices_IndexFunc_Lapi_Term_api_Term_r5, F_slices_IndexFunc_Lapi_Term_api_Term_r6, Nat.lt_irrefl]) (fun _ => by simp) (fun _ => by simp) ()
  simp only [cast0] at hloop
  unfold idx
  cases hfo : foldI (fun i (_ : Unit) x => if p x = true then Sum.inr i else Sum.inl ()) 0 () w with
  | inl u =>
    rw [hfo] at hloop
    simp only [go_sem, Nat.reduceEqDiff, Nat.reduceAdd, Nat.reduceMul, Nat.reduceLeDiff, Nat.reduceBEq, reduceCtorEq, ↓reduceIte, Int.reduceToNat, Int.reduceLE, Int.reduceLT, F_slices_IndexFunc_Lapi_Term_api_Term, F_slices_IndexFunc_Lapi_Term_api_Term_r0, F_slices_IndexFunc_Lapi_Term_api_Term_r1, F_slices_IndexFunc_Lapi_Term_api_Term_r8, hloop]
  | inr i =>
    rw [hfo] at hloop
    simp only [go_sem, Nat.reduceEqDiff, Nat.reduceAdd, Nat.reduceMul, Nat.reduceLeDiff, Nat.reduceBEq, reduceCtorEq, ↓reduceIte, Int.reduceToNat, Int.reduceLE, Int.reduceLT, F_slices_IndexFunc_Lapi_Term_api_Term, F_slices_IndexFunc_Lapi_Term_api_Term_r0, F_slices_IndexFunc_Lapi_Term_api_Term_r1, F_slices_IndexFunc_Lapi_Term_api_Term_r8, hloop]

theorem c_witness_lacks (w : List Term) (hw : waySmall w) (dead : BitVec 64) (H : Heap) : runT tab n_witness_lacks [wayAv w, .int .u64 dead.toNat] H = some (.int .i64 (idx (lacksB dead) w), H, H.length) := by
  rw [x_fun tab_witness_lacks _ (Nat.le_refl _)]
  have hc := c_IndexFunc_Term w hw.1 n_witness_lacks_1 [.ptr H.length 0 0 0] (lacksB dead) (H ++ [some (.row 1 0 [.int .u64 dead.toNat])])
    (fun m hm => c_witness_lacks_1 m (hw.2 m hm) dead _ _ _ row_last)
  unfold wayAv
  simp only [go_sem, Nat.reduceEqDiff, Nat.reduceAdd, Nat.reduceMul, Nat.reduceLeDiff, Nat.reduceBEq, reduceCtorEq, ↓reduceIte, Int.reduceToNat, Int.reduceLE, Int.reduceLT, F_witness_lacks, F_witness_lacks_r0, F_witness_lacks_r1, hc]
  simp
end Go.AI

