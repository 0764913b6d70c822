/- The package graph: who can go on. -/
import Derived.Test.YtkpbgdihnapbaaaDoorWitness
import Derived.Test.YtkpbgdihnapbaaaDoorBits2
set_option linter.unusedVariables false
set_option linter.unusedSimpArgs false
namespace Go.AI
open Go Go.Proofs

def shareE (s : Share) : Int := min (max s.n 0) 1048576
theorem c_graph_share (s : Share) (H : Heap) : runT tab n_graph_share [s.av] H = some (.int .i64 (shareE s), H, H.length) := by
  rw [x_fun tab_graph_share _ (Nat.le_refl _)]
  unfold Share.av
  simp only [go_sem, Nat.reduceEqDiff, Nat.reduceAdd, Nat.reduceMul, Nat.reduceLeDiff, Nat.reduceBEq, reduceCtorEq, ↓reduceIte, Int.reduceToNat, Int.reduceLE, Int.reduceLT, F_graph_share, F_graph_share_r0, F_graph_share_r1, aop.minmaxOf]
  unfold shareE
  congr 3
  by_cases h : s.n < 0
  · simp [h]; omega
  · simp [h]; split <;> omega

def gcomesF (free : BitVec 64) (n : Int) (s : Share) : Int := if has free s.t = true then IntKind.i64.wrap (n + shareE s) else n
def gcomes (free : BitVec 64) (m : Term) : Bool := decide (m.k ≤ m.src.foldl (gcomesF free) 0)

theorem c_graph_comes (m : Term) (hm : m.small) (free : BitVec 64) (H : Heap) : runT tab n_graph_comes [m.av, .int .u64 free.toNat] H = some (.bool (gcomes free m), H, H.length) := by
  rw [x_fun tab_graph_comes _ (Nat.le_refl _)]
  unfold Term.av
  have hloop := loop_fold (F := tab) (b := F_graph_comes_l8) m.src
    (fun i (n : Int) => ⟨[(1, some (.int .u64 free.toNat)), (5, some (.int .i64 n)), (9, some (.vsl (m.src.map Share.av))), (10, some (.int .i64 m.src.length)), (11, some (.int .i64 i))], [(2, some [.int .i64 m.k, .vsl (m.src.map Share.av)])], [(2, some (2, 0))], H, H.length, H.length⟩)
    (gcomesF free) (.exit 0) (by decide)
    (fun n => ⟨[(1, some (.int .u64 free.toNat)), (5, some (.int .i64 n)), (9, some (.vsl (m.src.map Share.av))), (10, some (.int .i64 m.src.length)), (11, some (.int .i64 m.src.length)), (12, some (.bool false))], [(2, some [.int .i64 m.k, .vsl (m.src.map Share.av)])], [(2, some (2, 0))], H, H.length, H.length⟩)
    (fun i n x hx hi => by
      have hi' := wi (big_lt hm hi)
      have hs := c_graph_share x H
      unfold Share.av at hs
      cases h : has free x.t with
      | true => simp only [go_sem, Nat.reduceEqDiff, Nat.reduceAdd, Nat.reduceMul, Nat.reduceLeDiff, Nat.reduceBEq, reduceCtorEq, ↓reduceIte, Int.reduceToNat, Int.reduceLE, Int.reduceLT, F_graph_comes_l8, F_graph_comes_r3, F_graph_comes_r4, F_graph_comes_r5, F_graph_comes_r6, F_graph_comes_r7, hx, hi, hi', Share.av, splice_def, c_bits_Has, h, gcomesF, hs]
      | false => simp only [go_sem, Nat.reduceEqDiff, Nat.reduceAdd, Nat.reduceMul, Nat.reduceLeDiff, Nat.reduceBEq, reduceCtorEq, ↓reduceIte, Int.reduceToNat, Int.reduceLE, Int.reduceLT, F_graph_comes_l8, F_graph_comes_r3, F_graph_comes_r4, F_graph_comes_r5, F_graph_comes_r6, F_graph_comes_r7, hx, hi, hi', Share.av, splice_def, c_bits_Has, h, gcomesF])
    (fun n => by simp only [go_sem, Nat.reduceEqDiff, Nat.reduceAdd, Nat.reduceMul, Nat.reduceLeDiff, Nat.reduceBEq, reduceCtorEq, ↓reduceIte, Int.reduceToNat, Int.reduceLE, Int.reduceLT, F_graph_comes_l8, F_graph_comes_r3, F_graph_comes_r4, F_graph_comes_r5, F_graph_comes_r6, F_graph_comes_r7, Nat.lt_irrefl]) 0
  simp only [cast0] at hloop
  simp only [go_sem, Nat.reduceEqDiff, Nat.reduceAdd, Nat.reduceMul, Nat.reduceLeDiff, Nat.reduceBEq, reduceCtorEq, ↓reduceIte, Int.reduceToNat, Int.reduceLE, Int.reduceLT, F_graph_comes, F_graph_comes_r0, F_graph_comes_r1, F_graph_comes_r2, F_graph_comes_r9, hloop]
  rfl

theorem c_graph_met_1 (m : Term) (hm : m.small) (free : BitVec 64) (b g : Nat) (H : Heap) (hb : H.row b g = some (1, [.int .u64 free.toNat])) :
    runT tab n_graph_met_1 [m.av, .ptr b g 0 0] H = some (.bool (!gcomes free m), H, H.length) := by
  rw [x_fun tab_graph_met_1 _ (Nat.le_refl _)]
  have hc := c_graph_comes m hm free H
  unfold Term.av at hc ⊢
  simp only [go_sem, Nat.reduceEqDiff, Nat.reduceAdd, Nat.reduceMul, Nat.reduceLeDiff, Nat.reduceBEq, reduceCtorEq, ↓reduceIte, Int.reduceToNat, Int.reduceLE, Int.reduceLT, F_graph_met_1, F_graph_met_1_r0, F_graph_met_1_r1, hb, hc]

theorem c_ContainsFunc_Term (w : List Term) (hw : w.length ≤ big) (f : Nat) (cap : List AV) (p : Term → Bool) (H : Heap)
    (hf : ∀ m ∈ w, runT tab f (m.av :: cap) H = some (.bool (p m), H, H.length)) :
    runT tab n_slices_ContainsFunc_Lapi_Term_api_Term [.vsl (w.map Term.av), .fn f cap] H = some (.bool (w.any p), H, H.length) := by
  rw [x_fun tab_slices_ContainsFunc_Lapi_Term_api_Term _ (Nat.le_refl _)]
  have hc := c_IndexFunc_Term w hw f cap p H hf
  simp only [go_sem, Nat.reduceEqDiff, Nat.reduceAdd, Nat.reduceMul, Nat.reduceLeDiff, Nat.reduceBEq, reduceCtorEq, ↓reduceIte, Int.reduceToNat, Int.reduceLE, Int.reduceLT, F_slices_ContainsFunc_Lapi_Term_api_Term, F_slices_ContainsFunc_Lapi_Term_api_Term_r0, F_slices_ContainsFunc_Lapi_Term_api_Term_r1, hc]
  have := idx_neg (p := p) (l := w)
  cases h : w.any p with
  | true => simp only [h, Bool.true_eq_false, iff_false] at this; simp; omega
  | false => simp only [h, iff_true] at this; simp; omega

theorem c_graph_met_2 (w : List Term) (hw : waySmall w) (free : BitVec 64) (b g b' g' : Nat) (H : Heap) (hb : H.row b g = some (1, [.fn n_graph_met_1 [.ptr b' g' 0 0]])) (hb' : H.row b' g' = some (1, [.int .u64 free.toNat])) :
    runT tab n_graph_met_2 [wayAv w, .ptr b g 0 0] H = some (.bool (w.all (gcomes free)), H, H.length) := by
  rw [x_fun tab_graph_met_2 _ (Nat.le_refl _)]
  have hc := c_ContainsFunc_Term w hw.1 n_graph_met_1 [.ptr b' g' 0 0] (fun m => !gcomes free m) H (fun m hm => c_graph_met_1 m (hw.2 m hm) free b' g' H hb')
  unfold wayAv
  simp only [go_sem, Nat.reduceEqDiff, Nat.reduceAdd, Nat.reduceMul, Nat.reduceLeDiff, Nat.reduceBEq, reduceCtorEq, ↓reduceIte, Int.reduceToNat, Int.reduceLE, Int.reduceLT, F_graph_met_2, F_graph_met_2_r0, F_graph_met_2_r1, hb, hc]
  simp [List.all_eq_not_any_not]

theorem c_IndexFunc_Way (w : List (List Term)) (hw : w.length ≤ big) (f : Nat) (cap : List AV) (p : List Term → Bool) (H : Heap)
    (hf : ∀ m ∈ w, runT tab f (wayAv m :: cap) H = some (.bool (p m), H, H.length)) :
    runT tab n_slices_IndexFunc_LLapi_Term_Lapi_Term [.vsl (w.map wayAv), .fn f cap] H = some (.int .i64 (idx p w), H, H.length) := by
  rw [x_fun tab_slices_IndexFunc_LLapi_Term_Lapi_Term _ (Nat.le_refl _)]
  have hloop := loop_foldI (F := tab) (b := F_slices_IndexFunc_LLapi_Term_Lapi_Term_l7) w
    (fun i (_ : Unit) => ⟨[(0, some (.vsl (w.map wayAv))), (1, some (.fn f cap)), (7, some (.int .i64 w.length)), (8, some (.int .i64 i))], [], [], H, H.length, H.length⟩)
    (fun i _ x => if p x = true then .inr i else .inl ())
    (fun _ => (.exit 0, ⟨[(0, some (.vsl (w.map wayAv))), (1, some (.fn f cap)), (7, some (.int .i64 w.length)), (8, some (.int .i64 w.length)), (9, some (.bool false))], [], [], H, H.length, H.length⟩))
    (fun i => (.ret, ⟨[(4, some (.int .i64 (i : Nat)))], [], [], H, H.length, H.length⟩))
    (fun i _ x hx hi => by
      have hi' := wi (big_lt hw hi)
      have hc := hf x (mem_of_get hx)
      unfold wayAv at hc
      cases h : p x with
      | true => simp only [go_sem, Nat.reduceEqDiff, Nat.reduceAdd, Nat.reduceMul, Nat.reduceLeDiff, Nat.reduceBEq, reduceCtorEq, ↓reduceIte, Int.reduceToNat, Int.reduceLE, Int.reduceLT, F_slices_IndexFunc_LLapi_Term_Lapi_Term_l7, F_slices_IndexFunc_LLapi_Term_Lapi_Term_r2, F_slices_IndexFunc_LLapi_Term_Lapi_Term_r3, F_slices_IndexFunc_LLapi_Term_Lapi_Term_r4, F_slices_IndexFunc_LLapi_Term_Lapi_Term_r5, F_slices_IndexFunc_LLapi_Term_Lapi_Term_r6, hx, hi, hi', wayAv, h, hc]
      | false => simp only [go_sem, Nat.reduceEqDiff, Nat.reduceAdd, Nat.reduceMul, Nat.reduceLeDiff, Nat.reduceBEq, reduceCtorEq, ↓reduceIte, Int.reduceToNat, Int.reduceLE, Int.reduceLT, F_slices_IndexFunc_LLapi_Term_Lapi_Term_l7, F_slices_IndexFunc_LLapi_Term_Lapi_Term_r2, F_slices_IndexFunc_LLapi_Term_Lapi_Term_r3, F_slices_IndexFunc_LLapi_Term_Lapi_Term_r4, F_slices_IndexFunc_LLapi_Term_Lapi_Term_r5, F_slices_IndexFunc_LLapi_Term_Lapi_Term_r6, hx, hi, hi', wayAv, h, hc])
    (fun _ => by simp only [go_sem, Nat.reduceEqDiff, Nat.reduceAdd, Nat.reduceMul, Nat.reduceLeDiff, Nat.reduceBEq, reduceCtorEq, ↓reduceIte, Int.reduceToNat, Int.reduceLE, Int.reduceLT, F_slices_IndexFunc_LLapi_Term_Lapi_Term_l7, F_slices_IndexFunc_LLapi_Term_Lapi_Term_r2, F_slices_IndexFunc_LLapi_Term_Lapi_Term_r3, F_slices_IndexFunc_LLapi_Term_Lapi_Term_r4, F_slices_IndexFunc_LLapi_Term_Lapi_Term_r5, F_slices_IndexFunc_LLapi_Term_Lapi_Term_r6, Nat.lt_irrefl]) (fun _ => by simp) (fun _ => by simp) ()
  simp only [cast0] at hloop
  unfold idx
  cases hfo : foldI (fun i (_ : Unit) x => if p x = true then Sum.inr i else Sum.inl ()) 0 () w with
  | inl u =>
    rw [hfo] at hloop
    simp only [go_sem, Nat.reduceEqDiff, Nat.reduceAdd, Nat.reduceMul, Nat.reduceLeDiff, Nat.reduceBEq, reduceCtorEq, ↓reduceIte, Int.reduceToNat, Int.reduceLE, Int.reduceLT, F_slices_IndexFunc_LLapi_Term_Lapi_Term, F_slices_IndexFunc_LLapi_Term_Lapi_Term_r0, F_slices_IndexFunc_LLapi_Term_Lapi_Term_r1, F_slices_IndexFunc_LLapi_Term_Lapi_Term_r8, hloop]
  | inr i =>
    rw [hfo] at hloop
    simp only [go_sem, Nat.reduceEqDiff, Nat.reduceAdd, Nat.reduceMul, Nat.reduceLeDiff, Nat.reduceBEq, reduceCtorEq, ↓reduceIte, Int.reduceToNat, Int.reduceLE, Int.reduceLT, F_slices_IndexFunc_LLapi_Term_Lapi_Term, F_slices_IndexFunc_LLapi_Term_Lapi_Term_r0, F_slices_IndexFunc_LLapi_Term_Lapi_Term_r1, F_slices_IndexFunc_LLapi_Term_Lapi_Term_r8, hloop]

theorem c_ContainsFunc_Way (w : List (List Term)) (hw : w.length ≤ big) (f : Nat) (cap : List AV) (p : List Term → Bool) (H : Heap)
    (hf : ∀ m ∈ w, runT tab f (wayAv m :: cap) H = some (.bool (p m), H, H.length)) :
    runT tab n_slices_ContainsFunc_LLapi_Term_Lapi_Term [.vsl (w.map wayAv), .fn f cap] H = some (.bool (w.any p), H, H.length) := by
  rw [x_fun tab_slices_ContainsFunc_LLapi_Term_Lapi_Term _ (Nat.le_refl _)]
  have hc := c_IndexFunc_Way w hw f cap p H hf
  simp only [go_sem, Nat.reduceEqDiff, Nat.reduceAdd, Nat.reduceMul, Nat.reduceLeDiff, Nat.reduceBEq, reduceCtorEq, ↓reduceIte, Int.reduceToNat, Int.reduceLE, Int.reduceLT, F_slices_ContainsFunc_LLapi_Term_Lapi_Term, F_slices_ContainsFunc_LLapi_Term_Lapi_Term_r0, F_slices_ContainsFunc_LLapi_Term_Lapi_Term_r1, hc]
  have := idx_neg (p := p) (l := w)
  cases h : w.any p with
  | true => simp only [h, Bool.true_eq_false, iff_false] at this; simp; omega
  | false => simp only [h, iff_true] at this; simp; omega

def gmet (free : BitVec 64) (x : Node) : Bool := !x.stuck || x.alts.any fun w => w.all (gcomes free)

theorem c_graph_met (x : Node) (hx : x.small) (free : BitVec 64) (H : Heap) : runT tab n_graph_met [x.av, .int .u64 free.toNat] H = some (.bool (gmet free x), H, H.length) := by
  rw [x_fun tab_graph_met _ (Nat.le_refl _)]
  have hrow1 : Heap.row (H ++ [some (.row 1 0 [.int .u64 free.toNat])] ++ [some (.row 1 0 [.fn n_graph_met_1 [.ptr H.length 0 0 0]])]) (H.length + 1) 0 = some (1, [.fn n_graph_met_1 [.ptr H.length 0 0 0]]) := by
    have := row_last (K := H ++ [some (.row 1 0 [.int .u64 free.toNat])]) (s := 1) (g := 0) (es := [.fn n_graph_met_1 [.ptr H.length 0 0 0]])
    simpa using this
  have hrow2 : Heap.row (H ++ [some (.row 1 0 [.int .u64 free.toNat])] ++ [some (.row 1 0 [.fn n_graph_met_1 [.ptr H.length 0 0 0]])]) H.length 0 = some (1, [.int .u64 free.toNat]) := row_app row_last
  have hc := c_ContainsFunc_Way x.alts hx.1 n_graph_met_2 [.ptr (H.length + 1) 0 0 0] (fun w => w.all (gcomes free)) _
    (fun w hw => c_graph_met_2 w (hx.2 w hw) free (H.length + 1) 0 H.length 0 _ hrow1 hrow2)
  have hst : storeV (H ++ [some (.row 1 0 [.int .u64 free.toNat])] ++ [some (.row 1 0 [AV.nilfn])]) 1 (.ptr (H.length + 1) 0 0 0) (.fn n_graph_met_1 [.ptr H.length 0 0 0]) =
      some (H.length + 1, H ++ [some (.row 1 0 [.int .u64 free.toNat])] ++ [some (.row 1 0 [.fn n_graph_met_1 [.ptr H.length 0 0 0]])]) := by
    have := row_last (K := H ++ [some (.row 1 0 [.int .u64 free.toNat])]) (s := 1) (g := 0) (es := [AV.nilfn])
    simp only [List.length_append, List.length_cons, List.length_nil, Nat.zero_add] at this
    simp only [storeV, this]
    simp [cells_fn, plain_fn, storeRow, writeElem]
  unfold Node.av
  unfold gmet
  have hle : min H.length (H.length + 1) = H.length := Nat.min_eq_left (Nat.le_succ _)
  have hle2 : min H.length (H.length + (1 + 1)) = H.length := Nat.min_eq_left (by omega)
  have hle3 : min H.length (H.length + 1 + 1) = H.length := Nat.min_eq_left (by omega)
  cases h : x.stuck with
  | true =>
    simp only [go_sem, Nat.reduceEqDiff, Nat.reduceAdd, Nat.reduceMul, Nat.reduceLeDiff, Nat.reduceBEq, reduceCtorEq, ↓reduceIte, Int.reduceToNat, Int.reduceLE, Int.reduceLT, F_graph_met, F_graph_met_r0, F_graph_met_r1, F_graph_met_r2, F_graph_met_r3, hst, hc, hle, hle2, hle3]
  | false =>
    simp only [go_sem, Nat.reduceEqDiff, Nat.reduceAdd, Nat.reduceMul, Nat.reduceLeDiff, Nat.reduceBEq, reduceCtorEq, ↓reduceIte, Int.reduceToNat, Int.reduceLE, Int.reduceLT, F_graph_met, F_graph_met_r0, F_graph_met_r1, F_graph_met_r2, F_graph_met_r3, hst, hle, hle2, hle3]
end Go.AI

