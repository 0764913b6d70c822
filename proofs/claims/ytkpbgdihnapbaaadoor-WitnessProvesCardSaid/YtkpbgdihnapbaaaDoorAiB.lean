/- Writes into rows: sound. -/
import Derived.Test.YtkpbgdihnapbaaaDoorAiA
import Derived.Deep.Upon
import Derived.Laws.StructEq
import Derived.Laws.Strings
import Derived.Lib.ConvBytes
set_option linter.unusedVariables false
set_option linter.unusedSimpArgs false
namespace Go.AI
open Go

theorem setCells_size (b : Nat) : ∀ (vs : List Value) (o : Nat) (w : World), (w.setCells b o vs).heap.size = w.heap.size
  | [], _, _ => rfl
  | v :: r, o, w => by rw [World.setCells, setCells_size b r]; simp [World.setCell]

theorem setCells_tape (b : Nat) : ∀ (vs : List Value) (o : Nat) (w : World), (w.setCells b o vs).tape = w.tape
  | [], _, _ => rfl
  | v :: r, o, w => by rw [World.setCells, setCells_tape b r]; rfl

theorem setCells_heap (b : Nat) : ∀ (vs : List Value) (o : Nat) (w : World) (k : Nat), k ≠ b → (w.setCells b o vs).heap[k]? = w.heap[k]?
  | [], _, _, _, _ => rfl
  | v :: r, o, w, k, hk => by rw [World.setCells, setCells_heap b r (o + 1) _ k hk, RowKit.Below.heap_setCell _ _ _ _ hk]

/-- The cells behind a write. -/
theorem setCells_range {w : World} {b o off : Nat} {vals vs : List Value} (hr : w.rangeAt b o vals) (ht : w.there b (o + off) vs.length) :
    ∀ j v, (if off ≤ j ∧ j < off + vs.length then vs[j - off]? else vals[j]?) = some v → (w.setCells b (o + off) vs).cell? ⟨b, o + j, none⟩ = some v := fun j v hv => by
  split at hv
  · rename_i hc
    have := World.cell?_setCells_in b vs (o + off) w (fun i hi => (ht i hi).1) (j - off) (by omega)
    rw [show o + off + (j - off) = o + j by omega] at this
    rw [this, ← hv, List.getElem?_eq_getElem]
  · rename_i hc
    rw [World.cell?_setCells_out b vs (o + off) w ⟨b, o + j, none⟩ (fun _ _ => by show o + j < o + off ∨ o + off + vs.length ≤ o + j; omega)]
    exact hr j v hv

theorem storeVar_run {P : Program} {w : World} {t : TypeId} {b o sz : Nat} {v : Value} (hsz : szOf P t = some sz) (hv : v.cells.size = sz) (h1 : ∀ x ∈ v.cells.toList, x.oneCell' = true) (ht : w.there b o sz) :
    (Instr.storeAt t (.pointer (some ⟨b, o, none⟩)) v).run P w = .ok () (w.setCells b o v.cells.toList) := by
  obtain ⟨i, hi, his⟩ := szOf_ok hsz
  have hst := run_storeCells_cells (P := P) b o v.cells.toList 0 w (fun j hj => by simpa using (ht j (by simp at hj; omega)).1) (fun j hj => by simpa using (ht j (by simp at hj; omega)).2) h1
  simp only [Nat.add_zero] at hst
  have hne : v.cells.size = i.size := by omega
  simp [Instr.storeAt, Instr.sureAddr, storeVar, sizeOf, typeInfo, hi, hne, hst]

/-- An element some cells of which are written, and the row's cells. -/
theorem storeRow_flat {sz : Nat} {es es' : List AV} {i off : Nat} {us : List AV} (h : storeRow es i off us = some es') (hsz : ∀ e ∈ es, e.cells.length = sz) (h1 : ∀ a ∈ flat es, a.one = true) (hu : ∀ a ∈ us, a.one = true) :
    flat es' = splice (flat es) (i * sz + off) us ∧ off + us.length ≤ sz ∧ i < es.length ∧ es'.length = es.length ∧ (∀ e ∈ es', e.cells.length = sz) := by
  unfold storeRow at h
  split at h
  · rename_i e he
    obtain ⟨hi, rfl⟩ := List.getElem?_eq_some_iff.1 he
    have hes := hsz _ (List.getElem_mem hi)
    split at h
    · rename_i e' he'
      cases h
      have key : e'.cells = splice es[i].cells off us ∧ off + us.length ≤ es[i].cells.length := by
        unfold writeElem at he'
        split at he'
        · rename_i cs hcs
          split at he'
          · rename_i hl
            cases he'
            rw [hcs]
            exact ⟨rfl, hl⟩
          · cases he'
        · rename_i hna
          split at he'
          · rename_i ho
            subst ho
            split at he'
            · rename_i c
              cases he'
              have hc1 := hu e' (by simp)
              have hone : ∀ a : AV, a.one = true → a.cells = [a] := fun a ha => by cases a <;> first | rfl | (simp [AV.one] at ha)
              have hei : es[i].cells = [es[i]] := by
                have hne : ∀ cs, es[i] ≠ .agg cs := fun cs e => hna cs e
                generalize es[i] = e at hne
                cases e <;> first | rfl | (exact absurd rfl (hne _))
              rw [hone e' hc1, hei]
              exact ⟨rfl, by simp⟩
            · cases he'
          · cases he'
      obtain ⟨k1, k2⟩ := key
      have hel : e'.cells.length = sz := by rw [k1, splice_length k2, hes]
      refine ⟨?_, by omega, hi, by simp, fun e he => ?_⟩
      · rw [flat_set hsz hi hel, k1]
        have hfe := flat_elem hsz he
        have hfl := flat_length hsz
        have hle : i * sz + sz ≤ (flat es).length := by rw [hfl, ← Nat.succ_mul]; exact Nat.mul_le_mul_right _ hi
        apply List.ext_getElem?
        intro k
        rw [splice_get (by omega)]
        have htl : ((flat es).take (i * sz)).length = i * sz := by simp; omega
        by_cases c1 : k < i * sz
        · rw [List.append_assoc, List.getElem?_append_left (by omega), if_neg (by omega), List.getElem?_take, if_pos c1]
        · by_cases c2 : k < i * sz + sz
          · rw [List.append_assoc, List.getElem?_append_right (by omega), htl, List.getElem?_append_left (by rw [← k1, hel]; omega), splice_get k2]
            by_cases c3 : i * sz + off ≤ k ∧ k < i * sz + off + us.length
            · rw [if_pos c3, if_pos (by omega)]
              congr 1
              omega
            · rw [if_neg c3, if_neg (by omega), ← hfe, List.getElem?_take, if_pos (by omega), List.getElem?_drop]
              congr 1
              omega
          · rw [List.getElem?_append_right (by simp [splice_length k2, hes]; omega), if_neg (by omega), List.getElem?_drop]
            congr 1
            simp [splice_length k2, hes]
            omega
      · rcases List.mem_or_eq_of_mem_set he with h | h
        · exact hsz e h
        · rw [h]; exact hel
    · cases h
  · cases h

theorem Src.ofSlice' {P : Program} (w : World) {size : Nat} {tx : TypeId} (hk : (∃ e', P.underlying tx = some (.slice e')) ∨ P.underlying tx = some .string) (a : Addr) (n c : Nat) (news : List Value) (hl : news.length = n * size)
    (hnews : ∀ j u, news[j]? = some u → w.cell? (a.add j) = some u) (h1 : ∀ u ∈ news, u.oneCell' = true) : Src P size tx (.slice (some a) n c) n news w :=
  ⟨hk, fun _ => rfl, run_firstCells_some w size n a n c news hl hnews, run_firstCells_some w.drew size n a n c news hl (by simpa using hnews), hl, h1⟩

section
variable {c : Ctx} {s s' : St} {a : Act} {w : World} {M : Mem} {B : Nat → Nat} {o : Oper}

theorem turn_self (M : Mem) (b : Nat) : turnβ M b (M.β b) = M.β := by
  funext k
  unfold turnβ
  split
  · rename_i e; rw [e]
  · rfl

/-- A row's block is written in place. -/
theorem SR.rewriteRow (h : SR c s a w M B) {b g g' sz : Nat} {es es' : List AV} (hget : M.H.get b = some (.row sz g es)) (hg : g ≤ g') (hle : g = g' → es.length ≤ es'.length) {o' : Nat} {vs nv : List Value}
    (hnv : (w.setCells (M.β b).1 o' vs).rangeAt (M.β b).1 (M.β b).2 nv) (hvr : VRs w (XX c.Y M s.boxes B) (some M) nv (flat es')) (hth : w.there (M.β b).1 (M.β b).2 (flat es').length)
    (hsz : ∀ e ∈ es', e.cells.length = sz) (h1 : ∀ a ∈ flat es', a.one = true) :
    SR c (setRow s b sz g' es') a (w.setCells (M.β b).1 o' vs) ⟨M.β, (setRow s b sz g' es').heap⟩ B ∧
      Fr (fun _ => False) w M (setRow s b sz g' es').lo (w.setCells (M.β b).1 o' vs) ⟨M.β, (setRow s b sz g' es').heap⟩ := by
  have hheap := h.heap
  have hbl : b < M.H.length := Heap.get_lt hget
  have hlive : M.live b := by unfold Mem.live; rw [hget]; rfl
  have key := h.upd (b := b) (blk := .row sz g' es') (p := M.β b) (w' := w.setCells (M.β b).1 o' vs) (s' := setRow s b sz g' es') rfl rfl rfl (Nat.min_le_right _ _)
    (by rw [hheap]; simp [setRow]) (fun k => by rw [hheap] at hbl ⊢; exact get_set hbl _ k) (fun k hk => by rw [hheap]; exact List.getElem?_set_ne (by omega))
    (World.os_setCells _ _ _ _) (setCells_tape _ _ _ _) (World.output_setCells _ _ _ _) (by rw [setCells_size]; exact Nat.le_refl _)
    (fun k hk hne => setCells_heap _ _ _ _ _ (hne hlive)) (.inl ⟨hlive, rfl⟩) (by rw [setCells_size]; exact h.hr.lt b hlive)
    (fun _ => ⟨g, es, hget, hg, fun e => ⟨rfl, hle e, fun o n ht => World.there_setCells ht _ _ _⟩⟩)
    (fun hst => by
      have hβ : (Mem.mk (turnβ M b (M.β b)) (setRow s b sz g' es').heap).β b = M.β b := by simp [turnβ]
      exact ⟨⟨nv, by rw [hβ]; exact hnv, hvr.stays hst⟩, by rw [hβ]; exact World.there_setCells hth _ _ _, hsz, h1⟩)
  rw [turn_self] at key
  exact ⟨key.1, key.2 _ (Nat.min_le_right _ _)⟩

theorem over_get {vals vs : List Value} {off : Nat} (hl : off + vs.length ≤ vals.length) (j : Nat) :
    (vals.take off ++ vs ++ vals.drop (off + vs.length))[j]? = if off ≤ j ∧ j < off + vs.length then vs[j - off]? else vals[j]? := by
  have htl : (vals.take off).length = off := by simp; omega
  by_cases c1 : j < off
  · rw [List.append_assoc, List.getElem?_append_left (by omega), if_neg (by omega), List.getElem?_take, if_pos c1]
  · by_cases c2 : j < off + vs.length
    · rw [List.append_assoc, List.getElem?_append_right (by omega), List.getElem?_append_left (by omega), if_pos ⟨by omega, c2⟩, htl]
    · rw [List.getElem?_append_right (by simp; omega), if_neg (by omega), List.getElem?_drop]
      congr 1
      simp
      omega

/-- A row goes to a new block. -/
theorem SR.moveRow (h : SR c s a w M B) {b g g' sz : Nat} {es es' : List AV} (hget : M.H.get b = some (.row sz g es)) (hg : g ≤ g') (hne : g = g' → False) {C : Array Value} {T : TypeId} {w1 : World}
    (hw1 : w1.heap = w.heap) (hos : w1.os = w.os) (htape : w1.tape = w.tape) (hout : w1.output = w.output)
    (hC : VRs w (XX c.Y M s.boxes B) (some M) (C.toList.take (flat es').length) (flat es')) (hsz : ∀ e ∈ es', e.cells.length = sz) (h1 : ∀ a ∈ flat es', a.one = true) :
    SR c (setRow s b sz g' es') a (w1.alloc (.cells C T)) ⟨turnβ M b (w.heap.size, 0), (setRow s b sz g' es').heap⟩ B ∧
      Fr (fun _ => False) w M (setRow s b sz g' es').lo (w1.alloc (.cells C T)) ⟨turnβ M b (w.heap.size, 0), (setRow s b sz g' es').heap⟩ ∧
      (w1.alloc (.cells C T)).there w.heap.size 0 C.size := by
  have hheap := h.heap
  have hbl : b < M.H.length := Heap.get_lt hget
  have hlive : M.live b := by unfold Mem.live; rw [hget]; rfl
  have hsize : (w1.alloc (.cells C T)).heap.size = w.heap.size + 1 := by simp [World.alloc, hw1]
  have hnewb : (w1.alloc (.cells C T)).heap[w.heap.size]? = some (.cells C T) := by
    have := heap_alloc_last w1 (.cells C T)
    rwa [hw1] at this
  have hold : ∀ k, k < w.heap.size → (w1.alloc (.cells C T)).heap[k]? = w.heap[k]? := fun k hk => by
    rw [RowKit.Below.heap_alloc w1 _ k (by rw [hw1]; exact hk), hw1]
  have hcell : ∀ j, (w1.alloc (.cells C T)).cell? ⟨w.heap.size, j, none⟩ = C[j]? := fun j => by simp [World.cell?, hnewb]
  have hfro : ∀ j, (w1.alloc (.cells C T)).frozen? ⟨w.heap.size, j, none⟩ = false := fun j => by simp [World.frozen?, hnewb]
  have hth : (w1.alloc (.cells C T)).there w.heap.size 0 C.size := fun j hj => by rw [Nat.zero_add, hcell, hfro]; simp [hj]
  have hle : (flat es').length ≤ C.size := by have := hC.1; simp at this; omega
  have hβ : (Mem.mk (turnβ M b (w.heap.size, 0)) (setRow s b sz g' es').heap).β b = (w.heap.size, 0) := by simp [turnβ]
  have key := h.upd (b := b) (blk := .row sz g' es') (p := (w.heap.size, 0)) (w' := w1.alloc (.cells C T)) (s' := setRow s b sz g' es') rfl rfl rfl (Nat.min_le_right _ _)
    (by rw [hheap]; simp [setRow]) (fun k => by rw [hheap] at hbl ⊢; exact get_set hbl _ k) (fun k hk => by rw [hheap]; exact List.getElem?_set_ne (by omega))
    (by simp [World.alloc, hos]) (by simp [World.alloc, htape]) (by simp [World.alloc, hout]) (by omega)
    (fun k hk _ => hold k hk) (.inr (Nat.le_refl _)) (by rw [hsize]; exact Nat.lt_succ_self _)
    (fun _ => ⟨g, es, hget, hg, fun e => (hne e).elim⟩)
    (fun hst => by
      refine ⟨⟨C.toList.take (flat es').length, ?_, hC.stays hst⟩, ?_, hsz, h1⟩
      · rw [hβ]
        intro j v hv
        rw [Nat.zero_add, hcell]
        rw [List.getElem?_take] at hv
        split at hv
        · simpa using hv
        · cases hv
      · rw [hβ]
        exact fun j hj => hth j (Nat.lt_of_lt_of_le hj hle))
  exact ⟨key.1, key.2 _ (Nat.min_le_right _ _), hth⟩

/-- Some of a row's cells are written in place. -/
theorem SR.writeRow (h : SR c s a w M B) {b g g' sz : Nat} {es es' : List AV} (hget : M.H.get b = some (.row sz g es)) (hg : g ≤ g') (hle : g = g' → es.length ≤ es'.length) {off : Nat} {vs : List Value} {us : List AV}
    (hvs : VRs w (XX c.Y M s.boxes B) (some M) vs us) (hfit : off + us.length ≤ (flat es).length) (hflat : flat es' = splice (flat es) off us)
    (hu : ∀ a ∈ us, a.one = true) (hsz : ∀ e ∈ es', e.cells.length = sz) :
    SR c (setRow s b sz g' es') a (w.setCells (M.β b).1 ((M.β b).2 + off) vs) ⟨M.β, (setRow s b sz g' es').heap⟩ B ∧
      Fr (fun _ => False) w M (setRow s b sz g' es').lo (w.setCells (M.β b).1 ((M.β b).2 + off) vs) ⟨M.β, (setRow s b sz g' es').heap⟩ := by
  have hR := h.hr.row b sz g es hget
  obtain ⟨vals, hr1, hr2⟩ := hR.ex
  have hvl := hvs.1
  have hl := hr2.1
  have hov := fun j => over_get (vals := vals) (vs := vs) (off := off) (by omega) j
  have hsp := hr2.splice hvs hfit (out := vals.take off ++ vs ++ vals.drop (off + vs.length)) (by simp; omega) hov
  refine h.rewriteRow hget hg hle (nv := vals.take off ++ vs ++ vals.drop (off + vs.length)) (fun j v hv => ?_) (by rw [hflat]; exact hsp) (by rw [hflat, splice_length hfit]; exact hR.there) hsz
    (by rw [hflat]; exact splice_one hR.one hu)
  rw [hov] at hv
  exact setCells_range hr1 (there_sub hR.there off vs.length (by omega)) j v hv

theorem sound_store {t : TypeId} {x y : Operand} {sx sy : SX} {sz : Nat} (ho : o.op = .store t x y) (hsz : szOf c.P t = some sz) (hx : cX c.h x = some sx) (hy : cX c.h y = some sy) (hd : DstOk c o) :
    Sound c o (.store sz sx sy) := by
  intro s s' a w M B h hs K Q hK
  have hrun : execOp a.eval o = (do Instr.storeAt t (a.eval x) (a.eval y); pure .skip) := by unfold execOp; rw [ho]
  simp only [sop] at hs
  split at hs
  · rename_i b g i off v hx1 hy1
    split at hs
    · rename_i n es hrow
      split at hs
      · rename_i hc
        split at hs
        · rename_i es' hes'
          cases hs
          have hb := h.val hx hx1
          have hv := h.val hy hy1
          rw [← h.heap] at hrow
          have hget := row_get hrow
          generalize a.eval x = vx at hb hrun
          generalize a.eval y = vy at hv hrun
          have hvc := hv.cells
          have hone := hv.plain_one hc.2
          have hR := h.hr.row b n g es hget
          obtain ⟨vals, hr1, hr2⟩ := hR.ex
          obtain ⟨f1, f2, f3, f4, f5⟩ := storeRow_flat hes' hR.sz hR.one hone
          have hfl := flat_length hR.sz
          have hle : i * n + n ≤ (flat es).length := by rw [hfl, ← Nat.succ_mul]; exact Nat.mul_le_mul_right _ f3
          have hsl : (flat es').length = (flat es).length := by rw [f1, splice_length (by omega)]
          cases hb
          rename_i p hlt hg hh
          rw [hh n es hget] at hrun
          have key := h.writeRow hget (Nat.le_refl g) (fun _ => by omega) (es' := es') (off := i * n + off) hvc (by omega) f1 hone f5
          have hsr := storeVar_run (P := c.P) (w := w) (b := (M.β b).1) (o := (M.β b).2 + i * n + off) hsz (v := vy) (by have := hvc.1; simp at this; omega) (hvc.one hone)
            (by have := there_sub hR.there (i * n + off) sz (by omega); rwa [← Nat.add_assoc] at this)
          unfold Oper.wp
          rw [hrun, Sem.run_bind, hsr, Result.andThen_ok]
          rw [← Nat.add_assoc] at key
          refine hK _ _ _ B (key.1.puts hd fun _ e => by cases e) ?_ ?_
          · rw [put_lo]
            exact key.2.mono (Nat.le_refl _) fun _ _ h => h.elim
          · rw [put_lo]
            exact Nat.min_le_left _ _
        · cases hs
      · cases hs
    · cases hs
  · cases hs

/-- What `append` and `copy` take. -/
theorem source_run (h : SR c s a w M B) {vy : Value} {y : AV} {ys : List AV} {tx : TypeId} {sz : Nat} (hk : (∃ e', c.P.underlying tx = some (.slice e')) ∨ c.P.underlying tx = some .string)
    (hv : VR w (XX c.Y M s.boxes B) (some M) vy y) (hs : source M.H y = some ys) (hok : szOk sz ys = true) (h0 : 0 < sz) :
    ∃ news, Src c.P sz tx vy ys.length news w ∧ VRs w (XX c.Y M s.boxes B) (some M) news (flat ys) ∧ (∀ a ∈ flat ys, a.one = true) := by
  have hall := szOk_all hok
  have none0 : ∀ (p : Option Addr) (cap : Nat), Src c.P sz tx (.slice p 0 cap) 0 [] w := fun p cap => by
    refine ⟨hk, fun _ => rfl, ?_, ?_, by simp, fun _ h => by cases h⟩ <;> cases p <;> simp [Builtin.firstCells, loadCells, loadCellsFrom]
  unfold source at hs
  split at hs
  · rename_i l
    cases hs
    cases hv
    rename_i str
    have hsz1 : sz = 1 ∨ str.data.toList = [] := by
      generalize str.data.toList = l at hall
      cases l with
      | nil => exact .inr rfl
      | cons x r =>
        have := hall (.int .u8 x.toNat) (by simp)
        left
        simpa [AV.cells] using this.symm
    have hvr : VRs w (XX c.Y M s.boxes B) (some M) (byteCells str) (flat (str.data.toList.map fun c => .int .u8 c.toNat)) := by
      have hf : flat (str.data.toList.map fun c => AV.int .u8 c.toNat) = str.data.toList.map fun c => AV.int .u8 c.toNat := by
        generalize str.data.toList = l
        induction l with
        | nil => rfl
        | cons x r ih => rw [List.map_cons, flat_cons, ih]; rfl
      rw [hf]
      refine ⟨by simp [byteCells], fun k v av h1 h2 => ?_⟩
      simp only [byteCells, List.getElem?_map, Option.map_eq_some_iff] at h1 h2
      obtain ⟨x, hx, rfl⟩ := h1
      obtain ⟨x', hx', rfl⟩ := h2
      rw [hx] at hx'
      cases hx'
      exact .int _ _
    have hlen : (str.data.toList.map fun c => AV.int .u8 c.toNat).length = str.size := by simp
    refine ⟨byteCells str, ?_, hvr, fun x hx => ?_⟩
    · rw [hlen]
      have hfc : ∀ w' : World, (Builtin.firstCells sz str.size (.string str)).run c.P w' = .ok (byteCells str).toArray w' := fun w' => firstCells_string (P := c.P) str w'
      refine ⟨hk, fun _ => rfl, hfc w, hfc w.drew, ?_, fun u hu => ?_⟩
      · rw [byteCells_length]
        rcases hsz1 with e | e
        · rw [e, Nat.mul_one]
        · have : str.size = 0 := by have := congrArg List.length e; rw [Array.length_toList] at this; exact this
          rw [this, Nat.zero_mul]
      · obtain ⟨_, _, rfl⟩ := List.mem_map.1 hu
        rfl
    · obtain ⟨y, hy, hx⟩ := mem_flat.1 hx
      obtain ⟨z, _, rfl⟩ := List.mem_map.1 hy
      simp [AV.cells] at hx
      subst hx
      rfl
  · rename_i hnstr
    clear hnstr
    unfold elems at hs
    split at hs
    · cases hs; cases hv; exact ⟨[], none0 _ _, VRs.nil, fun _ h => by cases h⟩
    · cases hs; cases hv; exact ⟨[], none0 _ _, VRs.nil, fun _ h => by cases h⟩
    · rename_i es
      cases hs
      cases hv
      · exact ⟨[], none0 _ _, VRs.nil, fun _ h => by cases h⟩
      · rename_i q p cap z vals hX hc hrg hcap hl hall' h1 hv
        have hfl := flat_length hall
        have hvs : VRs w (XX c.Y M s.boxes B) none vals (flat ys) := ⟨hl, hv⟩
        refine ⟨vals, Src.ofSlice' w hk ⟨q, p, none⟩ ys.length cap vals (by rw [hl, hfl]) (fun j u hj => by rw [Addr.add_mid]; exact hrg j u hj) (hvs.one h1), ⟨hl, fun k v x e1 e2 => (hv k v x e1 e2).any _⟩, h1⟩
    · rename_i b g off len
      split at hs
      · rename_i z es hrow
        split at hs
        · rename_i hle
          cases hs
          cases hv
          rename_i p cap hlt hg hh
          have hget := row_get hrow
          obtain ⟨g1, g2, g3⟩ := hh z es hget
          have hR := h.hr.row b z g es hget
          have hlen : ((es.drop off).take len).length = len := by simp; omega
          by_cases hl0 : len = 0
          · subst hl0
            simp only [List.take_zero, List.length_nil]
            exact ⟨[], none0 _ _, by simpa [flat] using VRs.nil, fun _ h => by simp [flat] at h⟩
          · have hz : z = sz := by
              have hm : es[off]'(by omega) ∈ (es.drop off).take len := by
                rw [List.mem_take_iff_getElem]
                exact ⟨0, by simp; omega, by simp⟩
              rw [← hall _ hm, hR.sz _ (List.getElem_mem _)]
            subst hz
            rcases g3 with g3 | ⟨g3, g4⟩
            · omega
            · obtain ⟨vals, hr1, hr2⟩ := hR.ex
              have hvs := VRs_sub hr2 (off * z) (len * z)
              rw [flat_drop off hR.sz, flat_take len (fun e he => hR.sz e (List.mem_of_mem_drop he))] at hvs
              have hrg := rangeAt_sub hr1 (off * z) (len * z)
              have hone : ∀ x ∈ flat ((es.drop off).take len), x.one = true := fun x hx => by
                obtain ⟨y, hy, hx⟩ := mem_flat.1 hx
                exact hR.one x (mem_flat.2 ⟨y, List.mem_of_mem_drop (List.mem_of_mem_take hy), hx⟩)
              have hfl := flat_length hall
              rw [hlen, g3]
              exact ⟨_, Src.ofSlice' w hk ⟨_, _, none⟩ len cap _ (by rw [hvs.1, hfl, hlen]) (fun j u hj => by rw [Addr.add_mid]; exact hrg j u hj) (hvs.one hone), hvs, hone⟩
        · cases hs
      · cases hs
    · cases hs

/-- `append`, as the compiler takes it. -/
structure AppTy (c : Ctx) (t tx e : TypeId) (i : TypeInfo) : Prop where
  ht : c.P.underlying t = some (.slice e)
  hx : (∃ e', c.P.underlying tx = some (.slice e')) ∨ c.P.underlying tx = some .string
  hi : c.P.info? e = some i
  h0 : 0 < i.size
  hz : (i.zero.map (·.cells.size)) = some i.size

theorem append_grow (h : SR c s a w M B) {t tx ty e : TypeId} {i : TypeInfo} (hT : AppTy c t tx e i) {base : Option Addr} {sLen sCap : Nat} {olds : List Value} {oes ys : List AV} {x : Value} {news : List Value}
    (hold : (Builtin.firstCells i.size sLen (.slice base sLen sCap)).run c.P w.drew = .ok olds.toArray w.drew) (holds : VRs w (XX c.Y M s.boxes B) (some M) olds (flat oes)) (hol : oes.length = sLen) (hosz : ∀ e ∈ oes, e.cells.length = i.size)
    (hsrc : Src c.P i.size tx x ys.length news w) (hnews : VRs w (XX c.Y M s.boxes B) (some M) news (flat ys)) (hg : sCap < sLen + ys.length)
    (hb : (sLen + ys.length) * i.bytes ≤ maxBytes) (hm : sLen + ys.length ≤ maxBytes) :
    ∃ cap C, (Builtin.append_ #[t, tx] ty #[.slice base sLen sCap, x]).run c.P w = .ok (.slice (some ⟨w.heap.size, 0, none⟩) (sLen + ys.length) cap) (w.drew.alloc (.cells C e)) ∧
      sLen + ys.length ≤ cap ∧ C.size = cap * i.size ∧ VRs w (XX c.Y M s.boxes B) (some M) (C.toList.take (flat (oes ++ ys)).length) (flat (oes ++ ys)) := by
  have hz := hT.hz
  cases hzv : i.zero with
  | none => rw [hzv] at hz; cases hz
  | some z =>
    have hzs : z.cells.size = i.size := by rw [hzv] at hz; simpa using hz
    have hge := grownCap_ge w (sLen + ys.length) sCap e
    have hfit := growslice_fits hg (bytes := i.bytes) (by unfold maxBytes at hb; exact hb)
    have hrun := run_append_grow_src (P := c.P) w t tx ty e i z hT.ht hT.hi hzv base sLen sCap olds hold x ys.length news hsrc hg (by unfold maxBytes at hm; omega) hfit
    have happ := holds.append hnews
    rw [← flat_append] at happ
    have hl1 := happ.1
    have hlen : (olds ++ news).length = (sLen + ys.length) * i.size := by
      have := hsrc.newsLen
      have hol' : olds.length = sLen * i.size := by
        rw [holds.1, flat_length hosz, hol]
      rw [List.length_append, hol', this, Nat.add_mul]
    refine ⟨_, _, hrun, hge, ?_, ?_⟩
    · simp only [Array.size_append, List.size_toArray, size_zeroCells, hzs, hlen, ← Nat.add_mul]
      congr 1
      omega
    · have e1 : (((olds ++ news).toArray ++ Builtin.zeroCells z.cells (grownCap w (sLen + ys.length) sCap e - (sLen + ys.length))).toList).take (flat (oes ++ ys)).length = olds ++ news := by
        rw [Array.toList_append, ← hl1]
        exact List.take_left
      rw [e1]
      exact happ

theorem vs_append {t tx ty e : TypeId} {x y : Operand} {sx sy : SX} {i : TypeInfo} (hT : AppTy c t tx e i) (hc : ∀ ρ, execOp ρ o = (do pure (.value (← Builtin.append_ #[t, tx] ty #[ρ x, ρ y])))) (hx : cX c.h x = some sx) (hy : cX c.h y = some sy) :
    VSound c o (.append i.size i.bytes sx sy) := by
  intro s s1 v a w M B h hs
  simp only [aop] at hs
  split at hs
  · rename_i av ay hav hay
    split at hs
    · rename_i ys hys
      split at hs
      · rename_i hok
        rw [hc]
        have hb := h.val hx hav
        have hby := h.val hy hay
        generalize a.eval x = vx at hb
        generalize a.eval y = vy at hby
        rw [← h.heap] at hys
        obtain ⟨news, hsrc, hnews, hone⟩ := source_run h hT.hx hby hys hok hT.h0
        have hysz := szOk_all hok
        unfold appendOp at hs
        -- a first operand without room
        have fresh : ∀ (p : Option Addr), (ys ≠ [] → ys.length * i.bytes ≤ maxBytes ∧ ys.length ≤ maxBytes → ∃ vv w' M', (do pure (Next.value (← Builtin.append_ #[t, tx] ty #[.slice p 0 0, vy])) : Sem Next).run c.P w = .ok (.value vv) w' ∧
            SR c (addRow s i.size ys) a w' M' B ∧ VR w' (XX c.Y M' s.boxes B) (some M') vv (.ref s.heap.length 0 0 ys.length) ∧ Fr (fun _ => False) w M s.lo w' M') ∧
            (ys = [] → (Builtin.append_ #[t, tx] ty #[.slice p 0 0, vy]).run c.P w = .ok (.slice p 0 0) w) := fun p => by
          refine ⟨fun hne hbd => ?_, fun he => ?_⟩
          · have hpos : 0 < ys.length := List.length_pos_iff.2 hne
            have hold : (Builtin.firstCells i.size 0 (.slice p 0 0)).run c.P w.drew = .ok ([] : List Value).toArray w.drew := by
              cases p <;> simp [Builtin.firstCells, loadCells, loadCellsFrom]
            obtain ⟨cap, C, g1, g2, g3, g4⟩ := append_grow (ty := ty) h hT (base := p) (sLen := 0) (sCap := 0) (oes := []) hold VRs.nil rfl (by simp) hsrc hnews (by omega) (by simpa using hbd.1) (by simpa using hbd.2)
            simp only [Nat.zero_add, List.nil_append] at g1 g2 g4
            have hn := h.newRow (sz := i.size) (es := ys) (C := C) (T := e) (w1 := w.drew) rfl rfl rfl rfl g4 hysz hone
            refine ⟨_, _, _, runV g1, hn.1, new_ref h.heap rfl g2 ?_, hn.2.1⟩
            have := hn.2.2
            rwa [g3] at this
          · subst he
            exact run_append_nothing w t tx ty e i hT.ht hT.hi p 0 0 (Nat.le_refl _) vy (by
              have := hsrc
              have hn : news = [] := List.eq_nil_of_length_eq_zero (by rw [hnews.1]; rfl)
              subst hn
              exact this)
        cases av <;> simp only at hs <;> (try (cases hs; done))
        case nilsl =>
          split at hs
          · cases hs
            cases hb
            exact ⟨_, w, M, runV ((fresh none).2 rfl), h, .nilsl, Fr.refl _ _ _ _, Nat.le_refl _⟩
          · rename_i hne
            split at hs
            · rename_i hbd
              cases hs
              cases hb
              obtain ⟨vv, w', M', k1, k2, k3, k4⟩ := (fresh none).1 hne hbd
              exact ⟨vv, w', M', k1, k2, k3, k4, Nat.le_refl _⟩
            · cases hs
        case emp =>
          split at hs
          · cases hs
            cases hb
            exact ⟨_, w, M, runV ((fresh _).2 rfl), h, .emp _, Fr.refl _ _ _ _, Nat.le_refl _⟩
          · rename_i hne
            split at hs
            · rename_i hbd
              cases hs
              cases hb
              obtain ⟨vv, w', M', k1, k2, k3, k4⟩ := (fresh _).1 hne hbd
              exact ⟨vv, w', M', k1, k2, k3, k4, Nat.le_refl _⟩
            · cases hs
        case ref b g off len =>
          split at hs
          · rename_i z es hrow
            split at hs
            · rename_i hcond
              obtain ⟨rfl, rfl, hle, hbd, hmx⟩ := hcond
              rw [← h.heap] at hrow
              have hget := row_get hrow
              have hR := h.hr.row b i.size g es hget
              have hbl := Heap.get_lt hget
              cases hb
              rename_i p cap hlt hg hh
              obtain ⟨g1, g2, g3⟩ := hh i.size es hget
              split at hs
              · cases hs
                refine ⟨_, w, M, runV (run_append_nothing w t tx ty e i hT.ht hT.hi (some p) len cap g1 vy ?_), h, .ref _ _ _ _ _ _ hlt hg hh, Fr.refl _ _ _ _, Nat.le_refl _⟩
                have hn : news = [] := List.eq_nil_of_length_eq_zero (by rw [hnews.1]; rfl)
                subst hn
                exact hsrc
              · rename_i hne
                cases hs
                have hpos : 0 < ys.length := List.length_pos_iff.2 hne
                have htk : ∀ x ∈ es.take len, x.cells.length = i.size := fun x hx => hR.sz x (List.mem_of_mem_take hx)
                have hesz : ∀ x ∈ es.take len ++ ys, x.cells.length = i.size := fun x hx => by
                  rcases List.mem_append.1 hx with h | h
                  · exact htk x h
                  · exact hysz x h
                have hes1 : ∀ x ∈ flat (es.take len ++ ys), x.one = true := fun x hx => by
                  rw [flat_append] at hx
                  rcases List.mem_append.1 hx with h | h
                  · obtain ⟨y, hy, hx⟩ := mem_flat.1 h
                    exact hR.one x (mem_flat.2 ⟨y, List.mem_of_mem_take hy, hx⟩)
                  · exact hone x h
                obtain ⟨vals, hr1, hr2⟩ := hR.ex
                have hold1 := hr2.take (len * i.size)
                rw [flat_take len hR.sz] at hold1
                have hrg1 : w.rangeAt (M.β b).1 (M.β b).2 (vals.take (len * i.size)) := by
                  have := rangeAt_sub hr1 0 (len * i.size)
                  simpa using this
                have htl : (es.take len).length = len := by simp; omega
                have hol : (vals.take (len * i.size)).length = len * i.size := by rw [hold1.1, flat_length htk, htl]
                by_cases hroom : len + ys.length ≤ cap
                · -- in place
                  rcases g3 with g3 | ⟨g3, g4⟩
                  · omega
                  · simp only [Nat.zero_mul, Nat.add_zero] at g3 g4
                    subst g3
                    have hnl := hsrc.newsLen
                    have hth : w.there (M.β b).1 ((M.β b).2 + len * i.size) news.length := there_sub g4 (len * i.size) news.length (by rw [hnl, ← Nat.add_mul]; exact Nat.mul_le_mul_right _ hroom)
                    have hrun := run_append_room_src (P := c.P) w t tx ty e i hT.ht hT.hi (M.β b).1 (M.β b).2 len cap vy ys.length news hsrc hroom (fun j hj => (hth j hj).1) (fun j hj => (hth j hj).2)
                    have hfl : (flat (es.take len ++ ys)).length = (len + ys.length) * i.size := by rw [flat_length hesz, List.length_append, htl]
                    have key := h.rewriteRow hget (Nat.le_succ g) (fun e => by omega) (es' := es.take len ++ ys) (o' := (M.β b).2 + len * i.size) (vs := news) (nv := vals.take (len * i.size) ++ news)
                      (fun j u hu => by
                        refine setCells_range (off := len * i.size) hrg1 hth j u ?_
                        rw [List.getElem?_append, hol] at hu
                        split at hu
                        · rw [if_neg (by omega)]; exact hu
                        · have hj := (List.getElem?_eq_some_iff.1 hu).1
                          rw [if_pos ⟨by omega, by omega⟩]; exact hu)
                      (by rw [flat_append]; exact hold1.append hnews)
                      (by rw [hfl]; exact there_sub (o := (M.β b).2) g4 0 _ (by rw [Nat.zero_add]; exact Nat.mul_le_mul_right _ hroom))
                      hesz hes1
                    refine ⟨_, _, _, runV hrun, key.1, ?_, key.2, Nat.min_le_left _ _⟩
                    refine .ref _ b (g + 1) 0 _ cap (by simp only [setRow]; rw [List.length_set, ← h.heap]; exact hbl) (fun z' g' es' hz' => ?_) fun z' es' hz' => ?_
                    · have hz' : Heap.get ((s.heap).set b (some (.row i.size (g + 1) (es.take len ++ ys)))) b = some (.row z' g' es') := hz'
                      rw [get_set (by rw [← h.heap]; exact hbl), if_pos rfl] at hz'
                      cases hz'
                      exact Nat.le_refl _
                    · have hz' : Heap.get ((s.heap).set b (some (.row i.size (g + 1) (es.take len ++ ys)))) b = some (.row z' (g + 1) es') := hz'
                      rw [get_set (by rw [← h.heap]; exact hbl), if_pos rfl] at hz'
                      cases hz'
                      refine ⟨hroom, by rw [List.length_append, htl]; omega, .inr ⟨by simp, ?_⟩⟩
                      simp only [Nat.zero_mul, Nat.add_zero]
                      exact World.there_setCells g4 _ _ _
                · -- a new row
                  have hold : (Builtin.firstCells i.size len (.slice (some p) len cap)).run c.P w.drew = .ok (vals.take (len * i.size)).toArray w.drew := by
                    rcases g3 with g3 | ⟨g3, g4⟩
                    · have : len = 0 := by omega
                      subst this
                      simp [Builtin.firstCells, loadCells, loadCellsFrom]
                    · simp only [Nat.zero_mul, Nat.add_zero] at g3
                      subst g3
                      exact run_firstCells_some (P := c.P) w.drew i.size len _ len cap _ hol (fun j u hj => by
                        rw [Addr.add_mid]
                        exact hrg1 j u hj)
                  obtain ⟨cap', C, k1, k2, k3, k4⟩ := append_grow (ty := ty) h hT (base := some p) (sLen := len) (sCap := cap) (oes := es.take len) hold hold1 htl htk hsrc hnews (by omega) hbd hmx
                  have key := h.moveRow hget (Nat.le_succ g) (fun e => by omega) (C := C) (T := e) (w1 := w.drew) rfl rfl rfl rfl k4 hesz hes1
                  refine ⟨_, _, _, runV k1, key.1, ?_, key.2.1, Nat.min_le_left _ _⟩
                  refine .ref _ b (g + 1) 0 _ cap' (by simp only [setRow]; rw [List.length_set, ← h.heap]; exact hbl) (fun z' g' es' hz' => ?_) fun z' es' hz' => ?_
                  · have hz' : Heap.get ((s.heap).set b (some (.row i.size (g + 1) (es.take len ++ ys)))) b = some (.row z' g' es') := hz'
                    rw [get_set (by rw [← h.heap]; exact hbl), if_pos rfl] at hz'
                    cases hz'
                    exact Nat.le_refl _
                  · have hz' : Heap.get ((s.heap).set b (some (.row i.size (g + 1) (es.take len ++ ys)))) b = some (.row z' (g + 1) es') := hz'
                    rw [get_set (by rw [← h.heap]; exact hbl), if_pos rfl] at hz'
                    cases hz'
                    refine ⟨k2, by rw [List.length_append, htl]; omega, .inr ⟨by simp [turnβ], ?_⟩⟩
                    have := key.2.2
                    rw [k3] at this
                    simpa [turnβ] using this
            · cases hs
          · cases hs
      · cases hs
    · cases hs
  · cases hs
end
end Go.AI

/- Boxes of the frame and addresses within them: sound. -/
set_option linter.unusedVariables false
set_option linter.unusedSimpArgs false
namespace Go.AI
open Go

theorem killA_look {d : Nat} : ∀ {l : List (Nat × Option (Nat × Nat))} {t : Nat} {p : Nat × Nat}, look (l.map (killA d)) t = some p → look l t = some p ∧ p.1 ≠ d
  | [], t, p, h => by simp [look] at h
  | (k, v) :: r, t, p, h => by
    simp only [List.map_cons] at h
    unfold killA at h
    cases v with
    | none =>
      simp only [look_cons] at h ⊢
      split at h
      · cases h
      · rename_i hk; rw [if_neg hk]; exact killA_look h
    | some q =>
      simp only at h
      split at h
      · simp only [look_cons] at h ⊢
        split at h
        · cases h
        · rename_i hk; rw [if_neg hk]; exact killA_look h
      · rename_i hq
        simp only [look_cons] at h ⊢
        split at h
        · rename_i hk
          cases h
          rw [if_pos hk]
          exact ⟨rfl, hq⟩
        · rename_i hk; rw [if_neg hk]; exact killA_look h

section
variable {c : Ctx} {s s' : St} {a : Act} {w : World} {M : Mem} {B : Nat → Nat} {o : Oper}

/-- The slot of an address's operation. -/
def AdrOk (c : Ctx) (o : Oper) : Prop := ∃ d, o.dst = some d ∧ isA c.h d = true ∧ c.h.boxes.contains d = false ∧ d < c.ntmps

theorem SR.setAddr (h : SR c s a w M B) {t d off : Nat} {v : Value} (ht : isA c.h t = true) (htb : c.h.boxes.contains t = false) (hlt : t < c.ntmps)
    (hv : ∀ cells, look s.boxes d = some cells → v = .pointer (some ⟨B d, off, none⟩)) : SR c { s with addrs := (t, some (d, off)) :: s.addrs } (a.put (some t) v) w M B := by
  have hts : t < a.tmps.size := Nat.lt_of_lt_of_le hlt h.size
  exact {
    heap := h.heap
    size := by simpa [Act.put] using h.size
    defers := h.defers
    hr := h.hr
    notY := h.notY
    notB := h.notB
    env := fun k av hk => by
      have hne : t ≠ k := fun e => by subst e; have := h.envA _ av hk; rw [ht] at this; cases this
      simp only [Act.put, getD_set hts, if_neg hne]
      exact h.env k av hk
    envA := h.envA
    box := fun k cells hk => by
      have hb := h.box k cells hk
      have hne : t ≠ k := fun e => by subst e; have := hb.isA; rw [htb] at this; cases this
      refine { hb with slot := ?_ }
      simp only [Act.put, getD_set hts, if_neg hne]
      exact hb.slot
    inj := h.inj
    addr := fun k d' off' cells hk hb => by
      simp only [look_cons] at hk
      simp only [Act.put, getD_set hts]
      split at hk
      · rename_i e
        cases hk
        rw [if_pos e]
        exact hv cells hb
      · rename_i e
        rw [if_neg e]
        exact h.addr k d' off' cells hk hb
    addrA := fun k p hk => by
      simp only [look_cons] at hk
      split at hk
      · rename_i e; exact e ▸ ht
      · exact h.addrA k p hk
    base := h.base
    N0 := h.N0
    Ylt := h.Ylt
    lole := h.lole
    Yge := h.Yge
    gl := h.gl }

/-- An address's operation. -/
theorem Sound.adr (h : SR c s a w M B) (hd : AdrOk c o) {v : Value} {d off : Nat} {E : Nat → Prop} (hrun : (execOp a.eval o).run c.P w = .ok (.value v) w)
    (hv : ∀ cells, look s.boxes d = some cells → v = .pointer (some ⟨B d, off, none⟩)) {K : Act → World → Prop} {Q : Exit → Act → World → Prop} {t : Nat} (ht : o.dst = some t)
    (hK : ∀ a' w' M' B', SR c { s with addrs := (t, some (d, off)) :: s.addrs } a' w' M' B' → Fr E w M s.lo w' M' → s.lo ≤ s.lo → K a' w') : o.wp c.P a w K Q := by
  obtain ⟨t', h1, h2, h3, h4⟩ := hd
  rw [ht] at h1
  cases h1
  unfold Oper.wp
  rw [hrun]
  simp only [Oper.upon, ht]
  exact hK _ w M B (h.setAddr h2 h3 h4 hv) (Fr.refl _ _ _ _) (Nat.le_refl _)

theorem sound_movA {x : Operand} {t : Nat} (ho : o.op = .move x ∨ o.op = .assign x ∨ o.op = .nilCheck x) (hx : cA c.h x = some t) (hd : AdrOk c o) : Sound c o (.movA t) := by
  intro s s' a w M B h hs K Q hK
  obtain rfl := h.adr hx
  simp only [sop] at hs
  split at hs
  · rename_i d p hdst hp
    split at hs
    · rename_i hb
      cases hs
      obtain ⟨cells, hbx⟩ := Option.isSome_iff_exists.1 hb
      have hev : a.eval (.tmp t) = .pointer (some ⟨B p.1, p.2, none⟩) := h.addr t p.1 p.2 cells (by rw [hp]) hbx
      refine Sound.adr h hd (v := a.eval (.tmp t)) (d := p.1) (off := p.2) ?_ (fun _ _ => hev) hdst hK
      rcases ho with ho | ho | ho
      · unfold execOp; rw [ho]; rfl
      · unfold execOp; rw [ho]; rfl
      · have : execOp a.eval o = pure (.value (a.eval (.tmp t))) := by unfold execOp; rw [ho]; simp only [hev]
        rw [this]; rfl
    · cases hs
  · cases hs

theorem sound_faddrA {t : TypeId} {x : Operand} {tt : Nat} {fs : Array Field} {f : Nat} {fd : Field} {sz : Nat} (ho : o.op = .fieldAddr t x f) (ht : c.P.underlying t = some (.struct fs)) (hf : fs[f]? = some fd)
    (hsz : szOf c.P fd.type = some sz) (h0 : sz ≠ 0) (hx : cA c.h x = some tt) (hd : AdrOk c o) : Sound c o (.faddrA fd.offset tt) := by
  intro s s' a w M B h hs K Q hK
  obtain rfl := h.adr hx
  simp only [sop] at hs
  split at hs
  · rename_i d b off hdst hp
    split at hs
    · rename_i hb
      cases hs
      obtain ⟨cells, hbx⟩ := Option.isSome_iff_exists.1 hb
      have hev : a.eval (.tmp tt) = .pointer (some ⟨B b, off, none⟩) := h.addr tt b off cells hp hbx
      have hrun : execOp a.eval o = (do pure (.value (← Instr.fieldAt t (a.eval (.tmp tt)) f))) := by unfold execOp; rw [ho]
      rw [hev] at hrun
      refine Sound.adr h hd (v := .pointer (some ⟨B b, off + fd.offset, none⟩)) (d := b) (off := off + fd.offset) ?_ (fun _ _ => rfl) hdst hK
      rw [hrun]
      refine runV ?_
      rw [field_run ht hf hsz h0, Addr.add_mid]
    · cases hs
  · cases hs

theorem sound_iaddrA {t e : TypeId} {x i : Operand} {tt : Nat} {si : SX} {sz n : Nat} (ho : o.op = .indexAddr t x i) (ht : c.P.underlying t = some (.array n e)) (hsz : szOf c.P e = some sz)
    (hx : cA c.h x = some tt) (hi : cX c.h i = some si) (hd : AdrOk c o) : Sound c o (.iaddrA n sz tt si) := by
  intro s s' a w M B h hs K Q hK
  obtain rfl := h.adr hx
  simp only [sop] at hs
  split at hs
  · rename_i d b off k j hdst hp hj
    split at hs
    · rename_i hb
      cases hs
      obtain ⟨hb1, hb2, hb3⟩ := hb
      obtain ⟨cells, hbx⟩ := Option.isSome_iff_exists.1 hb3
      have hev : a.eval (.tmp tt) = .pointer (some ⟨B b, off, none⟩) := h.addr tt b off cells hp hbx
      have hrun : execOp a.eval o = (do pure (.value (← Instr.indexAt t (a.eval (.tmp tt)) (a.eval i)))) := by unfold execOp; rw [ho]
      rw [hev] at hrun
      have hib := h.val hi hj
      generalize a.eval i = vi at hib hrun
      cases hib
      refine Sound.adr h hd (v := .pointer (some ⟨B b, off + j.toNat * sz, none⟩)) (d := b) (off := off + j.toNat * sz) ?_ (fun _ _ => rfl) hdst hK
      rw [hrun]
      refine runV ?_
      rw [slotP_run ht hsz hb1 hb2, Addr.add_mid]
    · cases hs
  · cases hs

/-- A box anew. -/
theorem SR.newBox (h : SR c s a w M B) {d : Nat} {C : Array Value} {T : TypeId} {cells : List AV} (hd : c.h.boxes.contains d = true) (hlt : d < c.ntmps) (hC : VRs w (XX c.Y M s.boxes B) (some M) C.toList cells) (h1 : ∀ x ∈ cells, x.one = true) :
    ∃ B', SR c { s with boxes := (d, some cells) :: s.boxes, addrs := (d, some (d, 0)) :: s.addrs.map (killA d) } (a.put (some d) (.pointer (some ⟨w.heap.size, 0, none⟩))) (w.alloc (.cells C T)) M B' ∧
      Fr (fun _ => False) w M s.lo (w.alloc (.cells C T)) M := by
  obtain ⟨hj, hf⟩ := h.junk (.cells C T) w rfl rfl rfl rfl
  have hds : d < a.tmps.size := Nat.lt_of_lt_of_le hlt h.size
  have hnewb : (w.alloc (.cells C T)).heap[w.heap.size]? = some (.cells C T) := heap_alloc_last w _
  have hsize : (w.alloc (.cells C T)).heap.size = w.heap.size + 1 := by simp
  have hcell : ∀ j, (w.alloc (.cells C T)).cell? ⟨w.heap.size, j, none⟩ = C[j]? := fun j => by unfold World.cell?; simp only [hnewb]; rfl
  have hfro : ∀ j, (w.alloc (.cells C T)).frozen? ⟨w.heap.size, j, none⟩ = false := fun j => by unfold World.frozen?; simp only [hnewb]; simp
  have hcl : C.size = cells.length := by have := hC.1; simpa using this
  let B' : Nat → Nat := fun k => if k = d then w.heap.size else B k
  have hB' : ∀ k, k ≠ d → B' k = B k := fun k hk => by simp [B', hk]
  have hBd : B' d = w.heap.size := by simp [B']
  have hbx : ∀ k cs, look ((d, some cells) :: s.boxes) k = some cs → (k = d ∧ cs = cells) ∨ (k ≠ d ∧ look s.boxes k = some cs) := fun k cs hk => by
    simp only [look_cons] at hk
    split at hk
    · rename_i e; cases hk; exact .inl ⟨e.symm, rfl⟩
    · rename_i e; exact .inr ⟨fun h => e h.symm, hk⟩
  -- what may not be touched, in the new world
  have hX : ∀ k, k < w.heap.size → XX c.Y M ((d, some cells) :: s.boxes) B' k → XX c.Y M s.boxes B k := by
    intro k hk hx
    rcases hx with hx | hx | ⟨e, cs, he, rfl⟩
    · exact .inl hx
    · exact .inr (.inl hx)
    · rcases hbx e cs he with ⟨rfl, rfl⟩ | ⟨hne, he'⟩
      · rw [hBd] at hk; omega
      · rw [hB' e hne]; exact .inr (.inr ⟨e, cs, he', rfl⟩)
  have hst : Stays w (XX c.Y M s.boxes B) (some M) (w.alloc (.cells C T)) (XX c.Y M ((d, some cells) :: s.boxes) B') (some M) :=
    ⟨hf.size, hX, fun k hk _ => RowKit.Below.heap_alloc w _ k hk, fun M0 e => by cases e; exact ⟨_, rfl, Nat.le_refl _, hf.row, hf.map⟩⟩
  have hst0 : ∀ {k}, k < w.heap.size → (w.alloc (.cells C T)).heap[k]? = w.heap[k]? := fun hk => RowKit.Below.heap_alloc w _ _ hk
  refine ⟨B', {
    heap := h.heap
    size := by simpa [Act.put] using h.size
    defers := h.defers
    hr := {
      row := fun b z g es hg => (h.hr.row b z g es hg).stays hst rfl (hst0 (h.hr.lt b (by unfold Mem.live; rw [hg]; rfl)))
      map := fun b kvs hg => (h.hr.map b kvs hg).stays hst rfl (hst0 (h.hr.lt b (by unfold Mem.live; rw [hg]; rfl)))
      inj := h.hr.inj
      lt := fun b hb => Nat.lt_of_lt_of_le (h.hr.lt b hb) hf.size
      ge := h.hr.ge }
    notY := h.notY
    notB := fun b k cs hb hk => by
      rcases hbx k cs hk with ⟨rfl, rfl⟩ | ⟨hne, hk'⟩
      · rw [hBd]; have := h.hr.lt b hb; omega
      · rw [hB' k hne]; exact h.notB b k cs hb hk'
    env := fun k v hk => by
      have hA := h.envA k v hk
      have hne : d ≠ k := fun e => by subst e; rw [isA_box hd] at hA; cases hA
      simp only [Act.put, getD_set hds, if_neg hne]
      exact (h.env k v hk).stays hst
    envA := h.envA
    box := fun k cs hk => by
      rcases hbx k cs hk with ⟨rfl, rfl⟩ | ⟨hne, hk'⟩
      · exact {
          slot := by simp only [Act.put, getD_set hds, if_true, hBd]
          isA := hd
          lt := by rw [hBd, hsize]; exact Nat.lt_succ_self _
          notY := fun hy => by rw [hBd] at hy; have := h.Ylt _ hy; have := h.base; omega
          ge := by rw [hBd]; exact h.base
          ex := ⟨C.toList, fun j v hv => by rw [hBd, Nat.zero_add, hcell]; simpa using hv, hC.stays hst⟩
          there := fun j hj => by rw [hBd, Nat.zero_add, hcell, hfro]; simp; omega
          one := h1 }
      · have hb := h.box k cs hk'
        obtain ⟨vals, hr1, hr2⟩ := hb.ex
        have hBk := hB' k hne
        exact {
          slot := by simp only [Act.put, getD_set hds, if_neg (Ne.symm hne), hBk]; exact hb.slot
          isA := hb.isA
          lt := by rw [hBk]; exact Nat.lt_of_lt_of_le hb.lt hf.size
          notY := by rw [hBk]; exact hb.notY
          ge := by rw [hBk]; exact hb.ge
          ex := ⟨vals, by rw [hBk]; exact rangeAt_of_heap (hst0 hb.lt) hr1, hr2.stays hst⟩
          there := by rw [hBk]; exact there_of_heap (hst0 hb.lt) hb.there
          one := hb.one }
    inj := fun k k' x y hk hk' e => by
      rcases hbx k x hk with ⟨rfl, rfl⟩ | ⟨hne, hk1⟩ <;> rcases hbx k' y hk' with ⟨rfl, rfl⟩ | ⟨hne', hk1'⟩
      · rfl
      · rw [hBd, hB' k' hne'] at e; have := (h.box k' y hk1').lt; omega
      · rw [hBd, hB' k hne] at e; have := (h.box k x hk1).lt; omega
      · rw [hB' k hne, hB' k' hne'] at e; exact h.inj k k' x y hk1 hk1' e
    addr := fun t k off cs ht hk => by
      simp only [look_cons] at ht
      split at ht
      · rename_i e
        simp only [Option.some.injEq, Prod.mk.injEq] at ht
        obtain ⟨rfl, rfl⟩ := ht
        simp only [Act.put, getD_set hds, ← e, if_true, hBd]
      · rename_i e
        obtain ⟨ht1, ht2⟩ := killA_look ht
        rcases hbx k cs hk with ⟨rfl, rfl⟩ | ⟨hne, hk'⟩
        · exact absurd rfl ht2
        · simp only [Act.put, getD_set hds, if_neg e, hB' k hne]
          exact h.addr t k off cs ht1 hk'
    addrA := fun t p ht => by
      simp only [look_cons] at ht
      split at ht
      · rename_i e; rw [← e]; exact isA_box hd
      · exact h.addrA t p (killA_look ht).1
    base := by rw [hsize]; have := h.base; omega
    N0 := h.N0
    Ylt := h.Ylt
    lole := h.lole
    Yge := h.Yge
    gl := fun g cells hg => (h.gl g cells hg).stays hst }, hf⟩

theorem sound_allocA {e : TypeId} {z : AV} {d : Nat} (ho : o.op = .alloc e) (hz : zeroOf c.P e = some z) (hdst : o.dst = some d) (hd : c.h.boxes.contains d = true) (hlt : d < c.ntmps) : Sound c o (.allocA z.cells) := by
  intro s s' a w M B h hs K Q hK
  simp only [sop, hdst, Option.some.injEq] at hs
  subst hs
  obtain ⟨i, zv, hi, hzv, hzz⟩ := zeroOf_ok hz
  have hcl := ofV_cells hzz
  have hvr : VR w (XX c.Y M s.boxes B) (some M) zv z := ofV_VR hzz
  obtain ⟨B', k1, k2⟩ := h.newBox (T := e) hd hlt hvr.cells hcl.2
  have hrun : execOp a.eval o = (do pure (.value (← Instr.alloc e true (.tuple #[])))) := by unfold execOp; rw [ho]
  have hr : (Instr.alloc e true (.tuple #[])).run c.P w = .ok (.pointer (some ⟨w.heap.size, 0, none⟩)) (w.alloc (.cells zv.cells e)) := by
    simp [Instr.alloc, zeroValue, typeInfo, hi, hzv, newVar_run]
  unfold Oper.wp
  rw [hrun, runV hr]
  simp only [Oper.upon, hdst]
  exact hK _ _ M B' k1 (k2.mono (Nat.le_refl _) fun _ _ h => h.elim) (Nat.le_refl _)

theorem sound_boxA {e : TypeId} {x : Operand} {sx : SX} {sz d : Nat} (ho : o.op = .box e x) (hx : cX c.h x = some sx) (hdst : o.dst = some d) (hd : c.h.boxes.contains d = true) (hlt : d < c.ntmps) : Sound c o (.boxA sz sx) := by
  intro s s' a w M B h hs K Q hK
  simp only [sop, hdst] at hs
  split at hs
  · rename_i d' v heq hv
    cases heq
    split at hs
    · rename_i hc
      cases hs
      have hvr := h.val hx hv
      obtain ⟨B', k1, k2⟩ := h.newBox (T := e) hd hlt hvr.cells (hvr.plain_one hc.2)
      have hrun : execOp a.eval o = (do pure (.value (← Instr.box e (a.eval x)))) := by unfold execOp; rw [ho]
      have hr : (Instr.box e (a.eval x)).run c.P w = .ok (.pointer (some ⟨w.heap.size, 0, none⟩)) (w.alloc (.cells (a.eval x).cells e)) := by
        simp [Instr.box, newVar_run]
      unfold Oper.wp
      rw [hrun, runV hr]
      simp only [Oper.upon, hdst]
      exact hK _ _ M B' k1 (k2.mono (Nat.le_refl _) fun _ _ h => h.elim) (Nat.le_refl _)
    · cases hs
  · cases hs


theorem sound_storeA {t : TypeId} {x y : Operand} {tt : Nat} {sy : SX} {sz : Nat} (ho : o.op = .store t x y) (hsz : szOf c.P t = some sz) (hx : cA c.h x = some tt) (hy : cX c.h y = some sy) (hd : DstOk c o) :
    Sound c o (.storeA sz tt sy) := by
  intro s s' a w M B h hs K Q hK
  obtain rfl := h.adr hx
  have hrun : execOp a.eval o = (do Instr.storeAt t (a.eval (.tmp tt)) (a.eval y); pure .skip) := by unfold execOp; rw [ho]
  simp only [sop] at hs
  split at hs
  · rename_i d off v hp hv
    split at hs
    · rename_i cells hbx
      split at hs
      · rename_i hc
        obtain ⟨hc1, hc2, hc3⟩ := hc
        cases hs
        have hb := h.box d cells hbx
        have hvr := h.val hy hv
        have hvc := hvr.cells
        have hone := hvr.plain_one hc2
        have hev : a.eval (.tmp tt) = .pointer (some ⟨B d, off, none⟩) := h.addr tt d off cells hp hbx
        rw [hev] at hrun
        generalize a.eval y = vy at hvr hvc hrun
        obtain ⟨vals, hr1, hr2⟩ := hb.ex
        have hvl := hvc.1
        have hl := hr2.1
        have hth : w.there (B d) (0 + off) vy.cells.toList.length := there_sub hb.there off _ (by omega)
        have hsr := storeVar_run (P := c.P) (w := w) (b := B d) (o := off) hsz (v := vy) (by simp at hvl; omega) (hvc.one hone) (by have := there_sub hb.there off sz (by omega); rwa [Nat.zero_add] at this)
        -- the world behind the store
        have hother : ∀ k, k ≠ B d → (w.setCells (B d) off vy.cells.toList).heap[k]? = w.heap[k]? := fun k hk => setCells_heap _ _ _ _ _ hk
        have hX : ∀ k, XX c.Y M ((d, some (splice cells off v.cells)) :: s.boxes) B k ↔ XX c.Y M s.boxes B k := fun k => by
          unfold XX
          refine or_congr Iff.rfl (or_congr Iff.rfl ⟨?_, ?_⟩)
          · rintro ⟨e, cs, he, hk⟩
            simp only [look_cons] at he
            split at he
            · rename_i e1; exact ⟨d, cells, hbx, e1 ▸ hk⟩
            · exact ⟨e, cs, he, hk⟩
          · rintro ⟨e, cs, he, hk⟩
            by_cases e1 : d = e
            · exact ⟨d, splice cells off v.cells, by simp [look_cons], e1 ▸ hk⟩
            · exact ⟨e, cs, by simp only [look_cons, if_neg e1]; exact he, hk⟩
        have hXd : XX c.Y M s.boxes B (B d) := .inr (.inr ⟨d, cells, hbx, rfl⟩)
        have hLd : ∀ b, M.live b → (M.β b).1 ≠ B d := fun b hl e => h.notB b d cells hl hbx e.symm
        have hst : Stays w (XX c.Y M s.boxes B) (some M) (w.setCells (B d) off vy.cells.toList) (XX c.Y M ((d, some (splice cells off v.cells)) :: s.boxes) B) (some M) :=
          ⟨by rw [setCells_size]; exact Nat.le_refl _, fun k _ hx => (hX k).1 hx, fun k _ hnx => hother k fun e => hnx (e ▸ hXd), fun M0 e => by
            cases e
            exact ⟨_, rfl, Nat.le_refl _, fun b z g es _ hg => ⟨g, es, hg, Nat.le_refl _, fun _ => ⟨rfl, Nat.le_refl _, fun o n ht => World.there_setCells ht _ _ _⟩⟩, fun b kvs _ hg => ⟨⟨kvs, hg⟩, rfl⟩⟩⟩
        have hfr : Fr (fun k => k = B d) w M s.lo (w.setCells (B d) off vy.cells.toList) M := {
          os := World.os_setCells _ _ _ _
          tape := setCells_tape _ _ _ _
          output := World.output_setCells _ _ _ _
          size := by rw [setCells_size]; exact Nat.le_refl _
          keep := fun k _ _ hk => hother k hk
          len := Nat.le_refl _
          row := fun b z g es _ hg => ⟨g, es, hg, Nat.le_refl _, fun _ => ⟨rfl, Nat.le_refl _, fun o n ht => World.there_setCells ht _ _ _⟩⟩
          map := fun b kvs _ hg => ⟨⟨kvs, hg⟩, rfl⟩
          live := fun b hb => .inl ⟨b, hb, rfl⟩
          low := fun b _ _ => ⟨rfl, rfl, fun hl => hother _ (hLd b hl)⟩ }
        have hov := fun j => over_get (vals := vals) (vs := vy.cells.toList) (off := off) (by omega) j
        have hsp := hr2.splice hvc (by omega) (out := vals.take off ++ vy.cells.toList ++ vals.drop (off + vy.cells.toList.length)) (by simp; simp at hl hvl; omega) hov
        have hcl : (splice cells off v.cells).length = cells.length := splice_length (by omega)
        have hbx2 : ∀ k cs, look ((d, some (splice cells off v.cells)) :: s.boxes) k = some cs → (k = d ∧ cs = splice cells off v.cells) ∨ (k ≠ d ∧ look s.boxes k = some cs) := fun k cs hk => by
          simp only [look_cons] at hk
          split at hk
          · rename_i e; cases hk; exact .inl ⟨e.symm, rfl⟩
          · rename_i e; exact .inr ⟨fun h => e h.symm, hk⟩
        have hbx3 : ∀ k cs, look ((d, some (splice cells off v.cells)) :: s.boxes) k = some cs → ∃ cs0, look s.boxes k = some cs0 := fun k cs hk => by
          rcases hbx2 k cs hk with ⟨rfl, rfl⟩ | ⟨_, hk'⟩
          · exact ⟨cells, hbx⟩
          · exact ⟨cs, hk'⟩
        have hBne : ∀ k cs, k ≠ d → look s.boxes k = some cs → B k ≠ B d := fun k cs hk hb' e => hk (h.inj k d cs cells hb' hbx e)
        have key : SR c { s with boxes := (d, some (splice cells off v.cells)) :: s.boxes } a (w.setCells (B d) off vy.cells.toList) M B := {
          heap := h.heap
          size := h.size
          defers := h.defers
          hr := {
            row := fun b z g es hg => (h.hr.row b z g es hg).stays hst rfl (hother _ (hLd b (by unfold Mem.live; rw [hg]; rfl)))
            map := fun b kvs hg => (h.hr.map b kvs hg).stays hst rfl (hother _ (hLd b (by unfold Mem.live; rw [hg]; rfl)))
            inj := h.hr.inj
            lt := fun b hb => by rw [setCells_size]; exact h.hr.lt b hb
            ge := h.hr.ge }
          notY := h.notY
          notB := fun b k cs hb hk => by obtain ⟨cs0, hk0⟩ := hbx3 k cs hk; exact h.notB b k cs0 hb hk0
          env := fun k u hk => (h.env k u hk).stays hst
          envA := h.envA
          box := fun k cs hk => by
            rcases hbx2 k cs hk with ⟨rfl, rfl⟩ | ⟨hne, hk'⟩
            · exact {
                slot := hb.slot
                isA := hb.isA
                lt := by rw [setCells_size]; exact hb.lt
                notY := hb.notY
                ge := hb.ge
                ex := ⟨vals.take off ++ vy.cells.toList ++ vals.drop (off + vy.cells.toList.length), fun j u hu => by
                  rw [hov] at hu
                  have := setCells_range (o := 0) (off := off) hr1 hth j u hu
                  rwa [Nat.zero_add off] at this, hsp.stays hst⟩
                there := by rw [hcl]; exact World.there_setCells hb.there _ _ _
                one := splice_one hb.one hone }
            · have hbk := h.box k cs hk'
              obtain ⟨vals', hr1', hr2'⟩ := hbk.ex
              have hhk := hother (B k) (hBne k cs hne hk')
              exact { hbk with
                lt := by rw [setCells_size]; exact hbk.lt
                ex := ⟨vals', rangeAt_of_heap hhk hr1', hr2'.stays hst⟩
                there := there_of_heap hhk hbk.there }
          inj := fun k k' x y hk hk' e => by
            obtain ⟨x0, hk0⟩ := hbx3 k x hk
            obtain ⟨y0, hk0'⟩ := hbx3 k' y hk'
            exact h.inj k k' x0 y0 hk0 hk0' e
          addr := fun t k off' cs ht hk => by obtain ⟨cs0, hk0⟩ := hbx3 k cs hk; exact h.addr t k off' cs0 ht hk0
          addrA := h.addrA
          base := by rw [setCells_size]; exact h.base
          N0 := h.N0
          Ylt := h.Ylt
          lole := h.lole
          Yge := h.Yge
          gl := fun g cells hg => (h.gl g cells hg).stays hst }
        unfold Oper.wp
        rw [hrun, Sem.run_bind, hsr, Result.andThen_ok]
        refine hK _ _ M B (key.puts hd fun _ e => by cases e) ?_ (by rw [put_lo]; exact Nat.le_refl _)
        rw [put_lo]
        exact hfr.mono (Nat.le_refl _) fun k _ hk => ⟨⟨sz, tt, sy, rfl⟩, d, cells, hbx, hk.symm⟩
      · cases hs
    · cases hs
  · cases hs
end
end Go.AI

/- Operators on two values: sound. -/
set_option linter.unusedVariables false
set_option linter.unusedSimpArgs false
namespace Go.AI
open Go

theorem bless_eq : ∀ a b : List UInt8, bless a b = Op.bytesLess a b
  | _, [] => by simp [bless, Op.bytesLess]
  | [], _ :: _ => rfl
  | a :: x, b :: y => by simp only [bless, Op.bytesLess, bless_eq x y]

section
variable {P : Program} {w : World} {X : Nat → Prop} {m : Option Mem}

/-- The value of a number or a truth. -/
def sv : AV → Value
  | .int k n => .int k n
  | .bool b => .bool b
  | _ => undef

theorem int_run {op : BinOp} {k : IntKind} {t : TypeId} {a b : Int} {r : AV} (h : intOp op k a b = some r) (x y : Operand) :
    ∃ v, (do eqGuard op t x y (.int k a) (.int k b); Go.binOp op t (.int k a) (.int k b)).run P w = .ok v w ∧ VR w X m v r := by
  refine ⟨sv r, ?_, ?_⟩
  · cases op <;> simp only [intOp] at h <;> (try split at h) <;> (try cases h) <;>
      simp [eqGuard, Go.binOp, Op.intArith, Op.intDiv, Op.intBits, Op.intCmp, sv, *]
  · cases op <;> simp only [intOp] at h <;> (try split at h) <;> (try cases h) <;> first | exact .int _ _ | exact .bool _

theorem shift_run {op : BinOp} {k k' : IntKind} {t : TypeId} {a b : Int} {r : AV} (hop : op = .shl ∨ op = .shr) (h : shiftOp op k a b = some r) (x y : Operand) :
    ∃ v, (do eqGuard op t x y (.int k a) (.int k' b); Go.binOp op t (.int k a) (.int k' b)).run P w = .ok v w ∧ VR w X m v r := by
  unfold shiftOp at h
  split at h
  · cases h
  · rename_i hb
    rcases hop with rfl | rfl
    · cases h; exact ⟨.int k _, by simp [eqGuard, Go.binOp, Op.shift, hb], .int _ _⟩
    · cases h; exact ⟨.int k _, by simp [eqGuard, Go.binOp, Op.shift, hb], .int _ _⟩

theorem str_run {op : BinOp} {t : TypeId} {a b : ByteArray} {r : AV} (h : strOp op a.data.toList b.data.toList = some r) (x y : Operand) :
    ∃ v, (do eqGuard op t x y (.string a) (.string b); Go.binOp op t (.string a) (.string b)).run P w = .ok v w ∧ VR w X m v r := by
  have hsz : ∀ s : ByteArray, s.data.toList.length = s.size := fun s => by rw [Array.length_toList]; rfl
  have hrun : ∀ op', op' = op → (do eqGuard op t x y (.string a) (.string b); Go.binOp op t (.string a) (.string b)).run P w = (Op.stringOp op a b).run P w := fun op' _ => by
    cases op <;> simp [eqGuard, Go.binOp]
  rw [hrun op rfl]
  unfold Op.stringOp
  simp only [ByteArray.toList_eq, ← bless_eq]
  cases op <;> simp only [strOp] at h <;> (try cases h; done)
  · split at h
    · rename_i hl
      cases h
      refine ⟨.string (a ++ b), ?_, ?_⟩
      · rw [hsz, hsz] at hl
        have h2 : ¬ (9223372036854775807 < ((a.size : Int) + (b.size : Int))) := by omega
        simp [IntKind.max, IntKind.signed, IntKind.bits, h2]
      · have := VR.str (w := w) (X := X) (m := m) (a ++ b)
        rwa [show (a ++ b).data.toList = a.data.toList ++ b.data.toList by simp [ByteArray.data_append]] at this
    · cases h
  all_goals
    cases h
    exact ⟨_, rfl, .bool _⟩

/-- What is known of a type by how its values are held against each other. -/
def EqTy (P : Program) (n : Nat) (t : TypeId) : Eqc → Prop
  | .int => ∃ k, P.underlying t = some (.int k)
  | .str => P.underlying t = some .string
  | .bool => P.underlying t = some .bool
  | .ptr => ∃ e, P.underlying t = some (.pointer e)
  | .slice => ∃ e, P.underlying t = some (.slice e)
  | .map => ∃ k e, P.underlying t = some (.map k e)
  | .func => ∃ a b c, P.underlying t = some (.func a b c)
  | .iface => ∃ ms, P.underlying t = some (.interface ms)
  | .struct fs => ∃ fields, P.underlying t = some (.struct fields) ∧ P.stoodInHeld t = false ∧ P.eqGuardType P.depth t = false ∧
      mapO (fun f => if f.name = "_" then none else match cEq P (n - 1) f.type with
        | some .int => some (f.offset, Eqc.int)
        | some .str => some (f.offset, Eqc.str)
        | some .bool => some (f.offset, Eqc.bool)
        | _ => none) fields.toList = some fs
  | .no => False

theorem cEq_ok {n : Nat} {t : TypeId} {e : Eqc} (h : cEq P n t = some e) : EqTy P n t e := by
  cases n with
  | zero => cases h
  | succ n =>
    unfold cEq at h
    split at h <;> (try cases h) <;> (try (rename_i hu; first | exact hu | exact ⟨_, hu⟩ | exact ⟨_, _, hu⟩ | exact ⟨_, _, _, hu⟩))
    · rename_i e hu
      split at h <;> cases h
      exact ⟨_, hu⟩
    · rename_i fs hu
      split at h
      · cases h
      · rename_i hg
        simp only [Bool.or_eq_true, not_or, Bool.not_eq_true] at hg
        simp only [Option.map_eq_some_iff] at h
        obtain ⟨l, hl, rfl⟩ := h
        exact ⟨fs, hu, hg.1, hg.2, hl⟩

section vals
variable {t : TypeId} (d : Nat)
theorem eqi_ptr {e : TypeId} (hu : P.underlying t = some (.pointer e)) (p : Option Addr) : (Op.equalIn (d + 1) t (.pointer p) (.pointer none)).run P w = .ok p.isNone w := by
  cases p <;> simp [Op.equalIn, run_underlying hu]
theorem eqi_ptr' {e : TypeId} (hu : P.underlying t = some (.pointer e)) (p : Option Addr) : (Op.equalIn (d + 1) t (.pointer none) (.pointer p)).run P w = .ok p.isNone w := by
  simp [Op.equalIn, run_underlying hu]
theorem eqi_slice {e : TypeId} (hu : P.underlying t = some (.slice e)) (p : Option Addr) (l c : Nat) : (Op.equalIn (d + 1) t (.slice p l c) (.slice none 0 0)).run P w = .ok p.isNone w := by
  cases p <;> simp [Op.equalIn, run_underlying hu]
theorem eqi_slice' {e : TypeId} (hu : P.underlying t = some (.slice e)) (p : Option Addr) (l c : Nat) : (Op.equalIn (d + 1) t (.slice none 0 0) (.slice p l c)).run P w = .ok p.isNone w := by
  simp [Op.equalIn, run_underlying hu]
theorem eqi_map {k e : TypeId} (hu : P.underlying t = some (.map k e)) (p : Option Nat) : (Op.equalIn (d + 1) t (.map p) (.map none)).run P w = .ok p.isNone w := by
  cases p <;> simp [Op.equalIn, run_underlying hu]
theorem eqi_map' {k e : TypeId} (hu : P.underlying t = some (.map k e)) (p : Option Nat) : (Op.equalIn (d + 1) t (.map none) (.map p)).run P w = .ok p.isNone w := by
  simp [Op.equalIn, run_underlying hu]
theorem eqi_fn {x y : Array TypeId} {b : Bool} (hu : P.underlying t = some (.func x y b)) (f : Fn) (l c : Array Value) : (Op.equalIn (d + 1) t (.func f l c) .nilFunc).run P w = .ok false w := by
  simp [Op.equalIn, run_underlying hu]
theorem eqi_fn' {x y : Array TypeId} {b : Bool} (hu : P.underlying t = some (.func x y b)) (f : Fn) (l c : Array Value) : (Op.equalIn (d + 1) t .nilFunc (.func f l c)).run P w = .ok false w := by
  simp [Op.equalIn, run_underlying hu]
theorem eqi_fn0 {x y : Array TypeId} {b : Bool} (hu : P.underlying t = some (.func x y b)) : (Op.equalIn (d + 1) t .nilFunc .nilFunc).run P w = .ok true w := by
  simp [Op.equalIn, run_underlying hu]
theorem eqi_if {ms : Array (String × TypeId)} (hu : P.underlying t = some (.interface ms)) (u : TypeId) (v : Value) : (Op.equalIn (d + 1) t (.iface u v) .nilIface).run P w = .ok false w := by
  simp [Op.equalIn, run_underlying hu]
theorem eqi_if' {ms : Array (String × TypeId)} (hu : P.underlying t = some (.interface ms)) (u : TypeId) (v : Value) : (Op.equalIn (d + 1) t .nilIface (.iface u v)).run P w = .ok false w := by
  simp [Op.equalIn, run_underlying hu]
theorem eqi_if0 {ms : Array (String × TypeId)} (hu : P.underlying t = some (.interface ms)) : (Op.equalIn (d + 1) t .nilIface .nilIface).run P w = .ok true w := by
  simp [Op.equalIn, run_underlying hu]
end vals

/-- `==` on what is no number and no text. -/
theorem eqAV_run {n : Nat} {t : TypeId} {e : Eqc} {x y : AV} {vx vy : Value} {r : Bool} (he : EqTy P n t e) (hr : eqAV e x y = some r)
    (hx : VR w X m vx x) (hy : VR w X m vy y) (d : Nat) : (Op.equalIn (d + 1) t vx vy).run P w = .ok r w := by
  unfold eqAV at hr
  split at hr
  case h_1 =>
    obtain ⟨k0, hu⟩ := he
    split at hr
    · rename_i hk; subst hk; cases hr; cases hx; cases hy; exact run_equalIn_int w d t _ k0 _ _ hu
    · cases hr
  case h_2 =>
    cases hr; cases hx; cases hy
    rw [run_equalIn_string w d t _ _ he, ByteArray.toList_eq, ByteArray.toList_eq]
  case h_3 => cases hr; cases hx; cases hy; exact run_equalIn_bool' w d t _ _ he
  all_goals (try (cases hr; done))
  all_goals
    cases hr; cases hx; cases hy
    first
      | (obtain ⟨_, hu⟩ := he; first | exact eqi_ptr d hu _ | exact eqi_ptr' d hu _ | exact eqi_slice d hu _ _ _ | exact eqi_slice' d hu _ _ _ | exact eqi_if d hu _ _ | exact eqi_if' d hu _ _ | exact eqi_if0 d hu)
      | (obtain ⟨_, _, hu⟩ := he; first | exact eqi_map d hu _ | exact eqi_map' d hu _)
      | (obtain ⟨_, _, _, hu⟩ := he; first | exact eqi_fn d hu _ _ _ | exact eqi_fn' d hu _ _ _ | exact eqi_fn0 d hu)

/-- Structs, field by field. -/
theorem eqFields_run {n : Nat} {cs ds : Array Value} {as bs : List AV} (hc : VRs w X m cs.toList as) (hd : VRs w X m ds.toList bs) (d : Nat) :
    ∀ {fields : List Field} {fs : List (Nat × Eqc)} {r : Bool},
    mapO (fun f => if f.name = "_" then none else match cEq P n f.type with
        | some .int => some (f.offset, Eqc.int)
        | some .str => some (f.offset, Eqc.str)
        | some .bool => some (f.offset, Eqc.bool)
        | _ => none) fields = some fs → AI.eqFields fs as bs = some r → (Op.eqFields (d + 1) cs ds fields).run P w = .ok r w
  | [], fs, r, hm, hr => by
    cases hm
    simp only [AI.eqFields] at hr
    cases hr
    rfl
  | f :: fields, fs, r, hm, hr => by
    simp only [mapO] at hm
    split at hm
    · rename_i p hp
      split at hm
      · rename_i l hl
        cases hm
        split at hp
        · cases hp
        · rename_i hname
          obtain ⟨off, e⟩ := p
          have hpe : off = f.offset ∧ EqTy P n f.type e ∧ ∀ w : World, (isAgg f.type).run P w = .ok false w := by
            split at hp <;> cases hp <;> (rename_i hce; have := cEq_ok hce; refine ⟨rfl, this, fun w => ?_⟩)
            · obtain ⟨k, hu⟩ := this; simp [isAgg, run_underlying hu]
            · simp [isAgg, run_underlying (show P.underlying f.type = some .string from this)]
            · simp [isAgg, run_underlying (show P.underlying f.type = some .bool from this)]
          obtain ⟨rfl, hty, hagg⟩ := hpe
          simp only [AI.eqFields] at hr
          split at hr
          · rename_i a b ha hb
            have hca : f.offset < cs.size := by have := hc.1; rw [Array.length_toList] at this; rw [this]; exact (List.getElem?_eq_some_iff.1 ha).1
            have hdb : f.offset < ds.size := by have := hd.1; rw [Array.length_toList] at this; rw [this]; exact (List.getElem?_eq_some_iff.1 hb).1
            have h1 := hc.2 f.offset cs[f.offset] a (by simp [hca]) ha
            have h2 := hd.2 f.offset ds[f.offset] b (by simp [hdb]) hb
            have hp1 : (part f.type cs f.offset).run P w = .ok cs[f.offset] w := by simp [part, hagg, hca]
            have hp2 : (part f.type ds f.offset).run P w = .ok ds[f.offset] w := by simp [part, hagg, hdb]
            split at hr
            · rename_i heq
              have h3 := eqAV_run hty heq h1 h2 d
              simp only [Op.eqFields, ne_eq, hname, not_false_eq_true, if_true, Sem.run_bind, hp1, hp2, h3, Result.andThen_ok, Bool.not_true, Bool.false_eq_true, if_false]
              exact eqFields_run hc hd d hl hr
            · rename_i heq
              have h3 := eqAV_run hty heq h1 h2 d
              cases hr
              simp only [Op.eqFields, ne_eq, hname, not_false_eq_true, if_true, Sem.run_bind, hp1, hp2, h3, Result.andThen_ok, Bool.not_false]
              rfl
            · cases hr
          · cases hr
      · cases hm
    · cases hm
end
end Go.AI

/- Operators and lengths: sound. -/
set_option linter.unusedVariables false
set_option linter.unusedSimpArgs false
namespace Go.AI
open Go

section
variable {c : Ctx} {s s' : St} {a : Act} {w : World} {M : Mem} {B : Nat → Nat} {o : Oper}

def isEq (op : BinOp) : Bool := op matches .eql | .neq

theorem eq_run {P : Program} {w : World} {op : BinOp} {t : TypeId} {x y : Operand} {vx vy : Value} {r : Bool} (hop : op = .eql ∨ op = .neq)
    (hg : (eqGuard op t x y vx vy).run P w = .ok () w) (he : (Op.equalIn 10000 t vx vy).run P w = .ok r w)
    (hb : ∀ op', (op' = .eql ∨ op' = .neq) → Go.binOp op' t vx vy = (match op' with | .neq => (do pure (.bool (!(← Op.equal t vx vy)))) | _ => (do pure (.bool (← Op.equal t vx vy))))) :
    (do eqGuard op t x y vx vy; Go.binOp op t vx vy).run P w = .ok (.bool (if op = .neq then !r else r)) w := by
  rw [Sem.run_bind, hg, Result.andThen_ok, hb op hop]
  have he' : (Op.equal t vx vy).run P w = .ok r w := he
  rcases hop with rfl | rfl
  · simp [he']
  · simp [he']

theorem vs_bin {op : BinOp} {e : Eqc} {t : TypeId} {x y : Operand} {sx sy : SX} {z : TypeId} (ho : o.op = .binOp op t x y z) (hx : cX c.h x = some sx) (hy : cX c.h y = some sy)
    (he : op = .eql ∨ op = .neq → ∃ n, EqTy c.P n t e ∧ (e = .iface → (isConst x || isConst y) = true)) : VSound c o (.bin op e sx sy) := by
  refine VSound.pure fun s s1 v a w M B h hs => ?_
  have hrun : execOp a.eval o = (do pure (.value (← (do eqGuard op t x y (a.eval x) (a.eval y); Go.binOp op t (a.eval x) (a.eval y))))) := by unfold execOp; rw [ho]
  simp only [aop] at hs
  split at hs
  · rename_i p q hp hq
    simp only [Option.map_eq_some_iff] at hs
    obtain ⟨r, hr, heq⟩ := hs
    simp only [Prod.mk.injEq] at heq
    obtain ⟨h0, h00⟩ := heq
    subst h0
    refine ⟨h00.symm, ?_⟩
    clear h00
    suffices hh : ∃ v, (do eqGuard op t x y (a.eval x) (a.eval y); Go.binOp op t (a.eval x) (a.eval y)).run c.P w = .ok v w ∧ VR w (XX c.Y M s.boxes B) (some M) v r by
      obtain ⟨v, h1, h2⟩ := hh
      exact ⟨v, by rw [hrun]; exact runV h1, h2⟩
    have h1 := h.val hx hp
    have h2 := h.val hy hq
    generalize a.eval x = vx at h1 ⊢
    generalize a.eval y = vy at h2 ⊢
    unfold AI.binOp at hr
    split at hr
    · cases h1; cases h2
      split at hr
      · exact shift_run (.inl rfl) hr x y
      · exact shift_run (.inr rfl) hr x y
      · split at hr
        · rename_i hk; subst hk; exact int_run hr x y
        · cases hr
    · cases h1; cases h2
      exact str_run hr x y
    · rename_i hni hns
      have hop : op = .eql ∨ op = .neq := by
        cases op <;> simp only at hr <;> (try cases hr) <;> simp
      obtain ⟨n, hty, hif⟩ := he hop
      have key : ∃ rb : Bool, r = .bool (if op = .neq then !rb else rb) ∧
          eqAll e p q = some rb := by
        rcases hop with rfl | rfl <;> simp only [Option.map_eq_some_iff] at hr <;> obtain ⟨rb, h3, rfl⟩ := hr <;> exact ⟨rb, rfl, h3⟩
      obtain ⟨rb, rfl, hrb⟩ := key
      refine ⟨_, ?_, .bool _⟩
      unfold eqAll at hrb
      split at hrb
      · rename_i fs as bs
        obtain ⟨fields, hu, hst, hgt, hm⟩ := hty
        have hc1 := h1.cells
        have hc2 := h2.cells
        cases h1; cases h2
        rename_i cs hl1 ho1 hv1 ds hl2 ho2 hv2
        refine eq_run hop ?_ ?_ ?_
        · exact run_eqGuard_agg w op t x y cs ds hgt
        · have hfo : c.P.fieldsOf t = fields := by simp [Program.fieldsOf, hu]
          rw [run_equalIn_agg w 9999 t cs ds (by rw [hfo]; exact hu) hst, hfo]
          exact eqFields_run hc1 hc2 9998 hm hrb
        · rintro op' (rfl | rfl) <;> rfl
      · have hq1 := eqAV_run (P := c.P) hty hrb h1 h2 9999
        refine eq_run hop ?_ hq1 ?_
        · have hgen : ∀ (vx vy : Value), (vx = .nilIface → vy = .nilIface → (isConst x || isConst y) = true) → (∀ cs ds, vx = .agg cs → vy = .agg ds → False) →
              (eqGuard op t x y vx vy).run c.P w = .ok () w := by
            intro vx vy hn ha
            rcases hop with rfl | rfl <;> unfold eqGuard <;> cases vx <;> cases vy <;> first
              | rfl
              | (exact (ha _ _ rfl rfl).elim)
              | (have hh := hn rfl rfl
                 cases x <;> cases y <;> simp [isConst] at hh <;> simp)
          refine hgen vx vy (fun e1 e2 => ?_) (fun cs ds e1 e2 => ?_)
          · subst e1; subst e2
            cases h1; cases h2
            exact hif (by cases e <;> simp [eqAV] at hrb ⊢)
          · subst e1; subst e2
            cases h1; cases h2
            cases e <;> simp [eqAV] at hrb
        · unfold eqAV at hrb
          split at hrb <;> (try (cases hrb; done)) <;> cases h1 <;> cases h2 <;> (rintro op' (rfl | rfl) <;> first | rfl | (exact (hni _ _ _ _ rfl rfl).elim) | (exact (hns _ _ rfl rfl).elim))
  · cases hs


theorem vs_len {k : LenK} {t ty : TypeId} {x : Operand} {sx : SX} {d : TypeDesc} (hc : ∀ ρ, execOp ρ o = (do pure (.value (← Builtin.len_ #[t] ty #[ρ x]))))
    (hu : c.P.underlying t = some d) (hd : match k with | .str => d = .string | .sl => ∃ e, d = .slice e | .mp => ∃ a b, d = .map a b) (hx : cX c.h x = some sx) : VSound c o (.len k sx) := by
  refine VSound.pure fun s s1 v a w M B h hs => ?_
  simp only [aop] at hs
  split at hs
  · rename_i av hav
    split at hs
    · rename_i n hn
      simp only [Option.some.injEq, Prod.mk.injEq] at hs
      obtain ⟨rfl, rfl⟩ := hs
      refine ⟨rfl, .int .i64 n, ?_, .int _ _⟩
      have hb := h.val hx hav
      rw [hc]
      generalize a.eval x = vx at hb
      refine runV ?_
      unfold lenOf at hn
      split at hn <;> (try (cases hn; done)) <;> simp only at hd
      · cases hn; subst hd; cases hb
        simp [Builtin.len_, run_underlying hu, goInt]
      · cases hn; obtain ⟨p, q, rfl⟩ := hd; cases hb; simp [Builtin.len_, run_underlying hu, goInt]
      · obtain ⟨p, q, rfl⟩ := hd
        simp only [Option.map_eq_some_iff] at hn
        obtain ⟨kvs, hkv, rfl⟩ := hn
        cases hb
        rename_i b hlt r hh
        have hg : M.H.get b = some (.map kvs) := by
          rw [← h.heap] at hkv
          unfold Heap.mapAt at hkv
          split at hkv
          · rename_i kvs' hg; cases hkv; exact hg
          · cases hkv
        obtain ⟨entries, clock, he, hsz, _⟩ := (h.hr.map b kvs hg).ex
        rw [← hh kvs hg] at he
        simp [Builtin.len_, run_underlying hu, goInt, getObj, Sem.run, he, hsz]
      · cases hn; obtain ⟨p, rfl⟩ := hd; cases hb; simp [Builtin.len_, run_underlying hu, goInt]
      · cases hn; obtain ⟨p, rfl⟩ := hd; cases hb; simp [Builtin.len_, run_underlying hu, goInt]
      · cases hn; obtain ⟨p, rfl⟩ := hd; cases hb <;> simp [Builtin.len_, run_underlying hu, goInt]
      · cases hn; obtain ⟨p, rfl⟩ := hd; cases hb; simp [Builtin.len_, run_underlying hu, goInt]
    · cases hs
  · cases hs

end
end Go.AI

/- Maps, and what is left: sound. -/
set_option linter.unusedVariables false
set_option linter.unusedSimpArgs false
namespace Go.AI
open Go

def KeyTy (P : Program) (kt : TypeId) (kc : Eqc) : Prop :=
  (∃ k, P.underlying kt = some (.int k) ∧ kc = .int) ∨ (P.underlying kt = some .string ∧ kc = .str) ∨ (P.underlying kt = some .bool ∧ kc = .bool)

theorem cKey_ok {P : Program} {kt : TypeId} {kc : Eqc} (h : cKey P kt = some kc) : KeyTy P kt kc := by
  unfold cKey at h
  split at h <;> cases h
  · rename_i hu; exact .inl ⟨_, hu, rfl⟩
  · rename_i hu; exact .inr (.inl ⟨hu, rfl⟩)
  · rename_i hu; exact .inr (.inr ⟨hu, rfl⟩)

section
variable {P : Program} {w : World} {X : Nat → Prop} {m : Option Mem}

theorem checkKey_run' {kt : TypeId} {kc : Eqc} (h : KeyTy P kt kc) (b : Bool) (v : Value) (n : Nat) : (Instr.checkKey b (n + 1) kt v).run P w = .ok () w := by
  rcases h with ⟨k, hu, _⟩ | ⟨hu, _⟩ | ⟨hu, _⟩ <;> simp [Instr.checkKey, run_underlying hu]

theorem checkKey_run {kt : TypeId} {kc : Eqc} (h : KeyTy P kt kc) (b : Bool) (v : Value) : (Instr.checkKey b 10000 kt v).run P w = .ok () w :=
  checkKey_run' h b v 9999

theorem sameNow_run {kt : TypeId} {kc : Eqc} {d : TypeDesc} (h : KeyTy P kt kc) (hd : P.underlying kt = some d) {k k' : AV} {vk vk' : Value} (hk : VR w X m vk k) (hk' : VR w X m vk' k') {r : Bool} (hr : eqAll kc k k' = some r) :
    Instr.sameNow d vk vk' = some r ∧ (r = true → vk = vk') := by
  rcases h with ⟨q, hu, rfl⟩ | ⟨hu, rfl⟩ | ⟨hu, rfl⟩ <;> (rw [hd] at hu; cases hu) <;> unfold eqAll eqAV at hr <;> simp only at hr <;> split at hr <;> (try (cases hr; done)) <;> (try simp_all; done)
  · split at hr
    · rename_i e
      subst e
      cases hr
      cases hk; cases hk'
      exact ⟨by simp [Instr.sameNow], fun e => by simp at e; rw [e]⟩
    · cases hr
  · rename_i a b
    cases hr
    cases hk; cases hk'
    rename_i s1 s2
    have hb : (s1 == s2) = (s1.data.toList == s2.data.toList) := by rw [beq_toListBytes, ByteArray.toList_eq, ByteArray.toList_eq]
    refine ⟨by simp only [Instr.sameNow, hb], fun e => ?_⟩
    have e' : s1.data.toList = s2.data.toList := by simpa using e
    have e2 : s1.data = s2.data := Array.toList_inj.1 e'
    cases s1; cases s2; simp at e2; rw [e2]
  · cases hr
    cases hk; cases hk'
    exact ⟨by simp [Instr.sameNow], fun e => by simp at e; rw [e]⟩

theorem findNow_run {kt : TypeId} {kc : Eqc} {d : TypeDesc} (h : KeyTy P kt kc) (hd : P.underlying kt = some d) {k : AV} {vk : Value} (hk : VR w X m vk k) : ∀ {kvs : List (AV × AV)} {es : List MapEntry} {i : Nat} {r : Option (Nat × AV)},
    es.length = kvs.length → (∀ (j : Nat) e kv, es[j]? = some e → kvs[j]? = some kv → VR w X m e.key kv.1 ∧ VR w X m e.val kv.2) → findKV kc k kvs i = some r →
    match r with
    | none => Instr.findNow d vk es i = some none
    | some (j, v) => i ≤ j ∧ ∃ e kv, es[j - i]? = some e ∧ kvs[j - i]? = some kv ∧ kv.2 = v ∧ Instr.findNow d vk es i = some (some (j, e.val)) ∧ e.key = vk
  | [], es, i, r, hl, hv, hr => by
    cases hr
    have : es = [] := List.eq_nil_of_length_eq_zero hl
    subst this
    rfl
  | (k', v') :: kvs, [], i, r, hl, hv, hr => by simp at hl
  | (k', v') :: kvs, e :: es, i, r, hl, hv, hr => by
    have h0 := hv 0 e (k', v') rfl rfl
    simp only [findKV] at hr
    split at hr
    · rename_i he
      cases hr
      have hs := sameNow_run h hd hk h0.1 he
      refine ⟨Nat.le_refl _, e, (k', v'), by simp, by simp, rfl, ?_, (hs.2 rfl).symm⟩
      simp only [Instr.findNow, hs.1]
    · rename_i he
      have hs := sameNow_run h hd hk h0.1 he
      have ih := findNow_run h hd hk (kvs := kvs) (es := es) (i := i + 1) (r := r) (by simpa using hl) (fun j e kv h1 h2 => hv (j + 1) e kv (by simpa using h1) (by simpa using h2)) hr
      cases r with
      | none => simp only [Instr.findNow, hs.1]; exact ih
      | some p =>
        obtain ⟨j, v⟩ := p
        obtain ⟨h1, e', kv, h2, h3, h4, h5, h6⟩ := ih
        have ej : j - i = (j - (i + 1)) + 1 := by omega
        refine ⟨by omega, e', kv, by rw [ej]; simpa using h2, by rw [ej]; simpa using h3, h4, ?_, h6⟩
        simp only [Instr.findNow, hs.1]
        exact h5
    · cases hr
end

section
variable {c : Ctx} {s s' : St} {a : Act} {w : World} {M : Mem} {B : Nat → Nat} {o : Oper}

/-- A map's entries, of the model and abstract. -/
theorem entries_run (h : SR c s a w M B) {vm : Value} {m : AV} {kvs : List (AV × AV)} (hv : VR w (XX c.Y M s.boxes B) (some M) vm m) (he : entriesOf s.heap m = some kvs) :
    ∃ es : List MapEntry, es.length = kvs.length ∧ (∀ (j : Nat) e kv, es[j]? = some e → kvs[j]? = some kv → VR w (XX c.Y M s.boxes B) (some M) e.key kv.1 ∧ VR w (XX c.Y M s.boxes B) (some M) e.val kv.2) ∧
      ((vm = .map none ∧ es = []) ∨ ∃ r clock, vm = .map (some r) ∧ w.heap[r]? = some (.map es.toArray clock)) := by
  unfold entriesOf at he
  split at he
  · cases he; cases hv
    exact ⟨[], rfl, fun j e kv h => by simp at h, .inl ⟨rfl, rfl⟩⟩
  · rename_i b
    cases hv
    rename_i r hlt hh
    rw [← h.heap] at he
    have hget := map_get he
    obtain ⟨entries, clock, h1, h2, h3, _⟩ := (h.hr.map b kvs hget).ex
    rw [← hh kvs hget] at h1
    exact ⟨entries.toList, by simpa using h2, fun j e kv e1 e2 => h3 j e kv (by simpa using e1) e2, .inr ⟨r, clock, rfl, h1⟩⟩
  · cases he

theorem findKey_run {P : Program} {w : World} {kt : TypeId} {d : TypeDesc} (hd : P.underlying kt = some d) {vk : Value} {es : List MapEntry} {r : Option (Nat × Value)} (h : Instr.findNow d vk es 0 = some r) :
    (Instr.findKey kt vk es).run P w = .ok r w := by
  simp [Instr.findKey, run_underlying hd, h]

theorem keyDesc {P : Program} {kt : TypeId} {kc : Eqc} (hk : KeyTy P kt kc) : ∃ d, P.underlying kt = some d := by
  rcases hk with ⟨q, hu, _⟩ | ⟨hu, _⟩ | ⟨hu, _⟩ <;> exact ⟨_, hu⟩

theorem vs_lookup {t kt e : TypeId} {x k : Operand} {sx sk : SX} {ok : Bool} {kc : Eqc} {z : AV} (ho : o.op = .lookup t x k ok) (ht : c.P.underlying t = some (.map kt e)) (hz : zeroOf c.P e = some z) (hk : KeyTy c.P kt kc)
    (hx : cX c.h x = some sx) (hsk : cX c.h k = some sk) : VSound c o (.lookup kc z sx sk ok) := by
  refine VSound.pure fun s s1 v a w M B h hs => ?_
  have hrun : execOp a.eval o = (do pure (.value (← Instr.lookup t (a.eval x) (a.eval k) ok))) := by unfold execOp; rw [ho]
  obtain ⟨zi, zv, hzi, hzv, hzr, _, _⟩ := zero_parts hz
  simp only [aop] at hs
  split at hs
  · rename_i m key hm hkey
    split at hs
    · rename_i kvs hkvs
      have hvm := h.val hx hm
      have hvk := h.val hsk hkey
      generalize a.eval x = vx at hvm hrun
      generalize a.eval k = vk at hvk hrun
      obtain ⟨es, hl, hes, hent⟩ := entries_run h hvm hkvs
      obtain ⟨d, hd⟩ := keyDesc hk
      have hlk : ∀ r, Instr.findNow d vk es 0 = some r → (Instr.lookup t vx vk ok).run c.P w =
          .ok (match r with | some (_, v) => (if ok then .tuple #[v, .bool true] else v) | none => (if ok then .tuple #[zv, .bool false] else zv)) w := fun r hr => by
        have hf := findKey_run (P := c.P) (w := w) hd hr
        have hck := fun b => checkKey_run (P := c.P) (w := w) hk b vk
        rcases hent with ⟨rfl, rfl⟩ | ⟨r0, clock, rfl, hheap⟩
        · cases r <;> simp [Instr.lookup, run_underlying ht, hck, hf, zeroValue, typeInfo, hzi, hzv]
        · cases r <;> simp [Instr.lookup, run_underlying ht, getObj, Sem.run, hheap, hck, hf, zeroValue, typeInfo, hzi, hzv]
      have tup2 : ∀ {u b y}, VR w (XX c.Y M s.boxes B) (some M) u y → VR w (XX c.Y M s.boxes B) (some M) (.tuple #[u, .bool b]) (.tup [y, .bool b]) := fun {u b y} hu =>
        .tup _ _ rfl fun k v x e1 e2 => by
          match k with
          | 0 => simp at e1 e2; subst e1; subst e2; exact hu
          | 1 => simp at e1 e2; subst e1; subst e2; exact .bool _
          | k + 2 => simp at e2
      split at hs
      · rename_i i v' hf
        have hfn := findNow_run hk hd hvk hl hes hf
        obtain ⟨_, e', kv, h2, h3, h4, h5, _⟩ := hfn
        simp only [Option.some.injEq, Prod.mk.injEq] at hs
        obtain ⟨rfl, rfl⟩ := hs
        have hvv := (hes _ e' kv h2 h3).2
        rw [h4] at hvv
        refine ⟨rfl, _, by rw [hrun]; exact runV (hlk _ h5), ?_⟩
        cases ok
        · exact hvv
        · exact tup2 hvv
      · rename_i hf
        have hfn := findNow_run hk hd hvk hl hes hf
        simp only [Option.some.injEq, Prod.mk.injEq] at hs
        obtain ⟨rfl, rfl⟩ := hs
        refine ⟨rfl, _, by rw [hrun]; exact runV (hlk _ hfn), ?_⟩
        cases ok
        · exact hzr _ _ _
        · exact tup2 (hzr _ _ _)
      · cases hs
    · cases hs
  · cases hs

/-- A map's block is turned. -/
theorem SR.setMap (h : SR c s a w M B) {b : Nat} {kvs kvs' : List (AV × AV)} {es' : List MapEntry} {clock : Nat} (hget : M.H.get b = some (.map kvs)) (hl : es'.length = kvs'.length)
    (hv : ∀ (j : Nat) e kv, es'[j]? = some e → kvs'[j]? = some kv → VR w (XX c.Y M s.boxes B) (some M) e.key kv.1 ∧ VR w (XX c.Y M s.boxes B) (some M) e.val kv.2)
    (hb : ∀ e ∈ es', e.born < clock) (hn : (es'.map (·.born)).Nodup) :
    SR c (AI.setMap s b kvs') a { w with heap := w.heap.setIfInBounds (M.β b).1 (.map es'.toArray clock) } ⟨M.β, (AI.setMap s b kvs').heap⟩ B ∧
      Fr (fun _ => False) w M (AI.setMap s b kvs').lo { w with heap := w.heap.setIfInBounds (M.β b).1 (.map es'.toArray clock) } ⟨M.β, (AI.setMap s b kvs').heap⟩ := by
  have hheap := h.heap
  have hbl : b < M.H.length := Heap.get_lt hget
  have hlive : M.live b := by unfold Mem.live; rw [hget]; rfl
  have hlt := h.hr.lt b hlive
  have key := h.upd (b := b) (blk := .map kvs') (p := M.β b) (w' := { w with heap := w.heap.setIfInBounds (M.β b).1 (.map es'.toArray clock) }) (s' := AI.setMap s b kvs') rfl rfl rfl (Nat.min_le_right _ _)
    (by rw [hheap]; simp [AI.setMap]) (fun k => by rw [hheap] at hbl ⊢; exact get_set hbl _ k) (fun k hk => by rw [hheap]; exact List.getElem?_set_ne (by omega))
    rfl rfl rfl (by simp) (fun k hk hne => by simp only; rw [Array.getElem?_setIfInBounds_ne (Ne.symm (hne hlive))]) (.inl ⟨hlive, rfl⟩) (by simpa using hlt)
    (fun _ => ⟨⟨kvs, hget⟩, rfl⟩)
    (fun hst => by
      have hβ : (Mem.mk (turnβ M b (M.β b)) (AI.setMap s b kvs').heap).β b = M.β b := by simp [turnβ]
      refine ⟨es'.toArray, clock, by rw [hβ]; simp [hlt], by simpa using hl, fun j e kv e1 e2 => ?_, fun e he => hb e (by simpa using he), by simpa using hn⟩
      have := hv j e kv (by simpa using e1) e2
      exact ⟨this.1.stays hst, this.2.stays hst⟩)
  rw [turn_self] at key
  exact ⟨key.1, key.2 _ (Nat.min_le_right _ _)⟩

theorem keyStays {P : Program} {w : World} {X : Nat → Prop} {m : Option Mem} {kt : TypeId} {kc : Eqc} (hk : KeyTy P kt kc) {k : AV} {vk : Value} (hv : VR w X m vk k) (hr : eqAll kc k k ≠ none ∨ True) (hs : ∃ b, eqAll kc k k = some b) :
    (Instr.keyThatStays vk vk).run P w = .ok vk w := by
  have hsb : ∀ n, Instr.sameBits n vk vk = true := by
    obtain ⟨b, hb⟩ := hs
    rcases hk with ⟨q, hu, rfl⟩ | ⟨hu, rfl⟩ | ⟨hu, rfl⟩ <;> unfold eqAll eqAV at hb <;> simp only at hb <;> split at hb <;> (try (cases hb; done)) <;> (try simp_all; done)
    · cases hv; intro n; cases n <;> simp [Instr.sameBits]
    · cases hv
      have hst : ∀ str : ByteArray, (str == str) = true := fun str => by rw [beq_toListBytes]; simp
      intro n
      cases n <;> simp [Instr.sameBits, hst]
    · cases hv; intro n; cases n <;> simp [Instr.sameBits]
  simp only [Instr.keyThatStays, hsb, if_true, Sem.run_pure]

theorem eqAll_self {P : Program} {kt : TypeId} {kc : Eqc} (hk : KeyTy P kt kc) {k k' : AV} {r : Bool} (h : eqAll kc k k' = some r) : ∃ b, eqAll kc k k = some b := by
  rcases hk with ⟨q, hu, rfl⟩ | ⟨hu, rfl⟩ | ⟨hu, rfl⟩ <;> unfold eqAll eqAV at h ⊢ <;> simp only at h ⊢ <;> split at h <;> (try (cases h; done)) <;> (try simp_all; done)

theorem sound_mapUpd {t kt e : TypeId} {x k y : Operand} {sx sk sy : SX} {kc : Eqc} (ho : o.op = .mapUpdate t x k y) (ht : c.P.underlying t = some (.map kt e)) (hk : KeyTy c.P kt kc)
    (hx : cX c.h x = some sx) (hsk : cX c.h k = some sk) (hy : cX c.h y = some sy) (hd : DstOk c o) : Sound c o (.mapUpd kc sx sk sy) := by
  intro s s' a w M B h hs K Q hK
  have hrun : execOp a.eval o = (do Instr.mapUpdate t (a.eval x) (a.eval k) (a.eval y); pure .skip) := by unfold execOp; rw [ho]
  simp only [sop] at hs
  split at hs
  · rename_i b key val hm hkey hval
    split at hs
    · rename_i kvs hkvs
      have hvm := h.val hx hm
      have hvk := h.val hsk hkey
      have hvv := h.val hy hval
      generalize a.eval x = vx at hvm hrun
      generalize a.eval k = vk at hvk hrun
      generalize a.eval y = vy at hvv hrun
      cases hvm
      rename_i r hlt hh
      rw [← h.heap] at hkvs
      have hget := map_get hkvs
      obtain ⟨entries, clock, h1, h2, h3, h4, h5⟩ := (h.hr.map b kvs hget).ex
      have hr := hh kvs hget
      obtain ⟨d, hdesc⟩ := keyDesc hk
      have hck := fun b => checkKey_run (P := c.P) (w := w) hk b vk
      have hl : entries.toList.length = kvs.length := by simpa using h2
      have hes : ∀ (j : Nat) e kv, entries.toList[j]? = some e → kvs[j]? = some kv → VR w (XX c.Y M s.boxes B) (some M) e.key kv.1 ∧ VR w (XX c.Y M s.boxes B) (some M) e.val kv.2 := fun j e kv e1 e2 => h3 j e kv (by simpa using e1) e2
      split at hs
      · rename_i i v' hf
        cases hs
        obtain ⟨_, e', kv, g2, g3, g4, g5, g6⟩ := findNow_run hk hdesc hvk hl hes hf
        rw [Nat.sub_zero] at g2 g3
        have hstay : (Instr.keyThatStays vk vk).run c.P w = .ok vk w := by
          refine keyStays hk hvk (.inr trivial) ?_
          cases kvs with
          | nil => simp at g3
          | cons p r =>
            simp only [findKV] at hf
            split at hf
            · rename_i he; exact eqAll_self hk he
            · rename_i he; exact eqAll_self hk he
            · cases hf
        let es' : List MapEntry := entries.toList.modify i fun e => { e with key := vk, val := vy }
        have hupd : (Instr.mapUpdate t (.map (some r)) vk vy).run c.P w = .ok () { w with heap := w.heap.setIfInBounds r (.map es'.toArray clock) } := by
          have hfk := findKey_run (P := c.P) (w := w) hdesc g5
          have hget' : entries[i]? = some e' := by simpa using g2
          rw [← hr] at h1
          have he' : (entries[i]?.map (·.key)).getD vk = vk := by rw [hget']; exact g6
          have hmod : entries.modify i (fun e => { e with key := vk, val := vy }) = es'.toArray := by
            apply Array.ext'
            simp [es']
          simp [Instr.mapUpdate, run_underlying ht, getObj, Sem.run, h1, hck, hfk, he', hstay, hmod, setObj]
        have hlen' : es'.length = (kvs.set i (key, val)).length := by simp [es', hl]
        have key2 := h.setMap hget (kvs' := kvs.set i (key, val)) (es' := es') (clock := clock) hlen'
          (fun j e kv e1 e2 => by
            simp only [es', List.getElem?_modify] at e1
            rw [List.getElem?_set] at e2
            by_cases hj : i = j
            · subst hj
              have hi : i < kvs.length := (List.getElem?_eq_some_iff.1 g3).1
              simp only [if_true, g2, Option.map_eq_map, Option.map_some, Option.some.injEq] at e1
              simp only [if_true, hi, Option.some.injEq] at e2
              subst e1; subst e2
              exact ⟨hvk, hvv⟩
            · simp only [if_neg hj] at e1 e2
              refine hes j e kv ?_ e2
              simpa using e1)
          (fun e he => by
            obtain ⟨j, hj⟩ := List.getElem?_of_mem he
            simp only [es', List.getElem?_modify] at hj
            cases he0 : entries.toList[j]? with
            | none => rw [he0] at hj; simp at hj
            | some e0 =>
              have hm := h4 e0 (by have := List.mem_of_getElem? he0; simpa using this)
              rw [he0] at hj
              simp only [Option.map_eq_map, Option.map_some, Option.some.injEq] at hj
              split at hj <;> (subst hj; exact hm))
          (by
            have : es'.map (·.born) = entries.toList.map (·.born) := by
              apply List.ext_getElem?
              intro j
              simp only [es', List.getElem?_map, List.getElem?_modify]
              cases entries.toList[j]? with
              | none => simp
              | some e0 => simp only [Option.map_eq_map, Option.map_some]; split <;> rfl
            rw [this]; exact h5)
        rw [← hr] at key2
        unfold Oper.wp
        rw [hrun, Sem.run_bind, hupd, Result.andThen_ok]
        refine hK _ _ _ B (key2.1.puts hd fun _ e => by cases e) ?_ (by rw [put_lo]; exact Nat.min_le_left _ _)
        rw [put_lo]
        exact key2.2.mono (Nat.le_refl _) fun _ _ h => h.elim
      · rename_i hf
        cases hs
        have g5 := findNow_run hk hdesc hvk hl hes hf
        let es' : List MapEntry := entries.toList ++ [{ key := vk, val := vy, born := clock }]
        have hupd : (Instr.mapUpdate t (.map (some r)) vk vy).run c.P w = .ok () { w with heap := w.heap.setIfInBounds r (.map es'.toArray (clock + 1)) } := by
          have hfk := findKey_run (P := c.P) (w := w) hdesc g5
          rw [← hr] at h1
          have hpush : entries.push { key := vk, val := vy, born := clock } = es'.toArray := by
            apply Array.ext'
            simp [es']
          simp [Instr.mapUpdate, run_underlying ht, getObj, Sem.run, h1, hck, hfk, hpush, setObj]
        have key2 := h.setMap hget (kvs' := kvs ++ [(key, val)]) (es' := es') (clock := clock + 1) (by simp [es', hl])
          (fun j e kv e1 e2 => by
            simp only [es', List.getElem?_append] at e1
            rw [List.getElem?_append] at e2
            rw [hl] at e1
            split at e1
            · rename_i hj
              rw [if_pos hj] at e2
              exact hes j e kv e1 e2
            · rename_i hj
              rw [if_neg hj] at e2
              cases hjj : j - kvs.length with
              | zero => rw [hjj] at e1 e2; simp at e1 e2; subst e1; subst e2; exact ⟨hvk, hvv⟩
              | succ n => rw [hjj] at e1; simp at e1)
          (fun e he => by
            rcases List.mem_append.1 he with he | he
            · have := h4 e (by simpa using he); omega
            · simp at he; subst he; simp)
          (by
            simp only [es', List.map_append, List.map_cons, List.map_nil]
            rw [List.nodup_append]
            refine ⟨h5, by simp, fun x hx y hy => ?_⟩
            simp at hy
            subst hy
            obtain ⟨e, he, rfl⟩ := List.mem_map.1 hx
            have := h4 e (by simpa using he)
            omega)
        rw [← hr] at key2
        unfold Oper.wp
        rw [hrun, Sem.run_bind, hupd, Result.andThen_ok]
        refine hK _ _ _ B (key2.1.puts hd fun _ e => by cases e) ?_ (by rw [put_lo]; exact Nat.min_le_left _ _)
        rw [put_lo]
        exact key2.2.mono (Nat.le_refl _) fun _ _ h => h.elim
      · cases hs
    · cases hs
  · cases hs
end
end Go.AI

/- Built-in functions that are left: sound. -/
set_option linter.unusedVariables false
set_option linter.unusedSimpArgs false
namespace Go.AI
open Go

section
variable {c : Ctx} {s s' : St} {a : Act} {w : World} {M : Mem} {B : Nat → Nat} {o : Oper}

theorem SR.vals' (h : SR c s a w M B) {xs : Array Operand} {sxs : List SX} {avs : List AV} (hx : cXs c.h xs = some sxs) (hv : s.evals sxs = some avs) :
    VRs w (XX c.Y M s.boxes B) (some M) (xs.map a.eval).toList avs := by
  rw [Array.toList_map]
  exact h.vals hx hv

theorem min_run {P : Program} {w : World} {X : Nat → Prop} {m : Option Mem} {mx : Bool} {k : IntKind} : ∀ {r : List AV} {vs : List Value} {a n : Int}, VRs w X m vs r → aop.minmaxOf mx k a r = some n →
    (vs.foldlM (if mx then Builtin.max2 else Builtin.min2) (.int k a)).run P w = .ok (.int k n) w
  | [], vs, a, n, hv, h => by
    have : vs = [] := List.eq_nil_of_length_eq_zero hv.1
    subst this
    simp only [aop.minmaxOf, Option.some.injEq] at h
    subst h
    rfl
  | x :: r, vs, a, n, hv, h => by
    cases vs with
    | nil => have := hv.1; simp at this
    | cons v vs =>
      have h0 := hv.2 0 v x rfl rfl
      have hr : VRs w X m vs r := ⟨by have := hv.1; simpa using this, fun j u y e1 e2 => hv.2 (j + 1) u y (by simpa using e1) (by simpa using e2)⟩
      cases x <;> simp only [aop.minmaxOf] at h <;> (try (cases h; done))
      split at h
      · rename_i e
        subst e
        cases h0
        have ih := min_run (P := P) (k := k) hr h
        cases mx
        · simp only [Bool.false_eq_true, if_false] at ih ⊢
          simp [List.foldlM_cons, Builtin.min2, ih]
        · simp only [if_true] at ih ⊢
          simp [List.foldlM_cons, Builtin.max2, ih]
      · cases h

theorem vs_minmax {mx : Bool} {ts : Array TypeId} {ty : TypeId} {xs : Array Operand} {sxs : List SX}
    (hc : ∀ ρ, execOp ρ o = (do pure (.value (← (if mx then Builtin.max_ else Builtin.min_) ts ty (xs.map ρ))))) (hx : cXs c.h xs = some sxs) : VSound c o (.minmax mx sxs) := by
  refine VSound.pure fun s s1 v a w M B h hs => ?_
  simp only [aop] at hs
  split at hs
  · rename_i k n r hvs
    simp only [Option.map_eq_some_iff, Prod.mk.injEq] at hs
    obtain ⟨z, hz, rfl, rfl⟩ := hs
    have hv := h.vals' hx hvs
    refine ⟨rfl, .int k z, ?_, .int _ _⟩
    rw [hc]
    refine runV ?_
    generalize xs.map a.eval = vs at hv
    cases hl : vs.toList with
    | nil => rw [hl] at hv; have := hv.1; simp at this
    | cons v rest =>
      rw [hl] at hv
      have h0 := hv.2 0 v _ rfl rfl
      cases h0
      have hr : VRs w (XX c.Y M s.boxes B) (some M) rest r := ⟨by have := hv.1; simpa using this, fun j u y e1 e2 => hv.2 (j + 1) u y (by simpa using e1) (by simpa using e2)⟩
      have := min_run (P := c.P) hr hz
      cases mx
      · simpa [Builtin.min_, hl] using this
      · simpa [Builtin.max_, hl] using this
  · cases hs

theorem vs_delete {t kt e tk ty : TypeId} {x k : Operand} {sx sk : SX} {kc : Eqc} (hc : ∀ ρ, execOp ρ o = (do pure (.value (← Builtin.delete_ #[t, tk] ty #[ρ x, ρ k])))) (ht : c.P.underlying t = some (.map kt e)) (hk : KeyTy c.P kt kc)
    (hx : cX c.h x = some sx) (hsk : cX c.h k = some sk) : VSound c o (.delete kc sx sk) := by
  intro s s1 v a w M B h hs
  have unit : ∀ {w : World} {X : Nat → Prop} {m : Option Mem}, VR w X m (.tuple #[]) (.tup []) := .tup _ _ rfl fun k v x e1 => by simp at e1
  simp only [aop] at hs
  split at hs
  · rename_i key hm hkey
    simp only [Option.some.injEq, Prod.mk.injEq] at hs
    obtain ⟨rfl, rfl⟩ := hs
    have hvm := h.val hx hm
    rw [hc]
    generalize a.eval x = vx at hvm
    generalize a.eval k = vk
    cases hvm
    refine ⟨_, w, M, runV ?_, h, unit, Fr.refl _ _ _ _, Nat.le_refl _⟩
    simp [Builtin.delete_, run_underlying ht, checkKey_run hk]
  · rename_i b key hm hkey
    split at hs
    · rename_i kvs hkvs
      have hvm := h.val hx hm
      have hvk := h.val hsk hkey
      rw [hc]
      generalize a.eval x = vx at hvm
      generalize a.eval k = vk at hvk
      cases hvm
      rename_i r hlt hh
      rw [← h.heap] at hkvs
      have hget := map_get hkvs
      obtain ⟨entries, clock, h1, h2, h3, h4, h5⟩ := (h.hr.map b kvs hget).ex
      have hr := hh kvs hget
      obtain ⟨d, hdesc⟩ := keyDesc hk
      have hck := fun b => checkKey_run (P := c.P) (w := w) hk b vk
      have hl : entries.toList.length = kvs.length := by simpa using h2
      have hes : ∀ (j : Nat) e kv, entries.toList[j]? = some e → kvs[j]? = some kv → VR w (XX c.Y M s.boxes B) (some M) e.key kv.1 ∧ VR w (XX c.Y M s.boxes B) (some M) e.val kv.2 := fun j e kv e1 e2 => h3 j e kv (by simpa using e1) e2
      have hborn : ∀ es' : List MapEntry, (∀ e ∈ es', e ∈ entries.toList) → ∀ e ∈ es', e.born < clock := fun es' hsub e he => h4 e (by have := hsub e he; simpa using this)
      split at hs
      · rename_i i v' hf
        simp only [Option.some.injEq, Prod.mk.injEq] at hs
        obtain ⟨rfl, rfl⟩ := hs
        obtain ⟨_, e', kv, g2, g3, g4, g5, g6⟩ := findNow_run hk hdesc hvk hl hes hf
        have hfk := findKey_run (P := c.P) (w := w) hdesc g5
        let es' := entries.toList.eraseIdx i
        have hdel : (Builtin.delete_ #[t, tk] ty #[.map (some r), vk]).run c.P w = .ok (.tuple #[]) { w with heap := w.heap.setIfInBounds r (.map es'.toArray clock) } := by
          rw [← hr] at h1
          have hi : i < entries.size := by
            rw [Nat.sub_zero] at g2
            have := (List.getElem?_eq_some_iff.1 g2).1
            simpa using this
          have her : entries.eraseIdxIfInBounds i = es'.toArray := by
            apply Array.ext'
            rw [Array.eraseIdxIfInBounds, dif_pos hi]
            simp [es']
          simp [Builtin.delete_, run_underlying ht, getObj, Sem.run, h1, hck, hfk, her, setObj]
        have hsub : ∀ e ∈ es', e ∈ entries.toList := fun e he => List.mem_of_mem_eraseIdx he
        have key2 := h.setMap hget (kvs' := kvs.eraseIdx i) (es' := es') (clock := clock) (by simp [es', List.length_eraseIdx, hl])
          (fun j e kv e1 e2 => by
            simp only [es', List.getElem?_eraseIdx] at e1 e2
            split at e1
            · rename_i hj; rw [if_pos hj] at e2; exact hes j e kv e1 e2
            · rename_i hj; rw [if_neg hj] at e2; exact hes (j + 1) e kv e1 e2)
          (hborn es' hsub)
          (by
            exact List.Nodup.sublist ((List.eraseIdx_sublist _ _).map _) h5)
        rw [← hr] at key2
        exact ⟨_, _, _, runV hdel, key2.1, unit, key2.2, Nat.min_le_left _ _⟩
      · rename_i hf
        simp only [Option.some.injEq, Prod.mk.injEq] at hs
        obtain ⟨rfl, rfl⟩ := hs
        have g5 := findNow_run hk hdesc hvk hl hes hf
        have hfk := findKey_run (P := c.P) (w := w) hdesc g5
        have hdel : (Builtin.delete_ #[t, tk] ty #[.map (some r), vk]).run c.P w = .ok (.tuple #[]) { w with heap := w.heap.setIfInBounds r (.map entries.toList.toArray clock) } := by
          rw [← hr] at h1
          simp [Builtin.delete_, run_underlying ht, getObj, Sem.run, h1, hck, hfk, setObj]
        have key2 := h.setMap hget (kvs' := kvs) (es' := entries.toList) (clock := clock) hl hes (hborn _ fun e he => he) h5
        rw [← hr] at key2
        exact ⟨_, _, _, runV hdel, key2.1, unit, key2.2, Nat.min_le_left _ _⟩
      · cases hs
    · cases hs
  · cases hs

theorem vs_clear {t e ty : TypeId} {x : Operand} {sx : SX} {z : AV} (hc : ∀ ρ, execOp ρ o = (do pure (.value (← Builtin.clear_ #[t] ty #[ρ x])))) (ht : c.P.underlying t = some (.slice e)) (hz : zeroOf c.P e = some z) (h0 : 0 < z.cells.length)
    (hx : cX c.h x = some sx) : VSound c o (.clear z sx) := by
  intro s s1 v a w M B h hs
  have unit : ∀ {w : World} {X : Nat → Prop} {m : Option Mem}, VR w X m (.tuple #[]) (.tup []) := .tup _ _ rfl fun k v x e1 => by simp at e1
  obtain ⟨zi, zv, hzi, hzv, hzr, hzs, hzone⟩ := zero_parts hz
  simp only [aop] at hs
  have empty : ∀ p, (Builtin.clear_ #[t] ty #[.slice p 0 0]).run c.P w = .ok (.tuple #[]) w := fun p => by
    cases p <;> simp [Builtin.clear_, run_underlying ht]
  split at hs
  · rename_i hm
    simp only [Option.some.injEq, Prod.mk.injEq] at hs
    obtain ⟨rfl, rfl⟩ := hs
    have hvm := h.val hx hm
    rw [hc]
    generalize a.eval x = vx at hvm
    cases hvm
    exact ⟨_, w, M, runV (empty _), h, unit, Fr.refl _ _ _ _, Nat.le_refl _⟩
  · rename_i hm
    simp only [Option.some.injEq, Prod.mk.injEq] at hs
    obtain ⟨rfl, rfl⟩ := hs
    have hvm := h.val hx hm
    rw [hc]
    generalize a.eval x = vx at hvm
    cases hvm
    exact ⟨_, w, M, runV (empty _), h, unit, Fr.refl _ _ _ _, Nat.le_refl _⟩
  · rename_i b g off len hm
    split at hs
    · rename_i sz es hrow
      split at hs
      · rename_i hcond
        obtain ⟨hle, hzl⟩ := hcond
        simp only [Option.some.injEq, Prod.mk.injEq] at hs
        obtain ⟨rfl, rfl⟩ := hs
        have hvm := h.val hx hm
        rw [hc]
        generalize a.eval x = vx at hvm
        rw [← h.heap] at hrow
        have hget := row_get hrow
        have hR := h.hr.row b sz g es hget
        cases hvm
        rename_i p cap hlt hg hh
        obtain ⟨g1, g2, g3⟩ := hh sz es hget
        have hrs : ∀ x ∈ List.replicate len z, x.cells.length = sz := fun x hx => by rw [List.eq_of_mem_replicate hx]; exact hzl
        have hro : ∀ x ∈ flat (List.replicate len z), x.one = true := fun x hx => by
          obtain ⟨y, hy, hx⟩ := mem_flat.1 hx
          rw [List.eq_of_mem_replicate hy] at hx
          exact hzone x hx
        have hzsz : zv.cells.size = sz := by omega
        have hvs := zeros_get (m := some M) (hzr w (XX c.Y M s.boxes B) (some M)).cells hzl (by omega) len
        have hzc : Builtin.zeroCells zv.cells len = (Array.range (len * sz)).map fun i => zv.cells[i % zv.cells.size]! := by
          unfold Builtin.zeroCells
          rw [hzsz]
        rw [← hzc] at hvs
        have hfr := flat_length hrs
        have hfl := flat_length hR.sz
        rw [List.length_replicate] at hfr
        have hmul : off * sz + len * sz ≤ es.length * sz := by rw [← Nat.add_mul]; exact Nat.mul_le_mul_right _ hle
        have hflat : flat (es.take off ++ List.replicate len z ++ es.drop (off + len)) = splice (flat es) (off * sz) (flat (List.replicate len z)) := by
          unfold splice
          rw [flat_append, flat_append, flat_take off hR.sz, hfr, ← Nat.add_mul, flat_drop (off + len) hR.sz]
        have hsz' : ∀ x ∈ es.take off ++ List.replicate len z ++ es.drop (off + len), x.cells.length = sz := fun x hx => by
          simp only [List.mem_append] at hx
          rcases hx with (hx | hx) | hx
          · exact hR.sz x (List.mem_of_mem_take hx)
          · exact hrs x hx
          · exact hR.sz x (List.mem_of_mem_drop hx)
        have key := h.writeRow hget (Nat.le_refl g) (fun _ => by simp; omega) (off := off * sz) hvs (by omega) hflat hro hsz'
        by_cases hl0 : len = 0
        · subst hl0
          have hw : w.setCells (M.β b).1 ((M.β b).2 + off * sz) (Builtin.zeroCells zv.cells 0).toList = w := by
            have : (Builtin.zeroCells zv.cells 0).toList = [] := by simp [Builtin.zeroCells]
            rw [this]; rfl
          rw [hw] at key
          refine ⟨_, w, _, runV ?_, key.1, unit, key.2, Nat.min_le_left _ _⟩
          simp [Builtin.clear_, run_underlying ht]
        · rcases g3 with g3 | ⟨g3, g4⟩
          · omega
          · subst g3
            have hzlen : (Builtin.zeroCells zv.cells len).toList.length = len * sz := by rw [hvs.1, hfr]
            have hth : w.there (M.β b).1 ((M.β b).2 + off * sz) (Builtin.zeroCells zv.cells len).toList.length := there_sub g4 0 _ (by rw [hzlen, Nat.zero_add]; exact Nat.mul_le_mul_right _ g1)
            have hst := run_storeCells_cells (P := c.P) (M.β b).1 ((M.β b).2 + off * sz) (Builtin.zeroCells zv.cells len).toList 0 w (fun j hj => by simpa using (hth j hj).1) (fun j hj => by simpa using (hth j hj).2) (hvs.one hro)
            simp only [Nat.add_zero] at hst
            refine ⟨_, _, _, runV ?_, key.1, unit, key.2, Nat.min_le_left _ _⟩
            cases len with
            | zero => exact absurd rfl hl0
            | succ n => simp [Builtin.clear_, run_underlying ht, zeroValue, typeInfo, hzi, hzv, hst]
      · cases hs
    · cases hs
  · cases hs
end
end Go.AI

/- Every operation that the compiler lets by is sound. -/
set_option linter.unusedVariables false
set_option linter.unusedSimpArgs false
namespace Go.AI
open Go

def isCall : SOp → Bool
  | .call .. | .callv .. => true
  | _ => false

theorem of_map {α β : Type} {f : α → β} {x : Option α} {y : β} (h : x.map f = some y) : ∃ z, x = some z ∧ y = f z := by
  cases x with
  | none => cases h
  | some z => exact ⟨z, rfl, by cases h; rfl⟩

theorem arr1 {α : Type} {xs : Array α} {x : α} (h : xs.toList = [x]) : xs = #[x] := Array.toList_inj.1 (by simpa using h)
theorem arr2 {α : Type} {xs : Array α} {x y : α} (h : xs.toList = [x, y]) : xs = #[x, y] := Array.toList_inj.1 (by simpa using h)

section
variable {c : Ctx} {o : Oper} {op : SOp}

theorem ex_bi {o : Oper} {b : Builtin} {args : Array Operand} {ats : Array TypeId} (ho : o.op = .call ⟨.builtin b, args, ats⟩) {f : Array Value → Sem Value} {ρ : Operand → Value} {vs : Array Value}
    (hb : ∀ zs consts, builtin b ats o.type consts zs = (do pure (.value (← f zs)))) (hv : args.map ρ = vs) : execOp ρ o = (do pure (.value (← f vs))) := by
  subst hv
  rw [← hb _ (args.map fun | .const _ => true | _ => false)]
  unfold execOp
  simp only [ho]
  rfl

theorem cXO_some {h : Hints} {x : Option Operand} {y : Option SX} (hx : cXO h x = some y) : y.isSome = x.isSome := by
  cases x with
  | none => cases hx; rfl
  | some x => obtain ⟨z, _, rfl⟩ := of_map hx; rfl

theorem Sound.v {op : SOp} (h : VSound c o op) (hd : DstOk c o) (hs : ∀ s, sop op o.dst s = match aop op s with | some (v, s') => some (s'.put o.dst (some v)) | none => none) : Sound c o op :=
  h.sound hd hs

theorem cCall_sound {cl : Go.Call} (ho : o.op = .call cl) (h : cCall c.P c.h o cl = some op) (hd : DstOk c o) (hnc : isCall op = false) : Sound c o op := by
  obtain ⟨callee, args, ats⟩ := cl
  unfold cCall at h
  split at h
  · split at h
    · split at h
      · cases h
      · obtain ⟨z, _, rfl⟩ := of_map h; cases hnc
    · cases h
  · split at h
    · cases h; cases hnc
    · cases h
  · cases h
  · rename_i b hb
    have hb : callee = .builtin b := hb
    subst hb
    split at h
    · rename_i x t ha ht
      have ea : args = #[x] := arr1 ha
      have et : ats = #[t] := arr1 ht
      clear ha ht
      subst ea et
      have hex : ∀ ρ, execOp ρ o = (do pure (.value (← Builtin.len_ #[t] o.type #[ρ x]))) := fun ρ => ex_bi ho (fun _ _ => by rfl) (by simp)
      split at h
      · rename_i hu
        obtain ⟨z, hz, rfl⟩ := of_map h
        exact (vs_len (k := .str) hex hu rfl hz).sound hd fun _ => rfl
      · rename_i e hu
        obtain ⟨z, hz, rfl⟩ := of_map h
        exact (vs_len (k := .sl) hex hu ⟨_, rfl⟩ hz).sound hd fun _ => rfl
      · rename_i k e hu
        obtain ⟨z, hz, rfl⟩ := of_map h
        exact (vs_len (k := .mp) hex hu ⟨_, _, rfl⟩ hz).sound hd fun _ => rfl
      · rename_i n e hu
        cases h
        refine (VSound.pure fun s s1 v a w M B h hs => ?_).sound hd fun _ => rfl
        simp only [aop, St.eval, Option.some.injEq, Prod.mk.injEq] at hs
        obtain ⟨rfl, rfl⟩ := hs
        refine ⟨rfl, .int .i64 n, ?_, .int _ _⟩
        rw [hex]
        refine runV ?_
        simp [Builtin.len_, run_underlying hu, goInt]
      · rename_i e hu
        split at h
        · rename_i n e' hu'
          cases h
          refine (VSound.pure fun s s1 v a w M B h hs => ?_).sound hd fun _ => rfl
          simp only [aop, St.eval, Option.some.injEq, Prod.mk.injEq] at hs
          obtain ⟨rfl, rfl⟩ := hs
          refine ⟨rfl, .int .i64 n, ?_, .int _ _⟩
          rw [hex]
          refine runV ?_
          simp [Builtin.len_, run_underlying hu, run_underlying hu', goInt]
        · cases h
      · cases h
    · rename_i x y t ty ha ht
      have ea : args = #[x, y] := arr2 ha
      have et : ats = #[t, ty] := arr2 ht
      clear ha ht
      subst ea et
      have hex : ∀ ρ, execOp ρ o = (do pure (.value (← Builtin.append_ #[t, ty] o.type #[ρ x, ρ y]))) := fun ρ => ex_bi ho (fun _ _ => by rfl) (by simp)
      split at h
      · rename_i e e' hu hu'
        split at h
        · rename_i i sz' hi hsz
          split at h
          · rename_i hc
            split at h
            · rename_i sx sy hx hy
              cases h
              exact (vs_append ⟨hu, .inl ⟨_, hu'⟩, hi, hc.1, hc.2.2⟩ hex hx hy).sound hd fun _ => rfl
            · cases h
          · cases h
        · cases h
      · rename_i e hu hu'
        split at h
        · rename_i i hi hue
          split at h
          · rename_i hc
            split at h
            · rename_i sx sy hx hy
              cases h
              have := (vs_append ⟨hu, .inr hu', hi, by omega, by rw [hc.1]; exact hc.2⟩ hex hx hy).sound hd fun _ => rfl
              rwa [hc.1] at this
            · cases h
          · cases h
        · cases h
      · cases h
    · obtain ⟨z, hz, rfl⟩ := of_map h
      exact (vs_minmax (mx := false) (ts := ats) (ty := o.type) (xs := args) (fun ρ => by unfold execOp; simp only [ho]; rfl) hz).sound hd fun _ => rfl
    · obtain ⟨z, hz, rfl⟩ := of_map h
      exact (vs_minmax (mx := true) (ts := ats) (ty := o.type) (xs := args) (fun ρ => by unfold execOp; simp only [ho]; rfl) hz).sound hd fun _ => rfl
    · rename_i x k t tk ha ht
      have ea : args = #[x, k] := arr2 ha
      have et : ats = #[t, tk] := arr2 ht
      clear ha ht
      subst ea et
      split at h
      · rename_i kt e hu
        split at h
        · rename_i kc sx sk hk hx hsk
          cases h
          exact (vs_delete (tk := tk) (ty := o.type) (fun ρ => ex_bi ho (fun _ _ => by rfl) (by simp)) hu (cKey_ok hk) hx hsk).sound hd fun _ => rfl
        · cases h
      · cases h
    · rename_i x t ha ht
      have ea : args = #[x] := arr1 ha
      have et : ats = #[t] := arr1 ht
      clear ha ht
      subst ea et
      split at h
      · rename_i e hu
        split at h
        · rename_i z sx hz hx
          split at h
          · rename_i h0
            cases h
            exact (vs_clear (ty := o.type) (fun ρ => ex_bi ho (fun _ _ => by rfl) (by simp)) hu hz h0 hx).sound hd fun _ => rfl
          · cases h
        · cases h
      · cases h
    · cases h

theorem cop_sound (h : cop c.P c.h c.ntmps o = some op) (hnc : isCall op = false) : Sound c o op := by
  unfold cop at h
  simp only at h
  split at h
  · rename_i x ho
    split at h
    · rename_i t ht
      obtain ⟨h1, h2⟩ := addrOp_ok h
      cases h1
      exact sound_movA (.inl ho) ht h2
    · obtain ⟨h1, h2⟩ := valueOp_ok h
      obtain ⟨z, hz, rfl⟩ := of_map h1
      exact (vs_mov (.inl ho) hz).sound h2 fun _ => rfl
  · rename_i x ho
    split at h
    · rename_i t ht
      obtain ⟨h1, h2⟩ := addrOp_ok h
      cases h1
      exact sound_movA (.inr (.inl ho)) ht h2
    · obtain ⟨h1, h2⟩ := valueOp_ok h
      obtain ⟨z, hz, rfl⟩ := of_map h1
      exact (vs_mov (.inr ho) hz).sound h2 fun _ => rfl
  · rename_i x y z ho
    split at h
    · rename_i sx sy sz hx hy hz
      obtain ⟨h1, h2⟩ := valueOp_ok h
      cases h1
      exact (vs_pick ho hx hy hz).sound h2 fun _ => rfl
    · cases h
  · rename_i e ho
    split at h
    · rename_i z hz
      split at h
      · rename_i d hdst
        split at h
        · rename_i hb
          unfold boxOp at h
          split at h
          · rename_i hlt
            cases h
            exact sound_allocA ho hz hdst hb (by simpa using hlt)
          · cases h
        · split at h
          · cases h
          · obtain ⟨h1, h2⟩ := valueOp_ok h
            cases h1
            exact (vs_alloc ho hz).sound h2 fun _ => rfl
      · cases h
    · cases h
  · rename_i e x ho
    split at h
    · rename_i sz sx hsz hx
      split at h
      · rename_i d hdst
        split at h
        · rename_i hb
          unfold boxOp at h
          split at h
          · rename_i hlt
            cases h
            exact sound_boxA ho hx hdst hb (by simpa using hlt)
          · cases h
        · split at h
          · cases h
          · obtain ⟨h1, h2⟩ := valueOp_ok h
            cases h1
            exact (vs_box ho hx).sound h2 fun _ => rfl
      · cases h
    · cases h
  · rename_i t ps ho
    split at h
    · rename_i z l hz hl
      obtain ⟨h1, h2⟩ := valueOp_ok h
      cases h1
      exact (vs_build ho hz hl).sound h2 fun _ => rfl
    · cases h
  · rename_i t n ps ho
    split at h
    · rename_i e hu
      split at h
      · rename_i sz z l hsz hz hl
        split at h
        · rename_i hc
          obtain ⟨h1, h2⟩ := valueOp_ok h
          cases h1
          exact (vs_buildSlice ho hu hsz hz hc.1 hc.2.1 hc.2.2.1 (fun e => Array.size_eq_zero_iff.1 (hc.2.2.2 e)) hl).sound h2 fun _ => rfl
        · cases h
      · cases h
    · cases h
  · rename_i t x ho
    split at h
    · rename_i agg sz hagg hsz
      split at h
      · rename_i sl hx
        obtain ⟨h1, h2⟩ := valueOp_ok h
        cases h1
        exact (vs_loadA ho hagg hsz hx).sound h2 fun _ => rfl
      · obtain ⟨h1, h2⟩ := valueOp_ok h
        obtain ⟨z, hz, rfl⟩ := of_map h1
        exact (vs_load ho hagg hsz hz).sound h2 fun _ => rfl
    · cases h
  · rename_i t x y ho
    split at h
    · rename_i sz sy hsz hy
      split at h
      · rename_i sl hx
        obtain ⟨h1, h2⟩ := valueOp_ok h
        cases h1
        exact sound_storeA ho hsz hx hy h2
      · obtain ⟨h1, h2⟩ := valueOp_ok h
        obtain ⟨z, hz, rfl⟩ := of_map h1
        exact sound_store ho hsz hz hy h2
    · cases h
  · rename_i x ho
    split at h
    · rename_i t ht
      obtain ⟨h1, h2⟩ := addrOp_ok h
      cases h1
      exact sound_movA (.inr (.inr ho)) ht h2
    · obtain ⟨h1, h2⟩ := valueOp_ok h
      obtain ⟨z, hz, rfl⟩ := of_map h1
      exact (vs_nilCheck ho hz).sound h2 fun _ => rfl
  · rename_i op' t x y z ho
    split at h
    · rename_i sx sy hx hy
      obtain ⟨h1, h2⟩ := valueOp_ok h
      have key : ∃ e, op = .bin op' e sx sy ∧ (op' = .eql ∨ op' = .neq → ∃ n, EqTy c.P n t e ∧ (e = .iface → (isConst x || isConst y) = true)) := by
        split at h1
        · split at h1
          · rename_i he
            split at h1
            · rename_i hc; cases h1; exact ⟨_, rfl, fun _ => ⟨3, cEq_ok he, fun _ => hc⟩⟩
            · cases h1
          · rename_i e he hne
            cases h1; exact ⟨_, rfl, fun _ => ⟨3, cEq_ok hne, fun e => (he e).elim⟩⟩
          · cases h1
        · split at h1
          · rename_i he
            split at h1
            · rename_i hc; cases h1; exact ⟨_, rfl, fun _ => ⟨3, cEq_ok he, fun _ => hc⟩⟩
            · cases h1
          · rename_i e he hne
            cases h1; exact ⟨_, rfl, fun _ => ⟨3, cEq_ok hne, fun e => (he e).elim⟩⟩
          · cases h1
        · rename_i hn1 hn2
          cases h1
          exact ⟨_, rfl, fun hh => by rcases hh with rfl | rfl; exact (hn1 rfl).elim; exact (hn2 rfl).elim⟩
      obtain ⟨e, rfl, he⟩ := key
      exact (vs_bin ho hx hy he).sound h2 fun _ => rfl
    · cases h
  · rename_i op' t x ho
    obtain ⟨h1, h2⟩ := valueOp_ok h
    obtain ⟨z, hz, rfl⟩ := of_map h1
    exact (vs_un ho hz).sound h2 fun _ => rfl
  · rename_i src dst x ho
    split at h
    · rename_i d k hs ht
      obtain ⟨h1, h2⟩ := valueOp_ok h
      obtain ⟨z, hz, rfl⟩ := of_map h1
      exact (vs_conv ho hs ht hz).sound h2 fun _ => rfl
    · rename_i hs ht
      obtain ⟨h1, h2⟩ := valueOp_ok h
      obtain ⟨z, hz, rfl⟩ := of_map h1
      exact (vs_same ho hs ht hz).sound h2 fun _ => rfl
    · cases h
  · rename_i fn first cap ho
    split at h
    · rename_i f
      split at h
      · rename_i hf
        obtain ⟨h1, h2⟩ := valueOp_ok h
        obtain ⟨z, hz, rfl⟩ := of_map h1
        exact (vs_mkFunc (by rw [ho, Array.size_eq_zero_iff.1 hf]) hz).sound h2 fun _ => rfl
      · cases h
    · cases h
  · rename_i t x ho
    split at h
    · cases h
    · rename_i d hni hu
      obtain ⟨h1, h2⟩ := valueOp_ok h
      obtain ⟨z, hz, rfl⟩ := of_map h1
      exact (vs_mkIface ho hu (fun ms e => hni ms e) hz).sound h2 fun _ => rfl
    · cases h
  · rename_i t ho
    obtain ⟨h1, h2⟩ := valueOp_ok h
    cases h1
    exact (vs_makeMap ho).sound h2 fun _ => rfl
  · rename_i t n k ho
    split at h
    · rename_i e hu
      split at h
      · rename_i i z sn sk hi hz hn hk
        split at h
        · rename_i hc
          obtain ⟨h1, h2⟩ := valueOp_ok h
          cases h1
          exact (vs_makeSlice ho hu hi hz hc.1 hc.2 hn hk).sound h2 fun _ => rfl
        · cases h
      · cases h
    · cases h
  · rename_i t x lo hi mx ho
    split at h
    · rename_i hu
      split at h
      · split at h
        · rename_i sx slo shi hx hlo hhi
          obtain ⟨h1, h2⟩ := valueOp_ok h
          cases h1
          exact (vs_sliceS ho hu hx hlo hhi).sound h2 fun _ => rfl
        · cases h
      · cases h
    · rename_i e hu
      split at h
      · rename_i sz sx slo shi smx hsz hx hlo hhi hmx
        split at h
        · rename_i hc
          obtain ⟨h1, h2⟩ := valueOp_ok h
          cases h1
          exact (vs_slice ho hu hsz hx hlo hhi hmx (fun hm => by
            have e1 := cXO_some hmx
            have e2 := cXO_some hhi
            rcases hc.2 with h | h
            · rw [Option.isNone_iff_eq_none] at h; rw [h] at e1; rw [hm] at e1; cases e1
            · rw [← e2]; exact h)).sound h2 fun _ => rfl
        · cases h
      · cases h
    · cases h
  · rename_i t x f ho
    split at h
    · rename_i fs hu
      split at h
      · rename_i fd hf
        split at h
        · cases h
        · rename_i sz hsz h0
          split at h
          · rename_i sl hx
            obtain ⟨h1, h2⟩ := addrOp_ok h
            cases h1
            exact sound_faddrA ho hu hf h0 (fun e => by subst e; exact hsz rfl) hx h2
          · obtain ⟨h1, h2⟩ := valueOp_ok h
            obtain ⟨z, hz, rfl⟩ := of_map h1
            exact (vs_faddr ho hu hf h0 (fun e => by subst e; exact hsz rfl) hz).sound h2 fun _ => rfl
        · cases h
      · cases h
    · cases h
  · rename_i t x i ho
    split at h
    · rename_i e si hu hi
      split at h
      · rename_i sz hsz
        split at h
        · obtain ⟨h1, h2⟩ := valueOp_ok h
          obtain ⟨z, hz, rfl⟩ := of_map h1
          exact (vs_iaddr ho hu hsz hz hi).sound h2 fun _ => rfl
        · cases h
      · cases h
    · rename_i n e si hu hi
      split at h
      · rename_i sz hsz
        split at h
        · rename_i sl hx
          obtain ⟨h1, h2⟩ := addrOp_ok h
          cases h1
          exact sound_iaddrA ho hu hsz hx hi h2
        · obtain ⟨h1, h2⟩ := valueOp_ok h
          obtain ⟨z, hz, rfl⟩ := of_map h1
          exact (vs_iaddrP ho hu hsz hz hi).sound h2 fun _ => rfl
      · cases h
    · cases h
  · rename_i t x f ho
    split at h
    · rename_i fs hu
      split at h
      · rename_i fd hf
        split at h
        · rename_i agg sz hagg hsz
          obtain ⟨h1, h2⟩ := valueOp_ok h
          obtain ⟨z, hz, rfl⟩ := of_map h1
          exact (vs_field ho hu hf hagg hsz hz).sound h2 fun _ => rfl
        · cases h
      · cases h
    · cases h
  · rename_i t x i ho
    split at h
    · rename_i sx si hu hx hi
      obtain ⟨h1, h2⟩ := valueOp_ok h
      cases h1
      exact (vs_indexS ho hu hx hi).sound h2 fun _ => rfl
    · rename_i n e sx si hu hx hi
      split at h
      · rename_i agg sz hagg hsz
        obtain ⟨h1, h2⟩ := valueOp_ok h
        cases h1
        exact (vs_indexG ho hu hagg hsz hx hi).sound h2 fun _ => rfl
      · cases h
    · cases h
  · rename_i t x k ok ho
    split at h
    · rename_i kt e sx sk hu hx hk
      split at h
      · rename_i z kc hz hkc
        obtain ⟨h1, h2⟩ := valueOp_ok h
        cases h1
        exact (vs_lookup ho hu hz (cKey_ok hkc) hx hk).sound h2 fun _ => rfl
      · cases h
    · cases h
  · rename_i t m k x ho
    split at h
    · rename_i kt e sm sk sx hu hm hk hx
      split at h
      · rename_i kc hkc
        obtain ⟨h1, h2⟩ := valueOp_ok h
        cases h1
        exact sound_mapUpd ho hu (cKey_ok hkc) hm hk hx h2
      · cases h
    · cases h
  · rename_i x i ho
    obtain ⟨h1, h2⟩ := valueOp_ok h
    obtain ⟨z, hz, rfl⟩ := of_map h1
    exact (vs_extract ho hz).sound h2 fun _ => rfl
  · rename_i cl ho
    obtain ⟨h1, h2⟩ := valueOp_ok h
    exact cCall_sound ho h1 h2 hnc
  · cases h
end
end Go.AI

/- Calls: what is asked of a called function, and that a call is sound then. -/
set_option linter.unusedVariables false
namespace Go.AI
open Go

/-- The blocks that may change, seen from a callee: those of its callers' frames, and the heap's. -/
def LX (Y : Nat → Prop) (M : Mem) (k : Nat) : Prop := Y k ∨ M.L k

/-- What is known of the world's own blocks: what these hold. -/
def Glob (G : Nat → Option (List Value)) (N0 : Nat) (w : World) : Prop := ∀ g vs, G g = some vs → g < N0 ∧ g < w.heap.size ∧ w.rangeAt g 0 vs

theorem Glob.fr {G : Nat → Option (List Value)} {N0 : Nat} {E : Nat → Prop} {w w' : World} {M M' : Mem} {lo : Nat} (h : Glob G N0 w) (hL : ∀ b, M.live b → N0 ≤ (M.β b).1) (hE : ∀ k, E k → N0 ≤ k) (hf : Fr E w M lo w' M') : Glob G N0 w' :=
  fun g vs hg => by
    obtain ⟨h1, h2, h3⟩ := h g vs hg
    refine ⟨h1, Nat.lt_of_lt_of_le h2 hf.size, rangeAt_of_heap (hf.keep g h2 ?_ ?_) h3⟩
    · rintro ⟨b, hb, e⟩
      have := hL b hb
      omega
    · intro he
      have := hE g he
      omega

structure MemOK (G : Nat → Option (List Value)) (w : World) (Y : Nat → Prop) (M : Mem) (N0 : Nat) : Prop where
  gl : Glob G N0 w
  hr : HR w (LX Y M) M N0
  notY : ∀ b, M.live b → ¬ Y (M.β b).1
  Ylt : ∀ k, Y k → k < w.heap.size
  Yge : ∀ k, Y k → N0 ≤ k
  N0 : N0 ≤ w.heap.size

def CallPost (G : Nat → Option (List Value)) (Y : Nat → Prop) (N0 : Nat) (w : World) (M : Mem) (lo : Nat) (H' : Heap) (r : AV) (v : Value) (w' : World) : Prop :=
  ∃ β', MemOK G w' Y ⟨β', H'⟩ N0 ∧ VR w' (LX Y ⟨β', H'⟩) (some ⟨β', H'⟩) v r ∧ Fr (fun _ => False) w M lo w' ⟨β', H'⟩

/-- What a call comes to, in the model, is what the abstract one says. -/
def CallsA (P : Program) (G : Nat → Option (List Value)) (f : Nat) (args : List AV) (H : Heap) (r : AV) (H' : Heap) (lo : Nat) : Prop :=
  ∀ (Y : Nat → Prop) (N0 : Nat) (w : World) (β : Nat → Nat × Nat) (vs : Array Value), MemOK G w Y ⟨β, H⟩ N0 → VRs w (LX Y ⟨β, H⟩) (some ⟨β, H⟩) vs.toList args →
    ∀ (o : Oper) (a : Act) (K : Act → World → Prop) (Q : Go.Exit → Act → World → Prop), True →
      (∀ v w', CallPost G Y N0 w ⟨β, H⟩ lo H' r v w' → K (a.put o.dst v) w') → o.upon P a K Q ((callFunc f vs).run P w)

def CallOK (P : Program) (G : Nat → Option (List Value)) (call : Call) : Prop := ∀ f args H r H' lo, call f args H = some (r, H', lo) → CallsA P G f args H r H' lo

theorem Stays.sub {w : World} {X X' : Nat → Prop} {m : Option Mem} (h : ∀ k, X' k → X k) : Stays w X m w X' m :=
  ⟨Nat.le_refl _, fun k _ hk => h k hk, fun _ _ _ => rfl, fun M e => ⟨M, e, Nat.le_refl _,
    fun b s g es _ hr => ⟨g, es, hr, Nat.le_refl _, fun _ => ⟨rfl, Nat.le_refl _, fun _ _ h => h⟩⟩, fun b kvs _ hr => ⟨⟨kvs, hr⟩, rfl⟩⟩⟩

theorem HR.sub {w : World} {X X' : Nat → Prop} {M : Mem} {N0 : Nat} (hx : ∀ k, X' k → X k) (h : HR w X M N0) : HR w X' M N0 :=
  { h with
    row := fun b s g es hb => (h.row b s g es hb).stays (Stays.sub hx) rfl rfl
    map := fun b kvs hb => (h.map b kvs hb).stays (Stays.sub hx) rfl rfl }

section
variable {c : Ctx} {s s' : St} {a : Act} {w : World} {M : Mem} {B : Nat → Nat} {o : Oper}

/-- The blocks of the callers, and of this frame. -/
def YB (Y : Nat → Prop) (boxes : List (Nat × Option (List AV))) (B : Nat → Nat) (k : Nat) : Prop :=
  Y k ∨ ∃ d cells, look boxes d = some cells ∧ B d = k

theorem YB.LX_sub {Y : Nat → Prop} {boxes : List (Nat × Option (List AV))} {B : Nat → Nat} {M : Mem} {k : Nat} : LX (YB Y boxes B) M k ↔ XX Y M boxes B k := by
  unfold LX YB XX
  constructor
  · rintro ((h | h) | h)
    · exact .inl h
    · exact .inr (.inr h)
    · exact .inr (.inl h)
  · rintro (h | h | h)
    · exact .inl (.inl h)
    · exact .inr h
    · exact .inl (.inr h)

theorem SR.memOK (h : SR c s a w M B) (hg : Glob c.G c.N0 w) : MemOK c.G w (YB c.Y s.boxes B) M c.N0 where
  gl := hg
  hr := h.hr.sub fun k => YB.LX_sub.1
  notY := fun b hb hy => by
    rcases hy with hy | ⟨d, cells, hd, e⟩
    · exact h.notY b hb hy
    · exact h.notB b d cells hb hd e
  Ylt := fun k hk => by
    rcases hk with hy | ⟨d, cells, hd, e⟩
    · exact Nat.lt_of_lt_of_le (h.Ylt k hy) h.base
    · exact e ▸ (h.box d cells hd).lt
  Yge := fun k hk => by
    rcases hk with hy | ⟨d, cells, hd, e⟩
    · exact h.Yge k hy
    · exact e ▸ Nat.le_trans h.N0 (h.box d cells hd).ge
  N0 := Nat.le_trans h.N0 h.base

theorem cop_notcall {op : SOp} (hn : ∀ cl, o.op ≠ .call cl) (h : cop c.P c.h c.ntmps o = some op) : isCall op = false := by
  unfold cop at h
  simp only at h
  cases hop : o.op <;> simp only [hop] at h hn
  case call cl => exact (hn cl rfl).elim
  case makeMap t r =>
    cases r <;> simp only at h
    · obtain ⟨h1, _⟩ := valueOp_ok h; cases h1; rfl
    · cases h
  all_goals (repeat' split at h)
  all_goals first
    | (cases h; done)
    | (obtain ⟨h1, _⟩ := valueOp_ok h; cases h1; rfl)
    | (obtain ⟨h1, _⟩ := valueOp_ok h; obtain ⟨z, _, rfl⟩ := of_map h1; rfl)
    | (obtain ⟨h1, _⟩ := addrOp_ok h; cases h1; rfl)
    | (unfold boxOp at h; split at h <;> cases h; rfl)
    | skip
  all_goals
    obtain ⟨h1, _⟩ := valueOp_ok h
    repeat' split at h1
  all_goals first
    | (cases h1; done)
    | (cases h1; rfl)

/-- A call within a frame. -/
theorem SR.doCall {call : Call} (hc : CallOK c.P c.G call) (h : SR c s a w M B) (hg : Glob c.G c.N0 w) {f : Nat} {vs : Array Value} {avs : List AV} (hv : VRs w (XX c.Y M s.boxes B) (some M) vs.toList avs)
    (hs : doCall call f avs o.dst s = some s') (hd : DstOk c o) {K : Act → World → Prop} {Q : Go.Exit → Act → World → Prop} (hq : True)
    (hK : ∀ a' w' M' B', SR c s' a' w' M' B' → Fr (fun _ => False) w M s'.lo w' M' → s'.lo ≤ s.lo → K a' w') : o.upon c.P a K Q ((callFunc f vs).run c.P w) := by
  unfold AI.doCall at hs
  split at hs
  · rename_i r H' lo hcall
    cases hs
    obtain ⟨β, H⟩ := M
    have hheap : H = s.heap := h.heap
    subst hheap
    refine hc f avs s.heap r H' lo hcall (YB c.Y s.boxes B) c.N0 w β vs (h.memOK hg) (hv.stays (Stays.sub fun k => YB.LX_sub.1)) o a K Q hq fun v w' hp => ?_
    obtain ⟨β', hm, hr, hf⟩ := hp
    have hlen := hf.len
    have hlo := h.lole
    have h1 : SR c { s with heap := H', lo := min s.lo lo } a w' ⟨β', H'⟩ B :=
      h.world rfl rfl rfl rfl (by have : s.heap.length ≤ H'.length := hlen; show min s.lo lo ≤ H'.length; omega) hf (hm.hr.sub fun k => YB.LX_sub.2)
    have hl : St.lo (St.put { s with heap := H', lo := min s.lo lo } o.dst (some r)) = min s.lo lo := by cases o.dst <;> rfl
    refine hK _ _ _ _ (h1.puts hd fun av e => ?_) (hf.mono (by rw [hl]; exact Nat.min_le_right _ _) fun _ _ h => h) (by rw [hl]; exact Nat.min_le_left _ _)
    cases e
    exact hr.stays (Stays.sub fun k => YB.LX_sub.2)
  · cases hs

/-- An operation with calls among them. -/
def SoundC (c : Ctx) (call : Call) (o : Oper) (op : SOp) : Prop :=
  ∀ s s' a w M B, SR c s a w M B → Glob c.G c.N0 w → step call op o.dst s = some s' → ∀ K Q, True →
    (∀ a' w' M' B', SR c s' a' w' M' B' → Fr (exempt op s B) w M s'.lo w' M' → s'.lo ≤ s.lo → K a' w') → o.wp c.P a w K Q

theorem step_sop {call : Call} {op : SOp} {dst : Option Nat} {s : St} (h : isCall op = false) : step call op dst s = sop op dst s := by
  cases op <;> first | rfl | cases h

theorem run_resolve_func {P : Program} {ρ : Operand → Value} {x : Operand} {args : Array Operand} {ats : Array TypeId} {f : Nat} {cap : Array Value} {w : World} (ho : o.op = .call ⟨.value x, args, ats⟩) (hx : ρ x = .func (.func f) #[] cap) :
    (execOp ρ o).run P w = (callFunc f (args.map ρ ++ cap)).run P w := by
  unfold execOp
  simp only [ho]
  simp [resolve, hx, Deferred.ofValue, invoke]

theorem call_sound {call : Call} (hc : CallOK c.P c.G call) {op : SOp} (h : cop c.P c.h c.ntmps o = some op) : SoundC c call o op := by
  by_cases hnc : isCall op = false
  · intro s s' a w M B hs _ hst K Q _ hK
    exact cop_sound h hnc s s' a w M B hs (by rw [← hst, step_sop hnc]) K Q hK
  have hcase : ∃ cl, o.op = .call cl ∧ cCall c.P c.h o cl = some op ∧ DstOk c o := by
    cases ho : o.op with
    | call cl =>
      unfold cop at h
      simp only [ho] at h
      exact ⟨cl, rfl, (valueOp_ok h).1, (valueOp_ok h).2⟩
    | _ => exact absurd (cop_notcall (fun cl e => by rw [ho] at e; cases e) h) hnc
  obtain ⟨⟨callee, args, ats⟩, ho, hcl, hd⟩ := hcase
  intro s s' a w M B hs hgl hst K Q hq hK
  unfold cCall at hcl
  split at hcl
  · rename_i f hf
    have hf : callee = .value (.func f) := hf
    subst hf
    split at hcl
    · split at hcl
      · cases hcl
      · obtain ⟨xs, hxs, rfl⟩ := of_map hcl
        simp only [step] at hst
        split at hst
        · rename_i avs hv
          unfold Oper.wp
          rw [run_resolve_func ho (f := f) (cap := #[]) rfl, Array.append_empty]
          exact hs.doCall hc hgl (hs.vals' hxs hv) hst hd hq fun a' w' M' B' h1 h2 h3 => hK a' w' M' B' h1 (h2.mono (Nat.le_refl _) fun _ _ h => h.elim) h3
        · cases hst
    · cases hcl
  · rename_i x _ hx
    have hx : callee = .value x := hx
    subst hx
    split at hcl
    · rename_i sx xs hsx hxs
      cases hcl
      simp only [step] at hst
      split at hst
      · rename_i f cap avs hfv hv
        have hfr := hs.val hsx hfv
        generalize hfx : a.eval x = fx at hfr
        cases hfr with
        | fn _ cs _ hl hcv =>
          unfold Oper.wp
          rw [run_resolve_func ho hfx]
          refine hs.doCall hc hgl (avs := avs ++ cap) ?_ hst hd hq fun a' w' M' B' h1 h2 h3 => hK a' w' M' B' h1 (h2.mono (Nat.le_refl _) fun _ _ h => h.elim) h3
          have h1 := hs.vals' hxs hv
          refine ⟨by simpa [hl] using h1.1, fun k v av e1 e2 => ?_⟩
          have hlen : args.size = avs.length := by simpa using h1.1
          rw [Array.toList_append, List.getElem?_append] at e1
          rw [List.getElem?_append] at e2
          by_cases hk : k < avs.length
          · rw [if_pos hk] at e2
            rw [if_pos (by simpa [hlen] using hk)] at e1
            exact h1.2 k v av e1 e2
          · rw [if_neg hk] at e2
            rw [if_neg (by simpa [hlen] using hk)] at e1
            simp only [Array.toList_map, List.length_map, Array.length_toList, hlen] at e1
            exact hcv (k - avs.length) v av (by simpa using e1) e2
      · cases hst
    · cases hcl
  · cases hcl
  · rename_i b hb
    exfalso
    repeat' split at hcl
    all_goals first
      | (cases hcl; done)
      | (cases hcl; exact hnc rfl)
      | (obtain ⟨z, _, rfl⟩ := of_map hcl; exact hnc rfl)
end
end Go.AI

/- What is frozen: a row that nobody writes any more is read as a value of its own. -/
set_option linter.unusedVariables false
namespace Go.AI
open Go

theorem mapO_mem {α β : Type} {f : α → Option β} {l : List α} {r : List β} (h : mapO f l = some r) : ∀ y ∈ r, ∃ x ∈ l, f x = some y := by
  intro y hy
  obtain ⟨h1, h2⟩ := mapO_some h
  obtain ⟨k, hk⟩ := List.getElem?_of_mem hy
  have hk' : k < l.length := by rw [h1]; exact (List.getElem?_eq_some_iff.1 hk).1
  exact ⟨l[k], List.getElem_mem _, h2 k _ y (List.getElem?_eq_getElem hk') hk⟩

theorem frz_one {H : Heap} {n0 n : Nat} {st : Bool} {a a' : AV} (h : frzV H n0 st n a = some a') : a'.one = a.one ∧ a'.plain = a.plain := by
  cases n with
  | zero => simp [frzV] at h
  | succ n =>
    cases a <;> simp only [frzV] at h
    case agg => obtain ⟨z, _, rfl⟩ := of_map h; exact ⟨rfl, rfl⟩
    case tup => obtain ⟨z, _, rfl⟩ := of_map h; exact ⟨rfl, rfl⟩
    case fn => obtain ⟨z, _, rfl⟩ := of_map h; exact ⟨rfl, rfl⟩
    case iface => obtain ⟨z, _, rfl⟩ := of_map h; exact ⟨rfl, rfl⟩
    case ref =>
      repeat' split at h
      all_goals first | (cases h; done) | (cases h; exact ⟨rfl, rfl⟩) | (obtain ⟨z, _, rfl⟩ := of_map h; exact ⟨rfl, rfl⟩)
    case ptr =>
      repeat' split at h
      all_goals first | (cases h; done) | (cases h; exact ⟨rfl, rfl⟩) | (obtain ⟨z, _, rfl⟩ := of_map h; exact ⟨rfl, rfl⟩)
    case mref =>
      repeat' split at h
      all_goals first | (cases h; done) | (cases h; exact ⟨rfl, rfl⟩)
    all_goals (cases h; exact ⟨rfl, rfl⟩)

/-- An element's cells, frozen. -/
theorem frz_cells {H : Heap} {n0 n : Nat} {st : Bool} {a a' : AV} (h : frzV H n0 st n a = some a') :
    a.cells.length = a'.cells.length ∧ ∀ (k : Nat) x y, a.cells[k]? = some x → a'.cells[k]? = some y → ∃ m, m ≤ n ∧ frzV H n0 st m x = some y := by
  have hone := frz_one h
  by_cases hag : ∃ cs, a = .agg cs
  · obtain ⟨cs, rfl⟩ := hag
    cases n with
    | zero => simp [frzV] at h
    | succ n =>
      simp only [frzV] at h
      obtain ⟨cs', hcs, rfl⟩ := of_map h
      obtain ⟨h1, h2⟩ := mapO_some hcs
      exact ⟨h1, fun k x y e1 e2 => ⟨n, Nat.le_succ n, h2 k x y e1 e2⟩⟩
  · have hc : a.cells = [a] := by cases a <;> first | rfl | exact absurd ⟨_, rfl⟩ hag
    have hc' : a'.cells = [a'] := by
      cases a' <;> first | rfl | skip
      exfalso
      cases n with
      | zero => simp [frzV] at h
      | succ n =>
        cases a <;> simp only [frzV] at h
        case agg => exact hag ⟨_, rfl⟩
        all_goals (repeat' split at h)
        all_goals first | (cases h; done) | (obtain ⟨z, _, e⟩ := of_map h; cases e; done)
    rw [hc, hc']
    refine ⟨rfl, fun k x y e1 e2 => ⟨n, Nat.le_refl _, ?_⟩⟩
    cases k with
    | zero => simp at e1 e2; subst e1; subst e2; exact h
    | succ k => simp at e1

theorem frz_flat {H : Heap} {n0 n : Nat} {st : Bool} : ∀ {es es' : List AV}, mapO (frzV H n0 st n) es = some es' →
    (flat es).length = (flat es').length ∧ ∀ (k : Nat) x y, (flat es)[k]? = some x → (flat es')[k]? = some y → ∃ m, m ≤ n ∧ frzV H n0 st m x = some y
  | [], es', h => by
    simp only [mapO, Option.some.injEq] at h
    subst h
    exact ⟨rfl, fun k x y h => by simp [flat] at h⟩
  | e :: es, es', h => by
    simp only [mapO] at h
    split at h
    · rename_i e' he
      split at h
      · rename_i r hr
        cases h
        obtain ⟨h1, h2⟩ := frz_cells he
        obtain ⟨h3, h4⟩ := frz_flat hr
        rw [flat_cons, flat_cons]
        refine ⟨by simp [h1, h3], fun k x y e1 e2 => ?_⟩
        rw [List.getElem?_append] at e1 e2
        by_cases hk : k < e.cells.length
        · rw [if_pos hk] at e1
          rw [if_pos (by omega)] at e2
          exact h2 k x y e1 e2
        · rw [if_neg hk] at e1
          rw [if_neg (by omega), ← h1] at e2
          exact h4 _ x y e1 e2
      · cases h
    · cases h

/-- Where freezing is right. -/
structure FrzOK (w : World) (X : Nat → Prop) (M : Mem) (H : Heap) (n0 : Nat) (X' : Nat → Prop) : Prop where
  row : ∀ b g s es, n0 ≤ b → H.row b g = some (s, es) → M.H.get b = some (.row s g es) ∧ RowR w X M b s es ∧ ¬ X' (M.β b).1 ∧ (M.β b).1 < w.heap.size
  sub : ∀ k, X' k → X k

/-- The heap below a number, kept. -/
structure FrzKeep (M : Mem) (n0 : Nat) (M' : Mem) : Prop where
  len : n0 ≤ M'.H.length
  keep : ∀ b, b < n0 → M'.H[b]? = M.H[b]? ∧ M'.β b = M.β b

theorem frzV_sound {w : World} {X X' : Nat → Prop} {M : Mem} {H : Heap} {n0 : Nat} (hk : FrzOK w X M H n0 X') : ∀ (n : Nat) (st : Bool) (m' : Option Mem) (v : Value) (a a' : AV),
    (st = false → ∃ M', m' = some M' ∧ FrzKeep M n0 M') → (st = true → m' = none) → VR w X (some M) v a → frzV H n0 st n a = some a' → VR w X' m' v a' := by
  intro n
  induction n using Nat.strongRecOn with
  | _ n ih =>
    intro st m' v a a' hm hmt hv h
    have hone := frz_one h
    cases n with
    | zero => simp [frzV] at h
    | succ n =>
    have hnone : ∀ {u : Value} {b : AV}, VR w X none u b → VR w X' none u b := fun h => h.stays (Stays.sub hk.sub)
    have hcs : ∀ (cs : Array Value) (as as' : List AV), cs.size = as.length → (∀ (k : Nat) v a, cs[k]? = some v → as[k]? = some a → VR w X (some M) v a) → mapO (frzV H n0 st n) as = some as' →
        cs.size = as'.length ∧ ∀ (k : Nat) v a, cs[k]? = some v → as'[k]? = some a → VR w X' m' v a := fun cs as as' hl hv hmap => by
      obtain ⟨h1, h2⟩ := mapO_some hmap
      refine ⟨hl.trans h1, fun k u b e1 e2 => ?_⟩
      have hk' : k < as.length := by rw [h1]; exact (List.getElem?_eq_some_iff.1 e2).1
      exact ih n (Nat.lt_succ_self n) st m' u _ b hm hmt (hv k u _ e1 (List.getElem?_eq_getElem hk')) (h2 k _ b (List.getElem?_eq_getElem hk') e2)
    have hflat : ∀ (vals : List Value) (es es' : List AV), VRs w X (some M) vals (flat es) → mapO (frzV H n0 true n) es = some es' →
        vals.length = (flat es').length ∧ (∀ (k : Nat) v a, vals[k]? = some v → (flat es')[k]? = some a → VR w X' none v a) := fun vals es es' hv hmap => by
      obtain ⟨h1, h2⟩ := frz_flat hmap
      refine ⟨hv.1.trans h1, fun k u b e1 e2 => ?_⟩
      have hk' : k < (flat es).length := by rw [h1]; exact (List.getElem?_eq_some_iff.1 e2).1
      obtain ⟨m, hmle, hm2⟩ := h2 k _ b (List.getElem?_eq_getElem hk') e2
      exact ih m (Nat.lt_succ_of_le hmle) true none u _ b (fun e => by cases e) (fun _ => rfl) (hv.2 k u _ e1 (List.getElem?_eq_getElem hk')) hm2
    cases hv with
    | bool b => simp only [frzV] at h; cases h; exact .bool b
    | int k n => simp only [frzV] at h; cases h; exact .int k n
    | str s => simp only [frzV] at h; cases h; exact .str s
    | nilp => simp only [frzV] at h; cases h; exact .nilp
    | nilmap => simp only [frzV] at h; cases h; exact .nilmap
    | nilfn => simp only [frzV] at h; cases h; exact .nilfn
    | nilif => simp only [frzV] at h; cases h; exact .nilif
    | someif t u => simp only [frzV] at h; cases h; exact .someif t u
    | nilsl => simp only [frzV] at h; cases h; exact .vslE none 0
    | emp p => simp only [frzV] at h; cases h; exact .vslE p 0
    | fptr c o off cells vals hX hc hr hl h1 hv =>
      simp only [frzV] at h; cases h
      exact .fptr c o off cells vals (fun h => hX (hk.sub _ h)) hc hr hl h1 fun k u b e1 e2 => hnone (hv k u b e1 e2)
    | vslE p cap => simp only [frzV] at h; cases h; exact .vslE p cap
    | vsl c o cap sz es vals hcap hX hc hr hl hsz h1 hv =>
      simp only [frzV] at h; cases h
      exact .vsl c o cap sz es vals hcap (fun h => hX (hk.sub _ h)) hc hr hl hsz h1 fun k u b e1 e2 => hnone (hv k u b e1 e2)
    | agg cs as hl h1 hv =>
      simp only [frzV] at h
      obtain ⟨as', has, rfl⟩ := of_map h
      obtain ⟨h2, h3⟩ := hcs cs as as' hl hv has
      refine .agg cs as' h2 (fun x hx => ?_) h3
      obtain ⟨y, hy, e⟩ := mapO_mem has x hx
      rw [(frz_one e).1]; exact h1 y hy
    | tup cs as hl hv =>
      simp only [frzV] at h
      obtain ⟨as', has, rfl⟩ := of_map h
      obtain ⟨h2, h3⟩ := hcs cs as as' hl hv has
      exact .tup cs as' h2 h3
    | fn f cs as hl hv =>
      simp only [frzV] at h
      obtain ⟨as', has, rfl⟩ := of_map h
      obtain ⟨h2, h3⟩ := hcs cs as as' hl hv has
      exact .fn f cs as' h2 h3
    | iface t u b hu =>
      simp only [frzV] at h
      obtain ⟨b', hb, rfl⟩ := of_map h
      exact .iface t u b' (ih n (Nat.lt_succ_self n) st m' u b b' hm hmt hu hb)
    | mref r b hb hr =>
      simp only [frzV] at h
      split at h
      · rename_i hlt
        cases st with
        | true => simp at h
        | false =>
          obtain ⟨M', rfl, hkp⟩ := hm rfl
          simp only [Bool.false_eq_true, if_false, Option.some.injEq] at h
          cases h
          obtain ⟨e1, e2⟩ := hkp.keep b hlt
          exact .mref r b (Nat.lt_of_lt_of_le hlt hkp.len) fun kvs hg => by rw [e2]; exact hr kvs (by rw [← Heap.get_congr e1]; exact hg)
      · cases h
    | ptr p b g i off hb hg hp =>
      simp only [frzV] at h
      split at h
      · rename_i hlt
        cases st with
        | true => simp at h
        | false =>
          obtain ⟨M', rfl, hkp⟩ := hm rfl
          simp only [Bool.false_eq_true, if_false, Option.some.injEq] at h
          cases h
          obtain ⟨e1, e2⟩ := hkp.keep b hlt
          exact .ptr p b g i off (Nat.lt_of_lt_of_le hlt hkp.len) (fun s g' es hr => hg s g' es (by rw [← Heap.get_congr e1]; exact hr))
            fun s es hr => by rw [e2]; exact hp s es (by rw [← Heap.get_congr e1]; exact hr)
      · rename_i hge
        split at h
        · rename_i s es hrow
          obtain ⟨hget, hR, hX, hlt⟩ := hk.row b g s es (by omega) hrow
          split at h
          · rename_i e he
            obtain ⟨cs, hcs', rfl⟩ := of_map h
            have hpe := hp s es hget
            obtain ⟨vals, hrng, hvals⟩ := hR.ex
            have hsub := VRs_sub hvals (i * s) s
            rw [flat_elem hR.sz he] at hsub
            obtain ⟨h1, h2⟩ := mapO_some hcs'
            rw [hpe]
            refine .fptr (M.β b).1 ((M.β b).2 + i * s) off cs ((vals.drop (i * s)).take s) hX hlt (rangeAt_sub hrng _ _) (hsub.1.trans h1) (fun x hx => ?_) fun k u x e1 e2 => ?_
            · obtain ⟨y, hy, e'⟩ := mapO_mem hcs' x hx
              rw [(frz_one e').1]
              exact elem_one hR.one he y hy
            · have hk' : k < e.cells.length := by rw [h1]; exact (List.getElem?_eq_some_iff.1 e2).1
              exact ih n (Nat.lt_succ_self n) true none u _ x (fun e => by cases e) (fun _ => rfl) (hsub.2 k u _ e1 (List.getElem?_eq_getElem hk')) (h2 k _ x (List.getElem?_eq_getElem hk') e2)
          · cases h
        · cases h
    | ref p b g off len cap hb hg hp =>
      simp only [frzV] at h
      split at h
      · rename_i hlt
        cases st with
        | true => simp at h
        | false =>
          obtain ⟨M', rfl, hkp⟩ := hm rfl
          simp only [Bool.false_eq_true, if_false, Option.some.injEq] at h
          cases h
          obtain ⟨e1, e2⟩ := hkp.keep b hlt
          exact .ref p b g off len cap (Nat.lt_of_lt_of_le hlt hkp.len) (fun s g' es hr => hg s g' es (by rw [← Heap.get_congr e1]; exact hr))
            fun s es hr => by rw [e2]; exact hp s es (by rw [← Heap.get_congr e1]; exact hr)
      · rename_i hge
        split at h
        · rename_i s es hrow
          obtain ⟨hget, hR, hX, hlt⟩ := hk.row b g s es (by omega) hrow
          split at h
          · rename_i hle
            obtain ⟨l, hl, rfl⟩ := of_map h
            obtain ⟨h1, h2, h3⟩ := hp s es hget
            have hlen : len = l.length := by have := (mapO_some hl).1; simp at this; omega
            rcases h3 with h3 | ⟨h3, h4⟩
            · have : l = [] := List.eq_nil_of_length_eq_zero (by omega)
              subst this
              simp at hlen
              subst hlen
              exact .vslE (some p) cap
            · obtain ⟨vals, hrng, hvals⟩ := hR.ex
              have hsub := VRs_sub hvals (off * s) (len * s)
              rw [flat_drop off hR.sz, flat_take len (fun e he => hR.sz e (List.mem_of_mem_drop he))] at hsub
              obtain ⟨h5, h6⟩ := hflat _ _ l hsub hl
              rw [h3, hlen]
              refine .vsl (M.β b).1 ((M.β b).2 + off * s) cap s l ((vals.drop (off * s)).take (len * s)) (by omega) hX hlt (rangeAt_sub hrng _ _) h5 (fun e he => ?_) (fun x hx => ?_) h6
              · obtain ⟨y, hy, e'⟩ := mapO_mem hl e he
                rw [← (frz_cells e').1]
                exact hR.sz y (List.mem_of_mem_drop (List.mem_of_mem_take hy))
              · obtain ⟨e, he, hxe⟩ := mem_flat.1 hx
                obtain ⟨y, hy, e'⟩ := mapO_mem hl e he
                obtain ⟨g1, g2⟩ := frz_cells e'
                obtain ⟨k, hk2⟩ := List.getElem?_of_mem hxe
                have hk' : k < y.cells.length := by rw [g1]; exact (List.getElem?_eq_some_iff.1 hk2).1
                obtain ⟨m, _, hm2⟩ := g2 k _ x (List.getElem?_eq_getElem hk') hk2
                rw [(frz_one hm2).1]
                exact hR.one _ (mem_flat.2 ⟨y, List.mem_of_mem_drop (List.mem_of_mem_take hy), List.getElem_mem _⟩)
          · cases h
        · cases h
end Go.AI

/- Regions: operations in turn, what is frozen behind them, what is kept. -/
set_option linter.unusedVariables false
namespace Go.AI
open Go

section rows
variable {w : World} {X X' : Nat → Prop} {M : Mem} {H : Heap} {n0 : Nat}

theorem frz_vals (hk : FrzOK w X M H n0 X') {n : Nat} {vals : List Value} {cs cs' : List AV} (hv : VRs w X (some M) vals cs)
    (hl : cs.length = cs'.length) (hc : ∀ (k : Nat) x y, cs[k]? = some x → cs'[k]? = some y → ∃ m, m ≤ n ∧ frzV H n0 true m x = some y) :
    vals.length = cs'.length ∧ ∀ (k : Nat) v a, vals[k]? = some v → cs'[k]? = some a → VR w X' none v a := by
  refine ⟨hv.1.trans hl, fun k u b e1 e2 => ?_⟩
  have hk' : k < cs.length := by rw [hl]; exact (List.getElem?_eq_some_iff.1 e2).1
  obtain ⟨m, _, hm⟩ := hc k _ b (List.getElem?_eq_getElem hk') e2
  exact frzV_sound hk m true none u _ b (fun e => by cases e) (fun _ => rfl) (hv.2 k u _ e1 (List.getElem?_eq_getElem hk')) hm

theorem frz_row (hk : FrzOK w X M H n0 X') {n b s : Nat} {es l : List AV} (hR : RowR w X M b s es) (hX : ¬ X' (M.β b).1) (hlt : (M.β b).1 < w.heap.size) {p : Addr} {off len cap : Nat}
    (h1 : len ≤ cap) (h2 : off + len ≤ es.length) (h3 : cap = 0 ∨ (p = ⟨(M.β b).1, (M.β b).2 + off * s, none⟩ ∧ w.there (M.β b).1 ((M.β b).2 + off * s) (cap * s)))
    (hl : mapO (frzV H n0 true n) ((es.drop off).take len) = some l) : VR w X' none (.slice (some p) len cap) (.vsl l) := by
  have hlen : len = l.length := by have := (mapO_some hl).1; simp at this; omega
  rcases h3 with h3 | ⟨h3, h4⟩
  · have : l = [] := List.eq_nil_of_length_eq_zero (by omega)
    subst this
    simp at hlen
    subst hlen
    exact .vslE (some p) cap
  · obtain ⟨vals, hrng, hvals⟩ := hR.ex
    have hsub := VRs_sub hvals (off * s) (len * s)
    rw [flat_drop off hR.sz, flat_take len (fun e he => hR.sz e (List.mem_of_mem_drop he))] at hsub
    obtain ⟨g1, g2⟩ := frz_flat hl
    obtain ⟨h5, h6⟩ := frz_vals hk hsub g1 g2
    rw [h3, hlen]
    refine .vsl (M.β b).1 ((M.β b).2 + off * s) cap s l ((vals.drop (off * s)).take (len * s)) (by omega) hX hlt (rangeAt_sub hrng _ _) h5 (fun e he => ?_) (fun x hx => ?_) h6
    · obtain ⟨y, hy, e'⟩ := mapO_mem hl e he
      rw [← (frz_cells e').1]
      exact hR.sz y (List.mem_of_mem_drop (List.mem_of_mem_take hy))
    · obtain ⟨e, he, hxe⟩ := mem_flat.1 hx
      obtain ⟨y, hy, e'⟩ := mapO_mem hl e he
      obtain ⟨g1, g2⟩ := frz_cells e'
      obtain ⟨k, hk2⟩ := List.getElem?_of_mem hxe
      have hk' : k < y.cells.length := by rw [g1]; exact (List.getElem?_eq_some_iff.1 hk2).1
      obtain ⟨m, _, hm2⟩ := g2 k _ x (List.getElem?_eq_getElem hk') hk2
      rw [(frz_one hm2).1]
      exact hR.one _ (mem_flat.2 ⟨y, List.mem_of_mem_drop (List.mem_of_mem_take hy), List.getElem_mem _⟩)

theorem frz_elem (hk : FrzOK w X M H n0 X') {n b s i off : Nat} {es cs : List AV} {e : AV} (hR : RowR w X M b s es) (hX : ¬ X' (M.β b).1) (hlt : (M.β b).1 < w.heap.size)
    (he : es[i]? = some e) (hl : mapO (frzV H n0 true n) e.cells = some cs) : VR w X' none (.pointer (some ⟨(M.β b).1, (M.β b).2 + i * s + off, none⟩)) (.fptr cs off) := by
  obtain ⟨vals, hrng, hvals⟩ := hR.ex
  have hsub := VRs_sub hvals (i * s) s
  rw [flat_elem hR.sz he] at hsub
  obtain ⟨h1, h2⟩ := mapO_some hl
  obtain ⟨h3, h4⟩ := frz_vals hk (n := n) hsub h1 fun k x y e1 e2 => ⟨n, Nat.le_refl _, h2 k x y e1 e2⟩
  refine .fptr (M.β b).1 ((M.β b).2 + i * s) off cs ((vals.drop (i * s)).take s) hX hlt (rangeAt_sub hrng _ _) h3 (fun x hx => ?_) h4
  obtain ⟨y, hy, e'⟩ := mapO_mem hl x hx
  rw [(frz_one e').1]
  exact elem_one hR.one he y hy
end rows

section
variable {c : Ctx} {s s' : St} {a : Act} {w : World} {M : Mem} {B : Nat → Nat} {o : Oper}

/-- What a slot holds, told otherwise. -/
theorem SR.say (h : SR c s a w M B) {d : Nat} {av : AV} (hA : isA c.h d = false) (hv : VR w (XX c.Y M s.boxes B) (some M) (a.tmps.getD d undef) av) : SR c (s.put (some d) (some av)) a w M B :=
  { h with
    env := fun t u ht => by
      simp only [St.put, look_cons] at ht
      split at ht
      · rename_i e; subst e; cases ht; exact hv
      · exact h.env t u ht
    envA := fun t u ht => by
      simp only [St.put, look_cons] at ht
      split at ht
      · rename_i e; exact e ▸ hA
      · exact h.envA t u ht }

theorem SR.undef (h : SR c s a w M B) {d : Nat} (hA : c.h.boxes.contains d = false) (hd : d < c.ntmps) (v : Value) {u : Option AV} (hu : ∀ x, u = some x → isA c.h d = false ∧ VR w (XX c.Y M s.boxes B) (some M) v x) : SR c (s.undef u (some d)) (a.put (some d) v) w M B := by
  have hds : d < a.tmps.size := Nat.lt_of_lt_of_le hd h.size
  exact { h with
    heap := h.heap
    size := by simpa [Act.put] using h.size
    hr := h.hr
    notB := h.notB
    env := fun t u ht => by
      simp only [St.undef, look_cons] at ht
      split at ht
      · rename_i e
        subst e
        simp only [Act.put, getD_set hds, if_true]
        exact (hu _ ht).2
      · rename_i e
        simp only [Act.put, getD_set hds, if_neg e]
        exact h.env t u ht
    envA := fun t u ht => by
      simp only [St.undef, look_cons] at ht
      split at ht
      · rename_i e; subst e; exact (hu _ ht).1
      · exact h.envA t u ht
    box := fun t cells ht => by
      have hb := h.box t cells ht
      have hn : d ≠ t := fun e => by subst e; rw [hb.isA] at hA; cases hA
      refine { hb with slot := ?_ }
      simp only [Act.put, getD_set hds, if_neg hn]
      exact hb.slot
    inj := h.inj
    addr := fun t d' off cells ht hb => by
      simp only [St.undef, look_cons] at ht
      split at ht
      · cases ht
      · rename_i e
        simp only [Act.put, getD_set hds, if_neg e]
        exact h.addr t d' off cells ht hb
    addrA := fun t p ht => by
      simp only [St.undef, look_cons] at ht
      split at ht
      · cases ht
      · exact h.addrA t p ht
    lole := h.lole }

theorem Heap.row_get {H : Heap} {b g s : Nat} {es : List AV} (h : H.row b g = some (s, es)) : H.get b = some (.row s g es) := by
  unfold Heap.row at h
  split at h
  · rename_i s0 g0 es0 hg
    split at h
    · rename_i e; subst e; cases h; exact hg
    · cases h
  · cases h

theorem get_nil (b : Nat) : Heap.get [] b = none := rfl

/-- Nothing that was asked of memory has changed, or more is forgotten. -/
def Goes (c : Ctx) (s : St) (a : Act) (w : World) (M : Mem) (B : Nat → Nat) (s' : St) : Prop :=
  ∃ M', SR c s' a w M' B ∧ Fr (fun _ => False) w M s'.lo w M' ∧ s'.lo ≤ s.lo

theorem freeze_sound (h : SR c s a w M B) {d : Nat} (hs : freeze s d = some s') : Goes c s a w M B s' := by
  have hheap := h.heap
  unfold freeze at hs
  have nok : ∀ X' : Nat → Prop, (∀ k, X' k → XX c.Y M s.boxes B k) → FrzOK w (XX c.Y M s.boxes B) M [] 0 X' := fun X' hX' =>
    ⟨fun b g z es _ hr => by simp [Heap.row, get_nil] at hr, hX'⟩
  have hkill : ∀ b blk, s.heap.get b = some blk → ∀ l, l = min s.lo b →
      SR c { s with heap := s.heap.set b none, lo := l } a w ⟨M.β, s.heap.set b none⟩ B ∧ Fr (fun _ => False) w M l w ⟨M.β, s.heap.set b none⟩ ∧
      ¬ XX c.Y ⟨M.β, s.heap.set b none⟩ s.boxes B (M.β b).1 ∧ (M.β b).1 < w.heap.size ∧ (∀ k, XX c.Y ⟨M.β, s.heap.set b none⟩ s.boxes B k → XX c.Y M s.boxes B k) := fun b blk hb l hl => by
    have hlo := h.lole
    have hlen : (s.heap.set b none).length = s.heap.length := by simp
    have key := h.kill (b := b) (s' := { s with heap := s.heap.set b none, lo := l }) rfl rfl rfl (by show l ≤ (s.heap.set b none).length; omega) (by rw [hheap])
    have hlv : M.live b := by unfold Mem.live; rw [hheap, hb]; rfl
    have hgone : ∀ k, (Mem.mk M.β (s.heap.set b none)).live k → k ≠ b ∧ M.live k := fun k hk => by
      unfold Mem.live at hk ⊢
      rw [get_set (Heap.get_lt hb)] at hk
      split at hk
      · cases hk
      · rename_i e; exact ⟨e, by rw [hheap]; exact hk⟩
    refine ⟨key.1, key.2 l (by omega), ?_, h.hr.lt b hlv, ?_⟩
    · rintro (hy | ⟨k, hk, e⟩ | ⟨d, cells, hd, e⟩)
      · exact h.notY b hlv hy
      · obtain ⟨h1, h2⟩ := hgone k hk
        exact h1 (h.hr.inj k b h2 hlv e)
      · exact h.notB b d cells hlv hd e
    · intro k hx
      exact hx.imp id (Or.imp (fun ⟨j, hj, e⟩ => ⟨j, (hgone j hj).2, e⟩) id)
  split at hs
  · rename_i b g off len hd
    have hA := h.envA d _ hd
    have hv := h.env d _ hd
    split at hs
    · cases hs
    split at hs
    · rename_i sz es hrow
      split at hs
      · rename_i hle
        split at hs
        · rename_i l hl
          cases hs
          have hget := Heap.row_get hrow
          obtain ⟨k1, k2, k3, k4, k5⟩ := hkill b _ hget _ rfl
          refine ⟨_, k1.say hA ?_, k2, Nat.min_le_left _ _⟩
          generalize a.tmps.getD d undef = v at hv
          cases hv with
          | ref p _ _ _ _ cap hb hg hp =>
            obtain ⟨h1, h2, h3⟩ := hp sz es (by rw [hheap]; exact hget)
            exact (frz_row (nok _ k5) (h.hr.row b sz g es (by rw [hheap]; exact hget)) k3 k4 h1 h2 h3 hl).any _
        · cases hs
      · cases hs
    · cases hs
  · rename_i b g i off hd
    have hA := h.envA d _ hd
    have hv := h.env d _ hd
    split at hs
    · cases hs
    split at hs
    · rename_i sz es hrow
      split at hs
      · rename_i e he
        split at hs
        · rename_i cs hcs
          cases hs
          have hget := Heap.row_get hrow
          obtain ⟨k1, k2, k3, k4, k5⟩ := hkill b _ hget _ rfl
          refine ⟨_, k1.say hA ?_, k2, Nat.min_le_left _ _⟩
          generalize a.tmps.getD d undef = v at hv
          cases hv with
          | ptr p _ _ _ _ hb hg hp =>
            rw [hp sz es (by rw [hheap]; exact hget)]
            exact (frz_elem (nok _ k5) (h.hr.row b sz g es (by rw [hheap]; exact hget)) k3 k4 he hcs).any _
        · cases hs
      · cases hs
    · cases hs
  · rename_i hd
    cases hs
    have hv := h.env d _ hd
    refine ⟨M, h.say (h.envA d _ hd) ?_, Fr.refl _ _ _ _, Nat.le_refl _⟩
    generalize a.tmps.getD d undef = v at hv
    cases hv
    exact .vslE none 0
  · rename_i hd
    cases hs
    have hv := h.env d _ hd
    refine ⟨M, h.say (h.envA d _ hd) ?_, Fr.refl _ _ _ _, Nat.le_refl _⟩
    generalize a.tmps.getD d undef = v at hv
    cases hv with
    | emp p => exact .vslE p 0
  · cases hs

theorem freezeAll_sound : ∀ {l : List Nat} {s s' : St} {M : Mem}, SR c s a w M B → freezeAll l s = some s' → Goes c s a w M B s'
  | [], s, s', M, h, hs => by cases hs; exact ⟨M, h, Fr.refl _ _ _ _, Nat.le_refl _⟩
  | d :: r, s, s', M, h, hs => by
    simp only [freezeAll] at hs
    split at hs
    · rename_i s1 h1
      obtain ⟨M1, k1, f1, l1⟩ := freeze_sound h h1
      obtain ⟨M2, k2, f2, l2⟩ := freezeAll_sound k1 hs
      exact ⟨M2, k2, (f1.trans f2).mono (by omega) fun _ _ h => h, Nat.le_trans l2 l1⟩
    · cases hs

theorem look_map {α : Type} (f : Nat → Option α) : ∀ (l : List Nat) (d : Nat), look (l.map fun k => (k, f k)) d = if d ∈ l then f d else none
  | [], d => by simp [look]
  | k :: l, d => by
    simp only [List.map_cons, look_cons, List.mem_cons]
    by_cases e : k = d
    · subst e; simp
    · rw [if_neg e, look_map f l d]
      have : d ≠ k := fun h => e h.symm
      simp [this]

theorem restrict_sound (h : SR c s a w M B) {env boxes : List Nat} (hb : ∀ d ∈ boxes, isA c.h d = true) : SR c (restrict env boxes s) a w M B := by
  have hbx : ∀ d cells, look (restrict env boxes s).boxes d = some cells → look s.boxes d = some cells ∧ d ∈ boxes := fun d cells hd => by
    simp only [restrict, look_map] at hd
    split at hd
    · rename_i hm; exact ⟨hd, hm⟩
    · cases hd
  have hX : ∀ k, XX c.Y M (restrict env boxes s).boxes B k → XX c.Y M s.boxes B k := fun k hk =>
    hk.imp id (Or.imp id fun ⟨d, cells, hd, e⟩ => ⟨d, cells, (hbx d cells hd).1, e⟩)
  exact {
    heap := h.heap
    size := h.size
    defers := h.defers
    hr := h.hr.sub hX
    notY := h.notY
    notB := fun b d cells hl hd => h.notB b d cells hl (hbx d cells hd).1
    env := fun d v hd => by
      simp only [restrict, look_map] at hd
      split at hd
      · exact (h.env d v hd).stays (Stays.sub hX)
      · cases hd
    envA := fun d v hd => by
      simp only [restrict, look_map] at hd
      split at hd
      · exact h.envA d v hd
      · cases hd
    box := fun d cells hd => by
      have hb := h.box d cells (hbx d cells hd).1
      obtain ⟨vals, h1, h2⟩ := hb.ex
      exact { hb with ex := ⟨vals, h1, h2.stays (Stays.sub hX)⟩ }
    inj := fun d d' x y h1 h2 => h.inj d d' x y (hbx d x h1).1 (hbx d' y h2).1
    addr := fun t d off cells ht hd => by
      simp only [restrict, look_map] at ht
      split at ht
      · cases ht
        exact (h.box t cells (hbx t cells hd).1).slot
      · cases ht
    addrA := fun t p ht => by
      simp only [restrict, look_map] at ht
      split at ht
      · rename_i hm; exact hb t hm
      · cases ht
    base := h.base
    N0 := h.N0
    Ylt := h.Ylt
    lole := h.lole
    Yge := h.Yge
    gl := fun g cells hg => (h.gl g cells hg).stays (Stays.sub hX) }

theorem endRegion_sound (h : SR c s a w M B) {env boxes frz : List Nat} (hb : ∀ d ∈ boxes, isA c.h d = true) (hs : endRegion env boxes frz s = some s') : Goes c s a w M B s' := by
  unfold endRegion at hs
  split at hs
  · rename_i s1 h1
    cases hs
    obtain ⟨M1, k1, f1, l1⟩ := freezeAll_sound h h1
    exact ⟨M1, restrict_sound k1 hb, f1, l1⟩
  · cases hs
end
end Go.AI

/- What an operation looks at, and that it looks at nothing else. -/
set_option linter.unusedVariables false
set_option linter.unusedSimpArgs false
namespace Go.AI
open Go

def SX.slots : SX → List Nat
  | .slot d => [d]
  | .lit _ => []

def slotsO : Option SX → List Nat
  | some x => x.slots
  | none => []

def SOp.uses : SOp → List Nat
  | .mov x | .boxA _ x | .box _ x | .load _ _ x | .storeA _ _ x | .nilCheck x | .un _ x | .conv _ x | .sameS x | .bytesStr x | .strBytes x | .mkIface _ x
  | .faddr _ x | .iaddrA _ _ _ x | .field _ _ _ x | .extract x _ | .len _ x | .clear _ x => x.slots
  | .pick c a b => c.slots ++ a.slots ++ b.slots
  | .build _ ps => ps.flatMap fun p => p.2.2.slots
  | .buildSlice _ _ _ ps => ps.flatMap fun p => p.2.slots
  | .store _ x y | .bin _ _ x y | .makeSlice _ _ _ x y | .iaddr _ x y | .iaddrP _ _ x y | .indexS x y | .indexG _ _ _ x y | .lookup _ _ x y _ | .delete _ x y
  | .append _ _ x y | .copy _ x y => x.slots ++ y.slots
  | .mkFunc _ xs | .minmax _ xs | .call _ xs => xs.flatMap SX.slots
  | .callv x xs => x.slots ++ xs.flatMap SX.slots
  | .slice _ x a b c => x.slots ++ slotsO a ++ slotsO b ++ slotsO c
  | .sliceS x a b => x.slots ++ slotsO a ++ slotsO b
  | .mapUpd _ x y z => x.slots ++ y.slots ++ z.slots
  | .allocA _ | .alloc _ | .loadA .. | .movA _ | .makeMap | .faddrA .. => []

def SOp.usesA : SOp → List Nat
  | .loadA _ _ t | .storeA _ t _ | .movA t | .faddrA _ t | .iaddrA _ _ t _ => [t]
  | _ => []

/-- Two states alike where it is looked. -/
structure Alike (U A : List Nat) (s t : St) : Prop where
  heap : t.heap = s.heap
  lo : t.lo = s.lo
  base : t.base = s.base
  boxes : ∀ d, look t.boxes d = look s.boxes d
  env : ∀ d ∈ U, look t.env d = look s.env d
  addrs : ∀ d ∈ A, look t.addrs d = look s.addrs d

section
variable {U A : List Nat} {s t : St}

theorem Alike.eval (h : Alike U A s t) {x : SX} (hx : ∀ d ∈ x.slots, d ∈ U) : t.eval x = s.eval x := by
  cases x with
  | slot d => exact h.env d (hx d (by simp [SX.slots]))
  | lit v => rfl

theorem Alike.evals (h : Alike U A s t) : ∀ {xs : List SX}, (∀ d ∈ xs.flatMap SX.slots, d ∈ U) → t.evals xs = s.evals xs
  | [], _ => rfl
  | x :: r, hx => by
    have h1 := h.eval (x := x) fun d hd => hx d (by simp [hd])
    have h2 := h.evals (xs := r) fun d hd => hx d (by simp only [List.flatMap_cons, List.mem_append]; exact .inr hd)
    simp only [St.evals, h1, h2]

theorem Alike.evalO (h : Alike U A s t) {x : Option SX} (hx : ∀ d ∈ slotsO x, d ∈ U) : t.evalO x = s.evalO x := by
  cases x with
  | none => rfl
  | some x => simp only [St.evalO, h.eval (x := x) hx]

theorem Alike.fill (h : Alike U A s t) : ∀ {ps : List (Nat × Nat × SX)} {z : List AV}, (∀ d ∈ ps.flatMap (fun p => p.2.2.slots), d ∈ U) → aop.fill t z ps = aop.fill s z ps
  | [], _, _ => rfl
  | (o, n, x) :: r, z, hx => by
    have h1 := h.eval (x := x) fun d hd => hx d (by simp [hd])
    have h2 := fun z' => h.fill (ps := r) (z := z') fun d hd => hx d (by simp only [List.flatMap_cons, List.mem_append]; exact .inr hd)
    simp only [aop.fill, h1, h2]

theorem Alike.fillE (h : Alike U A s t) {sz : Nat} : ∀ {ps : List (Nat × SX)} {z : List AV}, (∀ d ∈ ps.flatMap (fun p => p.2.slots), d ∈ U) → aop.fillE t sz z ps = aop.fillE s sz z ps
  | [], _, _ => rfl
  | (o, x) :: r, z, hx => by
    have h1 := h.eval (x := x) fun d hd => hx d (by simp [hd])
    have h2 := fun z' => h.fillE (sz := sz) (ps := r) (z := z') fun d hd => hx d (by simp only [List.flatMap_cons, List.mem_append]; exact .inr hd)
    simp only [aop.fillE, h1, h2]

/-- The frame's part of one state, and the heap of another. -/
def St.over (t s1 : St) : St := { t with heap := s1.heap, lo := s1.lo }

theorem append_over {sz bytes : Nat} {x : AV} {ys : List AV} (h1 : t.heap = s.heap) (h2 : t.lo = s.lo) : appendOp sz bytes x ys t = (appendOp sz bytes x ys s).map fun p => (p.1, t.over p.2) := by
  obtain ⟨e, b, a, H, l, n⟩ := t
  obtain ⟨e', b', a', H', l', n'⟩ := s
  simp only at h1 h2
  subst h1 h2
  cases x <;> simp only [appendOp] <;> (try rfl)
  case nilsl => cases ys <;> simp only [] <;> (try rfl); split <;> rfl
  case emp => cases ys <;> simp only [] <;> (try rfl); split <;> rfl
  case ref =>
    split
    · split
      · cases ys <;> rfl
      · rfl
    · rfl

theorem copy_over {sz : Nat} {x : AV} {ys : List AV} (h1 : t.heap = s.heap) (h2 : t.lo = s.lo) : copyOp sz x ys t = (copyOp sz x ys s).map fun p => (p.1, t.over p.2) := by
  obtain ⟨e, b, a, H, l, n⟩ := t
  obtain ⟨e', b', a', H', l', n'⟩ := s
  simp only at h1 h2
  subst h1 h2
  cases x <;> simp only [copyOp] <;> (try rfl)
  split
  · split <;> rfl
  · rfl

theorem aop_over (h : Alike U A s t) {op : SOp} (hU : ∀ d ∈ op.uses, d ∈ U) (hA : ∀ d ∈ op.usesA, d ∈ A) : aop op t = (aop op s).map fun p => (p.1, t.over p.2) := by
  have hself : t = t.over s := by obtain ⟨e, b, a, H, l, n⟩ := t; have := h.heap; have := h.lo; simp only at *; subst_vars; rfl
  cases op <;> simp only [SOp.uses, SOp.usesA] at hU hA
  case mov x => simp only [aop, h.eval hU]; split <;> simp [← hself]
  case pick c a b =>
    simp only [aop, h.eval (x := c) fun d hd => hU d (by simp [hd]), h.eval (x := a) fun d hd => hU d (by simp [hd]), h.eval (x := b) fun d hd => hU d (by simp [hd])]
    repeat' split
    all_goals simp [← hself]
  case alloc e => simp only [aop, h.heap]; simp [addRow, St.over, h.heap, h.lo]
  case box sz x => simp only [aop, h.eval hU, h.heap]; repeat' split
                   all_goals simp [addRow, St.over, h.heap, h.lo]
  case build z ps => simp only [aop, h.fill hU]; cases aop.fill s z ps <;> simp [← hself]
  case buildSlice sz z n ps =>
    simp only [aop, h.fillE hU, h.heap]
    repeat' split
    all_goals simp [addRow, St.over, h.heap, h.lo]
    all_goals (try (rw [← h.heap, ← h.lo]))
  case loadA agg sz x =>
    simp only [aop, h.addrs x (hA x (by simp)), h.boxes]
    repeat' split
    all_goals first | rfl | (cases readAt agg sz _ _ <;> simp [← hself])
  case load agg sz x =>
    simp only [aop, h.eval hU, h.heap]
    repeat' split
    all_goals first | rfl | (cases readAt agg sz _ _ <;> simp [← hself])
  case nilCheck x => simp only [aop, h.eval hU]; split <;> simp [← hself]
  case bin o e x y =>
    simp only [aop, h.eval (x := x) fun d hd => hU d (by simp [hd]), h.eval (x := y) fun d hd => hU d (by simp [hd])]
    split
    · cases binOp o e _ _ <;> simp [← hself]
    · rfl
  case un o x =>
    simp only [aop, h.eval hU]
    split
    · cases unOp o _ <;> simp [← hself]
    · rfl
  case conv k x => simp only [aop, h.eval hU]; split <;> simp [← hself]
  case sameS x => simp only [aop, h.eval hU]; split <;> simp [← hself]
  case bytesStr x =>
    simp only [aop, h.eval hU, h.heap]
    repeat' split
    all_goals first | rfl | (cases aop.bytesOf _ <;> simp [← hself])
  case mkFunc f xs => simp only [aop, h.evals hU]; split <;> simp [← hself]
  case mkIface t x => simp only [aop, h.eval hU]; split <;> simp [← hself]
  case makeMap => simp [aop, St.over, h.heap, h.lo]
  case makeSlice sz by_ z x y =>
    simp only [aop, h.eval (x := x) fun d hd => hU d (by simp [hd]), h.eval (x := y) fun d hd => hU d (by simp [hd]), h.heap]
    repeat' split
    all_goals simp [addRow, St.over, h.heap, h.lo]
    all_goals (try (rw [← h.heap, ← h.lo]))
  case slice sz x a b c =>
    simp only [aop, h.eval (x := x) fun d hd => hU d (by simp [hd]), h.evalO (x := a) fun d hd => hU d (by simp [hd]), h.evalO (x := b) fun d hd => hU d (by simp [hd]),
      h.evalO (x := c) fun d hd => hU d (by simp [hd]), h.heap]
    repeat' split
    all_goals first | rfl | (cases sliceOp _ _ _ _ <;> simp [← hself])
  case sliceS x a b =>
    simp only [aop, h.eval (x := x) fun d hd => hU d (by simp [hd]), h.evalO (x := a) fun d hd => hU d (by simp [hd]), h.evalO (x := b) fun d hd => hU d (by simp [hd])]
    repeat' split
    all_goals first | rfl | (cases sliceStr _ _ _ <;> simp [← hself])
  case faddr o x => simp only [aop, h.eval hU]; split <;> simp [← hself]
  case iaddr sz x y =>
    simp only [aop, h.eval (x := x) fun d hd => hU d (by simp [hd]), h.eval (x := y) fun d hd => hU d (by simp [hd]), h.heap]
    repeat' split
    all_goals simp [← hself]
  case iaddrP n sz x y =>
    simp only [aop, h.eval (x := x) fun d hd => hU d (by simp [hd]), h.eval (x := y) fun d hd => hU d (by simp [hd])]
    repeat' split
    all_goals simp [← hself]
  case field agg sz off x =>
    simp only [aop, h.eval hU]
    split
    · cases readAt agg sz _ _ <;> simp [← hself]
    · rfl
  case indexS x y =>
    simp only [aop, h.eval (x := x) fun d hd => hU d (by simp [hd]), h.eval (x := y) fun d hd => hU d (by simp [hd])]
    repeat' split
    all_goals simp [← hself]
  case indexG agg n sz x y =>
    simp only [aop, h.eval (x := x) fun d hd => hU d (by simp [hd]), h.eval (x := y) fun d hd => hU d (by simp [hd])]
    repeat' split
    all_goals first | rfl | (cases readAt agg sz _ _ <;> simp [← hself])
  case lookup kc z x y ok =>
    simp only [aop, h.eval (x := x) fun d hd => hU d (by simp [hd]), h.eval (x := y) fun d hd => hU d (by simp [hd]), h.heap]
    repeat' split
    all_goals simp [← hself]
  case extract x i =>
    simp only [aop, h.eval hU]
    split
    · rename_i vs _; cases vs[i]? <;> simp [← hself]
    · rfl
  case len k x => simp only [aop, h.eval hU, h.heap]; repeat' split
                  all_goals simp [← hself]
  case append sz by_ x y =>
    simp only [aop, h.eval (x := x) fun d hd => hU d (by simp [hd]), h.eval (x := y) fun d hd => hU d (by simp [hd]), h.heap]
    repeat' split
    all_goals first | rfl | exact append_over h.heap h.lo
  case copy sz x y =>
    simp only [aop, h.eval (x := x) fun d hd => hU d (by simp [hd]), h.eval (x := y) fun d hd => hU d (by simp [hd]), h.heap]
    repeat' split
    all_goals first | rfl | exact copy_over h.heap h.lo
  case clear z x =>
    simp only [aop, h.eval hU, h.heap]
    repeat' split
    all_goals first | rfl | (simp [← hself]; done) | simp [setRow, St.over, h.heap, h.lo]
  case delete kc x y =>
    simp only [aop, h.eval (x := x) fun d hd => hU d (by simp [hd]), h.eval (x := y) fun d hd => hU d (by simp [hd]), h.heap]
    repeat' split
    all_goals first | rfl | (simp [← hself]; done) | simp [setMap, St.over, h.heap, h.lo]
  case minmax mx xs =>
    simp only [aop, h.evals hU]
    split
    · cases aop.minmaxOf _ _ _ _ <;> simp [← hself]
    · rfl
  all_goals rfl
end
end Go.AI

/- Operations that only yield a value: they may be taken at any time. -/
set_option linter.unusedVariables false
set_option linter.unusedSimpArgs false
namespace Go.AI
open Go

/-- Operations that only yield a value, or an address. -/
def isPure : SOp → Bool
  | .mov _ | .pick .. | .build .. | .loadA .. | .load .. | .nilCheck _ | .bin .. | .un .. | .conv .. | .sameS _ | .mkFunc .. | .mkIface .. | .slice .. | .sliceS .. | .faddr .. | .iaddr .. | .iaddrP ..
  | .field .. | .indexS .. | .indexG .. | .lookup .. | .extract .. | .len .. | .minmax .. | .movA _ | .faddrA .. | .iaddrA .. => true
  | _ => false

/-- Operations that turn the frame's own boxes. -/
def isBox : SOp → Bool
  | .allocA _ | .boxA .. => true
  | _ => false

/-- Operations that look at the frame's boxes; those that write them. -/
def looksB : SOp → Bool
  | .loadA .. | .movA _ | .faddrA .. | .iaddrA .. => true
  | _ => false
def writesB : SOp → Bool
  | .storeA .. | .allocA _ | .boxA .. => true
  | _ => false

theorem row_congr {H H' : Heap} {b g : Nat} (h : H[b]? = H'[b]?) : H.row b g = H'.row b g := by
  unfold Heap.row; rw [Heap.get_congr h]
theorem mapAt_congr {H H' : Heap} {b : Nat} (h : H[b]? = H'[b]?) : H.mapAt b = H'.mapAt b := by
  unfold Heap.mapAt; rw [Heap.get_congr h]

/-- The same state with another heap. -/
def St.at (s : St) (H : Heap) (l : Nat) : St := { s with heap := H, lo := l }

theorem eval_at (s : St) (H : Heap) (l : Nat) (x : SX) : (s.at H l).eval x = s.eval x := by cases x <;> rfl
theorem evals_at (s : St) (H : Heap) (l : Nat) : ∀ (xs : List SX), (s.at H l).evals xs = s.evals xs
  | [] => rfl
  | x :: r => by simp only [St.evals, eval_at, evals_at s H l r]
theorem evalO_at (s : St) (H : Heap) (l : Nat) (x : Option SX) : (s.at H l).evalO x = s.evalO x := by cases x <;> simp only [St.evalO, eval_at]
theorem fill_at (s : St) (H : Heap) (l : Nat) : ∀ (ps : List (Nat × Nat × SX)) (z : List AV), aop.fill (s.at H l) z ps = aop.fill s z ps
  | [], _ => rfl
  | (o, n, x) :: r, z => by simp only [aop.fill, eval_at, fill_at s H l r]

/-- What a pure operation yields, it yields in any heap that is alike where it looks. -/
theorem aop_pure {op : SOp} (hp : isPure op = true) {s s' : St} {v : AV} (h : aop op s = some (v, s')) {H : Heap} {l : Nat} (hH : ∀ b, b < topOf s op → H[b]? = s.heap[b]?) :
    s' = s ∧ aop op (s.at H l) = some (v, s.at H l) := by
  have hb : ∀ b, b < topOf s op → H[b]? = s.heap[b]? := hH
  cases op <;> simp only [isPure, Bool.false_eq_true] at hp <;> simp only [aop, eval_at, evals_at, evalO_at, fill_at] at h ⊢
  case mov x => split at h <;> cases h; exact ⟨rfl, rfl⟩
  case pick c a b =>
    repeat' split at h
    all_goals (cases h; try exact ⟨rfl, by simp_all⟩)
  case build z ps => cases hf : aop.fill s z ps <;> rw [hf] at h <;> cases h; exact ⟨rfl, rfl⟩
  case loadA agg sz t =>
    show s' = s ∧ (match look s.addrs t with
      | some (d, off) => match look s.boxes d with
        | some cells => (readAt agg sz cells off).map (·, s.at H l)
        | none => none
      | none => none) = _
    split at h
    · rename_i d off had
      split at h
      · rename_i cells hbx
        obtain ⟨z, hz, e⟩ := of_map h; cases e; exact ⟨rfl, by simp [had, hbx, hz]⟩
      · cases h
    · cases h
  case load agg sz x =>
    split at h
    · obtain ⟨z, hz, e⟩ := of_map h; cases e; rw [hz]; exact ⟨rfl, rfl⟩
    · rename_i b g i off hx
      have e : H.row b g = s.heap.row b g := row_congr (hb b (by simp [topOf, hx, topV]))
      have e' : (s.at H l).heap.row b g = s.heap.row b g := e
      rw [e']
      split at h
      · rename_i z es hr
        split at h
        · rename_i e he
          obtain ⟨z, hz, e⟩ := of_map h; cases e; exact ⟨rfl, by simp [he, hz]⟩
        · cases h
      · cases h
    · cases h
  case nilCheck x => split at h <;> cases h <;> exact ⟨rfl, rfl⟩
  case bin o e x y =>
    split at h
    · obtain ⟨z, hz, e⟩ := of_map h; cases e; rw [hz]; exact ⟨rfl, rfl⟩
    · cases h
  case un o x =>
    split at h
    · obtain ⟨z, hz, e⟩ := of_map h; cases e; rw [hz]; exact ⟨rfl, rfl⟩
    · cases h
  case conv k x => split at h <;> cases h; exact ⟨rfl, rfl⟩
  case sameS x => split at h <;> cases h; exact ⟨rfl, rfl⟩
  case mkFunc f xs => split at h <;> cases h; exact ⟨rfl, rfl⟩
  case mkIface t x => split at h <;> cases h; exact ⟨rfl, rfl⟩
  case slice sz x a b c =>
    split at h
    · rename_i v' lo hi mx hx hlo hhi hmx
      have e : sliceOk (s.at H l).heap sz v' = sliceOk s.heap sz v' := by
        cases v' <;> try rfl
        rename_i b g off len
        simp only [sliceOk]
        rw [show (s.at H l).heap.row b g = s.heap.row b g from row_congr (hb b (by simp [topOf, hx, topV]))]
      rw [e]
      split at h
      · rename_i hok
        rw [if_pos hok]
        obtain ⟨z, hz, e⟩ := of_map h; cases e; rw [hz]; exact ⟨rfl, rfl⟩
      · cases h
    · cases h
  case sliceS x a b =>
    split at h
    · obtain ⟨z, hz, e⟩ := of_map h; cases e; rw [hz]; exact ⟨rfl, rfl⟩
    · cases h
  case faddr o x => split at h <;> cases h <;> exact ⟨rfl, rfl⟩
  case iaddr sz x y =>
    split at h
    · repeat' split at h
      all_goals first | (cases h; done) | (cases h; exact ⟨rfl, by simp_all⟩)
    · rename_i b g off len k n hx hy
      rw [show (s.at H l).heap.row b g = s.heap.row b g from row_congr (hb b (by simp [topOf, hx, topV]))]
      repeat' split at h
      all_goals first | (cases h; done) | (cases h; exact ⟨rfl, by simp_all⟩)
    · cases h
  case iaddrP n sz x y =>
    split at h
    · split at h <;> cases h; exact ⟨rfl, by simp_all⟩
    · split at h <;> cases h; exact ⟨rfl, by simp_all⟩
    · cases h
  case field agg sz off x =>
    split at h
    · obtain ⟨z, hz, e⟩ := of_map h; cases e; rw [hz]; exact ⟨rfl, rfl⟩
    · cases h
  case indexS x y =>
    repeat' split at h
    all_goals first | (cases h; done) | (cases h; exact ⟨rfl, by simp_all⟩)
  case indexG agg n sz x y =>
    split at h
    · split at h
      · obtain ⟨z, hz, e⟩ := of_map h; cases e; exact ⟨rfl, by simp_all⟩
      · cases h
    · cases h
  case lookup kc z x y ok =>
    split at h
    · rename_i m k hx hy
      have e : entriesOf (s.at H l).heap m = entriesOf s.heap m := by
        cases m <;> try rfl
        rename_i b
        exact mapAt_congr (hb b (by simp [topOf, hx, topV]))
      rw [e]
      split at h
      · rename_i kvs hk
        split at h
        · cases h; exact ⟨rfl, by simp_all⟩
        · cases h; exact ⟨rfl, by simp_all⟩
        · cases h
      · cases h
    · cases h
  case extract x i =>
    split at h
    · obtain ⟨z, hz, e⟩ := of_map h; cases e; rw [hz]; exact ⟨rfl, rfl⟩
    · cases h
  case len k x =>
    split at h
    · rename_i v' hx
      have e : lenOf (s.at H l).heap k v' = lenOf s.heap k v' := by
        cases k <;> cases v' <;> try rfl
        rename_i b
        simp only [lenOf]
        rw [show (s.at H l).heap.mapAt b = s.heap.mapAt b from mapAt_congr (hb b (by simp [topOf, hx, topV]))]
      rw [e]
      split at h
      · cases h; exact ⟨rfl, rfl⟩
      · cases h
    · cases h
  case minmax mx xs =>
    split at h
    · obtain ⟨z, hz, e⟩ := of_map h; cases e; rw [hz]; exact ⟨rfl, rfl⟩
    · cases h
  all_goals cases h
end Go.AI

/- What a stretch of abstract code leaves alone. -/
set_option linter.unusedVariables false
set_option linter.unusedSimpArgs false
namespace Go.AI
open Go

structure Left (s s' : St) : Prop where
  lo : s'.lo ≤ s.lo
  len : s.heap.length ≤ s'.heap.length
  keep : ∀ b, b < s'.lo → s'.heap[b]? = s.heap[b]?

theorem Left.refl (s : St) : Left s s := ⟨Nat.le_refl _, Nat.le_refl _, fun _ _ => rfl⟩
theorem Left.trans {s t u : St} (h : Left s t) (k : Left t u) : Left s u :=
  ⟨Nat.le_trans k.lo h.lo, Nat.le_trans h.len k.len, fun b hb => (k.keep b hb).trans (h.keep b (Nat.lt_of_lt_of_le hb k.lo))⟩
/-- Only the frame has changed. -/
theorem Left.same {s s' : St} (h1 : s'.heap = s.heap) (h2 : s'.lo = s.lo) : Left s s' := ⟨Nat.le_of_eq h2, Nat.le_of_eq (by rw [h1]), fun b _ => by rw [h1]⟩
theorem Left.put {s s' : St} (h : Left s s') (d : Option Nat) (v : Option AV) : Left s (s'.put d v) := by
  cases d <;> exact ⟨h.lo, h.len, h.keep⟩

theorem left_set {s : St} {b : Nat} {x : Option Blk} : Left s { s with heap := s.heap.set b x, lo := min s.lo b } :=
  ⟨Nat.min_le_left _ _, by simp, fun k hk => by
    have : k < b := Nat.lt_of_lt_of_le hk (Nat.min_le_right _ _)
    simp only
    rw [List.getElem?_set_ne (by omega)]⟩
theorem left_add {s : St} (h : s.lo ≤ s.heap.length) {x : Option Blk} : Left s { s with heap := s.heap ++ [x] } :=
  ⟨Nat.le_refl _, by simp, fun k hk => by
    have hk : k < s.lo := hk
    simp only
    rw [List.getElem?_append_left (by omega)]⟩
theorem left_setRow {s : St} {b z g : Nat} {es : List AV} : Left s (setRow s b z g es) := left_set
theorem left_setMap {s : St} {b : Nat} {kvs : List (AV × AV)} : Left s (setMap s b kvs) := left_set
theorem left_addRow {s : St} (h : s.lo ≤ s.heap.length) {z : Nat} {es : List AV} : Left s (addRow s z es) := left_add h

theorem left_append {s s' : St} (h : s.lo ≤ s.heap.length) {sz bytes : Nat} {x v : AV} {ys : List AV} (hs : appendOp sz bytes x ys s = some (v, s')) : Left s s' := by
  unfold appendOp at hs
  repeat' split at hs
  all_goals first
    | (cases hs; done)
    | (cases hs; exact Left.refl _)
    | (cases hs; exact left_addRow h)
    | (cases hs; exact left_setRow)

theorem left_copy {s s' : St} {sz : Nat} {x v : AV} {ys : List AV} (hs : copyOp sz x ys s = some (v, s')) : Left s s' := by
  unfold copyOp at hs
  repeat' split at hs
  all_goals first
    | (cases hs; done)
    | (cases hs; exact Left.refl _)
    | (cases hs; exact left_setRow)

theorem left_aop {s s' : St} (h : s.lo ≤ s.heap.length) {op : SOp} {v : AV} (hs : aop op s = some (v, s')) : Left s s' := by
  by_cases hp : isPure op = true
  · rw [(aop_pure hp hs (H := s.heap) (l := s.lo) fun _ _ => rfl).1]; exact Left.refl _
  · cases op <;> simp only [isPure, not_true_eq_false] at hp <;> simp only [aop] at hs
    case append sz by_ x y =>
      repeat' split at hs
      all_goals first | (cases hs; done) | exact left_append h hs
    case copy sz x y =>
      repeat' split at hs
      all_goals first | (cases hs; done) | exact left_copy hs
    case bytesStr x =>
      repeat' split at hs
      all_goals first | (cases hs; done) | (obtain ⟨z, _, e⟩ := of_map hs; cases e; exact Left.refl _)
    case makeMap => cases hs; exact left_add h
    all_goals (repeat' split at hs)
    all_goals first
      | (cases hs; done)
      | (cases hs; exact Left.refl _)
      | (cases hs; exact left_addRow h)
      | (cases hs; exact left_setRow)
      | (cases hs; exact left_setMap)

theorem left_sop {s s' : St} (h : s.lo ≤ s.heap.length) {op : SOp} {dst : Option Nat} (hs : sop op dst s = some s') : Left s s' := by
  have hdef : ∀ o, (match aop o s with
      | some (v, t) => some (t.put dst (some v))
      | none => none) = some s' → Left s s' := fun o ho => by
    split at ho
    · rename_i v t hv
      cases ho
      exact (left_aop h hv).put _ _
    · cases ho
  cases op
  case allocA z =>
    simp only [sop] at hs
    split at hs
    · cases hs; exact Left.same rfl rfl
    · cases hs
  case boxA sz x =>
    simp only [sop] at hs
    repeat' split at hs
    all_goals first | (cases hs; done) | (cases hs; exact Left.same rfl rfl)
  case movA t =>
    simp only [sop] at hs
    repeat' split at hs
    all_goals first | (cases hs; done) | (cases hs; exact Left.same rfl rfl)
  case faddrA o t =>
    simp only [sop] at hs
    repeat' split at hs
    all_goals first | (cases hs; done) | (cases hs; exact Left.same rfl rfl)
  case iaddrA n sz t i =>
    simp only [sop] at hs
    repeat' split at hs
    all_goals first | (cases hs; done) | (cases hs; exact Left.same rfl rfl)
  case storeA sz t x =>
    simp only [sop] at hs
    repeat' split at hs
    all_goals first | (cases hs; done) | (cases hs; refine Left.put (s := s) (Left.same ?_ ?_) _ _ <;> rfl)
  case store sz x y =>
    simp only [sop] at hs
    repeat' split at hs
    all_goals first | (cases hs; done) | (cases hs; exact left_setRow.put _ _)
  case mapUpd kc m k x =>
    simp only [sop] at hs
    repeat' split at hs
    all_goals first | (cases hs; done) | (cases hs; exact left_setMap.put _ _)
  case alloc e => exact hdef (.alloc e) hs
  case strBytes x => exact hdef (.strBytes x) hs
  case makeMap => exact hdef .makeMap hs
  case call f xs => exact hdef (.call f xs) hs
  case callv x xs => exact hdef (.callv x xs) hs
  all_goals exact hdef _ hs

/-- What is asked of calls. -/
def CallLeft (call : Call) : Prop := ∀ f args H r H' lo, call f args H = some (r, H', lo) → lo ≤ H.length ∧ H.length ≤ H'.length ∧ ∀ b, b < lo → H'[b]? = H[b]?

section
variable {call : Call} (hc : CallLeft call)
include hc

theorem left_doCall {f : Nat} {vs : List AV} {dst : Option Nat} {s s' : St} (hs : doCall call f vs dst s = some s') : Left s s' := by
  unfold doCall at hs
  split at hs
  · rename_i r H lo hcall
    cases hs
    obtain ⟨h1, h2, h3⟩ := hc f vs s.heap r H lo hcall
    refine Left.put (s' := { s with heap := H, lo := min s.lo lo }) ⟨Nat.min_le_left _ _, h2, fun b hb => h3 b (Nat.lt_of_lt_of_le hb (Nat.min_le_right _ _))⟩ _ _
  · cases hs

theorem left_step {op : SOp} {dst : Option Nat} {s s' : St} (h : s.lo ≤ s.heap.length) (hs : step call op dst s = some s') : Left s s' := by
  by_cases hnc : isCall op = false
  · rw [step_sop hnc] at hs; exact left_sop h hs
  · cases op <;> simp only [isCall, not_true_eq_false] at hnc
    all_goals simp only [step] at hs
    all_goals (repeat' split at hs)
    all_goals first | (cases hs; done) | exact left_doCall hc hs

theorem left_SI {i : SI} {s s' : St} (h : s.lo ≤ s.heap.length) (hs : stepSI call i s = some s') : Left s s' := by
  unfold stepSI at hs
  split at hs
  · exact left_step hc h hs
  · cases hs
    cases i.dst <;> exact Left.same rfl rfl
  · cases hs

theorem left_all : ∀ {is : List SI} {s s' : St}, s.lo ≤ s.heap.length → stepAll call is s = some s' → Left s s'
  | [], s, s', h, hs => by cases hs; exact Left.refl _
  | i :: r, s, s', h, hs => by
    simp only [stepAll] at hs
    split at hs
    · rename_i s1 h1
      have k := left_SI hc h h1
      exact k.trans (left_all (by have := k.lo; have := k.len; omega) hs)
    · cases hs

theorem left_G {G : List (Nat × Nat)} {un : List Nat} {i : SI} {s s' : St} (h : s.lo ≤ s.heap.length) (hs : stepG call G un i s = some s') : Left s s' := by
  unfold stepG at hs
  split at hs
  · rename_i x hx
    split at hs
    · cases hs
      have k := left_SI hc (s := { s with lo := s.heap.length }) (Nat.le_refl _) hx
      exact ⟨Nat.min_le_left _ _, k.len, fun b hb => k.keep b (Nat.lt_of_lt_of_le hb (Nat.min_le_right _ _))⟩
    · cases hs
  · cases hs
end

theorem left_freeze {d : Nat} {s s' : St} (hs : freeze s d = some s') : Left s s' := by
  unfold freeze at hs
  repeat' split at hs
  all_goals first
    | (cases hs; done)
    | (cases hs; exact left_set.put _ _)
    | (cases hs; exact (Left.refl s).put _ _)

theorem left_freezeAll : ∀ {l : List Nat} {s s' : St}, freezeAll l s = some s' → Left s s'
  | [], s, s', h => by cases h; exact Left.refl _
  | d :: r, s, s', h => by
    simp only [freezeAll] at h
    split at h
    · rename_i s1 h1
      exact (left_freeze h1).trans (left_freezeAll h)
    · cases h

theorem left_end {env boxes frz : List Nat} {s s' : St} (hs : endRegion env boxes frz s = some s') : Left s s' := by
  unfold endRegion at hs
  split at hs
  · rename_i s1 h1
    cases hs
    exact (left_freezeAll h1).trans (Left.same rfl rfl)
  · cases hs

section
variable {call : Call} (hc : CallLeft call)
include hc

theorem left_tree {fin : St → Option St} (hfin : ∀ s s', fin s = some s' → Left s s') : ∀ (t : STree) {G : List (Nat × Nat)} {s s' : St}, s.lo ≤ s.heap.length → stepTree call fin G t s = some s' → Left s s'
  | .done, G, s, s', h, hs => hfin s s' hs
  | .take n i k, G, s, s', h, hs => by
    simp only [stepTree] at hs
    split at hs
    · rename_i s1 h1
      have l := left_SI hc h h1
      exact l.trans (left_tree hfin k (by have := l.lo; have := l.len; omega) hs)
    · cases hs
  | .only un i k, G, s, s', h, hs => by
    simp only [stepTree] at hs
    split at hs
    · rename_i s1 h1
      have l := left_G hc h h1
      exact l.trans (left_tree hfin k (by have := l.lo; have := l.len; omega) hs)
    · cases hs
  | .fork un i k un' j k', G, s, s', h, hs => by
    simp only [stepTree] at hs
    split at hs
    · rename_i s1 s2 h1 h2
      split at hs
      · rename_i r r' hr hr'
        split at hs
        · cases hs
          have l := left_G hc h h1
          exact l.trans (left_tree hfin k (by have := l.lo; have := l.len; omega) hr)
        · cases hs
      · cases hs
    · cases hs

theorem left_exec {m : Nat} : ∀ (sc : SCode) {s s' : St} {e : SExit}, s.lo ≤ s.heap.length → exec call m sc s = some (e, s') → Left s s'
  | .skip, s, s', e, h, hs => by cases hs; exact Left.refl _
  | .exit id, s, s', e, h, hs => by cases hs; exact Left.refl _
  | .ret, s, s', e, h, hs => by cases hs; exact Left.refl _
  | .region is env boxes frz, s, s', e, h, hs => by
    simp only [exec] at hs
    split at hs
    · rename_i s1 h1
      simp only [Option.map_eq_some_iff, Prod.mk.injEq] at hs
      obtain ⟨s2, h2, rfl, rfl⟩ := hs
      exact (left_all hc h h1).trans (left_end h2)
    · cases hs
  | .draw t env boxes frz, s, s', e, h, hs => by
    simp only [exec] at hs
    simp only [Option.map_eq_some_iff, Prod.mk.injEq] at hs
    obtain ⟨s2, h2, rfl, rfl⟩ := hs
    exact left_tree hc (fun _ _ => left_end) t h h2
  | .seq a b, s, s', e, h, hs => by
    simp only [exec] at hs
    split at hs
    · rename_i s1 h1
      have l := left_exec a h h1
      exact l.trans (left_exec b (by have := l.lo; have := l.len; omega) hs)
    · exact left_exec a h hs
  | .cond c a b, s, s', e, h, hs => by
    simp only [exec] at hs
    repeat' split at hs
    all_goals first | (cases hs; done) | exact left_exec a h hs | exact left_exec b h hs
  | .block id b, s, s', e, h, hs => by
    simp only [exec] at hs
    split at hs
    · rename_i h1
      split at hs <;> cases hs <;> exact left_exec b h h1
    · exact left_exec b h hs
  | .loop b, s, s', e, h, hs => by
    simp only [exec] at hs
    have key : ∀ n {s : St}, s.lo ≤ s.heap.length → iter (exec call m b) n s = some (e, s') → Left s s' := by
      intro n
      induction n with
      | zero => intro s h hs; simp [iter] at hs
      | succ n ih =>
        intro s h hs
        simp only [iter] at hs
        split at hs
        · rename_i s1 h1
          have l := left_exec b h h1
          exact l.trans (ih (by have := l.lo; have := l.len; omega) hs)
        · exact left_exec b h hs
    exact key m h hs

theorem left_runF {m : Nat} {sf : SFun} {args : List AV} {H : Heap} {r : AV} {H' : Heap} {lo : Nat} (hs : runF call m sf args H = some (r, H', lo)) : lo ≤ H.length ∧ H.length ≤ H'.length ∧ ∀ b, b < lo → H'[b]? = H[b]? := by
  have fin : ∀ s, Left { env := initEnv 0 args, boxes := [], addrs := [], heap := H, lo := H.length, base := H.length } s → finish sf.keep H sf.results s = some (r, H', lo) → lo ≤ H.length ∧ H.length ≤ H'.length ∧ ∀ b, b < lo → H'[b]? = H[b]? := fun s l h => by
    unfold finish at h
    repeat' split at h
    all_goals first
      | (cases h; done)
      | (cases h; exact ⟨l.lo, l.len, l.keep⟩)
      | (cases h; exact ⟨Nat.le_refl _, Nat.le_refl _, fun _ _ => rfl⟩)
  unfold runF at hs
  split at hs
  · split at hs
    · rename_i s h1
      exact fin s (left_exec hc _ (Nat.le_refl _) h1) hs
    · rename_i s h1
      exact fin s (left_exec hc _ (Nat.le_refl _) h1) hs
    · cases hs
  · cases hs
end

/-- The library's functions keep to it. -/
def PrimLeft (F : Nat → Option Spec) : Prop := ∀ f g, F f = some (.prim g) → ∀ args H r H' lo, g args H = some (r, H', lo) → lo ≤ H.length ∧ H.length ≤ H'.length ∧ ∀ b, b < lo → H'[b]? = H[b]?

theorem run_left {F : Nat → Option Spec} (hp : PrimLeft F) : ∀ n, CallLeft (run F n)
  | 0 => fun f args H r H' lo h => by simp [run] at h
  | n + 1 => fun f args H r H' lo h => by
    simp only [run] at h
    split at h
    · exact left_runF (run_left hp n) h
    · rename_i g hF; exact hp f g hF args H r H' lo h
    · cases h
end Go.AI

