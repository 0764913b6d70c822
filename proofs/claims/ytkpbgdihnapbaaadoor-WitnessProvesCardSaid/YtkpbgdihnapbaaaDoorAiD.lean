/- Readings of plain data, as values of the interpreter. -/
import Derived.Test.YtkpbgdihnapbaaaDoorAiC
import GoSem.ClaimJoined
import Derived.ProofKit
import Derived.Lib.LaidTab
set_option linter.unusedVariables false
set_option linter.unusedSimpArgs false
namespace Go.AI
open Go

/-- What lies in one cell. -/
inductive CSh where
  | bool | int (k : IntKind) | str
  | sl (agg : Bool) (cells : List CSh)

def mkE (g : Bool) (as : List AV) : AV := if g then .agg as else as.headD .nilp

mutual
inductive Fits : CSh → AV → Prop
  | bool (b : Bool) : Fits .bool (.bool b)
  | int (k : IntKind) (n : Int) (h : (Lit.int k n).wf = true) : Fits (.int k) (.int k n)
  | str (s : List UInt8) (h : s.length ≤ maxLen) : Fits .str (.str s)
  | sl {g : Bool} {cells : List CSh} {es : List AV} (h : FitsEs g cells es) (hl : es.length ≤ maxLen) : Fits (.sl g cells) (.vsl es)
inductive FitsL : List CSh → List AV → Prop
  | nil : FitsL [] []
  | cons {s : CSh} {a : AV} {ss : List CSh} {as : List AV} (h : Fits s a) (t : FitsL ss as) : FitsL (s :: ss) (a :: as)
inductive FitsEs : Bool → List CSh → List AV → Prop
  | nil {g : Bool} {cells : List CSh} : FitsEs g cells []
  | cons {g : Bool} {cells : List CSh} {as es : List AV} (h : FitsL cells as) (t : FitsEs g cells es) : FitsEs g cells (mkE g as :: es)
end

theorem FitsL.length {ss : List CSh} : ∀ {as : List AV}, FitsL ss as → as.length = ss.length := by
  induction ss with
  | nil => intro as h; cases h; rfl
  | cons s r ih => intro as h; cases h with
    | cons h t => simp [ih t]
theorem FitsL.append {ss : List CSh} : ∀ {as : List AV} {ss' : List CSh} {as' : List AV}, FitsL ss as → FitsL ss' as' → FitsL (ss ++ ss') (as ++ as') := by
  induction ss with
  | nil => intro as ss' as' h h'; cases h; exact h'
  | cons s r ih => intro as ss' as' h h'; cases h with
    | cons h t => exact .cons h (ih t h')
theorem FitsEs.snoc {g : Bool} {cells : List CSh} {as : List AV} (h : FitsL cells as) : ∀ {es : List AV}, FitsEs g cells es → FitsEs g cells (es ++ [mkE g as])
  | _, .nil => .cons h .nil
  | _, .cons h' t => .cons h' (FitsEs.snoc h t)

/-- The cells of a struct, field by field from an offset on. -/
def shapeFs (rec : TypeId → Option (Bool × List CSh)) (P : Program) : List Field → Nat → Option (Nat × List CSh)
  | [], o => some (o, [])
  | f :: r, o => match rec f.type with
    | some (_, cs) => if f.offset = o ∧ P.cellsOf f.type = cs.length then
        match shapeFs rec P r (o + cs.length) with
        | some (o', cs') => some (o', cs ++ cs')
        | none => none
      else none
    | none => none

def shapeE (P : Program) : Nat → TypeId → Option (Bool × List CSh)
  | 0, _ => none
  | n + 1, t => match P.underlying t with
    | some .bool => some (false, [.bool])
    | some (.int k) => some (false, [.int k])
    | some .string => some (false, [.str])
    | some (.slice e) => match shapeE P n e with
      | some (g, cs) => if P.cellsOf e = cs.length ∧ 0 < cs.length ∧ (g = true ∨ cs.length = 1) then some (false, [.sl g cs]) else none
      | none => none
    | some (.struct fs) => match shapeFs (shapeE P n) P fs.toList 0 with
      | some (o, cs) => if o = P.cellsOf t then some (true, cs) else none
      | none => none
    | _ => none

theorem mapM_ok {α β : Type} {f : α → Option β} : ∀ {l : List α} {r : List β}, l.mapM f = some r → r.length = l.length ∧ ∀ (i : Nat) (a : α), l[i]? = some a → ∃ b, r[i]? = some b ∧ f a = some b
  | [], r, h => by
    simp only [List.mapM_nil, Option.pure_def, Option.some.injEq] at h
    subst h
    exact ⟨rfl, fun i a h => by simp at h⟩
  | x :: l, r, h => by
    simp only [List.mapM_cons, Option.bind_eq_bind, Option.bind_eq_some_iff, Option.pure_def, Option.some.injEq] at h
    obtain ⟨b, hb, r', hr', rfl⟩ := h
    obtain ⟨h1, h2⟩ := mapM_ok hr'
    refine ⟨by simp [h1], fun i a ha => ?_⟩
    cases i with
    | zero => simp at ha; subst ha; exact ⟨b, rfl, hb⟩
    | succ i => exact h2 i a (by simpa using ha)

theorem cell_add {w : World} {a : Addr} {x r : Nat} {v : Value} (h : w.cell? ((a.add x).add r) = some v) : w.cell? ⟨a.block, a.off + x + r, none⟩ = some v := by
  obtain ⟨b, o, s⟩ := a
  have hs : ∀ (o : Nat) (s : Option Nat), w.cell? ⟨b, o, s⟩ = some v → w.cell? ⟨b, o, none⟩ = some v := fun o s h => by
    cases s with
    | none => exact h
    | some k =>
      unfold World.cell? at h
      simp only at h
      split at h
      · simp at h
      · cases h
  unfold Addr.add at h
  by_cases hx : x = 0
  · subst hx
    by_cases hr : r = 0
    · subst hr; exact hs _ _ (by simpa using h)
    · simpa [hr] using h
  · by_cases hr : r = 0
    · subst hr; simpa [hx] using h
    · simpa [hx, hr] using h

theorem cell_lt {w : World} {b o : Nat} {v : Value} (h : w.cell? ⟨b, o, none⟩ = some v) : b < w.heap.size := by
  unfold World.cell? at h
  cases hb : w.heap[b]? with
  | none => simp [hb] at h
  | some o => exact (Array.getElem?_eq_some_iff.1 hb).1

theorem VRs.app {w : World} {X : Nat → Prop} {m : Option Mem} {v v' : List Value} {a a' : List AV} (h : VRs w X m v a) (h' : VRs w X m v' a') : VRs w X m (v ++ v') (a ++ a') := by
  refine ⟨by simp [h.1, h'.1], fun k x y e1 e2 => ?_⟩
  rw [List.getElem?_append] at e1 e2
  by_cases hk : k < v.length
  · rw [if_pos hk] at e1
    rw [if_pos (by have := h.1; omega)] at e2
    exact h.2 k x y e1 e2
  · rw [if_neg hk] at e1
    rw [if_neg (by have := h.1; omega)] at e2
    exact h'.2 _ x y e1 (by rw [h.1]; exact e2)

theorem VRs.single {w : World} {X : Nat → Prop} {m : Option Mem} {v : Value} {a : AV} (h : VR w X m v a) : VRs w X m [v] [a] := by
  refine ⟨rfl, fun k x y e1 e2 => ?_⟩
  cases k with
  | zero => simp at e1 e2; subst e1; subst e2; exact h
  | succ k => simp at e1

section
variable {H : Type} {enc : TypeId × Value → H} {P : Program} {w : World} {spare : Nat → Bool} {held : Bool} {X : Nat → Prop}

/-- What a list of cells is, read as a shape. -/
def Reads (P : Program) (w : World) (X : Nat → Prop) (sh : List CSh) (cs : List Value) : Prop := ∃ as, FitsL sh as ∧ VRs w X none cs as ∧ ∀ a ∈ as, a.one = true

theorem reads_slice (hX : ∀ c, c < w.heap.size → ¬ X c) {fuel : Nat} {e : TypeId} {g : Bool} {cells : List CSh} (hc : P.cellsOf e = cells.length) (h0 : 0 < cells.length) (hg : g = true ∨ cells.length = 1)
    (ih : ∀ cs d ps, DataW.trod enc P w 0 spare held fuel e cs = some (d, ps) → Reads P w X cells cs) {a : Addr} {len cap : Nat} {elems : List (DataW H × List MemPlace)}
    (hlen : len ≤ cap) (hcap : cap ≤ maxLen)
    (h : (List.range len).mapM (fun i => (w.cells? 0 (a.add (i * P.cellsOf e)) (P.cellsOf e)).bind (DataW.trod enc P w 0 spare held fuel e)) = some elems) :
    ∃ es, FitsEs g cells es ∧ es.length ≤ maxLen ∧ VR w X none (.slice (some a) len cap) (.vsl es) := by
  have key : ∀ n, n ≤ len → ∃ es vals, es.length = n ∧ FitsEs g cells es ∧ vals.length = n * cells.length ∧ w.rangeAt a.block a.off vals ∧ VRs w X none vals (flat es) ∧ (∀ e ∈ es, e.cells.length = cells.length) ∧ ∀ x ∈ flat es, x.one = true := by
    intro n
    induction n with
    | zero => exact fun _ => ⟨[], [], rfl, .nil, by simp, fun j v h => by simp at h, ⟨rfl, fun k v a h => by simp at h⟩, fun e h => by simp at h, fun x h => by simp [flat] at h⟩
    | succ n ihn =>
      intro hn
      obtain ⟨es, vals, h1, h2, h3, h4, h5, h6, h7⟩ := ihn (by omega)
      obtain ⟨x, _, hx⟩ := (mapM_ok h).2 n n (by rw [List.getElem?_range (by omega)])
      simp only [Option.bind_eq_some_iff] at hx
      obtain ⟨cs, hcs, hd⟩ := hx
      obtain ⟨as, hf, hv, ho⟩ := ih cs _ _ (by rw [hd])
      have hasl := hf.length
      unfold World.cells? at hcs
      rw [if_pos (Nat.zero_le _)] at hcs
      obtain ⟨hcl, hcc⟩ := mapM_ok hcs
      rw [List.length_range, hc] at hcl
      have hmk : (mkE g as).cells = as := by
        unfold mkE
        cases g with
        | true => rfl
        | false =>
          rcases hg with hg | hg
          · cases hg
          · rw [hg] at hasl
            match as, hasl, ho with
            | [y], _, ho =>
              have := ho y (List.mem_singleton.2 rfl)
              cases y <;> first | rfl | (simp [AV.one] at this)
      refine ⟨es ++ [mkE g as], vals ++ cs, by simp [h1], h2.snoc hf, by rw [List.length_append, h3, hcl, Nat.succ_mul], ?_, ?_, ?_, ?_⟩
      · intro j v hj
        rw [List.getElem?_append] at hj
        split at hj
        · exact h4 j v hj
        · rename_i hjn
          have hjl : j - vals.length < cs.length := (List.getElem?_eq_some_iff.1 hj).1
          obtain ⟨b, hb, hcell⟩ := hcc (j - vals.length) (j - vals.length) (by rw [hc, List.getElem?_range (by omega)])
          rw [hb] at hj
          cases hj
          have := cell_add hcell
          rw [hc] at this
          have e : a.off + n * cells.length + (j - vals.length) = a.off + j := by omega
          rw [e] at this
          exact this
      · have : flat (es ++ [mkE g as]) = flat es ++ as := by simp [flat, hmk]
        rw [this]
        exact h5.app hv
      · intro e he
        rcases List.mem_append.1 he with he | he
        · exact h6 e he
        · rw [List.mem_singleton.1 he, hmk, hasl]
      · intro x hx
        have : flat (es ++ [mkE g as]) = flat es ++ as := by simp [flat, hmk]
        rw [this] at hx
        rcases List.mem_append.1 hx with hx | hx
        · exact h7 x hx
        · exact ho x hx
  obtain ⟨es, vals, h1, h2, h3, h4, h5, h6, h7⟩ := key len (Nat.le_refl _)
  refine ⟨es, h2, by omega, ?_⟩
  by_cases hl : len = 0
  · subst hl
    have : es = [] := List.length_eq_zero_iff.1 h1
    subst this
    exact .vslE _ _
  · have hv0 : 0 < vals.length := by rw [h3]; exact Nat.mul_pos (by omega) h0
    have hcell := h4 0 vals[0] (List.getElem?_eq_getElem hv0)
    -- the address is one of cells
    have hsp : a.spot = none := by
      obtain ⟨x, _, hx⟩ := (mapM_ok h).2 0 0 (by rw [List.getElem?_range (by omega)])
      simp only [Option.bind_eq_some_iff] at hx
      obtain ⟨cs, hcs, hd⟩ := hx
      unfold World.cells? at hcs
      rw [if_pos (Nat.zero_le _)] at hcs
      obtain ⟨b, _, hb⟩ := (mapM_ok hcs).2 0 0 (by rw [List.getElem?_range (by omega)])
      have e : (a.add (0 * P.cellsOf e)).add 0 = a := by simp [Addr.add]
      rw [e] at hb
      unfold World.cell? at hb
      split at hb
      · cases hs : a.spot with
        | none => rfl
        | some k => rw [hs] at hb; simp at hb
      · cases hb
    have ha : a = ⟨a.block, a.off, none⟩ := by obtain ⟨b, o, s⟩ := a; simp only at hsp; subst hsp; rfl
    rw [ha, ← h1]
    have hlt := cell_lt hcell
    exact .vsl a.block a.off cap cells.length es vals (by omega) (hX _ hlt) hlt h4 h5.1 h6 h7 fun k v x e1 e2 => h5.2 k v x e1 e2

theorem reads_fields {n fuel : Nat} (ih : ∀ t g sh cs d ps, shapeE P n t = some (g, sh) → DataW.trod enc P w 0 spare held fuel t cs = some (d, ps) → Reads P w X sh cs) {cs : List Value} :
    ∀ (fs : List Field) (o o' : Nat) (sh : List CSh) (xs : List (DataW H × List MemPlace)), shapeFs (shapeE P n) P fs o = some (o', sh) → o' ≤ cs.length →
      fs.mapM (fun f => DataW.trod enc P w 0 spare held fuel f.type ((cs.drop f.offset).take (P.cellsOf f.type))) = some xs → o' = o + sh.length ∧ Reads P w X sh ((cs.drop o).take sh.length)
  | [], o, o', sh, xs, hs, hl, hx => by
    simp only [shapeFs, Option.some.injEq, Prod.mk.injEq] at hs
    obtain ⟨rfl, rfl⟩ := hs
    exact ⟨rfl, [], .nil, ⟨by simp, fun k v a h => by simp at h⟩, fun a h => by simp at h⟩
  | f :: r, o, o', sh, xs, hs, hl, hx => by
    simp only [shapeFs] at hs
    split at hs
    · rename_i g cs1 hsh
      split at hs
      · rename_i hof
        split at hs
        · rename_i o2 cs2 hrest
          simp only [Option.some.injEq, Prod.mk.injEq] at hs
          obtain ⟨rfl, rfl⟩ := hs
          simp only [List.mapM_cons, Option.bind_eq_bind, Option.bind_eq_some_iff, Option.pure_def, Option.some.injEq] at hx
          obtain ⟨x, hx1, xs', hxs, rfl⟩ := hx
          obtain ⟨e, hr⟩ := reads_fields ih r _ _ _ _ hrest hl hxs
          obtain ⟨as, hf, hv, ho⟩ := ih _ _ _ _ _ _ hsh (by rw [hx1])
          obtain ⟨as', hf', hv', ho'⟩ := hr
          refine ⟨by simp; omega, as ++ as', hf.append hf', ?_, fun a ha => (List.mem_append.1 ha).elim (ho a) (ho' a)⟩
          have hsplit : (cs.drop o).take (cs1 ++ cs2).length = (cs.drop o).take cs1.length ++ (cs.drop (o + cs1.length)).take cs2.length := by
            rw [List.length_append, List.take_add, List.drop_drop]
          rw [hsplit]
          rw [hof.1, hof.2] at hv
          exact hv.app hv'
        · cases hs
      · cases hs
    · cases hs

theorem trod_bool {fuel : Nat} {t : TypeId} {cs : List Value} {d : DataW H} {ps : List MemPlace} (hu : P.underlying t = some .bool) (h : DataW.trod enc P w 0 spare held (fuel + 1) t cs = some (d, ps)) : ∃ b, cs = [.bool b] := by
  unfold DataW.trod at h
  rw [hu] at h
  split at h <;> first | exact ⟨_, rfl⟩ | (exfalso; simp_all; done)
theorem trod_int {fuel : Nat} {t : TypeId} {k : IntKind} {cs : List Value} {d : DataW H} {ps : List MemPlace} (hu : P.underlying t = some (.int k)) (h : DataW.trod enc P w 0 spare held (fuel + 1) t cs = some (d, ps)) : ∃ n, cs = [.int k n] ∧ (Lit.int k n).wf = true := by
  unfold DataW.trod at h
  rw [hu] at h
  split at h
  case h_2 k' k'' n e =>
    cases e
    split at h
    · rename_i hk; obtain ⟨rfl, hw⟩ := hk; exact ⟨n, rfl, hw⟩
    · cases h
  all_goals (exfalso; simp_all; done)
theorem trod_str {fuel : Nat} {t : TypeId} {cs : List Value} {d : DataW H} {ps : List MemPlace} (hu : P.underlying t = some .string) (h : DataW.trod enc P w 0 spare held (fuel + 1) t cs = some (d, ps)) : ∃ s : ByteArray, cs = [.string s] ∧ s.size ≤ maxLen := by
  unfold DataW.trod at h
  rw [hu] at h
  split at h
  case h_4 s e =>
    split at h
    · rename_i hk; exact ⟨s, rfl, hk⟩
    · cases h
  all_goals (exfalso; simp_all; done)
theorem trod_slice {fuel : Nat} {t e : TypeId} {cs : List Value} {d : DataW H} {ps : List MemPlace} (hu : P.underlying t = some (.slice e)) (h : DataW.trod enc P w 0 spare held (fuel + 1) t cs = some (d, ps)) :
    cs = [.slice none 0 0] ∨ ∃ a len cap elems, cs = [.slice (some a) len cap] ∧ len ≤ cap ∧ cap ≤ maxLen ∧
      (List.range len).mapM (fun i => (w.cells? 0 (a.add (i * P.cellsOf e)) (P.cellsOf e)).bind (DataW.trod enc P w 0 spare held fuel e)) = some elems := by
  unfold DataW.trod at h
  rw [hu] at h
  split at h
  case h_7 => exact .inl rfl
  case h_8 e' a len cap he =>
    cases he
    right
    simp only at h
    split at h
    · rename_i hc
      simp only [Option.bind_eq_some_iff] at h
      obtain ⟨elems, h1, _⟩ := h
      exact ⟨a, len, cap, elems, rfl, hc.2.1, hc.2.2, h1⟩
    · cases h
  all_goals (exfalso; simp_all; done)
theorem trod_struct {fuel : Nat} {t : TypeId} {fs : Array Field} {cs : List Value} {d : DataW H} {ps : List MemPlace} (hu : P.underlying t = some (.struct fs)) (h : DataW.trod enc P w 0 spare held (fuel + 1) t cs = some (d, ps)) :
    cs.length = P.cellsOf t ∧ ∃ xs, fs.toList.mapM (fun f => DataW.trod enc P w 0 spare held fuel f.type ((cs.drop f.offset).take (P.cellsOf f.type))) = some xs := by
  unfold DataW.trod at h
  rw [hu] at h
  split at h
  case h_9 fs' he =>
    cases he
    split at h
    · rename_i hc
      simp only [Option.map_eq_some_iff] at h
      obtain ⟨xs, h1, _⟩ := h
      exact ⟨hc, xs, h1⟩
    · cases h
  all_goals (exfalso; simp_all; done)

theorem reads_trod (hX : ∀ c, c < w.heap.size → ¬ X c) : ∀ (fuel n : Nat) (t : TypeId) (g : Bool) (sh : List CSh) (cs : List Value) (d : DataW H) (ps : List MemPlace),
    shapeE P n t = some (g, sh) → DataW.trod enc P w 0 spare held fuel t cs = some (d, ps) → Reads P w X sh cs := by
  intro fuel
  induction fuel with
  | zero => intro n t g sh cs d ps _ h; simp [DataW.trod] at h
  | succ fuel ih =>
    intro n t g sh cs d ps hs h
    cases n with
    | zero => simp [shapeE] at hs
    | succ n =>
      simp only [shapeE] at hs
      split at hs
      · rename_i hu
        cases hs
        obtain ⟨b, rfl⟩ := trod_bool hu h
        exact ⟨[.bool b], .cons (.bool b) .nil, VRs.single (.bool b), fun a ha => by rw [List.mem_singleton.1 ha]; rfl⟩
      · rename_i k hu
        cases hs
        obtain ⟨n, rfl, hw⟩ := trod_int hu h
        exact ⟨[.int k n], .cons (.int k n hw) .nil, VRs.single (.int k n), fun a ha => by rw [List.mem_singleton.1 ha]; rfl⟩
      · rename_i hu
        cases hs
        obtain ⟨s, rfl, hw⟩ := trod_str hu h
        exact ⟨[.str s.data.toList], .cons (.str _ (by simpa using hw)) .nil, VRs.single (.str s), fun a ha => by rw [List.mem_singleton.1 ha]; rfl⟩
      · rename_i e hu
        split at hs
        · rename_i g' cells hsh
          split at hs
          · rename_i hc
            cases hs
            rcases trod_slice hu h with rfl | ⟨a, len, cap, elems, rfl, h1, h2, h3⟩
            · exact ⟨[.vsl []], .cons (.sl .nil (Nat.zero_le _)) .nil, VRs.single (.vslE none 0), fun a ha => by rw [List.mem_singleton.1 ha]; rfl⟩
            · obtain ⟨es, hf, hl, hv⟩ := reads_slice hX hc.1 hc.2.1 hc.2.2 (fun cs d ps h => ih n e g' cells cs d ps hsh h) h1 h2 h3
              exact ⟨[.vsl es], .cons (.sl hf hl) .nil, VRs.single hv, fun a ha => by rw [List.mem_singleton.1 ha]; rfl⟩
          · cases hs
        · cases hs
      · rename_i fs hu
        split at hs
        · rename_i o cells hsh
          split at hs
          · rename_i ho
            cases hs
            obtain ⟨hl, xs, hx⟩ := trod_struct hu h
            obtain ⟨e, hr⟩ := reads_fields (fun t g sh cs d ps h1 h2 => ih n t g sh cs d ps h1 h2) fs.toList 0 o sh xs hsh (by omega) hx
            have hlen : sh.length = cs.length := by omega
            rw [hlen, List.drop_zero, List.take_length] at hr
            exact hr
          · cases hs
        · cases hs
      · cases hs
end
end Go.AI

/- From a run of the interpreter to a call of the model, for a statement's function. -/
set_option linter.unusedVariables false
set_option linter.unusedSimpArgs false
namespace Go.AI
open Go

/-- A statement's function that answers true. -/
theorem law_calls {P : Program} {G : Nat → Option (List Value)} {F : Nat → Option Spec} (ht : TableOK P G F) (hp : PrimLeft F) {f : Nat} {sf : SFun} (hF : F f = some (.code sf)) {W : World} {args : Array Value} {avs : List AV}
    (hG : ∀ g vs, G g = some vs → g < W.heap.size ∧ W.rangeAt g 0 vs) (hv : VRs W (fun _ => False) none args.toList avs) {lo : Nat} (hr : runT F f avs [] = some (.bool true, [], lo)) :
    Calls P f args W fun e W' => e = .returned (.bool true) ∧ RowKit.Below W.heap.size W W' := by
  have h := runT_calls ht hp hF hr
  have hnl : ∀ (β : Nat → Nat × Nat) b, ¬ (Mem.mk β []).live b := fun β b hb => by
    unfold Mem.live Heap.get at hb
    simp at hb
  have hm : MemOK G W (fun _ => False) ⟨fun _ => (0, 0), []⟩ W.heap.size := {
    gl := fun g vs hg => ⟨(hG g vs hg).1, (hG g vs hg).1, (hG g vs hg).2⟩
    hr := {
      row := fun b s g es hb => by unfold Heap.get at hb; simp at hb
      map := fun b kvs hb => by unfold Heap.get at hb; simp at hb
      inj := fun b b' hb => (hnl _ b hb).elim
      lt := fun b hb => (hnl _ b hb).elim
      ge := fun b hb => (hnl _ b hb).elim }
    notY := fun b hb => (hnl _ b hb).elim
    Ylt := fun k hk => hk.elim
    Yge := fun k hk => hk.elim
    N0 := Nat.le_refl _ }
  refine Calls.mono (h (fun _ => False) W.heap.size W (fun _ => (0, 0)) args hm ⟨hv.1, fun k v a e1 e2 => ?_⟩) fun e W' he => ?_
  · exact ((hv.2 k v a e1 e2).any _).stays (Stays.sub fun k hk => by
      rcases hk with hk | ⟨b, hb, _⟩
      · exact hk
      · exact (hnl _ b hb).elim)
  · cases e with
    | returned v =>
      obtain ⟨β', _, hr', hf⟩ := he
      have : v = .bool true := by
        generalize hx : AV.bool true = x at hr'
        cases hr' <;> cases hx
        rfl
      subst this
      exact ⟨rfl, ⟨hf.os, hf.tape, hf.output, hf.size, fun k hk => hf.keep k hk (by rintro ⟨b, hb, _⟩; exact hnl _ b hb) fun h => h⟩⟩
    | panicked c => exact he.elim
    | outgrown => exact he.elim

theorem shapeE_agg {P : Program} {n : Nat} {t : TypeId} {sh : List CSh} (h : shapeE P n t = some (true, sh)) : ∃ fs, P.underlying t = some (.struct fs) := by
  cases n with
  | zero => cases h
  | succ n =>
    simp only [shapeE] at h
    split at h
    · cases h
    · cases h
    · cases h
    · split at h
      · split at h <;> cases h
      · cases h
    · rename_i fs hu; exact ⟨fs, hu⟩
    · cases h

theorem shapeE_one {P : Program} {n : Nat} {t : TypeId} {sh : List CSh} (h : shapeE P n t = some (false, sh)) : (P.underlying t = some .bool ∨ (∃ k, P.underlying t = some (.int k)) ∨ P.underlying t = some .string ∨ ∃ e, P.underlying t = some (.slice e)) ∧ sh.length = 1 := by
  cases n with
  | zero => cases h
  | succ n =>
    simp only [shapeE] at h
    split at h
    · rename_i hu; cases h; exact ⟨.inl hu, rfl⟩
    · rename_i k hu; cases h; exact ⟨.inr (.inl ⟨k, hu⟩), rfl⟩
    · rename_i hu; cases h; exact ⟨.inr (.inr (.inl hu)), rfl⟩
    · rename_i e hu
      split at h
      · split at h
        · cases h; exact ⟨.inr (.inr (.inr ⟨e, hu⟩)), rfl⟩
        · cases h
      · cases h
    · split at h
      · split at h <;> cases h
      · cases h
    · cases h

/-- An argument that is read, as a value of the interpreter. -/
theorem arg_fits {H : Type} {enc : TypeId × Value → H} {P : Program} {w : World} {sp : Nat → Bool} {hd : Bool} {t : TypeId} {v : Value} {d : DataW H} {ps : List MemPlace} {base n : Nat} {g : Bool} {sh : List CSh}
    (hs : shapeE P n t = some (g, sh)) (hok : Value.okWide P w .any base t v) (h : DataW.Trod enc P w 0 sp hd t v d ps) : ∃ as, FitsL sh as ∧ VR w (fun _ => False) none v (mkE g as) := by
  obtain ⟨fuel, hf⟩ := h
  obtain ⟨as, h1, h2, h3⟩ := reads_trod (X := fun _ => False) (fun _ _ h => h) fuel n t g sh _ _ _ hs hf
  refine ⟨as, h1, ?_⟩
  cases g with
  | true =>
    obtain ⟨fs, hu⟩ := shapeE_agg hs
    unfold Value.okWide at hok
    rw [hu] at hok
    obtain ⟨cs, rfl, _, _⟩ := hok
    exact .agg cs as (by simpa [Value.cells] using h2.1) h3 fun k v a e1 e2 => h2.2 k v a (by simpa [Value.cells] using e1) e2
  | false =>
    obtain ⟨hu, hl⟩ := shapeE_one hs
    have hone : v.cells = #[v] := by
      unfold Value.okWide at hok
      cases v <;> first | rfl | skip
      exfalso
      rcases hu with hu | ⟨k, hu⟩ | hu | ⟨e, hu⟩ <;> (rw [hu] at hok; simp only [Cell.okWide, hu, Cell.ok] at hok)
    rw [hone] at h2
    have hal := h1.length
    rw [hl] at hal
    match as, hal, h2 with
    | [a], _, h2 => exact h2.2 0 v a rfl rfl

/-! ### Data out of shapes -/
theorem FitsEs.map {α : Type} {f : α → AV} {g : Bool} {cells : List CSh} (h : ∀ as, FitsL cells as → ∃ x, mkE g as = f x) : ∀ {es : List AV}, FitsEs g cells es → ∃ l : List α, es = l.map f
  | _, .nil => ⟨[], rfl⟩
  | _, .cons h1 t => by
    obtain ⟨x, hx⟩ := h _ h1
    obtain ⟨l, hl⟩ := FitsEs.map h t
    exact ⟨x :: l, by rw [hx, hl]; rfl⟩

def shShare : List CSh := [.int .i64, .int .i64]
def shTerm : List CSh := [.int .i64, .sl true shShare]
def shWay : List CSh := [.sl true shTerm]
def shNode : List CSh := [.bool, .sl false shWay]
def shReport : List CSh := [.int .i64, .sl false [.int .i64], .sl true shNode]

theorem fits_share : ∀ as, FitsL shShare as → ∃ s : Share, mkE true as = s.av
  | _, .cons (.int _ a _) (.cons (.int _ b _) .nil) => ⟨⟨a, b⟩, rfl⟩
theorem fits_term : ∀ as, FitsL shTerm as → ∃ s : Term, mkE true as = s.av
  | _, .cons (.int _ a _) (.cons (.sl h _) .nil) => by
    obtain ⟨l, rfl⟩ := h.map fits_share
    exact ⟨⟨a, l⟩, rfl⟩
theorem fits_way : ∀ as, FitsL shWay as → ∃ s : List Term, mkE false as = wayAv s
  | _, .cons (.sl h _) .nil => by
    obtain ⟨l, rfl⟩ := h.map fits_term
    exact ⟨l, rfl⟩
theorem fits_node : ∀ as, FitsL shNode as → ∃ s : Node, mkE true as = s.av
  | _, .cons (.bool b) (.cons (.sl h _) .nil) => by
    obtain ⟨l, rfl⟩ := h.map fits_way
    exact ⟨⟨b, l⟩, rfl⟩
theorem fits_int : ∀ as, FitsL [.int .i64] as → ∃ n : Int, mkE false as = .int .i64 n
  | _, .cons (.int _ a _) .nil => ⟨a, rfl⟩
theorem fits_report : ∀ as, FitsL shReport as → ∃ s : Report, mkE true as = s.av
  | _, .cons (.int _ a _) (.cons (.sl h _) (.cons (.sl h' _) .nil)) => by
    obtain ⟨l, rfl⟩ := h.map fits_int
    obtain ⟨l', rfl⟩ := h'.map fits_node
    exact ⟨⟨a, l, l'⟩, rfl⟩
theorem fits_graph : ∀ as, FitsL [.sl true shNode] as → ∃ s : List Node, mkE false as = .vsl (s.map Node.av)
  | _, .cons (.sl h _) .nil => by
    obtain ⟨l, rfl⟩ := h.map fits_node
    exact ⟨l, rfl⟩

/-! ### Tables -/
/-- A table of numbers in a variable of the world's own. -/
theorem globs_tab {G : Nat → Option (List Value)} {g : Nat} {k : IntKind} {zs : List Int} {cells : List AV} (hc : cells = zs.map fun z => .int k z) (hG : G g = some (zs.map fun z => Value.int k z)) : GlobsOK G [(g, cells)] := by
  intro g' cs h
  simp only [globOf] at h
  split at h
  · rename_i e
    subst e
    cases h
    subst hc
    refine ⟨_, hG, by simp, fun a ha => ?_, fun w X i v a e1 e2 => ?_⟩
    · obtain ⟨z, _, rfl⟩ := List.mem_map.1 ha; rfl
    · simp only [List.getElem?_map, Option.map_eq_some_iff] at e1 e2
      obtain ⟨z, hz, rfl⟩ := e1
      obtain ⟨z', hz', rfl⟩ := e2
      rw [hz] at hz'
      cases hz'
      exact .int k z
  · cases h
theorem tab_range {P : Program} {W : World} {name : String} {k : IntKind} {zs : List Int} {g : Nat} (h : Lib.TabIs P W name k zs) (hg : P.globalNamed name = some g) (h0 : 0 < zs.length) :
    g < W.heap.size ∧ W.rangeAt g 0 (zs.map fun z => Value.int k z) := by
  have hr : W.rangeAt g 0 (zs.map fun z => Value.int k z) := fun j v hj => by
    simp only [List.getElem?_map, Option.map_eq_some_iff] at hj
    obtain ⟨z, hz, rfl⟩ := hj
    have hjl := (List.getElem?_eq_some_iff.1 hz).1
    have := h.cell hg j hjl
    rw [List.getD_eq_getElem?_getD, hz] at this
    rw [Nat.zero_add]; exact this
  exact ⟨cell_lt (hr 0 _ (by rw [List.getElem?_map, List.getElem?_eq_getElem h0]; rfl)), hr⟩
end Go.AI

