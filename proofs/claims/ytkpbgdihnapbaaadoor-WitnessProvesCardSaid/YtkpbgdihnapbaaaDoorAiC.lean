/- Regions that draw their order: one order is run, and all come to the same. -/
import Derived.Test.YtkpbgdihnapbaaaDoorAiB
import Derived.Orders
import Derived.LoopN
import Derived.Attr
set_option linter.unusedVariables false
set_option linter.unusedSimpArgs false
namespace Go.AI
open Go

/-- Alike wherever one looks. -/
structure Eqv (s t : St) : Prop where
  heap : t.heap = s.heap
  lo : t.lo = s.lo
  base : t.base = s.base
  boxes : ∀ d, look t.boxes d = look s.boxes d
  env : ∀ d, look t.env d = look s.env d
  addrs : ∀ d, look t.addrs d = look s.addrs d

theorem Eqv.refl (s : St) : Eqv s s := ⟨rfl, rfl, rfl, fun _ => rfl, fun _ => rfl, fun _ => rfl⟩
theorem Eqv.alike {s t : St} (h : Eqv s t) (U A : List Nat) : Alike U A s t := ⟨h.heap, h.lo, h.base, h.boxes, fun d _ => h.env d, fun d _ => h.addrs d⟩

/-- One step in two states: the same has changed in both, and it is the slot `dst` alone. -/
structure Delta (dst : Option Nat) (s s1 t t1 : St) : Prop where
  env : ∀ d, (look s1.env d = look s.env d ∧ look t1.env d = look t.env d) ∨ (dst = some d ∧ look t1.env d = look s1.env d)
  addrs : ∀ d, (look s1.addrs d = look s.addrs d ∧ look t1.addrs d = look t.addrs d) ∨ (dst = some d ∧ look t1.addrs d = look s1.addrs d)
  boxes : s1.boxes = s.boxes ∧ t1.boxes = t.boxes
  base : s1.base = s.base ∧ t1.base = t.base

/-- .. and the heaps are one. -/
structure DeltaH (dst : Option Nat) (s s1 t t1 : St) : Prop extends Delta dst s s1 t t1 where
  heap : t1.heap = s1.heap
  lo : t1.lo = s1.lo

theorem delta_put {s s1 t : St} (h : s1.env = s.env) (h2 : s1.addrs = s.addrs) (h3 : s1.boxes = s.boxes) (h4 : s1.base = s.base) (dst : Option Nat) (v : Option AV) :
    DeltaH dst s (s1.put dst v) t ((t.over s1).put dst v) := by
  cases dst with
  | none => exact ⟨⟨fun d => .inl ⟨by simp [St.put, h], rfl⟩, fun d => .inl ⟨by simp [St.put, h2], rfl⟩, ⟨h3, rfl⟩, ⟨h4, rfl⟩⟩, rfl, rfl⟩
  | some k =>
    refine ⟨⟨fun d => ?_, fun d => .inl ⟨by simp [St.put, h2], rfl⟩, ⟨h3, rfl⟩, ⟨h4, rfl⟩⟩, rfl, rfl⟩
    by_cases e : k = d
    · subst e; exact .inr ⟨rfl, by simp [St.put, look_cons]⟩
    · exact .inl ⟨by simp [St.put, look_cons, e, h], by simp [St.put, look_cons, e, St.over]⟩

theorem delta_putA {s t : St} (hh : t.heap = s.heap) (hl : t.lo = s.lo) {k : Nat} {p : Option (Nat × Nat)} :
    DeltaH (some k) s { s with addrs := (k, p) :: s.addrs } t { t with addrs := (k, p) :: t.addrs } := by
  refine ⟨⟨fun d => .inl ⟨rfl, rfl⟩, fun d => ?_, ⟨rfl, rfl⟩, ⟨rfl, rfl⟩⟩, hh, hl⟩
  by_cases e : k = d
  · subst e; exact .inr ⟨rfl, by simp [look_cons]⟩
  · exact .inl ⟨by simp [look_cons, e], by simp [look_cons, e]⟩

theorem delta_undef {s t : St} {u : Option AV} (hh : t.heap = s.heap) (hl : t.lo = s.lo) (dst : Option Nat) : DeltaH dst s (s.undef u dst) t (t.undef u dst) := by
  cases dst with
  | none => exact ⟨⟨fun d => .inl ⟨rfl, rfl⟩, fun d => .inl ⟨rfl, rfl⟩, ⟨rfl, rfl⟩, ⟨rfl, rfl⟩⟩, hh, hl⟩
  | some k =>
    refine ⟨⟨fun d => ?_, fun d => ?_, ⟨rfl, rfl⟩, ⟨rfl, rfl⟩⟩, hh, hl⟩
    all_goals
      by_cases e : k = d
      · subst e; exact .inr ⟨rfl, by simp [St.undef, look_cons]⟩
      · exact .inl ⟨by simp [St.undef, look_cons, e], by simp [St.undef, look_cons, e]⟩

theorem setRow_over {s t : St} (hh : t.heap = s.heap) (hl : t.lo = s.lo) {b z g : Nat} {es : List AV} : setRow t b z g es = t.over (setRow s b z g es) := by simp [setRow, St.over, hh, hl]
theorem setMap_over {s t : St} (hh : t.heap = s.heap) (hl : t.lo = s.lo) {b : Nat} {kvs : List (AV × AV)} : setMap t b kvs = t.over (setMap s b kvs) := by simp [setMap, St.over, hh, hl]

theorem aop_frame {op : SOp} {s s1 : St} {v : AV} (h : aop op s = some (v, s1)) : s1 = s.over s1 := by
  have := aop_over (U := op.uses) (A := op.usesA) (s := s) (t := s) (Eqv.refl s |>.alike _ _) (fun d h => h) (fun d h => h)
  rw [h] at this
  simp only [Option.map_some, Option.some.injEq, Prod.mk.injEq, true_and] at this
  exact this

theorem aop_delta {op : SOp} {U : List Nat} {s s1 t : St} {dst : Option Nat} (ha : Alike U U s t) (hU : ∀ d ∈ op.uses, d ∈ U) (hA : ∀ d ∈ op.usesA, d ∈ U)
    (h : (match aop op s with
      | some (v, s') => some (s'.put dst (some v))
      | none => none) = some s1) : ∃ t1, (match aop op t with
      | some (v, s') => some (s'.put dst (some v))
      | none => none) = some t1 ∧ DeltaH dst s s1 t t1 := by
  rw [aop_over ha hU hA]
  split at h
  · rename_i v s' hv
    cases h
    rw [hv]
    have hf := aop_frame hv
    exact ⟨_, rfl, delta_put (by rw [hf]; rfl) (by rw [hf]; rfl) (by rw [hf]; rfl) (by rw [hf]; rfl) _ _⟩
  · cases h

theorem sop_delta {op : SOp} (hw : writesB op = false) {U : List Nat} {s s1 t : St} {dst : Option Nat} (ha : Alike U U s t) (hU : ∀ d ∈ op.uses, d ∈ U) (hA : ∀ d ∈ op.usesA, d ∈ U)
    (h : sop op dst s = some s1) : ∃ t1, sop op dst t = some t1 ∧ DeltaH dst s s1 t t1 := by
  have hdef : ∀ o, (∀ d ∈ o.uses, d ∈ U) → (∀ d ∈ o.usesA, d ∈ U) → (∀ u, sop o dst u = match aop o u with
      | some (v, s') => some (s'.put dst (some v))
      | none => none) → sop o dst s = some s1 → ∃ t1, sop o dst t = some t1 ∧ DeltaH dst s s1 t t1 := fun o h1 h2 h3 h4 => by
    rw [h3] at h4 ⊢
    exact aop_delta ha h1 h2 h4
  cases op <;> simp only [writesB, Bool.true_eq_false] at hw
  case movA x =>
    simp only [sop] at h ⊢
    rw [ha.addrs x (hA x (by simp [SOp.usesA]))]
    split at h
    · rename_i d p hp
      rw [ha.boxes]
      split at h
      · rename_i hb
        cases h
        rw [if_pos hb]
        exact ⟨_, rfl, delta_putA ha.heap ha.lo⟩
      · cases h
    · cases h
  case faddrA o x =>
    simp only [sop] at h ⊢
    rw [ha.addrs x (hA x (by simp [SOp.usesA]))]
    split at h
    · rename_i d b p hp
      rw [ha.boxes]
      split at h
      · rename_i hb
        cases h
        rw [if_pos hb]
        exact ⟨_, rfl, delta_putA ha.heap ha.lo⟩
      · cases h
    · cases h
  case iaddrA n sz x i =>
    simp only [sop] at h ⊢
    rw [ha.addrs x (hA x (by simp [SOp.usesA])), ha.eval (x := i) hU]
    split at h
    · rename_i d b p k n hp hi
      rw [ha.boxes]
      split at h
      · rename_i hb
        cases h
        rw [if_pos hb]
        exact ⟨_, rfl, delta_putA ha.heap ha.lo⟩
      · cases h
    · cases h
  case store sz x y =>
    simp only [sop] at h ⊢
    rw [ha.eval (x := x) fun d hd => hU d (by simp [SOp.uses, hd]), ha.eval (x := y) fun d hd => hU d (by simp [SOp.uses, hd]), ha.heap]
    split at h
    · split at h
      · split at h
        · split at h
          · rename_i hb _ es' he
            cases h
            rw [if_pos hb]
            refine ⟨_, rfl, ?_⟩
            rw [setRow_over ha.heap ha.lo]
            refine delta_put ?_ ?_ ?_ ?_ _ _ <;> rfl
          · cases h
        · cases h
      · cases h
    · cases h
  case mapUpd kc m k x =>
    simp only [sop] at h ⊢
    rw [ha.eval (x := m) fun d hd => hU d (by simp [SOp.uses, hd]), ha.eval (x := k) fun d hd => hU d (by simp [SOp.uses, hd]), ha.eval (x := x) fun d hd => hU d (by simp [SOp.uses, hd]), ha.heap]
    split at h
    · split at h
      · split at h
        · cases h
          refine ⟨_, rfl, ?_⟩
          rw [setMap_over ha.heap ha.lo]
          refine delta_put ?_ ?_ ?_ ?_ _ _ <;> rfl
        · cases h
          refine ⟨_, rfl, ?_⟩
          rw [setMap_over ha.heap ha.lo]
          refine delta_put ?_ ?_ ?_ ?_ _ _ <;> rfl
        · cases h
      · cases h
    · cases h
  all_goals exact hdef _ hU hA (fun _ => rfl) h

section
variable {call : Call}

theorem doCall_delta {f : Nat} {vs : List AV} {dst : Option Nat} {s s1 t : St} (hh : t.heap = s.heap) (hl : t.lo = s.lo) (h : doCall call f vs dst s = some s1) :
    ∃ t1, doCall call f vs dst t = some t1 ∧ DeltaH dst s s1 t t1 := by
  unfold doCall at h ⊢
  rw [hh]
  split at h
  · rename_i r H lo hc
    cases h
    refine ⟨_, rfl, ?_⟩
    have := delta_put (s := s) (s1 := { s with heap := H, lo := min s.lo lo }) (t := t) rfl rfl rfl rfl dst (some r)
    simp only [St.over] at this
    rw [hl]
    exact this
  · cases h

def SI.slots (i : SI) : List Nat := i.op.uses ++ i.op.usesA ++ (match i.guard with
  | some (t, _) => [t]
  | none => [])

theorem si_delta {i : SI} (hw : writesB i.op = false) {s s1 t : St} (ha : Alike i.slots i.slots s t) (h : stepSI call i s = some s1) :
    ∃ t1, stepSI call i t = some t1 ∧ DeltaH i.dst s s1 t t1 := by
  have hU : ∀ d ∈ i.op.uses, d ∈ i.slots := fun d hd => by simp [SI.slots, hd]
  have hA : ∀ d ∈ i.op.usesA, d ∈ i.slots := fun d hd => by simp [SI.slots, hd]
  have hg : wantedS t i.guard = wantedS s i.guard := by
    cases hgd : i.guard with
    | none => rfl
    | some p =>
      obtain ⟨g, want⟩ := p
      simp only [wantedS]
      rw [ha.env g (by simp [SI.slots, hgd])]
  unfold stepSI at h ⊢
  rw [hg]
  split at h
  · by_cases hnc : isCall i.op = false
    · rw [step_sop hnc] at h ⊢
      exact sop_delta hw ha hU hA h
    · cases hop : i.op <;> rw [hop] at hnc h hU hA <;> simp only [isCall, not_true_eq_false] at hnc
      case call f xs =>
        simp only [step] at h ⊢
        rw [ha.evals hU]
        split at h
        · exact doCall_delta ha.heap ha.lo h
        · cases h
      case callv x xs =>
        simp only [step] at h ⊢
        rw [ha.eval (x := x) fun d hd => hU d (by simp [SOp.uses, hd]), ha.evals fun d hd => hU d (by simp only [SOp.uses, List.mem_append]; exact .inr hd)]
        split at h
        · exact doCall_delta ha.heap ha.lo h
        · cases h
  · cases h
    exact ⟨_, rfl, delta_undef ha.heap ha.lo _⟩
  · cases h

/-- A pure operation in another heap. -/
theorem si_at {i : SI} (hp : isPure i.op = true) {u u' : St} (h : stepSI call i u = some u') {H : Heap} {l : Nat} (hH : ∀ b, b < topOf u i.op → H[b]? = u.heap[b]?) :
    stepSI call i (u.at H l) = some (u'.at H l) ∧ u'.heap = u.heap ∧ u'.lo = u.lo := by
  have hdef : ∀ o, isPure o = true → (∀ b, b < topOf u o → H[b]? = u.heap[b]?) → (∀ v, sop o i.dst v = match aop o v with
      | some (v, s') => some (s'.put i.dst (some v))
      | none => none) → sop o i.dst u = some u' → sop o i.dst (u.at H l) = some (u'.at H l) ∧ u'.heap = u.heap ∧ u'.lo = u.lo := fun o h1 h2 h3 h4 => by
    rw [h3] at h4 ⊢
    split at h4
    · rename_i v s' hv
      cases h4
      obtain ⟨rfl, h5⟩ := aop_pure h1 hv (H := H) (l := l) h2
      rw [h5]
      cases i.dst <;> exact ⟨rfl, rfl, rfl⟩
    · cases h4
  unfold stepSI at h ⊢
  have hg : wantedS (u.at H l) i.guard = wantedS u i.guard := by cases i.guard <;> rfl
  rw [hg]
  split at h
  · have hnc : isCall i.op = false := by cases hop : i.op <;> rw [hop] at hp <;> first | rfl | cases hp
    rw [step_sop hnc] at h ⊢
    cases hop : i.op <;> rw [hop] at hp h hH <;> simp only [isPure, Bool.false_eq_true] at hp
    case movA x =>
      simp only [sop] at h ⊢
      repeat' split at h
      all_goals first | (cases h; done) | skip
      cases h
      exact ⟨by simp_all [St.at], rfl, rfl⟩
    case faddrA o x =>
      simp only [sop] at h ⊢
      repeat' split at h
      all_goals first | (cases h; done) | skip
      cases h
      exact ⟨by simp_all [St.at], rfl, rfl⟩
    case iaddrA n sz x y =>
      simp only [sop, eval_at] at h ⊢
      repeat' split at h
      all_goals first | (cases h; done) | skip
      cases h
      exact ⟨by simp_all [St.at], rfl, rfl⟩
    all_goals exact hdef _ rfl hH (fun _ => rfl) h
  · cases h
    cases i.dst <;> exact ⟨rfl, rfl, rfl⟩
  · cases h
end
end Go.AI

/- Every order of a region that draws one. -/
set_option linter.unusedVariables false
set_option linter.unusedSimpArgs false
namespace Go.AI
open Go

section
variable {call : Call}

theorem over_at {t s : St} : t.over s = t.at s.heap s.lo := rfl

/-- A pure operation yields the same wherever the same is to be seen. -/
theorem si_pure {i : SI} (hp : isPure i.op = true) {s s' t : St} (h : stepSI call i s = some s') (henv : ∀ d ∈ i.slots, look t.env d = look s.env d) (haddr : ∀ d ∈ i.slots, look t.addrs d = look s.addrs d)
    (hbx : ∀ d, look t.boxes d = look s.boxes d) (hbase : t.base = s.base) (hH : ∀ b, b < topOf s i.op → t.heap[b]? = s.heap[b]?) :
    ∃ t', stepSI call i t = some t' ∧ Delta i.dst s s' t t' ∧ t'.heap = t.heap ∧ t'.lo = t.lo ∧ s'.heap = s.heap ∧ s'.lo = s.lo := by
  have hw : writesB i.op = false := by cases hop : i.op <;> rw [hop] at hp <;> first | rfl | cases hp
  obtain ⟨_, e1, e2⟩ := si_at hp h (H := s.heap) (l := s.lo) fun _ _ => rfl
  have ha : Alike i.slots i.slots s (t.at s.heap s.lo) := ⟨rfl, rfl, hbase, hbx, henv, haddr⟩
  obtain ⟨t1, h1, hd⟩ := si_delta hw ha h
  have htop : topOf (t.at s.heap s.lo) i.op = topOf s i.op := by
    have hU : ∀ d ∈ i.op.uses, d ∈ i.slots := fun d hd => by simp [SI.slots, hd]
    cases hop : i.op <;> rw [hop] at hU <;> try rfl
    all_goals
      simp only [topOf]
      rw [ha.eval]
      intro d hd
      exact hU d (by simp [SOp.uses, hd])
  obtain ⟨h2, g1, g2⟩ := si_at hp h1 (H := t.heap) (l := t.lo) fun b hb => hH b (by rw [← htop]; exact hb)
  exact ⟨t1.at t.heap t.lo, h2, ⟨hd.env, hd.addrs, hd.boxes, hd.base⟩, rfl, rfl, e1, e2⟩

/-- Two operations that do not touch each other's slots; the first is pure. -/
def apartS (x y : SI) : Bool :=
  (match x.dst with
   | some d => !y.slots.contains d && y.dst != some d
   | none => true) &&
  (match y.dst with
   | some d => !x.slots.contains d
   | none => true)

theorem apartS_spec {x y : SI} (h : apartS x y = true) : (∀ d, x.dst = some d → d ∉ y.slots) ∧ (∀ d, x.dst = some d → y.dst ≠ some d) ∧ (∀ d, y.dst = some d → d ∉ x.slots) := by
  refine ⟨fun d hd => ?_, fun d hd => ?_, fun d hd => ?_⟩ <;> simp [apartS, hd] at h
  · exact h.1.1
  · exact h.1.2
  · exact h.2

/-- An operation of a region, whenever it comes: what was read ahead of it is heeded. -/
def stepD (call : Call) (anc : List Nat) (C : List (Nat × Nat)) (i : SI) (s : St) : Option St :=
  if isPure i.op then stepSI call i s else stepG call C anc i s

theorem heeds_sub {C C' : List (Nat × Nat)} {un : List Nat} {lo : Nat} (h : heeds C un lo = true) (hs : ∀ p ∈ C', p ∈ C) : heeds C' un lo = true := by
  unfold heeds at *
  rw [List.all_eq_true] at *
  exact fun p hp => h p (hs p hp)

theorem stepD_sub {anc : List Nat} {C C' : List (Nat × Nat)} {i : SI} {s s' : St} (hs : ∀ p ∈ C', p ∈ C) (h : stepD call anc C i s = some s') : stepD call anc C' i s = some s' := by
  unfold stepD stepG at *
  split at h
  · rename_i hp; rw [if_pos hp]; exact h
  · rename_i hp
    rw [if_neg hp]
    split at h
    · rename_i x hx
      split at h
      · rename_i hh
        rw [if_pos (heeds_sub hh hs)]; exact h
      · cases h
    · cases h

theorem eqv_of_delta {dst : Option Nat} {s s1 t t1 : St} (h : Eqv s t) (hd : DeltaH dst s s1 t t1) : Eqv s1 t1 where
  heap := hd.heap
  lo := hd.lo
  base := by rw [hd.base.1, hd.base.2, h.base]
  boxes := fun d => by rw [hd.boxes.1, hd.boxes.2, h.boxes]
  env := fun d => by
    rcases hd.env d with ⟨e1, e2⟩ | ⟨_, e⟩
    · rw [e1, e2, h.env]
    · exact e
  addrs := fun d => by
    rcases hd.addrs d with ⟨e1, e2⟩ | ⟨_, e⟩
    · rw [e1, e2, h.addrs]
    · exact e

/-- A step, whichever: in two states that look alike to it. -/
theorem stepD_delta {anc : List Nat} {C : List (Nat × Nat)} {i : SI} (hw : writesB i.op = false) {s s1 t : St} (ha : Alike i.slots i.slots s t) (h : stepD call anc C i s = some s1) :
    ∃ t1, stepD call anc C i t = some t1 ∧ DeltaH i.dst s s1 t t1 := by
  unfold stepD at *
  split at h
  · rename_i hp
    rw [if_pos hp]
    exact si_delta hw ha h
  · rename_i hp
    rw [if_neg hp]
    unfold stepG stepLo at *
    split at h
    · rename_i x hx
      split at h
      · rename_i hh
        cases h
        have ha' : Alike i.slots i.slots { s with lo := s.heap.length } { t with lo := t.heap.length } := ⟨ha.heap, by simp [ha.heap], ha.base, ha.boxes, ha.env, ha.addrs⟩
        obtain ⟨y, hy, hd⟩ := si_delta hw ha' hx
        rw [hy]
        simp only
        rw [hd.lo, if_pos hh]
        exact ⟨_, rfl, ⟨hd.env, hd.addrs, hd.boxes, hd.base⟩, hd.heap, by simp [hd.lo, ha.lo]⟩
      · cases h
    · cases h

/-- The pure one first, or the other: it comes to the same. -/
theorem stepD_comm (hc : CallLeft call) {n T : Nat} {anc : List Nat} {C : List (Nat × Nat)} {i j : SI} (hp : isPure i.op = true) (hw : writesB j.op = false) (hap : apartS i j = true) (hn : n ∉ anc)
    {s s' s1 : St} (hi : stepSI call i s = some s') (hT : topOf s i.op ≤ T) (hj : stepD call anc ((n, T) :: C) j s' = some s1) :
    ∃ t1 t', stepD call anc C j s = some t1 ∧ stepSI call i t1 = some t' ∧ Eqv s1 t' ∧ topOf t1 i.op = topOf s i.op := by
  obtain ⟨h1, h2, h3⟩ := apartS_spec hap
  obtain ⟨_, _, hds, e1, e2, e3, e4⟩ := si_pure (t := s) hp hi (fun _ _ => rfl) (fun _ _ => rfl) (fun _ => rfl) rfl fun _ _ => rfl
  have ha : Alike j.slots j.slots s' s := ⟨e3.symm, e4.symm, hds.base.1.symm, fun d => by rw [hds.boxes.1], fun d hd => by
    rcases hds.env d with ⟨x, _⟩ | ⟨x, _⟩
    · exact x.symm
    · exact absurd hd (h1 d x), fun d hd => by
    rcases hds.addrs d with ⟨x, _⟩ | ⟨x, _⟩
    · exact x.symm
    · exact absurd hd (h1 d x)⟩
  obtain ⟨t1, k1, kd⟩ := stepD_delta hw ha (stepD_sub (fun p hp => List.mem_cons_of_mem _ hp) hj)
  have hheap : ∀ b, b < topOf s i.op → t1.heap[b]? = s.heap[b]? := fun b hb => by
    rw [kd.heap, ← e3]
    unfold stepD at hj
    split at hj
    · rename_i hpj
      obtain ⟨_, g1, _⟩ := si_at hpj hj (H := s'.heap) (l := s'.lo) fun _ _ => rfl
      rw [g1]
    · unfold stepG stepLo at hj
      split at hj
      · rename_i x hx
        split at hj
        · rename_i hh
          cases hj
          have hl := left_SI hc (s := { s' with lo := s'.heap.length }) (Nat.le_refl _) hx
          refine hl.keep b ?_
          unfold heeds at hh
          rw [List.all_eq_true] at hh
          have := hh (n, T) (by simp)
          simp only [Bool.or_eq_true, decide_eq_true_eq, List.contains_iff_mem] at this
          have := this.resolve_left hn
          omega
        · cases hj
      · cases hj
  have hslot : ∀ d ∈ i.slots, look t1.env d = look s.env d := fun d hd => by
    rcases kd.env d with ⟨_, x⟩ | ⟨x, _⟩
    · exact x
    · exact absurd hd (h3 d x)
  have hslotA : ∀ d ∈ i.slots, look t1.addrs d = look s.addrs d := fun d hd => by
    rcases kd.addrs d with ⟨_, x⟩ | ⟨x, _⟩
    · exact x
    · exact absurd hd (h3 d x)
  obtain ⟨t', k2, kp, g1, g2, _, _⟩ := si_pure (t := t1) hp hi hslot hslotA (fun d => by rw [kd.boxes.2]) kd.base.2 hheap
  refine ⟨t1, t', k1, k2, ?_, ?_⟩
  · exact {
      heap := by rw [g1, kd.heap]
      lo := by rw [g2, kd.lo]
      base := by rw [kp.base.2, kd.base.2, kd.base.1, hds.base.1]
      boxes := fun d => by rw [kp.boxes.2, kd.boxes.2, kd.boxes.1, hds.boxes.1]
      env := fun d => by
        rcases kd.env d with ⟨a1, a2⟩ | ⟨a1, a2⟩ <;> rcases kp.env d with ⟨b1, b2⟩ | ⟨b1, b2⟩
        · rw [b2, a2, a1, b1]
        · rw [b2, a1]
        · rw [b2, a2]
        · exact absurd a1 (h2 d b1)
      addrs := fun d => by
        rcases kd.addrs d with ⟨a1, a2⟩ | ⟨a1, a2⟩ <;> rcases kp.addrs d with ⟨b1, b2⟩ | ⟨b1, b2⟩
        · rw [b2, a2, a1, b1]
        · rw [b2, a1]
        · rw [b2, a2]
        · exact absurd a1 (h2 d b1) }
  · have hU : ∀ d ∈ i.op.uses, d ∈ i.slots := fun d hd => by simp [SI.slots, hd]
    have hev : ∀ x : SX, (∀ d ∈ x.slots, d ∈ i.op.uses) → t1.eval x = s.eval x := fun x hx => by
      cases x with
      | slot d => exact hslot d (hU d (hx d (by simp [SX.slots])))
      | lit v => rfl
    cases hop : i.op <;> rw [hop] at hev <;> try rfl
    all_goals
      simp only [topOf]
      rw [hev]
      intro d hd
      simp [SOp.uses, hd]
end

/-! ### All orders -/

section
variable (call : Call) (ops : Array Oper) (sis : List SI) (anc : Nat → List Nat) (F : St → Prop)

def AAny : Nat → Array Bool → List (Nat × Nat) → St → Prop
  | 0, listed, _, s => Region.ready .any ops listed = [] ∧ F s
  | n + 1, listed, C, s => (Region.ready .any ops listed = [] → F s) ∧
    ∀ j ∈ Region.ready .any ops listed, ∃ sj s', sis[j]? = some sj ∧ stepD call (anc j) C sj s = some s' ∧ AAny n (listed.setIfInBounds j true) C s'
end

section
variable {call : Call} {ops : Array Oper} {sis : List SI} {anc : Nat → List Nat} {F : St → Prop}

theorem AAny.sub : ∀ {n : Nat} {listed : Array Bool} {C C' : List (Nat × Nat)} {s : St}, (∀ p ∈ C', p ∈ C) → AAny call ops sis anc F n listed C s → AAny call ops sis anc F n listed C' s
  | 0, _, _, _, _, _, h => h
  | n + 1, _, _, _, _, hs, h => ⟨h.1, fun j hj => by
      obtain ⟨sj, s', h1, h2, h3⟩ := h.2 j hj
      exact ⟨sj, s', h1, stepD_sub hs h2, AAny.sub hs h3⟩⟩

theorem AAny.congr (hw : ∀ (j : Nat) sj, sis[j]? = some sj → writesB sj.op = false) (hF : ∀ s t, Eqv s t → F s → F t) : ∀ {n : Nat} {listed : Array Bool} {C : List (Nat × Nat)} {s t : St}, Eqv s t → AAny call ops sis anc F n listed C s → AAny call ops sis anc F n listed C t
  | 0, _, _, _, _, he, h => ⟨h.1, hF _ _ he h.2⟩
  | n + 1, _, _, _, _, he, h => ⟨fun hr => hF _ _ he (h.1 hr), fun j hj => by
      obtain ⟨sj, s', h1, h2, h3⟩ := h.2 j hj
      obtain ⟨t', k1, kd⟩ := stepD_delta (hw j sj h1) (he.alike _ _) h2
      exact ⟨sj, t', h1, k1, AAny.congr hw hF (eqv_of_delta he kd) h3⟩⟩

theorem AAny.done {listed : Array Bool} {C : List (Nat × Nat)} {s : St} (hr : Region.ready .any ops listed = []) (h : F s) : ∀ n, AAny call ops sis anc F n listed C s
  | 0 => ⟨hr, h⟩
  | _ + 1 => ⟨fun _ => h, by rw [hr]; simp⟩

/-- What has come up has all come up that was ahead of it. -/
def Down (ops : Array Oper) (listed : Array Bool) : Prop :=
  ∀ (j : Nat) o, ops[j]? = some o → listed.getD j false = true → ∀ e ∈ o.after, Region.binds .any e = true → listed.getD e.on false = true

theorem Down.set {listed : Array Bool} (h : Down ops listed) {i : Nat} (hi : i ∈ Region.ready .any ops listed) : Down ops (listed.setIfInBounds i true) := by
  intro j o ho hj e he hb
  obtain ⟨_, oi, hoi, hall⟩ := mem_ready.1 hi
  by_cases hji : i = j
  · subst hji
    rw [ho] at hoi
    cases hoi
    exact getD_set_true (hall e he hb)
  · rw [getD_set_ne false hji] at hj
    exact getD_set_true (h j o ho hj e he hb)

/-- The numbers that come ahead of each one. -/
inductive Ahead (ops : Array Oper) : Nat → Nat → Prop
  | edge {j : Nat} {o : Oper} {e : Edge} (ho : ops[j]? = some o) (he : e ∈ o.after) (hb : Region.binds .any e = true) : Ahead ops e.on j
  | step {k j : Nat} {o : Oper} {e : Edge} (ho : ops[j]? = some o) (he : e ∈ o.after) (hb : Region.binds .any e = true) (h : Ahead ops k e.on) : Ahead ops k j

theorem getD_lt {listed : Array Bool} {j : Nat} (h : listed.getD j false = true) : ∃ h : j < listed.size, listed[j] = true := by
  rcases Nat.lt_or_ge j listed.size with hl | hl
  · exact ⟨hl, by simpa [hl] using h⟩
  · simp [Array.getElem?_eq_none hl] at h

theorem Ahead.listed {listed : Array Bool} (hd : Down ops listed) {k j : Nat} (h : Ahead ops k j) (hj : listed.getD j false = true) : listed.getD k false = true := by
  induction h with
  | edge ho he hb => exact hd _ _ ho hj _ he hb
  | step ho he hb _ ih => exact ih (hd _ _ ho hj _ he hb)

theorem Ahead.of_ready {listed : Array Bool} (hd : Down ops listed) {k j : Nat} (h : Ahead ops k j) (hj : j ∈ Region.ready .any ops listed) : listed.getD k false = true := by
  obtain ⟨_, o, ho, hall⟩ := mem_ready.1 hj
  cases h with
  | edge ho' he hb => rw [ho] at ho'; cases ho'; exact hall _ he hb
  | step ho' he hb h => rw [ho] at ho'; cases ho'; exact h.listed hd (hall _ he hb)

def freeS (ops : Array Oper) (sis : List SI) (listed : Array Bool) (i : Nat) (si : SI) : Bool :=
  (List.range ops.size).all fun j => j == i || listed.getD j true || match ops[j]?, sis[j]? with
    | some oj, some sj => oj.after.any (fun e => Region.binds .any e && e.on == i) || apartS si sj
    | _, _ => false

theorem freeS_spec {i : Nat} {si : SI} {listed : Array Bool} (h : freeS ops sis listed i si = true) (j : Nat) (oj : Oper) (sj : SI)
    (hj : ops[j]? = some oj) (hsj : sis[j]? = some sj) (hne : j ≠ i) (hun : listed.getD j true = false) (hno : ∀ e ∈ oj.after, Region.binds .any e = true → e.on ≠ i) : apartS si sj = true := by
  simp only [freeS, List.all_eq_true, List.mem_range] at h
  have h1 := h j (Array.getElem?_eq_some_iff.1 hj).1
  simp only [hj, hsj, Bool.or_eq_true, beq_iff_eq, hne, false_or, hun, Bool.false_eq_true] at h1
  rcases h1 with h1 | h1
  · obtain ⟨e, he, hb⟩ := Array.any_eq_true'.1 h1
    simp only [Bool.and_eq_true, beq_iff_eq] at hb
    exact absurd hb.2 (hno e he hb.1)
  · exact h1

theorem freeS_mono {i j : Nat} {si : SI} {listed : Array Bool} (h : freeS ops sis listed i si = true) : freeS ops sis (listed.setIfInBounds j true) i si = true := by
  simp only [freeS, List.all_eq_true, List.mem_range] at h ⊢
  intro k hk
  have := h k hk
  by_cases e : j = k
  · subst e
    simp only [Bool.or_eq_true] at this ⊢
    left; right
    by_cases hl : j < listed.size
    · simp [hl]
    · simp [Array.getElem?_eq_none (Nat.le_of_not_lt hl)]
  · rw [getD_set_ne true e]; exact this

/-- **A pure operation may be taken first.** -/
theorem AAny.take (hc : CallLeft call) (hw : ∀ (j : Nat) sj, sis[j]? = some sj → writesB sj.op = false) (hF : ∀ s t, Eqv s t → F s → F t) (hanc : ∀ k j, k ∈ anc j → Ahead ops k j)
    {i T : Nat} {si : SI} (hi : sis[i]? = some si) (hp : isPure si.op = true) : ∀ (n : Nat) (listed : Array Bool) (C : List (Nat × Nat)) (s s' : St),
      Down ops listed → freeS ops sis listed i si = true → i ∈ Region.ready .any ops listed → stepSI call si s = some s' → topOf s si.op ≤ T →
      AAny call ops sis anc F n (listed.setIfInBounds i true) ((i, T) :: C) s' → AAny call ops sis anc F (n + 1) listed C s := by
  intro n
  induction n with
  | zero =>
    intro listed C s s' hd hfree hr hs hT H
    refine ⟨fun h => (by rw [h] at hr; cases hr), fun j hj => ?_⟩
    by_cases hji : j = i
    · subst hji
      exact ⟨si, s', hi, by unfold stepD; rw [if_pos hp]; exact hs, H.sub fun p hp => List.mem_cons_of_mem _ hp⟩
    · have := ready_mono hj hji
      rw [H.1] at this
      cases this
  | succ n ih =>
    intro listed C s s' hd hfree hr hs hT H
    refine ⟨fun h => (by rw [h] at hr; cases hr), fun j hj => ?_⟩
    by_cases hji : j = i
    · subst hji
      exact ⟨si, s', hi, by unfold stepD; rw [if_pos hp]; exact hs, H.sub fun p hp => List.mem_cons_of_mem _ hp⟩
    · obtain ⟨sj, s1, hsj, hst, H1⟩ := H.2 j (ready_mono hj hji)
      obtain ⟨hjun, oj, hoj, hall⟩ := mem_ready.1 hj
      have hiun : listed.getD i false = false := by
        have h0 := (mem_ready.1 hr).1
        rcases Nat.lt_or_ge i listed.size with h' | h'
        · simpa [h'] using h0
        · simp [Array.getElem?_eq_none h']
      have hnot : ∀ e ∈ oj.after, Region.binds .any e = true → e.on ≠ i := fun e he hb heq => by
        have h1 := hall e he hb
        rw [heq, hiun] at h1
        cases h1
      have hap := freeS_spec hfree j oj sj hoj hsj hji hjun hnot
      have hna : i ∉ anc j := fun hm => by
        have := (hanc i j hm).of_ready hd hj
        rw [hiun] at this
        cases this
      obtain ⟨t1, t', k1, k2, ke, kt⟩ := stepD_comm hc hp (hw j sj hsj) hap hna hs hT hst
      refine ⟨sj, t1, hsj, k1, ih _ C t1 t' (hd.set hj) (freeS_mono hfree) (ready_mono hr (Ne.symm hji)) k2 (by rw [kt]; exact hT) ?_⟩
      rw [Array.setIfInBounds_comm _ _ hji]
      exact H1.congr hw hF ke
end
end Go.AI

/- From the model's control to the interpreter's, and that it is sound. -/
set_option linter.unusedVariables false
namespace Go.AI
open Go

section
variable (P : Program) (h : Hints) (ntmps : Nat)

def cSI (ops : Array Oper) (o : Oper) : Option SI :=
  match cop P h ntmps o with
  | some op => match o.guard with
    | none => some { dst := o.dst, guard := none, op }
    | some (j, want) => match (ops[j]?).bind (·.dst) with
      | some t => if isA h t then none else
          match o.dst with
          | some d => if h.boxes.contains d || ntmps ≤ d then none else some { dst := some d, guard := some (t, want), op }
          | none => some { dst := none, guard := some (t, want), op }
      | none => none
  | none => none

def cOps (ops : Array Oper) : Option (List SI) := mapO (cSI P h ntmps ops) ops.toList

def postOf (id : Nat) : List (Nat × List Nat × List Nat × List Nat) → List Nat × List Nat × List Nat
  | [] => ([], [], [])
  | (k, p) :: r => if k = id then p else postOf id r

/-- What comes ahead of each operation in every order, for the first so many. -/
def addNew (l : List Nat) (x : Nat) : List Nat := if l.contains x then l else x :: l

def ancTab (ops : Array Oper) : Nat → List (List Nat)
  | 0 => []
  | n + 1 => ancTab ops n ++ [match ops[n]? with
    | some o => ((o.after.toList.filter (Region.binds .any)).flatMap fun e => e.on :: ((ancTab ops n)[e.on]?).getD []).foldl addNew []
    | none => []]

def ancOf (tab : List (List Nat)) (j : Nat) : List Nat := (tab[j]?).getD []

/-- The tree of a region's orders, from one of them. -/
def cTree (ops : Array Oper) (sis : List SI) (tab : List (List Nat)) : Nat → Array Bool → List Nat → Option STree
  | 0, listed, _ => if (Region.ready .any ops listed).isEmpty then some .done else none
  | n + 1, listed, order => match order with
    | [] => if (Region.ready .any ops listed).isEmpty then some .done else none
    | i :: rest => match sis[i]? with
      | none => none
      | some si =>
        if isPure si.op then
          if freeS ops sis listed i si && (Region.ready .any ops listed).contains i then (cTree ops sis tab n (listed.setIfInBounds i true) rest).map (.take i si) else none
        else match Region.ready .any ops listed with
          | [k] => if k = i then (cTree ops sis tab n (listed.setIfInBounds i true) rest).map (.only (ancOf tab i) si) else none
          | [k, l] => if k = i then cFork ops sis tab n listed i si rest l (cTree ops sis tab n) else if l = i then cFork ops sis tab n listed i si rest k (cTree ops sis tab n) else none
          | _ => none
where
  cFork (ops : Array Oper) (sis : List SI) (tab : List (List Nat)) (n : Nat) (listed : Array Bool) (i : Nat) (si : SI) (rest : List Nat) (j : Nat) (go : Array Bool → List Nat → Option STree) : Option STree :=
    match sis[j]? with
    | some sj => if isPure sj.op then none else
      match go (listed.setIfInBounds i true) rest, go (listed.setIfInBounds j true) (i :: rest.erase j) with
      | some t, some t' => some (.fork (ancOf tab i) si t (ancOf tab j) sj t')
      | _, _ => none
    | none => none

def orderOf (id : Nat) (n : Nat) : List (Nat × List Nat) → List Nat
  | [] => List.range n
  | (k, l) :: r => if k = id then l else orderOf id n r

def cCode : Code → Option SCode
  | .skip => some .skip
  | .label _ => some .skip
  | .region id ops false => match cOps P h ntmps ops with
    | some is => let p := postOf id h.post
      if p.2.1.all (isA h) then some (.region is p.1 p.2.1 p.2.2) else none
    | none => none
  | .region id ops true => match cOps P h ntmps ops with
    | some sis => let p := postOf id h.post
      if P.follows .mixedOrders && sis.all (fun i => !writesB i.op) && p.2.1.all (isA h) then
        (cTree ops sis (ancTab ops ops.size) ops.size (Array.replicate ops.size false) (orderOf id ops.size h.order)).map (.draw · p.1 p.2.1 p.2.2) else none
    | none => none
  | .seq a b => match cCode a, cCode b with
    | some a, some b => some (.seq a b)
    | _, _ => none
  | .cond x a b => match cX h x, cCode a, cCode b with
    | some x, some a, some b => some (.cond x a b)
    | _, _, _ => none
  | .block id b => (cCode b).map (.block id)
  | .loop b => (cCode b).map .loop
  | .exit id => some (.exit id)
  | .ret => some .ret
  | _ => none
end

section
variable {c : Ctx} {o : Oper} {ops : Array Oper} {call : Call}

/-- An operation that yields no address names a value's slot. -/
theorem cop_dst {op : SOp} (h : cop c.P c.h c.ntmps o = some op) (hu : undefV op ≠ none) : DstOk c o := by
  unfold cop at h
  simp only at h
  cases hop : o.op <;> simp only [hop] at h
  case makeMap t r =>
    cases r <;> simp only at h
    · exact (valueOp_ok h).2
    · cases h
  all_goals (repeat' split at h)
  all_goals first
    | (cases h; done)
    | exact (valueOp_ok h).2
    | (obtain ⟨h1, _⟩ := addrOp_ok h; cases h1; exact absurd rfl hu)
    | (unfold boxOp at h; split at h <;> cases h; exact absurd rfl hu)
    | skip


theorem yielded_none {a : Act} {j t : Nat} {cs : Array Value} (ht : (ops[j]?).bind (·.dst) = some t) (hv : a.tmps.getD t undef = .tuple cs) : yielded ops a.tmps j = none := by
  unfold yielded
  rw [ht]
  simp only [Option.bind_some]
  rw [Array.getD_eq_getD_getElem?] at hv
  cases hx : a.tmps[t]? with
  | none => rfl
  | some v => rw [hx] at hv; simp only [Option.getD_some] at hv; rw [hv]

theorem yielded_of {a : Act} {j t : Nat} {b : Bool} (ht : (ops[j]?).bind (·.dst) = some t) (hv : a.tmps.getD t undef = .bool b) : yielded ops a.tmps j = some b := by
  unfold yielded
  rw [ht]
  simp only [Option.bind_some]
  have hlt : t < a.tmps.size := by
    rcases Nat.lt_or_ge t a.tmps.size with h | h
    · exact h
    · rw [Array.getD_eq_getD_getElem?, Array.getElem?_eq_none h] at hv; cases hv
  rw [Array.getD_eq_getD_getElem?, Array.getElem?_eq_getElem hlt] at hv
  rw [Array.getElem?_eq_getElem hlt]
  simp only [Option.getD_some] at hv
  rw [hv]

/-- One operation of a region, guard and all. -/
def StepTo (P : Program) (ops : Array Oper) (o : Oper) (Q : Go.Exit → Act → World → Prop) (K : Act → World → Prop) (a : Act) (w : World) : Prop :=
  if Region.wanted o (yielded ops a.tmps) then o.wp P a w K Q else K (a.put o.dst undef) w

theorem sop_lo {op : SOp} {s s' : St} {B : Nat → Nat} : exempt op s B = exempt op s B := rfl

/-- Blocks of this call that stood before: none but the call's own may change. -/
def own (c : Ctx) (k : Nat) : Prop := c.N1 ≤ k

/-- The start of a call: what is known of the world's own blocks. -/
structure Begun (c : Ctx) (w0 : World) (M0 : Mem) : Prop where
  gl : Glob c.G c.N0 w0
  ge : ∀ b, M0.live b → c.N0 ≤ (M0.β b).1
  N0 : c.N0 ≤ c.N1

theorem Begun.glob {w0 w : World} {M0 M : Mem} {lo : Nat} (h : Begun c w0 M0) (hf : Fr (own c) w0 M0 lo w M) : Glob c.G c.N0 w :=
  h.gl.fr h.ge (fun k (hk : c.N1 ≤ k) => Nat.le_trans h.N0 hk) hf

theorem exempt_own {s : St} {a : Act} {w : World} {M : Mem} {B : Nat → Nat} (h : SR c s a w M B) {op : SOp} {k : Nat} (hk : exempt op s B k) : own c k := by
  obtain ⟨_, d, cells, hd, e⟩ := hk
  exact e ▸ (h.box d cells hd).ge

theorem si_sound (hc : CallOK c.P c.G call) {si : SI} (hsi : cSI c.P c.h c.ntmps ops o = some si) {s s' : St} {a : Act} {w : World} {M : Mem} {B : Nat → Nat} (h : SR c s a w M B) (hgl : Glob c.G c.N0 w)
    (hs : stepSI call si s = some s') {K : Act → World → Prop} {Q : Go.Exit → Act → World → Prop} (hq : True)
    (hK : ∀ a' w' M' B', SR c s' a' w' M' B' → Fr (own c) w M s'.lo w' M' → s'.lo ≤ s.lo → K a' w') : StepTo c.P ops o Q K a w := by
  unfold cSI at hsi
  split at hsi
  · rename_i op hop
    have hrun : ∀ dst, dst = o.dst → step call op dst s = some s' → o.wp c.P a w K Q := fun dst e hst => by
      subst e
      exact call_sound hc hop s s' a w M B h hgl hst K Q hq fun a' w' M' B' h1 h2 h3 => hK a' w' M' B' h1 (h2.mono (Nat.le_refl _) fun k _ hk => exempt_own h hk) h3
    split at hsi
    · rename_i hg
      cases hsi
      simp only [stepSI, wantedS] at hs
      unfold StepTo
      have : Region.wanted o (yielded ops a.tmps) = true := by simp [Region.wanted, hg]
      rw [if_pos this]
      exact hrun _ rfl hs
    · rename_i j want hg
      split at hsi
      · rename_i t ht
        split at hsi
        · cases hsi
        · rename_i hnA
          have key : ∀ dst, si = { dst := dst, guard := some (t, want), op := op } → dst = o.dst →
              (∀ d, dst = some d → c.h.boxes.contains d = false ∧ d < c.ntmps) → StepTo c.P ops o Q K a w := fun dst e1 e2 e3 => by
            subst e1
            have hundef : ∀ d, dst = some d → ∀ x, undefV op = some x → isA c.h d = false ∧ VR w (XX c.Y M s.boxes B) (some M) undef x := fun d hd x hx => by
              refine ⟨(cop_dst hop (by rw [hx]; exact fun h => by cases h) d (by rw [← e2, hd])).1, ?_⟩
              have : x = .tup [] := by cases op <;> simp only [undefV] at hx <;> first | (cases hx; rfl) | cases hx
              subst this
              exact .tup #[] [] rfl fun k v a h => by simp at h
            simp only [stepSI, wantedS] at hs
            split at hs
            · rename_i hw
              split at hw
              · rename_i b hb
                simp only [Option.some.injEq] at hw
                have hv := h.env t _ hb
                have hbv : a.tmps.getD t undef = .bool b := by generalize a.tmps.getD t undef = v at hv; cases hv; rfl
                have hy := yielded_of (ops := ops) ht hbv
                unfold StepTo
                have : Region.wanted o (yielded ops a.tmps) = true := by simp [Region.wanted, hg, hy]; simpa using hw
                rw [if_pos this]
                exact hrun _ e2 hs
              · cases hw
              · cases hw
            · rename_i hw
              have hnot : Region.wanted o (yielded ops a.tmps) = false := by
                split at hw
                · rename_i b hb
                  simp only [Option.some.injEq] at hw
                  have hv := h.env t _ hb
                  have hbv : a.tmps.getD t undef = .bool b := by generalize a.tmps.getD t undef = v at hv; cases hv; rfl
                  have hy := yielded_of (ops := ops) ht hbv
                  simp [Region.wanted, hg, hy]; simpa using hw
                · rename_i hb
                  have hv := h.env t _ hb
                  generalize hvx : a.tmps.getD t undef = v at hv
                  cases hv
                  have hy := yielded_none (ops := ops) ht hvx
                  simp [Region.wanted, hg, hy]
                · cases hw
              unfold StepTo
              rw [hnot]
              simp only [Bool.false_eq_true, if_false]
              cases hs
              rw [← e2]
              cases dst with
              | none => exact hK _ _ _ _ h (Fr.refl _ _ _ _) (Nat.le_refl _)
              | some d => exact hK _ _ _ _ (h.undef (e3 d rfl).1 (e3 d rfl).2 _ (hundef d rfl)) (Fr.refl _ _ _ _) (Nat.le_refl _)
            · cases hs
          split at hsi
          · rename_i d hd
            split at hsi
            · cases hsi
            · rename_i hn
              cases hsi
              simp only [Bool.or_eq_true, decide_eq_true_eq, not_or, Bool.not_eq_true] at hn
              exact key _ rfl hd.symm fun d' e => by cases e; exact ⟨hn.1, Nat.lt_of_not_le hn.2⟩
          · rename_i hd
            cases hsi
            exact key _ rfl hd.symm fun d' e => by cases e
      · cases hsi
  · cases hsi

/-- Operations in the order of the text. -/
theorem ops_sound (hc : CallOK c.P c.G call) (ops : Array Oper) {Q : Go.Exit → Act → World → Prop} (hq : True) {w0 : World} {M0 : Mem} (hb0 : Begun c w0 M0) : ∀ (n : Nat) (is : List SI) {s s' : St} {a : Act} {w : World} {M : Mem} {B : Nat → Nat},
    n + is.length = ops.size → mapO (cSI c.P c.h c.ntmps ops) (ops.toList.drop n) = some is → SR c s a w M B → Fr (own c) w0 M0 s.lo w M → stepAll call is s = some s' →
    (∀ a' w' M' B', SR c s' a' w' M' B' → Fr (own c) w0 M0 s'.lo w' M' → s'.lo ≤ s.lo → Q .normal a' w') → wpOps c.P ops Q (List.range' n is.length) a w
  | n, [], s, s', a, w, M, B, hn, hm, h, hf, hs, hQ => by
    cases hs
    exact hQ a w M B h hf (Nat.le_refl _)
  | n, i :: r, s, s', a, w, M, B, hn, hm, h, hf, hs, hQ => by
    simp only [List.length_cons] at hn
    have hlt : n < ops.size := by omega
    have hd : ops.toList.drop n = ops[n] :: ops.toList.drop (n + 1) := by
      rw [List.drop_eq_getElem_cons (by simpa using hlt)]; simp
    rw [hd] at hm
    simp only [mapO] at hm
    split at hm
    · rename_i si hsi
      split at hm
      · rename_i r' hr'
        cases hm
        simp only [stepAll] at hs
        split at hs
        · rename_i s1 hs1
          simp only [List.length_cons, List.range'_succ, wpOps, Array.getElem?_eq_getElem hlt]
          have key := si_sound (ops := ops) (Q := Q) hc hsi h (hb0.glob hf) hs1 (K := wpOps c.P ops Q (List.range' (n + 1) r.length)) hq fun a' w' M' B' h1 h2 h3 =>
            ops_sound hc ops hq hb0 (n + 1) r (by omega) hr' h1 ((hf.trans h2).mono (by omega) fun _ _ h => h) hs fun a2 w2 M2 B2 g1 g2 g3 => hQ a2 w2 M2 B2 g1 g2 (by omega)
          unfold StepTo at key
          split
          · rename_i hw; rw [if_pos hw] at key; exact .inl key
          · rename_i hw; rw [if_neg hw] at key; exact key
        · cases hs
      · cases hm
    · cases hm

theorem mem_addNew {l : List Nat} {x y : Nat} : y ∈ addNew l x ↔ y = x ∨ y ∈ l := by
  unfold addNew
  split
  · rename_i h
    simp only [List.contains_iff_mem] at h
    constructor
    · exact .inr
    · rintro (rfl | h') <;> assumption
  · simp

theorem mem_foldl_addNew : ∀ {xs l : List Nat} {y : Nat}, y ∈ xs.foldl addNew l ↔ y ∈ xs ∨ y ∈ l
  | [], l, y => by simp
  | x :: xs, l, y => by
    simp only [List.foldl_cons]
    rw [mem_foldl_addNew, mem_addNew]
    simp only [List.mem_cons]
    constructor
    · rintro (h | h | h)
      · exact .inl (.inr h)
      · exact .inl (.inl h)
      · exact .inr h
    · rintro ((h | h) | h)
      · exact .inr (.inl h)
      · exact .inl h
      · exact .inr (.inr h)

theorem ancTab_ok : ∀ (n : Nat) (k j : Nat), k ∈ ((ancTab ops n)[j]?).getD [] → Ahead ops k j
  | 0, k, j, h => by simp [ancTab] at h
  | n + 1, k, j, h => by
    have hlen : (ancTab ops n).length = n := by
      clear h
      induction n with
      | zero => rfl
      | succ n ih => simp [ancTab, ih]
    simp only [ancTab] at h
    rw [List.getElem?_append] at h
    split at h
    · exact ancTab_ok n k j h
    · rename_i hj
      cases hjn : j - (ancTab ops n).length with
      | zero =>
        rw [hjn] at h
        have hj' : j = n := by omega
        subst hj'
        simp only [List.getElem?_cons_zero, Option.getD_some] at h
        split at h
        · rename_i o ho
          rw [mem_foldl_addNew] at h
          rcases h with h | h
          · rw [List.mem_flatMap] at h
            obtain ⟨e, he, hk⟩ := h
            rw [List.mem_filter] at he
            rcases List.mem_cons.1 hk with rfl | hk
            · exact .edge ho (by simpa using he.1) he.2
            · exact .step ho (by simpa using he.1) he.2 (ancTab_ok _ k e.on hk)
          · cases h
        · cases h
      | succ m => rw [hjn] at h; simp at h

theorem freeze_eqv {s t s1 : St} {d : Nat} (he : Eqv s t) (h : freeze s d = some s1) : ∃ t1, freeze t d = some t1 ∧ Eqv s1 t1 := by
  have hput : ∀ {u v : St} (d : Nat) (o : Option AV), Eqv u v → Eqv (u.put (some d) o) (v.put (some d) o) := fun d o e =>
    { e with env := fun k => by simp only [St.put, look_cons]; split; rfl; exact e.env k }
  unfold freeze at h ⊢
  rw [he.env d, he.heap, he.base, he.lo]
  split at h
  · split at h
    · cases h
    · rename_i hb
      rw [if_neg hb]
      split at h
      · split at h
        · rename_i hle
          rw [if_pos hle]
          split at h
          · cases h
            exact ⟨_, rfl, hput _ _ { he with heap := rfl, lo := rfl, base := rfl }⟩
          · cases h
        · cases h
      · cases h
  · split at h
    · cases h
    · rename_i hb
      rw [if_neg hb]
      split at h
      · split at h
        · split at h
          · cases h
            exact ⟨_, rfl, hput _ _ { he with heap := rfl, lo := rfl, base := rfl }⟩
          · cases h
        · cases h
      · cases h
  · cases h; exact ⟨_, rfl, hput _ _ he⟩
  · cases h; exact ⟨_, rfl, hput _ _ he⟩
  · cases h

theorem freezeAll_eqv : ∀ {l : List Nat} {s t s1 : St}, Eqv s t → freezeAll l s = some s1 → ∃ t1, freezeAll l t = some t1 ∧ Eqv s1 t1
  | [], s, t, s1, he, h => by cases h; exact ⟨t, rfl, he⟩
  | d :: r, s, t, s1, he, h => by
    simp only [freezeAll] at h ⊢
    split at h
    · rename_i x hx
      obtain ⟨y, hy, hxy⟩ := freeze_eqv he hx
      rw [hy]
      exact freezeAll_eqv hxy h
    · cases h

theorem endRegion_eqv {env boxes frz : List Nat} {s t r : St} (he : Eqv s t) (h : endRegion env boxes frz s = some r) : endRegion env boxes frz t = some r := by
  unfold endRegion at h ⊢
  split at h
  · rename_i x hx
    obtain ⟨y, hy, hxy⟩ := freezeAll_eqv he hx
    rw [hy]
    cases h
    have h1 : (env.map fun d => (d, look y.env d)) = env.map fun d => (d, look x.env d) := List.map_congr_left fun d _ => by rw [hxy.env]
    have h2 : (boxes.map fun d => (d, look y.boxes d)) = boxes.map fun d => (d, look x.boxes d) := List.map_congr_left fun d _ => by rw [hxy.boxes]
    simp only [restrict, Option.some.injEq]
    rw [h1, h2, hxy.heap, hxy.lo, hxy.base]
  · cases h

theorem tree_any (hl : CallLeft call) {sis : List SI} (hw : ∀ (j : Nat) sj, sis[j]? = some sj → writesB sj.op = false) {fin : St → Option St} (hF : ∀ s t r, Eqv s t → fin s = some r → fin t = some r) {r : St} :
    ∀ (n : Nat) (listed : Array Bool) (order : List Nat) (t : STree) (C : List (Nat × Nat)) (s : St), cTree ops sis (ancTab ops ops.size) n listed order = some t → Down ops listed → stepTree call fin C t s = some r →
      AAny call ops sis (ancOf (ancTab ops ops.size)) (fun u => fin u = some r) n listed C s := by
  intro n
  induction n with
  | zero =>
    intro listed order t C s ht hd hs
    simp only [cTree] at ht
    split at ht
    · rename_i he
      cases ht
      exact ⟨by simpa using he, hs⟩
    · cases ht
  | succ n ih =>
    intro listed order t C s ht hd hs
    simp only [cTree] at ht
    split at ht
    · split at ht
      · rename_i he
        cases ht
        exact AAny.done (by simpa using he) hs _
      · cases ht
    · rename_i i rest
      split at ht
      · cases ht
      · rename_i si hsi
        split at ht
        · rename_i hp
          split at ht
          · rename_i hfr
            obtain ⟨k, hk, rfl⟩ := of_map ht
            simp only [Bool.and_eq_true, List.contains_iff_mem] at hfr
            simp only [stepTree] at hs
            split at hs
            · rename_i s1 hs1
              exact AAny.take hl hw (fun s t he h => hF s t r he h) (fun k j hk => ancTab_ok _ k j hk) hsi hp n listed C s s1 hd hfr.1 hfr.2 hs1 (Nat.le_refl _) (ih _ _ k _ _ hk (hd.set hfr.2) hs)
            · cases hs
          · cases ht
        · rename_i hp
          have hD : ∀ {anc : List Nat} {C : List (Nat × Nat)} {sj : SI} {s s1 : St}, ¬ isPure sj.op = true → stepG call C anc sj s = some s1 → stepD call anc C sj s = some s1 := fun hp h => by
            unfold stepD; rw [if_neg hp]; exact h
          have hfork : ∀ j, cTree.cFork ops sis (ancTab ops ops.size) n listed i si rest j (cTree ops sis (ancTab ops ops.size) n) = some t → (∀ k, k ∈ Region.ready .any ops listed ↔ k = i ∨ k = j) →
              AAny call ops sis (ancOf (ancTab ops ops.size)) (fun u => fin u = some r) (n + 1) listed C s := fun j hj hr => by
            unfold cTree.cFork at hj
            split at hj
            · rename_i sj hsj
              split at hj
              · cases hj
              · rename_i hpj
                split at hj
                · rename_i t1 t2 h1 h2
                  cases hj
                  simp only [stepTree] at hs
                  split at hs
                  · rename_i s1 s2 hs1 hs2
                    split at hs
                    · rename_i r1 r2 hr1 hr2
                      split at hs
                      · rename_i hsame
                        cases hs
                        have := St.eq_of_same hsame
                        subst this
                        refine ⟨fun h => ?_, fun k hk => ?_⟩
                        · have := (hr i).2 (.inl rfl)
                          rw [h] at this; cases this
                        · rcases (hr k).1 hk with rfl | rfl
                          · exact ⟨si, s1, hsi, hD hp hs1, ih _ _ t1 _ _ h1 (hd.set hk) hr1⟩
                          · exact ⟨sj, s2, hsj, hD hpj hs2, ih _ _ t2 _ _ h2 (hd.set hk) hr2⟩
                      · cases hs
                    · cases hs
                  · cases hs
                · cases hj
            · cases hj
          split at ht
          · rename_i k hr
            split at ht
            · rename_i e
              subst e
              obtain ⟨k', hk', rfl⟩ := of_map ht
              simp only [stepTree] at hs
              split at hs
              · rename_i s1 hs1
                refine ⟨fun h => (by rw [h] at hr; cases hr), fun j hj => ?_⟩
                have hjk : j = k := by rw [hr] at hj; simpa using hj
                subst hjk
                exact ⟨si, s1, hsi, hD hp hs1, ih _ _ k' _ _ hk' (hd.set hj) hs⟩
              · cases hs
            · cases ht
          · rename_i k l hr
            split at ht
            · rename_i e
              subst e
              exact hfork l ht fun j => by rw [hr]; simp
            · split at ht
              · rename_i e
                subst e
                exact hfork k ht fun j => by rw [hr]; simp [or_comm]
              · cases ht
          · cases ht

theorem any_sound (hc : CallOK c.P c.G call) {sis : List SI} (hsis : cOps c.P c.h c.ntmps ops = some sis) {anc : Nat → List Nat} {F : St → Prop} {Q : Go.Exit → Act → World → Prop} (hq : True) {w0 : World} {M0 : Mem} (hb0 : Begun c w0 M0) {lo0 : Nat}
    (hQ : ∀ s' a' w' M' B', F s' → SR c s' a' w' M' B' → Fr (own c) w0 M0 s'.lo w' M' → s'.lo ≤ lo0 → Q .normal a' w') : ∀ (n : Nat) (listed : Array Bool) (C : List (Nat × Nat)) (s : St) (a : Act) (w : World) (M : Mem) (B : Nat → Nat),
    SR c s a w M B → Fr (own c) w0 M0 s.lo w M → s.lo ≤ lo0 → AAny call ops sis anc F n listed C s → wpAny c.P .any ops Q n listed a w := by
  obtain ⟨hlen, hget⟩ := mapO_some hsis
  intro n
  induction n with
  | zero => exact fun listed C s a w M B h hf hlo hA => ⟨hA.1, hQ s a w M B hA.2 h hf hlo⟩
  | succ n ih =>
    intro listed C s a w M B h hf hlo hA
    refine ⟨fun hr => hQ s a w M B (hA.1 hr) h hf hlo, fun j hj => ?_⟩
    obtain ⟨sj, s1, hsj, hst, hA1⟩ := hA.2 j hj
    obtain ⟨_, o, ho, _⟩ := mem_ready.1 hj
    have hcsi : cSI c.P c.h c.ntmps ops o = some sj := hget j o sj (by simpa using ho) hsj
    have key : StepTo c.P ops o Q (wpAny c.P .any ops Q n (listed.setIfInBounds j true)) a w := by
      unfold stepD at hst
      split at hst
      · exact si_sound (Q := Q) hc hcsi h (hb0.glob hf) hst hq fun a' w' M' B' h1 h2 h3 => ih _ C s1 a' w' M' B' h1 ((hf.trans h2).mono (by omega) fun _ _ h => h) (by omega) hA1
      · unfold stepG stepLo at hst
        split at hst
        · rename_i x hx
          split at hst
          · cases hst
            refine si_sound (Q := Q) hc hcsi (h.lo s.heap.length (Nat.le_refl _)) (hb0.glob hf) hx hq fun a' w' M' B' h1 h2 h3 => ?_
            exact ih _ C _ a' w' M' B' (h1.lo _ (by have := h1.lole; omega)) ((hf.trans h2).mono (by show min s.lo x.lo ≤ _; omega) fun _ _ h => h) (by show min s.lo x.lo ≤ lo0; omega) hA1
          · cases hst
        · cases hst
    unfold StepTo at key
    unfold wpOp
    rw [ho]
    simp only
    split
    · rename_i hw; rw [if_pos hw] at key; exact .inl key
    · rename_i hw; rw [if_neg hw] at key; exact key

theorem drawn_SR {s : St} {a : Act} {w : World} {M : Mem} {B : Nat → Nat} (h : SR c s a w M B) (n : Nat) : SR c s a { w with drawn := n } M B ∧ Fr (fun _ => False) w M s.lo { w with drawn := n } M := by
  have hfr : Fr (fun _ => False) w M s.lo { w with drawn := n } M := {
    os := rfl
    tape := rfl
    output := rfl
    size := Nat.le_refl _
    keep := fun _ _ _ _ => rfl
    len := Nat.le_refl _
    row := fun b z g es _ hg => ⟨g, es, hg, Nat.le_refl _, fun _ => ⟨rfl, Nat.le_refl _, fun o n ht => there_of_heap rfl ht⟩⟩
    map := fun b kvs _ hg => ⟨⟨kvs, hg⟩, rfl⟩
    live := fun b hb => .inl ⟨b, hb, rfl⟩
    low := fun b _ _ => ⟨rfl, rfl, fun _ => rfl⟩ }
  have hst : Stays w (XX c.Y M s.boxes B) (some M) { w with drawn := n } (XX c.Y M s.boxes B) (some M) :=
    ⟨Nat.le_refl _, fun _ _ h => h, fun _ _ _ => rfl, fun M0 e => by cases e; exact ⟨_, rfl, Nat.le_refl _, hfr.row, hfr.map⟩⟩
  exact ⟨h.world rfl rfl rfl h.heap h.lole hfr {
    row := fun b z g es hg => (h.hr.row b z g es hg).stays hst rfl rfl
    map := fun b kvs hg => (h.hr.map b kvs hg).stays hst rfl rfl
    inj := h.hr.inj
    lt := h.hr.lt
    ge := h.hr.ge }, hfr⟩

/-- What the interpreter's exits are in the model. -/
def toExit : SExit → Go.Exit
  | .normal => .normal
  | .exit id => .exit id
  | .ret => .ret

theorem exec_sound (hc : CallOK c.P c.G call) (hl : CallLeft call) (m : Nat) {w0 : World} {M0 : Mem} (hb0 : Begun c w0 M0) : ∀ (code : Code) (sc : SCode), cCode c.P c.h c.ntmps code = some sc → ∀ {s : St} {e : SExit} {s' : St} {a : Act} {w : World} {M : Mem} {B : Nat → Nat} {Q : Go.Exit → Act → World → Prop},
    SR c s a w M B → Fr (own c) w0 M0 s.lo w M → exec call m sc s = some (e, s') → True →
    (∀ a' w' M' B', SR c s' a' w' M' B' → Fr (own c) w0 M0 s'.lo w' M' → s'.lo ≤ s.lo → Q (toExit e) a' w') → code.wp c.P Q a w := by
  intro code
  induction code with
  | skip =>
    intro sc hcc s e s' a w M B Q h hf hs hq hQ
    simp only [cCode, Option.some.injEq] at hcc; subst hcc
    cases hs
    exact wp_skip (hQ a w M B h hf (Nat.le_refl _))
  | label l =>
    intro sc hcc s e s' a w M B Q h hf hs hq hQ
    simp only [cCode, Option.some.injEq] at hcc; subst hcc
    cases hs
    exact wp_label (hQ a w M B h hf (Nat.le_refl _))
  | ret =>
    intro sc hcc s e s' a w M B Q h hf hs hq hQ
    simp only [cCode, Option.some.injEq] at hcc; subst hcc
    cases hs
    exact wp_ret (hQ a w M B h hf (Nat.le_refl _))
  | exit id =>
    intro sc hcc s e s' a w M B Q h hf hs hq hQ
    simp only [cCode, Option.some.injEq] at hcc; subst hcc
    cases hs
    exact wp_exit (hQ a w M B h hf (Nat.le_refl _))
  | region id ops draw =>
    intro sc hcc s e s' a w M B Q h hf hs hq hQ
    cases draw with
    | true =>
      simp only [cCode] at hcc
      split at hcc
      · rename_i sis hsis
        split at hcc
        · rename_i hchk
          obtain ⟨t, ht, rfl⟩ := of_map hcc
          simp only [Bool.and_eq_true] at hchk
          obtain ⟨⟨hm, hwb⟩, hbx⟩ := hchk
          simp only [exec, Option.map_eq_some_iff, Prod.mk.injEq] at hs
          obtain ⟨r, hr, rfl, rfl⟩ := hs
          refine wp_region_any hm ?_
          have hw : ∀ (j : Nat) sj, sis[j]? = some sj → writesB sj.op = false := fun j sj hj => by
            rw [List.all_eq_true] at hwb
            simpa using hwb sj (List.mem_of_getElem? hj)
          have hd : Down ops (Array.replicate ops.size false) := fun j o _ hj => by
            exfalso
            obtain ⟨h1, h2⟩ := getD_lt hj
            simp at h2
          have hA := tree_any hl hw (fun s t r he h => endRegion_eqv he h) ops.size _ _ t [] s ht hd hr
          obtain ⟨k1, k2⟩ := drawn_SR h (w.drawn + 1)
          refine any_sound hc hsis hq hb0 (w0 := w0) (M0 := M0) (lo0 := s.lo) (fun s1 a' w' M' B' hF h1 h2 h3 => ?_) ops.size _ [] s a _ M B k1 ((hf.trans (k2.mono (Nat.le_refl _) fun _ _ h => h.elim)).mono (by omega) fun _ _ h => h) (Nat.le_refl _) hA
          obtain ⟨M2, g1, g2, g3⟩ := endRegion_sound h1 (by simpa using hbx) hF
          exact hQ a' w' M2 B' g1 ((h2.trans (g2.mono (Nat.le_refl _) fun _ _ h => h.elim)).mono (by omega) fun _ _ h => h) (by omega)
        · cases hcc
      · cases hcc
    | false =>
      simp only [cCode] at hcc
      split at hcc
      · rename_i is his
        split at hcc
        · rename_i hb
          cases hcc
          simp only [exec] at hs
          split at hs
          · rename_i s1 hs1
            simp only [Option.map_eq_some_iff, Prod.mk.injEq] at hs
            obtain ⟨s2, hs2, rfl, rfl⟩ := hs
            refine wp_region ?_
            have hl := (mapO_some his).1
            have hl' : is.length = ops.size := by rw [← hl]; simp
            rw [List.range_eq_range', ← hl']
            refine ops_sound hc ops hq hb0 0 is (by omega) (by simpa [cOps] using his) h hf hs1 fun a' w' M' B' h1 h2 h3 => ?_
            obtain ⟨M2, g1, g2, g3⟩ := endRegion_sound h1 (by simpa using hb) hs2
            exact hQ a' w' M2 B' g1 ((h2.trans (g2.mono (Nat.le_refl _) fun _ _ h => h.elim)).mono (by omega) fun _ _ h => h) (by omega)
          · cases hs
        · cases hcc
      · cases hcc
  | seq x y ihx ihy =>
    intro sc hcc s e s' a w M B Q h hf hs hq hQ
    simp only [cCode] at hcc
    split at hcc
    · rename_i sx sy hx hy
      cases hcc
      simp only [exec] at hs
      refine wp_seq ?_
      split at hs
      · rename_i s1 hs1
        refine ihx sx hx h hf hs1 trivial fun a' w' M' B' h1 h2 h3 => ?_
        exact ihy sy hy h1 h2 hs hq fun a2 w2 M2 B2 g1 g2 g3 => hQ a2 w2 M2 B2 g1 g2 (by omega)
      · rename_i hne
        refine ihx sx hx h hf hs trivial fun a' w' M' B' h1 h2 h3 => ?_
        have := hQ a' w' M' B' h1 h2 h3
        cases e with
        | normal => exact (hne _ hs).elim
        | exit id => exact this
        | ret => exact this
    · cases hcc
  | cond x y z ihy ihz =>
    intro sc hcc s e s' a w M B Q h hf hs hq hQ
    simp only [cCode] at hcc
    split at hcc
    · rename_i sx sy sz hx hy hz
      cases hcc
      simp only [exec] at hs
      split at hs
      · rename_i t ht
        have hv := h.val hx ht
        have hb : a.eval x = .bool t := by generalize a.eval x = v at hv; cases hv; rfl
        refine wp_cond hb ?_
        cases t
        · simp only [Bool.false_eq_true, if_false] at hs ⊢
          exact ihz sz hz h hf hs hq hQ
        · simp only [if_true] at hs ⊢
          exact ihy sy hy h hf hs hq hQ
      · cases hs
    · cases hcc
  | block id b ih =>
    intro sc hcc s e s' a w M B Q h hf hs hq hQ
    simp only [cCode] at hcc
    obtain ⟨sb, hb, rfl⟩ := of_map hcc
    simp only [exec] at hs
    refine wp_block ?_
    have hq' : True := trivial
    split at hs
    · rename_i id' s1 hs1
      split at hs
      · rename_i e1
        cases hs
        refine ih sb hb h hf hs1 hq' fun a' w' M' B' h1 h2 h3 => ?_
        simp only [toExit, Exit.inBlock, e1, if_true]
        exact hQ a' w' M' B' h1 h2 h3
      · rename_i e1
        cases hs
        refine ih sb hb h hf hs1 hq' fun a' w' M' B' h1 h2 h3 => ?_
        simp only [toExit, Exit.inBlock, e1, if_false]
        exact hQ a' w' M' B' h1 h2 h3
    · rename_i hne
      refine ih sb hb h hf hs hq' fun a' w' M' B' h1 h2 h3 => ?_
      have := hQ a' w' M' B' h1 h2 h3
      cases e with
      | normal => exact this
      | exit id' => exact (hne _ _ hs).elim
      | ret => exact this
  | loop b ih =>
    intro sc hcc s e s' a w M B Q h hf hs hq hQ
    simp only [cCode] at hcc
    obtain ⟨sb, hb, rfl⟩ := of_map hcc
    simp only [exec] at hs
    have key : ∀ (n : Nat) {s : St} {a : Act} {w : World} {M : Mem} {B : Nat → Nat}, SR c s a w M B → Fr (own c) w0 M0 s.lo w M → iter (exec call m sb) n s = some (e, s') →
        (∀ a' w' M' B', SR c s' a' w' M' B' → Fr (own c) w0 M0 s'.lo w' M' → s'.lo ≤ s.lo → Q (toExit e) a' w') → Code.rounds c.P b Q n a w := by
      intro n
      induction n with
      | zero => intro s a w M B h hf hs; simp [iter] at hs
      | succ n ihn =>
        intro s a w M B h hf hs hQ
        rw [rounds_succ]
        simp only [iter] at hs
        split at hs
        · rename_i s1 hs1
          refine ih sb hb h hf hs1 trivial fun a' w' M' B' h1 h2 h3 => ?_
          exact ihn h1 h2 hs fun a2 w2 M2 B2 g1 g2 g3 => hQ a2 w2 M2 B2 g1 g2 (by omega)
        · rename_i hne
          refine ih sb hb h hf hs trivial fun a' w' M' B' h1 h2 h3 => ?_
          have := hQ a' w' M' B' h1 h2 h3
          cases e with
          | normal => exact (hne _ hs).elim
          | exit id => exact this
          | ret => exact this
    exact wp_loop_rounds m (key m h hf hs hQ)
  | _ => intro sc hcc; simp [cCode] at hcc
end
end Go.AI

/- Functions: the abstract call is sound. -/
set_option linter.unusedVariables false
namespace Go.AI
open Go

def cRes (P : Program) (h : Hints) : ResultVar → Option SRes
  | .tmp t => if isA h t then none else some (.slot t)
  | .cell a t => match aggOf P t, szOf P t with
    | some agg, some sz => some (if isA h a then .cellA agg sz a else .cell agg sz a)
    | _, _ => none

def cFunc (P : Program) (h : Hints) (f : Nat) : Option SFun :=
  match P.funcs[f]? with
  | some fn => if fn.name == "runtime.NumGoroutine" then none else
    match fn.body with
    | some code => match cCode P h fn.ntmps code, mapO (cRes P h) fn.results.toList with
      | some body, some results => if (h.boxes ++ h.addrs).all (fun d => decide (fn.params.size + fn.nfree ≤ d)) then
          some { np := fn.params.size + fn.nfree, body, results, keep := h.keep } else none
      | _, _ => none
    | none => none
  | none => none

/-- What a text takes to stand in the world's own variables stands there. -/
def GlobsOK (G : Nat → Option (List Value)) (gs : List (Nat × List AV)) : Prop := ∀ g cells, globOf gs g = some cells →
  ∃ vals, G g = some vals ∧ vals.length = cells.length ∧ (∀ a ∈ cells, a.one = true) ∧ ∀ (w : World) (X : Nat → Prop) (k : Nat) v a, vals[k]? = some v → cells[k]? = some a → VR w X none v a

theorem GlobsOK.nil {G : Nat → Option (List Value)} : GlobsOK G [] := fun g cells h => by cases h

def TableOK (P : Program) (G : Nat → Option (List Value)) (F : Nat → Option Spec) : Prop := ∀ f sp, F f = some sp → match sp with
  | .code sf => ∃ h, GlobsOK G h.globals ∧ cFunc P h f = some sf
  | .prim g => ∀ args H r H' lo, g args H = some (r, H', lo) → CallsA P G f args H r H' lo

/-- A call of a function with a body, as the walk has it. -/
def CallsF (P : Program) (G : Nat → Option (List Value)) (f : Nat) (args : List AV) (H : Heap) (r : AV) (H' : Heap) (lo : Nat) : Prop :=
  ∀ (Y : Nat → Prop) (N0 : Nat) (w : World) (β : Nat → Nat × Nat) (vs : Array Value), MemOK G w Y ⟨β, H⟩ N0 → VRs w (LX Y ⟨β, H⟩) (some ⟨β, H⟩) vs.toList args →
    Calls P f vs w fun
      | .returned v, w' => CallPost G Y N0 w ⟨β, H⟩ lo H' r v w'
      | .panicked _, _ => False
      | .outgrown, _ => False

theorem callsA_of_F {P : Program} {G : Nat → Option (List Value)} {f : Nat} {fn : Func} {args : List AV} {H H' : Heap} {r : AV} {lo : Nat} (hf : P.funcs[f]? = some fn) (hn : (fn.name == "runtime.NumGoroutine") = false) (hb : fn.body.isNone = false)
    (h : CallsF P G f args H r H' lo) : CallsA P G f args H r H' lo := fun Y N0 w β vs hm hv o a K Q hq hK => by
  have hrun : (callFunc f vs).run P w = .ok (.enter f vs) w := by
    have h1 : fn.name ≠ "runtime.NumGoroutine" := by simpa using hn
    have h2 : fn.body ≠ none := by intro e; rw [e] at hb; cases hb
    simp [callFunc, hf, h1, h2]
  rw [hrun, Oper.upon_enter]
  refine Calls.mono (h Y N0 w β vs hm hv) fun e w' he => ?_
  cases e with
  | returned v => exact hK v w' he
  | panicked c => exact he.elim
  | outgrown => exact he.elim

section
variable {P : Program} {c : Ctx} {s : St} {a : Act} {w : World} {M : Mem} {B : Nat → Nat}

theorem res_sound (h : SR c s a w M B) {r : ResultVar} {sr : SRes} {av : AV} (hr : cRes c.P c.h r = some sr) (hv : evalRes s sr = some av) :
    ∃ v, (match r with
      | .tmp t => pure (a.tmps.getD t undef)
      | .cell d t => do loadVar t (← asAddr (a.tmps.getD d undef)) : Sem Value).run c.P w = .ok v w ∧ VR w (XX c.Y M s.boxes B) (some M) v av := by
  cases r with
  | tmp t =>
    simp only [cRes] at hr
    split at hr
    · cases hr
    · cases hr
      exact ⟨_, rfl, h.env t av hv⟩
  | cell d t =>
    simp only [cRes] at hr
    split at hr
    · rename_i agg sz hagg hsz
      cases hr
      have conv : ∀ p v, (Instr.loadAt t (.pointer (some p))).run c.P w = .ok v w → (do loadVar t (← asAddr (.pointer (some p))) : Sem Value).run c.P w = .ok v w := fun p v hl => by
        simpa [Instr.loadAt, Instr.sureAddr, asAddr] using hl
      split at hv
      · rename_i hA
        simp only [evalRes] at hv
        split at hv
        · rename_i b off had
          split at hv
          · rename_i cells hbx
            have hb := h.box b cells hbx
            obtain ⟨vals, h1, h2⟩ := hb.ex
            obtain ⟨v, h3, h4⟩ := load_run (P := c.P) h1 h2 hb.one hagg hsz hv
            refine ⟨v, ?_, h4⟩
            simp only
            rw [h.addr d b off cells had hbx]
            rw [Nat.zero_add] at h3
            exact conv _ v h3
          · cases hv
        · cases hv
      · rename_i hA
        simp only [evalRes] at hv
        split at hv
        · rename_i b g i off hd
          have hvd := h.env d _ hd
          split at hv
          · rename_i z es hrow
            have hget : M.H.get b = some (.row z g es) := by rw [h.heap]; exact Heap.row_get hrow
            split at hv
            · rename_i e he
              have hR := h.hr.row b z g es hget
              obtain ⟨vals, h1, h2⟩ := hR.ex
              have hsub := VRs_sub h2 (i * z) z
              rw [flat_elem hR.sz he] at hsub
              obtain ⟨v, h3, h4⟩ := load_run (P := c.P) (rangeAt_sub h1 (i * z) z) hsub (elem_one hR.one he) hagg hsz hv
              refine ⟨v, ?_, h4⟩
              simp only
              generalize a.tmps.getD d undef = u at hvd
              cases hvd with
              | ptr p _ _ _ _ hb hg hp =>
                rw [hp z es hget]
                exact conv _ v h3
            · cases hv
          · cases hv
        · cases hv
    · cases hr

theorem results_mapM {f : ResultVar → Sem Value} {m : Option Mem} {X : Nat → Prop} : ∀ {rs : List ResultVar} {avs : List AV},
    rs.length = avs.length → (∀ (k : Nat) r av, rs[k]? = some r → avs[k]? = some av → ∃ v, (f r).run P w = .ok v w ∧ VR w X m v av) →
    ∃ vs, (rs.mapM f).run P w = .ok vs w ∧ VRs w X m vs avs
  | [], avs, hl, h => ⟨[], by simp, by
      have : avs = [] := List.eq_nil_of_length_eq_zero (by simpa using hl.symm)
      subst this; exact VRs.nil⟩
  | r :: rs, av :: avs, hl, h => by
    obtain ⟨v, h1, h2⟩ := h 0 r av rfl rfl
    obtain ⟨vs, h3, h4⟩ := results_mapM (rs := rs) (avs := avs) (by simpa using hl) fun k r' av' e1 e2 => h (k + 1) r' av' (by simpa using e1) (by simpa using e2)
    refine ⟨v :: vs, by simp [List.mapM_cons, h1, h3], by simp [h4.1], fun k u b e1 e2 => ?_⟩
    cases k with
    | zero => simp at e1 e2; subst e1; subst e2; exact h2
    | succ k => exact h4.2 k u b (by simpa using e1) (by simpa using e2)

theorem resultOf_sound (h : SR c s a w M B) {fn : Func} {srs : List SRes} {r : AV} (hr : mapO (cRes c.P c.h) fn.results.toList = some srs) (hv : resultOf s srs = some r) :
    ∃ v, (results fn a.tmps).run c.P w = .ok v w ∧ VR w (XX c.Y M s.boxes B) (some M) v r := by
  unfold resultOf at hv
  obtain ⟨hl, hrs⟩ := mapO_some hr
  have key : ∀ avs, mapO (evalRes s) srs = some avs → ∃ vs : List Value, (results fn a.tmps).run c.P w = .ok (if h : vs.toArray.size = 1 then vs.toArray[0] else .tuple vs.toArray) w ∧ VRs w (XX c.Y M s.boxes B) (some M) vs avs := fun avs havs => by
    obtain ⟨hl2, hvs⟩ := mapO_some havs
    obtain ⟨vs, h1, h2⟩ := results_mapM (P := c.P) (w := w) (X := XX c.Y M s.boxes B) (m := some M) (rs := fn.results.toList) (avs := avs) (hl.trans hl2)
      (f := fun
        | .tmp t => pure (a.tmps.getD t undef)
        | .cell d t => do loadVar t (← asAddr (a.tmps.getD d undef))) fun k r av e1 e2 => by
          have hk : k < srs.length := by rw [← hl]; exact (List.getElem?_eq_some_iff.1 e1).1
          exact res_sound h (hrs k r _ e1 (List.getElem?_eq_getElem hk)) (hvs k _ av (List.getElem?_eq_getElem hk) e2)
    refine ⟨vs, ?_, h2⟩
    unfold results
    rw [Array.mapM_eq_mapM_toList]
    simp only [bind_map_left, Sem.run_bind]
    exact (congrArg (fun z => Result.andThen z fun (l : List Value) w' => Sem.run c.P (pure (if h : l.toArray.size = 1 then l.toArray[0] else Value.tuple l.toArray)) w') h1).trans rfl
  split at hv
  · rename_i v hm
    cases hv
    obtain ⟨vs, h1, h2⟩ := key _ hm
    match vs, h2.1 with
    | [u], _ => exact ⟨u, by simpa using h1, h2.2 0 u _ rfl rfl⟩
  · rename_i avs hne hm
    cases hv
    obtain ⟨vs, h1, h2⟩ := key _ hm
    have hlen : vs.toArray.size ≠ 1 := by
      have := h2.1
      intro e
      simp at e
      rw [e] at this
      match avs, this with
      | [x], _ => exact hne x rfl
    rw [dif_neg hlen] at h1
    exact ⟨_, h1, .tup _ _ (by simpa using h2.1) fun k v b e1 e2 => h2.2 k v b (by simpa using e1) e2⟩
  · cases hv
end
end Go.AI

/- Functions: the abstract call is sound, at any depth. -/
set_option linter.unusedVariables false
namespace Go.AI
open Go

theorem look_initEnv : ∀ (i : Nat) (args : List AV) (d : Nat) (v : AV), look (initEnv i args) d = some v → i ≤ d ∧ args[d - i]? = some v
  | i, [], d, v, h => by simp [initEnv, look] at h
  | i, x :: r, d, v, h => by
    simp only [initEnv, look_cons] at h
    split at h
    · rename_i e
      subst e
      cases h
      exact ⟨Nat.le_refl _, by simp⟩
    · rename_i e
      obtain ⟨h1, h2⟩ := look_initEnv (i + 1) r d v h
      refine ⟨by omega, ?_⟩
      have : d - i = (d - (i + 1)) + 1 := by omega
      rw [this]
      simpa using h2

section
variable {P : Program} {G : Nat → Option (List Value)}

theorem start_SR {Y : Nat → Prop} {N0 : Nat} {w : World} {β : Nat → Nat × Nat} {H : Heap} {h : Hints} {ntmps np : Nat} {vs : Array Value} {args : List AV} (hm : MemOK G w Y ⟨β, H⟩ N0)
    (hgo : GlobsOK G h.globals) (hv : VRs w (LX Y ⟨β, H⟩) (some ⟨β, H⟩) vs.toList args) (hA : ∀ d ∈ h.boxes ++ h.addrs, np ≤ d) (hnp : args.length ≤ np) :
    SR ⟨P, h, ntmps, Y, N0, w.heap.size, G⟩ { env := initEnv 0 args, boxes := [], addrs := [], heap := H, lo := H.length, base := H.length }
      { tmps := vs ++ Array.replicate (ntmps - vs.size) undef, defers := [] } w ⟨β, H⟩ (fun _ => 0) where
  heap := rfl
  size := by simp; omega
  defers := rfl
  hr := hm.hr.sub fun k hk => by
    rcases hk with hk | hk | ⟨d, cells, hd, _⟩
    · exact .inl hk
    · exact .inr hk
    · cases hd
  notY := hm.notY
  notB := fun b d cells _ hd => by cases hd
  env := fun d v hd => by
    obtain ⟨_, h2⟩ := look_initEnv 0 args d v hd
    simp only [Nat.sub_zero] at h2
    have hlt : d < args.length := (List.getElem?_eq_some_iff.1 h2).1
    have hl : vs.size = args.length := by simpa using hv.1
    have hlt' : d < vs.size := by omega
    have hx : (vs ++ Array.replicate (ntmps - vs.size) undef).getD d undef = vs[d] := by
      rw [Array.getD_eq_getD_getElem?, Array.getElem?_append_left hlt', Array.getElem?_eq_getElem hlt']; rfl
    rw [hx]
    exact (hv.2 d _ v (by rw [Array.getElem?_toList, Array.getElem?_eq_getElem hlt']) h2).stays (Stays.sub fun k hk => by
      rcases hk with hk | hk | ⟨d, cells, hd, _⟩
      · exact .inl hk
      · exact .inr hk
      · cases hd)
  envA := fun d v hd => by
    obtain ⟨_, h2⟩ := look_initEnv 0 args d v hd
    simp only [Nat.sub_zero] at h2
    have hlt : d < args.length := (List.getElem?_eq_some_iff.1 h2).1
    cases hi : isA h d with
    | false => rfl
    | true =>
      simp only [isA, Bool.or_eq_true, List.contains_iff_mem] at hi
      have := hA d (List.mem_append.2 (hi.symm))
      omega
  box := fun d cells hd => by cases hd
  inj := fun d d' x y hd => by cases hd
  addr := fun t d off cells hd => by cases hd
  addrA := fun t p hd => by cases hd
  base := Nat.le_refl _
  N0 := hm.N0
  Ylt := hm.Ylt
  lole := Nat.le_refl _
  Yge := hm.Yge
  gl := fun g cells hg => by
    obtain ⟨vals, h1, h2, h3, h4⟩ := hgo g cells hg
    obtain ⟨k1, k2, k3⟩ := hm.gl g vals h1
    have := VR.fptr (w := w) (X := XX Y ⟨β, H⟩ [] (fun _ => 0)) (m := some ⟨β, H⟩) g 0 0 cells vals (by
      rintro (hy | ⟨b, hb, e⟩ | ⟨d, cs, hd, _⟩)
      · exact absurd (hm.Yge g hy) (by omega)
      · exact absurd (hm.hr.ge b hb) (by rw [e]; omega)
      · cases hd) k2 k3 h2 h3 (h4 w _)
    exact this

/-- What stands behind a call, made out from what stands behind its code. -/
theorem finish_sound {Y : Nat → Prop} {N0 : Nat} {w : World} {β : Nat → Nat × Nat} {H : Heap} {h : Hints} {ntmps : Nat} (hm : MemOK G w Y ⟨β, H⟩ N0)
    {s : St} {a : Act} {w' : World} {M' : Mem} {B : Nat → Nat} (hs : SR ⟨P, h, ntmps, Y, N0, w.heap.size, G⟩ s a w' M' B) (hf : Fr (own ⟨P, h, ntmps, Y, N0, w.heap.size, G⟩) w ⟨β, H⟩ s.lo w' M')
    {keep : Bool} {rs : List SRes} {rv : AV} {v : Value} (hres : resultOf s rs = some rv) (hv : VR w' (XX Y M' s.boxes B) (some M') v rv) {r : AV} {H' : Heap} {lo : Nat} (hfin : finish keep H rs s = some (r, H', lo)) :
    CallPost G Y N0 w ⟨β, H⟩ lo H' r v w' := by
  have hf0 : Fr (fun _ => False) w ⟨β, H⟩ s.lo w' M' := hf.mono (Nat.le_refl _) fun k hk (ho : w.heap.size ≤ k) => absurd ho (by omega)
  have hXs : ∀ k, LX Y M' k → XX Y M' s.boxes B k := fun k hk => hk.imp id .inl
  have hh : M'.H = s.heap := hs.heap
  unfold finish at hfin
  rw [hres] at hfin
  simp only at hfin
  split at hfin
  · cases hfin
    obtain ⟨β', H1⟩ := M'
    have hh : H1 = s.heap := hh
    subst hh
    exact ⟨β', ⟨hm.gl.fr hm.hr.ge (fun _ h => h.elim) hf0, hs.hr.sub hXs, hs.notY, fun k hk => Nat.lt_of_lt_of_le (hm.Ylt k hk) hf.size, hm.Yge, Nat.le_trans hm.N0 hf.size⟩, hv.stays (Stays.sub hXs), hf0⟩
  · split at hfin
    · rename_i hlo
      split at hfin
      · rename_i r' hr'
        cases hfin
        have low : ∀ b, b < H.length → M'.H[b]? = H[b]? ∧ M'.β b = β b ∧ ((Mem.mk β H).live b → w'.heap[(β b).1]? = w.heap[(β b).1]?) := fun b hb =>
          hf.low b (Nat.lt_of_lt_of_le hb hlo) hb
        have hgl : ∀ b blk, H.get b = some blk → b < H.length := fun b blk hb => Heap.get_lt hb
        have hlive : ∀ b, (Mem.mk M'.β H).live b → b < H.length ∧ (Mem.mk β H).live b ∧ M'.live b ∧ M'.β b = β b := fun b hb => by
          have hlt : b < H.length := by
            unfold Mem.live at hb
            cases hg : H.get b with
            | none => have : (Mem.mk M'.β H).H.get b = none := hg; rw [this] at hb; cases hb
            | some blk => exact hgl b blk hg
          obtain ⟨e1, e2, _⟩ := low b hlt
          exact ⟨hlt, hb, by unfold Mem.live at *; rw [Heap.get_congr e1]; exact hb, e2⟩
        have hL : ∀ k, (Mem.mk M'.β H).L k → (Mem.mk β H).L k := by
          rintro k ⟨b, hb, e⟩
          obtain ⟨_, h2, _, h4⟩ := hlive b hb
          exact ⟨b, h2, by rw [← e]; exact congrArg Prod.fst h4.symm⟩
        have hL' : ∀ k, (Mem.mk M'.β H).L k → M'.L k := by
          rintro k ⟨b, hb, e⟩
          exact ⟨b, (hlive b hb).2.2.1, e⟩
        have hrow : ∀ b z g es, b < H.length → H.get b = some (.row z g es) → ∃ g0 es0, H.get b = some (.row z g0 es0) ∧ g0 ≤ g ∧
            (g0 = g → M'.β b = β b ∧ es0.length ≤ es.length ∧ ∀ o n, w.there (β b).1 o n → w'.there (β b).1 o n) := fun b z g es hb hg =>
          ⟨g, es, hg, Nat.le_refl _, fun _ => ⟨(low b hb).2.1, Nat.le_refl _, fun o n ht => there_of_heap ((low b hb).2.2 (by unfold Mem.live; show (H.get b).isSome = true; rw [hg]; rfl)) ht⟩⟩
        have hmap : ∀ b kvs, b < H.length → H.get b = some (.map kvs) → (∃ kvs0, H.get b = some (.map kvs0)) ∧ M'.β b = β b := fun b kvs hb hg => ⟨⟨kvs, hg⟩, (low b hb).2.1⟩
        have hst : Stays w (LX Y ⟨β, H⟩) (some ⟨β, H⟩) w' (LX Y ⟨M'.β, H⟩) (some ⟨M'.β, H⟩) :=
          ⟨hf.size, fun k _ hk => hk.imp id (hL k), fun k hk hn => hf0.keep k hk (fun hl => hn (.inr hl)) (fun h => h), fun M0 e => by
            cases e; exact ⟨_, rfl, Nat.le_refl _, hrow, hmap⟩⟩
        have hlv : ∀ b blk, H.get b = some blk → (Mem.mk β H).live b := fun b blk hg => by unfold Mem.live; show (H.get b).isSome = true; rw [hg]; rfl
        refine ⟨M'.β, ⟨hm.gl.fr hm.hr.ge (fun _ h => h.elim) hf0, {
          row := fun b z g es hg => (hm.hr.row b z g es hg).stays hst (low b (hgl b _ hg)).2.1 ((low b (hgl b _ hg)).2.2 (hlv b _ hg))
          map := fun b kvs hg => (hm.hr.map b kvs hg).stays hst (low b (hgl b _ hg)).2.1 ((low b (hgl b _ hg)).2.2 (hlv b _ hg))
          inj := fun b b' hb hb' e => hs.hr.inj b b' (hlive b hb).2.2.1 (hlive b' hb').2.2.1 e
          lt := fun b hb => hs.hr.lt b (hlive b hb).2.2.1
          ge := fun b hb => hs.hr.ge b (hlive b hb).2.2.1 }, fun b hb => hs.notY b (hlive b hb).2.2.1, fun k hk => Nat.lt_of_lt_of_le (hm.Ylt k hk) hf.size, hm.Yge, Nat.le_trans hm.N0 hf.size⟩, ?_, {
          os := hf.os
          tape := hf.tape
          output := hf.output
          size := hf.size
          keep := hf0.keep
          len := Nat.le_refl _
          row := hrow
          map := hmap
          live := fun b hb => .inl (by obtain ⟨_, h2, _, h4⟩ := hlive b hb; exact ⟨b, h2, congrArg Prod.fst h4.symm⟩)
          low := fun b hb _ => ⟨rfl, (low b hb).2.1, (low b hb).2.2⟩ }⟩
        refine frzV_sound (X := XX Y M' s.boxes B) (M := M') (H := s.heap) (n0 := H.length) ⟨fun b g z es hb hr => ?_, fun k hk => Or.imp id (fun hl => .inl (hL' k hl)) hk⟩ depth false (some ⟨M'.β, H⟩) v rv _
          (fun _ => ⟨_, rfl, Nat.le_refl _, fun b hb => ⟨(low b hb).1.symm, rfl⟩⟩) (fun e => by cases e) hv hr'
        have hg : M'.H.get b = some (.row z g es) := by rw [hh]; exact Heap.row_get hr
        have hbl : M'.live b := by unfold Mem.live; rw [hg]; rfl
        refine ⟨hg, hs.hr.row b z g es hg, ?_, hs.hr.lt b hbl⟩
        rintro (hy | ⟨b', hb', e⟩)
        · exact hs.notY b hbl hy
        · obtain ⟨h1, _, h3, _⟩ := hlive b' hb'
          have := hs.hr.inj b' b h3 hbl e
          omega
      · cases hfin
    · cases hfin

theorem runF_sound {call : Call} (hc : CallOK P G call) (hl : CallLeft call) {m : Nat} {f : Nat} {h : Hints} (hgo : GlobsOK G h.globals) {sf : SFun} (hsf : cFunc P h f = some sf) {args : List AV} {H : Heap} {r : AV} {H' : Heap} {lo : Nat}
    (hr : runF call m sf args H = some (r, H', lo)) : CallsF P G f args H r H' lo ∧ ∃ fn, P.funcs[f]? = some fn ∧ (fn.name == "runtime.NumGoroutine") = false ∧ fn.body.isNone = false := by
  unfold cFunc at hsf
  split at hsf
  · rename_i fn hf
    split at hsf
    · cases hsf
    · rename_i hn
      split at hsf
      · rename_i code hb
        split at hsf
        · rename_i body results hbody hresults
          split at hsf
          · rename_i hA
            cases hsf
            refine ⟨fun Y N0 w β vs hm hv => ?_, fn, hf, by simpa using hn, by rw [hb]; rfl⟩
            unfold runF at hr
            split at hr
            · rename_i hnp
              simp only at hnp hr
              have h0 := start_SR (P := P) (h := h) (ntmps := fn.ntmps) hm hgo hv (by rw [List.all_eq_true] at hA; exact fun d hd => by simpa using hA d hd) hnp
              refine calls_of_wp hf hb ?_
              have hfin : ∀ e s, exec call m body { env := initEnv 0 args, boxes := [], addrs := [], heap := H, lo := H.length, base := H.length } = some (e, s) → (e = .normal ∨ e = .ret) →
                  finish h.keep H results s = some (r, H', lo) → ∀ a' w' M' B', SR ⟨P, h, fn.ntmps, Y, N0, w.heap.size, G⟩ s a' w' M' B' → Fr (own ⟨P, h, fn.ntmps, Y, N0, w.heap.size, G⟩) w ⟨β, H⟩ s.lo w' M' → s.lo ≤ H.length →
                  bodyPost P fn (fun
                    | .returned v, w' => CallPost G Y N0 w ⟨β, H⟩ lo H' r v w'
                    | .panicked _, _ => False
                    | .outgrown, _ => False) (toExit e) a' w' := fun e s hex he hfi a' w' M' B' hs hfr _ => by
                have hex2 : ∃ rv, resultOf s results = some rv := by
                  unfold finish at hfi
                  split at hfi
                  · rename_i rv hrv; exact ⟨rv, hrv⟩
                  · cases hfi
                obtain ⟨rv, hrv⟩ := hex2
                obtain ⟨v, h1, h2⟩ := resultOf_sound hs (fn := fn) hresults hrv
                have := finish_sound hm hs hfr hrv h2 hfi
                rcases he with rfl | rfl
                · exact ⟨hs.defers, v, h1, this⟩
                · exact ⟨hs.defers, v, h1, this⟩
              have hq : True := trivial
              split at hr
              · rename_i s hex
                exact exec_sound (c := ⟨P, h, fn.ntmps, Y, N0, w.heap.size, G⟩) hc hl m ⟨hm.gl, hm.hr.ge, hm.N0⟩ code body hbody h0 (Fr.refl _ _ _ _) hex hq (hfin _ s hex (.inl rfl) hr)
              · rename_i s hex
                exact exec_sound (c := ⟨P, h, fn.ntmps, Y, N0, w.heap.size, G⟩) hc hl m ⟨hm.gl, hm.hr.ge, hm.N0⟩ code body hbody h0 (Fr.refl _ _ _ _) hex hq (hfin _ s hex (.inr rfl) hr)
              · cases hr
            · cases hr
          · cases hsf
        · cases hsf
      · cases hsf
  · cases hsf

theorem run_ok {F : Nat → Option Spec} (ht : TableOK P G F) (hp : PrimLeft F) : ∀ n, CallOK P G (run F n)
  | 0 => fun f args H r H' lo h => by simp [run] at h
  | n + 1 => fun f args H r H' lo h => by
    simp only [run] at h
    split at h
    · rename_i sf hF
      obtain ⟨hh, hgo, hsf⟩ := ht f _ hF
      obtain ⟨h1, fn, h2, h3, h4⟩ := runF_sound (run_ok ht hp n) (run_left hp n) hgo hsf h
      exact callsA_of_F h2 h3 h4 h1
    · rename_i g hF
      exact ht f _ hF args H r H' lo h
    · cases h

/-- **A run of the interpreter is a run of the model.** -/
theorem run_calls {F : Nat → Option Spec} (ht : TableOK P G F) (hp : PrimLeft F) {n f : Nat} {sf : SFun} (hF : F f = some (.code sf)) {args : List AV} {H : Heap} {r : AV} {H' : Heap} {lo : Nat}
    (h : run F n f args H = some (r, H', lo)) : CallsF P G f args H r H' lo := by
  cases n with
  | zero => simp [run] at h
  | succ n =>
    simp only [run, hF] at h
    obtain ⟨hh, hgo, hsf⟩ := ht f _ hF
    exact (runF_sound (run_ok ht hp n) (run_left hp n) hgo hsf h).1
end
end Go.AI

/- More fuel, the same answer. -/
set_option linter.unusedVariables false
namespace Go.AI
open Go

def CallLe (c c' : Call) : Prop := ∀ f args H r, c f args H = some r → c' f args H = some r

theorem CallLe.refl (c : Call) : CallLe c c := fun _ _ _ _ h => h

section
variable {c c' : Call} (h : CallLe c c')
include h

theorem doCall_mono {f : Nat} {vs : List AV} {d : Option Nat} {s s' : St} (hs : doCall c f vs d s = some s') : doCall c' f vs d s = some s' := by
  unfold doCall at *
  split at hs
  · rename_i r H lo hc
    rw [h _ _ _ _ hc]
    exact hs
  · cases hs

theorem step_mono {op : SOp} {d : Option Nat} {s s' : St} (hs : step c op d s = some s') : step c' op d s = some s' := by
  by_cases hnc : isCall op = false
  · rw [step_sop hnc] at *; exact hs
  · cases op <;> simp only [isCall, not_true_eq_false] at hnc
    all_goals
      simp only [step] at *
      split at hs
      · exact doCall_mono h hs
      · cases hs

theorem stepSI_mono {i : SI} {s s' : St} (hs : stepSI c i s = some s') : stepSI c' i s = some s' := by
  unfold stepSI at *
  split at hs
  · exact step_mono h hs
  · exact hs
  · cases hs

theorem stepAll_mono : ∀ {is : List SI} {s s' : St}, stepAll c is s = some s' → stepAll c' is s = some s'
  | [], s, s', hs => hs
  | i :: r, s, s', hs => by
    simp only [stepAll] at *
    split at hs
    · rename_i s1 h1
      rw [stepSI_mono h h1]
      exact stepAll_mono hs
    · cases hs

theorem stepG_mono {G : List (Nat × Nat)} {anc : List Nat} {i : SI} {s s' : St} (hs : stepG c G anc i s = some s') : stepG c' G anc i s = some s' := by
  unfold stepG stepLo at *
  split at hs
  · rename_i x hx
    rw [stepSI_mono h hx]
    exact hs
  · cases hs

theorem stepTree_mono {fin : St → Option St} : ∀ {t : STree} {G : List (Nat × Nat)} {s s' : St}, stepTree c fin G t s = some s' → stepTree c' fin G t s = some s'
  | .done, G, s, s', hs => hs
  | .take n i k, G, s, s', hs => by
    simp only [stepTree] at *
    split at hs
    · rename_i s1 h1
      rw [stepSI_mono h h1]
      exact stepTree_mono hs
    · cases hs
  | .only a i k, G, s, s', hs => by
    simp only [stepTree] at *
    split at hs
    · rename_i s1 h1
      rw [stepG_mono h h1]
      exact stepTree_mono hs
    · cases hs
  | .fork a i k a' j k', G, s, s', hs => by
    simp only [stepTree] at *
    split at hs
    · rename_i s1 s2 h1 h2
      rw [stepG_mono h h1, stepG_mono h h2]
      split at hs
      · rename_i r r' hr hr'
        rw [stepTree_mono hr, stepTree_mono hr']
        exact hs
      · cases hs
    · cases hs
end

theorem iter_mono {f f' : St → Option (SExit × St)} (h : ∀ s r, f s = some r → f' s = some r) : ∀ {m m' : Nat}, m ≤ m' → ∀ {s : St} {r : SExit × St}, iter f m s = some r → iter f' m' s = some r
  | 0, _, _, s, r, hs => by simp [iter] at hs
  | m + 1, 0, hm, _, _, _ => by omega
  | m + 1, m' + 1, hm, s, r, hs => by
    rw [iter] at hs
    rw [iter]
    split at hs
    · rename_i s1 h1
      rw [h _ _ h1]
      exact iter_mono h (by omega) hs
    · rename_i hne
      have h1 := h s r hs
      rw [h1]
      split
      · rename_i s' e
        cases e
        exact (hne s' hs).elim
      · rfl

theorem exec_mono {c c' : Call} (h : CallLe c c') {m m' : Nat} (hm : m ≤ m') : ∀ (sc : SCode) {s : St} {r : SExit × St}, exec c m sc s = some r → exec c' m' sc s = some r
  | .skip, s, r, hs => hs
  | .exit id, s, r, hs => hs
  | .ret, s, r, hs => hs
  | .region is env boxes frz, s, r, hs => by
    simp only [exec] at *
    split at hs
    · rename_i s1 h1
      rw [stepAll_mono h h1]
      exact hs
    · cases hs
  | .draw t env boxes frz, s, r, hs => by
    simp only [exec, Option.map_eq_some_iff] at *
    obtain ⟨x, hx, rfl⟩ := hs
    exact ⟨x, stepTree_mono h hx, rfl⟩
  | .seq a b, s, r, hs => by
    simp only [exec] at *
    split at hs
    · rename_i s1 h1
      rw [exec_mono h hm a h1]
      exact exec_mono h hm b hs
    · rename_i hne
      rw [exec_mono h hm a hs]
      obtain ⟨e, s1⟩ := r
      cases e
      · exact (hne _ hs).elim
      · rfl
      · rfl
  | .cond x a b, s, r, hs => by
    simp only [exec] at *
    split at hs
    · rename_i t ht
      cases t
      · simp only [Bool.false_eq_true, if_false] at *; exact exec_mono h hm b hs
      · simp only [if_true] at *; exact exec_mono h hm a hs
    · cases hs
  | .block id b, s, r, hs => by
    simp only [exec] at *
    split at hs
    · rename_i id' s1 h1
      rw [exec_mono h hm b h1]
      exact hs
    · rename_i hne
      rw [exec_mono h hm b hs]
      obtain ⟨e, s1⟩ := r
      cases e
      · rfl
      · exact (hne _ _ hs).elim
      · rfl
  | .loop b, s, r, hs => by
    simp only [exec] at *
    exact iter_mono (fun s r => exec_mono h hm b) hm hs

theorem runF_mono {c c' : Call} (h : CallLe c c') {m m' : Nat} (hm : m ≤ m') {sf : SFun} {args : List AV} {H : Heap} {r : AV × Heap × Nat} (hs : runF c m sf args H = some r) : runF c' m' sf args H = some r := by
  unfold runF at *
  split at hs
  · rename_i ha
    rw [if_pos ha]
    split at hs
    · rename_i s h1; rw [exec_mono h hm _ h1]; exact hs
    · rename_i s h1; rw [exec_mono h hm _ h1]; exact hs
    · cases hs
  · cases hs

theorem run_succ {F : Nat → Option Spec} : ∀ n, CallLe (run F n) (run F (n + 1))
  | 0 => fun f args H r h => by simp [run] at h
  | n + 1 => fun f args H r h => by
    rw [run] at h
    rw [run]
    split at h
    · rename_i sf hF; exact runF_mono (run_succ n) (Nat.le_succ n) h
    · exact h
    · cases h

theorem run_mono {F : Nat → Option Spec} {n : Nat} : ∀ {m : Nat}, n ≤ m → CallLe (run F n) (run F m) := fun {m} hm => by
  induction hm with
  | refl => exact CallLe.refl _
  | step _ ih => exact fun f args H r h => run_succ _ f args H r (ih f args H r h)
end Go.AI

/- The interpreter without fuel: equations. -/
set_option linter.unusedVariables false
namespace Go.AI
open Go

open Classical in
/-- What is answered from some fuel on. -/
noncomputable def lim {α : Type} (f : Nat → Option α) : Option α := if h : ∃ n r, f n = some r then f h.choose else none

def Grows {α : Type} (f : Nat → Option α) : Prop := ∀ n m r, n ≤ m → f n = some r → f m = some r

theorem lim_iff {α : Type} {f : Nat → Option α} (hf : Grows f) {r : α} : lim f = some r ↔ ∃ n, f n = some r := by
  unfold lim
  constructor
  · intro h
    split at h
    · exact ⟨_, h⟩
    · cases h
  · rintro ⟨n, hn⟩
    have hex : ∃ n r, f n = some r := ⟨n, r, hn⟩
    rw [dif_pos hex]
    obtain ⟨r', hr'⟩ := hex.choose_spec
    have h1 := hf _ (max n hex.choose) _ (Nat.le_max_right _ _) hr'
    have h2 := hf _ (max n hex.choose) _ (Nat.le_max_left _ _) hn
    rw [hr', ← h1, h2]

theorem opt_ext {α : Type} {x y : Option α} (h : ∀ r, x = some r ↔ y = some r) : x = y := by
  cases x with
  | none =>
    cases y with
    | none => rfl
    | some b => exact absurd ((h b).2 rfl) (by simp)
  | some a => exact ((h a).1 rfl).symm

variable (F : Nat → Option Spec)

noncomputable def runT : Call := fun f args H => lim fun n => run F n f args H
noncomputable def execT (sc : SCode) (s : St) : Option (SExit × St) := lim fun n => exec (run F n) n sc s

theorem run_grows (f : Nat) (args : List AV) (H : Heap) : Grows fun n => run F n f args H := fun n m r hm h => run_mono hm f args H r h
theorem exec_grows (sc : SCode) (s : St) : Grows fun n => exec (run F n) n sc s := fun n m r hm h => exec_mono (run_mono hm) hm sc h

theorem runT_iff {f : Nat} {args : List AV} {H : Heap} {r : AV × Heap × Nat} : runT F f args H = some r ↔ ∃ n, run F n f args H = some r := lim_iff (run_grows F f args H)
theorem execT_iff {sc : SCode} {s : St} {r : SExit × St} : execT F sc s = some r ↔ ∃ n, exec (run F n) n sc s = some r := lim_iff (exec_grows F sc s)

theorem run_le (n : Nat) : CallLe (run F n) (runT F) := fun f args H r h => (runT_iff F).2 ⟨n, h⟩

variable {F}

theorem doCall_fin {f : Nat} {vs : List AV} {d : Option Nat} {s s' : St} (h : doCall (runT F) f vs d s = some s') : ∃ n, doCall (run F n) f vs d s = some s' := by
  unfold doCall at h
  split at h
  · rename_i r H lo hc
    obtain ⟨n, hn⟩ := (runT_iff F).1 hc
    exact ⟨n, by unfold doCall; rw [hn]; exact h⟩
  · cases h

theorem stepSI_fin {i : SI} {s s' : St} (h : stepSI (runT F) i s = some s') : ∃ n, stepSI (run F n) i s = some s' := by
  unfold stepSI at h
  split at h
  · rename_i hw
    have : ∃ n, step (run F n) i.op i.dst s = some s' := by
      by_cases hnc : isCall i.op = false
      · exact ⟨0, by rw [step_sop hnc] at *; exact h⟩
      · cases hop : i.op <;> rw [hop] at hnc h <;> simp only [isCall, not_true_eq_false] at hnc
        case call f xs =>
          simp only [step] at h ⊢
          split at h
          · exact doCall_fin h
          · cases h
        case callv x xs =>
          simp only [step] at h ⊢
          split at h
          · exact doCall_fin h
          · cases h
    obtain ⟨n, hn⟩ := this
    exact ⟨n, by unfold stepSI; rw [hw]; exact hn⟩
  · rename_i hw
    exact ⟨0, by unfold stepSI; rw [hw]; exact h⟩
  · cases h

theorem stepAll_fin : ∀ {is : List SI} {s s' : St}, stepAll (runT F) is s = some s' → ∃ n, stepAll (run F n) is s = some s'
  | [], s, s', h => ⟨0, h⟩
  | i :: r, s, s', h => by
    simp only [stepAll] at h
    split at h
    · rename_i s1 h1
      obtain ⟨n, hn⟩ := stepSI_fin h1
      obtain ⟨m, hm⟩ := stepAll_fin h
      refine ⟨max n m, ?_⟩
      simp only [stepAll]
      rw [stepSI_mono (run_mono (Nat.le_max_left n m)) hn]
      exact stepAll_mono (run_mono (Nat.le_max_right n m)) hm
    · cases h

theorem stepG_fin {G : List (Nat × Nat)} {anc : List Nat} {i : SI} {s s' : St} (h : stepG (runT F) G anc i s = some s') : ∃ n, stepG (run F n) G anc i s = some s' := by
  unfold stepG stepLo at h
  split at h
  · rename_i x hx
    obtain ⟨n, hn⟩ := stepSI_fin hx
    exact ⟨n, by unfold stepG stepLo; rw [hn]; exact h⟩
  · cases h

theorem stepTree_fin {fin : St → Option St} : ∀ {t : STree} {G : List (Nat × Nat)} {s s' : St}, stepTree (runT F) fin G t s = some s' → ∃ n, stepTree (run F n) fin G t s = some s'
  | .done, G, s, s', h => ⟨0, h⟩
  | .take n i k, G, s, s', h => by
    simp only [stepTree] at h
    split at h
    · rename_i s1 h1
      obtain ⟨n, hn⟩ := stepSI_fin h1
      obtain ⟨m, hm⟩ := stepTree_fin h
      refine ⟨max n m, ?_⟩
      simp only [stepTree]
      rw [stepSI_mono (run_mono (Nat.le_max_left n m)) hn]
      exact stepTree_mono (run_mono (Nat.le_max_right n m)) hm
    · cases h
  | .only a i k, G, s, s', h => by
    simp only [stepTree] at h
    split at h
    · rename_i s1 h1
      obtain ⟨n, hn⟩ := stepG_fin h1
      obtain ⟨m, hm⟩ := stepTree_fin h
      refine ⟨max n m, ?_⟩
      simp only [stepTree]
      rw [stepG_mono (run_mono (Nat.le_max_left n m)) hn]
      exact stepTree_mono (run_mono (Nat.le_max_right n m)) hm
    · cases h
  | .fork a i k a' j k', G, s, s', h => by
    simp only [stepTree] at h
    split at h
    · rename_i s1 s2 h1 h2
      split at h
      · rename_i r r' hr hr'
        obtain ⟨n1, k1⟩ := stepG_fin h1
        obtain ⟨n2, k2⟩ := stepG_fin h2
        obtain ⟨n3, k3⟩ := stepTree_fin hr
        obtain ⟨n4, k4⟩ := stepTree_fin hr'
        refine ⟨n1 + n2 + n3 + n4, ?_⟩
        simp only [stepTree]
        rw [stepG_mono (run_mono (by omega)) k1, stepG_mono (run_mono (by omega)) k2]
        simp only
        rw [stepTree_mono (run_mono (by omega)) k3, stepTree_mono (run_mono (by omega)) k4]
        exact h
      · cases h
    · cases h

/-! ### Equations -/

theorem execT_skip (s : St) : execT F .skip s = some (.normal, s) := (execT_iff F).2 ⟨0, rfl⟩
theorem execT_exit (id : Nat) (s : St) : execT F (.exit id) s = some (.exit id, s) := (execT_iff F).2 ⟨0, rfl⟩
theorem execT_ret (s : St) : execT F .ret s = some (.ret, s) := (execT_iff F).2 ⟨0, rfl⟩

theorem execT_region (is : List SI) (env boxes frz : List Nat) (s : St) : execT F (.region is env boxes frz) s = match stepAll (runT F) is s with
    | some s' => (endRegion env boxes frz s').map (SExit.normal, ·)
    | none => none := by
  refine opt_ext fun r => ?_
  rw [execT_iff]
  constructor
  · rintro ⟨n, hn⟩
    simp only [exec] at hn
    split at hn
    · rename_i s1 h1
      rw [stepAll_mono (run_le F n) h1]
      exact hn
    · cases hn
  · intro h
    split at h
    · rename_i s1 h1
      obtain ⟨n, hn⟩ := stepAll_fin h1
      exact ⟨n, by simp only [exec]; rw [hn]; exact h⟩
    · cases h

theorem execT_draw (t : STree) (env boxes frz : List Nat) (s : St) : execT F (.draw t env boxes frz) s = (stepTree (runT F) (endRegion env boxes frz) [] t s).map (SExit.normal, ·) := by
  refine opt_ext fun r => ?_
  rw [execT_iff]
  simp only [exec, Option.map_eq_some_iff]
  constructor
  · rintro ⟨n, x, hx, e⟩
    exact ⟨x, stepTree_mono (run_le F n) hx, e⟩
  · rintro ⟨x, hx, e⟩
    obtain ⟨n, hn⟩ := stepTree_fin hx
    exact ⟨n, x, hn, e⟩

theorem execT_seq (a b : SCode) (s : St) : execT F (.seq a b) s = match execT F a s with
    | some (.normal, s') => execT F b s'
    | r => r := by
  refine opt_ext fun r => ?_
  rw [execT_iff]
  constructor
  · rintro ⟨n, hn⟩
    simp only [exec] at hn
    split at hn
    · rename_i s1 h1
      rw [(execT_iff F).2 ⟨n, h1⟩]
      exact (execT_iff F).2 ⟨n, hn⟩
    · rename_i hne
      rw [(execT_iff F).2 ⟨n, hn⟩]
      obtain ⟨e, s1⟩ := r
      cases e
      · exact (hne _ hn).elim
      · rfl
      · rfl
  · intro h
    split at h
    · rename_i s1 h1
      obtain ⟨n, hn⟩ := (execT_iff F).1 h1
      obtain ⟨m, hm⟩ := (execT_iff F).1 h
      refine ⟨max n m, ?_⟩
      simp only [exec]
      rw [show exec (run F (max n m)) (max n m) a s = _ from exec_grows F a s n _ _ (Nat.le_max_left n m) hn]
      exact exec_grows F b s1 m _ _ (Nat.le_max_right n m) hm
    · rename_i hne
      obtain ⟨n, hn⟩ := (execT_iff F).1 h
      refine ⟨n, ?_⟩
      simp only [exec]
      rw [hn]
      obtain ⟨e, s1⟩ := r
      cases e
      · exact (hne _ h).elim
      · rfl
      · rfl

theorem execT_cond (x : SX) (a b : SCode) (s : St) : execT F (.cond x a b) s = match s.eval x with
    | some (.bool t) => if t then execT F a s else execT F b s
    | _ => none := by
  refine opt_ext fun r => ?_
  rw [execT_iff]
  constructor
  · rintro ⟨n, hn⟩
    simp only [exec] at hn
    split at hn
    · rename_i t ht
      rw [ht]
      cases t
      · exact (execT_iff F).2 ⟨n, hn⟩
      · exact (execT_iff F).2 ⟨n, hn⟩
    · cases hn
  · intro h
    split at h
    · rename_i t ht
      cases t
      · obtain ⟨n, hn⟩ := (execT_iff F).1 h
        exact ⟨n, by simp only [exec]; rw [ht]; exact hn⟩
      · obtain ⟨n, hn⟩ := (execT_iff F).1 h
        exact ⟨n, by simp only [exec]; rw [ht]; exact hn⟩
    · cases h

theorem execT_block (id : Nat) (b : SCode) (s : St) : execT F (.block id b) s = match execT F b s with
    | some (.exit id', s') => if id' = id then some (.normal, s') else some (.exit id', s')
    | r => r := by
  refine opt_ext fun r => ?_
  rw [execT_iff]
  constructor
  · rintro ⟨n, hn⟩
    simp only [exec] at hn
    split at hn
    · rename_i id' s1 h1
      rw [(execT_iff F).2 ⟨n, h1⟩]
      exact hn
    · rename_i hne
      rw [(execT_iff F).2 ⟨n, hn⟩]
      obtain ⟨e, s1⟩ := r
      cases e
      · rfl
      · exact (hne _ _ hn).elim
      · rfl
  · intro h
    split at h
    · rename_i id' s1 h1
      obtain ⟨n, hn⟩ := (execT_iff F).1 h1
      exact ⟨n, by simp only [exec]; rw [hn]; exact h⟩
    · rename_i hne
      obtain ⟨n, hn⟩ := (execT_iff F).1 h
      refine ⟨n, ?_⟩
      simp only [exec]
      rw [hn]
      obtain ⟨e, s1⟩ := r
      cases e
      · rfl
      · exact (hne _ _ h).elim
      · rfl

theorem execT_loop (b : SCode) (s : St) : execT F (.loop b) s = match execT F b s with
    | some (.normal, s') => execT F (.loop b) s'
    | r => r := by
  refine opt_ext fun r => ?_
  rw [execT_iff]
  constructor
  · rintro ⟨n, hn⟩
    simp only [exec] at hn
    cases n with
    | zero => simp [iter] at hn
    | succ n =>
      rw [iter] at hn
      split at hn
      · rename_i s1 h1
        rw [(execT_iff F).2 ⟨n + 1, h1⟩]
        exact (execT_iff F).2 ⟨n + 1, by simp only [exec]; exact iter_mono (fun _ _ h => h) (Nat.le_succ n) hn⟩
      · rename_i hne
        rw [(execT_iff F).2 ⟨n + 1, hn⟩]
        obtain ⟨e, s1⟩ := r
        cases e
        · exact (hne _ hn).elim
        · rfl
        · rfl
  · intro h
    split at h
    · rename_i s1 h1
      obtain ⟨n, hn⟩ := (execT_iff F).1 h1
      obtain ⟨m, hm⟩ := (execT_iff F).1 h
      refine ⟨max n m + 1, ?_⟩
      simp only [exec] at hm ⊢
      rw [iter]
      rw [show exec (run F (max n m + 1)) (max n m + 1) b s = _ from exec_grows F b s n _ _ (by omega : n ≤ max n m + 1) hn]
      exact iter_mono (fun s r h => exec_mono (run_mono (by omega)) (by omega) b h) (by omega) hm
    · rename_i hne
      obtain ⟨n, hn⟩ := (execT_iff F).1 h
      refine ⟨n + 1, ?_⟩
      simp only [exec]
      rw [iter]
      rw [show exec (run F (n + 1)) (n + 1) b s = _ from exec_grows F b s n _ _ (Nat.le_succ n) hn]
      obtain ⟨e, s1⟩ := r
      cases e
      · exact (hne _ h).elim
      · rfl
      · rfl

theorem runT_code {f : Nat} {sf : SFun} (hF : F f = some (.code sf)) (args : List AV) (H : Heap) : runT F f args H =
    if args.length ≤ sf.np then match execT F sf.body { env := initEnv 0 args, boxes := [], addrs := [], heap := H, lo := H.length, base := H.length } with
      | some (.normal, s) => finish sf.keep H sf.results s
      | some (.ret, s) => finish sf.keep H sf.results s
      | _ => none
    else none := by
  refine opt_ext fun r => ?_
  rw [runT_iff]
  constructor
  · rintro ⟨n, hn⟩
    cases n with
    | zero => simp [run] at hn
    | succ n =>
      simp only [run, hF, runF] at hn
      split at hn
      · rename_i ha
        rw [if_pos ha]
        split at hn
        · rename_i s h1; rw [(execT_iff F).2 ⟨n, h1⟩]; exact hn
        · rename_i s h1; rw [(execT_iff F).2 ⟨n, h1⟩]; exact hn
        · cases hn
      · cases hn
  · intro h
    split at h
    · rename_i ha
      split at h
      · rename_i s h1
        obtain ⟨n, hn⟩ := (execT_iff F).1 h1
        exact ⟨n + 1, by simp only [run, hF, runF]; rw [if_pos ha, hn]; exact h⟩
      · rename_i s h1
        obtain ⟨n, hn⟩ := (execT_iff F).1 h1
        exact ⟨n + 1, by simp only [run, hF, runF]; rw [if_pos ha, hn]; exact h⟩
      · cases h
    · cases h

theorem runT_prim {f : Nat} {g : List AV → Heap → Res} (hF : F f = some (.prim g)) (args : List AV) (H : Heap) : runT F f args H = g args H := by
  refine opt_ext fun r => ?_
  rw [runT_iff]
  constructor
  · rintro ⟨n, hn⟩
    cases n with
    | zero => simp [run] at hn
    | succ n => simp only [run, hF] at hn; exact hn
  · exact fun h => ⟨1, by simp only [run, hF]; exact h⟩

theorem runT_calls {P : Program} {G : Nat → Option (List Value)} (ht : TableOK P G F) (hp : PrimLeft F) {f : Nat} {sf : SFun} (hF : F f = some (.code sf)) {args : List AV} {H : Heap} {r : AV} {H' : Heap} {lo : Nat}
    (h : runT F f args H = some (r, H', lo)) : CallsF P G f args H r H' lo := by
  obtain ⟨n, hn⟩ := (runT_iff F).1 h
  exact run_calls ht hp hF hn
end Go.AI

/- Rules by which the interpreter runs on values that are not known. -/
set_option linter.unusedVariables false
set_option linter.unusedSimpArgs false
namespace Go.AI
open Go

abbrev Env := List (Nat × Option AV)

def evX (e : Env) : SX → Option AV
  | .slot d => look e d
  | .lit v => some v
def evXs (e : Env) : List SX → Option (List AV)
  | [] => some []
  | x :: r => (evX e x).bind fun v => (evXs e r).bind fun vs => some (v :: vs)
def evXO (e : Env) : Option SX → Option (Option AV)
  | none => some none
  | some x => (evX e x).bind fun v => some (some v)

section
variable {call : Call} {e : Env} {bx : List (Nat × Option (List AV))} {ad : List (Nat × Option (Nat × Nat))} {H : Heap} {lo ba : Nat} {r : List SI} {d : Nat}

theorem look_nil {α : Type} {d : Nat} : look ([] : List (Nat × Option α)) d = none := (rfl)
theorem look_cons' {α : Type} {k : Nat} {v : Option α} {l : List (Nat × Option α)} {d : Nat} : look ((k, v) :: l) d = if k = d then v else look l d := (rfl)
theorem evX_slot {d : Nat} : evX e (.slot d) = look e d := (rfl)
theorem evX_lit {v : AV} : evX e (.lit v) = some v := (rfl)
theorem evXs_nil : evXs e [] = some [] := (rfl)
theorem evXs_cons {x : SX} {xs : List SX} : evXs e (x :: xs) = (evX e x).bind fun v => (evXs e xs).bind fun vs => some (v :: vs) := (rfl)
theorem evXO_none : evXO e none = some none := (rfl)
theorem evXO_some {x : SX} : evXO e (some x) = (evX e x).bind fun v => some (some v) := (rfl)

theorem eval_mk {x : SX} : (St.mk e bx ad H lo ba).eval x = evX e x := by cases x <;> rfl
theorem evals_mk : ∀ {xs : List SX}, (St.mk e bx ad H lo ba).evals xs = evXs e xs
  | [] => rfl
  | x :: xs => by
    simp only [St.evals, evXs, eval_mk, evals_mk (xs := xs)]
    cases evX e x <;> simp
    cases evXs e xs <;> simp
theorem evalO_mk {x : Option SX} : (St.mk e bx ad H lo ba).evalO x = evXO e x := by
  cases x with
  | none => rfl
  | some x => simp only [St.evalO, evXO, eval_mk]; cases evX e x <;> rfl

theorem w_nil {s : St} : stepAll call [] s = some s := (rfl)

/-- A step that yields a value. -/
theorem w_aop {op : SOp} {s : St} (h : step call op (some d) s = match aop op s with | some (v, s') => some (s'.put (some d) (some v)) | none => none) :
    stepAll call (⟨some d, none, op⟩ :: r) s = (aop op s).bind fun p => stepAll call r (p.2.put (some d) (some p.1)) := by
  simp only [stepAll, stepSI, wantedS, h]
  cases aop op s <;> rfl

def guardX (v : Option AV) (want : Bool) (a b : Option St) : Option St :=
  match v with
  | some (.bool t) => if t = want then a else b
  | some (.tup []) => b
  | _ => none
theorem w_guard {dst : Option Nat} {t : Nat} {want : Bool} {op : SOp} : stepAll call (⟨dst, some (t, want), op⟩ :: r) ⟨e, bx, ad, H, lo, ba⟩ =
    guardX (look e t) want (stepAll call (⟨dst, none, op⟩ :: r) ⟨e, bx, ad, H, lo, ba⟩) (stepAll call r ((St.mk e bx ad H lo ba).undef (undefV op) dst)) := by
  simp only [stepAll, stepSI, wantedS]
  cases look e t with
  | none => rfl
  | some v => cases v <;> try rfl
              case bool b => cases b <;> cases want <;> rfl
              case tup vs => cases vs <;> rfl
theorem undef_some {u : Option AV} : (St.mk e bx ad H lo ba).undef u (some d) = ⟨(d, u) :: e, bx, (d, none) :: ad, H, lo, ba⟩ := (rfl)
theorem undef_none {u : Option AV} : (St.mk e bx ad H lo ba).undef u none = ⟨e, bx, ad, H, lo, ba⟩ := (rfl)

def loadV (H : Heap) (agg : Bool) (sz : Nat) : AV → Option AV
  | .fptr cells off => readAt agg sz cells off
  | .ptr b g i off => match H.row b g with
    | some (_, es) => match es[i]? with
      | some e => readAt agg sz e.cells off
      | none => none
    | none => none
  | _ => none

def ixV (H : Heap) (sz : Nat) (x i : AV) : Option AV :=
  match x, i with
  | .vsl es, .int _ n => if 0 ≤ n then (match es[n.toNat]? with | some e => if e.cells.length = sz then some (.fptr e.cells 0) else none | none => none) else none
  | .ref b g off len, .int _ n => if 0 ≤ n ∧ n < len then (match H.row b g with | some (z, _) => if z = sz then some (.ptr b g (off + n.toNat) 0) else none | none => none) else none
  | _, _ => none

def ixP (len sz : Nat) (x i : AV) : Option AV :=
  match x, i with
  | .ptr b g e o, .int _ n => if 0 ≤ n ∧ n < len then some (.ptr b g e (o + n.toNat * sz)) else none
  | .fptr cells o, .int _ n => if 0 ≤ n ∧ n < len then some (.fptr cells (o + n.toNat * sz)) else none
  | _, _ => none

def faV (off : Nat) : AV → Option AV
  | .ptr b g i o => some (.ptr b g i (o + off))
  | .fptr cells o => some (.fptr cells (o + off))
  | _ => none

def nilV : AV → Option AV
  | .ptr b g i off => some (.ptr b g i off)
  | .fptr cells off => some (.fptr cells off)
  | .fn f cap => some (.fn f cap)
  | _ => none

def convV (k : IntKind) : AV → Option AV
  | .int _ n => some (.int k (k.wrap n))
  | _ => none
def strV : AV → Option AV
  | .str l => some (.str l)
  | _ => none
def pickV (c : AV) (a b : Option AV) : Option AV :=
  match c with
  | .bool t => if t then a else b
  | _ => none
def fieldV (agg : Bool) (sz off : Nat) : AV → Option AV
  | .agg cs => readAt agg sz cs off
  | _ => none
def ixS (x i : AV) : Option AV :=
  match x, i with
  | .str l, .int _ n => if 0 ≤ n then (match l[n.toNat]? with | some c => some (.int .u8 c.toNat) | none => none) else none
  | _, _ => none
def ixG (agg : Bool) (len sz : Nat) (x i : AV) : Option AV :=
  match x, i with
  | .agg cs, .int _ n => if 0 ≤ n ∧ n < len then readAt agg sz cs (n.toNat * sz) else none
  | _, _ => none
def exV (i : Nat) : AV → Option AV
  | .tup vs => vs[i]?
  | _ => none
def lenV (H : Heap) (k : LenK) (v : AV) : Option AV := (lenOf H k v).map fun n => .int .i64 n
def bsV (H : Heap) (v : AV) : Option AV :=
  match elems H v with
  | some es => (aop.bytesOf es).map .str
  | none => none
/-- an aggregate's parts, one by one -/
def fillX (e : Env) (zero : List AV) : List (Nat × Nat × SX) → Option (List AV)
  | [] => some zero
  | (off, sz, x) :: r => (evX e x).bind fun v => if v.cells.length = sz ∧ v.plain = true ∧ off + sz ≤ zero.length then fillX e (splice zero off v.cells) r else none
def fillEX (e : Env) (sz : Nat) (es : List AV) : List (Nat × SX) → Option (List AV)
  | [] => some es
  | (i, x) :: r => (evX e x).bind fun v => if i < es.length ∧ v.plain = true ∧ v.cells.length = sz then fillEX e sz (es.set i v) r else none

theorem fill_mk : ∀ {ps : List (Nat × Nat × SX)} {z : List AV}, aop.fill (St.mk e bx ad H lo ba) z ps = fillX e z ps
  | [], z => rfl
  | (off, sz, x) :: r, z => by
    simp only [aop.fill, fillX, eval_mk]
    cases evX e x with
    | none => rfl
    | some v => simp only [Option.bind_some]; split <;> first | exact fill_mk | rfl
theorem fillE_mk {sz : Nat} : ∀ {ps : List (Nat × SX)} {z : List AV}, aop.fillE (St.mk e bx ad H lo ba) sz z ps = fillEX e sz z ps
  | [], z => rfl
  | (i, x) :: r, z => by
    simp only [aop.fillE, fillEX, eval_mk]
    cases evX e x with
    | none => rfl
    | some v => simp only [Option.bind_some]; split <;> first | exact fillE_mk | rfl


theorem w_mov {x : SX} : stepAll call (⟨some d, none, .mov x⟩ :: r) ⟨e, bx, ad, H, lo, ba⟩ = (evX e x).bind fun v => stepAll call r ⟨(d, some v) :: e, bx, ad, H, lo, ba⟩ := by
  rw [w_aop rfl]; simp only [aop, eval_mk]; cases evX e x <;> rfl
theorem w_pick {c a b : SX} : stepAll call (⟨some d, none, .pick c a b⟩ :: r) ⟨e, bx, ad, H, lo, ba⟩ = (evX e c).bind fun v => (pickV v (evX e a) (evX e b)).bind fun u => stepAll call r ⟨(d, some u) :: e, bx, ad, H, lo, ba⟩ := by
  rw [w_aop rfl]; simp only [aop, eval_mk]
  cases evX e c with
  | none => rfl
  | some v => cases v <;> try rfl
              case bool t =>
                simp only [Option.bind_some, pickV]
                cases t
                · simp only [Bool.false_eq_true, if_false]; cases evX e b <;> rfl
                · simp only [if_true]; cases evX e a <;> rfl
theorem w_alloc {z : AV} : stepAll call (⟨some d, none, .alloc z⟩ :: r) ⟨e, bx, ad, H, lo, ba⟩ = stepAll call r ⟨(d, some (.ptr H.length 0 0 0)) :: e, bx, ad, H ++ [some (.row z.cells.length 0 [z])], lo, ba⟩ := by
  rw [w_aop rfl]; rfl
theorem w_box {sz : Nat} {x : SX} : stepAll call (⟨some d, none, .box sz x⟩ :: r) ⟨e, bx, ad, H, lo, ba⟩ =
    (evX e x).bind fun v => if v.cells.length = sz ∧ v.plain = true then stepAll call r ⟨(d, some (.ptr H.length 0 0 0)) :: e, bx, ad, H ++ [some (.row sz 0 [v])], lo, ba⟩ else none := by
  rw [w_aop rfl]; simp only [aop, eval_mk]
  cases evX e x with
  | none => rfl
  | some v => simp only [Option.bind_some]; split <;> rfl
theorem w_build {z : List AV} {ps : List (Nat × Nat × SX)} : stepAll call (⟨some d, none, .build z ps⟩ :: r) ⟨e, bx, ad, H, lo, ba⟩ = (fillX e z ps).bind fun cs => stepAll call r ⟨(d, some (.agg cs)) :: e, bx, ad, H, lo, ba⟩ := by
  rw [w_aop rfl]; simp only [aop, fill_mk]; cases fillX e z ps <;> rfl
theorem w_buildSlice {sz n : Nat} {z : AV} {ps : List (Nat × SX)} : stepAll call (⟨some d, none, .buildSlice sz z n ps⟩ :: r) ⟨e, bx, ad, H, lo, ba⟩ =
    if n = 0 then stepAll call r ⟨(d, some .emp) :: e, bx, ad, H, lo, ba⟩ else
    (fillEX e sz (List.replicate n z) ps).bind fun es => stepAll call r ⟨(d, some (.ref H.length 0 0 n)) :: e, bx, ad, H ++ [some (.row sz 0 es)], lo, ba⟩ := by
  rw [w_aop rfl]; simp only [aop, fillE_mk]
  split
  · rfl
  · cases fillEX e sz (List.replicate n z) ps <;> rfl
theorem w_loadA {agg : Bool} {sz t : Nat} : stepAll call (⟨some d, none, .loadA agg sz t⟩ :: r) ⟨e, bx, ad, H, lo, ba⟩ =
    (look ad t).bind fun p => (look bx p.1).bind fun cells => (readAt agg sz cells p.2).bind fun u => stepAll call r ⟨(d, some u) :: e, bx, ad, H, lo, ba⟩ := by
  rw [w_aop rfl]; simp only [aop]
  cases look ad t with
  | none => rfl
  | some p => obtain ⟨k, off⟩ := p
              simp only [Option.bind_some]
              cases look bx k with
              | none => rfl
              | some cells => simp only [Option.bind_some]; cases readAt agg sz cells off <;> rfl
theorem w_load {agg : Bool} {sz : Nat} {x : SX} : stepAll call (⟨some d, none, .load agg sz x⟩ :: r) ⟨e, bx, ad, H, lo, ba⟩ =
    (evX e x).bind fun v => (loadV H agg sz v).bind fun u => stepAll call r ⟨(d, some u) :: e, bx, ad, H, lo, ba⟩ := by
  rw [w_aop rfl]; simp only [aop, eval_mk]
  cases evX e x with
  | none => rfl
  | some v =>
    cases v <;> try rfl
    case fptr cells off => simp only [Option.bind_some, loadV]; cases readAt agg sz cells off <;> rfl
    case ptr b g i off =>
      simp only [Option.bind_some, loadV]
      cases H.row b g with
      | none => rfl
      | some p => obtain ⟨z, es⟩ := p
                  simp only
                  cases es[i]? with
                  | none => rfl
                  | some u => simp only; cases readAt agg sz u.cells off <;> rfl
theorem w_nilCheck {x : SX} : stepAll call (⟨some d, none, .nilCheck x⟩ :: r) ⟨e, bx, ad, H, lo, ba⟩ = (evX e x).bind fun v => (nilV v).bind fun u => stepAll call r ⟨(d, some u) :: e, bx, ad, H, lo, ba⟩ := by
  rw [w_aop rfl]; simp only [aop, eval_mk]
  cases evX e x with
  | none => rfl
  | some v => cases v <;> rfl
theorem w_bin {op : BinOp} {q : Eqc} {x y : SX} : stepAll call (⟨some d, none, .bin op q x y⟩ :: r) ⟨e, bx, ad, H, lo, ba⟩ =
    (evX e x).bind fun a => (evX e y).bind fun b => (binOp op q a b).bind fun u => stepAll call r ⟨(d, some u) :: e, bx, ad, H, lo, ba⟩ := by
  rw [w_aop rfl]; simp only [aop, eval_mk]
  cases evX e x with
  | none => rfl
  | some a => cases evX e y with
    | none => rfl
    | some b => simp only [Option.bind_some]; cases binOp op q a b <;> rfl
theorem w_un {op : UnOp} {x : SX} : stepAll call (⟨some d, none, .un op x⟩ :: r) ⟨e, bx, ad, H, lo, ba⟩ =
    (evX e x).bind fun a => (unOp op a).bind fun u => stepAll call r ⟨(d, some u) :: e, bx, ad, H, lo, ba⟩ := by
  rw [w_aop rfl]; simp only [aop, eval_mk]
  cases evX e x with
  | none => rfl
  | some a => simp only [Option.bind_some]; cases unOp op a <;> rfl
theorem w_conv {k : IntKind} {x : SX} : stepAll call (⟨some d, none, .conv k x⟩ :: r) ⟨e, bx, ad, H, lo, ba⟩ =
    (evX e x).bind fun a => (convV k a).bind fun u => stepAll call r ⟨(d, some u) :: e, bx, ad, H, lo, ba⟩ := by
  rw [w_aop rfl]; simp only [aop, eval_mk]
  cases evX e x with
  | none => rfl
  | some a => cases a <;> rfl
theorem w_sameS {x : SX} : stepAll call (⟨some d, none, .sameS x⟩ :: r) ⟨e, bx, ad, H, lo, ba⟩ =
    (evX e x).bind fun a => (strV a).bind fun u => stepAll call r ⟨(d, some u) :: e, bx, ad, H, lo, ba⟩ := by
  rw [w_aop rfl]; simp only [aop, eval_mk]
  cases evX e x with
  | none => rfl
  | some a => cases a <;> rfl
theorem w_bytesStr {x : SX} : stepAll call (⟨some d, none, .bytesStr x⟩ :: r) ⟨e, bx, ad, H, lo, ba⟩ =
    (evX e x).bind fun a => (bsV H a).bind fun u => stepAll call r ⟨(d, some u) :: e, bx, ad, H, lo, ba⟩ := by
  rw [w_aop rfl]; simp only [aop, eval_mk]
  cases evX e x with
  | none => rfl
  | some a =>
    simp only [Option.bind_some, bsV]
    cases elems H a with
    | none => rfl
    | some es => simp only; cases aop.bytesOf es <;> rfl
theorem w_mkFunc {f : Nat} {cap : List SX} : stepAll call (⟨some d, none, .mkFunc f cap⟩ :: r) ⟨e, bx, ad, H, lo, ba⟩ = (evXs e cap).bind fun vs => stepAll call r ⟨(d, some (.fn f vs)) :: e, bx, ad, H, lo, ba⟩ := by
  rw [w_aop rfl]; simp only [aop, evals_mk]; cases evXs e cap <;> rfl
theorem w_mkIface {t : Nat} {x : SX} : stepAll call (⟨some d, none, .mkIface t x⟩ :: r) ⟨e, bx, ad, H, lo, ba⟩ = (evX e x).bind fun v => stepAll call r ⟨(d, some (.iface t v)) :: e, bx, ad, H, lo, ba⟩ := by
  rw [w_aop rfl]; simp only [aop, eval_mk]; cases evX e x <;> rfl
theorem w_makeMap : stepAll call (⟨some d, none, .makeMap⟩ :: r) ⟨e, bx, ad, H, lo, ba⟩ = stepAll call r ⟨(d, some (.mref H.length)) :: e, bx, ad, H ++ [some (.map [])], lo, ba⟩ := by
  rw [w_aop rfl]; rfl
theorem w_makeSlice {sz bytes : Nat} {z : AV} {n c : SX} : stepAll call (⟨some d, none, .makeSlice sz bytes z n c⟩ :: r) ⟨e, bx, ad, H, lo, ba⟩ =
    (evX e n).bind fun a => (evX e c).bind fun b => match a, b with
      | .int .i64 n, .int .i64 c => if 0 ≤ n ∧ n ≤ c ∧ c ≤ 140737488355328 ∧ c.toNat * bytes ≤ maxBytes then
          (if c = 0 then stepAll call r ⟨(d, some .emp) :: e, bx, ad, H, lo, ba⟩ else
            stepAll call r ⟨(d, some (.ref H.length 0 0 n.toNat)) :: e, bx, ad, H ++ [some (.row sz 0 (List.replicate n.toNat z))], lo, ba⟩) else none
      | _, _ => none := by
  rw [w_aop rfl]; simp only [aop, eval_mk]
  cases evX e n with
  | none => rfl
  | some a => cases evX e c with
    | none => cases a <;> try rfl
              case int k n => cases k <;> rfl
    | some b =>
      simp only [Option.bind_some]
      cases a <;> try rfl
      case int k n =>
        cases k <;> try rfl
        cases b <;> try rfl
        case int k' c =>
          cases k' <;> try rfl
          simp only
          split
          · split <;> rfl
          · rfl
theorem w_slice {sz : Nat} {x : SX} {l h m : Option SX} : stepAll call (⟨some d, none, .slice sz x l h m⟩ :: r) ⟨e, bx, ad, H, lo, ba⟩ =
    (evX e x).bind fun v => (evXO e l).bind fun l => (evXO e h).bind fun h => (evXO e m).bind fun m => if sliceOk H sz v = true then (sliceOp v l h m).bind fun u => stepAll call r ⟨(d, some u) :: e, bx, ad, H, lo, ba⟩ else none := by
  rw [w_aop rfl]; simp only [aop, eval_mk, evalO_mk]
  cases evX e x with
  | none => rfl
  | some v => cases evXO e l with
    | none => rfl
    | some l => cases evXO e h with
      | none => rfl
      | some h => cases evXO e m with
        | none => rfl
        | some m =>
          simp only [Option.bind_some]
          split
          · cases sliceOp v l h m <;> rfl
          · rfl
theorem w_sliceS {x : SX} {l h : Option SX} : stepAll call (⟨some d, none, .sliceS x l h⟩ :: r) ⟨e, bx, ad, H, lo, ba⟩ =
    (evX e x).bind fun v => (evXO e l).bind fun l => (evXO e h).bind fun h => (sliceStr v l h).bind fun u => stepAll call r ⟨(d, some u) :: e, bx, ad, H, lo, ba⟩ := by
  rw [w_aop rfl]; simp only [aop, eval_mk, evalO_mk]
  cases evX e x with
  | none => rfl
  | some v => cases evXO e l with
    | none => rfl
    | some l => cases evXO e h with
      | none => rfl
      | some h => simp only [Option.bind_some]; cases sliceStr v l h <;> rfl
theorem w_faddr {off : Nat} {x : SX} : stepAll call (⟨some d, none, .faddr off x⟩ :: r) ⟨e, bx, ad, H, lo, ba⟩ = (evX e x).bind fun v => (faV off v).bind fun u => stepAll call r ⟨(d, some u) :: e, bx, ad, H, lo, ba⟩ := by
  rw [w_aop rfl]; simp only [aop, eval_mk]
  cases evX e x with
  | none => rfl
  | some v => cases v <;> rfl
theorem w_iaddr {sz : Nat} {x i : SX} : stepAll call (⟨some d, none, .iaddr sz x i⟩ :: r) ⟨e, bx, ad, H, lo, ba⟩ =
    (evX e x).bind fun v => (evX e i).bind fun i => (ixV H sz v i).bind fun u => stepAll call r ⟨(d, some u) :: e, bx, ad, H, lo, ba⟩ := by
  rw [w_aop rfl]; simp only [aop, eval_mk]
  cases evX e x with
  | none => rfl
  | some v => cases evX e i with
    | none => cases v <;> rfl
    | some i =>
      simp only [Option.bind_some]
      cases v <;> cases i <;> try rfl
      case vsl.int es k n =>
        simp only [ixV]
        by_cases h : 0 ≤ n
        · rw [if_pos h, if_pos h]
          cases es[n.toNat]? with
          | none => rfl
          | some u =>
            simp only
            by_cases h : u.cells.length = sz
            · rw [if_pos h, if_pos h]; rfl
            · rw [if_neg h, if_neg h]; rfl
        · rw [if_neg h, if_neg h]; rfl
      case ref.int b g off len k n =>
        simp only [ixV]
        by_cases h : 0 ≤ n ∧ n < len
        · rw [if_pos h, if_pos h]
          cases H.row b g with
          | none => rfl
          | some u =>
            obtain ⟨z, es⟩ := u
            simp only
            by_cases h : z = sz
            · rw [if_pos h, if_pos h]; rfl
            · rw [if_neg h, if_neg h]; rfl
        · rw [if_neg h, if_neg h]; rfl
theorem w_iaddrP {len sz : Nat} {x i : SX} : stepAll call (⟨some d, none, .iaddrP len sz x i⟩ :: r) ⟨e, bx, ad, H, lo, ba⟩ =
    (evX e x).bind fun v => (evX e i).bind fun i => (ixP len sz v i).bind fun u => stepAll call r ⟨(d, some u) :: e, bx, ad, H, lo, ba⟩ := by
  rw [w_aop rfl]; simp only [aop, eval_mk]
  cases evX e x with
  | none => rfl
  | some v => cases evX e i with
    | none => cases v <;> rfl
    | some i =>
      simp only [Option.bind_some]
      cases v <;> cases i <;> try rfl
      case ptr.int b g el o k n =>
        simp only [ixP]
        by_cases h : 0 ≤ n ∧ n < len
        · rw [if_pos h, if_pos h]; rfl
        · rw [if_neg h, if_neg h]; rfl
      case fptr.int cells o k n =>
        simp only [ixP]
        by_cases h : 0 ≤ n ∧ n < len
        · rw [if_pos h, if_pos h]; rfl
        · rw [if_neg h, if_neg h]; rfl
theorem w_field {agg : Bool} {sz off : Nat} {x : SX} : stepAll call (⟨some d, none, .field agg sz off x⟩ :: r) ⟨e, bx, ad, H, lo, ba⟩ = (evX e x).bind fun v => (fieldV agg sz off v).bind fun u => stepAll call r ⟨(d, some u) :: e, bx, ad, H, lo, ba⟩ := by
  rw [w_aop rfl]; simp only [aop, eval_mk]
  cases evX e x with
  | none => rfl
  | some v => cases v <;> try rfl
              case agg cs => simp only [Option.bind_some, fieldV]; cases readAt agg sz cs off <;> rfl
theorem w_indexS {x i : SX} : stepAll call (⟨some d, none, .indexS x i⟩ :: r) ⟨e, bx, ad, H, lo, ba⟩ =
    (evX e x).bind fun v => (evX e i).bind fun i => (ixS v i).bind fun u => stepAll call r ⟨(d, some u) :: e, bx, ad, H, lo, ba⟩ := by
  rw [w_aop rfl]; simp only [aop, eval_mk]
  cases evX e x with
  | none => rfl
  | some v => cases evX e i with
    | none => cases v <;> rfl
    | some i =>
      simp only [Option.bind_some]
      cases v <;> cases i <;> try rfl
      case str.int l k n =>
        simp only [ixS]
        by_cases h : 0 ≤ n
        · rw [if_pos h, if_pos h]; cases l[n.toNat]? <;> rfl
        · rw [if_neg h, if_neg h]; rfl
theorem w_indexG {agg : Bool} {n sz : Nat} {x i : SX} : stepAll call (⟨some d, none, .indexG agg n sz x i⟩ :: r) ⟨e, bx, ad, H, lo, ba⟩ =
    (evX e x).bind fun v => (evX e i).bind fun i => (ixG agg n sz v i).bind fun u => stepAll call r ⟨(d, some u) :: e, bx, ad, H, lo, ba⟩ := by
  rw [w_aop rfl]; simp only [aop, eval_mk]
  cases evX e x with
  | none => rfl
  | some v => cases evX e i with
    | none => cases v <;> rfl
    | some i =>
      simp only [Option.bind_some]
      cases v <;> cases i <;> try rfl
      case agg.int cs k m =>
        simp only [ixG]
        by_cases h : 0 ≤ m ∧ m < n
        · rw [if_pos h, if_pos h]; cases readAt agg sz cs (m.toNat * sz) <;> rfl
        · rw [if_neg h, if_neg h]; rfl
theorem w_extract {x : SX} {i : Nat} : stepAll call (⟨some d, none, .extract x i⟩ :: r) ⟨e, bx, ad, H, lo, ba⟩ = (evX e x).bind fun v => (exV i v).bind fun u => stepAll call r ⟨(d, some u) :: e, bx, ad, H, lo, ba⟩ := by
  rw [w_aop rfl]; simp only [aop, eval_mk]
  cases evX e x with
  | none => rfl
  | some v => cases v <;> try rfl
              case tup vs => simp only [Option.bind_some, exV]; cases vs[i]? <;> rfl
theorem w_len {k : LenK} {x : SX} : stepAll call (⟨some d, none, .len k x⟩ :: r) ⟨e, bx, ad, H, lo, ba⟩ = (evX e x).bind fun v => (lenV H k v).bind fun u => stepAll call r ⟨(d, some u) :: e, bx, ad, H, lo, ba⟩ := by
  rw [w_aop rfl]; simp only [aop, eval_mk]
  cases evX e x with
  | none => rfl
  | some v => simp only [Option.bind_some, lenV]; cases lenOf H k v <;> rfl
theorem w_append {sz bytes : Nat} {x y : SX} : stepAll call (⟨some d, none, .append sz bytes x y⟩ :: r) ⟨e, bx, ad, H, lo, ba⟩ =
    (evX e x).bind fun v => (evX e y).bind fun u => (source H u).bind fun ys => if szOk sz ys = true then (appendOp sz bytes v ys ⟨e, bx, ad, H, lo, ba⟩).bind fun p => stepAll call r (p.2.put (some d) (some p.1)) else none := by
  rw [w_aop rfl]; simp only [aop, eval_mk]
  cases evX e x with
  | none => rfl
  | some v => cases evX e y with
    | none => rfl
    | some u =>
      simp only [Option.bind_some]
      cases source H u with
      | none => rfl
      | some ys => simp only [Option.bind_some]; split <;> rfl
theorem w_minmax {mx : Bool} {xs : List SX} : stepAll call (⟨some d, none, .minmax mx xs⟩ :: r) ⟨e, bx, ad, H, lo, ba⟩ =
    (evXs e xs).bind fun vs => match vs with
      | .int k a :: l => (aop.minmaxOf mx k a l).bind fun n => stepAll call r ⟨(d, some (.int k n)) :: e, bx, ad, H, lo, ba⟩
      | _ => none := by
  rw [w_aop rfl]; simp only [aop, evals_mk]
  cases evXs e xs with
  | none => rfl
  | some vs =>
    simp only [Option.bind_some]
    cases vs with
    | nil => rfl
    | cons v l => cases v <;> try rfl
                  case int k a => simp only; cases aop.minmaxOf mx k a l <;> rfl
theorem w_lookup {kc : Eqc} {z : AV} {x k : SX} {ok : Bool} : stepAll call (⟨some d, none, .lookup kc z x k ok⟩ :: r) ⟨e, bx, ad, H, lo, ba⟩ =
    (evX e x).bind fun m => (evX e k).bind fun k => (entriesOf H m).bind fun kvs => (findKV kc k kvs 0).bind fun q =>
      stepAll call r ⟨(d, some (match q with | some (_, v) => if ok then .tup [v, .bool true] else v | none => if ok then .tup [z, .bool false] else z)) :: e, bx, ad, H, lo, ba⟩ := by
  rw [w_aop rfl]; simp only [aop, eval_mk]
  cases evX e x with
  | none => rfl
  | some m => cases evX e k with
    | none => rfl
    | some k =>
      simp only [Option.bind_some]
      cases entriesOf H m with
      | none => rfl
      | some kvs =>
        simp only [Option.bind_some]
        cases findKV kc k kvs 0 with
        | none => rfl
        | some q => cases q <;> rfl

/-! ### Boxes -/

theorem w_allocA {z : List AV} : stepAll call (⟨some d, none, .allocA z⟩ :: r) ⟨e, bx, ad, H, lo, ba⟩ = stepAll call r ⟨e, (d, some z) :: bx, (d, some (d, 0)) :: ad.map (killA d), H, lo, ba⟩ := (rfl)
theorem w_boxA {sz : Nat} {x : SX} : stepAll call (⟨some d, none, .boxA sz x⟩ :: r) ⟨e, bx, ad, H, lo, ba⟩ =
    (evX e x).bind fun v => if v.cells.length = sz ∧ v.plain = true then stepAll call r ⟨e, (d, some v.cells) :: bx, (d, some (d, 0)) :: ad.map (killA d), H, lo, ba⟩ else none := by
  simp only [stepAll, stepSI, wantedS, step, sop, eval_mk]
  cases evX e x with
  | none => rfl
  | some v =>
    simp only [Option.bind_some]
    split
    · rename_i s' h
      split at h
      · cases h; rw [if_pos (by assumption)]
      · cases h
    · rename_i h
      split at h
      · cases h
      · rw [if_neg (by assumption)]
theorem w_movA {t : Nat} : stepAll call (⟨some d, none, .movA t⟩ :: r) ⟨e, bx, ad, H, lo, ba⟩ =
    (look ad t).bind fun p => if (look bx p.1).isSome = true then stepAll call r ⟨e, bx, (d, some p) :: ad, H, lo, ba⟩ else none := by
  simp only [stepAll, stepSI, wantedS, step, sop]
  cases look ad t with
  | none => rfl
  | some p => simp only [Option.bind_some]
              cases (look bx p.1).isSome <;> rfl
theorem w_faddrA {off t : Nat} : stepAll call (⟨some d, none, .faddrA off t⟩ :: r) ⟨e, bx, ad, H, lo, ba⟩ =
    (look ad t).bind fun p => if (look bx p.1).isSome = true then stepAll call r ⟨e, bx, (d, some (p.1, p.2 + off)) :: ad, H, lo, ba⟩ else none := by
  simp only [stepAll, stepSI, wantedS, step, sop]
  cases look ad t with
  | none => rfl
  | some p => obtain ⟨k, o⟩ := p
              simp only [Option.bind_some]
              cases (look bx k).isSome <;> rfl
theorem w_iaddrA {n sz t : Nat} {i : SX} : stepAll call (⟨some d, none, .iaddrA n sz t i⟩ :: r) ⟨e, bx, ad, H, lo, ba⟩ =
    (look ad t).bind fun p => (evX e i).bind fun i => match i with
      | .int _ k => if 0 ≤ k ∧ k < n ∧ (look bx p.1).isSome = true then stepAll call r ⟨e, bx, (d, some (p.1, p.2 + k.toNat * sz)) :: ad, H, lo, ba⟩ else none
      | _ => none := by
  simp only [stepAll, stepSI, wantedS, step, sop, eval_mk]
  cases look ad t with
  | none => rfl
  | some p =>
    obtain ⟨k, o⟩ := p
    cases evX e i with
    | none => rfl
    | some i =>
      simp only [Option.bind_some]
      cases i <;> try rfl
      case int kk m =>
        simp only
        split
        · rename_i s' h
          split at h
          · cases h; rw [if_pos (by assumption)]
          · cases h
        · rename_i h
          split at h
          · cases h
          · rw [if_neg (by assumption)]
theorem w_storeA {sz t : Nat} {x : SX} : stepAll call (⟨none, none, .storeA sz t x⟩ :: r) ⟨e, bx, ad, H, lo, ba⟩ =
    (look ad t).bind fun p => (evX e x).bind fun v => (look bx p.1).bind fun cells =>
      if v.cells.length = sz ∧ v.plain = true ∧ p.2 + sz ≤ cells.length then stepAll call r ⟨e, (p.1, some (splice cells p.2 v.cells)) :: bx, ad, H, lo, ba⟩ else none := by
  simp only [stepAll, stepSI, wantedS, step, sop, eval_mk]
  cases look ad t with
  | none => rfl
  | some p =>
    obtain ⟨k, o⟩ := p
    cases evX e x with
    | none => rfl
    | some v =>
      simp only [Option.bind_some]
      cases look bx k with
      | none => rfl
      | some cells =>
        simp only [Option.bind_some]
        split
        · rename_i s' h
          split at h
          · cases h; rw [if_pos (by assumption)]; rfl
          · cases h
        · rename_i h
          split at h
          · cases h
          · rw [if_neg (by assumption)]
/-- a store into the heap -/
def storeV (H : Heap) (sz : Nat) (x v : AV) : Option (Nat × Heap) :=
  match x with
  | .ptr b g i off => match H.row b g with
    | some (n, es) => if v.cells.length = sz ∧ v.plain = true then (storeRow es i off v.cells).map fun es' => (b, H.set b (some (.row n g es'))) else none
    | none => none
  | _ => none
theorem w_store {sz : Nat} {x y : SX} : stepAll call (⟨none, none, .store sz x y⟩ :: r) ⟨e, bx, ad, H, lo, ba⟩ =
    (evX e x).bind fun p => (evX e y).bind fun v => (storeV H sz p v).bind fun q => stepAll call r ⟨e, bx, ad, q.2, min lo q.1, ba⟩ := by
  simp only [stepAll, stepSI, wantedS, step, sop, eval_mk]
  cases evX e x with
  | none => rfl
  | some p =>
    cases evX e y with
    | none => cases p <;> rfl
    | some v =>
      simp only [Option.bind_some]
      cases p <;> try rfl
      case ptr b g i off =>
        simp only [storeV]
        cases H.row b g with
        | none => rfl
        | some q =>
          obtain ⟨n, es⟩ := q
          simp only
          by_cases hc : v.cells.length = sz ∧ v.plain = true
          · rw [if_pos hc, if_pos hc]
            cases storeRow es i off v.cells <;> rfl
          · rw [if_neg hc, if_neg hc]; rfl

/-! ### Calls -/

theorem w_call {f : Nat} {xs : List SX} : stepAll call (⟨some d, none, .call f xs⟩ :: r) ⟨e, bx, ad, H, lo, ba⟩ =
    (evXs e xs).bind fun vs => (call f vs H).bind fun p => stepAll call r ⟨(d, some p.1) :: e, bx, ad, p.2.1, min lo p.2.2, ba⟩ := by
  simp only [stepAll, stepSI, wantedS, step, evals_mk, doCall]
  cases evXs e xs with
  | none => rfl
  | some vs =>
    simp only [Option.bind_some]
    cases call f vs H <;> rfl
theorem w_callN {f : Nat} {xs : List SX} : stepAll call (⟨none, none, .call f xs⟩ :: r) ⟨e, bx, ad, H, lo, ba⟩ =
    (evXs e xs).bind fun vs => (call f vs H).bind fun p => stepAll call r ⟨e, bx, ad, p.2.1, min lo p.2.2, ba⟩ := by
  simp only [stepAll, stepSI, wantedS, step, evals_mk, doCall]
  cases evXs e xs with
  | none => rfl
  | some vs =>
    simp only [Option.bind_some]
    cases call f vs H <;> rfl
theorem w_callv {x : SX} {xs : List SX} : stepAll call (⟨some d, none, .callv x xs⟩ :: r) ⟨e, bx, ad, H, lo, ba⟩ =
    (evX e x).bind fun g => (evXs e xs).bind fun vs => match g with
      | .fn f cap => (call f (vs ++ cap) H).bind fun p => stepAll call r ⟨(d, some p.1) :: e, bx, ad, p.2.1, min lo p.2.2, ba⟩
      | _ => none := by
  simp only [stepAll, stepSI, wantedS, step, eval_mk, evals_mk, doCall]
  cases evX e x with
  | none => rfl
  | some g =>
    cases evXs e xs with
    | none => cases g <;> rfl
    | some vs =>
      simp only [Option.bind_some]
      cases g <;> try rfl
      case fn f cap => simp only; cases call f (vs ++ cap) H <;> rfl

/-! ### Behind a region -/

theorem endRegion_nil {env boxes : List Nat} {s : St} : endRegion env boxes [] s = some (restrict env boxes s) := (rfl)
theorem restrict_mk {env boxes : List Nat} : restrict env boxes ⟨e, bx, ad, H, lo, ba⟩ = ⟨env.map fun d => (d, look e d), boxes.map fun d => (d, look bx d), boxes.map fun d => (d, some (d, 0)), H, lo, ba⟩ := (rfl)
theorem put_mk {v : Option AV} : (St.mk e bx ad H lo ba).put (some d) v = ⟨(d, v) :: e, bx, ad, H, lo, ba⟩ := (rfl)
theorem killA_mk {k : Nat} {o : Option (Nat × Nat)} : killA d (k, o) = (k, match o with | some q => if q.1 = d then none else o | none => none) := by
  cases o with
  | none => rfl
  | some q => simp only [killA]; split <;> rfl

/-! ### Control: what comes behind is looked at when it is reached, not before -/

theorem bind_congr1 {α β : Type} {x x' : Option α} {f : α → Option β} (h : x = x') : x.bind f = x'.bind f := h ▸ rfl

def thenX (r : Option (SExit × St)) (k : St → Option (SExit × St)) : Option (SExit × St) :=
  match r with
  | some (.normal, s) => k s
  | r => r
theorem thenX_congr {r r' : Option (SExit × St)} {k : St → Option (SExit × St)} (h : r = r') : thenX r k = thenX r' k := h ▸ rfl
theorem thenX_normal {s : St} {k : St → Option (SExit × St)} : thenX (some (.normal, s)) k = k s := (rfl)
theorem thenX_exit {i : Nat} {s : St} {k : St → Option (SExit × St)} : thenX (some (.exit i, s)) k = some (.exit i, s) := (rfl)
theorem thenX_ret {s : St} {k : St → Option (SExit × St)} : thenX (some (.ret, s)) k = some (.ret, s) := (rfl)
theorem thenX_ite {p : Prop} [Decidable p] {a b : Option (SExit × St)} {k : St → Option (SExit × St)} : thenX (if p then a else b) k = if p then thenX a k else thenX b k := by split <;> rfl

def condX (v : Option AV) (a b : Option (SExit × St)) : Option (SExit × St) :=
  match v with
  | some (.bool t) => if t = true then a else b
  | _ => none
theorem condX_congr {v v' : Option AV} {a b : Option (SExit × St)} (h : v = v') : condX v a b = condX v' a b := h ▸ rfl
theorem condX_bool {t : Bool} {a b : Option (SExit × St)} : condX (some (.bool t)) a b = if t = true then a else b := (rfl)

def blockX (id : Nat) (r : Option (SExit × St)) : Option (SExit × St) :=
  match r with
  | some (.exit id', s) => if id' = id then some (.normal, s) else some (.exit id', s)
  | r => r
theorem blockX_exit {id id' : Nat} {s : St} : blockX id (some (.exit id', s)) = if id' = id then some (.normal, s) else some (.exit id', s) := (rfl)
theorem blockX_normal {id : Nat} {s : St} : blockX id (some (.normal, s)) = some (.normal, s) := (rfl)
theorem blockX_ret {id : Nat} {s : St} : blockX id (some (.ret, s)) = some (.ret, s) := (rfl)
theorem blockX_ite {p : Prop} [Decidable p] {id : Nat} {a b : Option (SExit × St)} : blockX id (if p then a else b) = if p then blockX id a else blockX id b := by split <;> rfl

variable {F : Nat → Option Spec}
theorem x_region {is : List SI} {env boxes : List Nat} {s : St} : execT F (.region is env boxes []) s = (stepAll (runT F) is s).bind fun s' => some (SExit.normal, restrict env boxes s') := by
  rw [execT_region]
  cases stepAll (runT F) is s <;> rfl
theorem x_cond {x : SX} {a b : SCode} : execT F (.cond x a b) ⟨e, bx, ad, H, lo, ba⟩ = condX (evX e x) (execT F a ⟨e, bx, ad, H, lo, ba⟩) (execT F b ⟨e, bx, ad, H, lo, ba⟩) := by
  rw [execT_cond, eval_mk]
  cases evX e x with
  | none => rfl
  | some v => cases v <;> rfl
theorem x_seq {a b : SCode} {s : St} : execT F (.seq a b) s = thenX (execT F a s) (execT F b) := by
  rw [execT_seq]; rfl
theorem x_block {id : Nat} {b : SCode} {s : St} : execT F (.block id b) s = blockX id (execT F b s) := by
  rw [execT_block]; rfl
/-- One round of a loop. -/
theorem x_loop {b : SCode} {s : St} : execT F (.loop b) s = thenX (execT F b s) (execT F (.loop b)) := by
  rw [execT_loop]; rfl

/-- A function's end. -/
def finX (keep : Bool) (H : Heap) (rs : List SRes) (r : Option (SExit × St)) : Res :=
  match r with
  | some (.normal, s) => finish keep H rs s
  | some (.ret, s) => finish keep H rs s
  | _ => none
theorem finX_normal {keep : Bool} {H : Heap} {rs : List SRes} {s : St} : finX keep H rs (some (.normal, s)) = finish keep H rs s := (rfl)
theorem finX_ret {keep : Bool} {H : Heap} {rs : List SRes} {s : St} : finX keep H rs (some (.ret, s)) = finish keep H rs s := (rfl)
theorem finX_ite {p : Prop} [Decidable p] {keep : Bool} {H : Heap} {rs : List SRes} {a b : Option (SExit × St)} : finX keep H rs (if p then a else b) = if p then finX keep H rs a else finX keep H rs b := by split <;> rfl
theorem x_fun {f : Nat} {sf : SFun} (hF : F f = some (.code sf)) {args : List AV} (H : Heap) (ha : args.length ≤ sf.np) : runT F f args H =
    finX sf.keep H sf.results (execT F sf.body ⟨initEnv 0 args, [], [], H, H.length, H.length⟩) := by
  rw [runT_code hF, if_pos ha]; rfl

theorem guardX_congr {v v' : Option AV} {want : Bool} {a b : Option St} (h : v = v') : guardX v want a b = guardX v' want a b := h ▸ rfl
theorem guardX_undef {want : Bool} {a b : Option St} : guardX (some (.tup [])) want a b = b := (rfl)
theorem guardX_bool {t want : Bool} {a b : Option St} : guardX (some (.bool t)) want a b = if t = want then a else b := (rfl)
end

attribute [congr] bind_congr1 thenX_congr condX_congr guardX_congr
end Go.AI

/- What operations come to on values that are partly known; the rules of a run, gathered. -/
set_option linter.unusedVariables false
set_option linter.unusedSimpArgs false
namespace Go.AI
open Go

section
variable {H : Heap} {n0 n : Nat} {st : Bool}
theorem fz_bool {b : Bool} : frzV H n0 st (n + 1) (.bool b) = some (.bool b) := (rfl)
theorem fz_int {k : IntKind} {a : Int} : frzV H n0 st (n + 1) (.int k a) = some (.int k a) := (rfl)
theorem fz_str {s : List UInt8} : frzV H n0 st (n + 1) (.str s) = some (.str s) := (rfl)
theorem fz_vsl {l : List AV} : frzV H n0 st (n + 1) (.vsl l) = some (.vsl l) := (rfl)
theorem fz_nilsl : frzV H n0 st (n + 1) .nilsl = some (.vsl []) := (rfl)
theorem fz_emp : frzV H n0 st (n + 1) .emp = some (.vsl []) := (rfl)
theorem fz_nilp : frzV H n0 st (n + 1) .nilp = some .nilp := (rfl)
theorem fz_fptr {l : List AV} {o : Nat} : frzV H n0 st (n + 1) (.fptr l o) = some (.fptr l o) := (rfl)
theorem fz_nilfn : frzV H n0 st (n + 1) .nilfn = some .nilfn := (rfl)
theorem fz_agg {l : List AV} : frzV H n0 st (n + 1) (.agg l) = (mapO (frzV H n0 st n) l).map .agg := (rfl)
theorem fz_tup {l : List AV} : frzV H n0 st (n + 1) (.tup l) = (mapO (frzV H n0 st n) l).map .tup := (rfl)
theorem fz_fn {f : Nat} {l : List AV} : frzV H n0 st (n + 1) (.fn f l) = (mapO (frzV H n0 st n) l).map (.fn f) := (rfl)
theorem fz_ref {b g off len : Nat} (h : n0 ≤ b) : frzV H n0 st (n + 1) (.ref b g off len) = match H.row b g with
    | some (_, es) => if off + len ≤ es.length then (mapO (frzV H n0 true n) ((es.drop off).take len)).map .vsl else none
    | none => none := by
  rw [frzV, if_neg (by omega)]; rfl
theorem mapO_nil {α β : Type} {f : α → Option β} : mapO f [] = some [] := (rfl)
theorem mapO_cons {α β : Type} {f : α → Option β} {a : α} {l : List α} : mapO f (a :: l) = (f a).bind fun b => (mapO f l).bind fun r => some (b :: r) := by
  simp only [mapO]
  cases f a with
  | none => rfl
  | some b => simp only [Option.bind_some]; cases mapO f l <;> rfl
theorem mapO_same {f : AV → Option AV} : ∀ {l : List AV}, (∀ x ∈ l, f x = some x) → mapO f l = some l
  | [], _ => rfl
  | a :: l, h => by rw [mapO_cons, h a (List.mem_cons_self ..), mapO_same fun x hx => h x (List.mem_cons_of_mem _ hx)]; rfl
theorem mapO_app {α β : Type} {f : α → Option β} : ∀ {l l' : List α}, mapO f (l ++ l') = (mapO f l).bind fun r => (mapO f l').bind fun r' => some (r ++ r')
  | [], l' => by simp only [List.nil_append, mapO_nil, Option.bind_some]; cases mapO f l' <;> rfl
  | a :: l, l' => by
    rw [List.cons_append, mapO_cons, mapO_cons, mapO_app]
    cases f a with
    | none => rfl
    | some b =>
      simp only [Option.bind_some]
      cases mapO f l with
      | none => rfl
      | some r =>
        simp only [Option.bind_some]
        cases mapO f l' <;> rfl
theorem resOf_one {s : St} {r : SRes} : resultOf s [r] = evalRes s r := by
  simp only [resultOf, mapO]
  cases evalRes s r <;> rfl
theorem resOf_two {s : St} {r r' : SRes} : resultOf s [r, r'] = (evalRes s r).bind fun a => (evalRes s r').bind fun b => some (.tup [a, b]) := by
  simp only [resultOf, mapO]
  cases evalRes s r with
  | none => rfl
  | some a => cases evalRes s r' <;> rfl
theorem resOf_three {s : St} {r r' r'' : SRes} : resultOf s [r, r', r''] = (evalRes s r).bind fun a => (evalRes s r').bind fun b => (evalRes s r'').bind fun c => some (.tup [a, b, c]) := by
  simp only [resultOf, mapO]
  cases evalRes s r with
  | none => rfl
  | some a => cases evalRes s r' with
    | none => rfl
    | some b => cases evalRes s r'' <;> rfl
theorem resOf_nil {s : St} : resultOf s [] = some (.tup []) := (rfl)
theorem evalRes_slot {e : Env} {bx : List (Nat × Option (List AV))} {ad : List (Nat × Option (Nat × Nat))} {lo ba d : Nat} : evalRes ⟨e, bx, ad, H, lo, ba⟩ (.slot d) = look e d := (rfl)
theorem evalRes_cellA {e : Env} {bx : List (Nat × Option (List AV))} {ad : List (Nat × Option (Nat × Nat))} {lo ba d sz : Nat} {agg : Bool} : evalRes ⟨e, bx, ad, H, lo, ba⟩ (.cellA agg sz d) =
    (look ad d).bind fun p => (look bx p.1).bind fun cells => readAt agg sz cells p.2 := by
  simp only [evalRes]
  cases look ad d with
  | none => rfl
  | some p => obtain ⟨k, o⟩ := p; simp only [Option.bind_some]; cases look bx k <;> rfl
/-- What a function that leaves the heap alone comes to. -/
theorem fin_false {rs : List SRes} {s : St} : finish false H rs s = (resultOf s rs).bind fun r => if H.length ≤ s.lo then (frzV s.heap H.length false depth r).bind fun r' => some (r', H, H.length) else none := by
  simp only [finish]
  cases resultOf s rs with
  | none => rfl
  | some r =>
    simp only [Option.bind_some, Bool.false_eq_true, if_false]
    split
    · cases frzV s.heap H.length false depth r <;> rfl
    · rfl
theorem fin_true {rs : List SRes} {s : St} : finish true H rs s = (resultOf s rs).bind fun r => some (r, s.heap, s.lo) := by
  simp only [finish]
  cases resultOf s rs <;> rfl
end

theorem bo_add {k : IntKind} {a b : Int} {q : Eqc} : binOp .add q (.int k a) (.int k b) = some (.int k (k.wrap (a + b))) := by simp [binOp, intOp]
theorem bo_sub {k : IntKind} {a b : Int} {q : Eqc} : binOp .sub q (.int k a) (.int k b) = some (.int k (k.wrap (a - b))) := by simp [binOp, intOp]
theorem bo_mul {k : IntKind} {a b : Int} {q : Eqc} : binOp .mul q (.int k a) (.int k b) = some (.int k (k.wrap (a * b))) := by simp [binOp, intOp]
theorem bo_quo {k : IntKind} {a b : Int} {q : Eqc} : binOp .quo q (.int k a) (.int k b) = if b = 0 then none else some (.int k (k.wrap (a.tdiv b))) := by simp [binOp, intOp]
theorem bo_rem {k : IntKind} {a b : Int} {q : Eqc} : binOp .rem q (.int k a) (.int k b) = if b = 0 then none else some (.int k (a.tmod b)) := by simp [binOp, intOp]
theorem bo_and {k : IntKind} {a b : Int} {q : Eqc} : binOp .and q (.int k a) (.int k b) = some (.int k (k.wrap ((BitVec.ofInt k.bits a &&& BitVec.ofInt k.bits b).toNat : Int))) := by simp [binOp, intOp]
theorem bo_or {k : IntKind} {a b : Int} {q : Eqc} : binOp .or q (.int k a) (.int k b) = some (.int k (k.wrap ((BitVec.ofInt k.bits a ||| BitVec.ofInt k.bits b).toNat : Int))) := by simp [binOp, intOp]
theorem bo_xor {k : IntKind} {a b : Int} {q : Eqc} : binOp .xor q (.int k a) (.int k b) = some (.int k (k.wrap ((BitVec.ofInt k.bits a ^^^ BitVec.ofInt k.bits b).toNat : Int))) := by simp [binOp, intOp]
theorem bo_andNot {k : IntKind} {a b : Int} {q : Eqc} : binOp .andNot q (.int k a) (.int k b) = some (.int k (k.wrap ((BitVec.ofInt k.bits a &&& ~~~ BitVec.ofInt k.bits b).toNat : Int))) := by simp [binOp, intOp]
theorem bo_eql {k : IntKind} {a b : Int} {q : Eqc} : binOp .eql q (.int k a) (.int k b) = some (.bool (decide (a = b))) := by simp [binOp, intOp]; rfl
theorem bo_neq {k : IntKind} {a b : Int} {q : Eqc} : binOp .neq q (.int k a) (.int k b) = some (.bool (!decide (a = b))) := by simp [binOp, intOp, bne]; rfl
theorem bo_lss {k : IntKind} {a b : Int} {q : Eqc} : binOp .lss q (.int k a) (.int k b) = some (.bool (decide (a < b))) := by simp [binOp, intOp]
theorem bo_leq {k : IntKind} {a b : Int} {q : Eqc} : binOp .leq q (.int k a) (.int k b) = some (.bool (decide (a ≤ b))) := by simp [binOp, intOp]
theorem bo_gtr {k : IntKind} {a b : Int} {q : Eqc} : binOp .gtr q (.int k a) (.int k b) = some (.bool (decide (b < a))) := by simp [binOp, intOp]
theorem bo_geq {k : IntKind} {a b : Int} {q : Eqc} : binOp .geq q (.int k a) (.int k b) = some (.bool (decide (b ≤ a))) := by simp [binOp, intOp]
theorem bo_shl {k k' : IntKind} {a b : Int} {q : Eqc} : binOp .shl q (.int k a) (.int k' b) = if b < 0 then none else some (.int k (k.wrap (a * 2 ^ (min b.toNat k.bits)))) := by simp [binOp, shiftOp]
theorem bo_shr {k k' : IntKind} {a b : Int} {q : Eqc} : binOp .shr q (.int k a) (.int k' b) = if b < 0 then none else some (.int k (a.fdiv (2 ^ (min b.toNat k.bits)))) := by simp [binOp, shiftOp]
theorem bo_eqlB {a b : Bool} : binOp .eql .bool (.bool a) (.bool b) = some (.bool (a == b)) := (rfl)
theorem bo_neqB {a b : Bool} : binOp .neq .bool (.bool a) (.bool b) = some (.bool (!(a == b))) := (rfl)
theorem bo_eqlS {a b : List UInt8} {q : Eqc} : binOp .eql q (.str a) (.str b) = some (.bool (a == b)) := (rfl)
theorem bo_neqS {a b : List UInt8} {q : Eqc} : binOp .neq q (.str a) (.str b) = some (.bool (!(a == b))) := (rfl)
theorem bo_addS {a b : List UInt8} {q : Eqc} : binOp .add q (.str a) (.str b) = if a.length + b.length ≤ 9223372036854775807 then some (.str (a ++ b)) else none := (rfl)
theorem uo_not {b : Bool} : unOp .not (.bool b) = some (.bool !b) := (rfl)
theorem uo_neg {k : IntKind} {a : Int} : unOp .neg (.int k a) = some (.int k (k.wrap (0 - a))) := (rfl)
theorem cv_int {k k' : IntKind} {a : Int} : convV k (.int k' a) = some (.int k (k.wrap a)) := (rfl)
theorem pv_bool {t : Bool} {a b : Option AV} : pickV (.bool t) a b = if t = true then a else b := (rfl)
theorem ra_true {sz off : Nat} {cells : List AV} : readAt true sz cells off = if off + sz ≤ cells.length then some (.agg ((cells.drop off).take sz)) else none := (rfl)
theorem ra_false {sz off : Nat} {cells : List AV} : readAt false sz cells off = cells[off]? := (rfl)
theorem ld_fptr {H : Heap} {agg : Bool} {sz off : Nat} {cells : List AV} : loadV H agg sz (.fptr cells off) = readAt agg sz cells off := (rfl)
theorem ld_ptr {H : Heap} {agg : Bool} {sz b g i off : Nat} : loadV H agg sz (.ptr b g i off) = (H.row b g).bind fun q => (q.2[i]?).bind fun e => readAt agg sz e.cells off := by
  simp only [loadV]
  cases H.row b g with
  | none => rfl
  | some q => obtain ⟨z, es⟩ := q; simp only [Option.bind_some]; cases es[i]? <;> rfl
theorem ix_vsl {H : Heap} {sz : Nat} {es : List AV} {k : IntKind} {n : Int} : ixV H sz (.vsl es) (.int k n) = if 0 ≤ n then (es[n.toNat]?).bind fun e => if e.cells.length = sz then some (.fptr e.cells 0) else none else none := by
  simp only [ixV]
  cases es[n.toNat]? <;> rfl
theorem ix_ref {H : Heap} {sz b g off len : Nat} {k : IntKind} {n : Int} : ixV H sz (.ref b g off len) (.int k n) = if 0 ≤ n ∧ n < len then (H.row b g).bind fun q => if q.1 = sz then some (.ptr b g (off + n.toNat) 0) else none else none := by
  simp only [ixV]
  cases H.row b g <;> rfl
theorem ixp_fptr {len sz o : Nat} {cells : List AV} {k : IntKind} {n : Int} : ixP len sz (.fptr cells o) (.int k n) = if 0 ≤ n ∧ n < len then some (.fptr cells (o + n.toNat * sz)) else none := (rfl)
theorem ixp_ptr {len sz b g i o : Nat} {k : IntKind} {n : Int} : ixP len sz (.ptr b g i o) (.int k n) = if 0 ≤ n ∧ n < len then some (.ptr b g i (o + n.toNat * sz)) else none := (rfl)
theorem fa_fptr {off o : Nat} {cells : List AV} : faV off (.fptr cells o) = some (.fptr cells (o + off)) := (rfl)
theorem fa_ptr {off b g i o : Nat} : faV off (.ptr b g i o) = some (.ptr b g i (o + off)) := (rfl)
theorem nv_fptr {o : Nat} {cells : List AV} : nilV (.fptr cells o) = some (.fptr cells o) := (rfl)
theorem nv_ptr {b g i o : Nat} : nilV (.ptr b g i o) = some (.ptr b g i o) := (rfl)
theorem nv_fn {f : Nat} {c : List AV} : nilV (.fn f c) = some (.fn f c) := (rfl)
theorem sv_str {l : List UInt8} : strV (.str l) = some (.str l) := (rfl)
theorem fv_agg {agg : Bool} {sz off : Nat} {cs : List AV} : fieldV agg sz off (.agg cs) = readAt agg sz cs off := (rfl)
theorem ixs_str {l : List UInt8} {k : IntKind} {n : Int} : ixS (.str l) (.int k n) = if 0 ≤ n then (l[n.toNat]?).bind fun c => some (.int .u8 c.toNat) else none := by
  simp only [ixS]
  cases l[n.toNat]? <;> rfl
theorem ixg_agg {agg : Bool} {len sz : Nat} {cs : List AV} {k : IntKind} {n : Int} : ixG agg len sz (.agg cs) (.int k n) = if 0 ≤ n ∧ n < len then readAt agg sz cs (n.toNat * sz) else none := (rfl)
theorem ev_tup {i : Nat} {vs : List AV} : exV i (.tup vs) = vs[i]? := (rfl)
theorem ln_vsl {H : Heap} {es : List AV} : lenV H .sl (.vsl es) = some (.int .i64 es.length) := (rfl)
theorem ln_nilsl {H : Heap} : lenV H .sl .nilsl = some (.int .i64 0) := (rfl)
theorem ln_emp {H : Heap} : lenV H .sl .emp = some (.int .i64 0) := (rfl)
theorem ln_ref {H : Heap} {b g off len : Nat} : lenV H .sl (.ref b g off len) = some (.int .i64 len) := (rfl)
theorem ln_str {H : Heap} {l : List UInt8} : lenV H .str (.str l) = some (.int .i64 l.length) := (rfl)
theorem sr_vsl {H : Heap} {es : List AV} : source H (.vsl es) = some es := (rfl)
theorem sr_nilsl {H : Heap} : source H .nilsl = some [] := (rfl)
theorem sr_emp {H : Heap} : source H .emp = some [] := (rfl)
theorem sr_ref {H : Heap} {b g off len : Nat} : source H (.ref b g off len) = (H.row b g).bind fun q => if off + len ≤ q.2.length then some ((q.2.drop off).take len) else none := by
  simp only [source, elems]
  cases H.row b g <;> rfl
theorem sr_str {H : Heap} {l : List UInt8} : source H (.str l) = some (l.map fun c => .int .u8 c.toNat) := (rfl)
theorem sok_vsl {H : Heap} {sz : Nat} {es : List AV} : sliceOk H sz (.vsl es) = szOk sz es := (rfl)
theorem sok_nilsl {H : Heap} {sz : Nat} : sliceOk H sz .nilsl = true := (rfl)
theorem sok_emp {H : Heap} {sz : Nat} : sliceOk H sz .emp = true := (rfl)
theorem szOk_nil {sz : Nat} : szOk sz [] = true := (rfl)
theorem szOk_cons {sz : Nat} {a : AV} {l : List AV} : szOk sz (a :: l) = (a.cells.length == sz && szOk sz l) := (rfl)
theorem szOk_map {α : Type} {sz : Nat} {f : α → AV} {l : List α} (h : ∀ x, (f x).cells.length = sz) : szOk sz (l.map f) = true := by
  simp [szOk, h]
theorem cells_agg {l : List AV} : (AV.agg l).cells = l := (rfl)
theorem cells_int {k : IntKind} {a : Int} : (AV.int k a).cells = [.int k a] := (rfl)
theorem cells_bool {b : Bool} : (AV.bool b).cells = [.bool b] := (rfl)
theorem cells_str {s : List UInt8} : (AV.str s).cells = [.str s] := (rfl)
theorem cells_vsl {s : List AV} : (AV.vsl s).cells = [.vsl s] := (rfl)
theorem cells_nilsl : AV.nilsl.cells = [.nilsl] := (rfl)
theorem cells_emp : AV.emp.cells = [.emp] := (rfl)
theorem cells_ref {a b c d : Nat} : (AV.ref a b c d).cells = [.ref a b c d] := (rfl)
theorem cells_ptr {a b c d : Nat} : (AV.ptr a b c d).cells = [.ptr a b c d] := (rfl)
theorem cells_fptr {l : List AV} {o : Nat} : (AV.fptr l o).cells = [.fptr l o] := (rfl)
theorem cells_nilp : AV.nilp.cells = [.nilp] := (rfl)
theorem cells_fn {f : Nat} {l : List AV} : (AV.fn f l).cells = [.fn f l] := (rfl)
theorem cells_nilfn : AV.nilfn.cells = [.nilfn] := (rfl)
theorem cells_mref {b : Nat} : (AV.mref b).cells = [.mref b] := (rfl)
theorem cells_nilmap : AV.nilmap.cells = [.nilmap] := (rfl)
theorem plain_agg {l : List AV} : (AV.agg l).plain = true := (rfl)
theorem plain_int {k : IntKind} {a : Int} : (AV.int k a).plain = true := (rfl)
theorem plain_bool {b : Bool} : (AV.bool b).plain = true := (rfl)
theorem plain_str {s : List UInt8} : (AV.str s).plain = true := (rfl)
theorem plain_vsl {s : List AV} : (AV.vsl s).plain = true := (rfl)
theorem plain_nilsl : AV.nilsl.plain = true := (rfl)
theorem plain_emp : AV.emp.plain = true := (rfl)
theorem plain_ref {a b c d : Nat} : (AV.ref a b c d).plain = true := (rfl)
theorem plain_ptr {a b c d : Nat} : (AV.ptr a b c d).plain = true := (rfl)
theorem plain_fptr {l : List AV} {o : Nat} : (AV.fptr l o).plain = true := (rfl)
theorem plain_nilp : AV.nilp.plain = true := (rfl)
theorem plain_fn {f : Nat} {l : List AV} : (AV.fn f l).plain = true := (rfl)
theorem plain_nilfn : AV.nilfn.plain = true := (rfl)
theorem plain_mref {b : Nat} : (AV.mref b).plain = true := (rfl)
theorem plain_nilmap : AV.nilmap.plain = true := (rfl)
/-- A box is written over, whole. -/
theorem splice_all {cs vs : List AV} (h : vs.length = cs.length) : splice cs 0 vs = vs := by
  simp [splice, h]
theorem splice_def {cs vs : List AV} {off : Nat} : splice cs off vs = cs.take off ++ vs ++ cs.drop (off + vs.length) := (rfl)
theorem wrap_i64 {n : Int} (h : -9223372036854775808 ≤ n) (h' : n < 9223372036854775808) : IntKind.i64.wrap n = n := by
  simp [IntKind.wrap, IntKind.signed, IntKind.bits]; omega
theorem wrap_u64 {n : Int} (h : 0 ≤ n) (h' : n < 18446744073709551616) : IntKind.u64.wrap n = n := by
  simp [IntKind.wrap, IntKind.signed, IntKind.bits]; omega
theorem wrap_u8 {n : Int} (h : 0 ≤ n) (h' : n < 256) : IntKind.u8.wrap n = n := by
  simp [IntKind.wrap, IntKind.signed, IntKind.bits]; omega

theorem initEnv_nil {i : Nat} : initEnv i [] = [] := (rfl)
theorem initEnv_cons {i : Nat} {v : AV} {r : List AV} : initEnv i (v :: r) = (i, some v) :: initEnv (i + 1) r := (rfl)

theorem so_hi {es : List AV} {k : IntKind} {n : Int} : sliceOp (.vsl es) none (some (.int k n)) none = if 0 ≤ n ∧ n ≤ (es.length : Int) then some (.vsl (es.take n.toNat)) else none := by
  simp only [sliceOp, bound]
  by_cases h : 0 ≤ n ∧ n ≤ (es.length : Int)
  · simp [h]
  · rw [if_neg h, if_neg h]
theorem so_lo {es : List AV} {k : IntKind} {n : Int} : sliceOp (.vsl es) (some (.int k n)) none none = if 0 ≤ n ∧ n ≤ (es.length : Int) then some (.vsl (es.drop n.toNat)) else none := by
  simp only [sliceOp, bound]
  by_cases h : 0 ≤ n ∧ n ≤ (es.length : Int)
  · simp [h]
  · rw [if_neg h, if_neg h]
theorem so_lohi {es : List AV} {k k' : IntKind} {a b : Int} : sliceOp (.vsl es) (some (.int k a)) (some (.int k' b)) none = if 0 ≤ b ∧ b ≤ (es.length : Int) then (if 0 ≤ a ∧ a ≤ b then some (.vsl ((es.take b.toNat).drop a.toNat)) else none) else none := by
  simp only [sliceOp, bound]
  by_cases h : 0 ≤ b ∧ b ≤ (es.length : Int)
  · rw [if_pos h, if_pos h]
    simp only
    have : ((b.toNat : Nat) : Int) = b := Int.toNat_of_nonneg h.1
    rw [this]
    by_cases h' : 0 ≤ a ∧ a ≤ b
    · rw [if_pos h', if_pos h']; simp
    · rw [if_neg h', if_neg h']
  · rw [if_neg h, if_neg h]
theorem ss_hi {s : List UInt8} {k : IntKind} {n : Int} : sliceStr (.str s) none (some (.int k n)) = if 0 ≤ n ∧ n ≤ (s.length : Int) then some (.str (s.take n.toNat)) else none := by
  simp only [sliceStr, bound]
  by_cases h : 0 ≤ n ∧ n ≤ (s.length : Int)
  · simp [h]
  · rw [if_neg h, if_neg h]
theorem ss_lo {s : List UInt8} {k : IntKind} {n : Int} : sliceStr (.str s) (some (.int k n)) none = if 0 ≤ n ∧ n ≤ (s.length : Int) then some (.str (s.drop n.toNat)) else none := by
  simp only [sliceStr, bound]
  by_cases h : 0 ≤ n ∧ n ≤ (s.length : Int)
  · simp [h]
  · rw [if_neg h, if_neg h]
theorem ss_lohi {s : List UInt8} {k k' : IntKind} {a b : Int} : sliceStr (.str s) (some (.int k a)) (some (.int k' b)) = if 0 ≤ b ∧ b ≤ (s.length : Int) then (if 0 ≤ a ∧ a ≤ b then some (.str ((s.take b.toNat).drop a.toNat)) else none) else none := by
  simp only [sliceStr, bound]
  by_cases h : 0 ≤ b ∧ b ≤ (s.length : Int)
  · rw [if_pos h, if_pos h]
    simp only
    have : ((b.toNat : Nat) : Int) = b := Int.toNat_of_nonneg h.1
    rw [this]
    by_cases h' : 0 ≤ a ∧ a ≤ b
    · rw [if_pos h', if_pos h']
    · rw [if_neg h', if_neg h']
  · rw [if_neg h, if_neg h]
attribute [go_sem] so_hi so_lo so_lohi ss_hi ss_lo ss_lohi

/-! ### Regions with a drawn order -/
section
variable {call : Call} {fin : St → Option St} {G : List (Nat × Nat)} {e : Env} {bx : List (Nat × Option (List AV))} {ad : List (Nat × Option (Nat × Nat))} {H : Heap} {lo ba : Nat} {F : Nat → Option Spec}
theorem stepAll_one {i : SI} {s : St} : stepAll call [i] s = stepSI call i s := by
  simp only [stepAll]; cases stepSI call i s <;> rfl
theorem t_done {s : St} : stepTree call fin G .done s = fin s := (rfl)
theorem t_take {n : Nat} {i : SI} {k : STree} {s : St} : stepTree call fin G (.take n i k) s = (stepAll call [i] s).bind fun s' => stepTree call fin ((n, topOf s i.op) :: G) k s' := by
  rw [stepAll_one]; simp only [stepTree]; cases stepSI call i s <;> rfl
def withLo (lo : Nat) (s : St) : St := { s with lo := min lo s.lo }
theorem withLo_mk {l : Nat} : withLo l ⟨e, bx, ad, H, lo, ba⟩ = ⟨e, bx, ad, H, min l lo, ba⟩ := (rfl)
theorem lo_mk : (St.mk e bx ad H lo ba).lo = lo := (rfl)
theorem heap_mk : (St.mk e bx ad H lo ba).heap = H := (rfl)
theorem t_only {un : List Nat} {i : SI} {k : STree} : stepTree call fin G (.only un i k) ⟨e, bx, ad, H, lo, ba⟩ =
    (stepAll call [i] ⟨e, bx, ad, H, H.length, ba⟩).bind fun s' => if heeds G un s'.lo = true then stepTree call fin G k (withLo lo s') else none := by
  rw [stepAll_one]
  simp only [stepTree, stepG, stepLo]
  cases stepSI call i ⟨e, bx, ad, H, H.length, ba⟩ with
  | none => rfl
  | some s' =>
    simp only [Option.bind_some]
    cases heeds G un s'.lo <;> rfl
theorem x_draw {t : STree} {env boxes : List Nat} {s : St} : execT F (.draw t env boxes []) s = (stepTree (runT F) (fun s' => some (restrict env boxes s')) [] t s).bind fun s' => some (SExit.normal, s') := by
  rw [execT_draw]
  have : (endRegion env boxes []) = fun s' => some (restrict env boxes s') := (rfl)
  rw [this]
  cases stepTree (runT F) (fun s' => some (restrict env boxes s')) [] t s <;> rfl
theorem heeds_nil {un : List Nat} {l : Nat} : heeds [] un l = true := (rfl)
theorem heeds_cons {un : List Nat} {l n m : Nat} {G : List (Nat × Nat)} : heeds ((n, m) :: G) un l = ((un.contains n || decide (m ≤ l)) && heeds G un l) := (rfl)
theorem topV_ref {b g o l : Nat} : topV (some (.ref b g o l)) = b + 1 := (rfl)
theorem topV_ptr {b g o l : Nat} : topV (some (.ptr b g o l)) = b + 1 := (rfl)
theorem topV_mref {b : Nat} : topV (some (.mref b)) = b + 1 := (rfl)
theorem topV_vsl {l : List AV} : topV (some (.vsl l)) = 0 := (rfl)
theorem topV_fptr {l : List AV} {o : Nat} : topV (some (.fptr l o)) = 0 := (rfl)
theorem topV_nilsl : topV (some .nilsl) = 0 := (rfl)
theorem topV_emp : topV (some .emp) = 0 := (rfl)
theorem topV_str {l : List UInt8} : topV (some (.str l)) = 0 := (rfl)
end

theorem row_def {H : Heap} {b g : Nat} : H.row b g = match H.get b with | some (.row s g' es) => if g = g' then some (s, es) else none | _ => none := (rfl)

theorem bind_some' {α β : Type} {a : α} {f : α → Option β} : (some a).bind f = f a := (rfl)
theorem sum_inl {α β γ : Type} {f : α → γ} {g : β → γ} {a : α} : Sum.elim f g (.inl a) = f a := (rfl)
theorem sum_inr {α β γ : Type} {f : α → γ} {g : β → γ} {a : β} : Sum.elim f g (.inr a) = g a := (rfl)
attribute [go_sem] Int.le_refl bind_some' sum_inl sum_inr List.length_cons List.length_nil List.length_append List.length_map decide_true decide_false List.map Nat.le_refl Bool.not_true Bool.not_false Nat.zero_le Bool.true_and Bool.and_true Bool.false_and Bool.and_false Bool.true_or Bool.or_true Bool.false_or Bool.or_false
  decide_eq_true_eq Nat.min_self List.getElem?_cons_zero List.getElem?_cons_succ List.drop_zero List.drop_succ_cons List.drop_nil List.take_zero List.take_succ_cons List.take_nil List.nil_append List.cons_append Bool.and_eq_true Bool.false_eq_true Bool.true_eq_false and_true true_and and_self Option.isSome_some Nat.zero_add Nat.add_zero
  beq_self_eq_true true_or or_true or_self or_false false_or Nat.not_lt_zero not_true_eq_false not_false_eq_true false_and and_false Int.natCast_nonneg Int.toNat_natCast Option.map_some Option.map_none Option.bind_none List.getElem?_map
  t_done t_take t_only withLo_mk lo_mk heap_mk x_draw heeds_nil heeds_cons topOf topV_ref topV_ptr topV_mref topV_vsl topV_fptr topV_nilsl topV_emp topV_str eval_mk List.contains_cons List.contains_nil
attribute [go_sem] look_nil look_cons' evX_slot evX_lit evXs_nil evXs_cons evXO_none evXO_some w_nil w_guard undef_some undef_none
  w_mov w_pick w_alloc w_box w_build w_buildSlice w_loadA w_load w_nilCheck w_bin w_un w_conv w_sameS w_bytesStr w_mkFunc w_mkIface w_makeMap w_makeSlice w_slice w_sliceS w_faddr w_iaddr w_iaddrP w_field w_indexS w_indexG w_extract
  w_len w_append w_minmax w_lookup w_allocA w_boxA w_movA w_faddrA w_iaddrA w_storeA w_store w_call w_callN w_callv restrict_mk put_mk killA_mk x_region x_cond x_seq x_block execT_skip execT_exit execT_ret thenX_normal thenX_exit thenX_ret condX_bool blockX_exit blockX_normal blockX_ret finX_normal finX_ret guardX_bool guardX_undef undefV
  fz_bool fz_int fz_str fz_vsl fz_nilsl fz_emp fz_nilp fz_fptr fz_nilfn fz_agg fz_tup fz_fn mapO_nil mapO_cons resOf_one resOf_two resOf_three resOf_nil evalRes_slot evalRes_cellA fin_false fin_true
  bo_add bo_sub bo_mul bo_quo bo_rem bo_eql bo_neq bo_lss bo_leq bo_gtr bo_geq bo_shl bo_shr bo_eqlB bo_neqB bo_eqlS bo_neqS bo_addS uo_not uo_neg cv_int pv_bool ra_true ra_false ld_fptr ld_ptr
  ix_vsl ix_ref ixp_fptr ixp_ptr fa_fptr fa_ptr nv_fptr nv_ptr nv_fn sv_str fv_agg ixs_str ixg_agg ev_tup ln_vsl ln_nilsl ln_emp ln_ref ln_str sr_vsl sr_nilsl sr_emp sr_ref sr_str sok_vsl sok_nilsl sok_emp szOk_nil szOk_cons
  cells_agg cells_int cells_bool cells_str cells_vsl cells_nilsl cells_emp cells_ref cells_ptr cells_fptr cells_nilp cells_fn cells_nilfn cells_mref cells_nilmap
  plain_agg plain_int plain_bool plain_str plain_vsl plain_nilsl plain_emp plain_ref plain_ptr plain_fptr plain_nilp plain_fn plain_nilfn plain_mref plain_nilmap
  initEnv_nil initEnv_cons fillX fillEX depth
end Go.AI

/- Loops over lists. -/
set_option linter.unusedVariables false
set_option linter.unusedSimpArgs false
namespace Go.AI
open Go

section
variable {F : Nat → Option Spec} {b : SCode}

theorem loop_step {s s' : St} (h : execT F b s = some (.normal, s')) : execT F (.loop b) s = execT F (.loop b) s' := by rw [x_loop, h]; rfl
theorem loop_stop {s : St} {r : SExit × St} (h : execT F b s = some r) (hr : r.1 ≠ .normal) : execT F (.loop b) s = some r := by
  rw [x_loop, h]
  obtain ⟨e, s'⟩ := r
  cases e <;> first | rfl | exact absurd rfl hr

/-- By a measure: an invariant, and what stands at the end. -/
theorem loop_inv (I : Nat → St → Prop) (Q : SExit × St → Prop)
    (hstep : ∀ n s, I n s → (∃ r, execT F b s = some r ∧ r.1 ≠ .normal ∧ Q r) ∨ (∃ m s', m < n ∧ execT F b s = some (.normal, s') ∧ I m s')) :
    ∀ n s, I n s → ∃ r, execT F (.loop b) s = some r ∧ Q r := by
  intro n
  induction n using Nat.strongRecOn with
  | _ n ih =>
    intro s hs
    rcases hstep n s hs with ⟨r, h1, h2, h3⟩ | ⟨m, s', hm, h1, h2⟩
    · exact ⟨r, loop_stop h1 h2, h3⟩
    · rw [loop_step h1]; exact ih m hm s' h2

/-- Along a list: each element takes what is carried on. -/
theorem loop_fold {α σ : Type} (l : List α) (st : Nat → σ → St) (f : σ → α → σ) (e : SExit) (he : e ≠ .normal) (fin : σ → St)
    (hstep : ∀ i s x, l[i]? = some x → i < l.length → execT F b (st i s) = some (.normal, st (i + 1) (f s x)))
    (hend : ∀ s, execT F b (st l.length s) = some (e, fin s)) (s : σ) : execT F (.loop b) (st 0 s) = some (e, fin (l.foldl f s)) := by
  have key : ∀ (r : List α) (i : Nat) (s : σ), l.drop i = r → i ≤ l.length → execT F (.loop b) (st i s) = some (e, fin (r.foldl f s)) := by
    intro r
    induction r with
    | nil =>
      intro i s hd hi
      have : i = l.length := Nat.le_antisymm hi (List.drop_eq_nil_iff.1 hd)
      subst this
      exact loop_stop (hend s) he
    | cons x r ih =>
      intro i s hd hi
      have hx : l[i]? = some x := by
        have := congrArg (·[0]?) hd
        simpa using this
      have hlt : i < l.length := (List.getElem?_eq_some_iff.1 hx).1
      rw [loop_step (hstep i s x hx hlt)]
      refine ih (i + 1) _ ?_ hlt
      rw [← List.drop_drop, hd]; rfl
  exact key l 0 s rfl (Nat.zero_le _)

/-- A fold that may stop on its way. -/
def foldE {α σ ρ : Type} (f : σ → α → Sum σ ρ) : σ → List α → Sum σ ρ
  | s, [] => .inl s
  | s, x :: r => match f s x with
    | .inl s' => foldE f s' r
    | .inr q => .inr q

theorem loop_foldE {α σ ρ : Type} (l : List α) (st : Nat → σ → St) (f : σ → α → Sum σ ρ) (fin : σ → SExit × St) (out : ρ → SExit × St)
    (hstep : ∀ i s x, l[i]? = some x → i < l.length → execT F b (st i s) = some (Sum.elim (fun s' => (.normal, st (i + 1) s')) out (f s x)))
    (hend : ∀ s, execT F b (st l.length s) = some (fin s)) (hf : ∀ s, (fin s).1 ≠ .normal) (ho : ∀ q, (out q).1 ≠ .normal) (s : σ) :
    execT F (.loop b) (st 0 s) = some (Sum.elim fin out (foldE f s l)) := by
  have key : ∀ (r : List α) (i : Nat) (s : σ), l.drop i = r → i ≤ l.length → execT F (.loop b) (st i s) = some (Sum.elim fin out (foldE f s r)) := by
    intro r
    induction r with
    | nil =>
      intro i s hd hi
      have : i = l.length := Nat.le_antisymm hi (List.drop_eq_nil_iff.1 hd)
      subst this
      exact loop_stop (hend s) (hf s)
    | cons x r ih =>
      intro i s hd hi
      have hx : l[i]? = some x := by
        have := congrArg (·[0]?) hd
        simpa using this
      have hlt : i < l.length := (List.getElem?_eq_some_iff.1 hx).1
      have h1 := hstep i s x hx hlt
      cases hfx : f s x with
      | inl s' =>
        rw [hfx] at h1
        rw [loop_step h1, foldE, hfx]
        exact ih (i + 1) s' (by rw [← List.drop_drop, hd]; rfl) hlt
      | inr q =>
        rw [hfx] at h1
        rw [loop_stop h1 (ho q), foldE, hfx]; rfl
  exact key l 0 s rfl (Nat.zero_le _)
end

section
variable {F : Nat → Option Spec} {b : SCode}
/-- The same, with the place. -/
def foldI {α σ ρ : Type} (f : Nat → σ → α → Sum σ ρ) : Nat → σ → List α → Sum σ ρ
  | _, s, [] => .inl s
  | i, s, x :: r => match f i s x with
    | .inl s' => foldI f (i + 1) s' r
    | .inr q => .inr q

theorem loop_foldI {α σ ρ : Type} (l : List α) (st : Nat → σ → St) (f : Nat → σ → α → Sum σ ρ) (fin : σ → SExit × St) (out : ρ → SExit × St)
    (hstep : ∀ i s x, l[i]? = some x → i < l.length → execT F b (st i s) = some (Sum.elim (fun s' => (.normal, st (i + 1) s')) out (f i s x)))
    (hend : ∀ s, execT F b (st l.length s) = some (fin s)) (hf : ∀ s, (fin s).1 ≠ .normal) (ho : ∀ q, (out q).1 ≠ .normal) (s : σ) :
    execT F (.loop b) (st 0 s) = some (Sum.elim fin out (foldI f 0 s l)) := by
  have key : ∀ (r : List α) (i : Nat) (s : σ), l.drop i = r → i ≤ l.length → execT F (.loop b) (st i s) = some (Sum.elim fin out (foldI f i s r)) := by
    intro r
    induction r with
    | nil =>
      intro i s hd hi
      have : i = l.length := Nat.le_antisymm hi (List.drop_eq_nil_iff.1 hd)
      subst this
      exact loop_stop (hend s) (hf s)
    | cons x r ih =>
      intro i s hd hi
      have hx : l[i]? = some x := by
        have := congrArg (·[0]?) hd
        simpa using this
      have hlt : i < l.length := (List.getElem?_eq_some_iff.1 hx).1
      have h1 := hstep i s x hx hlt
      cases hfx : f i s x with
      | inl s' =>
        rw [hfx] at h1
        rw [loop_step h1, foldI, hfx]
        exact ih (i + 1) s' (by rw [← List.drop_drop, hd]; rfl) hlt
      | inr q =>
        rw [hfx] at h1
        rw [loop_stop h1 (ho q), foldI, hfx]; rfl
  exact key l 0 s rfl (Nat.zero_le _)

/-- A loop that ends early where something does not hold of an element. -/
theorem loop_all {α : Type} (l : List α) (st : Nat → St) (p : α → Bool) (fin out : SExit × St)
    (hstep : ∀ i x, l[i]? = some x → i < l.length → execT F b (st i) = some (if p x = true then (.normal, st (i + 1)) else out))
    (hend : execT F b (st l.length) = some fin) (hf : fin.1 ≠ .normal) (ho : out.1 ≠ .normal) : execT F (.loop b) (st 0) = some (if l.all p = true then fin else out) := by
  have key : ∀ (r : List α) (i : Nat), l.drop i = r → i ≤ l.length → execT F (.loop b) (st i) = some (if r.all p = true then fin else out) := by
    intro r
    induction r with
    | nil =>
      intro i hd hi
      have : i = l.length := Nat.le_antisymm hi (List.drop_eq_nil_iff.1 hd)
      subst this
      exact loop_stop hend hf
    | cons x r ih =>
      intro i hd hi
      have hx : l[i]? = some x := by
        have := congrArg (·[0]?) hd
        simpa using this
      have hlt : i < l.length := (List.getElem?_eq_some_iff.1 hx).1
      have h1 := hstep i x hx hlt
      cases hp : p x with
      | true =>
        rw [hp, if_pos rfl] at h1
        rw [loop_step h1, List.all_cons, hp, Bool.true_and]
        exact ih (i + 1) (by rw [← List.drop_drop, hd]; rfl) hlt
      | false =>
        rw [hp, if_neg (by decide)] at h1
        rw [loop_stop h1 ho, List.all_cons, hp, Bool.false_and, if_neg (by decide)]
  exact key l 0 rfl (Nat.zero_le _)
end

/-- The next place. -/
theorem wi {i : Nat} (h : i < 4611686018427387904) : IntKind.i64.wrap ((i : Int) + 1) = ((i + 1 : Nat) : Int) := by
  rw [wrap_i64] <;> omega
theorem ofNat_lt' {a b : Nat} : ((a : Int) < (b : Int)) ↔ a < b := Int.ofNat_lt
theorem ofNat_le' {a b : Nat} : ((a : Int) ≤ (b : Int)) ↔ a ≤ b := Int.ofNat_le
attribute [go_sem] ofNat_lt' ofNat_le'

theorem cast0 : ((0 : Nat) : Int) = 0 := (rfl)
theorem bv0 : (0#64).toNat = 0 := (rfl)
attribute [go_sem] cast0 bv0

/-! ### Sets -/
theorem u64_wrap_bv (x : BitVec 64) : IntKind.u64.wrap (x.toNat : Int) = (x.toNat : Int) := wrap_u64 (Int.natCast_nonneg _) (by have := x.isLt; omega)
theorem bv_of (x : BitVec 64) : (BitVec.ofInt 64 (x.toNat : Int)) = x := by simp
theorem bo_andU {a b : BitVec 64} {q : Eqc} : binOp .and q (.int .u64 (a.toNat : Int)) (.int .u64 (b.toNat : Int)) = some (.int .u64 ((a &&& b).toNat : Int)) := by
  rw [bo_and]
  show some (AV.int .u64 (IntKind.u64.wrap ((BitVec.ofInt 64 (a.toNat : Int) &&& BitVec.ofInt 64 (b.toNat : Int)).toNat : Int))) = _
  rw [bv_of, bv_of, u64_wrap_bv]
theorem bo_orU {a b : BitVec 64} {q : Eqc} : binOp .or q (.int .u64 (a.toNat : Int)) (.int .u64 (b.toNat : Int)) = some (.int .u64 ((a ||| b).toNat : Int)) := by
  rw [bo_or]
  show some (AV.int .u64 (IntKind.u64.wrap ((BitVec.ofInt 64 (a.toNat : Int) ||| BitVec.ofInt 64 (b.toNat : Int)).toNat : Int))) = _
  rw [bv_of, bv_of, u64_wrap_bv]
theorem bo_xorU {a b : BitVec 64} {q : Eqc} : binOp .xor q (.int .u64 (a.toNat : Int)) (.int .u64 (b.toNat : Int)) = some (.int .u64 ((a ^^^ b).toNat : Int)) := by
  rw [bo_xor]
  show some (AV.int .u64 (IntKind.u64.wrap ((BitVec.ofInt 64 (a.toNat : Int) ^^^ BitVec.ofInt 64 (b.toNat : Int)).toNat : Int))) = _
  rw [bv_of, bv_of, u64_wrap_bv]
theorem bo_andNotU {a b : BitVec 64} {q : Eqc} : binOp .andNot q (.int .u64 (a.toNat : Int)) (.int .u64 (b.toNat : Int)) = some (.int .u64 ((a &&& ~~~b).toNat : Int)) := by
  rw [bo_andNot]
  show some (AV.int .u64 (IntKind.u64.wrap ((BitVec.ofInt 64 (a.toNat : Int) &&& ~~~ BitVec.ofInt 64 (b.toNat : Int)).toNat : Int))) = _
  rw [bv_of, bv_of, u64_wrap_bv]
theorem bv_eq0 {a : BitVec 64} : ((a.toNat : Int) = 0) ↔ a = 0#64 := by
  constructor
  · intro h
    apply BitVec.eq_of_toNat_eq
    simpa using h
  · rintro rfl; rfl
theorem u64_0 : AV.int .u64 0 = AV.int .u64 ((0#64).toNat : Int) := (rfl)
attribute [go_sem] bo_andU bo_orU bo_xorU bo_andNotU bv_eq0
end Go.AI

/- Slices that are built by append: what they will read as when they are frozen. -/
set_option linter.unusedVariables false
set_option linter.unusedSimpArgs false
namespace Go.AI
open Go

def HLe (H H' : Heap) : Prop := ∀ b g p, H.row b g = some p → H'.row b g = some p

theorem mapO_imp {f g : AV → Option AV} (h : ∀ a b, f a = some b → g a = some b) : ∀ {l r : List AV}, mapO f l = some r → mapO g l = some r
  | [], r, e => e
  | a :: l, r, e => by
    rw [mapO_cons] at e ⊢
    cases hf : f a with
    | none => rw [hf] at e; cases e
    | some b =>
      rw [hf] at e
      rw [h a b hf]
      simp only [Option.bind_some] at e ⊢
      cases hm : mapO f l with
      | none => rw [hm] at e; cases e
      | some q => rw [hm] at e; rw [mapO_imp h hm]; exact e

theorem frzV_mono' {H H' : Heap} {n0 n0' : Nat} (hH : ∀ b g p, n0 ≤ b → H.row b g = some p → H'.row b g = some p) (h0 : n0' ≤ n0) : ∀ (n m : Nat), n ≤ m → ∀ (st st' : Bool), (st = true ∨ (st' = false ∧ n0 = n0')) → ∀ v x, frzV H n0 st n v = some x → frzV H' n0' st' m v = some x := by
  intro n
  induction n with
  | zero => intro m _ st st' _ v x h; simp [frzV] at h
  | succ n ih =>
    intro m hm st st' hst v x h
    obtain ⟨m, rfl⟩ : ∃ k, m = k + 1 := ⟨m - 1, by omega⟩
    have hm' : n ≤ m := by omega
    have hmap : ∀ {l r : List AV}, mapO (frzV H n0 st n) l = some r → mapO (frzV H' n0' st' m) l = some r := fun e => mapO_imp (fun a b => ih m hm' st st' hst a b) e
    have hmapT : ∀ {l r : List AV}, mapO (frzV H n0 true n) l = some r → mapO (frzV H' n0' true m) l = some r := fun e => mapO_imp (fun a b => ih m hm' true true (.inl rfl) a b) e
    cases v
    case ref b g off len =>
      simp only [frzV] at h ⊢
      by_cases hb : b < n0
      · rw [if_pos hb] at h
        rcases hst with rfl | ⟨rfl, rfl⟩
        · simp at h
        · rw [if_pos hb]
          cases st with
          | true => simp at h
          | false => exact h
      · rw [if_neg hb] at h
        rw [if_neg (by omega)]
        cases hr : H.row b g with
        | none => rw [hr] at h; cases h
        | some p =>
          obtain ⟨s, es⟩ := p
          rw [hr] at h
          rw [hH b g _ (by omega) hr]
          simp only at h ⊢
          split
          · rename_i hl
            rw [if_pos hl] at h
            simp only [Option.map_eq_some_iff] at h ⊢
            obtain ⟨r, hr, e⟩ := h
            exact ⟨r, hmapT hr, e⟩
          · rename_i hl; rw [if_neg hl] at h; cases h
    case ptr b g i off =>
      simp only [frzV] at h ⊢
      by_cases hb : b < n0
      · rw [if_pos hb] at h
        rcases hst with rfl | ⟨rfl, rfl⟩
        · simp at h
        · rw [if_pos hb]
          cases st with
          | true => simp at h
          | false => exact h
      · rw [if_neg hb] at h
        rw [if_neg (by omega)]
        cases hr : H.row b g with
        | none => rw [hr] at h; cases h
        | some p =>
          obtain ⟨s, es⟩ := p
          rw [hr] at h
          rw [hH b g _ (by omega) hr]
          simp only at h ⊢
          cases he : es[i]? with
          | none => rw [he] at h; cases h
          | some u =>
            rw [he] at h
            simp only [Option.map_eq_some_iff] at h ⊢
            obtain ⟨r, hr, e⟩ := h
            exact ⟨r, hmapT hr, e⟩
    case mref b =>
      simp only [frzV] at h ⊢
      by_cases hb : b < n0
      · rw [if_pos hb] at h
        rcases hst with rfl | ⟨rfl, rfl⟩
        · simp at h
        · rw [if_pos hb]
          cases st with
          | true => simp at h
          | false => exact h
      · rw [if_neg hb] at h; cases h
    case agg => simp only [frzV, Option.map_eq_some_iff] at h ⊢; obtain ⟨r, hr, e⟩ := h; exact ⟨r, hmap hr, e⟩
    case tup => simp only [frzV, Option.map_eq_some_iff] at h ⊢; obtain ⟨r, hr, e⟩ := h; exact ⟨r, hmap hr, e⟩
    case fn => simp only [frzV, Option.map_eq_some_iff] at h ⊢; obtain ⟨r, hr, e⟩ := h; exact ⟨r, hmap hr, e⟩
    case iface t v => simp only [frzV, Option.map_eq_some_iff] at h ⊢; obtain ⟨r, hr, e⟩ := h; exact ⟨r, ih m hm' st st' hst _ _ hr, e⟩
    all_goals (simp only [frzV] at h ⊢; exact h)

theorem frzV_mono {H H' : Heap} (hH : HLe H H') {n0 n0' : Nat} (h0 : n0' ≤ n0) (n m : Nat) (hn : n ≤ m) (st st' : Bool) (hs : st = true ∨ (st' = false ∧ n0 = n0')) (v x : AV) (h : frzV H n0 st n v = some x) : frzV H' n0' st' m v = some x :=
  frzV_mono' (fun b g p _ e => hH b g p e) h0 n m hn st st' hs v x h

/-! ### Rows in a heap that has changed -/
theorem get_app {K T : Heap} {b : Nat} (hb : b < K.length) : Heap.get (K ++ T) b = Heap.get K b := by
  unfold Heap.get; rw [List.getElem?_append_left hb]
theorem get_last {K : Heap} {x : Option Blk} : Heap.get (K ++ [x]) K.length = x := by
  unfold Heap.get; simp
theorem heap_get_lt {K : Heap} {b : Nat} {blk : Blk} (h : K.get b = some blk) : b < K.length := by
  unfold Heap.get at h
  rcases Nat.lt_or_ge b K.length with hl | hl
  · exact hl
  · rw [List.getElem?_eq_none hl] at h; cases h
theorem row_get' {H : Heap} {b g : Nat} {p : Nat × List AV} (h : H.row b g = some p) : H.get b = some (.row p.1 g p.2) := by
  obtain ⟨s, es⟩ := p
  exact Heap.row_get h
theorem row_lt {K : Heap} {b g : Nat} {p : Nat × List AV} (h : K.row b g = some p) : b < K.length := heap_get_lt (row_get' h)
theorem row_of_get {H : Heap} {b g s : Nat} {es : List AV} (h : H.get b = some (.row s g es)) : H.row b g = some (s, es) := by
  unfold Heap.row; rw [h]; simp
theorem row_last {K : Heap} {s g : Nat} {es : List AV} : Heap.row (K ++ [some (.row s g es)]) K.length g = some (s, es) := row_of_get get_last
theorem row_app {K T : Heap} {b g : Nat} {p : Nat × List AV} (h : K.row b g = some p) : Heap.row (K ++ T) b g = some p := by
  unfold Heap.row at h ⊢
  rw [get_app (row_lt (by unfold Heap.row; exact h))]; exact h
theorem get_set_self {K : Heap} {b : Nat} {x : Option Blk} (hb : b < K.length) : Heap.get (K.set b x) b = x := by
  unfold Heap.get; simp [hb]
theorem get_set_ne {K : Heap} {b c : Nat} {x : Option Blk} (h : b ≠ c) : Heap.get (K.set b x) c = Heap.get K c := by
  unfold Heap.get; rw [List.getElem?_set_ne h]
theorem row_set_self {K : Heap} {b s g : Nat} {es : List AV} (hb : b < K.length) : Heap.row (K.set b (some (.row s g es))) b g = some (s, es) := row_of_get (get_set_self hb)
theorem row_set_ne {K : Heap} {b c g : Nat} {x : Option Blk} (h : b ≠ c) : Heap.row (K.set b x) c g = Heap.row K c g := by
  unfold Heap.row; rw [get_set_ne h]
theorem hle_app {K T : Heap} : HLe K (K ++ T) := fun b g p h => row_app h
theorem hle_refl {K : Heap} : HLe K K := fun b g p h => h
theorem hle_trans {K K' K'' : Heap} (h : HLe K K') (h' : HLe K' K'') : HLe K K'' := fun b g p e => h' b g p (h b g p e)
theorem hle_drop {K : Heap} {b : Nat} : HLe (K.set b none) K := fun c g p h => by
  by_cases e : b = c
  · subst e
    by_cases hb : b < K.length
    · unfold Heap.row at h; rw [get_set_self hb] at h; cases h
    · have := row_lt h; simp at this; exact absurd this hb
  · rw [row_set_ne e] at h; exact h
theorem hle_set {K K' : Heap} {b : Nat} (h : ∀ c g p, c ≠ b → K.row c g = some p → K'.row c g = some p) : HLe (K.set b none) (K'.set b none) := fun c g p hp => by
  by_cases e : b = c
  · subst e
    have := row_lt hp
    simp at this
    unfold Heap.row at hp; rw [get_set_self this] at hp; cases hp
  · rw [row_set_ne e] at hp ⊢; exact h c g p (fun h => e h.symm) hp

/-! ### Slices that are being built -/

/-- A slice that lies in the heap from `n0` on, nowhere else, and reads as `xs`; `n`: how deep its elements go. -/
def Bld (n0 : Nat) (K : Heap) (sz n : Nat) (v : AV) (xs : List AV) : Prop :=
  (xs = [] ∧ (v = .nilsl ∨ v = .emp)) ∨ ∃ b g es, v = .ref b g 0 es.length ∧ n0 ≤ b ∧ K.row b g = some (sz, es) ∧ mapO (frzV (K.set b none) n0 true n) es = some xs

theorem Bld.nil {n0 : Nat} {K : Heap} {sz n : Nat} : Bld n0 K sz n .nilsl [] := .inl ⟨rfl, .inl rfl⟩
theorem Bld.emp {n0 : Nat} {K : Heap} {sz n : Nat} : Bld n0 K sz n .emp [] := .inl ⟨rfl, .inr rfl⟩

theorem mapO_len {α β : Type} {f : α → Option β} : ∀ {l : List α} {r : List β}, mapO f l = some r → l.length = r.length
  | l, r, h => (mapO_some h).1

theorem Bld.len {n0 : Nat} {K K' : Heap} {sz n : Nat} {v : AV} {xs : List AV} (h : Bld n0 K sz n v xs) : lenV K' .sl v = some (.int .i64 xs.length) := by
  rcases h with ⟨rfl, rfl | rfl⟩ | ⟨b, g, es, rfl, _, _, hm⟩
  · rfl
  · rfl
  · rw [ln_ref, mapO_len hm]

/-- What it reads as. -/
theorem Bld.view {n0 : Nat} {K : Heap} {sz n : Nat} {v : AV} {xs : List AV} (h : Bld n0 K sz n v xs) {m : Nat} (hm : n < m) (st : Bool) : frzV K n0 st m v = some (.vsl xs) := by
  obtain ⟨m, rfl⟩ : ∃ k, m = k + 1 := ⟨m - 1, by omega⟩
  rcases h with ⟨rfl, rfl | rfl⟩ | ⟨b, g, es, rfl, hb, hr, hmp⟩
  · rfl
  · rfl
  · rw [fz_ref hb, hr]
    simp only [Nat.zero_add, Nat.le_refl, if_true, List.drop_zero, List.take_length]
    rw [mapO_imp (fun a c => frzV_mono hle_drop (Nat.le_refl _) n m (by omega) true true (.inl rfl) a c) hmp]
    rfl

/-- In a heap of which what stands below its own end is as it was. -/
theorem Bld.ext {n0 : Nat} {K K' : Heap} {sz n : Nat} {v : AV} {xs : List AV} (h : Bld n0 K sz n v xs) (hk : ∀ b, b < K.length → K'[b]? = K[b]?) : Bld n0 K' sz n v xs := by
  rcases h with h | ⟨b, g, es, rfl, hb, hr, hm⟩
  · exact .inl h
  · have hrow : ∀ c g p, K.row c g = some p → K'.row c g = some p := fun c g p e => by
      have hc := row_lt e
      unfold Heap.row Heap.get at e ⊢
      rw [hk c hc]; exact e
    exact .inr ⟨b, g, es, rfl, hb, hrow _ _ _ hr, mapO_imp (fun a c => frzV_mono (hle_set fun c g p _ e => hrow c g p e) (Nat.le_refl _) n n (Nat.le_refl _) true true (.inl rfl) a c) hm⟩

/-- What it reads as, seen from further below. -/
theorem Bld.see {n0 : Nat} {K : Heap} {sz n : Nat} {v : AV} {xs : List AV} (h : Bld n0 K sz n v xs) {m n0' : Nat} (hm : n < m) (h0 : n0' ≤ n0) (st : Bool) : frzV K n0' st m v = some (.vsl xs) :=
  frzV_mono hle_refl h0 m m (Nat.le_refl _) true st (.inl rfl) _ _ (h.view hm true)

/-- In a heap of which what stands from `n0` on is as it was. -/
theorem Bld.ext2 {n0 : Nat} {K K' : Heap} {sz n : Nat} {v : AV} {xs : List AV} (h : Bld n0 K sz n v xs) (hk : ∀ b, n0 ≤ b → b < K.length → K'[b]? = K[b]?) : Bld n0 K' sz n v xs := by
  rcases h with h | ⟨b, g, es, rfl, hb, hr, hm⟩
  · exact .inl h
  · have hrow : ∀ c g p, n0 ≤ c → K.row c g = some p → K'.row c g = some p := fun c g p h0 e => by
      have hc := row_lt e
      unfold Heap.row Heap.get at e ⊢
      rw [hk c h0 hc]; exact e
    refine .inr ⟨b, g, es, rfl, hb, hrow _ _ _ hb hr, mapO_imp (fun a c => frzV_mono' (fun c g p h0 e => ?_) (Nat.le_refl _) n n (Nat.le_refl _) true true (.inl rfl) a c) hm⟩
    by_cases e' : b = c
    · subst e'
      have := row_lt e
      simp at this
      unfold Heap.row at e; rw [get_set_self this] at e; cases e
    · rw [row_set_ne e'] at e ⊢; exact hrow c g p h0 e

theorem Bld.below {n0 n1 : Nat} {K : Heap} {sz n : Nat} {v : AV} {xs : List AV} (h : Bld n0 K sz n v xs) : ∀ b g o l, v = .ref b g o l → b < K.length := by
  intro b g o l e
  rcases h with ⟨_, rfl | rfl⟩ | ⟨b', g', es, rfl, _, hr, _⟩
  · cases e
  · cases e
  · cases e; exact row_lt hr

/-- `append` of one element. -/
theorem Bld.appendL {n0 : Nat} {K : Heap} {sz n : Nat} {v : AV} {xs : List AV} (h : Bld n0 K sz n v xs) (h0 : n0 ≤ K.length) {y y' : AV} {n1 : Nat} (h1 : n0 ≤ n1) (hv : ∀ b g o l, v = .ref b g o l → b < n1)
    (hy : frzV K n1 true n y = some y') {bytes : Nat} (hl : (xs.length + 1) * bytes ≤ maxBytes) (hl' : xs.length + 1 ≤ maxBytes) {z : Nat} :
    ∃ v' K' m, n0 ≤ m ∧ (∀ e bx ad lo ba, lo ≤ K.length + 1 → appendOp sz bytes v [y] ⟨e, bx, ad, K ++ [some (Blk.row z 0 [y])], lo, ba⟩ = some (v', ⟨e, bx, ad, K', min lo m, ba⟩)) ∧
      Bld n0 K' sz n v' (xs ++ [y']) ∧ (∀ b, b < n0 → K'[b]? = K[b]?) ∧ n0 ≤ K'.length := by
  rcases h with ⟨rfl, hvn⟩ | ⟨b, g, es, rfl, hb, hr, hm⟩
  · refine ⟨.ref (K.length + 1) 0 0 1, K ++ [some (Blk.row z 0 [y])] ++ [some (Blk.row sz 0 [y])], K.length + 1, by omega, fun e bx ad lo ba hlo => ?_, ?_, ?_, ?_⟩
    · have hc : [y].length * bytes ≤ maxBytes ∧ [y].length ≤ maxBytes := by
        constructor
        · simpa using hl
        · simpa using hl'
      rcases hvn with rfl | rfl
      · simp only [appendOp]
        rw [if_pos hc]
        simp [addRow, Nat.min_eq_left hlo]
      · simp only [appendOp]
        rw [if_pos hc]
        simp [addRow, Nat.min_eq_left hlo]
    · refine .inr ⟨K.length + 1, 0, [y], rfl, by omega, ?_, ?_⟩
      · have := row_last (K := K ++ [some (Blk.row z 0 [y])]) (s := sz) (g := 0) (es := [y])
        simpa using this
      · have hle : HLe K ((K ++ [some (Blk.row z 0 [y])] ++ [some (Blk.row sz 0 [y])]).set (K.length + 1) none) := fun c g p e => by
          have hc := row_lt e
          rw [row_set_ne (by omega), List.append_assoc]
          exact row_app e
        rw [mapO_cons, frzV_mono hle h1 n n (Nat.le_refl _) true true (.inl rfl) y y' hy]
        rfl
    · intro b hb
      rw [List.append_assoc, List.getElem?_append_left (by omega)]
    · simp; omega
  · have hbl := row_lt hr
    have hlen : es.length = xs.length := mapO_len hm
    refine ⟨.ref b (g + 1) 0 (es.length + 1), (K ++ [some (Blk.row z 0 [y])]).set b (some (Blk.row sz (g + 1) (es ++ [y]))), b, hb, fun e bx ad lo ba hlo => ?_, ?_, ?_, ?_⟩
    · simp only [appendOp]
      rw [row_app hr]
      simp only
      rw [if_pos ⟨trivial, trivial, Nat.le_refl _, by rw [hlen]; simpa using hl, by rw [hlen]; simpa using hl'⟩]
      simp only [setRow, List.take_length, List.length_cons, List.length_nil, Nat.zero_add]
    · refine .inr ⟨b, g + 1, es ++ [y], by simp, hb, row_set_self (by simp; omega), ?_⟩
      have hle1 : HLe (K.set b none) (((K ++ [some (Blk.row z 0 [y])]).set b (some (Blk.row sz (g + 1) (es ++ [y])))).set b none) := by
        rw [List.set_set]
        exact hle_set fun c g p _ e => row_app e
      have hbn := hv b g 0 _ rfl
      have hle2 : frzV (K.set b none) n1 true n y = some y' := by
        -- nothing of `y` lies at `b`
        have : ∀ (n : Nat) (v x : AV), frzV K n1 true n v = some x → frzV (K.set b none) n1 true n v = some x := by
          intro n
          induction n with
          | zero => intro v x h; simp [frzV] at h
          | succ n ih =>
            intro v x h
            have hmap : ∀ {l r : List AV}, mapO (frzV K n1 true n) l = some r → mapO (frzV (K.set b none) n1 true n) l = some r := fun e => mapO_imp ih e
            cases v
            case ref c g off len =>
              simp only [frzV] at h ⊢
              by_cases hc : c < n1
              · rw [if_pos hc] at h; simp at h
              · rw [if_neg hc] at h ⊢
                rw [row_set_ne (by omega)]
                cases hr : K.row c g with
                | none => rw [hr] at h; cases h
                | some p =>
                  rw [hr] at h
                  simp only at h ⊢
                  split
                  · rename_i hl
                    rw [if_pos hl] at h
                    simp only [Option.map_eq_some_iff] at h ⊢
                    obtain ⟨r, hr, e⟩ := h
                    exact ⟨r, hmap hr, e⟩
                  · rename_i hl; rw [if_neg hl] at h; cases h
            case ptr c g i off =>
              simp only [frzV] at h ⊢
              by_cases hc : c < n1
              · rw [if_pos hc] at h; simp at h
              · rw [if_neg hc] at h ⊢
                rw [row_set_ne (by omega)]
                cases hr : K.row c g with
                | none => rw [hr] at h; cases h
                | some p =>
                  obtain ⟨s, es⟩ := p
                  rw [hr] at h
                  simp only at h ⊢
                  cases he : es[i]? with
                  | none => rw [he] at h; cases h
                  | some u =>
                    rw [he] at h
                    simp only [Option.map_eq_some_iff] at h ⊢
                    obtain ⟨r, hr, e⟩ := h
                    exact ⟨r, hmap hr, e⟩
            case agg => simp only [frzV, Option.map_eq_some_iff] at h ⊢; obtain ⟨r, hr, e⟩ := h; exact ⟨r, hmap hr, e⟩
            case tup => simp only [frzV, Option.map_eq_some_iff] at h ⊢; obtain ⟨r, hr, e⟩ := h; exact ⟨r, hmap hr, e⟩
            case fn => simp only [frzV, Option.map_eq_some_iff] at h ⊢; obtain ⟨r, hr, e⟩ := h; exact ⟨r, hmap hr, e⟩
            case iface t v => simp only [frzV, Option.map_eq_some_iff] at h ⊢; obtain ⟨r, hr, e⟩ := h; exact ⟨r, ih _ _ hr, e⟩
            all_goals (simp only [frzV] at h ⊢; exact h)
        exact this n y y' hy
      rw [mapO_app, mapO_imp (fun a c => frzV_mono hle1 (Nat.le_refl _) n n (Nat.le_refl _) true true (.inl rfl) a c) hm, mapO_cons, frzV_mono hle1 h1 n n (Nat.le_refl _) true true (.inl rfl) y y' hle2]
      rfl
    · intro c hc
      rw [List.getElem?_set_ne (by omega), List.getElem?_append_left (by omega)]
    · simp; omega

theorem Bld.append {n0 : Nat} {K : Heap} {sz n : Nat} {v : AV} {xs : List AV} (h : Bld n0 K sz n v xs) (h0 : n0 ≤ K.length) {y y' : AV} {n1 : Nat} (h1 : n0 ≤ n1) (hv : ∀ b g o l, v = .ref b g o l → b < n1)
    (hy : frzV K n1 true n y = some y') {bytes : Nat} (hl : (xs.length + 1) * bytes ≤ maxBytes) (hl' : xs.length + 1 ≤ maxBytes) {z : Nat} :
    ∃ v' K', (∀ e bx ad lo ba, lo ≤ n0 → appendOp sz bytes v [y] ⟨e, bx, ad, K ++ [some (Blk.row z 0 [y])], lo, ba⟩ = some (v', ⟨e, bx, ad, K', lo, ba⟩)) ∧
      Bld n0 K' sz n v' (xs ++ [y']) ∧ (∀ b, b < n0 → K'[b]? = K[b]?) ∧ n0 ≤ K'.length := by
  obtain ⟨v', K', m, hm, ha, hr⟩ := h.appendL h0 h1 hv hy hl hl' (z := z)
  exact ⟨v', K', fun e bx ad lo ba hlo => by rw [ha e bx ad lo ba (by omega), Nat.min_eq_left (by omega)], hr⟩

/-- A value without references. -/
def Frozen (n : Nat) (v : AV) : Prop := ∀ H n0 st, frzV H n0 st n v = some v

theorem Bld.append1 {n0 : Nat} {K : Heap} {sz n : Nat} {v : AV} {xs : List AV} (h : Bld n0 K sz n v xs) (h0 : n0 ≤ K.length) {y : AV} (hy : Frozen n y) {bytes : Nat} (hl : (xs.length + 1) * bytes ≤ maxBytes) (hl' : xs.length + 1 ≤ maxBytes) {z : Nat} :
    ∃ v' K', (∀ e bx ad lo ba, lo ≤ n0 → appendOp sz bytes v [y] ⟨e, bx, ad, K ++ [some (Blk.row z 0 [y])], lo, ba⟩ = some (v', ⟨e, bx, ad, K', lo, ba⟩)) ∧
      Bld n0 K' sz n v' (xs ++ [y]) ∧ (∀ b, b < n0 → K'[b]? = K[b]?) ∧ n0 ≤ K'.length :=
  h.append h0 (n1 := K.length) h0 (h.below (n1 := 0)) (hy _ _ _) hl hl'

/-- A field of a variable in the heap is written. -/
theorem store_fld {K : Heap} {b z : Nat} {cs : List AV} {off : Nat} {v : AV} (hr : K.row b 0 = some (z, [.agg cs])) (ho : off < cs.length) (hc : v.cells = [v]) (hp : v.plain = true) :
    storeV K 1 (.ptr b 0 0 off) v = some (b, K.set b (some (Blk.row z 0 [.agg (cs.set off v)]))) := by
  have hs : splice cs off [v] = cs.set off v := by
    rw [splice_def, List.set_eq_take_append_cons_drop, if_pos ho]
    simp
  simp only [storeV, hr, hc, hp, List.length_cons, List.length_nil, and_self, if_true, storeRow, List.getElem?_cons_zero, writeElem]
  rw [if_pos (by omega), hs]
  simp

/-- `append` of what is frozen to nothing. -/
theorem app_new {K : Heap} {sz bytes : Nat} {ys : List AV} {n : Nat} (hy : ∀ y ∈ ys, Frozen n y) (hl : ys.length * bytes ≤ maxBytes) (hl' : ys.length ≤ maxBytes) {x : AV} (hx : x = .nilsl ∨ x = .emp) :
    ∃ v T, (∀ e bx ad lo ba, appendOp sz bytes x ys ⟨e, bx, ad, K, lo, ba⟩ = some (v, ⟨e, bx, ad, K ++ T, lo, ba⟩)) ∧ v.cells.length = 1 ∧ v.plain = true ∧ v.cells = [v] ∧
      ∀ st, frzV (K ++ T) K.length st (n + 1) v = some (.vsl ys) := by
  cases ys with
  | nil =>
    refine ⟨x, [], fun e bx ad lo ba => ?_, ?_, ?_, ?_, fun st => ?_⟩
    · rcases hx with rfl | rfl <;> simp [appendOp]
    all_goals (rcases hx with rfl | rfl <;> rfl)
  | cons y r =>
    refine ⟨.ref K.length 0 0 (y :: r).length, [some (Blk.row sz 0 (y :: r))], fun e bx ad lo ba => ?_, rfl, rfl, rfl, fun st => ?_⟩
    · rcases hx with rfl | rfl
      · simp only [appendOp]; rw [if_pos ⟨hl, hl'⟩]; rfl
      · simp only [appendOp]; rw [if_pos ⟨hl, hl'⟩]; rfl
    · rw [fz_ref (Nat.le_refl _), row_last]
      simp only [Nat.zero_add, Nat.le_refl, if_true, List.drop_zero, List.take_length]
      rw [mapO_same fun z hz => hy z hz _ _ _]
      rfl

attribute [go_sem] row_last
end Go.AI

/- The data that the packages share, as plain values. -/
set_option linter.unusedVariables false
set_option linter.unusedSimpArgs false
namespace Go.AI
open Go

structure Share where
  t : Int
  n : Int
  deriving DecidableEq
structure Term where
  k : Int
  src : List Share
  deriving DecidableEq
structure Node where
  stuck : Bool
  alts : List (List Term)
  deriving DecidableEq
structure Report where
  time : Int
  dead : List Int
  nodes : List Node

def Share.av (s : Share) : AV := .agg [.int .i64 s.t, .int .i64 s.n]
def Term.av (m : Term) : AV := .agg [.int .i64 m.k, .vsl (m.src.map Share.av)]
def wayAv (w : List Term) : AV := .vsl (w.map Term.av)
def Node.av (x : Node) : AV := .agg [.bool x.stuck, .vsl (x.alts.map wayAv)]
def Report.av (r : Report) : AV := .agg [.int .i64 r.time, .vsl (r.dead.map (.int .i64)), .vsl (r.nodes.map Node.av)]

/-- Lengths that no counting passes. -/
def big : Nat := 1000000000
def Term.small (m : Term) : Prop := m.src.length ≤ big
def waySmall (w : List Term) : Prop := w.length ≤ big ∧ ∀ m ∈ w, m.small
def Node.small (x : Node) : Prop := x.alts.length ≤ big ∧ ∀ w ∈ x.alts, waySmall w
def graphSmall (l : List Node) : Prop := l.length ≤ big ∧ ∀ x ∈ l, x.small
def Report.small (r : Report) : Prop := r.dead.length ≤ big ∧ graphSmall r.nodes

theorem big_lt {n i : Nat} (h : n ≤ big) (hi : i < n) : i < 4611686018427387904 := by unfold big at h; omega

/-- The place of the first of which something holds; below 0: there is none. -/
def idx {α : Type} (p : α → Bool) (l : List α) : Int := Sum.elim (fun _ => -1) (fun i => ((i : Nat) : Int)) (foldI (fun i (_ : Unit) x => if p x = true then .inr i else .inl ()) 0 () l)

theorem foldI_find {α : Type} (p : α → Bool) : ∀ (l : List α) (i : Nat), foldI (fun i (_ : Unit) x => if p x = true then .inr i else .inl ()) i () l = (match l.findIdx? p with | some k => .inr (i + k) | none => .inl ())
  | [], i => rfl
  | x :: r, i => by
    simp only [foldI, List.findIdx?_cons]
    cases p x with
    | true => rfl
    | false =>
      simp only [Bool.false_eq_true, if_false]
      rw [foldI_find p r (i + 1)]
      cases r.findIdx? p with
      | none => rfl
      | some k => simp; omega
theorem idx_neg {α : Type} {p : α → Bool} {l : List α} : idx p l < 0 ↔ l.any p = false := by
  unfold idx
  rw [foldI_find]
  cases h : l.findIdx? p with
  | none =>
    simp only [Sum.elim_inl]
    rw [List.findIdx?_eq_none_iff] at h
    simp only [List.any_eq_false]
    constructor
    · intro _ x hx; simp [h x hx]
    · intro _; decide
  | some k =>
    simp only [Sum.elim_inr]
    constructor
    · intro hk; omega
    · intro hn
      exfalso
      obtain ⟨hk, hp, _⟩ := List.findIdx?_eq_some_iff_getElem.1 h
      rw [List.any_eq_false] at hn
      exact hn _ (List.getElem_mem hk) hp

theorem eq_zip {α : Type} [DecidableEq α] : ∀ {l l' : List α}, l.length = l'.length → (l.zip l').all (fun p => decide (p.1 = p.2)) = decide (l = l')
  | [], [], _ => rfl
  | x :: r, y :: r', h => by
    simp only [List.zip_cons_cons, List.all_cons, eq_zip (l := r) (l' := r') (by simpa using h)]
    by_cases e : x = y <;> simp [e]
  | [], _ :: _, h => by simp at h
  | _ :: _, [], h => by simp at h

theorem zip_get {α β : Type} {l : List α} {l' : List β} {i : Nat} {p : α × β} (h : (l.zip l')[i]? = some p) : l[i]? = some p.1 ∧ l'[i]? = some p.2 := by
  rw [List.getElem?_zip_eq_some] at h; exact h

theorem bo_neq_ii {k k' : IntKind} {a b c d : Int} : binOp .neq (.struct [(0, .int), (1, .int)]) (.agg [.int k a, .int k' b]) (.agg [.int k c, .int k' d]) = some (.bool (!(decide (a = c) && decide (b = d)))) := by
  have h1 : (a == c) = decide (a = c) := rfl
  have h2 : (b == d) = decide (b = d) := rfl
  by_cases h : a = c
  · by_cases h' : b = d <;> simp [binOp, eqAll, eqFields, eqAV, h1, h2, h, h']
  · simp [binOp, eqAll, eqFields, eqAV, h1, h2, h]
attribute [go_sem] bo_neq_ii

theorem mem_of_get {α : Type} {l : List α} {i : Nat} {x : α} (h : l[i]? = some x) : x ∈ l := List.mem_of_getElem? h
end Go.AI

