/- Parts of the proof: B.Solve, B.Dfs, B.Val, B.Bound. -/
import Derived.Test.YtebogdeaiecldaaBxLeads
/- Package bound: the solver of a configuration. -/
namespace Go.AM.B
open Go.Proofs.Ytebogdeaiecldaa.Tab
noncomputable section
set_option linter.unusedVariables false
set_option maxHeartbeats 4000000

def Solv.has (s : Solv) (id : Int) : Bool := (s.tables.find? fun t => t.1 == id).isSome
def addT (s : Solv) (t : Table) : Solv := if (s.tables.find? fun x => x.1 == t.id).isSome then s else { s with tables := s.tables ++ [(t.id, [t.miss])], all := s.all ++ [(0, t.id)] }
def addE (s : Solv) (e : Entry) : Solv := match s.tables.findIdx? fun x => x.1 == e.table with
  | some j => { s with tables := s.tables.set j (e.table, lookL s.tables e.table ++ [e.block]) }
  | none => s
def addB (s : Solv) (b : Block) : Solv := if (s.blocks.find? fun x => x.1 == b.id).isSome then s else { s with blocks := s.blocks ++ [(b.id, b.code.l)], all := s.all ++ [(1, b.id)] }
def addG (s : Solv) (g : Group) : Solv := if (s.groups.find? fun x => x.id == g.id).isSome then s else { s with groups := s.groups ++ [g], all := s.all ++ [(2, g.id)] }
def solve1 (c : Config) : Solv := c.tables.l.foldl addT ⟨[], [], [], []⟩
def solve2 (c : Config) : Solv := c.entries.l.foldl addE (solve1 c)
def solve3 (c : Config) : Solv := c.blocks.l.foldl addB (solve2 c)
def solve (c : Config) : Solv := c.groups.l.foldl addG (solve3 c)

def Fix (o : AM.Id) : Prop := o = (1, 4) ∨ o = (1, 0) ∨ o = (1, 1) ∨ o = (1, 2)
/-- The solver as it stands in the heap. -/
structure SH (h : Heap) (n : Nat) (s : Solv) (tvs bvs : List AV) (va : AV) : Prop where
  s0 : h.get (1, 4) = some (.cells [.map (1, 0), .map (1, 1), .map (1, 2), va])
  t0 : MapH h (1, 0) (s.tables.map fun t => .int .i64 t.1) tvs
  b0 : MapH h (1, 1) (s.blocks.map fun t => .int .i64 t.1) bvs
  g0 : MapH h (1, 2) (s.groups.map fun t => .int .i64 t.id) (s.groups.map fun g => .agg g.enc)
  tv : All2 (fun t v => OwnS h 1 (t.2.flatMap encI) t.2.length v) s.tables tvs
  bv : All2 (fun t v => SlV 7 (t.2.flatMap Instr.enc) t.2.length v) s.blocks bvs
  al : OwnS h 2 (s.all.flatMap encP) s.all.length va
  fr : Fresh h n
  da : ∀ o ∈ va.objs, ¬ Fix o
  dt : ∀ (i : Nat) (v : AV), tvs[i]? = some v → ∀ o ∈ v.objs, ¬ Fix o ∧ o ∉ va.objs ∧ ∀ (k : Nat) (u : AV), tvs[k]? = some u → o ∈ u.objs → k = i
  n2 : 2 ≤ n
theorem SH.mono {h : Heap} {n m : Nat} {s : Solv} {tvs bvs : List AV} {va : AV} (H : SH h n s tvs bvs va) (hm : n ≤ m) : SH h m s tvs bvs va := { H with fr := H.fr.mono hm, n2 := Nat.le_trans H.n2 hm }

theorem OwnS.lt {h : Heap} {n esz len : Nat} {cs : List AV} {v : AV} (H : OwnS h esz cs len v) (hf : Fresh h n) : ∀ o ∈ v.objs, o.1 < n := by
  rcases H with ⟨rfl, _⟩ | ⟨o, clip, rfl, h1, _⟩
  · intro o ho; cases ho
  · intro o' ho
    simp only [AV.objs, List.mem_singleton] at ho
    subst ho
    exact hf _ _ h1
theorem ne_nr {a b nr i : Nat} (h : a < nr) : ((a, b) : AM.Id) ≠ (nr, i) := by
  intro e; injection e with e1 e2; omega
theorem all2_get {α β : Type} {R : α → β → Prop} {l : List α} {m : List β} (h : All2 R l m) {i : Nat} {b : β} (hb : m[i]? = some b) : ∃ hi : i < l.length, R l[i] b := by
  obtain ⟨hi, rfl⟩ := List.getElem?_eq_some_iff.1 hb
  have := h.1
  exact ⟨by omega, h.2 i (by omega) hi⟩
theorem SH.vlt {h : Heap} {n : Nat} {s : Solv} {tvs bvs : List AV} {va : AV} (H : SH h n s tvs bvs va) {i : Nat} {v : AV} (hv : tvs[i]? = some v) : ∀ o ∈ v.objs, o.1 < n := by
  obtain ⟨hi, hr⟩ := all2_get H.tv hv
  exact OwnS.lt hr H.fr
/-- One more object in 'all', and a table's slice, it may be. -/
theorem SH.more {h h' : Heap} {n m n1 : Nat} {s s' : Solv} {tvs tvs' bvs bvs' : List AV} {va va' : AV} (H : SH h n s tvs bvs va) (hn : n ≤ n1) (hm : n1 ≤ m) (hf : Fresh h' m)
    (K : ∀ j, j.1 < n → j ∉ va.objs → ¬ Fix j → h'.get j = h.get j) (s0 : h'.get (1, 4) = some (.cells [.map (1, 0), .map (1, 1), .map (1, 2), va']))
    (t0 : MapH h' (1, 0) (s'.tables.map fun t => .int .i64 t.1) tvs') (b0 : MapH h' (1, 1) (s'.blocks.map fun t => .int .i64 t.1) bvs') (g0 : MapH h' (1, 2) (s'.groups.map fun t => .int .i64 t.id) (s'.groups.map fun g => .agg g.enc))
    (bv : All2 (fun t v => SlV 7 (t.2.flatMap Instr.enc) t.2.length v) s'.blocks bvs') (al : OwnS h' 2 (s'.all.flatMap encP) s'.all.length va') (hva : ∀ o ∈ va'.objs, n1 ≤ o.1)
    (ht : (s'.tables = s.tables ∧ tvs' = tvs) ∨ ∃ t w, s'.tables = s.tables ++ [t] ∧ tvs' = tvs ++ [w] ∧ OwnS h' 1 (t.2.flatMap encI) t.2.length w ∧ (∀ o ∈ w.objs, n ≤ o.1 ∧ o.1 < n1)) : SH h' m s' tvs' bvs' va' := by
  have h2 := H.n2
  have nf : ∀ o : AM.Id, n ≤ o.1 → ¬ Fix o := by
    intro o ho hfx
    unfold Fix at hfx
    rcases hfx with rfl | rfl | rfl | rfl <;> simp at ho <;> omega
  have keep : ∀ (i : Nat) (v : AV), tvs[i]? = some v → ∀ o ∈ v.objs, h'.get o = h.get o := fun i v hv o ho => K o (H.vlt hv o ho) (H.dt i v hv o ho).2.1 (H.dt i v hv o ho).1
  have old : All2 (fun t v => OwnS h' 1 (t.2.flatMap encI) t.2.length v) s.tables tvs := ⟨H.tv.1, fun i hi hk => (H.tv.2 i hi hk).frame fun j hj => keep i _ (List.getElem?_eq_getElem hk) j hj⟩
  refine ⟨s0, t0, b0, g0, ?_, bv, al, hf, fun o ho => nf o (by have := hva o ho; omega), ?_, by omega⟩
  · rcases ht with ⟨e1, e2⟩ | ⟨t, w, e1, e2, hw, _⟩
    · rw [e1, e2]; exact old
    · rw [e1, e2]; exact old.snoc hw
  · intro i v hv o ho
    have hov : ∀ (i : Nat) (v : AV), tvs[i]? = some v → ∀ o ∈ v.objs, o ∉ va'.objs := fun i v hv o ho h1 => by
      have := hva o h1
      have := H.vlt hv o ho
      omega
    rcases ht with ⟨e1, e2⟩ | ⟨t, w, e1, e2, hw, hwo⟩
    · rw [e2] at hv ⊢
      exact ⟨(H.dt i v hv o ho).1, hov i v hv o ho, (H.dt i v hv o ho).2.2⟩
    · have hv0 := hv
      rw [e2] at hv ⊢
      have cs : ∀ (k : Nat) (u : AV), (tvs ++ [w])[k]? = some u → tvs[k]? = some u ∨ (k = tvs.length ∧ u = w) := by
        intro k u hu
        rcases Nat.lt_trichotomy k tvs.length with hlt | heq | hgt
        · rw [List.getElem?_append_left hlt] at hu; exact .inl hu
        · rw [List.getElem?_append_right (by omega), heq] at hu; simp at hu; exact .inr ⟨heq, hu.symm⟩
        · rw [List.getElem?_eq_none (by simp; omega)] at hu; cases hu
      rcases cs i v hv with h1 | ⟨h1, h3⟩
      · refine ⟨(H.dt i v h1 o ho).1, hov i v h1 o ho, fun k u hu hou => ?_⟩
        rcases cs k u hu with h4 | ⟨h4, h5⟩
        · exact (H.dt i v h1 o ho).2.2 k u h4 hou
        · rw [h5] at hou
          have := hwo o hou
          have := H.vlt h1 o ho
          omega
      · rw [h3] at ho
        have hwo1 := hwo o ho
        refine ⟨nf o hwo1.1, fun h6 => by have := hva o h6; omega, fun k u hu hou => ?_⟩
        rcases cs k u hu with h4 | ⟨h4, h5⟩
        · have := H.vlt h4 o hou
          omega
        · rw [h4, h1]

theorem mapO_all2 {α : Type} {f : AV → Option AV} {R : α → AV → Prop} : ∀ {l : List α} {m : List AV}, All2 (fun t v => ∃ v', f v = some v' ∧ R t v') l m → ∃ m', mapO f m = some m' ∧ All2 R l m' := by
  intro l
  induction l with
  | nil =>
    intro m h
    have : m = [] := by have := h.1; simpa using this.symm
    subst this
    exact ⟨[], rfl, All2.nil R⟩
  | cons a l ih =>
    intro m h
    cases m with
    | nil => have := h.1; simp at this
    | cons b m =>
      obtain ⟨v', h1, h2⟩ := h.2 0 (by simp) (by simp)
      obtain ⟨m', h3, h4⟩ := ih (m := m) ⟨by have := h.1; simpa using this, fun i hi hk => by have := h.2 (i + 1) (by simpa using hi) (by simpa using hk); simpa using this⟩
      refine ⟨v' :: m', ?_, ⟨by simp [h4.1], fun i hi hk => ?_⟩⟩
      · simp only [List.getElem_cons_zero] at h1
        simp only [mapO, h1, h3]
      · cases i with
        | zero => exact h2
        | succ i => exact h4.2 i (by simpa using hi) (by simpa using hk)
theorem mapO_ints {α : Type} (k : Nat) (h : Heap) (f : α → Int) (l : List α) : mapO (AM.pur (k + 1) h) (l.map fun x => .int .i64 (f x)) = some (l.map fun x => .int .i64 (f x)) :=
  pur_scal_all _ h _ (by intro a ha; obtain ⟨x, _, rfl⟩ := List.mem_map.1 ha; rfl)
theorem SH.pur {h : Heap} {n : Nat} {s : Solv} {tvs bvs : List AV} {va : AV} (H : SH h n s tvs bvs va)
    (hsm : (∀ t ∈ s.tables, t.2.length < 1000000) ∧ (∀ t ∈ s.blocks, t.2.length < 1000000) ∧ (∀ t ∈ s.groups, t.buckets.l.length < 1000000) ∧ s.all.length < 1000000) : ∃ a, AM.pur purLimit h (.ptr (1, 4) 0) = some a ∧ IsSolv s a := by
  obtain ⟨b0, c0, e0⟩ := H.t0
  obtain ⟨b1, c1, e1⟩ := H.b0
  obtain ⟨b2, c2, e2⟩ := H.g0
  obtain ⟨tvs', h1, h2⟩ := mapO_all2 (f := AM.pur 38 h) (R := fun (t : Int × List Int) v => SlV 1 (t.2.flatMap encI) t.2.length v) (H.tv.mono fun t v _ _ hv => by
    obtain ⟨v', q1, q2⟩ := OwnS.pur hv 37 (fun a ha => by
      simp only [List.mem_flatMap, encI, List.mem_singleton] at ha
      obtain ⟨p, _, rfl⟩ := ha; rfl)
    exact ⟨v', q1, q2⟩)
  obtain ⟨bvs', h3, h4⟩ := mapO_all2 (f := AM.pur 38 h) (R := fun (t : Int × List Instr) v => SlV 7 (t.2.flatMap Instr.enc) t.2.length v) (H.bv.mono fun t v _ _ hv => SlV.pur hv 37 h)
  obtain ⟨va', h5, h6⟩ := OwnS.pur H.al 38 (fun a ha => by
      simp only [List.mem_flatMap, encP, List.mem_cons, List.not_mem_nil, or_false] at ha
      obtain ⟨p, _, rfl | rfl⟩ := ha <;> rfl)
  have hg : mapO (AM.pur 38 h) (s.groups.map fun g => .agg g.enc) = some (s.groups.map fun g => .agg g.enc) := pur_scal_all _ h _ (by intro a ha; obtain ⟨x, _, rfl⟩ := List.mem_map.1 ha; rfl)
  refine ⟨.pptr [.pmap (s.tables.map fun t => .int .i64 t.1) tvs', .pmap (s.blocks.map fun t => .int .i64 t.1) bvs', .pmap (s.groups.map fun t => .int .i64 t.id) (s.groups.map fun g => .agg g.enc), va'] 0, ?_, hsm, tvs', bvs', va', rfl, h2, h4, h6⟩
  have q1 : mapO (AM.pur 38 h) (s.tables.map fun t => .int .i64 t.1) = some (s.tables.map fun t => .int .i64 t.1) := mapO_ints 37 h (fun t : Int × List Int => t.1) s.tables
  have q2 : mapO (AM.pur 38 h) (s.blocks.map fun t => .int .i64 t.1) = some (s.blocks.map fun t => .int .i64 t.1) := mapO_ints 37 h (fun t : Int × List Instr => t.1) s.blocks
  have q3 : mapO (AM.pur 38 h) (s.groups.map fun t => .int .i64 t.id) = some (s.groups.map fun t => .int .i64 t.id) := mapO_ints 37 h (fun t : Group => t.id) s.groups
  have pm : ∀ (o : AM.Id) ks vs ks' vs' b c, h.get o = some (.map ks vs b c) → mapO (AM.pur 38 h) ks = some ks' → mapO (AM.pur 38 h) vs = some vs' → AM.pur 39 h (.map o) = some (.pmap ks' vs') := by
    intro o ks vs ks' vs' b c g1 g2 g3
    show (match h.get o with
      | some (.map ks vs _ _) => (match mapO (AM.pur 38 h) ks, mapO (AM.pur 38 h) vs with
        | some l, some l' => some (AV.pmap l l')
        | _, _ => none)
      | _ => none) = _
    rw [g1]; simp only [g2, g3]
  have p1 := pm _ _ _ _ _ _ _ e0 q1 h1
  have p2 := pm _ _ _ _ _ _ _ e1 q2 h3
  have p3 := pm _ _ _ _ _ _ _ e2 q3 hg
  show (match h.get (1, 4) with
      | some (.cells cs) => (match mapO (AM.pur 39 h) cs with
        | some l => some (AV.pptr l 0)
        | none => none)
      | _ => none) = _
  rw [H.s0]
  simp only [mapO, p1, p2, p3, h5]

theorem addT_eqs (s : Solv) (t : Table) : (addT s t).blocks = s.blocks ∧ (addT s t).groups = s.groups ∧ (addT s t).all.length ≤ s.all.length + 1 := by
  unfold addT
  split
  · exact ⟨rfl, rfl, by omega⟩
  · exact ⟨rfl, rfl, by simp⟩
theorem addE_eqs (s : Solv) (t : Entry) : (addE s t).blocks = s.blocks ∧ (addE s t).groups = s.groups ∧ (addE s t).all = s.all := by
  unfold addE
  split <;> exact ⟨rfl, rfl, rfl⟩
theorem addB_eqs (s : Solv) (t : Block) : (addB s t).tables = s.tables ∧ (addB s t).groups = s.groups ∧ (addB s t).all.length ≤ s.all.length + 1 ∧ ∀ x ∈ (addB s t).blocks, x ∈ s.blocks ∨ x = (t.id, t.code.l) := by
  unfold addB
  split
  · exact ⟨rfl, rfl, by omega, fun x h => .inl h⟩
  · exact ⟨rfl, rfl, by simp, fun x h => by simpa using h⟩
theorem addG_eqs (s : Solv) (t : Group) : (addG s t).tables = s.tables ∧ (addG s t).blocks = s.blocks ∧ (addG s t).all.length ≤ s.all.length + 1 ∧ ∀ x ∈ (addG s t).groups, x ∈ s.groups ∨ x = t := by
  unfold addG
  split
  · exact ⟨rfl, rfl, by omega, fun x h => .inl h⟩
  · exact ⟨rfl, rfl, by simp, fun x h => by simpa using h⟩
structure Small (c : Config) : Prop where
  sn : c.nodes.l.length < 100000
  sa : ∀ x ∈ c.nodes.l, x.arms.l.length < 100000
  st : c.tables.l.length < 100000
  se : c.entries.l.length < 100000
  sb : c.blocks.l.length < 100000
  sg : c.groups.l.length < 100000
  sc : ∀ x ∈ c.blocks.l, x.code.l.length < 100000
  sk : ∀ x ∈ c.groups.l, x.buckets.l.length < 100000
theorem foldT (l : List Table) : ∀ s : Solv, (l.foldl addT s).blocks = s.blocks ∧ (l.foldl addT s).groups = s.groups ∧ (l.foldl addT s).all.length ≤ s.all.length + l.length := by
  induction l with
  | nil => intro s; exact ⟨rfl, rfl, Nat.le_refl _⟩
  | cons a l ih =>
    intro s
    obtain ⟨h1, h2, h3⟩ := ih (addT s a)
    obtain ⟨g1, g2, g3⟩ := addT_eqs s a
    simp only [List.foldl_cons, List.length_cons]
    exact ⟨h1.trans g1, h2.trans g2, by omega⟩
theorem foldE (l : List Entry) : ∀ s : Solv, (l.foldl addE s).blocks = s.blocks ∧ (l.foldl addE s).groups = s.groups ∧ (l.foldl addE s).all = s.all := by
  induction l with
  | nil => intro s; exact ⟨rfl, rfl, rfl⟩
  | cons a l ih =>
    intro s
    obtain ⟨h1, h2, h3⟩ := ih (addE s a)
    obtain ⟨g1, g2, g3⟩ := addE_eqs s a
    simp only [List.foldl_cons]
    exact ⟨h1.trans g1, h2.trans g2, h3.trans g3⟩
theorem foldB (l : List Block) : ∀ s : Solv, (l.foldl addB s).tables = s.tables ∧ (l.foldl addB s).groups = s.groups ∧ (l.foldl addB s).all.length ≤ s.all.length + l.length ∧ ∀ x ∈ (l.foldl addB s).blocks, x ∈ s.blocks ∨ ∃ b ∈ l, x = (b.id, b.code.l) := by
  induction l with
  | nil => intro s; exact ⟨rfl, rfl, Nat.le_refl _, fun x h => .inl h⟩
  | cons a l ih =>
    intro s
    obtain ⟨h1, h2, h3, h4⟩ := ih (addB s a)
    obtain ⟨g1, g2, g3, g4⟩ := addB_eqs s a
    simp only [List.foldl_cons, List.length_cons]
    refine ⟨h1.trans g1, h2.trans g2, by omega, fun x hx => ?_⟩
    rcases h4 x hx with h | ⟨b, hb, h⟩
    · rcases g4 x h with h | h
      · exact .inl h
      · exact .inr ⟨a, by simp, h⟩
    · exact .inr ⟨b, by simp [hb], h⟩
theorem foldG (l : List Group) : ∀ s : Solv, (l.foldl addG s).tables = s.tables ∧ (l.foldl addG s).blocks = s.blocks ∧ (l.foldl addG s).all.length ≤ s.all.length + l.length ∧ ∀ x ∈ (l.foldl addG s).groups, x ∈ s.groups ∨ x ∈ l := by
  induction l with
  | nil => intro s; exact ⟨rfl, rfl, Nat.le_refl _, fun x h => .inl h⟩
  | cons a l ih =>
    intro s
    obtain ⟨h1, h2, h3, h4⟩ := ih (addG s a)
    obtain ⟨g1, g2, g3, g4⟩ := addG_eqs s a
    simp only [List.foldl_cons, List.length_cons]
    refine ⟨h1.trans g1, h2.trans g2, by omega, fun x hx => ?_⟩
    rcases h4 x hx with h | h
    · rcases g4 x h with h | h
      · exact .inl h
      · exact .inr (by simp [h])
    · exact .inr (by simp [h])
theorem foldT_len (l : List Table) : ∀ s : Solv, (∀ x ∈ s.tables, x.2.length ≤ 1) → ∀ x ∈ (l.foldl addT s).tables, x.2.length ≤ 1 := by
  induction l with
  | nil => intro s h; exact h
  | cons a l ih =>
    intro s h
    refine ih (addT s a) fun x hx => ?_
    unfold addT at hx
    split at hx
    · exact h x hx
    · rcases List.mem_append.1 hx with h1 | h1
      · exact h x h1
      · simp at h1; rw [h1]; simp
theorem foldE_len (l : List Entry) : ∀ (s : Solv) (m : Nat), (∀ x ∈ s.tables, x.2.length ≤ m) → ∀ x ∈ (l.foldl addE s).tables, x.2.length ≤ m + l.length := by
  induction l with
  | nil => intro s m h; exact h
  | cons a l ih =>
    intro s m h x hx
    have := ih (addE s a) (m + 1) (fun y hy => by
      unfold addE at hy
      split at hy
      · rename_i j hj
        rcases List.mem_or_eq_of_mem_set hy with h1 | h1
        · exact Nat.le_succ_of_le (h y h1)
        · have h2 : (lookL s.tables a.table).length < m + 1 := lookL_le (fun t ht => Nat.lt_succ_of_le (h t ht)) (by omega) _
          rw [h1]; simp; omega
      · exact Nat.le_succ_of_le (h y hy)) x hx
    simp only [List.length_cons]; omega
theorem solve_small {c : Config} (hl : Small c) :
    (∀ t ∈ (solve c).tables, t.2.length < 1000000) ∧ (∀ t ∈ (solve c).blocks, t.2.length < 1000000) ∧ (∀ t ∈ (solve c).groups, t.buckets.l.length < 1000000) ∧ (solve c).all.length < 1000000 := by
  obtain ⟨hn, ha, ht, he, hb, hg, hc, hk⟩ := hl
  obtain ⟨t1, t2, t3⟩ := foldT c.tables.l ⟨[], [], [], []⟩
  obtain ⟨e1, e2, e3⟩ := foldE c.entries.l (solve1 c)
  obtain ⟨b1, b2, b3, b4⟩ := foldB c.blocks.l (solve2 c)
  obtain ⟨g1, g2, g3, g4⟩ := foldG c.groups.l (solve3 c)
  refine ⟨fun t h => ?_, fun t h => ?_, fun t h => ?_, ?_⟩
  · have h1 : t ∈ (solve2 c).tables := by unfold solve at h; rw [g1] at h; unfold solve3 at h; rw [b1] at h; exact h
    have := foldE_len c.entries.l (solve1 c) 1 (foldT_len c.tables.l _ (by simp)) t h1
    omega
  · have h1 : t ∈ (solve3 c).blocks := by unfold solve at h; rw [g2] at h; exact h
    rcases b4 t h1 with h2 | ⟨b, h2, h3⟩
    · unfold solve2 at h2; rw [e1] at h2; unfold solve1 at h2; rw [t1] at h2; cases h2
    · have := hc b h2; rw [h3]; dsimp only; omega
  · rcases g4 t h with h2 | h2
    · unfold solve3 at h2; rw [b2] at h2; unfold solve2 at h2; rw [e2] at h2; unfold solve1 at h2; rw [t2] at h2; cases h2
    · have := hk t h2; omega
  · have q1 : (solve1 c).all.length ≤ 0 + c.tables.l.length := t3
    have q2 : (solve2 c).all = (solve1 c).all := e3
    have q3 : (solve3 c).all.length ≤ (solve2 c).all.length + c.blocks.l.length := b3
    have q4 : (solve c).all.length ≤ (solve3 c).all.length + c.groups.l.length := g3
    rw [q2] at q3
    omega
theorem map_set_key {s : List (Int × List Int)} {j : Nat} {t' : Int × List Int} (hj : j < s.length) (hk : t'.1 = s[j].1) : (s.set j t').map (fun t => AV.int .i64 t.1) = s.map fun t => AV.int .i64 t.1 := by
  apply List.ext_getElem
  · simp
  · intro k h1 h2
    by_cases e : j = k
    · subst e; simp [hk]
    · simp [List.getElem_set_ne e]
/-- One table's slice is longer. -/
theorem SH.upd {h h' : Heap} {n m : Nat} {s : Solv} {tvs bvs : List AV} {va v w : AV} {j : Nat} {t' : Int × List Int} (H : SH h n s tvs bvs va) (hj : tvs[j]? = some v) (hm : n ≤ m) (hf : Fresh h' m)
    (K : ∀ i, i.1 < n → i ∉ v.objs → i ≠ (1, 0) → h'.get i = h.get i) (hjs : j < s.tables.length) (hk : t'.1 = s.tables[j].1) (t0 : MapH h' (1, 0) (s.tables.map fun t => .int .i64 t.1) (tvs.set j w))
    (hw : OwnS h' 1 (t'.2.flatMap encI) t'.2.length w) (hwo : ∀ o ∈ w.objs, n ≤ o.1) : SH h' m { s with tables := s.tables.set j t' } (tvs.set j w) bvs va := by
  have h2 := H.n2
  have nf : ∀ o : AM.Id, n ≤ o.1 → ¬ Fix o := by
    intro o ho hfx
    unfold Fix at hfx
    rcases hfx with rfl | rfl | rfl | rfl <;> simp at ho <;> omega
  have hvj := H.dt j v hj
  have fx : ∀ i, i.1 < n → i ∉ v.objs → i ≠ (1, 0) → h'.get i = h.get i := K
  have nv : ∀ x : AM.Id, Fix x → x ∉ v.objs := fun x hx e => (hvj x e).1 hx
  obtain ⟨b1, c1, e1⟩ := H.b0
  obtain ⟨b2, c2, e2⟩ := H.g0
  refine ⟨(fx _ (H.fr _ _ H.s0) (nv _ (.inl rfl)) (by decide)).trans H.s0, by rw [map_set_key hjs hk]; exact t0, ⟨b1, c1, (fx _ (H.fr _ _ e1) (nv _ (.inr (.inr (.inl rfl)))) (by decide)).trans e1⟩, ⟨b2, c2, (fx _ (H.fr _ _ e2) (nv _ (.inr (.inr (.inr rfl)))) (by decide)).trans e2⟩,
    ⟨by simp [H.tv.1], fun i h1 h2 => ?_⟩, H.bv, H.al.frame (fun o ho => fx o (OwnS.lt H.al H.fr o ho) (fun e => (hvj o e).2.1 ho) (fun e => H.da o ho (.inr (.inl e)))), hf, H.da, ?_, by omega⟩
  · by_cases e : j = i
    · subst e; simpa using hw
    · simp only [List.getElem_set_ne e]
      simp only [List.length_set] at h1 h2
      refine (H.tv.2 i h1 h2).frame fun o ho => ?_
      have hi := List.getElem?_eq_getElem h2
      exact fx o (H.vlt hi o ho) (fun e' => e ((H.dt i _ hi o ho).2.2 j v hj e')) (fun e' => (H.dt i _ hi o ho).1 (.inr (.inl e')))
  · intro i u hu o ho
    have cs : ∀ (k : Nat) (u : AV), (tvs.set j w)[k]? = some u → (k = j ∧ u = w) ∨ (k ≠ j ∧ tvs[k]? = some u) := by
      intro k u hu
      by_cases e : k = j
      · subst e
        rw [List.getElem?_set_self (by obtain ⟨h, _⟩ := List.getElem?_eq_some_iff.1 hj; exact h)] at hu
        exact .inl ⟨rfl, (Option.some.inj hu).symm⟩
      · rw [List.getElem?_set_ne (Ne.symm e)] at hu; exact .inr ⟨e, hu⟩
    rcases cs i u hu with ⟨rfl, rfl⟩ | ⟨h1, h3⟩
    · have hn := hwo o ho
      refine ⟨nf o hn, fun e => by have := OwnS.lt H.al H.fr o e; omega, fun k u' hu' ho' => ?_⟩
      rcases cs k u' hu' with ⟨rfl, _⟩ | ⟨_, h4⟩
      · rfl
      · have := H.vlt h4 o ho'; omega
    · refine ⟨(H.dt i u h3 o ho).1, (H.dt i u h3 o ho).2.1, fun k u' hu' ho' => ?_⟩
      rcases cs k u' hu' with ⟨rfl, rfl⟩ | ⟨_, h4⟩
      · have := hwo o ho'; have := H.vlt h3 o ho; omega
      · exact (H.dt i u h3 o ho).2.2 k u' h4 ho'

set_option maxRecDepth 4000 in
theorem solve_c (c : Config) (sm : Small c) : ∃ a, VC1 T 30 [.agg c.enc] a ∧ IsSolv (solve c) a := by
  have hfin : ∀ (h : Heap) (n : Nat) (tvs bvs : List AV) (va : AV), SH h n (solve c) tvs bvs va → ∃ a, pur purLimit h (.ptr (1, 4) 0) = some a ∧ IsSolv (solve c) a := fun h n tvs bvs va hS => hS.pur (solve_small sm)
  have hl := And.intro sm.st (And.intro sm.se (And.intro sm.sb sm.sg))
  suffices H : W T [.code v30.body] ⟨initEnv 0 [.agg c.enc], Heap.empty, 0⟩ fun s' => ∃ tvs bvs va, SH s'.heap s'.next (solve c) tvs bvs va ∧ readRess s'.env s'.heap v30.results = some [.ptr (1, 4) 0] by
    obtain ⟨s', h1, tvs, bvs, va, hS, h2⟩ := H
    obtain ⟨a, h3, h4⟩ := hfin _ _ _ _ _ hS
    exact ⟨a, VC1.of (vf := v30) rfl rfl ⟨s', h1, _, h2, h3⟩, h4⟩
  clear hfin
  unfold v30
  repeat (first | refine W.seq ?_ | refine W.ops ?_ | refine WL.off rfl rfl ?_ | refine WL.val rfl rfl rfl ?_ | refine WL.nil ?_ | refine W.block ?_ | refine W.outBlock ?_ | refine W.skip ?_ | refine W.exit rfl ?_ | refine WL.box rfl rfl rfl ?_ | refine W.opsD ?_ | refine W.condT rfl ?_ | refine W.condF rfl ?_)
  refine WL.heap rfl rfl rfl ?_
  refine WL.heap rfl rfl rfl ?_
  refine WL.heap rfl rfl rfl ?_
  repeat (first | refine W.seq ?_ | refine W.ops ?_ | refine WL.off rfl rfl ?_ | refine WL.val rfl rfl rfl ?_ | refine WL.nil ?_ | refine W.block ?_ | refine W.outBlock ?_ | refine W.skip ?_ | refine W.exit rfl ?_ | refine WL.box rfl rfl rfl ?_ | refine W.opsD ?_ | refine W.condT rfl ?_ | refine W.condF rfl ?_)
  refine WL.heap rfl rfl rfl ?_
  repeat (first | refine W.seq ?_ | refine W.ops ?_ | refine WL.off rfl rfl ?_ | refine WL.val rfl rfl rfl ?_ | refine WL.nil ?_ | refine W.block ?_ | refine W.outBlock ?_ | refine W.skip ?_ | refine W.exit rfl ?_ | refine WL.box rfl rfl rfl ?_ | refine W.opsD ?_ | refine W.condT rfl ?_ | refine W.condF rfl ?_)
  refine W.loopE (E0 := envOf [(1, _), (3, _), (26, _), (27, _), (28, _)]) rfl (β := Nat) (fun b => [(28, .v (.int .i64 b))])
    (fun b h n => b ≤ c.tables.l.length ∧ ∃ tvs bvs va, SH h n ((c.tables.l.take b).foldl addT ⟨[], [], [], []⟩) tvs bvs va ∧ ((c.tables.l.take b).foldl addT ⟨[], [], [], []⟩).all.length ≤ b ∧ ∀ t ∈ ((c.tables.l.take b).foldl addT ⟨[], [], [], []⟩).tables, t.2.length ≤ 1) (fun b => c.tables.l.length - b) 0 rfl ⟨by simp, [], [], .nils, ?_, by simp⟩ ?_
  · exact ⟨rfl, ⟨[], 0, rfl⟩, ⟨[], 0, rfl⟩, ⟨[], 0, rfl⟩, All2.nil _, All2.nil _, OwnS.nil _ _, by repeat first | exact Fresh.empty _ | refine Fresh.put ?_ (by decide) (Nat.le_refl _), (by intro o ho; cases ho), (by intro i v hv; simp at hv), by decide⟩
  rintro i h n ⟨hi, tvs, bvs, va, hS, hal, hb1⟩ ih
  repeat (first | refine W.seq ?_ | refine W.ops ?_ | refine WL.off rfl rfl ?_ | refine WL.val rfl rfl rfl ?_ | refine WL.nil ?_ | refine W.block ?_ | refine W.outBlock ?_ | refine W.skip ?_ | refine W.exit rfl ?_ | refine WL.box rfl rfl rfl ?_ | refine W.opsD ?_ | refine W.condT rfl ?_ | refine W.condF rfl ?_)
  refine W.cond rfl (fun hb2 => ?_) (fun hb2 => ?_)
  · have hlt : i < c.tables.l.length := by simpa using hb2
    generalize hs : (c.tables.l.take i).foldl addT ⟨[], [], [], []⟩ = s at *
    have hnext : (c.tables.l.take (i + 1)).foldl addT ⟨[], [], [], []⟩ = addT s c.tables.l[i] := by
      rw [List.take_succ_eq_append_getElem hlt, List.foldl_append, hs]; rfl
    repeat (first | refine W.seq ?_ | refine W.ops ?_ | refine WL.off rfl rfl ?_ | refine WL.val rfl rfl rfl ?_ | refine WL.nil ?_ | refine W.block ?_ | refine W.outBlock ?_ | refine W.skip ?_ | refine W.exit rfl ?_ | refine WL.box rfl rfl rfl ?_ | refine W.opsD ?_ | refine W.condT rfl ?_ | refine W.condF rfl ?_)
    refine WL.val rfl (aop_iaddr_p rfl rfl hlt) rfl ?_
    refine WL.val rfl (aop_load_st (enc := Table.enc) rfl (fun _ => rfl) hlt) rfl ?_
    repeat (first | refine W.seq ?_ | refine W.ops ?_ | refine WL.off rfl rfl ?_ | refine WL.val rfl rfl rfl ?_ | refine WL.nil ?_ | refine W.block ?_ | refine W.outBlock ?_ | refine W.skip ?_ | refine W.exit rfl ?_ | refine WL.box rfl rfl rfl ?_ | refine W.opsD ?_ | refine W.condT rfl ?_ | refine W.condF rfl ?_)
    refine WL.val rfl (aop_load_h rfl hS.s0 rfl) rfl ?_
    repeat (first | refine W.seq ?_ | refine W.ops ?_ | refine WL.off rfl rfl ?_ | refine WL.val rfl rfl rfl ?_ | refine WL.nil ?_ | refine W.block ?_ | refine W.outBlock ?_ | refine W.skip ?_ | refine W.exit rfl ?_ | refine WL.box rfl rfl rfl ?_ | refine W.opsD ?_ | refine W.condT rfl ?_ | refine W.condF rfl ?_)
    have hix := mapIx_int (fun t : Int × List Int => t.1) c.tables.l[i].id s.tables
    cases hr : s.tables.findIdx? (fun t => t.1 == c.tables.l[i].id) with
    | some j =>
      obtain ⟨hj, hf⟩ := find_of_idx hr
      have hjt : j < tvs.length := by have := hS.tv.1; omega
      rw [hr] at hix
      refine WL.lookH rfl rfl rfl hS.t0 hix (List.getElem?_eq_getElem hjt) rfl rfl ?_
      have hvj := hS.tv.2 j hj hjt
      repeat (first | refine W.seq ?_ | refine W.ops ?_ | refine WL.off rfl rfl ?_ | refine WL.val rfl rfl rfl ?_ | refine WL.nil ?_ | refine W.block ?_ | refine W.outBlock ?_ | refine W.skip ?_ | refine W.exit rfl ?_ | refine WL.box rfl rfl rfl ?_ | refine W.opsD ?_ | refine W.condT rfl ?_ | refine W.condF rfl ?_)
      refine WL.val rfl (aop_move_nj rfl (OwnS.nj hvj)) rfl ?_
      repeat (first | refine W.seq ?_ | refine W.ops ?_ | refine WL.off rfl rfl ?_ | refine WL.val rfl rfl rfl ?_ | refine WL.nil ?_ | refine W.block ?_ | refine W.outBlock ?_ | refine W.skip ?_ | refine W.exit rfl ?_ | refine WL.box rfl rfl rfl ?_ | refine W.opsD ?_ | refine W.condT rfl ?_ | refine W.condF rfl ?_)
      have hns : addT s c.tables.l[i] = s := by simp [addT, hf]
      exact ih (i + 1) _ _ _ ⟨hlt, tvs, bvs, va, by rw [hnext, hns]; exact hS.mono (by omega), by rw [hnext, hns]; omega, by rw [hnext, hns]; exact hb1⟩ (by omega) (by rw [← wrap64_nat (k := i) (by omega)]; rfl)
    | none =>
      rw [hr] at hix
      have hf : s.tables.find? (fun t => t.1 == c.tables.l[i].id) = none := by simpa using hr
      refine WL.lookH rfl rfl rfl hS.t0 hix rfl rfl rfl ?_
      repeat (first | refine W.seq ?_ | refine W.ops ?_ | refine WL.off rfl rfl ?_ | refine WL.val rfl rfl rfl ?_ | refine WL.nil ?_ | refine W.block ?_ | refine W.outBlock ?_ | refine W.skip ?_ | refine W.exit rfl ?_ | refine WL.box rfl rfl rfl ?_ | refine W.opsD ?_ | refine W.condT rfl ?_ | refine W.condF rfl ?_)
      refine WL.val rfl (aop_load_h rfl hS.s0 rfl) rfl ?_
      repeat (first | refine W.seq ?_ | refine W.ops ?_ | refine WL.off rfl rfl ?_ | refine WL.val rfl rfl rfl ?_ | refine WL.nil ?_ | refine W.block ?_ | refine W.outBlock ?_ | refine W.skip ?_ | refine W.exit rfl ?_ | refine WL.box rfl rfl rfl ?_ | refine W.opsD ?_ | refine W.condT rfl ?_ | refine W.condF rfl ?_)
      refine WL.heap rfl rfl rfl ?_
      have hn2 := hS.n2
      refine WL.mapupH rfl rfl rfl rfl (hS.t0.frame (by rw [Heap.get_put, if_neg (ne_nr (by omega))])) hix rfl (fun ob hob => ?_)
      repeat (first | refine W.seq ?_ | refine W.ops ?_ | refine WL.off rfl rfl ?_ | refine WL.val rfl rfl rfl ?_ | refine WL.nil ?_ | refine W.block ?_ | refine W.outBlock ?_ | refine W.skip ?_ | refine W.exit rfl ?_ | refine WL.box rfl rfl rfl ?_ | refine W.opsD ?_ | refine W.condT rfl ?_ | refine W.condF rfl ?_)
      generalize hH : Heap.put (Heap.put h _ _) (1, 0) ob = hp
      have hp1 : ∀ j, j.1 < n → j ≠ (1, 0) → hp.get j = h.get j := by
        intro j hj hne; rw [← hH, Heap.get_put, if_neg hne, Heap.get_put, if_neg (ne_nr (by omega))]
      have hp2 := hob hp (by rw [← hH, Heap.get_put, if_pos rfl])
      have hp3 : hp.get (n + 1 + 1 + 1 + 1, 8) = some (.cells [.int .i64 c.tables.l[i].miss]) := by
        rw [← hH, Heap.get_put, if_neg (Ne.symm (ne_nr (by omega))), Heap.get_put, if_pos rfl]; rfl
      have hp4 : Fresh hp (n + 1 + 1 + 1 + 1 + 1) := by rw [← hH]; exact (hS.fr.put (by simp) (by omega)).put (by dsimp only; omega) (Nat.le_refl _)
      refine WL.val rfl (aop_load_h rfl ((hp1 (1, 4) hn2 (by decide)).trans hS.s0) rfl) rfl ?_
      repeat (first | refine W.seq ?_ | refine W.ops ?_ | refine WL.off rfl rfl ?_ | refine WL.val rfl rfl rfl ?_ | refine WL.nil ?_ | refine W.block ?_ | refine W.outBlock ?_ | refine W.skip ?_ | refine W.exit rfl ?_ | refine WL.box rfl rfl rfl ?_ | refine W.opsD ?_ | refine W.condT rfl ?_ | refine W.condF rfl ?_)
      refine WL.push (new := encP (0, c.tables.l[i].id)) rfl rfl rfl rfl rfl rfl (by decide) rfl (hS.al.frame fun j hj => hp1 j (OwnS.lt hS.al hS.fr j hj) (fun e => hS.da j hj (.inr (.inl e)))) (hp4.mono (by omega)) rfl (by omega) rfl (fun _ _ _ => rfl) (fun rd wr H' g1 g2 g3 => ?_)
      repeat (first | refine W.seq ?_ | refine W.ops ?_ | refine WL.off rfl rfl ?_ | refine WL.val rfl rfl rfl ?_ | refine WL.nil ?_ | refine W.block ?_ | refine W.outBlock ?_ | refine W.skip ?_ | refine W.exit rfl ?_ | refine WL.box rfl rfl rfl ?_ | refine W.opsD ?_ | refine W.condT rfl ?_ | refine W.condF rfl ?_)
      have gS : H'.get (1, 4) = some (.cells [.map (1, 0), .map (1, 1), .map (1, 2), va]) := (g2 (1, 4) (fun e => hS.da _ e (.inl rfl)) (by dsimp only; omega)).trans ((hp1 (1, 4) hn2 (by decide)).trans hS.s0)
      refine WL.heap rfl (aop_store_h rfl rfl rfl rfl gS rfl) rfl ?_
      repeat (first | refine W.seq ?_ | refine W.ops ?_ | refine WL.off rfl rfl ?_ | refine WL.val rfl rfl rfl ?_ | refine WL.nil ?_ | refine W.block ?_ | refine W.outBlock ?_ | refine W.skip ?_ | refine W.exit rfl ?_ | refine WL.box rfl rfl rfl ?_ | refine W.opsD ?_ | refine W.condT rfl ?_ | refine W.condF rfl ?_)
      have hns : addT s c.tables.l[i] = { s with tables := s.tables ++ [(c.tables.l[i].id, [c.tables.l[i].miss])], all := s.all ++ [(0, c.tables.l[i].id)] } := by simp [addT, hf]
      have kk : ∀ j, j ≠ (1, 4) → j ∉ va.objs → j.1 < n + 5 → (H'.put (1, 4) (.cells [.map (1, 0), .map (1, 1), .map (1, 2), .slice (n + 1 + 1 + 1 + 1 + 1, 9) 0 (s.all.length + 1) 2 false])).get j = hp.get j := by
        intro j h1 h2 h3; rw [Heap.get_put, if_neg h1]; exact g2 j h2 h3
      refine ih (i + 1) _ _ _ ⟨hlt, tvs ++ [.slice (n + 1 + 1 + 1 + 1, 8) 0 1 1 true], bvs, .slice (n + 1 + 1 + 1 + 1 + 1, 9) 0 (s.all.length + 1) 2 false, ?_, by rw [hnext, hns]; simp; omega, by rw [hnext, hns]; intro t ht; rcases List.mem_append.1 ht with h1 | h1; exact hb1 t h1; simp at h1; rw [h1]; simp⟩ (by omega) (by rw [← wrap64_nat (k := i) (by omega)]; rfl)
      rw [hnext, hns]
      have nda : ∀ x : Nat, (1, x) ∈ [((1, 0) : AM.Id), (1, 1), (1, 2)] → (1, x) ∉ va.objs := fun x hx e => hS.da _ e (by simp at hx; unfold Fix; rcases hx with rfl | rfl | rfl <;> simp)
      refine hS.more (n1 := n + 5) (by omega) (by omega) ((g3 _ (by omega)).put (m := _) (by dsimp only; omega) (Nat.le_refl _)) (fun j h1 h2 h3 => ?_) ?_ ?_ ?_ ?_ hS.bv ?_ ?_ (.inr ⟨_, _, rfl, rfl, ?_, ?_⟩)
      · exact (kk j (fun e => h3 (.inl e)) h2 (by omega)).trans (hp1 j h1 (fun e => h3 (.inr (.inl e))))
      · rw [Heap.get_put, if_pos rfl]; rfl
      · refine MapH.frame ?_ (kk (1, 0) (by decide) (nda 0 (by simp)) (by dsimp only; omega))
        simpa [ixKs, ixVs] using hp2
      · exact hS.b0.frame ((kk (1, 1) (by decide) (nda 1 (by simp)) (by dsimp only; omega)).trans (hp1 _ (by dsimp only; omega) (by decide)))
      · exact hS.g0.frame ((kk (1, 2) (by decide) (nda 2 (by simp)) (by dsimp only; omega)).trans (hp1 _ (by dsimp only; omega) (by decide)))
      · have := g1.frame (h' := H'.put (1, 4) (.cells [.map (1, 0), .map (1, 1), .map (1, 2), .slice (n + 1 + 1 + 1 + 1 + 1, 9) 0 (s.all.length + 1) 2 false])) (fun j hj => by
          simp only [AV.objs, List.mem_singleton] at hj; rw [hj, Heap.get_put, if_neg (Ne.symm (ne_nr (by omega)))])
        have e2 : ({ s with tables := s.tables ++ [(c.tables.l[i].id, [c.tables.l[i].miss])], all := s.all ++ [(0, c.tables.l[i].id)] } : Solv).all.flatMap encP = s.all.flatMap encP ++ encP (0, c.tables.l[i].id) := by simp
        have e3 : ({ s with tables := s.tables ++ [(c.tables.l[i].id, [c.tables.l[i].miss])], all := s.all ++ [(0, c.tables.l[i].id)] } : Solv).all.length = s.all.length + 1 := by simp
        rw [e2, e3]; exact this
      · intro o ho; simp only [AV.objs, List.mem_singleton] at ho; rw [ho]; dsimp only; omega
      · exact .inr ⟨_, _, rfl, (kk _ (Ne.symm (ne_nr (by omega))) (fun e => by have := OwnS.lt hS.al hS.fr _ e; simp at this; omega) (by dsimp only; omega)).trans hp3, rfl⟩
      · intro o ho; simp only [AV.objs, List.mem_singleton] at ho; rw [ho]; dsimp only; omega
  have hge : i = c.tables.l.length := by simp at hb2; omega
  subst hge
  rw [List.take_length] at hS hal hb1
  clear ih hb2
  repeat (first | refine W.seq ?_ | refine W.ops ?_ | refine WL.off rfl rfl ?_ | refine WL.val rfl rfl rfl ?_ | refine WL.nil ?_ | refine W.block ?_ | refine W.outBlock ?_ | refine W.skip ?_ | refine W.exit rfl ?_ | refine WL.box rfl rfl rfl ?_ | refine W.opsD ?_ | refine W.condT rfl ?_ | refine W.condF rfl ?_)
  refine W.loopE (E0 := envOf [(1, _), (3, _), (67, _), (68, _), (69, _)]) rfl (β := Nat) (fun b => [(69, .v (.int .i64 b))])
    (fun b h n => b ≤ c.entries.l.length ∧ ∃ tvs bvs va, SH h n ((c.entries.l.take b).foldl addE (solve1 c)) tvs bvs va ∧ ((c.entries.l.take b).foldl addE (solve1 c)).all.length ≤ c.tables.l.length ∧ ∀ t ∈ ((c.entries.l.take b).foldl addE (solve1 c)).tables, t.2.length ≤ b + 1)
    (fun b => c.entries.l.length - b) 0 rfl ⟨by simp, tvs, bvs, va, hS.mono (by omega), hal, hb1⟩ ?_
  clear hS hal hb1
  clear tvs bvs va
  clear h
  clear n
  rintro i h n ⟨hi, tvs, bvs, va, hS, hal, hb1⟩ ih
  repeat (first | refine W.seq ?_ | refine W.ops ?_ | refine WL.off rfl rfl ?_ | refine WL.val rfl rfl rfl ?_ | refine WL.nil ?_ | refine W.block ?_ | refine W.outBlock ?_ | refine W.skip ?_ | refine W.exit rfl ?_ | refine WL.box rfl rfl rfl ?_ | refine W.opsD ?_ | refine W.condT rfl ?_ | refine W.condF rfl ?_)
  refine W.cond rfl (fun hb2 => ?_) (fun hb2 => ?_)
  · have hlt : i < c.entries.l.length := by simpa using hb2
    generalize hs : (c.entries.l.take i).foldl addE (solve1 c) = s at *
    have hnext : (c.entries.l.take (i + 1)).foldl addE (solve1 c) = addE s c.entries.l[i] := by
      rw [List.take_succ_eq_append_getElem hlt, List.foldl_append, hs]; rfl
    have hn2 := hS.n2
    repeat (first | refine W.seq ?_ | refine W.ops ?_ | refine WL.off rfl rfl ?_ | refine WL.val rfl rfl rfl ?_ | refine WL.nil ?_ | refine W.block ?_ | refine W.outBlock ?_ | refine W.skip ?_ | refine W.exit rfl ?_ | refine WL.box rfl rfl rfl ?_ | refine W.opsD ?_ | refine W.condT rfl ?_ | refine W.condF rfl ?_)
    refine WL.val rfl (aop_iaddr_p rfl rfl hlt) rfl ?_
    refine WL.val rfl (aop_load_st (enc := Entry.enc) rfl (fun _ => rfl) hlt) rfl ?_
    repeat (first | refine W.seq ?_ | refine W.ops ?_ | refine WL.off rfl rfl ?_ | refine WL.val rfl rfl rfl ?_ | refine WL.nil ?_ | refine W.block ?_ | refine W.outBlock ?_ | refine W.skip ?_ | refine W.exit rfl ?_ | refine WL.box rfl rfl rfl ?_ | refine W.opsD ?_ | refine W.condT rfl ?_ | refine W.condF rfl ?_)
    refine WL.val rfl (aop_load_h rfl hS.s0 rfl) rfl ?_
    repeat (first | refine W.seq ?_ | refine W.ops ?_ | refine WL.off rfl rfl ?_ | refine WL.val rfl rfl rfl ?_ | refine WL.nil ?_ | refine W.block ?_ | refine W.outBlock ?_ | refine W.skip ?_ | refine W.exit rfl ?_ | refine WL.box rfl rfl rfl ?_ | refine W.opsD ?_ | refine W.condT rfl ?_ | refine W.condF rfl ?_)
    have hix := mapIx_int (fun t : Int × List Int => t.1) c.entries.l[i].table s.tables
    cases hr : s.tables.findIdx? (fun t => t.1 == c.entries.l[i].table) with
    | none =>
      rw [hr] at hix
      refine WL.lookH rfl rfl rfl hS.t0 hix rfl rfl rfl ?_
      repeat (first | refine W.seq ?_ | refine W.ops ?_ | refine WL.off rfl rfl ?_ | refine WL.val rfl rfl rfl ?_ | refine WL.nil ?_ | refine W.block ?_ | refine W.outBlock ?_ | refine W.skip ?_ | refine W.exit rfl ?_ | refine WL.box rfl rfl rfl ?_ | refine W.opsD ?_ | refine W.condT rfl ?_ | refine W.condF rfl ?_)
      have hns : addE s c.entries.l[i] = s := by simp only [addE, hr]
      exact ih (i + 1) _ _ _ ⟨hlt, tvs, bvs, va, by rw [hnext, hns]; exact hS.mono (by omega), by rw [hnext, hns]; exact hal, by rw [hnext, hns]; exact fun t ht => Nat.le_succ_of_le (hb1 t ht)⟩ (by omega) (by rw [← wrap64_nat (k := i) (by omega)]; rfl)
    | some j =>
      obtain ⟨hj, hf⟩ := find_of_idx hr
      have hjt : j < tvs.length := by have := hS.tv.1; omega
      rw [hr] at hix
      have hvj := hS.tv.2 j hj hjt
      have hdj := hS.dt j _ (List.getElem?_eq_getElem hjt)
      have hlj := hb1 _ (List.getElem_mem hj)
      have hlook : lookL s.tables c.entries.l[i].table = s.tables[j].2 := by simp only [lookL, hf, Option.map_some, Option.getD_some]
      have hkey : c.entries.l[i].table = s.tables[j].1 := by
        have := List.find?_some hf; simp at this; exact this.symm
      refine WL.lookH rfl rfl rfl hS.t0 hix (List.getElem?_eq_getElem hjt) rfl rfl ?_
      have hvq : tvs[j]? = some tvs[j] := List.getElem?_eq_getElem hjt
      generalize tvs[j] = v at *
      repeat (first | refine W.seq ?_ | refine W.ops ?_ | refine WL.off rfl rfl ?_ | refine WL.val rfl rfl rfl ?_ | refine WL.nil ?_ | refine W.block ?_ | refine W.outBlock ?_ | refine W.skip ?_ | refine W.exit rfl ?_ | refine WL.box rfl rfl rfl ?_ | refine W.opsD ?_ | refine W.condT rfl ?_ | refine W.condF rfl ?_)
      refine WL.val rfl (aop_move_nj rfl (OwnS.nj hvj)) rfl ?_
      repeat (first | refine W.seq ?_ | refine W.ops ?_ | refine WL.off rfl rfl ?_ | refine WL.val rfl rfl rfl ?_ | refine WL.nil ?_ | refine W.block ?_ | refine W.outBlock ?_ | refine W.skip ?_ | refine W.exit rfl ?_ | refine WL.box rfl rfl rfl ?_ | refine W.opsD ?_ | refine W.condT rfl ?_ | refine W.condF rfl ?_)
      refine WL.val rfl (aop_load_h rfl hS.s0 rfl) rfl ?_
      repeat (first | refine W.seq ?_ | refine W.ops ?_ | refine WL.off rfl rfl ?_ | refine WL.val rfl rfl rfl ?_ | refine WL.nil ?_ | refine W.block ?_ | refine W.outBlock ?_ | refine W.skip ?_ | refine W.exit rfl ?_ | refine WL.box rfl rfl rfl ?_ | refine W.opsD ?_ | refine W.condT rfl ?_ | refine W.condF rfl ?_)
      refine WL.val rfl (aop_move_nj rfl (OwnS.nj hvj)) rfl ?_
      repeat (first | refine W.seq ?_ | refine W.ops ?_ | refine WL.off rfl rfl ?_ | refine WL.val rfl rfl rfl ?_ | refine WL.nil ?_ | refine W.block ?_ | refine W.outBlock ?_ | refine W.skip ?_ | refine W.exit rfl ?_ | refine WL.box rfl rfl rfl ?_ | refine W.opsD ?_ | refine W.condT rfl ?_ | refine W.condF rfl ?_)
      have hdv : ∀ x : Nat, Fix (1, x) → (1, x) ∉ v.objs := fun x hx e => (hdj _ e).1 hx
      refine WL.push (new := encI c.entries.l[i].block) rfl rfl rfl rfl rfl rfl (by decide) rfl hvj (hS.fr.mono (by omega)) rfl (by omega) rfl (fun rd wr hw => okR_of ?_ rfl rfl) (fun rd wr H' g1 g2 g3 => ?_)
      · have m1 : meets [Key.obj (1, 4)] wr = false := by
          refine meets_none fun x hx k hk => ?_
          simp only [List.mem_singleton] at hx
          subst hx
          obtain ⟨o, rfl, h1⟩ := hw k hk
          refine idEq_ne (fun e => ?_)
          rcases h1 with h1 | h1
          · rw [← e] at h1; exact absurd h1 (ne_nr (by omega))
          · rw [← e] at h1; exact hdv 4 (.inl rfl) h1
        have m2 : meets [Key.slot 9] wr = false := by
          refine meets_none fun x hx k hk => ?_
          simp only [List.mem_singleton] at hx
          subst hx
          obtain ⟨o, rfl, h1⟩ := hw k hk
          rfl
        show (meets [Key.slot 9] wr || (meets [Key.obj (1, 4)] wr || false)) = false
        rw [m1, m2]; rfl
      · have gt := hS.t0.frame (h' := H') (g2 (1, 0) (hdv 0 (.inr (.inl rfl))) (by dsimp only; omega))
        refine WL.mapupH rfl rfl rfl rfl gt hix rfl (fun ob hob => ?_)
        repeat (first | refine W.seq ?_ | refine W.ops ?_ | refine WL.off rfl rfl ?_ | refine WL.val rfl rfl rfl ?_ | refine WL.nil ?_ | refine W.block ?_ | refine W.outBlock ?_ | refine W.skip ?_ | refine W.exit rfl ?_ | refine WL.box rfl rfl rfl ?_ | refine W.opsD ?_ | refine W.condT rfl ?_ | refine W.condF rfl ?_)
        have hns : addE s c.entries.l[i] = { s with tables := s.tables.set j (c.entries.l[i].table, s.tables[j].2 ++ [c.entries.l[i].block]) } := by simp only [addE, hr, hlook]
        refine ih (i + 1) _ _ _ ⟨hlt, tvs.set j (.slice (n + 1 + 1 + 1 + 1, 10) 0 (s.tables[j].2.length + 1) 1 false), bvs, va, ?_, by rw [hnext, hns]; exact hal, ?_⟩ (by omega) (by rw [← wrap64_nat (k := i) (by omega)]; rfl)
        · rw [hnext, hns]
          have hput : ∀ q, q ≠ (1, 0) → (H'.put (1, 0) ob).get q = H'.get q := fun q hq => by rw [Heap.get_put, if_neg hq]
          refine hS.upd hvq (by omega) ((g3 _ (by omega)).put (m := _) (by dsimp only; omega) (Nat.le_refl _)) (fun q h1 h2 h3 => (hput q h3).trans (g2 q h2 (by omega))) hj hkey (hob _ (by rw [Heap.get_put, if_pos rfl])) ?_ ?_
          · have := g1.frame (h' := H'.put (1, 0) ob) (fun q hq => by
              simp only [AV.objs, List.mem_singleton] at hq; rw [hq]; exact hput _ (Ne.symm (ne_nr (by omega))))
            simpa using this
          · intro o ho; simp only [AV.objs, List.mem_singleton] at ho; rw [ho]; dsimp only; omega
        · rw [hnext, hns]
          intro t ht
          rcases List.mem_or_eq_of_mem_set ht with h1 | h1
          · exact Nat.le_succ_of_le (hb1 t h1)
          · rw [h1]; simp; omega
  have hge : i = c.entries.l.length := by simp at hb2; omega
  subst hge
  rw [List.take_length] at hS hal hb1
  clear ih hb2
  repeat (first | refine W.seq ?_ | refine W.ops ?_ | refine WL.off rfl rfl ?_ | refine WL.val rfl rfl rfl ?_ | refine WL.nil ?_ | refine W.block ?_ | refine W.outBlock ?_ | refine W.skip ?_ | refine W.exit rfl ?_ | refine WL.box rfl rfl rfl ?_ | refine W.opsD ?_ | refine W.condT rfl ?_ | refine W.condF rfl ?_)
  refine W.loopE (E0 := envOf [(1, _), (3, _), (97, _), (98, _), (99, _)]) rfl (β := Nat) (fun b => [(99, .v (.int .i64 b))])
    (fun b h n => b ≤ c.blocks.l.length ∧ ∃ tvs bvs va, SH h n ((c.blocks.l.take b).foldl addB (solve2 c)) tvs bvs va ∧ ((c.blocks.l.take b).foldl addB (solve2 c)).all.length ≤ c.tables.l.length + b)
    (fun b => c.blocks.l.length - b) 0 rfl ⟨by simp, tvs, bvs, va, hS.mono (by omega), hal⟩ ?_
  clear hS hal
  clear tvs bvs va
  clear h
  clear n
  rintro i h n ⟨hi, tvs, bvs, va, hS, hal⟩ ih
  repeat (first | refine W.seq ?_ | refine W.ops ?_ | refine WL.off rfl rfl ?_ | refine WL.val rfl rfl rfl ?_ | refine WL.nil ?_ | refine W.block ?_ | refine W.outBlock ?_ | refine W.skip ?_ | refine W.exit rfl ?_ | refine WL.box rfl rfl rfl ?_ | refine W.opsD ?_ | refine W.condT rfl ?_ | refine W.condF rfl ?_)
  refine W.cond rfl (fun hb2 => ?_) (fun hb2 => ?_)
  · have hlt : i < c.blocks.l.length := by simpa using hb2
    generalize hs : (c.blocks.l.take i).foldl addB (solve2 c) = s at *
    have hnext : (c.blocks.l.take (i + 1)).foldl addB (solve2 c) = addB s c.blocks.l[i] := by
      rw [List.take_succ_eq_append_getElem hlt, List.foldl_append, hs]; rfl
    have hn2 := hS.n2
    have hx : ∀ x : Nat, Fix (1, x) → (1, x) ∉ va.objs := fun x hx e => hS.da _ e hx
    repeat (first | refine W.seq ?_ | refine W.ops ?_ | refine WL.off rfl rfl ?_ | refine WL.val rfl rfl rfl ?_ | refine WL.nil ?_ | refine W.block ?_ | refine W.outBlock ?_ | refine W.skip ?_ | refine W.exit rfl ?_ | refine WL.box rfl rfl rfl ?_ | refine W.opsD ?_ | refine W.condT rfl ?_ | refine W.condF rfl ?_)
    refine WL.val rfl (aop_iaddr_p rfl rfl hlt) rfl ?_
    refine WL.val rfl (aop_load_st (enc := Block.enc) rfl (fun _ => rfl) hlt) rfl ?_
    repeat (first | refine W.seq ?_ | refine W.ops ?_ | refine WL.off rfl rfl ?_ | refine WL.val rfl rfl rfl ?_ | refine WL.nil ?_ | refine W.block ?_ | refine W.outBlock ?_ | refine W.skip ?_ | refine W.exit rfl ?_ | refine WL.box rfl rfl rfl ?_ | refine W.opsD ?_ | refine W.condT rfl ?_ | refine W.condF rfl ?_)
    refine WL.val rfl (aop_load_h rfl hS.s0 rfl) rfl ?_
    repeat (first | refine W.seq ?_ | refine W.ops ?_ | refine WL.off rfl rfl ?_ | refine WL.val rfl rfl rfl ?_ | refine WL.nil ?_ | refine W.block ?_ | refine W.outBlock ?_ | refine W.skip ?_ | refine W.exit rfl ?_ | refine WL.box rfl rfl rfl ?_ | refine W.opsD ?_ | refine W.condT rfl ?_ | refine W.condF rfl ?_)
    have hix := mapIx_int (fun t : Int × List Instr => t.1) c.blocks.l[i].id s.blocks
    cases hr : s.blocks.findIdx? (fun t => t.1 == c.blocks.l[i].id) with
    | some j =>
      obtain ⟨hj, hf⟩ := find_of_idx hr
      rw [hr] at hix
      have hjt : j < bvs.length := by have := hS.bv.1; omega
      have hvj := hS.bv.2 j hj hjt
      refine WL.lookH rfl rfl rfl hS.b0 hix (List.getElem?_eq_getElem hjt) rfl rfl ?_
      generalize bvs[j] = v at *
      repeat (first | refine W.seq ?_ | refine W.ops ?_ | refine WL.off rfl rfl ?_ | refine WL.val rfl rfl rfl ?_ | refine WL.nil ?_ | refine W.block ?_ | refine W.outBlock ?_ | refine W.skip ?_ | refine W.exit rfl ?_ | refine WL.box rfl rfl rfl ?_ | refine W.opsD ?_ | refine W.condT rfl ?_ | refine W.condF rfl ?_)
      refine WL.val rfl (aop_move_nj rfl (SlV.nj hvj)) rfl ?_
      repeat (first | refine W.seq ?_ | refine W.ops ?_ | refine WL.off rfl rfl ?_ | refine WL.val rfl rfl rfl ?_ | refine WL.nil ?_ | refine W.block ?_ | refine W.outBlock ?_ | refine W.skip ?_ | refine W.exit rfl ?_ | refine WL.box rfl rfl rfl ?_ | refine W.opsD ?_ | refine W.condT rfl ?_ | refine W.condF rfl ?_)
      have hns : addB s c.blocks.l[i] = s := by simp [addB, hf]
      exact ih (i + 1) _ _ _ ⟨hlt, tvs, bvs, va, by rw [hnext, hns]; exact hS.mono (by omega), by rw [hnext, hns]; omega⟩ (by omega) (by rw [← wrap64_nat (k := i) (by omega)]; rfl)
    | none =>
      rw [hr] at hix
      have hf : s.blocks.find? (fun t => t.1 == c.blocks.l[i].id) = none := by simpa using hr
      refine WL.lookH rfl rfl rfl hS.b0 hix rfl rfl rfl ?_
      repeat (first | refine W.seq ?_ | refine W.ops ?_ | refine WL.off rfl rfl ?_ | refine WL.val rfl rfl rfl ?_ | refine WL.nil ?_ | refine W.block ?_ | refine W.outBlock ?_ | refine W.skip ?_ | refine W.exit rfl ?_ | refine WL.box rfl rfl rfl ?_ | refine W.opsD ?_ | refine W.condT rfl ?_ | refine W.condF rfl ?_)
      refine WL.val rfl (aop_load_h rfl hS.s0 rfl) rfl ?_
      repeat (first | refine W.seq ?_ | refine W.ops ?_ | refine WL.off rfl rfl ?_ | refine WL.val rfl rfl rfl ?_ | refine WL.nil ?_ | refine W.block ?_ | refine W.outBlock ?_ | refine W.skip ?_ | refine W.exit rfl ?_ | refine WL.box rfl rfl rfl ?_ | refine W.opsD ?_ | refine W.condT rfl ?_ | refine W.condF rfl ?_)
      refine WL.mapupH rfl rfl rfl rfl hS.b0 hix rfl (fun ob hob => ?_)
      repeat (first | refine W.seq ?_ | refine W.ops ?_ | refine WL.off rfl rfl ?_ | refine WL.val rfl rfl rfl ?_ | refine WL.nil ?_ | refine W.block ?_ | refine W.outBlock ?_ | refine W.skip ?_ | refine W.exit rfl ?_ | refine WL.box rfl rfl rfl ?_ | refine W.opsD ?_ | refine W.condT rfl ?_ | refine W.condF rfl ?_)
      generalize hH : Heap.put h (1, 1) ob = hp
      have hp1 : ∀ j, j ≠ (1, 1) → hp.get j = h.get j := by
        intro j hne; rw [← hH, Heap.get_put, if_neg hne]
      have hp2 := hob hp (by rw [← hH, Heap.get_put, if_pos rfl])
      have hp4 : Fresh hp n := by rw [← hH]; exact hS.fr.put (by dsimp only; omega) (Nat.le_refl _)
      refine WL.val rfl (aop_load_h rfl ((hp1 (1, 4) (by decide)).trans hS.s0) rfl) rfl ?_
      repeat (first | refine W.seq ?_ | refine W.ops ?_ | refine WL.off rfl rfl ?_ | refine WL.val rfl rfl rfl ?_ | refine WL.nil ?_ | refine W.block ?_ | refine W.outBlock ?_ | refine W.skip ?_ | refine W.exit rfl ?_ | refine WL.box rfl rfl rfl ?_ | refine W.opsD ?_ | refine W.condT rfl ?_ | refine W.condF rfl ?_)
      refine WL.push (new := encP (1, c.blocks.l[i].id)) rfl rfl rfl rfl rfl rfl (by decide) rfl (hS.al.frame fun j hj => hp1 j (fun e => hS.da j hj (by rw [e]; unfold Fix; simp))) (hp4.mono (by omega)) rfl (by omega) rfl (fun _ _ _ => rfl) (fun rd wr H' g1 g2 g3 => ?_)
      repeat (first | refine W.seq ?_ | refine W.ops ?_ | refine WL.off rfl rfl ?_ | refine WL.val rfl rfl rfl ?_ | refine WL.nil ?_ | refine W.block ?_ | refine W.outBlock ?_ | refine W.skip ?_ | refine W.exit rfl ?_ | refine WL.box rfl rfl rfl ?_ | refine W.opsD ?_ | refine W.condT rfl ?_ | refine W.condF rfl ?_)
      have gS : H'.get (1, 4) = some (.cells [.map (1, 0), .map (1, 1), .map (1, 2), va]) := (g2 (1, 4) (hx 4 (.inl rfl)) (by dsimp only; omega)).trans ((hp1 (1, 4) (by decide)).trans hS.s0)
      refine WL.heap rfl (aop_store_h rfl rfl rfl rfl gS rfl) rfl ?_
      repeat (first | refine W.seq ?_ | refine W.ops ?_ | refine WL.off rfl rfl ?_ | refine WL.val rfl rfl rfl ?_ | refine WL.nil ?_ | refine W.block ?_ | refine W.outBlock ?_ | refine W.skip ?_ | refine W.exit rfl ?_ | refine WL.box rfl rfl rfl ?_ | refine W.opsD ?_ | refine W.condT rfl ?_ | refine W.condF rfl ?_)
      have hns : addB s c.blocks.l[i] = { s with blocks := s.blocks ++ [(c.blocks.l[i].id, c.blocks.l[i].code.l)], all := s.all ++ [(1, c.blocks.l[i].id)] } := by simp [addB, hf]
      refine ih (i + 1) _ _ _ ⟨hlt, tvs, bvs ++ [c.blocks.l[i].code.av 7 Instr.enc], .slice (n + 1 + 1 + 1 + 1 + 1, 9) 0 (s.all.length + 1) 2 false, ?_, by rw [hnext, hns]; simp; omega⟩ (by omega) (by rw [← wrap64_nat (k := i) (by omega)]; rfl)
      rw [hnext, hns]
      have kk : ∀ cc j, j ≠ (1, 4) → j ∉ va.objs → j.1 < n → (H'.put (1, 4) cc).get j = hp.get j := by
        intro cc j h1 h2 h3; rw [Heap.get_put, if_neg h1]; exact g2 j h2 (by omega)
      refine hS.more (n1 := n + 1) (by omega) (by omega) ((g3 _ (by omega)).put (m := _) (by dsimp only; omega) (Nat.le_refl _)) (fun j h1 h2 h3 => ?_) ?_ ?_ ?_ ?_ ?_ ?_ ?_ (.inl ⟨rfl, rfl⟩)
      · exact (kk _ j (fun e => h3 (.inl e)) h2 h1).trans (hp1 j (fun e => h3 (by rw [e]; unfold Fix; simp)))
      · rw [Heap.get_put, if_pos rfl]; rfl
      · exact hS.t0.frame ((kk _ (1, 0) (by decide) (hx 0 (by unfold Fix; simp)) (by dsimp only; omega)).trans (hp1 _ (by decide)))
      · refine MapH.frame ?_ (kk _ (1, 1) (by decide) (hx 1 (by unfold Fix; simp)) (by dsimp only; omega))
        simpa [ixKs, ixVs] using hp2
      · exact hS.g0.frame ((kk _ (1, 2) (by decide) (hx 2 (by unfold Fix; simp)) (by dsimp only; omega)).trans (hp1 _ (by decide)))
      · exact hS.bv.snoc (SlV.p ..)
      · have := g1.frame (h' := H'.put (1, 4) (.cells [.map (1, 0), .map (1, 1), .map (1, 2), .slice (n + 1 + 1 + 1 + 1 + 1, 9) 0 (s.all.length + 1) 2 false])) (fun j hj => by
          simp only [AV.objs, List.mem_singleton] at hj; rw [hj, Heap.get_put, if_neg (Ne.symm (ne_nr (by omega)))])
        have e2 : (s.all ++ [((1 : Int), c.blocks.l[i].id)]).flatMap encP = s.all.flatMap encP ++ encP (1, c.blocks.l[i].id) := by simp
        have e3 : (s.all ++ [((1 : Int), c.blocks.l[i].id)]).length = s.all.length + 1 := by simp
        dsimp only
        rw [e2, e3]; exact this
      · intro o ho; simp only [AV.objs, List.mem_singleton] at ho; rw [ho]; dsimp only; omega
  have hge : i = c.blocks.l.length := by simp at hb2; omega
  subst hge
  rw [List.take_length] at hS hal
  clear ih hb2
  repeat (first | refine W.seq ?_ | refine W.ops ?_ | refine WL.off rfl rfl ?_ | refine WL.val rfl rfl rfl ?_ | refine WL.nil ?_ | refine W.block ?_ | refine W.outBlock ?_ | refine W.skip ?_ | refine W.exit rfl ?_ | refine WL.box rfl rfl rfl ?_ | refine W.opsD ?_ | refine W.condT rfl ?_ | refine W.condF rfl ?_)
  refine W.loopE (E0 := envOf [(3, _), (137, _), (138, _), (139, _)]) rfl (β := Nat) (fun b => [(139, .v (.int .i64 b))])
    (fun b h n => b ≤ c.groups.l.length ∧ ∃ tvs bvs va, SH h n ((c.groups.l.take b).foldl addG (solve3 c)) tvs bvs va ∧ ((c.groups.l.take b).foldl addG (solve3 c)).all.length ≤ c.tables.l.length + c.blocks.l.length + b)
    (fun b => c.groups.l.length - b) 0 rfl ⟨by simp, tvs, bvs, va, hS.mono (by omega), hal⟩ ?_
  clear hS hal
  clear tvs bvs va
  clear h
  clear n
  rintro i h n ⟨hi, tvs, bvs, va, hS, hal⟩ ih
  repeat (first | refine W.seq ?_ | refine W.ops ?_ | refine WL.off rfl rfl ?_ | refine WL.val rfl rfl rfl ?_ | refine WL.nil ?_ | refine W.block ?_ | refine W.outBlock ?_ | refine W.skip ?_ | refine W.exit rfl ?_ | refine WL.box rfl rfl rfl ?_ | refine W.opsD ?_ | refine W.condT rfl ?_ | refine W.condF rfl ?_)
  refine W.cond rfl (fun hb2 => ?_) (fun hb2 => ?_)
  · have hlt : i < c.groups.l.length := by simpa using hb2
    generalize hs : (c.groups.l.take i).foldl addG (solve3 c) = s at *
    have hnext : (c.groups.l.take (i + 1)).foldl addG (solve3 c) = addG s c.groups.l[i] := by
      rw [List.take_succ_eq_append_getElem hlt, List.foldl_append, hs]; rfl
    have hn2 := hS.n2
    have hx : ∀ x : Nat, Fix (1, x) → (1, x) ∉ va.objs := fun x hx e => hS.da _ e hx
    repeat (first | refine W.seq ?_ | refine W.ops ?_ | refine WL.off rfl rfl ?_ | refine WL.val rfl rfl rfl ?_ | refine WL.nil ?_ | refine W.block ?_ | refine W.outBlock ?_ | refine W.skip ?_ | refine W.exit rfl ?_ | refine WL.box rfl rfl rfl ?_ | refine W.opsD ?_ | refine W.condT rfl ?_ | refine W.condF rfl ?_)
    refine WL.val rfl (aop_iaddr_p rfl rfl hlt) rfl ?_
    refine WL.val rfl (aop_load_st (enc := Group.enc) rfl (fun _ => rfl) hlt) rfl ?_
    repeat (first | refine W.seq ?_ | refine W.ops ?_ | refine WL.off rfl rfl ?_ | refine WL.val rfl rfl rfl ?_ | refine WL.nil ?_ | refine W.block ?_ | refine W.outBlock ?_ | refine W.skip ?_ | refine W.exit rfl ?_ | refine WL.box rfl rfl rfl ?_ | refine W.opsD ?_ | refine W.condT rfl ?_ | refine W.condF rfl ?_)
    refine WL.val rfl (aop_load_h rfl hS.s0 rfl) rfl ?_
    repeat (first | refine W.seq ?_ | refine W.ops ?_ | refine WL.off rfl rfl ?_ | refine WL.val rfl rfl rfl ?_ | refine WL.nil ?_ | refine W.block ?_ | refine W.outBlock ?_ | refine W.skip ?_ | refine W.exit rfl ?_ | refine WL.box rfl rfl rfl ?_ | refine W.opsD ?_ | refine W.condT rfl ?_ | refine W.condF rfl ?_)
    have hix := mapIx_int (fun t : Group => t.id) c.groups.l[i].id s.groups
    cases hr : s.groups.findIdx? (fun t => t.id == c.groups.l[i].id) with
    | some j =>
      obtain ⟨hj, hf⟩ := find_of_idx hr
      rw [hr] at hix
      refine WL.lookH (v := .agg (Group.enc s.groups[j])) rfl rfl rfl hS.g0 hix (by simp [ixGet, hj]) rfl rfl ?_
      repeat (first | refine W.seq ?_ | refine W.ops ?_ | refine WL.off rfl rfl ?_ | refine WL.val rfl rfl rfl ?_ | refine WL.nil ?_ | refine W.block ?_ | refine W.outBlock ?_ | refine W.skip ?_ | refine W.exit rfl ?_ | refine WL.box rfl rfl rfl ?_ | refine W.opsD ?_ | refine W.condT rfl ?_ | refine W.condF rfl ?_)
      have hns : addG s c.groups.l[i] = s := by simp [addG, hf]
      exact ih (i + 1) _ _ _ ⟨hlt, tvs, bvs, va, by rw [hnext, hns]; exact hS.mono (by omega), by rw [hnext, hns]; omega⟩ (by omega) (by rw [← wrap64_nat (k := i) (by omega)]; rfl)
    | none =>
      rw [hr] at hix
      have hf : s.groups.find? (fun t => t.id == c.groups.l[i].id) = none := by simpa using hr
      refine WL.lookH rfl rfl rfl hS.g0 hix rfl rfl rfl ?_
      repeat (first | refine W.seq ?_ | refine W.ops ?_ | refine WL.off rfl rfl ?_ | refine WL.val rfl rfl rfl ?_ | refine WL.nil ?_ | refine W.block ?_ | refine W.outBlock ?_ | refine W.skip ?_ | refine W.exit rfl ?_ | refine WL.box rfl rfl rfl ?_ | refine W.opsD ?_ | refine W.condT rfl ?_ | refine W.condF rfl ?_)
      refine WL.val rfl (aop_load_h rfl hS.s0 rfl) rfl ?_
      repeat (first | refine W.seq ?_ | refine W.ops ?_ | refine WL.off rfl rfl ?_ | refine WL.val rfl rfl rfl ?_ | refine WL.nil ?_ | refine W.block ?_ | refine W.outBlock ?_ | refine W.skip ?_ | refine W.exit rfl ?_ | refine WL.box rfl rfl rfl ?_ | refine W.opsD ?_ | refine W.condT rfl ?_ | refine W.condF rfl ?_)
      refine WL.mapupH rfl rfl rfl rfl hS.g0 hix rfl (fun ob hob => ?_)
      repeat (first | refine W.seq ?_ | refine W.ops ?_ | refine WL.off rfl rfl ?_ | refine WL.val rfl rfl rfl ?_ | refine WL.nil ?_ | refine W.block ?_ | refine W.outBlock ?_ | refine W.skip ?_ | refine W.exit rfl ?_ | refine WL.box rfl rfl rfl ?_ | refine W.opsD ?_ | refine W.condT rfl ?_ | refine W.condF rfl ?_)
      generalize hH : Heap.put h (1, 2) ob = hp
      have hp1 : ∀ j, j ≠ (1, 2) → hp.get j = h.get j := by
        intro j hne; rw [← hH, Heap.get_put, if_neg hne]
      have hp2 := hob hp (by rw [← hH, Heap.get_put, if_pos rfl])
      have hp4 : Fresh hp n := by rw [← hH]; exact hS.fr.put (by dsimp only; omega) (Nat.le_refl _)
      refine WL.val rfl (aop_load_h rfl ((hp1 (1, 4) (by decide)).trans hS.s0) rfl) rfl ?_
      repeat (first | refine W.seq ?_ | refine W.ops ?_ | refine WL.off rfl rfl ?_ | refine WL.val rfl rfl rfl ?_ | refine WL.nil ?_ | refine W.block ?_ | refine W.outBlock ?_ | refine W.skip ?_ | refine W.exit rfl ?_ | refine WL.box rfl rfl rfl ?_ | refine W.opsD ?_ | refine W.condT rfl ?_ | refine W.condF rfl ?_)
      refine WL.push (new := encP (2, c.groups.l[i].id)) rfl rfl rfl rfl rfl rfl (by decide) rfl (hS.al.frame fun j hj => hp1 j (fun e => hS.da j hj (by rw [e]; unfold Fix; simp))) (hp4.mono (by omega)) rfl (by omega) rfl (fun _ _ _ => rfl) (fun rd wr H' g1 g2 g3 => ?_)
      repeat (first | refine W.seq ?_ | refine W.ops ?_ | refine WL.off rfl rfl ?_ | refine WL.val rfl rfl rfl ?_ | refine WL.nil ?_ | refine W.block ?_ | refine W.outBlock ?_ | refine W.skip ?_ | refine W.exit rfl ?_ | refine WL.box rfl rfl rfl ?_ | refine W.opsD ?_ | refine W.condT rfl ?_ | refine W.condF rfl ?_)
      have gS : H'.get (1, 4) = some (.cells [.map (1, 0), .map (1, 1), .map (1, 2), va]) := (g2 (1, 4) (hx 4 (.inl rfl)) (by dsimp only; omega)).trans ((hp1 (1, 4) (by decide)).trans hS.s0)
      refine WL.heap rfl (aop_store_h rfl rfl rfl rfl gS rfl) rfl ?_
      repeat (first | refine W.seq ?_ | refine W.ops ?_ | refine WL.off rfl rfl ?_ | refine WL.val rfl rfl rfl ?_ | refine WL.nil ?_ | refine W.block ?_ | refine W.outBlock ?_ | refine W.skip ?_ | refine W.exit rfl ?_ | refine WL.box rfl rfl rfl ?_ | refine W.opsD ?_ | refine W.condT rfl ?_ | refine W.condF rfl ?_)
      have hns : addG s c.groups.l[i] = { s with groups := s.groups ++ [c.groups.l[i]], all := s.all ++ [(2, c.groups.l[i].id)] } := by simp [addG, hf]
      refine ih (i + 1) _ _ _ ⟨hlt, tvs, bvs, .slice (n + 1 + 1 + 1 + 1 + 1, 9) 0 (s.all.length + 1) 2 false, ?_, by rw [hnext, hns]; simp; omega⟩ (by omega) (by rw [← wrap64_nat (k := i) (by omega)]; rfl)
      rw [hnext, hns]
      have kk : ∀ cc j, j ≠ (1, 4) → j ∉ va.objs → j.1 < n → (H'.put (1, 4) cc).get j = hp.get j := by
        intro cc j h1 h2 h3; rw [Heap.get_put, if_neg h1]; exact g2 j h2 (by omega)
      refine hS.more (n1 := n + 1) (by omega) (by omega) ((g3 _ (by omega)).put (m := _) (by dsimp only; omega) (Nat.le_refl _)) (fun j h1 h2 h3 => ?_) ?_ ?_ ?_ ?_ ?_ ?_ ?_ (.inl ⟨rfl, rfl⟩)
      · exact (kk _ j (fun e => h3 (.inl e)) h2 h1).trans (hp1 j (fun e => h3 (by rw [e]; unfold Fix; simp)))
      · rw [Heap.get_put, if_pos rfl]; rfl
      · exact hS.t0.frame ((kk _ (1, 0) (by decide) (hx 0 (by unfold Fix; simp)) (by dsimp only; omega)).trans (hp1 _ (by decide)))
      · exact hS.b0.frame ((kk _ (1, 1) (by decide) (hx 1 (by unfold Fix; simp)) (by dsimp only; omega)).trans (hp1 _ (by decide)))
      · refine MapH.frame ?_ (kk _ (1, 2) (by decide) (hx 2 (by unfold Fix; simp)) (by dsimp only; omega))
        dsimp only
        rw [List.map_append, List.map_append]; exact hp2
      · exact hS.bv
      · have := g1.frame (h' := H'.put (1, 4) (.cells [.map (1, 0), .map (1, 1), .map (1, 2), .slice (n + 1 + 1 + 1 + 1 + 1, 9) 0 (s.all.length + 1) 2 false])) (fun j hj => by
          simp only [AV.objs, List.mem_singleton] at hj; rw [hj, Heap.get_put, if_neg (Ne.symm (ne_nr (by omega)))])
        have e2 : (s.all ++ [((2 : Int), c.groups.l[i].id)]).flatMap encP = s.all.flatMap encP ++ encP (2, c.groups.l[i].id) := by simp
        have e3 : (s.all ++ [((2 : Int), c.groups.l[i].id)]).length = s.all.length + 1 := by simp
        dsimp only
        rw [e2, e3]; exact this
      · intro o ho; simp only [AV.objs, List.mem_singleton] at ho; rw [ho]; dsimp only; omega
  have hge : i = c.groups.l.length := by simp at hb2; omega
  subst hge
  rw [List.take_length] at hS
  repeat (first | refine W.seq ?_ | refine W.ops ?_ | refine WL.off rfl rfl ?_ | refine WL.val rfl rfl rfl ?_ | refine WL.nil ?_ | refine W.block ?_ | refine W.outBlock ?_ | refine W.skip ?_ | refine W.exit rfl ?_ | refine WL.box rfl rfl rfl ?_ | refine W.opsD ?_ | refine W.condT rfl ?_ | refine W.condF rfl ?_)
  exact W.ret ⟨tvs, bvs, va, hS.mono (by dsimp only; omega), rfl⟩
end
end Go.AM.B

/- Package bound: what the search and the reckoning come to (plain; no machine). -/
namespace Go.AM.B
noncomputable section
set_option linter.unusedVariables false

variable {s : Solv}
/-- y stands below x. -/
def Rl (s : Solv) (y x : Th) : Prop := y ∈ s.leads x
def acy (s : Solv) : Prop := ∀ x, Acc (Rl s) x

theorem seen_mput (st : Mem) (x y : Th) (v : Int) : seen (mput st x v) y = if x = y then v else seen st y := by
  unfold seen
  rw [mget_mput]
  by_cases h : x = y
  · subst h; simp
  · have : (x == y) = false := by simpa using h
    simp [this, h]

/-! ### the search ends -/
def cnt (U : List Th) (st : Mem) : Nat := U.countP fun u => seen st u == 0
theorem cnt_le (U : List Th) {st st' : Mem} (h : ∀ u, seen st u ≠ 0 → seen st' u ≠ 0) : cnt U st' ≤ cnt U st := by
  unfold cnt
  refine List.countP_mono_left fun u _ hu => ?_
  simp only [beq_iff_eq] at hu ⊢
  exact Decidable.byContradiction fun e => h u e hu
theorem cnt_lt (U : List Th) {st st' : Mem} (h : ∀ u, seen st u ≠ 0 → seen st' u ≠ 0) {x : Th} (hx : x ∈ U) (h0 : seen st x = 0) (h1 : seen st' x ≠ 0) : cnt U st' < cnt U st := by
  unfold cnt
  induction U with
  | nil => cases hx
  | cons a U ih =>
    simp only [List.countP_cons]
    have hle := cnt_le U h
    unfold cnt at hle
    rcases List.mem_cons.1 hx with rfl | hx
    · have e1 : (seen st x == 0) = true := by simpa using h0
      have e2 : (seen st' x == 0) = false := by simpa using h1
      rw [e1, e2]; simp; omega
    · have := ih hx
      have e : (if (seen st' a == 0) = true then 1 else 0) ≤ (if (seen st a == 0) = true then 1 else 0) := by
        by_cases ha : seen st' a = 0
        · have : seen st a = 0 := Decidable.byContradiction fun e => h a e ha
          simp [ha, this]
        · have : (seen st' a == 0) = false := by simpa using ha
          rw [this]; simp
      omega
theorem dfs_total (U : List Th) (hU : ∀ x ∈ U, ∀ y ∈ s.leads x, y ∈ U) : ∀ (k : Nat) (st : Mem) (x : Th), x ∈ U → cnt U st < k → ∃ st' b, dfs s k st x = some (st', b) ∧ ∀ u, seen st u ≠ 0 → seen st' u ≠ 0 := by
  intro k
  induction k with
  | zero => intro st x _ h; omega
  | succ k ih =>
    intro st x hx hk
    simp only [dfs]
    split
    · exact ⟨_, _, rfl, fun u h => h⟩
    · rename_i h0
      simp only [ne_eq, Decidable.not_not] at h0
      have hm : ∀ u, seen st u ≠ 0 → seen (mput st x 1) u ≠ 0 := by
        intro u hu; rw [seen_mput]; split
        · simp
        · exact hu
      have hc : cnt U (mput st x 1) < k := by
        have := cnt_lt U hm hx h0 (by rw [seen_mput, if_pos rfl]; simp)
        omega
      have fold : ∀ (l : List Th) (st : Mem), (∀ y ∈ l, y ∈ U) → cnt U st < k → ∃ st' b, foldS (dfs s k) st l = some (st', b) ∧ ∀ u, seen st u ≠ 0 → seen st' u ≠ 0 := by
        intro l
        induction l with
        | nil => intro st _ _; exact ⟨st, false, rfl, fun u h => h⟩
        | cons y ys ih2 =>
          intro st hl hc
          obtain ⟨st1, b1, e1, m1⟩ := ih st y (hl y (by simp)) hc
          simp only [foldS, e1]
          cases b1 with
          | true => exact ⟨_, _, rfl, m1⟩
          | false =>
            obtain ⟨st2, b2, e2, m2⟩ := ih2 st1 (fun z hz => hl z (by simp [hz])) (Nat.lt_of_le_of_lt (cnt_le U m1) hc)
            exact ⟨st2, b2, e2, fun u h => m2 u (m1 u h)⟩
      obtain ⟨st2, b2, e2, m2⟩ := fold (s.leads x) (mput st x 1) (hU x hx) hc
      rw [e2]
      cases b2 with
      | true => exact ⟨_, _, rfl, fun u h => m2 u (hm u h)⟩
      | false =>
        refine ⟨_, _, rfl, fun u h => ?_⟩
        rw [seen_mput]; split
        · simp
        · exact m2 u (hm u h)

/-! ### what it says -/
def DoneOk (s : Solv) (st : Mem) : Prop := (∀ u, seen st u = 2 → Acc (Rl s) u) ∧ ∀ u, seen st u = 0 ∨ seen st u = 1 ∨ seen st u = 2
theorem dfs_false : ∀ (k : Nat) (st : Mem) (x : Th) (st' : Mem), DoneOk s st → dfs s k st x = some (st', false) → DoneOk s st' ∧ seen st' x = 2 ∧ (∀ u, seen st u = 2 → seen st' u = 2) ∧ ∀ u, seen st' u = 1 → seen st u = 1 := by
  intro k
  induction k with
  | zero => intro st x st' _ h; cases h
  | succ k ih =>
    intro st x st' hd h
    simp only [dfs] at h
    split at h
    · rename_i h0
      simp only [Option.some.injEq, Prod.mk.injEq, beq_eq_false_iff_ne, ne_eq] at h
      obtain ⟨rfl, h1⟩ := h
      refine ⟨hd, ?_, fun u h => h, fun u h => h⟩
      rcases hd.2 x with h2 | h2 | h2
      · exact absurd h2 h0
      · exact absurd h2 h1
      · exact h2
    · rename_i h0
      simp only [ne_eq, Decidable.not_not] at h0
      have hd1 : DoneOk s (mput st x 1) := by
        refine ⟨fun u hu => ?_, fun u => ?_⟩
        · rw [seen_mput] at hu; split at hu
          · cases hu
          · exact hd.1 u hu
        · rw [seen_mput]; split
          · exact .inr (.inl rfl)
          · exact hd.2 u
      have fold : ∀ (l : List Th) (st st' : Mem), DoneOk s st → foldS (dfs s k) st l = some (st', false) → DoneOk s st' ∧ (∀ y ∈ l, seen st' y = 2) ∧ (∀ u, seen st u = 2 → seen st' u = 2) ∧ ∀ u, seen st' u = 1 → seen st u = 1 := by
        intro l
        induction l with
        | nil =>
          intro st st' hd h
          simp only [foldS, Option.some.injEq, Prod.mk.injEq, and_true] at h
          subst h
          exact ⟨hd, (fun y hy => by cases hy), fun u h => h, fun u h => h⟩
        | cons y ys ih2 =>
          intro st st' hd h
          simp only [foldS] at h
          cases hr : dfs s k st y with
          | none => rw [hr] at h; cases h
          | some p =>
            obtain ⟨st1, b1⟩ := p
            rw [hr] at h
            cases b1 with
            | true => simp only [Option.some.injEq, Prod.mk.injEq, Bool.true_eq_false, and_false] at h
            | false =>
              simp only at h
              obtain ⟨a1, a2, a3, a4⟩ := ih st y st1 hd hr
              obtain ⟨b1, b2, b3, b4⟩ := ih2 st1 st' a1 h
              refine ⟨b1, fun z hz => ?_, fun u hu => b3 u (a3 u hu), fun u hu => a4 u (b4 u hu)⟩
              rcases List.mem_cons.1 hz with rfl | hz
              · exact b3 z a2
              · exact b2 z hz
      cases hr : foldS (dfs s k) (mput st x 1) (s.leads x) with
      | none => rw [hr] at h; cases h
      | some p =>
        obtain ⟨st1, b1⟩ := p
        rw [hr] at h
        cases b1 with
        | true => simp only [Option.some.injEq, Prod.mk.injEq, Bool.true_eq_false, and_false] at h
        | false =>
          simp only [Option.some.injEq, Prod.mk.injEq, and_true] at h
          subst h
          obtain ⟨a1, a2, a3, a4⟩ := fold _ _ _ hd1 hr
          refine ⟨⟨fun u hu => ?_, fun u => ?_⟩, by rw [seen_mput, if_pos rfl], fun u hu => ?_, fun u hu => ?_⟩
          · rw [seen_mput] at hu; split at hu
            · rename_i e; subst e; exact Acc.intro _ fun y hy => a1.1 y (a2 y hy)
            · exact a1.1 u hu
          · rw [seen_mput]; split
            · exact .inr (.inr rfl)
            · exact a1.2 u
          · rw [seen_mput]; split
            · rfl
            · rename_i e; refine a3 u ?_; rw [seen_mput, if_neg e]; exact hu
          · rw [seen_mput] at hu; split at hu
            · cases hu
            · rename_i e; have := a4 u hu; rw [seen_mput, if_neg e] at this; exact this
/-- A way of at least one step, upwards. -/
inductive Way (s : Solv) : Th → Th → Prop
  | one {x y} : y ∈ s.leads x → Way s x y
  | more {x y z} : Way s x y → z ∈ s.leads y → Way s x z
theorem Way.first {x z : Th} (h : Way s x z) : ∃ w, w ∈ s.leads x ∧ (w = z ∨ Way s w z) := by
  induction h with
  | one h => exact ⟨_, h, .inl rfl⟩
  | more h1 h2 ih =>
    obtain ⟨w, h3, h4⟩ := ih
    rcases h4 with rfl | h4
    · exact ⟨w, h3, .inr (.one h2)⟩
    · exact ⟨w, h3, .inr (.more h4 h2)⟩
theorem Way.not_self {u : Th} (ha : Acc (Rl s) u) : ¬ Way s u u := by
  induction ha with
  | intro v _ ih =>
    intro h
    obtain ⟨w, h1, h2⟩ := h.first
    rcases h2 with rfl | h2
    · exact ih w h1 h
    · exact ih w h1 (.more h2 h1)
theorem dfs_true : ∀ (k : Nat) (st : Mem) (x : Th) (st' : Mem), DoneOk s st → (∀ u, seen st u = 1 → Way s u x) → dfs s k st x = some (st', true) → ∃ u, Way s u u := by
  intro k
  induction k with
  | zero => intro st x st' _ _ h; cases h
  | succ k ih =>
    intro st x st' hd hw h
    simp only [dfs] at h
    split at h
    · simp only [Option.some.injEq, Prod.mk.injEq, beq_iff_eq] at h
      exact ⟨x, hw x h.2⟩
    · rename_i h0
      simp only [ne_eq, Decidable.not_not] at h0
      have hd1 : DoneOk s (mput st x 1) := by
        refine ⟨fun u hu => ?_, fun u => ?_⟩
        · rw [seen_mput] at hu; split at hu
          · cases hu
          · exact hd.1 u hu
        · rw [seen_mput]; split
          · exact .inr (.inl rfl)
          · exact hd.2 u
      have hw1 : ∀ u, seen (mput st x 1) u = 1 → u = x ∨ Way s u x := by
        intro u hu; rw [seen_mput] at hu; split at hu
        · rename_i e; exact .inl e.symm
        · exact .inr (hw u hu)
      have fold : ∀ (l : List Th) (st st' : Mem), (∀ y ∈ l, y ∈ s.leads x) → DoneOk s st → (∀ u, seen st u = 1 → u = x ∨ Way s u x) → foldS (dfs s k) st l = some (st', true) → ∃ u, Way s u u := by
        intro l
        induction l with
        | nil => intro st st' _ _ _ h; simp only [foldS, Option.some.injEq, Prod.mk.injEq, Bool.false_eq_true, and_false] at h
        | cons y ys ih2 =>
          intro st st' hl hd hw h
          simp only [foldS] at h
          cases hr : dfs s k st y with
          | none => rw [hr] at h; cases h
          | some p =>
            obtain ⟨st1, b1⟩ := p
            rw [hr] at h
            cases b1 with
            | true =>
              refine ih st y st1 hd (fun u hu => ?_) hr
              rcases hw u hu with rfl | h1
              · exact .one (hl y (by simp))
              · exact .more h1 (hl y (by simp))
            | false =>
              obtain ⟨a1, a2, a3, a4⟩ := dfs_false k st y st1 hd hr
              exact ih2 st1 st' (fun z hz => hl z (by simp [hz])) a1 (fun u hu => hw u (a4 u hu)) h
      cases hr : foldS (dfs s k) (mput st x 1) (s.leads x) with
      | none => rw [hr] at h; cases h
      | some p =>
        obtain ⟨st1, b1⟩ := p
        rw [hr] at h
        cases b1 with
        | true => exact fold _ _ _ (fun y hy => hy) hd1 hw1 hr
        | false => simp only [Option.some.injEq, Prod.mk.injEq, Bool.false_eq_true, and_false] at h

/-- All that leads anywhere is among 'all'. -/
def Keyed (s : Solv) : Prop := ∀ x : Th, (x.1 = 0 ∨ x.1 = 1 ∨ x.1 = 2) → s.leads x ≠ [] → x ∈ s.all
theorem leads_kind {x y : Th} (h : y ∈ s.leads x) : y.1 = 0 ∨ y.1 = 1 ∨ y.1 = 2 := by
  unfold Solv.leads at h
  split at h
  · obtain ⟨b, _, rfl⟩ := List.mem_map.1 h; exact .inr (.inl rfl)
  · split at h
    · obtain ⟨b, _, h⟩ := List.mem_flatMap.1 h
      unfold instrLead at h
      split at h
      · simp at h; subst h; exact .inl rfl
      · split at h
        · simp at h; subst h; exact .inr (.inr rfl)
        · cases h
    · obtain ⟨b, _, rfl⟩ := List.mem_map.1 h; exact .inr (.inl rfl)
theorem leads_else {x : Th} (h0 : x.1 ≠ 0) (h1 : x.1 ≠ 1) : s.leads x = s.leads (2, x.2) := by
  unfold Solv.leads
  have a : (x.1 == 0) = false := by simpa using h0
  have b : (x.1 == 1) = false := by simpa using h1
  simp [a, b]
theorem foldS_false : ∀ (k : Nat) (l : List Th) (st st' : Mem), DoneOk s st → (∀ u, seen st u ≠ 1) → foldS (dfs s k) st l = some (st', false) → DoneOk s st' ∧ (∀ y ∈ l, seen st' y = 2) ∧ (∀ u, seen st u = 2 → seen st' u = 2) ∧ ∀ u, seen st' u ≠ 1 := by
  intro k l
  induction l with
  | nil =>
    intro st st' hd hn h
    simp only [foldS, Option.some.injEq, Prod.mk.injEq, and_true] at h
    subst h
    exact ⟨hd, (fun y hy => by cases hy), fun u h => h, hn⟩
  | cons y ys ih =>
    intro st st' hd hn h
    simp only [foldS] at h
    cases hr : dfs s k st y with
    | none => rw [hr] at h; cases h
    | some p =>
      obtain ⟨st1, b1⟩ := p
      rw [hr] at h
      cases b1 with
      | true => simp only [Option.some.injEq, Prod.mk.injEq, Bool.true_eq_false, and_false] at h
      | false =>
        obtain ⟨a1, a2, a3, a4⟩ := dfs_false k st y st1 hd hr
        obtain ⟨b1, b2, b3, b4⟩ := ih st1 st' a1 (fun u hu => hn u (a4 u hu)) h
        refine ⟨b1, fun z hz => ?_, fun u hu => b3 u (a3 u hu), b4⟩
        rcases List.mem_cons.1 hz with rfl | hz
        · exact b3 z a2
        · exact b2 z hz
theorem foldS_true : ∀ (k : Nat) (l : List Th) (st st' : Mem), DoneOk s st → (∀ u, seen st u ≠ 1) → foldS (dfs s k) st l = some (st', true) → ∃ u, Way s u u := by
  intro k l
  induction l with
  | nil => intro st st' _ _ h; simp only [foldS, Option.some.injEq, Prod.mk.injEq, Bool.false_eq_true, and_false] at h
  | cons y ys ih =>
    intro st st' hd hn h
    simp only [foldS] at h
    cases hr : dfs s k st y with
    | none => rw [hr] at h; cases h
    | some p =>
      obtain ⟨st1, b1⟩ := p
      rw [hr] at h
      cases b1 with
      | true => exact dfs_true k st y st1 hd (fun u hu => absurd hu (hn u)) hr
      | false =>
        obtain ⟨a1, a2, a3, a4⟩ := dfs_false k st y st1 hd hr
        exact ih st1 st' a1 (fun u hu => hn u (a4 u hu)) h
theorem seen_nil (u : Th) : seen [] u = 0 := rfl
theorem doneOk_nil : DoneOk s [] := ⟨(fun u hu => by rw [seen_nil] at hu; cases hu), fun u => .inl (seen_nil u)⟩
/-- The search says whether something leads to itself. -/
theorem cyc_iff (hk : Keyed s) {k : Nat} {b : Bool} (h : cyc s k = some b) : b = false ↔ acy s := by
  unfold cyc at h
  cases hr : foldS (dfs s k) [] s.all with
  | none => rw [hr] at h; cases h
  | some p =>
    obtain ⟨st', b'⟩ := p
    rw [hr] at h
    simp only [Option.map_some, Option.some.injEq] at h
    subst h
    cases b' with
    | true =>
      obtain ⟨u, hu⟩ := foldS_true k s.all [] st' doneOk_nil (by intro u; rw [seen_nil]; simp) hr
      exact ⟨fun h => (by cases h), fun ha => absurd hu (Way.not_self (ha u))⟩
    | false =>
      obtain ⟨a1, a2, _, _⟩ := foldS_false k s.all [] st' doneOk_nil (by intro u; rw [seen_nil]; simp) hr
      refine ⟨fun _ x => ?_, fun _ => rfl⟩
      by_cases hl : s.leads x = []
      · exact Acc.intro _ fun y hy => by unfold Rl at hy; rw [hl] at hy; cases hy
      · by_cases h : x.1 = 0 ∨ x.1 = 1 ∨ x.1 = 2
        · exact a1.1 x (a2 x (hk x h hl))
        · have e : s.leads x = s.leads (2, x.2) := leads_else (by omega) (by omega)
          have ha := a1.1 (2, x.2) (a2 _ (hk (2, x.2) (.inr (.inr rfl)) (by rw [← e]; exact hl)))
          exact Acc.intro _ fun z hz => by unfold Rl at hz; rw [e] at hz; exact ha.inv hz
theorem closed_all (hk : Keyed s) : ∀ x ∈ s.all ++ s.all.flatMap s.leads, ∀ y ∈ s.leads x, y ∈ s.all ++ s.all.flatMap s.leads := by
  intro x hx y hy
  have hne : s.leads x ≠ [] := fun e => by rw [e] at hy; cases hy
  have : x ∈ s.all := by
    rcases List.mem_append.1 hx with h | h
    · exact h
    · obtain ⟨z, _, h2⟩ := List.mem_flatMap.1 h
      exact hk x (leads_kind h2) hne
  exact List.mem_append.2 (.inr (List.mem_flatMap.2 ⟨x, this, hy⟩))
theorem cyc_total (hk : Keyed s) : ∃ k b, cyc s k = some b := by
  have tot := dfs_total (s := s) _ (closed_all hk)
  have hsub : ∀ x ∈ s.all, x ∈ s.all ++ s.all.flatMap s.leads := fun x hx => List.mem_append.2 (.inl hx)
  unfold cyc
  generalize s.all ++ s.all.flatMap s.leads = U at tot hsub
  have fold : ∀ (l : List Th) (st : Mem), (∀ y ∈ l, y ∈ U) → ∃ st' b, foldS (dfs s (U.length + 1)) st l = some (st', b) := by
    intro l
    induction l with
    | nil => intro st _; exact ⟨st, false, rfl⟩
    | cons y ys ih2 =>
      intro st hl
      obtain ⟨st1, b1, e1, m1⟩ := tot (U.length + 1) st y (hl y (by simp)) (Nat.lt_succ_of_le List.countP_le_length)
      simp only [foldS, e1]
      cases b1 with
      | true => exact ⟨_, _, rfl⟩
      | false => exact ih2 st1 fun z hz => hl z (by simp [hz])
  obtain ⟨st', b, e⟩ := fold s.all [] hsub
  exact ⟨U.length + 1, b, by rw [e]; rfl⟩
/-- Each key is among 'all'. -/
structure KInv (s : Solv) : Prop where
  t : ∀ x ∈ s.tables, ((0 : Int), x.1) ∈ s.all
  b : ∀ x ∈ s.blocks, ((1 : Int), x.1) ∈ s.all
  g : ∀ x ∈ s.groups, ((2 : Int), x.id) ∈ s.all
theorem KInv.keyed (h : KInv s) : Keyed s := by
  rintro ⟨k, id⟩ hx hl
  dsimp only at hx
  unfold Solv.leads at hl
  rcases hx with rfl | rfl | rfl
  · simp only [beq_self_eq_true, if_true, ne_eq, List.map_eq_nil_iff] at hl
    unfold lookL at hl
    cases hf : s.tables.find? (fun t => t.1 == id) with
    | none => rw [hf] at hl; simp at hl
    | some t =>
      have h1 := h.t t (List.mem_of_find?_eq_some hf)
      have h2 := List.find?_some hf
      simp only [beq_iff_eq] at h2
      rw [← h2]; exact h1
  · have e : ((1 : Int) == 0) = false := rfl
    simp only [e, Bool.false_eq_true, if_false, beq_self_eq_true, if_true, ne_eq] at hl
    unfold lookL at hl
    cases hf : s.blocks.find? (fun t => t.1 == id) with
    | none => rw [hf] at hl; simp at hl
    | some t =>
      have h1 := h.b t (List.mem_of_find?_eq_some hf)
      have h2 := List.find?_some hf
      simp only [beq_iff_eq] at h2
      rw [← h2]; exact h1
  · have e : ((2 : Int) == 0) = false := rfl
    have e1 : ((2 : Int) == 1) = false := rfl
    simp only [e, e1, Bool.false_eq_true, if_false, ne_eq, List.map_eq_nil_iff] at hl
    unfold Solv.buckets Solv.group at hl
    cases hf : s.groups.find? (fun t => t.id == id) with
    | none => rw [hf] at hl; simp at hl
    | some t =>
      have h1 := h.g t (List.mem_of_find?_eq_some hf)
      have h2 := List.find?_some hf
      simp only [beq_iff_eq] at h2
      rw [← h2]; exact h1
end
end Go.AM.B

/- Package bound: the most steps, by equations (plain; no machine). -/
namespace Go.AM.B
noncomputable section
set_option linter.unusedVariables false
variable {s : Solv}

/-- A block's code, by what is reckoned of tables and groups. -/
def codeV (V : Th → Int) : List Instr → List Int
  | [] => [0]
  | i :: r =>
    (if i.op = 23 ∨ i.op = 22 then min over (1 + 0)
    else if i.op = 13 then min over (1 + V (0, i.n))
    else if i.op = 14 then min over (1 + V (2, i.n))
    else if i.op = 12 ∧ 0 ≤ i.n ∧ i.n < r.length then min over (1 + max ((codeV V r).getD 0 0) ((codeV V r).getD i.n.toNat 0))
    else min over (1 + (codeV V r).getD 0 0)) :: codeV V r
def comb0 (s : Solv) (V : Th → Int) (x : Th) : Int :=
  if x.1 = 0 then
    (if (s.tables.find? fun t => t.1 == x.2).isSome then ((lookL s.tables x.2).map fun b => V (1, b)).foldl max 0 + 1 else ((lookL s.tables x.2).map fun b => V (1, b)).foldl max 0)
  else if x.1 = 1 then (codeV V (lookL s.blocks x.2)).getD 0 0
  else ((s.buckets x.2).map fun b => V (1, b.block)).foldl (fun n r => if kindOf (s.group x.2) = 1 then min over (n + r) else max n r) 0
def comb (s : Solv) (V : Th → Int) (x : Th) : Int := min over (comb0 s V x)
/-- It is what is reckoned. -/
def IsVal (s : Solv) (V : Th → Int) : Prop := ∀ x, V x = comb s V x

theorem leads_0 (s : Solv) (id : Int) : s.leads (0, id) = (lookL s.tables id).map fun b => (1, b) := rfl
theorem leads_1 (s : Solv) (id : Int) : s.leads (1, id) = (lookL s.blocks id).flatMap instrLead := rfl
theorem leads_g (s : Solv) {k : Int} (id : Int) (h0 : k ≠ 0) (h1 : k ≠ 1) : s.leads (k, id) = (s.buckets id).map fun b => (1, b.block) := by
  unfold Solv.leads
  have a : (k == 0) = false := by simpa using h0
  have b : (k == 1) = false := by simpa using h1
  simp [a, b]
theorem codeV_congr {V W : Th → Int} : ∀ {l : List Instr}, (∀ y ∈ l.flatMap instrLead, V y = W y) → codeV V l = codeV W l := by
  intro l
  induction l with
  | nil => intro _; rfl
  | cons i r ih =>
    intro h
    have h1 := ih fun y hy => h y (by simp only [List.flatMap_cons, List.mem_append]; exact .inr hy)
    have h2 : ∀ y ∈ instrLead i, V y = W y := fun y hy => h y (by simp only [List.flatMap_cons, List.mem_append]; exact .inl hy)
    simp only [codeV, h1]
    congr 1
    split
    · rfl
    · split
      · rename_i e; rw [h2 (0, i.n) (by simp [instrLead, e])]
      · split
        · rename_i e0 e; rw [h2 (2, i.n) (by simp [instrLead, e])]
        · rfl
theorem comb_congr {V W : Th → Int} {x : Th} (h : ∀ y ∈ s.leads x, V y = W y) : comb s V x = comb s W x := by
  obtain ⟨k, id⟩ := x
  unfold comb comb0
  dsimp only
  by_cases h0 : k = 0
  · subst h0
    rw [leads_0] at h
    have : ((lookL s.tables id).map fun b => V (1, b)) = (lookL s.tables id).map fun b => W (1, b) := List.map_congr_left fun b hb => h (1, b) (List.mem_map.2 ⟨b, hb, rfl⟩)
    simp only [if_true, this]
  · by_cases h1 : k = 1
    · subst h1
      rw [leads_1] at h
      rw [if_neg h0, if_neg h0, if_pos rfl, if_pos rfl, codeV_congr h]
    · rw [leads_g s id h0 h1] at h
      have : ((s.buckets id).map fun b => V (1, b.block)) = (s.buckets id).map fun b => W (1, b.block) := List.map_congr_left fun b hb => h (1, b.block) (List.mem_map.2 ⟨b, hb, rfl⟩)
      rw [if_neg h0, if_neg h0, if_neg h1, if_neg h1, this]
open Classical in
theorem val_exists (ha : acy s) : ∃ V, IsVal s V := by
  have wf : WellFounded (Rl s) := ⟨ha⟩
  refine ⟨wf.fix fun x rec => comb s (fun y => if h : Rl s y x then rec y h else 0) x, fun x => ?_⟩
  rw [wf.fix_eq]
  refine comb_congr fun y hy => ?_
  have : Rl s y x := hy
  simp only [this, dif_pos]
theorem val_unique (ha : acy s) {V W : Th → Int} (hV : IsVal s V) (hW : IsVal s W) : V = W := by
  funext x
  induction ha x with
  | intro x _ ih => rw [hV x, hW x]; exact comb_congr fun y hy => ih y hy

/-! ### the program's reckoning -/
def Con (V : Th → Int) (kept : Mem) : Prop := ∀ y r, mget kept y = some r → r = V y
theorem Con.put {V : Th → Int} {kept : Mem} (h : Con V kept) {x : Th} {r : Int} (hr : r = V x) : Con V (mput kept x r) := by
  intro y q hq
  rw [mget_mput] at hq
  split at hq
  · rename_i e; simp only [beq_iff_eq] at e; subst e; simp only [Option.some.injEq] at hq; rw [← hq]; exact hr
  · exact h y q hq
theorem foldN_ok {V : Th → Int} {f : Mem → Th → Option (Mem × Int)} (hf : ∀ kept x kept' r, Con V kept → f kept x = some (kept', r) → r = V x ∧ Con V kept') (g : Int → Int → Int) :
    ∀ (l : List Th) (kept : Mem) (n : Int) (kept' : Mem) (r : Int), Con V kept → foldN f g kept n l = some (kept', r) → r = (l.map V).foldl g n ∧ Con V kept' := by
  intro l
  induction l with
  | nil =>
    intro kept n kept' r hc h
    simp only [foldN, Option.some.injEq, Prod.mk.injEq] at h
    obtain ⟨rfl, rfl⟩ := h
    exact ⟨rfl, hc⟩
  | cons y ys ih =>
    intro kept n kept' r hc h
    simp only [foldN] at h
    cases hr : f kept y with
    | none => rw [hr] at h; cases h
    | some p =>
      obtain ⟨k1, r1⟩ := p
      rw [hr] at h
      obtain ⟨rfl, hc1⟩ := hf _ _ _ _ hc hr
      exact ih _ _ _ _ hc1 h
theorem codeF_ok {V : Th → Int} {f : Mem → Th → Option (Mem × Int)} (hf : ∀ kept x kept' r, Con V kept → f kept x = some (kept', r) → r = V x ∧ Con V kept') :
    ∀ (l : List Instr) (kept kept' : Mem) (fs : List Int), Con V kept → codeF f kept l = some (kept', fs) → fs = codeV V l ∧ Con V kept' := by
  intro l
  induction l with
  | nil =>
    intro kept kept' fs hc h
    simp only [codeF, Option.some.injEq, Prod.mk.injEq] at h
    obtain ⟨rfl, rfl⟩ := h
    exact ⟨rfl, hc⟩
  | cons i r ih =>
    intro kept kept' fs hc h
    simp only [codeF] at h
    cases hr : codeF f kept r with
    | none => rw [hr] at h; cases h
    | some p =>
      obtain ⟨k1, fs1⟩ := p
      rw [hr] at h
      obtain ⟨rfl, hc1⟩ := ih _ _ _ hc hr
      simp only [codeV]
      simp only at h
      split at h
      · rename_i e
        simp only [Option.some.injEq, Prod.mk.injEq] at h
        rw [if_pos e]
        exact ⟨h.2.symm, h.1 ▸ hc1⟩
      · rename_i e
        rw [if_neg e]
        split at h
        · rename_i e1
          rw [if_pos e1]
          cases hq : f k1 (0, i.n) with
          | none => rw [hq] at h; cases h
          | some p =>
            obtain ⟨k2, n⟩ := p
            rw [hq] at h
            obtain ⟨rfl, hc2⟩ := hf _ _ _ _ hc1 hq
            simp only [Option.some.injEq, Prod.mk.injEq] at h
            exact ⟨h.2.symm, h.1 ▸ hc2⟩
        · rename_i e1
          rw [if_neg e1]
          split at h
          · rename_i e2
            rw [if_pos e2]
            cases hq : f k1 (2, i.n) with
            | none => rw [hq] at h; cases h
            | some p =>
              obtain ⟨k2, n⟩ := p
              rw [hq] at h
              obtain ⟨rfl, hc2⟩ := hf _ _ _ _ hc1 hq
              simp only [Option.some.injEq, Prod.mk.injEq] at h
              exact ⟨h.2.symm, h.1 ▸ hc2⟩
          · rename_i e2
            rw [if_neg e2]
            split at h
            · rename_i e3
              rw [if_pos e3]
              simp only [Option.some.injEq, Prod.mk.injEq] at h
              exact ⟨h.2.symm, h.1 ▸ hc1⟩
            · rename_i e3
              rw [if_neg e3]
              simp only [Option.some.injEq, Prod.mk.injEq] at h
              exact ⟨h.2.symm, h.1 ▸ hc1⟩
theorem stepsF_ok {V : Th → Int} (hV : IsVal s V) : ∀ (k : Nat) (kept : Mem) (x : Th) (kept' : Mem) (r : Int), Con V kept → stepsF s k kept x = some (kept', r) → r = V x ∧ Con V kept' := by
  intro k
  induction k with
  | zero => intro kept x kept' r _ h; cases h
  | succ k ih =>
    intro kept x kept' r hc h
    simp only [stepsF] at h
    cases hm : mget kept x with
    | some n =>
      rw [hm] at h
      simp only [Option.some.injEq, Prod.mk.injEq] at h
      obtain ⟨rfl, rfl⟩ := h
      exact ⟨hc x _ hm, hc⟩
    | none =>
      rw [hm] at h
      simp only at h
      have key : ∀ (o : Option (Mem × Int)), (match o with | none => none | some (kept', n) => some (mput kept' x (min over n), min over n)) = some (kept', r) → (∀ k1 n1, o = some (k1, n1) → n1 = comb0 s V x ∧ Con V k1) → r = V x ∧ Con V kept' := by
        intro o ho hq
        cases o with
        | none => cases ho
        | some p =>
          obtain ⟨k1, n1⟩ := p
          obtain ⟨e1, c1⟩ := hq k1 n1 rfl
          simp only [Option.some.injEq, Prod.mk.injEq] at ho
          have e : min over n1 = V x := by rw [hV x, e1]; rfl
          refine ⟨ho.2.symm.trans e, ?_⟩
          rw [← ho.1]
          exact c1.put e
      refine key _ h fun k1 n1 ho => ?_
      unfold comb0
      by_cases h0 : x.1 = 0
      · rw [if_pos h0] at ho
        rw [if_pos h0]
        cases hf : foldN (stepsF s k) max kept 0 ((lookL s.tables x.2).map fun b => (1, b)) with
        | none => rw [hf] at ho; cases ho
        | some p =>
          obtain ⟨k2, n2⟩ := p
          rw [hf] at ho
          obtain ⟨e, c⟩ := foldN_ok ih max _ _ _ _ _ hc hf
          simp only [Option.some.injEq, Prod.mk.injEq] at ho
          rw [List.map_map] at e
          refine ⟨?_, ho.1 ▸ c⟩
          rw [← ho.2, e]; rfl
      · rw [if_neg h0] at ho
        rw [if_neg h0]
        by_cases h1 : x.1 = 1
        · rw [if_pos h1] at ho
          rw [if_pos h1]
          cases hf : codeF (stepsF s k) kept (lookL s.blocks x.2) with
          | none => rw [hf] at ho; cases ho
          | some p =>
            obtain ⟨k2, fs⟩ := p
            rw [hf] at ho
            obtain ⟨e, c⟩ := codeF_ok ih _ _ _ _ hc hf
            simp only [Option.some.injEq, Prod.mk.injEq] at ho
            exact ⟨by rw [← ho.2, e], ho.1 ▸ c⟩
        · rw [if_neg h1] at ho
          rw [if_neg h1]
          obtain ⟨e, c⟩ := foldN_ok ih _ _ _ _ _ _ hc ho
          rw [List.map_map] at e
          exact ⟨e, c⟩

theorem foldN_total {f : Mem → Th → Option (Mem × Int)} (g : Int → Int → Int) : ∀ (l : List Th), (∀ y ∈ l, ∀ kept, (f kept y).isSome = true) → ∀ (kept : Mem) (n : Int), (foldN f g kept n l).isSome = true := by
  intro l
  induction l with
  | nil => intro _ kept n; rfl
  | cons y ys ih =>
    intro h kept n
    simp only [foldN]
    have := h y (by simp) kept
    cases hr : f kept y with
    | none => rw [hr] at this; cases this
    | some p => exact ih (fun z hz => h z (by simp [hz])) p.1 _
theorem codeF_total {f : Mem → Th → Option (Mem × Int)} : ∀ (l : List Instr), (∀ y ∈ l.flatMap instrLead, ∀ kept, (f kept y).isSome = true) → ∀ (kept : Mem), (codeF f kept l).isSome = true := by
  intro l
  induction l with
  | nil => intro _ kept; rfl
  | cons i r ih =>
    intro h kept
    have h1 := ih (fun y hy => h y (by simp only [List.flatMap_cons, List.mem_append]; exact .inr hy)) kept
    have h2 : ∀ y ∈ instrLead i, ∀ kept, (f kept y).isSome = true := fun y hy => h y (by simp only [List.flatMap_cons, List.mem_append]; exact .inl hy)
    simp only [codeF]
    cases hr : codeF f kept r with
    | none => rw [hr] at h1; cases h1
    | some p =>
      obtain ⟨k1, fs⟩ := p
      simp only
      split
      · rfl
      · split
        · rename_i e
          have := h2 (0, i.n) (by simp [instrLead, e]) k1
          cases hq : f k1 (0, i.n) with
          | none => rw [hq] at this; cases this
          | some p => rfl
        · split
          · rename_i e1 e
            have := h2 (2, i.n) (by simp [instrLead, e]) k1
            cases hq : f k1 (2, i.n) with
            | none => rw [hq] at this; cases this
            | some p => rfl
          · split <;> rfl
theorem all_fuel {P : Nat → Th → Prop} : ∀ (l : List Th), (∀ y ∈ l, ∃ k0, ∀ k, k0 ≤ k → P k y) → ∃ k0, ∀ k, k0 ≤ k → ∀ y ∈ l, P k y := by
  intro l
  induction l with
  | nil => intro _; exact ⟨0, fun k _ y hy => (by cases hy)⟩
  | cons a l ih =>
    intro h
    obtain ⟨k1, h1⟩ := h a (by simp)
    obtain ⟨k2, h2⟩ := ih fun y hy => h y (by simp [hy])
    refine ⟨k1 + k2, fun k hk y hy => ?_⟩
    rcases List.mem_cons.1 hy with rfl | hy
    · exact h1 k (by omega)
    · exact h2 k (by omega) y hy
theorem stepsF_total {x : Th} (ha : Acc (Rl s) x) : ∃ k0, ∀ k, k0 ≤ k → ∀ kept, (stepsF s k kept x).isSome = true := by
  induction ha with
  | intro x _ ih =>
    obtain ⟨k0, hk0⟩ := all_fuel (P := fun k y => ∀ kept, (stepsF s k kept y).isSome = true) (s.leads x) ih
    refine ⟨k0 + 1, fun k hk kept => ?_⟩
    obtain ⟨k, rfl⟩ : ∃ j, k = j + 1 := ⟨k - 1, by omega⟩
    have hl := hk0 k (by omega)
    simp only [stepsF]
    cases mget kept x with
    | some n => rfl
    | none =>
      simp only
      have key : ∀ o : Option (Mem × Int), o.isSome = true → (match o with | none => none | some (kept', n) => some (mput kept' x (min over n), min over n)).isSome = true := by
        intro o ho
        cases o with
        | none => cases ho
        | some p => rfl
      refine key _ ?_
      obtain ⟨kd, id⟩ := x
      by_cases h0 : kd = 0
      · subst h0
        rw [leads_0] at hl
        have := foldN_total (f := stepsF s k) max _ hl kept 0
        rw [if_pos rfl]
        cases hf : foldN (stepsF s k) max kept 0 ((lookL s.tables id).map fun b => (1, b)) with
        | none => rw [hf] at this; cases this
        | some p => rfl
      · rw [if_neg h0]
        by_cases h1 : kd = 1
        · subst h1
          rw [leads_1] at hl
          have := codeF_total (f := stepsF s k) _ hl kept
          rw [if_pos rfl]
          cases hf : codeF (stepsF s k) kept (lookL s.blocks id) with
          | none => rw [hf] at this; cases this
          | some p => rfl
        · rw [leads_g s id h0 h1] at hl
          rw [if_neg h1]
          exact foldN_total (f := stepsF s k) _ _ hl kept 0
open Classical in
def val (s : Solv) : Th → Int := if h : ∃ V, IsVal s V then h.choose else fun _ => 0
theorem val_is (ha : acy s) : IsVal s (val s) := by
  have h := val_exists ha
  unfold val
  rw [dif_pos h]
  exact h.choose_spec
theorem stepsF_val (ha : acy s) (x : Th) : ∃ k kept, stepsF s k [] x = some (kept, val s x) := by
  obtain ⟨k, hk⟩ := stepsF_total (ha x)
  have := hk k (Nat.le_refl _) []
  cases hr : stepsF s k [] x with
  | none => rw [hr] at this; cases this
  | some p =>
    obtain ⟨kept, r⟩ := p
    have := (stepsF_ok (val_is ha) k [] x kept r (fun y r h => by cases h) hr).1
    exact ⟨k, kept, by rw [hr, this]⟩
open Classical in
/-- What the program tells of an object: the most steps and OK, or 0 and ErrCycle. -/
def bnd (s : Solv) (x : Th) : Int × Int := if acy s then (val s x, 0) else (0, 10)
open Classical in
def cycB (s : Solv) : Bool := decide (¬ acy s)
end
end Go.AM.B

/- Package bound: its functions, by what they tell. -/
namespace Go.AM.B
open Go.Proofs.Ytebogdeaiecldaa.Tab
noncomputable section
set_option linter.unusedVariables false
set_option maxHeartbeats 4000000

theorem KInv.addT {s : Solv} (h : KInv s) (t : Table) : KInv (addT s t) := by
  unfold B.addT
  split
  · exact h
  · refine ⟨fun x hx => ?_, fun x hx => List.mem_append.2 (.inl (h.b x hx)), fun x hx => List.mem_append.2 (.inl (h.g x hx))⟩
    rcases List.mem_append.1 hx with h1 | h1
    · exact List.mem_append.2 (.inl (h.t x h1))
    · simp only [List.mem_singleton] at h1; rw [h1]; simp
theorem KInv.addE {s : Solv} (h : KInv s) (t : Entry) : KInv (addE s t) := by
  unfold B.addE
  split
  · rename_i j hj
    obtain ⟨hjl, hf⟩ := find_of_idx hj
    refine ⟨fun x hx => ?_, h.b, h.g⟩
    rcases List.mem_or_eq_of_mem_set hx with h1 | h1
    · exact h.t x h1
    · have h2 := List.find?_some hf
      simp only [beq_iff_eq] at h2
      have := h.t _ (List.getElem_mem hjl)
      rw [h2] at this
      rw [h1]; exact this
  · exact h
theorem KInv.addB {s : Solv} (h : KInv s) (t : Block) : KInv (addB s t) := by
  unfold B.addB
  split
  · exact h
  · refine ⟨fun x hx => List.mem_append.2 (.inl (h.t x hx)), fun x hx => ?_, fun x hx => List.mem_append.2 (.inl (h.g x hx))⟩
    rcases List.mem_append.1 hx with h1 | h1
    · exact List.mem_append.2 (.inl (h.b x h1))
    · simp only [List.mem_singleton] at h1; rw [h1]; simp
theorem KInv.addG {s : Solv} (h : KInv s) (t : Group) : KInv (addG s t) := by
  unfold B.addG
  split
  · exact h
  · refine ⟨fun x hx => List.mem_append.2 (.inl (h.t x hx)), fun x hx => List.mem_append.2 (.inl (h.b x hx)), fun x hx => ?_⟩
    rcases List.mem_append.1 hx with h1 | h1
    · exact List.mem_append.2 (.inl (h.g x h1))
    · simp only [List.mem_singleton] at h1; rw [h1]; simp
theorem kinv_fold {α : Type} {f : Solv → α → Solv} (hf : ∀ s a, KInv s → KInv (f s a)) : ∀ (l : List α) (s : Solv), KInv s → KInv (l.foldl f s) := by
  intro l
  induction l with
  | nil => intro s h; exact h
  | cons a l ih => intro s h; exact ih _ (hf s a h)
theorem kinv_solve (c : Config) : KInv (solve c) :=
  kinv_fold (fun s a h => h.addG a) _ _ (kinv_fold (fun s a h => h.addB a) _ _ (kinv_fold (fun s a h => h.addE a) _ _ (kinv_fold (fun s a h => h.addT a) _ _ ⟨by simp, by simp, by simp⟩)))
theorem keyed_solve (c : Config) : Keyed (solve c) := (kinv_solve c).keyed

theorem cycle_ok (s : Solv) (a : AV) (hs : IsSolv s a) (hk : Keyed s) : VC1 T 31 [a] (.bool (cycB s)) := by
  obtain ⟨k, b, h⟩ := cyc_total hk
  have h1 := cycle_c s a hs k b h
  have h2 := cyc_iff hk h
  have : b = cycB s := by
    unfold cycB
    cases b with
    | false => have := h2.1 rfl; simp [this]
    | true => have : ¬ acy s := fun e => by have := h2.2 e; cases this
              simp [this]
  rw [← this]; exact h1
def pairAV (p : Int × Int) : AV := .tuple [.int .i64 p.1, .int .i64 p.2]
theorem of_c (c : Config) (sm : Small c) (x : Th) : VC1 T 34 [.agg c.enc, .agg (encP x)] (pairAV (bnd (solve c) x)) := by
  obtain ⟨a, h1, h2⟩ := solve_c c sm
  have h3 := cycle_ok _ a h2 (keyed_solve c)
  obtain ⟨cs, rfl⟩ := h2.form
  refine VC1.of (vf := v34) rfl rfl ?_
  unfold v34
  repeat (first | refine W.seq ?_ | refine W.ops ?_ | refine WL.off rfl rfl ?_ | refine WL.val rfl rfl rfl ?_ | refine WL.nil ?_ | refine W.block ?_ | refine W.outBlock ?_ | refine W.skip ?_ | refine W.exit rfl ?_ | refine WL.box rfl rfl rfl ?_ | refine W.opsD ?_ | refine W.condT rfl ?_ | refine W.condF rfl ?_)
  refine WL.pure rfl rfl rfl h1 rfl ?_
  repeat (first | refine W.seq ?_ | refine W.ops ?_ | refine WL.off rfl rfl ?_ | refine WL.val rfl rfl rfl ?_ | refine WL.nil ?_ | refine W.block ?_ | refine W.outBlock ?_ | refine W.skip ?_ | refine W.exit rfl ?_ | refine WL.box rfl rfl rfl ?_ | refine W.opsD ?_ | refine W.condT rfl ?_ | refine W.condF rfl ?_)
  refine WL.view rfl rfl rfl h3 rfl rfl ?_
  by_cases ha : acy (solve c)
  · have e1 : cycB (solve c) = false := by simp [cycB, ha]
    have e2 : bnd (solve c) x = (val (solve c) x, 0) := by simp [bnd, ha]
    obtain ⟨k, kept, h4⟩ := stepsF_val ha x
    rw [e1, e2]
    repeat (first | refine W.seq ?_ | refine W.ops ?_ | refine WL.off rfl rfl ?_ | refine WL.val rfl rfl rfl ?_ | refine WL.nil ?_ | refine W.block ?_ | refine W.outBlock ?_ | refine W.skip ?_ | refine W.exit rfl ?_ | refine WL.box rfl rfl rfl ?_ | refine W.opsD ?_ | refine W.condT rfl ?_ | refine W.condF rfl ?_)
    refine WL.view rfl rfl rfl (most_c _ _ h2 x k kept _ h4) rfl rfl ?_
    repeat (first | refine W.seq ?_ | refine W.ops ?_ | refine WL.off rfl rfl ?_ | refine WL.val rfl rfl rfl ?_ | refine WL.nil ?_ | refine W.block ?_ | refine W.outBlock ?_ | refine W.skip ?_ | refine W.exit rfl ?_ | refine WL.box rfl rfl rfl ?_ | refine W.opsD ?_ | refine W.condT rfl ?_ | refine W.condF rfl ?_)
    exact W.ret ⟨_, rfl, rfl⟩
  · have e1 : cycB (solve c) = true := by simp [cycB, ha]
    have e2 : bnd (solve c) x = (0, 10) := by simp [bnd, ha]
    rw [e1, e2]
    repeat (first | refine W.seq ?_ | refine W.ops ?_ | refine WL.off rfl rfl ?_ | refine WL.val rfl rfl rfl ?_ | refine WL.nil ?_ | refine W.block ?_ | refine W.outBlock ?_ | refine W.skip ?_ | refine W.exit rfl ?_ | refine WL.box rfl rfl rfl ?_ | refine W.opsD ?_ | refine W.condT rfl ?_ | refine W.condF rfl ?_)
    exact W.ret ⟨_, rfl, rfl⟩
theorem cyc_c (c : Config) (sm : Small c) : VC1 T 14 [.agg c.enc] (.bool (cycB (solve c))) := by
  obtain ⟨a, h1, h2⟩ := solve_c c sm
  have h3 := cycle_ok _ a h2 (keyed_solve c)
  obtain ⟨cs, rfl⟩ := h2.form
  refine VC1.of (vf := v14) rfl rfl ?_
  unfold v14
  repeat (first | refine W.seq ?_ | refine W.ops ?_ | refine WL.off rfl rfl ?_ | refine WL.val rfl rfl rfl ?_ | refine WL.nil ?_ | refine W.block ?_ | refine W.outBlock ?_ | refine W.skip ?_ | refine W.exit rfl ?_ | refine WL.box rfl rfl rfl ?_ | refine W.opsD ?_ | refine W.condT rfl ?_ | refine W.condF rfl ?_)
  refine WL.pure rfl rfl rfl h1 rfl ?_
  refine WL.view rfl rfl rfl h3 rfl rfl ?_
  repeat (first | refine W.seq ?_ | refine W.ops ?_ | refine WL.off rfl rfl ?_ | refine WL.val rfl rfl rfl ?_ | refine WL.nil ?_ | refine W.block ?_ | refine W.outBlock ?_ | refine W.skip ?_ | refine W.exit rfl ?_ | refine WL.box rfl rfl rfl ?_ | refine W.opsD ?_ | refine W.condT rfl ?_ | refine W.condF rfl ?_)
  exact W.ret ⟨_, rfl, rfl⟩
theorem table_c (c : Config) (sm : Small c) (id : Int) : VC1 T 16 [.agg c.enc, .int .i64 id] (pairAV (bnd (solve c) (0, id))) := by
  have h := of_c c sm (0, id)
  refine VC1.of (vf := v16) rfl rfl ?_
  unfold v16
  repeat (first | refine W.seq ?_ | refine W.ops ?_ | refine WL.off rfl rfl ?_ | refine WL.val rfl rfl rfl ?_ | refine WL.nil ?_ | refine W.block ?_ | refine W.outBlock ?_ | refine W.skip ?_ | refine W.exit rfl ?_ | refine WL.box rfl rfl rfl ?_ | refine W.opsD ?_ | refine W.condT rfl ?_ | refine W.condF rfl ?_)
  refine WL.view rfl rfl rfl h rfl rfl ?_
  repeat (first | refine W.seq ?_ | refine W.ops ?_ | refine WL.off rfl rfl ?_ | refine WL.val rfl rfl rfl ?_ | refine WL.nil ?_ | refine W.block ?_ | refine W.outBlock ?_ | refine W.skip ?_ | refine W.exit rfl ?_ | refine WL.box rfl rfl rfl ?_ | refine W.opsD ?_ | refine W.condT rfl ?_ | refine W.condF rfl ?_)
  exact W.ret ⟨_, rfl, rfl⟩
theorem block_c (c : Config) (sm : Small c) (id : Int) : VC1 T 18 [.agg c.enc, .int .i64 id] (pairAV (bnd (solve c) (1, id))) := by
  have h := of_c c sm (1, id)
  refine VC1.of (vf := v18) rfl rfl ?_
  unfold v18
  repeat (first | refine W.seq ?_ | refine W.ops ?_ | refine WL.off rfl rfl ?_ | refine WL.val rfl rfl rfl ?_ | refine WL.nil ?_ | refine W.block ?_ | refine W.outBlock ?_ | refine W.skip ?_ | refine W.exit rfl ?_ | refine WL.box rfl rfl rfl ?_ | refine W.opsD ?_ | refine W.condT rfl ?_ | refine W.condF rfl ?_)
  refine WL.view rfl rfl rfl h rfl rfl ?_
  repeat (first | refine W.seq ?_ | refine W.ops ?_ | refine WL.off rfl rfl ?_ | refine WL.val rfl rfl rfl ?_ | refine WL.nil ?_ | refine W.block ?_ | refine W.outBlock ?_ | refine W.skip ?_ | refine W.exit rfl ?_ | refine WL.box rfl rfl rfl ?_ | refine W.opsD ?_ | refine W.condT rfl ?_ | refine W.condF rfl ?_)
  exact W.ret ⟨_, rfl, rfl⟩
theorem group_c (c : Config) (sm : Small c) (id : Int) : VC1 T 20 [.agg c.enc, .int .i64 id] (pairAV (bnd (solve c) (2, id))) := by
  have h := of_c c sm (2, id)
  refine VC1.of (vf := v20) rfl rfl ?_
  unfold v20
  repeat (first | refine W.seq ?_ | refine W.ops ?_ | refine WL.off rfl rfl ?_ | refine WL.val rfl rfl rfl ?_ | refine WL.nil ?_ | refine W.block ?_ | refine W.outBlock ?_ | refine W.skip ?_ | refine W.exit rfl ?_ | refine WL.box rfl rfl rfl ?_ | refine W.opsD ?_ | refine W.condT rfl ?_ | refine W.condF rfl ?_)
  refine WL.view rfl rfl rfl h rfl rfl ?_
  repeat (first | refine W.seq ?_ | refine W.ops ?_ | refine WL.off rfl rfl ?_ | refine WL.val rfl rfl rfl ?_ | refine WL.nil ?_ | refine W.block ?_ | refine W.outBlock ?_ | refine W.skip ?_ | refine W.exit rfl ?_ | refine WL.box rfl rfl rfl ?_ | refine W.opsD ?_ | refine W.condT rfl ?_ | refine W.condF rfl ?_)
  exact W.ret ⟨_, rfl, rfl⟩
end
end Go.AM.B
