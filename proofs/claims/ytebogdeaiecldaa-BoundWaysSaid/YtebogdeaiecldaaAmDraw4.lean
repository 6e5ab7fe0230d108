/- Parts of the proof: AM.Draw4, AM.Draw5, AM.Tab, AM.Eng, AM.Lem, B.Api. -/
import Derived.Test.YtebogdeaiecldaaAmOp9
import Derived.Laws.StructEq
/- AM, part 24: a step as a change; two steps in the other order. -/
namespace Go.AM
noncomputable section
set_option linter.unusedVariables false
set_option linter.unusedSimpArgs false

theorem own_touch {o : VO} (h : o.op.own = true) : touch o = 2 ∧ hands o = false := by
  cases hop : o.op with
  | alloc hp z => exact ⟨by simp [touch, hop], by simp [hands, hop]⟩
  | box hp x => exact ⟨by simp [touch, hop], by simp [hands, hop]⟩
  | _ => rw [hop] at h; cases h

theorem step1_dl {call : CallF} {nid : Id} {o : VO} {s s1 : St} {f : Foot} (hst : step1 call nid o s = some (s1, f)) : ∃ D, IsDl call nid o s s1 f D := by
  have want : ∀ {t : St}, Same o f s t → wantedA t.env o.guard = wantedA s.env o.guard := fun {t} S =>
    wantedA_alike (fun d w hg => S.looks d (by simp [VO.looks, hg]))
  have oplk : ∀ {t : St}, Same o f s t → ∀ q ∈ o.op.looks, Alike s.env t.env q := fun {t} S q hq => S.looks q (by simp [VO.looks, hq])
  unfold step1 at hst
  split at hst
  · rename_i hw
    simp only [Option.some.injEq, Prod.mk.injEq] at hst
    obtain ⟨rfl, rfl⟩ := hst
    refine ⟨{ box := none, val := .v (.tuple []), sets := [], all := none }, ⟨rfl, fun t S => ?_, by simp, by simp, by simp, by simp, by simp, by simp, fun ho d hd => ?_, fun ho q => ?_, fun _ q => by simp, fun h0 => ?_, fun h0 => ?_⟩⟩
    · unfold step1
      rw [want S, hw]
      rfl
    · simp [skipWr, ho, hd]
    · simp [skipWr, ho]
    · cases hown : o.op.own
      · simp [skipWr, hown]
      · rw [(own_touch hown).1] at h0; cases h0
    · cases hown : o.op.own
      · simp [skipWr, hown]
      · rw [(own_touch hown).1] at h0; cases h0
  · cases hst
  · rename_i hw
    split at hst
    · rename_i fn args hop
      have hown : o.op.own = false := by rw [hop]; rfl
      have hhands : hands o = false := by simp [hands, hop]
      split at hst
      case h_2 => cases hst
      rename_i l hl
      split at hst
      case h_2 => cases hst
      rename_i r h1 n1 hcm
      simp only [Option.some.injEq, Prod.mk.injEq] at hst
      obtain ⟨rfl, hf⟩ := hst
      obtain ⟨k1, k2, k3, k5⟩ := callM_heapless hcm
      have evs : ∀ {t : St}, Same o f s t → evAs t.env args = some l := fun {t} S => by
        rw [← hl]
        exact evAs_alike (fun q hq => oplk S q (by rw [hop]; exact hq))
      cases hm : o.mode with
      | eff =>
        rw [hm] at hf
        simp only at hf
        subst hf
        refine ⟨{ box := none, val := .v r, sets := [], all := some (h1, n1) }, ⟨by simp [Dl.run, putDst], fun t S => ?_, by simp, by simp, by simp, by simp, by simp, by simp, by simp [hown], by simp, by simp, by simp [touch, hop, hm], by simp [touch, hop, hm]⟩⟩
        unfold step1
        rw [want S, hw]
        rw [hm] at hcm
        simp only [hop, evs S, S.heap (by simp), S.next (by simp), hm, hcm]
        rfl
      | pure =>
        rw [hm] at hf
        simp only at hf
        subst hf
        obtain ⟨rfl, rfl, k4⟩ := k1 hm
        refine ⟨{ box := none, val := .v r, sets := [], all := none }, ⟨by simp [Dl.run, putDst, Heap.sets], fun t S => ?_, by simp, by simp, by simp, by simp, by simp, by simp, by simp [hown], by simp, by simp, by simp [touch, hop, hm], by simp [touch, hop, hm]⟩⟩
        unfold step1
        rw [want S, hw]
        rw [hm] at k4
        simp only [hop, evs S, hm, k4]
        rfl
      | view =>
        rw [hm] at hf
        simp only at hf
        subst hf
        obtain ⟨rfl, rfl, k4⟩ := k2 hm
        have hko : ∀ k ∈ flatK (purK purLimit s.heap) l, ∃ i, k = Key.obj i := flatK_obj (purK_obj _ _) l
        have nol : ∀ q, Key.lead q ∉ flatK (purK purLimit s.heap) l := fun q hq => by obtain ⟨_, h⟩ := hko _ hq; cases h
        have nos : ∀ q, Key.slot q ∉ flatK (purK purLimit s.heap) l := fun q hq => by obtain ⟨_, h⟩ := hko _ hq; cases h
        refine ⟨{ box := none, val := .v r, sets := [], all := none }, ⟨by simp [Dl.run, putDst, Heap.sets], fun t S => ?_, by simp, fun q hq => absurd hq (nos q), by simp, by simp, by simp, by simp, by simp [hown], by simp, ⟨fun _ => nol, by simp [touch, hop, hm], by simp [touch, hop, hm]⟩⟩⟩
        have ev := evs S
        have k6 := k4 t.heap t.next S.obj
        have hpk : flatK (purK purLimit t.heap) l = flatK (purK purLimit s.heap) l := flatK_purK_same _ S.obj
        unfold step1
        rw [want S, hw]
        rw [hm] at k6
        simp only [hop, ev, hm, k6, hpk]
        rfl
      | fresh =>
        rw [hm] at hf
        simp only at hf
        subst hf
        obtain ⟨rfl, ps, hps, rfl, k4⟩ := k3 hm
        refine ⟨{ box := none, val := .v r, sets := ps, all := none }, ⟨by simp [Dl.run, putDst], fun t S => ?_, by simp, by simp, fun p hp => by simp [hps p hp], by simp, by simp, by simp, by simp [hown], by simp, by simp, by simp [touch, hop, hm], by simp [touch, hop, hm]⟩⟩
        unfold step1
        rw [want S, hw]
        rw [hm] at k4
        simp only [hop, evs S, hm, k4]
        rfl
      | vfresh =>
        rw [hm] at hf
        simp only at hf
        subst hf
        obtain ⟨rfl, ps, hps, rfl, k4⟩ := k5 hm
        have hko : ∀ k ∈ flatK (purK purLimit s.heap) l, ∃ i, k = Key.obj i := flatK_obj (purK_obj _ _) l
        have nol : ∀ q, Key.lead q ∉ flatK (purK purLimit s.heap) l := fun q hq => by obtain ⟨_, h⟩ := hko _ hq; cases h
        have nos : ∀ q, Key.slot q ∉ flatK (purK purLimit s.heap) l := fun q hq => by obtain ⟨_, h⟩ := hko _ hq; cases h
        refine ⟨{ box := none, val := .v r, sets := ps, all := none }, ⟨by simp [Dl.run, putDst], fun t S => ?_, by simp, fun q hq => absurd hq (nos q), fun p hp => by simp [hps p hp], by simp, by simp, by simp, by simp [hown], by simp, ⟨fun _ => nol, by simp [touch, hop, hm], by simp [touch, hop, hm]⟩⟩⟩
        have ev := evs S
        have k6 := k4 t.heap t.next S.obj
        have hpk : flatK (purK purLimit t.heap) l = flatK (purK purLimit s.heap) l := flatK_purK_same _ S.obj
        unfold step1
        rw [want S, hw]
        rw [hm] at k6
        simp only [hop, ev, hm, k6, hpk]
        rfl
    · rename_i g args hop
      have hown : o.op.own = false := by rw [hop]; rfl
      have hhands : hands o = false := by simp [hands, hop]
      split at hst
      case h_2 => cases hst
      rename_i l hl
      split at hst
      case h_2 => cases hst
      rename_i fn l' htg
      split at hst
      case h_2 => cases hst
      rename_i r h1 n1 hcm
      simp only [Option.some.injEq, Prod.mk.injEq] at hst
      obtain ⟨rfl, rfl⟩ := hst
      refine ⟨{ box := none, val := .v r, sets := [], all := some (h1, n1) }, ⟨by simp [Dl.run, putDst], fun t S => ?_, by simp, by simp, by simp, by simp, by simp, by simp, by simp [hown], by simp, by simp, by simp [touch, hop], by simp [touch, hop]⟩⟩
      have ev1 : evAs t.env args = some l := by
        rw [← hl]
        exact evAs_alike (fun q hq => oplk S q (by rw [hop]; exact List.mem_append_right _ hq))
      have ev2 : target t.env g l = some (fn, l') := by
        rw [← htg]
        exact target_alike (fun q hq => oplk S q (by rw [hop]; exact List.mem_append_left _ hq)) l
      unfold step1
      rw [want S, hw]
      simp only [hop, ev1, ev2, S.heap (by simp), S.next (by simp), hcm]
      rfl
    · rename_i hn1 hn2
      split at hst
      case h_2 => cases hst
      rename_i eff ha
      simp only [Option.some.injEq, Prod.mk.injEq] at hst
      obtain ⟨rfl, rfl⟩ := hst
      have A := aop_told ha
      have hrun : ∀ t : St, t.eff o.dst eff = Dl.run { box := eff.box, val := eff.val, sets := (match eff.del with | some q => [(q, none)] | none => []) ++ eff.put.map (fun p => (p.1, some p.2)), all := none } o.dst t := by
        intro t
        unfold St.eff Dl.run
        simp only [Heap.puts_sets]
        cases eff.del with
        | none => rfl
        | some q => rfl
      refine ⟨_, ⟨hrun s, fun t S => ?_, A.box, A.rbox, fun p hp => ?_, by simp, A.vbox, A.vlead, fun ho d hd => ⟨(A.own ho d hd).1, (A.own ho d hd).2.1⟩, A.wlead, A.tch o rfl⟩⟩
      · have := aop_alike ha (oplk S) S.slot S.obj S.free
        unfold step1
        rw [want S, hw]
        rw [← hrun t]
        simp only [this]
      · simp only [List.mem_append, List.mem_map] at hp
        rcases hp with hp | ⟨p', hp', rfl⟩
        · cases hd : eff.del with
          | none => rw [hd] at hp; cases hp
          | some q =>
            rw [hd] at hp
            simp only [List.mem_singleton] at hp
            subst hp
            exact A.del q hd
        · exact A.put p' hp'

/-! ### clashes -/
theorem meets_false {xs ys : List Key} (h : meets xs ys = false) : ∀ x ∈ xs, ∀ y ∈ ys, x.meet y = false := by
  intro x hx y hy
  cases hh : x.meet y
  · rfl
  · have : meets xs ys = true := List.any_eq_true.2 ⟨x, hx, List.any_eq_true.2 ⟨y, hy, hh⟩⟩
    rw [this] at h; cases h
theorem clash_false {a b : Foot} (h : clash a b = false) : (∀ x ∈ a.2, ∀ y ∈ b.1, x.meet y = false) ∧ (∀ x ∈ a.2, ∀ y ∈ b.2, x.meet y = false) ∧ (∀ x ∈ a.1, ∀ y ∈ b.2, x.meet y = false) := by
  simp only [clash, Bool.or_eq_false_iff] at h
  exact ⟨meets_false h.1.1, meets_false h.1.2, meets_false h.2⟩
theorem slot_meet (s : Nat) : Key.meet (.slot s) (.slot s) = true := by simp [Key.meet]
theorem lead_meet (s : Nat) : Key.meet (.lead s) (.lead s) = true := by simp [Key.meet]
theorem obj_meet (i : Id) : Key.meet (.obj i) (.obj i) = true := by simp [Key.meet, idEq_self]

theorem Env.free_put {e : Env} {d : Nat} (h : e.free d = true) {s : Nat} {v : SV} (hv : ∀ off, v ≠ .lptr d off) : (e.put s v).free d = true := by
  refine Tr.all_set ?_ _ h
  cases v with
  | lptr t off =>
    simp only [leadsOff, Bool.not_eq_true']
    cases hb : Nat.beq t d
    · rfl
    · exact absurd (by rw [Nat.eq_of_beq_eq_true hb]) (hv off)
  | _ => rfl

/-- Where no variable's slot will be put over. -/
def Safe (e : Env) (o : VO) : Prop := o.op.own = false → ∀ d, o.dst = some d → ∀ cs, e.get d ≠ some (.box cs)

theorem Env.get_putO (e : Env) (dst : Option Nat) (v : SV) (t : Nat) : (e.putO dst v).get t = if dst = some t then some v else e.get t := by
  cases dst with
  | none => simp [Env.putO]
  | some d =>
    simp only [Env.putO, Env.get_put, Option.some.injEq]
    by_cases h : t = d
    · subst h; simp
    · simp [h, Ne.symm h]

/-- What a slot holds behind a change. -/
theorem Dl.get {D : Dl} {dst : Option Nat} {s : St} (t : Nat) : (D.run dst s).env.get t = if dst = some t then some D.val else match D.box with
    | some (q, cs) => if t = q then some (.box cs) else s.env.get t
    | none => s.env.get t := by
  simp only [Dl.run, Env.get_putO]
  split
  · rfl
  · cases D.box with
    | none => rfl
    | some p => obtain ⟨q, cs⟩ := p; simp only [Env.get_put]

theorem Dl.free {D : Dl} {dst : Option Nat} {s : St} {d : Nat} (h : s.env.free d = true) (hv : ∀ off, D.val ≠ .lptr d off) : (D.run dst s).env.free d = true := by
  have h1 : (match D.box with
      | some (q, cs) => s.env.put q (.box cs)
      | none => s.env).free d = true := by
    cases D.box with
    | none => exact h
    | some p => exact Env.free_put h (by simp)
  simp only [Dl.run]
  cases dst with
  | none => exact h1
  | some t => exact Env.free_put h1 hv

theorem env_swap (e : Env) {b1 b2 : Option (Nat × List AV)} {d1 d2 : Option Nat} {v1 v2 : SV} (hbb : ∀ q cs q' cs', b1 = some (q, cs) → b2 = some (q', cs') → q ≠ q') (hbd : ∀ q cs, b1 = some (q, cs) → d2 ≠ some q)
    (hdb : ∀ q cs, b2 = some (q, cs) → d1 ≠ some q) (hdd : ∀ d, d1 = some d → d2 ≠ some d) :
    (match b2 with
      | some (q, cs) => ((match b1 with
        | some (q, cs) => e.put q (.box cs)
        | none => e).putO d1 v1).put q (.box cs)
      | none => (match b1 with
        | some (q, cs) => e.put q (.box cs)
        | none => e).putO d1 v1).putO d2 v2 =
    (match b1 with
      | some (q, cs) => ((match b2 with
        | some (q, cs) => e.put q (.box cs)
        | none => e).putO d2 v2).put q (.box cs)
      | none => (match b2 with
        | some (q, cs) => e.put q (.box cs)
        | none => e).putO d2 v2).putO d1 v1 := by
  have pc : ∀ (e : Env) (d d' : Option Nat) (v v' : SV), (∀ x, d = some x → d' ≠ some x) → (e.putO d v).putO d' v' = (e.putO d' v').putO d v := by
    intro e d d' v v' h
    cases d with
    | none => rfl
    | some x => cases d' with
      | none => rfl
      | some y => exact Env.put_comm e (fun hh => h x rfl (by rw [hh])) v v'
  have pp : ∀ (e : Env) (q : Nat) (d : Option Nat) (u v : SV), d ≠ some q → (e.putO d v).put q u = (e.put q u).putO d v := by
    intro e q d u v h
    cases d with
    | none => rfl
    | some y => exact Env.put_comm e (fun hh => h (by rw [hh])) v u
  cases b1 with
  | none => cases b2 with
    | none => exact pc e d1 d2 v1 v2 hdd
    | some p =>
      obtain ⟨q, cs⟩ := p
      simp only
      rw [pp e q d1 _ _ (hdb q cs rfl)]
      exact pc _ d1 d2 v1 v2 hdd
  | some p => cases b2 with
    | none =>
      obtain ⟨q, cs⟩ := p
      simp only
      rw [pp e q d2 _ _ (hbd q cs rfl)]
      exact pc _ d1 d2 v1 v2 hdd
    | some p' =>
      obtain ⟨q, cs⟩ := p
      obtain ⟨q', cs'⟩ := p'
      simp only
      rw [pp _ q' d1 _ _ (hdb q' cs' rfl), pp _ q d2 _ _ (hbd q cs rfl), Env.put_comm e (hbb q cs q' cs' rfl rfl)]
      exact pc _ d1 d2 v1 v2 hdd

/-- Two steps that leave each other alone, in the other order. -/
theorem swap {call : CallF} {nk ni : Id} {ok oi : VO} {s s1 s2 : St} {fk fi : Foot} (h1 : step1 call nk ok s = some (s1, fk)) (h2 : step1 call ni oi s1 = some (s2, fi))
    (a1 : ok.apart oi = true) (a2 : oi.apart ok = true) (hc : clash fk fi = false) (hsi : Safe s.env oi) (hfi : oi.op.own = true → ∀ d, oi.dst = some d → s.env.free d = true)
    (hfk : ok.op.own = true → ∀ d, ok.dst = some d → s.env.free d = true) :
    ∃ s1', step1 call ni oi s = some (s1', fi) ∧ step1 call nk ok s1' = some (s2, fk) := by
  obtain ⟨K, hK⟩ := step1_dl h1
  obtain ⟨I, hI⟩ := step1_dl h2
  obtain ⟨c1, c2, c3⟩ := clash_false hc
  have ap : ∀ {x y : VO}, x.apart y = true → ∀ d, x.dst = some d → d ∉ y.looks ∧ y.dst ≠ some d := by
    intro x y h d hd
    simp only [VO.apart, hd, Bool.and_eq_true, Bool.not_eq_true', beq_eq_false_iff_ne, ne_eq, List.contains_eq_mem, decide_eq_false_iff_not] at h
    exact h
  have hs1 := hK.eq
  -- the slots that k's variable lies in, and i's
  have kd : ∀ x, .slot x ∈ fi.1 ∨ .slot x ∈ fi.2 → (∃ ds, s1.env.get x = some (.box ds)) → ok.dst ≠ some x := by
    intro x hx ⟨ds, hds⟩ hd
    have hown : ok.op.own = true := by
      rw [hs1, Dl.get, if_pos hd] at hds
      exact hK.vbox ds (Option.some.inj hds)
    have hw := (hK.own hown x hd).1
    rcases hx with hx | hx
    · have := c1 _ hw _ hx; rw [slot_meet] at this; cases this
    · have := c2 _ hw _ hx; rw [slot_meet] at this; cases this
  have kq : ∀ x q cs, (.slot x ∈ fi.1 ∨ .slot x ∈ fi.2) → K.box = some (q, cs) → x ≠ q := by
    intro x q cs hx hb hxq
    subst hxq
    have hw := (hK.box x cs hb).1
    rcases hx with hx | hx
    · have := c1 _ hw _ hx; rw [slot_meet] at this; cases this
    · have := c2 _ hw _ hx; rw [slot_meet] at this; cases this
  have back : ∀ x, (.slot x ∈ fi.1 ∨ .slot x ∈ fi.2) → (∃ ds, s1.env.get x = some (.box ds)) → s.env.get x = s1.env.get x := by
    intro x hx hb
    rw [hs1, Dl.get, if_neg (kd x hx hb)]
    cases hbx : K.box with
    | none => rfl
    | some p => obtain ⟨q, cs⟩ := p; simp only; rw [if_neg (kq x q cs hx hbx)]
  have S1 : Same oi fi s1 s := by
    refine ⟨fun q hq => ?_, fun x hx => back x (.inl hx) (hI.rbox x hx), fun j hj => ?_, fun hh => ?_, fun hh => ?_, hfi⟩
    · have hne : ok.dst ≠ some q := fun hd => (ap a1 q hd).1 hq
      cases hbx : K.box with
      | none => exact .inl (by rw [hs1, Dl.get, if_neg hne, hbx])
      | some p =>
        obtain ⟨x, cs⟩ := p
        by_cases hqx : q = x
        · subst hqx
          obtain ⟨_, ds, hds⟩ := hK.box q cs hbx
          exact .inr ⟨cs, ds, by rw [hs1, Dl.get, if_neg hne, hbx]; simp, hds⟩
        · exact .inl (by rw [hs1, Dl.get, if_neg hne, hbx]; simp [hqx])
    · rw [hs1]
      simp only [Dl.run]
      cases hall : K.all with
      | some p =>
        have := c1 _ (hK.all p hall).2 _ hj
        simp [Key.meet] at this
      | none =>
        simp only
        rw [Heap.get_sets _ _ _ (fun p hp hh => by
          have := c1 _ (hK.sets p hp) _ hj
          rw [hh, obj_meet] at this; cases this)]
    · rw [hs1]
      simp only [Dl.run]
      cases hall : K.all with
      | some p =>
        have := c1 _ (hK.all p hall).2 _ hh
        simp [Key.meet] at this
      | none =>
        simp only
        cases hse : K.sets with
        | nil => rfl
        | cons p r =>
          have := c1 _ (hK.sets p (by rw [hse]; simp)) _ hh
          simp [Key.meet] at this
    · rw [hs1]
      simp only [Dl.run]
      cases hall : K.all with
      | some p =>
        have := c2 _ (hK.all p hall).2 _ hh
        simp [Key.meet] at this
      | none => rfl
  have e1 := hI.same s S1
  have iq : ∀ q cs, I.box = some (q, cs) → ∃ ds, s.env.get q = some (.box ds) := by
    intro q cs hb
    obtain ⟨hw, hds⟩ := hI.box q cs hb
    obtain ⟨ds, hds'⟩ := hds
    exact ⟨ds, by rw [back q (.inr hw) ⟨ds, hds'⟩, hds']⟩
  have idn : ∀ x, (.slot x ∈ fk.1 ∨ .slot x ∈ fk.2) → (∃ ds, s.env.get x = some (.box ds)) → oi.dst ≠ some x := by
    intro x hx ⟨ds, hds⟩ hd
    cases hown : oi.op.own
    · exact hsi hown x hd ds hds
    · have hw := (hI.own hown x hd).1
      rcases hx with hx | hx
      · have := c3 _ hx _ hw; rw [slot_meet] at this; cases this
      · have := c2 _ hx _ hw; rw [slot_meet] at this; cases this
  have iqn : ∀ x q cs, (.slot x ∈ fk.1 ∨ .slot x ∈ fk.2) → I.box = some (q, cs) → x ≠ q := by
    intro x q cs hx hb hxq
    subst hxq
    have hw := (hI.box x cs hb).1
    rcases hx with hx | hx
    · have := c3 _ hx _ hw; rw [slot_meet] at this; cases this
    · have := c2 _ hx _ hw; rw [slot_meet] at this; cases this
  have S2 : Same ok fk s (I.run oi.dst s) := by
    refine ⟨fun q hq => ?_, fun x hx => ?_, fun j hj => ?_, fun hh => ?_, fun hh => ?_, fun ho d hd => ?_⟩
    · have hne : oi.dst ≠ some q := fun hd => (ap a2 q hd).1 hq
      cases hbx : I.box with
      | none => exact .inl (by rw [Dl.get, if_neg hne, hbx])
      | some p =>
        obtain ⟨x, cs⟩ := p
        by_cases hqx : q = x
        · subst hqx
          obtain ⟨ds, hds⟩ := iq q cs hbx
          exact .inr ⟨ds, cs, hds, by rw [Dl.get, if_neg hne, hbx]; simp⟩
        · exact .inl (by rw [Dl.get, if_neg hne, hbx]; simp [hqx])
    · rw [Dl.get, if_neg (idn x (.inl hx) (hK.rbox x hx))]
      cases hbx : I.box with
      | none => rfl
      | some p => obtain ⟨q, cs⟩ := p; simp only; rw [if_neg (iqn x q cs (.inl hx) hbx)]
    · simp only [Dl.run]
      cases hall : I.all with
      | some p =>
        have := c3 _ hj _ (hI.all p hall).2
        simp [Key.meet] at this
      | none =>
        simp only
        rw [Heap.get_sets _ _ _ (fun p hp hh => by
          have := c3 _ hj _ (hI.sets p hp)
          rw [hh, obj_meet] at this; cases this)]
    · simp only [Dl.run]
      cases hall : I.all with
      | some p =>
        have := c3 _ hh _ (hI.all p hall).2
        simp [Key.meet] at this
      | none =>
        simp only
        cases hse : I.sets with
        | nil => rfl
        | cons p r =>
          have := c3 _ hh _ (hI.sets p (by rw [hse]; simp))
          simp [Key.meet] at this
    · simp only [Dl.run]
      cases hall : I.all with
      | some p =>
        have := c2 _ hh _ (hI.all p hall).2
        simp [Key.meet] at this
      | none => rfl
    · refine Dl.free (hfk ho d hd) (fun off hv => ?_)
      have h3 := hI.vlead d off hv
      have h4 := (hK.own ho d hd).2
      have := c1 _ h4 _ h3
      rw [lead_meet] at this; cases this
  have e2 := hK.same _ S2
  refine ⟨_, e1, ?_⟩
  rw [e2, hI.eq, hs1]
  have henv : (K.run ok.dst (I.run oi.dst s)).env = (I.run oi.dst (K.run ok.dst s)).env := by
    simp only [Dl.run]
    refine (env_swap s.env (b1 := K.box) (b2 := I.box) (d1 := ok.dst) (d2 := oi.dst) (fun q cs q' cs' hb hb' => ?_) (fun q cs hb => ?_) (fun q cs hb => ?_) (fun d hd => (ap a1 d hd).2)).symm
    · exact iqn q q' cs' (.inr (hK.box q cs hb).1) hb'
    · exact idn q (.inr (hK.box q cs hb).1) (hK.box q cs hb).2
    · exact kd q (.inr (hI.box q cs hb).1) (hI.box q cs hb).2
  have hheap : (K.run ok.dst (I.run oi.dst s)).heap = (I.run oi.dst (K.run ok.dst s)).heap ∧ (K.run ok.dst (I.run oi.dst s)).next = (I.run oi.dst (K.run ok.dst s)).next := by
    simp only [Dl.run]
    cases hka : K.all with
    | none => cases hia : I.all with
      | none =>
        refine ⟨(Heap.sets_comm _ _ _ (fun p hp q hq hh => ?_)).symm, rfl⟩
        have := c2 _ (hK.sets p hp) _ (hI.sets q hq)
        rw [hh, obj_meet] at this; cases this
      | some p =>
        cases hse : K.sets with
        | nil => exact ⟨rfl, rfl⟩
        | cons q r =>
          have := c1 _ (hK.sets q (by rw [hse]; simp)) _ (hI.all p hia).1
          simp [Key.meet] at this
    | some p => cases hia : I.all with
      | none =>
        cases hse : I.sets with
        | nil => exact ⟨rfl, rfl⟩
        | cons q r =>
          have := c3 _ (hK.all p hka).1 _ (hI.sets q (by rw [hse]; simp))
          simp [Key.meet] at this
      | some q =>
        have := c2 _ (hK.all p hka).2 _ (hI.all q hia).2
        simp [Key.meet] at this
  rw [show K.run ok.dst (I.run oi.dst s) = I.run oi.dst (K.run ok.dst s) from by
    rw [St.mk.injEq] 
    exact ⟨henv, hheap.1, hheap.2⟩]
end
end Go.AM

/- AM, part 25: a region that draws: every order comes to what the text's comes to. -/
namespace Go.AM
noncomputable section
set_option linter.unusedVariables false
set_option linter.unusedSimpArgs false

variable {P : Program} {tt : TypeId → Option TI}

/-- Some of a region's operations, in the order of the text. -/
inductive Runs (call : CallF) (nr : Nat) (l : List VO) : List Nat → St → St → List (Nat × Foot) → Prop
  | nil (s) : Runs call nr l [] s s []
  | cons {i r o s s1 s2 f log} : l[i]? = some o → step1 call (nr, i) o s = some (s1, f) → Runs call nr l r s1 s2 log → Runs call nr l (i :: r) s s2 ((i, f) :: log)

theorem Runs.mem {call nr l rem s s' log} (h : Runs call nr l rem s s' log) : ∀ i ∈ rem, ∃ f o, (i, f) ∈ log ∧ l[i]? = some o ∧ (o.op.own = true → ∀ d, o.dst = some d → Key.slot d ∈ f.2 ∧ Key.lead d ∈ f.2) := by
  induction h with
  | nil s => intro i hi; cases hi
  | cons ho hst _ ih =>
    intro i hi
    rcases List.mem_cons.1 hi with rfl | hi
    · obtain ⟨D, hD⟩ := step1_dl hst
      exact ⟨_, _, .head _, ho, hD.own⟩
    · obtain ⟨f, o, h1, h2⟩ := ih i hi
      exact ⟨f, o, .tail _ h1, h2⟩

/-- No variable lies in a slot that an operation puts a value into. -/
def SafeAll (l : List VO) (e : Env) : Prop := ∀ o ∈ l, Safe e o
/-- The slots of variables are no others' slots. -/
def OwnApart (l : List VO) : Prop := ∀ x ∈ l, ∀ y ∈ l, x.op.own = true → y.op.own = false → ∀ d, x.dst = some d → y.dst ≠ some d

theorem SafeAll.step {call : CallF} {nid : Id} {l : List VO} (A : OwnApart l) {o : VO} (ho : o ∈ l) {s s1 : St} {f : Foot} (hs : SafeAll l s.env) (hst : step1 call nid o s = some (s1, f)) : SafeAll l s1.env := by
  obtain ⟨D, hD⟩ := step1_dl hst
  intro y hy hown d hd cs hb
  rw [hD.eq, Dl.get] at hb
  split at hb
  · rename_i hod
    injection hb with hb
    exact A o ho y hy (hD.vbox cs hb) hown d hod hd
  · cases hbx : D.box with
    | none => rw [hbx] at hb; exact hs y hy hown d hd cs hb
    | some p =>
      obtain ⟨q, cs'⟩ := p
      rw [hbx] at hb
      simp only at hb
      split at hb
      · rename_i hdq
        subst hdq
        obtain ⟨_, ds, hds⟩ := hD.box d cs' hbx
        exact hs y hy hown d hd ds hds
      · exact hs y hy hown d hd cs hb

/-- What may stand first stands first. -/
theorem Runs.front {call : CallF} {nr : Nat} {l : List VO} (A : OwnApart l) {i : Nat} {post : List Nat} : ∀ (pre : List Nat) (s s' : St) (log : List (Nat × Foot)), Runs call nr l (pre ++ i :: post) s s' log → SafeAll l s.env →
    (∀ k ∈ pre, ∀ ok oi, l[k]? = some ok → l[i]? = some oi → ok.apart oi = true ∧ oi.apart ok = true) → (∀ k ∈ pre, ∀ fk fi, (k, fk) ∈ log → (i, fi) ∈ log → clash fk fi = false) →
    (∀ j ∈ pre ++ i :: post, ∀ o, l[j]? = some o → o.op.own = true → ∀ d, o.dst = some d → s.env.free d = true) → (pre ++ i :: post).Pairwise (· < ·) →
    (∀ k ∈ pre, ∀ fk, (k, fk) ∈ log → ∀ j ∈ pre ++ i :: post, k < j → ∀ o, l[j]? = some o → o.op.own = true → ∀ d, o.dst = some d → Key.lead d ∉ fk.1) →
    ∃ oi s1 fi log', l[i]? = some oi ∧ step1 call (nr, i) oi s = some (s1, fi) ∧ (i, fi) ∈ log ∧ Runs call nr l (pre ++ post) s1 s' log' ∧ ∀ p ∈ log', p ∈ log := by
  intro pre
  induction pre with
  | nil =>
    intro s s' log h hs _ _ _ _ _
    cases h with
    | cons ho hst hr => exact ⟨_, _, _, _, ho, hst, .head _, hr, fun p hp => .tail _ hp⟩
  | cons k pre ih =>
    intro s s' log h hs hap hcl hfr hsort hld
    obtain ⟨hs1, hs2⟩ := List.pairwise_cons.1 hsort
    cases h with
    | @cons _ _ ok _ sk _ fk log ho hst hr =>
      have hsk : SafeAll l sk.env := hs.step A (List.mem_of_getElem? ho) hst
      obtain ⟨K, hK⟩ := step1_dl hst
      obtain ⟨oi, s2, fi, log', q1, q2, q3, q4, q5⟩ := ih sk s' log hr hsk (fun k' hk' => hap k' (.tail _ hk')) (fun k' hk' fk' fi' h1 h2 => hcl k' (.tail _ hk') fk' fi' (.tail _ h1) (.tail _ h2))
        (fun j hj o hjo hown d hd => by
          rw [hK.eq]
          refine Dl.free (hfr j (.tail _ hj) o hjo hown d hd) (fun off hv => ?_)
          exact hld k (.head _) fk (.head _) j (.tail _ hj) (hs1 j hj) o hjo hown d hd (hK.vlead d off hv)) hs2
        (fun k' hk' fk' h1 j hj => hld k' (.tail _ hk') fk' (.tail _ h1) j (.tail _ hj))
      obtain ⟨a1, a2⟩ := hap k (.head _) ok oi ho q1
      have himem : i ∈ k :: pre ++ i :: post := by simp
      obtain ⟨s1', e1, e2⟩ := swap hst q2 a1 a2 (hcl k (.head _) fk fi (.head _) (.tail _ q3)) (hs oi (List.mem_of_getElem? q1)) (fun hown d hd => hfr i himem oi q1 hown d hd) (fun hown d hd => hfr k (.head _) ok ho hown d hd)
      exact ⟨oi, s1', fi, (k, fk) :: log', q1, e1, .tail _ q3, .cons ho e2 q4, fun p hp => by
        rcases List.mem_cons.1 hp with rfl | hp
        · exact .head _
        · exact .tail _ (q5 p hp)⟩

/-! ### what stands ahead -/
inductive Reach (ops : Array Oper) : Nat → Nat → Prop
  | one {j o e} : ops[j]? = some o → e ∈ o.after → Region.binds .any e = true → Reach ops e.on j
  | more {k j o e} : ops[j]? = some o → e ∈ o.after → Region.binds .any e = true → Reach ops k e.on → Reach ops k j

theorem preds_reach (ops : Array Oper) : ∀ j k, k ∈ (preds ops.toList).getD j [] → Reach ops k j := by
  have inner : ∀ (o : Oper) (acc : List (List Nat)), ops[acc.length]? = some o → (∀ j k, k ∈ acc.getD j [] → Reach ops k j) → ∀ (es : List _) (s : List Nat), (∀ e ∈ es, e ∈ o.after) → (∀ k ∈ s, Reach ops k acc.length) →
      ∀ k ∈ es.foldl (fun s e => if Region.binds .any e then e.on :: ((acc.getD e.on []) ++ s) else s) s, Reach ops k acc.length := by
    intro o acc ho hacc es
    induction es with
    | nil => intro s _ hs k hk; exact hs k hk
    | cons e r ih =>
      intro s he hs k hk
      simp only [List.foldl_cons] at hk
      refine ih _ (fun e' he' => he e' (.tail _ he')) (fun k hk => ?_) k hk
      split at hk
      · rename_i hb
        simp only [List.mem_cons, List.mem_append] at hk
        rcases hk with rfl | hk | hk
        · exact .one ho (he e (.head _)) hb
        · exact .more ho (he e (.head _)) hb (hacc _ _ hk)
        · exact hs k hk
      · exact hs k hk
  have outer : ∀ (os : List Oper) (acc : List (List Nat)), (∀ j o, os[j]? = some o → ops[acc.length + j]? = some o) → (∀ j k, k ∈ acc.getD j [] → Reach ops k j) →
      ∀ j k, k ∈ (os.foldl (init := acc) fun acc o => acc ++ [o.after.toList.foldl (fun s e => if Region.binds .any e then e.on :: ((acc.getD e.on []) ++ s) else s) []]).getD j [] → Reach ops k j := by
    intro os
    induction os with
    | nil => intro acc _ h j k hk; exact h j k hk
    | cons o r ih =>
      intro acc ho hacc
      simp only [List.foldl_cons]
      refine ih _ (fun j o' ho' => ?_) (fun j k hk => ?_)
      · simp only [List.length_append, List.length_cons, List.length_nil]
        have := ho (j + 1) o' (by simpa using ho')
        rw [show acc.length + (0 + 1) + j = acc.length + (j + 1) by omega]
        exact this
      · rw [List.getD_eq_getElem?_getD] at hk
        by_cases hj : j < acc.length
        · rw [List.getElem?_append_left hj, ← List.getD_eq_getElem?_getD] at hk
          exact hacc j k hk
        · rw [List.getElem?_append_right (by omega)] at hk
          by_cases hj' : j = acc.length
          · subst hj'
            simp only [Nat.sub_self, List.getElem?_cons_zero, Option.getD_some] at hk
            exact inner o acc (by simpa using ho 0 o (by simp)) hacc _ [] (fun e he => by simpa using he) (fun k hk => by cases hk) k hk
          · rw [List.getElem?_eq_none (by simp; omega)] at hk
            cases hk
  intro j k hk
  exact outer ops.toList [] (fun j o ho => by simpa using ho) (fun j k hk => by simp at hk) j k hk

theorem mem_loose {ops : Array Oper} {i j : Nat} (hij : i < j) (hj : j < ops.size) (h : ¬ Reach ops i j) : (i, j) ∈ loose ops := by
  simp only [loose, List.mem_filter]
  refine ⟨?_, ?_⟩
  · simp only [pairs, List.mem_flatMap, List.mem_range, List.mem_map, Prod.mk.injEq]
    exact ⟨j, hj, i, hij, rfl, rfl⟩
  · cases hc : ((preds ops.toList).getD j []).contains i
    · rfl
    · exact absurd (preds_reach ops j i (by simpa using hc)) h

/-- What the region's check tells. -/
structure Drawn (ops : Array Oper) (l : List VO) (un : List (Nat × Nat)) : Prop where
  edges : ∀ j o, ops[j]? = some o → ∀ e ∈ o.after, Region.binds .any e = true → e.on < j
  apart : ∀ i j, (i, j) ∈ loose ops → ∀ x y, l[i]? = some x → l[j]? = some y → x.apart y = true ∧ y.apart x = true
  own : OwnApart l
  un : ∀ i j, (i, j) ∈ loose ops → ∀ x y, l[i]? = some x → l[j]? = some y → heed x y = true → (i, j) ∈ un

theorem drawn_ok {ops : Array Oper} {l : List VO} {un : List (Nat × Nat)} (h : drawn ops l = some un) : Drawn ops l un := by
  unfold drawn at h
  simp only at h
  cases hb : (ops.toList.zipIdx.all edgesOk && (loose ops).all (pairApart l) && l.all (fun x => l.all fun y => !(ownClash x y)))
  · rw [hb] at h; cases h
  rw [hb] at h
  simp only [cond_true, Option.some.injEq] at h
  subst h
  simp only [Bool.and_eq_true, List.all_eq_true] at hb
  obtain ⟨⟨h1, h2⟩, h3⟩ := hb
  refine ⟨fun j o ho e he hbind => ?_, fun i j hij x y hx hy => ?_, fun x hx y hy hxo hyo d hd hyd => ?_, fun i j hij x y hx hy hh => ?_⟩
  · have := h1 (o, j) (by
      rw [List.mem_zipIdx_iff_getElem?]
      simpa using ho)
    simp only [edgesOk, List.all_eq_true, Bool.or_eq_true, Bool.not_eq_true'] at this
    rcases this e (by simpa using he) with h4 | h4
    · simpa [Nat.blt_eq] using h4
    · rw [hbind] at h4; cases h4
  · have := h2 (i, j) hij
    simp only [pairApart, hx, hy, Bool.and_eq_true] at this
    exact this
  · have := h3 x hx y hy
    simp [ownClash, hxo, hyo, hd, hyd] at this
  · simp only [List.mem_filter, pairHeed, hx, hy, hh, and_true]
    exact hij

theorem not_heed {call : CallF} {ni nj : Id} {x y : VO} {s s1 t t1 : St} {f g : Foot} (h1 : step1 call ni x s = some (s1, f)) (h2 : step1 call nj y t = some (t1, g)) (h : heed x y = false) : clash f g = false := by
  obtain ⟨D, hD⟩ := step1_dl h1
  obtain ⟨E, hE⟩ := step1_dl h2
  simp only [heed, Bool.or_eq_false_iff, Bool.and_eq_false_iff, beq_eq_false_iff_ne, ne_eq, Bool.not_eq_false', beq_iff_eq] at h
  obtain ⟨⟨⟨c1, c2⟩, c3⟩, c4⟩ := h
  have le2 : ∀ o : VO, touch o = 0 ∨ touch o = 1 ∨ touch o = 2 := by
    intro o
    unfold touch
    repeat' split
    all_goals simp
  have nomeet : ∀ {xs ys : List Key}, (∀ k ∈ xs, ∀ k' ∈ ys, k.meet k' = false) → meets xs ys = false := by
    intro xs ys hh
    cases hm : meets xs ys
    · rfl
    · obtain ⟨k, hk, hk2⟩ := List.any_eq_true.1 hm
      obtain ⟨k', hk', hk3⟩ := List.any_eq_true.1 hk2
      rw [hh k hk k' hk'] at hk3; cases hk3
  have lead_other : ∀ {q : Nat} {k : Key}, (∀ q, k ≠ .lead q) → k.meet (.lead q) = false ∧ Key.meet (.lead q) k = false := by
    intro q k hk
    cases k with
    | lead q' => exact absurd rfl (hk q')
    | slot s => exact ⟨rfl, rfl⟩
    | obj i => exact ⟨rfl, rfl⟩
    | heap => exact ⟨rfl, rfl⟩
  have noLead : ∀ {o : VO} {c : CallF} {nd : Id} {u u1 : St} {r : Foot} {D : Dl}, IsDl c nd o u u1 r D → o.op.own = false → ∀ k ∈ r.2, ∀ q, k ≠ .lead q := by
    intro o c nd u u1 r D hD ho k hk q hh
    subst hh
    exact hD.wlead ho q hk
  have noHand : ∀ {o : VO} {c : CallF} {nd : Id} {u u1 : St} {r : Foot} {D : Dl}, IsDl c nd o u u1 r D → hands o = false → ∀ k ∈ r.1, ∀ q, k ≠ .lead q := by
    intro o c nd u u1 r D hD ho k hk q hh
    subst hh
    exact hD.tch.1 ho q hk
  have write : ∀ {o o' : VO} {c c' : CallF} {nd nd' : Id} {u u1 v v1 : St} {r r' : Foot} {D D' : Dl}, IsDl c nd o u u1 r D → IsDl c' nd' o' v v1 r' D' → touch o' = 0 → (o.op.own = false ∨ hands o' = false) →
      r'.2 = [] ∧ (∀ k ∈ r.2, ∀ k' ∈ r'.1, k.meet k' = false) ∧ (∀ k ∈ r'.1, ∀ k' ∈ r.2, k.meet k' = false) := by
    intro o o' c c' nd nd' u u1 v v1 r r' D D' hD hD' h0 hh
    obtain ⟨k1, k2⟩ := hD'.tch.2.1 h0
    refine ⟨k1, fun k hk k' hk' => ?_, fun k hk k' hk' => ?_⟩
    · obtain ⟨q, rfl⟩ := k2 k' hk'
      rcases hh with hh | hh
      · exact (lead_other (noLead hD hh k hk)).1
      · exact absurd rfl (noHand hD' hh _ hk' q)
    · obtain ⟨q, rfl⟩ := k2 k hk
      rcases hh with hh | hh
      · exact (lead_other (noLead hD hh k' hk')).2
      · exact absurd rfl (noHand hD' hh _ hk q)
  simp only [clash, Bool.or_eq_false_iff]
  rcases le2 x with hx | hx | hx
  · -- x touches nothing
    obtain ⟨k1, k2, k3⟩ := write hE hD hx (by
      cases ho : y.op.own
      · exact .inl rfl
      · right
        rcases c4 with c4 | c4
        · rw [ho] at c4; cases c4
        · exact c4)
    refine ⟨⟨nomeet (by rw [k1]; simp), nomeet (by rw [k1]; simp)⟩, nomeet k3⟩
  · have e1 := hD.tch.2.2 hx
    rcases le2 y with hy | hy | hy
    · have e2 := (hE.tch.2.1 hy).1
      exact ⟨⟨nomeet (by rw [e1]; simp), nomeet (by rw [e1]; simp)⟩, nomeet (by rw [e2]; simp)⟩
    · have e2 := hE.tch.2.2 hy
      exact ⟨⟨nomeet (by rw [e1]; simp), nomeet (by rw [e1]; simp)⟩, nomeet (by rw [e2]; simp)⟩
    · rcases c2 with c2 | c2
      · exact absurd hy c2
      · rw [hx] at c2; cases c2
  · rcases c1 with c1 | c1
    · exact absurd hx c1
    · obtain ⟨k1, k2, k3⟩ := write hD hE c1 (by
        cases ho : x.op.own
        · exact .inl rfl
        · right
          rcases c3 with c3 | c3
          · rw [ho] at c3; cases c3
          · exact c3)
      exact ⟨⟨nomeet k2, nomeet (by rw [k1]; simp)⟩, nomeet (by rw [k1]; simp)⟩

/-- What the run in the order of the text tells. -/
structure Logged (ops : Array Oper) (l : List VO) (log : List (Nat × Foot)) : Prop where
  pair : ∀ i j fi fj, (i, fi) ∈ log → (j, fj) ∈ log → i < j → (i, j) ∈ loose ops → clash fi fj = false
  led : ∀ i j fi, (i, fi) ∈ log → i < j → ∀ fj, (j, fj) ∈ log → ∀ o, l[j]? = some o → o.op.own = true → ∀ d, o.dst = some d → Key.lead d ∉ fi.1

theorem clashes_false {un : List (Nat × Nat)} {j : Nat} {f : Foot} : ∀ {log : List (Nat × Foot)}, clashes un j f log = false → ∀ i g, (i, g) ∈ log → (i, j) ∈ un → clash g f = false
  | [], _, i, g, hm, _ => by cases hm
  | (i', g') :: r, h, i, g, hm, hu => by
    simp only [clashes, Bool.or_eq_false_iff, Bool.and_eq_false_iff] at h
    rcases List.mem_cons.1 hm with hm | hm
    · injection hm with h1 h2
      subst h1; subst h2
      rcases h.1 with h1 | h1
      · have : (un.any fun p => p.1 == i && p.2 == j) = true := List.any_eq_true.2 ⟨(i, j), hu, by simp⟩
        rw [this] at h1; cases h1
      · exact h1
    · exact clashes_false h.2 i g hm hu

theorem runD_runs {call : CallF} {nr : Nat} {un : List (Nat × Nat)} {e0 : Env} {ops : Array Oper} {l : List VO} (U : Drawn ops l un) : ∀ (r : List VO) (i : Nat) (log0 : List (Nat × Foot)) (s s' : St), l.drop i = r → runD call nr un e0 i log0 r s = some s' →
    (∀ k f, (k, f) ∈ log0 → k < i ∧ ∃ x, l[k]? = some x ∧ ∃ nd u u1, step1 call nd x u = some (u1, f)) → Logged ops l log0 →
    ∃ log, Runs call nr l (List.range' i r.length) s s' log ∧ (∀ o ∈ r, startOk e0 o = true) ∧ ∃ log1, Logged ops l log1 ∧ (∀ p ∈ log, p ∈ log1) ∧ ∀ p ∈ log0, p ∈ log1 := by
  intro r
  induction r with
  | nil =>
    intro i log0 s s' _ h hlog hL
    simp only [runD, Option.some.injEq] at h
    subst h
    exact ⟨[], .nil s, by simp, log0, hL, by simp, fun p hp => hp⟩
  | cons o r ih =>
    intro i log0 s s' hl h hlog hL
    simp only [runD] at h
    split at h
    case h_2 => cases h
    rename_i s1 f hst
    cases hb : (clashes un i f log0 || !(startOk e0 o) || led o log0)
    · rw [hb] at h
      simp only [cond_false] at h
      simp only [Bool.or_eq_false_iff, Bool.not_eq_false'] at hb
      have hoi : l[i]? = some o := by
        have : (l.drop i)[0]? = some o := by rw [hl]; rfl
        rw [List.getElem?_drop] at this
        simpa using this
      have hL' : Logged ops l ((i, f) :: log0) := by
        refine ⟨fun i' j' fi fj h1 h2 hij hlo => ?_, fun i' j' fi h1 hij fj h2 oj hoj hown d hd => ?_⟩
        · rcases List.mem_cons.1 h1 with g1 | g1 <;> rcases List.mem_cons.1 h2 with g2 | g2
          · injection g1 with g1 _; injection g2 with g2 _; omega
          · injection g1 with g1 _; have := (hlog _ _ g2).1; omega
          · injection g2 with g2 g3
            subst g2; subst g3
            obtain ⟨_, x, hx, nd, u, u1, hu⟩ := hlog _ _ g1
            cases hh : heed x o
            · exact not_heed hu hst hh
            · exact clashes_false hb.1.1 i' fi g1 (U.un i' j' hlo x o hx hoi hh)
          · exact hL.pair i' j' fi fj g1 g2 hij hlo
        · rcases List.mem_cons.1 h1 with g1 | g1 <;> rcases List.mem_cons.1 h2 with g2 | g2
          · injection g1 with g1 _; injection g2 with g2 _; omega
          · injection g1 with g1 _; have := (hlog _ _ g2).1; omega
          · injection g2 with g2 g3
            subst g2; subst g3
            rw [hoi] at hoj
            injection hoj with hoj
            subst hoj
            intro hk
            have hb2 := hb.2
            simp only [led, hown, hd] at hb2
            have : (log0.any fun p => p.2.1.any fun k => k.meet (.lead d)) = true := List.any_eq_true.2 ⟨(i', fi), g1, List.any_eq_true.2 ⟨_, hk, lead_meet d⟩⟩
            rw [this] at hb2; cases hb2
          · exact hL.led i' j' fi g1 hij fj g2 oj hoj hown d hd
      obtain ⟨log, q1, q2, log1, q3, q4, q5⟩ := ih (i + 1) ((i, f) :: log0) s1 s' (by rw [← List.drop_drop, hl]; rfl) h (fun k g hk => by
        rcases List.mem_cons.1 hk with gk | gk
        · injection gk with g1 g2; subst g1; subst g2; exact ⟨by omega, o, hoi, _, _, _, hst⟩
        · obtain ⟨g1, g2⟩ := hlog k g gk; exact ⟨by omega, g2⟩) hL'
      refine ⟨(i, f) :: log, by rw [List.length_cons, List.range'_succ]; exact .cons hoi hst q1, fun y hy => ?_, log1, q3, fun p hp => ?_, fun p hp => q5 p (.tail _ hp)⟩
      · rcases List.mem_cons.1 hy with rfl | hy
        · exact hb.1.2
        · exact q2 y hy
      · rcases List.mem_cons.1 hp with rfl | hp
        · exact q5 _ (.head _)
        · exact q4 p hp
    · rw [hb] at h; cases h

theorem startOk_inv {e : Env} {o : VO} (h : startOk e o = true) : (o.op.own = true → ∀ d, o.dst = some d → e.free d = true) ∧ Safe e o := by
  refine ⟨fun ho d hd => ?_, fun ho d hd cs hb => ?_⟩
  · simpa [startOk, hd, ho] using h
  · simp [startOk, hd, ho, hb] at h

theorem listed_iff {listed : Array Bool} {rem : List Nat} (h : ∀ j, listed.getD j true = false ↔ j ∈ rem) (j : Nat) (hj : listed.getD j false = true) : j ∉ rem := by
  intro hm
  have h0 := (h j).2 hm
  rcases Nat.lt_or_ge j listed.size with h' | h'
  · simp [h'] at h0 hj; rw [h0] at hj; cases hj
  · simp [Array.getElem?_eq_none h'] at hj

theorem any_ok {call : CallF} (C : CallSound P call) (K : CallKnown P call) (TT : TOk P tt) (G : FOk P tt) {g : Ghost} {ops : Array Oper} {l : List VO} {un : List (Nat × Nat)} {n nr : Nat} (hs : stripRows tt g ops ops.toList = some l) (U : Drawn ops l un)
    (hall : ∀ (j : Nat) (o : Oper), ops[j]? = some o → ∀ d, o.dst = some d → d < n) {log1 : List (Nat × Foot)} (L : Logged ops l log1) {Q : Exit → Act → World → Prop} : ∀ (m : Nat) (rem : List Nat) (listed : Array Bool) (F : Nat → Prop) (ι : Id → Option Nat) (lam : Nat → Nat) (a : Act) (w : World) (s s' : St) (log : List (Nat × Foot)),
    rem.length = m → rem.Pairwise (· < ·) → (∀ j ∈ rem, j < ops.size) → (∀ j, listed.getD j true = false ↔ j ∈ rem) → listed.size = ops.size → (∀ j o, j ∉ rem → ops[j]? = some o → ∀ e ∈ o.after, Region.binds .any e = true → e.on ∉ rem) → Runs call nr l rem s s' log → (∀ p ∈ log, p ∈ log1) →
    (∀ j ∈ rem, ∀ o, l[j]? = some o → o.op.own = true → ∀ d, o.dst = some d → s.env.free d = true) → SafeAll l s.env → Sim F ι lam n s.env s.heap a w → Ids ι s.next → nr < s.next → (∀ j ∈ rem, ι (nr, j) = none) →
    (∀ a' w', StepPost F ι lam n w (fun x => x.1 ≠ nr) s s' a' w' → Q .normal a' w') → wpAny P .any ops Q m listed a w := by
  intro m
  induction m with
  | zero =>
    intro rem listed F ι lam a w s s' log hm _ _ hli _ _ hr _ _ _ H hid _ _ hq
    have : rem = [] := List.length_eq_zero_iff.1 hm
    subst this
    cases hr
    refine ⟨?_, hq a w (.refl H hid)⟩
    rw [List.eq_nil_iff_forall_not_mem]
    intro j hj
    exact absurd ((hli j).1 (mem_ready.1 hj).1) (by simp)
  | succ m ih =>
    intro rem listed F ι lam a w s s' log hm hsort hlt hli hsz hdn hr hlog hfr hsafe H hid hnr hio hq
    have unreach : ∀ {k j : Nat}, Reach ops k j → j ∉ rem → k ∉ rem := by
      intro k j hR
      induction hR with
      | one ho he hb => intro hj; exact hdn _ _ hj ho _ he hb
      | more ho he hb _ ih => intro hj; exact ih (hdn _ _ hj ho _ he hb)
    have ready_not : ∀ {i k : Nat}, i ∈ Region.ready .any ops listed → Reach ops k i → k ∉ rem := by
      intro i k hi hR
      obtain ⟨_, o, ho, hall⟩ := mem_ready.1 hi
      cases hR with
      | one ho' he hb =>
        rw [ho] at ho'; injection ho' with ho'; subst ho'
        exact listed_iff hli _ (hall _ he hb)
      | more ho' he hb hR' =>
        rw [ho] at ho'; injection ho' with ho'; subst ho'
        exact unreach hR' (listed_iff hli _ (hall _ he hb))
    refine ⟨fun hnil => ?_, fun i hi => ?_⟩
    · exfalso
      cases rem with
      | nil => simp at hm
      | cons i r =>
        have hi0 : i < ops.size := hlt i (.head _)
        have : i ∈ Region.ready .any ops listed := by
          refine mem_ready.2 ⟨(hli i).2 (.head _), ops[i], by simp [hi0], fun e he hb => ?_⟩
          have hon := U.edges i ops[i] (by simp [hi0]) e he hb
          have hnot : e.on ∉ i :: r := by
            intro hm'
            rcases List.mem_cons.1 hm' with h1 | h1
            · omega
            · have := (List.pairwise_cons.1 hsort).1 _ h1; omega
          have hls : e.on < listed.size := by omega
          have h0 : listed.getD e.on true ≠ false := fun h0 => hnot ((hli _).1 h0)
          simp [hls] at h0 ⊢
          exact h0
        rw [hnil] at this
        cases this
    · have hir : i ∈ rem := (hli i).1 (mem_ready.1 hi).1
      obtain ⟨pre, post, rfl⟩ := List.append_of_mem hir
      have hpre : ∀ k ∈ pre, k < i := fun k hk => (List.pairwise_append.1 hsort).2.2 k hk i (.head _)
      have hlo : ∀ k ∈ pre, (k, i) ∈ loose ops := fun k hk => mem_loose (hpre k hk) (hlt i (by simp)) (fun hR => ready_not hi hR (by simp [hk]))
      obtain ⟨oi, s1, fi, log', q1, q2, q3, q4, q5⟩ := hr.front U.own pre s s' log hsafe (fun k hk ok oi hok hoi => U.apart k i (hlo k hk) ok oi hok hoi)
        (fun k hk fk fi h1 h2 => L.pair k i fk fi (hlog _ h1) (hlog _ h2) (hpre k hk) (hlo k hk)) hfr hsort (fun k hk fk h1 j hj hkj o ho hown d hd => by
          obtain ⟨fj, o', g1, g2, g3⟩ := hr.mem j hj
          exact L.led k j fk (hlog _ h1) hkj fj (hlog _ g1) o ho hown d hd)
      have hil : i < ops.size := hlt i (by simp)
      obtain ⟨k1, k2⟩ := stripRows_len hs
      obtain ⟨vo, k3, k4⟩ := k2 i ops[i] (by simp [hil])
      have hvo : oi = vo := by rw [q1] at k3; exact Option.some.inj k3
      subst hvo
      obtain ⟨hp1, hp2, hp3⟩ := List.pairwise_append.1 hsort
      obtain ⟨hp4, hp5⟩ := List.pairwise_cons.1 hp2
      have hne : ∀ j ∈ pre ++ post, j ≠ i := by
        intro j hj hji
        subst hji
        rcases List.mem_append.1 hj with hj | hj
        · have := hpre j hj; omega
        · have := hp4 j hj; omega
      have hsub : ∀ j, j ∈ pre ++ i :: post ↔ j = i ∨ j ∈ pre ++ post := by
        intro j
        simp only [List.mem_append, List.mem_cons]
        constructor
        · rintro (h | h | h) <;> simp [h]
        · rintro (h | h | h) <;> simp [h]
      obtain ⟨D, hD⟩ := step1_dl q2
      refine step1_ok C K TT G k4 hall (i := i) (by simp [hil]) q2 H hid hnr (hio i hir) (fun a' w' hp => ?_)
      obtain ⟨F', ι', lam', r1, r2, r3, r4, r5⟩ := hp
      refine ih (pre ++ post) (listed.setIfInBounds i true) F' ι' lam' a' w' s1 s' log' ?_ ?_ (fun j hj => hlt j ((hsub j).2 (.inr hj))) (fun j => ?_) (by simp [hsz]) (fun j o hj ho e he hb hm' => ?_) q4 (fun p hp => hlog p (q5 p hp)) (fun j hj o ho hown d hd => ?_)
        (hsafe.step U.own (List.mem_of_getElem? q1) q2) r1 r3 (by omega) (fun j hj => ?_) (fun a2 w2 hp2 => ?_)
      · simp at hm ⊢; omega
      · exact List.pairwise_append.2 ⟨hp1, hp5, fun x hx y hy => hp3 x hx y (.tail _ hy)⟩
      · by_cases hji : i = j
        · subst hji
          have hls : i < listed.size := by omega
          simp only [Array.getD_eq_getD_getElem?, Array.getElem?_setIfInBounds_self_of_lt hls, Option.getD_some, Bool.true_eq_false, false_iff]
          intro hj
          exact hne i hj rfl
        · rw [getD_set_ne true hji, hli j, hsub j]
          constructor
          · rintro (h | h)
            · exact absurd h.symm hji
            · exact h
          · exact .inr
      · -- no edge leads back into the rest
        have hnr' : e.on ∉ pre ++ i :: post := by
          by_cases hji : j = i
          · subst hji
            obtain ⟨_, o', ho', hall'⟩ := mem_ready.1 hi
            rw [ho] at ho'; injection ho' with ho'; subst ho'
            exact listed_iff hli _ (hall' e he hb)
          · exact hdn j o (fun hm2 => by
              rcases (hsub j).1 hm2 with h | h
              · exact hji h
              · exact hj h) ho e he hb
        exact hnr' ((hsub _).2 (.inr hm'))
      · rw [hD.eq]
        have hj' : j ∈ pre ++ i :: post := (hsub j).2 (.inr hj)
        refine Dl.free (hfr j hj' o ho hown d hd) (fun off hv => ?_)
        have hl1 := hD.vlead d off hv
        obtain ⟨fj, o', g1, g2, g3⟩ := hr.mem j hj'
        rw [ho] at g2; injection g2 with g2; subst g2
        rcases List.mem_append.1 hj with hjp | hjp
        · have hcl := L.pair j i fj fi (hlog _ g1) (hlog _ q3) (hpre j hjp) (hlo j hjp)
          have := (clash_false hcl).1 _ (g3 hown d hd).2 _ hl1
          rw [lead_meet] at this; cases this
        · exact L.led i j fi (hlog _ q3) (hp4 j hjp) fj (hlog _ g1) o ho hown d hd hl1
      · rw [r5 (nr, j) hnr (by intro hh; injection hh with _ hh; exact hne j hj hh)]
        exact hio j ((hsub j).2 (.inr hj))
      · exact hq a2 w2 (.trans ⟨F', ι', lam', ⟨r1, r2, r3, r4, r5⟩, hp2⟩ (fun x hx => ⟨fun hh => hx (by rw [hh]), hx⟩))

theorem draw_ok (TT : TOk P tt) (G : FOk P tt) : DrawOk P tt := by
  intro call C K g ops l un n nr s s' F ι lam a w Q hs hun hall hr H hid hnr hio hq
  have U := drawn_ok hun
  have hlen : l.length = ops.size := by rw [(stripRows_len hs).1]; simp
  obtain ⟨log, q1, q2, log1, q3, q4, _⟩ := runD_runs U l 0 [] s s' rfl hr (fun k f h => by cases h) ⟨(fun i j fi fj h => by cases h), (fun i j fi h => by cases h)⟩
  rw [hlen] at q1
  refine any_ok C K TT G hs U hall q3 ops.size (List.range' 0 ops.size) _ F ι lam a w s s' log (by simp) List.pairwise_lt_range' (fun j hj => by simp at hj; exact hj) (fun j => ?_) (by simp) (fun j o hj ho e he hb hm => ?_) q1 q4
    (fun j hj o ho hown d hd => (startOk_inv (q2 o (List.mem_of_getElem? ho))).1 hown d hd) (fun o ho => (startOk_inv (q2 o ho)).2) H hid hnr (fun j _ => hio j) hq
  · simp only [List.mem_range'_1]
    rcases Nat.lt_or_ge j ops.size with h | h
    · simp [h]
    · simp [Array.getElem?_replicate, Nat.not_lt.2 h]
  · have := (Array.getElem?_eq_some_iff.1 ho).1
    simp at hj
    omega

/-- THE RUN IS SOUND. -/
theorem calls_ok {T : FuncId → Option VFun} (B : TabOk P tt T) (TT : TOk P tt) (G : FOk P tt) (hm : P.follows .mixedOrders = true) (k : Nat) : CallSound P (callT T k) :=
  callT_sound B TT (run_ok B TT G (draw_ok TT G) hm k)
end
end Go.AM

/- AM, part 26: the table of a program's types, and of its functions. -/
namespace Go.AM
noncomputable section
set_option linter.unusedVariables false
set_option linter.unusedSimpArgs false

def flatCK (P : Program) (t : TypeId) : Option CK :=
  match P.underlying t with
  | some (.int k) => some (.int k)
  | some .string => some .str
  | some .bool => some .bool
  | _ => none
def flatFields (P : Program) : Nat → List Field → Option (List CK)
  | _, [] => some []
  | i, f :: r => match flatCK P f.type, flatFields P (i + 1) r with
    | some c, some l => bif f.offset == i && f.name != "_" then some (c :: l) else none
    | _, _ => none
def flatOf (P : Program) (t : TypeId) : Option (List CK) :=
  match P.underlying t with
  | some (.struct fs) => match flatFields P 0 fs.toList with
    | some l => bif !(P.stoodInHeld t) && !(P.eqGuardType P.depth t) then some l else none
    | none => none
  | _ => none
def ttOf (P : Program) (t : TypeId) : Option TI :=
  match P.underlying t, P.info? t with
  | some d, some f => some { desc := d, size := f.size, bytes := f.bytes, zero := f.zero, flat := flatOf P t }
  | _, _ => none

variable {P : Program}

theorem ttOf_inv {t : TypeId} {i : TI} (h : ttOf P t = some i) : P.underlying t = some i.desc ∧ (∃ f, P.info? t = some f ∧ f.size = i.size ∧ f.bytes = i.bytes ∧ f.zero = i.zero) ∧ i.flat = flatOf P t := by
  unfold ttOf at h
  split at h
  · rename_i d f h1 h2
    injection h with h
    subst h
    exact ⟨h1, ⟨f, h2, rfl, rfl, rfl⟩, rfl⟩
  · cases h

theorem ttOf_ok : TOk P (ttOf P) := ⟨fun t i h => (ttOf_inv h).1, fun t i h => (ttOf_inv h).2.1⟩

theorem flatOf_inv {t : TypeId} {l : List CK} (h : flatOf P t = some l) : ∃ fs, P.underlying t = some (.struct fs) ∧ flatFields P 0 fs.toList = some l ∧ P.stoodInHeld t = false ∧ P.eqGuardType P.depth t = false := by
  unfold flatOf at h
  split at h
  case h_2 => cases h
  rename_i fs hu
  split at h
  case h_2 => cases h
  rename_i l' hl
  cases hb : (!(P.stoodInHeld t) && !(P.eqGuardType P.depth t))
  · rw [hb] at h; cases h
  rw [hb] at h
  simp only [cond_true, Option.some.injEq] at h
  subst h
  simp only [Bool.and_eq_true, Bool.not_eq_true'] at hb
  exact ⟨fs, hu, hl, hb.1, hb.2⟩

theorem run_part1 {t : TypeId} {c : CK} (hc : flatCK P t = some c) {cs : Array Value} {off : Nat} {v : Value} (hv : cs[off]? = some v) (w : World) : (part t cs off).run P w = .ok v w := by
  unfold flatCK at hc
  split at hc
  · rename_i k hu; simp [part, isAgg, run_underlying hu, hv]
  · rename_i hu; simp [part, isAgg, run_underlying hu, hv]
  · rename_i hu; simp [part, isAgg, run_underlying hu, hv]
  · cases hc

theorem run_eqc {t : TypeId} {c : CK} (hc : flatCK P t = some c) {a b : AV} {r : Bool} (hr : keq1 c a b = some r) {F : Nat → Prop} {w : World} {ι : Id → Option Nat} {u v : Value} (hu : RV F w ι a u) (hv : RV F w ι b v) (d : Nat) (w' : World) :
    (Op.equalIn (d + 1) t u v).run P w' = .ok r w' := by
  unfold keq1 at hr
  split at hr
  · rename_i k j x j' y
    cases hb : (j == k && j' == k)
    · rw [hb] at hr; cases hr
    rw [hb] at hr
    simp only [Bool.and_eq_true, beq_iff_eq] at hb
    obtain ⟨rfl, rfl⟩ := hb
    simp only [cond_true, Option.some.injEq] at hr
    subst hr
    have h1 := hu.int_inv; have h2 := hv.int_inv
    subst h1; subst h2
    unfold flatCK at hc
    split at hc
    · rename_i k' hun
      exact run_equalIn_int w' d t j' k' x y hun
    · cases hc
    · cases hc
    · cases hc
  · rename_i x y
    simp only [Option.some.injEq] at hr
    subst hr
    have h1 := hu.str_inv; have h2 := hv.str_inv
    subst h1; subst h2
    unfold flatCK at hc
    split at hc
    · cases hc
    · rename_i hun
      simp [Op.equalIn, run_underlying hun]
    · cases hc
    · cases hc
  · rename_i x y
    simp only [Option.some.injEq] at hr
    subst hr
    have h1 := hu.bool_inv; have h2 := hv.bool_inv
    subst h1; subst h2
    unfold flatCK at hc
    split at hc
    · cases hc
    · cases hc
    · rename_i hun
      simp [Op.equalIn, run_underlying hun]
    · cases hc
  · cases hr

theorem flat_fields {d : Nat} {F : Nat → Prop} {w w' : World} {ι : Id → Option Nat} {xs ys : Array Value} : ∀ {fs : List Field} {l : List CK} {i : Nat} {x y : List AV} {r : Bool}, flatFields P i fs = some l → keqs l x y = some r → xs.size = i + x.length → ys.size = i + y.length →
    (∀ (j : Nat) (u : AV) (c : Value), x[j]? = some u → xs[i + j]? = some c → RV F w ι u c) → (∀ (j : Nat) (u : AV) (c : Value), y[j]? = some u → ys[i + j]? = some c → RV F w ι u c) →
    (Op.eqFields (d + 1) xs ys fs).run P w' = .ok r w' := by
  intro fs
  induction fs with
  | nil =>
    intro l i x y r hf hk _ _ _ _
    simp only [flatFields, Option.some.injEq] at hf
    subst hf
    cases x <;> cases y <;> simp [keqs] at hk
    subst hk
    simp [Op.eqFields]
  | cons f fs ih =>
    intro l i x y r hf hk hx hy h1 h2
    simp only [flatFields] at hf
    split at hf
    case h_2 => cases hf
    rename_i c l' hc hl
    cases hb : (f.offset == i && f.name != "_")
    · rw [hb] at hf; cases hf
    rw [hb] at hf
    simp only [cond_true, Option.some.injEq] at hf
    subst hf
    simp only [Bool.and_eq_true, beq_iff_eq, bne_iff_ne, ne_eq] at hb
    obtain ⟨hoff, hname⟩ := hb
    cases x with
    | nil => simp [keqs] at hk
    | cons p x =>
    cases y with
    | nil => simp [keqs] at hk
    | cons q y =>
    simp only [keqs] at hk
    split at hk
    case h_2 => cases hk
    rename_i r1 r2 hk1 hk2
    injection hk with hk
    subst hk
    simp only [List.length_cons] at hx hy
    have hxi : i < xs.size := by omega
    have hyi : i < ys.size := by omega
    have g1 := h1 0 p xs[i] (by simp) (by simp [hxi])
    have g2 := h2 0 q ys[i] (by simp) (by simp [hyi])
    have e1 := run_part1 (cs := xs) (off := f.offset) (v := xs[i]) hc (by rw [hoff]; simp [hxi]) w'
    have e2 := run_part1 (cs := ys) (off := f.offset) (v := ys[i]) hc (by rw [hoff]; simp [hyi]) w'
    have e3 := run_eqc hc hk1 g1 g2 d w'
    have e4 := ih (i := i + 1) hl hk2 (by omega) (by omega) (fun j u c hu hc => h1 (j + 1) u c (by simpa using hu) (by rw [show i + (j + 1) = i + 1 + j by omega]; exact hc))
      (fun j u c hu hc => h2 (j + 1) u c (by simpa using hu) (by rw [show i + (j + 1) = i + 1 + j by omega]; exact hc))
    simp only [Op.eqFields, if_pos hname, Sem.run_bind, e1, Result.andThen_ok, e2, e3]
    cases r1
    · simp
    · simp only [Bool.not_true, Bool.false_eq_true, if_false, e4, Bool.true_and]

theorem flat_check {em : Bool} {m : Nat} {xs : Array Value} {w' : World} : ∀ {fs : List Field} {l : List CK} {i : Nat}, flatFields P i fs = some l → i + fs.length ≤ xs.size →
    (forIn fs PUnit.unit fun f (_ : PUnit) => (if f.name ≠ "_" then (do
      let v ← part f.type xs f.offset
      Instr.checkKey em (m + 1) f.type v
      pure (ForInStep.yield PUnit.unit)) else pure (ForInStep.yield PUnit.unit) : Sem (ForInStep PUnit))).run P w' = .ok PUnit.unit w' := by
  intro fs
  induction fs with
  | nil => intro l i _ _; simp
  | cons f fs ih =>
    intro l i hf hx
    simp only [flatFields] at hf
    split at hf
    case h_2 => cases hf
    rename_i c l' hc hl
    cases hb : (f.offset == i && f.name != "_")
    · rw [hb] at hf; cases hf
    simp only [Bool.and_eq_true, beq_iff_eq, bne_iff_ne, ne_eq] at hb
    obtain ⟨hoff, hname⟩ := hb
    simp only [List.length_cons] at hx
    have hxi : i < xs.size := by omega
    have e1 := run_part1 (cs := xs) (off := f.offset) (v := xs[i]) hc (by rw [hoff]; simp [hxi]) w'
    have e2 : (Instr.checkKey em (m + 1) f.type xs[i]).run P w' = .ok () w' := by
      unfold flatCK at hc
      split at hc
      · rename_i k hu; simp [Instr.checkKey, run_underlying hu]
      · rename_i hu; simp [Instr.checkKey, run_underlying hu]
      · rename_i hu; simp [Instr.checkKey, run_underlying hu]
      · cases hc
    simp only [List.forIn_cons, if_pos hname, Sem.run_bind, e1, Result.andThen_ok, e2, Sem.run_pure]
    exact ih hl (by omega)

theorem fitss_len {l : List CK} {x : List AV} (h : fitss l x = true) : l.length = x.length := by
  induction l generalizing x with
  | nil => cases x <;> simp [fitss] at h ⊢
  | cons c l ih =>
    cases x with
    | nil => simp [fitss] at h
    | cons a x =>
      simp only [fitss, Bool.and_eq_true] at h
      simp [ih h.2]
theorem flatFields_len {fs : List Field} : ∀ {l : List CK} {i : Nat}, flatFields P i fs = some l → fs.length = l.length := by
  induction fs with
  | nil => intro l i h; simp only [flatFields, Option.some.injEq] at h; subst h; rfl
  | cons f fs ih =>
    intro l i h
    simp only [flatFields] at h
    split at h
    case h_2 => cases h
    rename_i c l' hc hl
    cases hb : (f.offset == i && f.name != "_")
    · rw [hb] at h; cases h
    rw [hb] at h
    simp only [cond_true, Option.some.injEq] at h
    subst h
    simp [ih hl]

theorem ttOf_flat : FOk P (ttOf P) := by
  refine ⟨fun t i l hi hl => ?_, fun t i l hi hl F w w' ι x y xs ys r hk hx hy h1 h2 => ?_, fun t i l hi hl em F w w' ι x xs hf hx h1 => ?_, fun t i l hi hl => ?_⟩
  · obtain ⟨_, _, h3⟩ := ttOf_inv hi
    rw [hl] at h3
    exact (flatOf_inv h3.symm).choose_spec.2.2.2
  · obtain ⟨_, _, h3⟩ := ttOf_inv hi
    rw [hl] at h3
    obtain ⟨fs, q1, q2, q3, _⟩ := flatOf_inv h3.symm
    have hfs : P.fieldsOf t = fs := by simp [Program.fieldsOf, q1]
    show (Op.equalIn (9998 + 1 + 1) t (.agg xs) (.agg ys)).run P w' = _
    rw [run_equalIn_struct (P := P) w' _ t xs ys (by rw [hfs]; exact q1) q3, hfs]
    exact flat_fields (i := 0) q2 hk (by omega) (by omega) (fun j u c hu hc => h1 j u c hu (by simpa using hc)) (fun j u c hu hc => h2 j u c hu (by simpa using hc))
  · obtain ⟨_, _, h3⟩ := ttOf_inv hi
    rw [hl] at h3
    obtain ⟨fs, q1, q2, q3, _⟩ := flatOf_inv h3.symm
    show (Instr.checkKey em (9998 + 1 + 1) t (.agg xs)).run P w' = _
    have hlen : 0 + fs.toList.length ≤ xs.size := by rw [flatFields_len q2, fitss_len hf, hx]; omega
    have := flat_check (P := P) (em := em) (m := 9998) (w' := w') q2 hlen
    rw [Instr.checkKey]
    simp only [Sem.run_bind, run_underlying q1, Result.andThen_ok]
    rw [← Array.forIn_toList]
    rw [this]
    simp only [Result.andThen_ok, Sem.run_pure]
  · obtain ⟨h1, _, h3⟩ := ttOf_inv hi
    rw [hl] at h3
    obtain ⟨fs, q1, _⟩ := flatOf_inv h3.symm
    rw [q1] at h1
    exact ⟨fs, (Option.some.inj h1).symm⟩

/-- A table of functions. -/
def tabOf : List (Nat × VFun) → FuncId → Option VFun
  | [], _ => none
  | (g, v) :: r, f => bif Nat.beq g f then some v else tabOf r f
inductive TabList (P : Program) : List (Nat × VFun) → Prop
  | nil : TabList P []
  | cons {f fn g vf l} : P.funcs[f]? = some fn → (fn.name == "runtime.NumGoroutine") = false → stripF (ttOf P) g fn = some vf → TabList P l → TabList P ((f, vf) :: l)
theorem tab_ok {l : List (Nat × VFun)} (h : TabList P l) : TabOk P (ttOf P) (tabOf l) := by
  induction h with
  | nil => intro f vf hf; cases hf
  | @cons f fn g vf l h1 h2 h3 _ ih =>
    intro f' vf' hf
    simp only [tabOf] at hf
    cases hb : Nat.beq f f'
    · rw [hb] at hf; exact ih f' vf' hf
    · rw [hb] at hf
      simp only [cond_true, Option.some.injEq] at hf
      subst hf
      have := Nat.eq_of_beq_eq_true hb
      subst this
      exact ⟨fn, g, h1, h2, h3⟩

/-- A CALL, whatever the machine draws. -/
theorem calls_of {l : List (Nat × VFun)} (h : TabList P l) (hm : P.follows .mixedOrders = true) (k : Nat) : CallSound P (callT (tabOf l) k) := calls_ok (tab_ok h) ttOf_ok ttOf_flat hm k

def saysTrue : Option (AV × Heap × Nat) → Bool
  | some (.bool true, _, _) => true
  | _ => false
end
end Go.AM

/- AM, part 28: contracts over the abstract machine: the run, step by step, without fuel. -/
namespace Go.AM
noncomputable section
set_option linter.unusedVariables false

def Ev (p : Nat → Prop) : Prop := ∃ k, ∀ j, k ≤ j → p j
theorem Ev.of {p : Nat → Prop} (h : ∀ j, p j) : Ev p := ⟨0, fun j _ => h j⟩
theorem Ev.and {p q : Nat → Prop} (h : Ev p) (k : Ev q) : Ev fun j => p j ∧ q j := by
  obtain ⟨a, ha⟩ := h
  obtain ⟨b, hb⟩ := k
  exact ⟨a + b, fun j hj => ⟨ha j (by omega), hb j (by omega)⟩⟩
theorem Ev.mono {p q : Nat → Prop} (h : Ev p) (k : ∀ j, p j → q j) : Ev q := by
  obtain ⟨a, ha⟩ := h
  exact ⟨a, fun j hj => k j (ha j hj)⟩
theorem Ev.succ {p q : Nat → Prop} (h : Ev p) (k : ∀ j, p j → q (j + 1)) : Ev q := by
  obtain ⟨a, ha⟩ := h
  refine ⟨a + 1, fun j hj => ?_⟩
  cases j with
  | zero => omega
  | succ j => exact k j (ha j (by omega))

variable {T : FuncId → Option VFun}

/-- A call comes to an end, with Q. -/
inductive CallsTo (T : FuncId → Option VFun) (f : FuncId) (args : List AV) (h : Heap) (n : Nat) (Q : AV → Heap → Nat → Prop) : Prop
  | mk (r : AV) (h' : Heap) (n' : Nat) (e : Ev fun j => callT T j f args h n = some (r, h', n')) (q : Q r h' n')
/-- What is left to do comes to an end, with Q. -/
inductive W (T : FuncId → Option VFun) (items : List Item) (s : St) (Q : St → Prop) : Prop
  | mk (s' : St) (e : Ev fun j => run T j items s = some s') (q : Q s')
/-- What a region that draws is looked at for: the pairs, the slots at its head, what has been touched. -/
abbrev DR := Option (List (Nat × Nat) × Env × List (Nat × Foot))
def okR : DR → Nat → Foot → VO → Bool
  | none, _, _, _ => true
  | some (un, e0, log), i, f, o => !(clashes un i f log || !(startOk e0 o) || led o log)
def logR : DR → Nat → Foot → DR
  | none, _, _ => none
  | some (un, e0, log), i, f => some (un, e0, (i, f) :: log)
def runR (call : CallF) (nr : Nat) : DR → Nat → List VO → St → Option St
  | none, i, l, s => runL call nr i l s
  | some (un, e0, log), i, l, s => runD call nr un e0 i log l s
/-- The rest of a region comes to an end, with K. -/
inductive WL (T : FuncId → Option VFun) (nr : Nat) (dr : DR) (i : Nat) (l : List VO) (s : St) (K : St → Prop) : Prop
  | mk (s' : St) (e : Ev fun j => runR (callT T j) nr dr i l s = some s') (q : K s')

theorem CallsTo.mono {f : FuncId} {args : List AV} {h : Heap} {n : Nat} {Q R : AV → Heap → Nat → Prop} (H : CallsTo T f args h n Q) (k : ∀ r h' n', Q r h' n' → R r h' n') : CallsTo T f args h n R := by
  obtain ⟨r, h', n', h1, h2⟩ := H
  exact ⟨r, h', n', h1, k _ _ _ h2⟩
theorem W.mono {items : List Item} {s : St} {Q R : St → Prop} (H : W T items s Q) (k : ∀ s, Q s → R s) : W T items s R := by
  obtain ⟨s', h1, h2⟩ := H
  exact ⟨s', h1, k _ h2⟩

theorem CallsTo.of {f : FuncId} {args : List AV} {h : Heap} {n : Nat} {Q : AV → Heap → Nat → Prop} {vf : VFun} (hT : T f = some vf) (hn : (vf.nargs == args.length) = true)
    (H : W T [.code vf.body] ⟨initEnv 0 args, h, n⟩ fun s' => ∃ l, readRess s'.env s'.heap vf.results = some l ∧ Q (theRes l) s'.heap s'.next) : CallsTo T f args h n Q := by
  obtain ⟨s', h1, l, h2, h3⟩ := H
  refine ⟨theRes l, s'.heap, s'.next, h1.mono fun j hj => ?_, h3⟩
  simp only [callT, hT, hn, cond_true, hj, h2]

/-! ### code -/
theorem W.nil {s : St} {Q : St → Prop} (h : Q s) : W T [] s Q := ⟨s, (Ev.of (p := fun _ => True) fun _ => trivial).succ fun _ _ => rfl, h⟩
theorem W.ret {t : List Item} {s : St} {Q : St → Prop} (h : Q s) : W T (.code .ret :: t) s Q := ⟨s, (Ev.of (p := fun _ => True) fun _ => trivial).succ fun _ _ => rfl, h⟩
theorem W.step {items items' : List Item} {s s1 : St} {Q : St → Prop} (hs : ∀ j r, run T j items' s1 = some r → run T (j + 1) items s = some r) (H : W T items' s1 Q) : W T items s Q := by
  obtain ⟨s', h1, h2⟩ := H
  exact ⟨s', h1.succ fun j hj => hs j _ hj, h2⟩
theorem W.skip {t : List Item} {s : St} {Q : St → Prop} (H : W T t s Q) : W T (.code .skip :: t) s Q := W.step (fun _ _ h => h) H
theorem W.seq {a b : VC} {t : List Item} {s : St} {Q : St → Prop} (H : W T (.code a :: .code b :: t) s Q) : W T (.code (.seq a b) :: t) s Q := W.step (fun _ _ h => h) H
theorem W.block {id : Nat} {a : VC} {t : List Item} {s : St} {Q : St → Prop} (H : W T (.code a :: .inBlock id :: t) s Q) : W T (.code (.block id a) :: t) s Q := W.step (fun _ _ h => h) H
theorem W.outBlock {id : Nat} {t : List Item} {s : St} {Q : St → Prop} (H : W T t s Q) : W T (.inBlock id :: t) s Q := W.step (fun _ _ h => h) H
theorem W.exit {id : Nat} {t t' : List Item} {s : St} {Q : St → Prop} (h : exitTo id t = some t') (H : W T t' s Q) : W T (.code (.exit id) :: t) s Q :=
  W.step (fun _ _ hr => by simp only [run, h, hr]) H
theorem W.cond {x : Operand} {a b : VC} {t : List Item} {E : Env} {H : Heap} {N : Nat} {Q : St → Prop} {c : Bool} (hx : evA E x = some (.bool c))
    (h1 : c = true → W T (.code a :: t) ⟨E, H, N⟩ Q) (h2 : c = false → W T (.code b :: t) ⟨E, H, N⟩ Q) : W T (.code (.cond x a b) :: t) ⟨E, H, N⟩ Q := by
  cases c with
  | true => exact W.step (fun _ _ hr => by simp only [run, hx, hr]) (h1 rfl)
  | false => exact W.step (fun _ _ hr => by simp only [run, hx, hr]) (h2 rfl)
theorem W.condT {x : Operand} {a b : VC} {t : List Item} {E : Env} {H : Heap} {N : Nat} {Q : St → Prop} (hx : evA E x = some (.bool true))
    (h1 : W T (.code a :: t) ⟨E, H, N⟩ Q) : W T (.code (.cond x a b) :: t) ⟨E, H, N⟩ Q := W.cond hx (fun _ => h1) (fun h => by cases h)
theorem W.condF {x : Operand} {a b : VC} {t : List Item} {E : Env} {H : Heap} {N : Nat} {Q : St → Prop} (hx : evA E x = some (.bool false))
    (h1 : W T (.code b :: t) ⟨E, H, N⟩ Q) : W T (.code (.cond x a b) :: t) ⟨E, H, N⟩ Q := W.cond hx (fun h => by cases h) (fun _ => h1)
theorem W.ops {l : List VO} {t : List Item} {E : Env} {H : Heap} {N : Nat} {Q : St → Prop} (h : WL T N none 0 l ⟨E, H, N + 1⟩ fun s' => W T t s' Q) : W T (.code (.ops none l) :: t) ⟨E, H, N⟩ Q := by
  obtain ⟨s1, h1, s2, h2, h3⟩ := h
  refine ⟨s2, (h1.and h2).succ fun j hj => ?_, h3⟩
  have e1 := hj.1
  have e2 := hj.2
  simp only [runR] at e1
  show (match runL (callT T j) N 0 l ⟨E, H, N + 1⟩ with
        | some s' => run T j t s'
        | none => none) = _
  rw [e1]
  exact e2
theorem W.opsD {un : List (Nat × Nat)} {l : List VO} {t : List Item} {E : Env} {H : Heap} {N : Nat} {Q : St → Prop} (h : WL T N (some (un, E, [])) 0 l ⟨E, H, N + 1⟩ fun s' => W T t s' Q) : W T (.code (.ops (some un) l) :: t) ⟨E, H, N⟩ Q := by
  obtain ⟨s1, h1, s2, h2, h3⟩ := h
  refine ⟨s2, (h1.and h2).succ fun j hj => ?_, h3⟩
  have e1 := hj.1
  have e2 := hj.2
  simp only [runR] at e1
  show (match runD (callT T j) N un E 0 [] l ⟨E, H, N + 1⟩ with
        | some s' => run T j t s'
        | none => none) = _
  rw [e1]
  exact e2

/-- A loop: 'st' the states at its head, by what 'b' says; 'P' what holds there; 'μ' goes down. -/
theorem W.loop {β : Type} {ks : List Nat} {c : VC} {t : List Item} {E : Env} {H : Heap} {N : Nat} {Q : St → Prop} (st : β → St) (P : β → Prop) (μ : β → Nat) (b0 : β)
    (h0 : (⟨E.kill ks, H, N⟩ : St) = st b0) (hP : P b0)
    (step : ∀ b, P b → (∀ b' E' H' N', P b' → μ b' < μ b → (⟨E'.kill ks, H', N'⟩ : St) = st b' → W T (.inLoop ks c :: t) ⟨E', H', N'⟩ Q) → W T (.code c :: .inLoop ks c :: t) (st b) Q) :
    W T (.code (.loop ks c) :: t) ⟨E, H, N⟩ Q := by
  have key : ∀ m b, μ b < m → P b → W T (.code c :: .inLoop ks c :: t) (st b) Q := by
    intro m
    induction m with
    | zero => intro b hb; omega
    | succ m ih =>
      intro b hb hp
      refine step b hp fun b' E' H' N' hp' hlt he => ?_
      refine W.step (s1 := ⟨E'.kill ks, H', N'⟩) (fun _ _ h => h) ?_
      rw [he]
      exact ih b' (by omega) hp'
  refine W.step (s1 := ⟨E.kill ks, H, N⟩) (fun _ _ h => h) ?_
  rw [h0]
  exact key (μ b0 + 1) b0 (by omega) hP


def puts (e : Env) : List (Nat × SV) → Env
  | [] => e
  | (k, v) :: r => (puts e r).put k v
def envOf (l : List (Nat × SV)) : Env := puts Env.empty l
/-- A loop: the slots that turn ('vary'), what holds at its head ('P'), what goes down. -/
theorem W.loopE {β : Type} {ks : List Nat} {c : VC} {t : List Item} {E E0 : Env} {H : Heap} {N : Nat} {Q : St → Prop} (hE : E.kill ks = E0) (vary : β → List (Nat × SV)) (P : β → Heap → Nat → Prop) (μ : β → Nat) (b0 : β)
    (h0 : E0 = puts E0 (vary b0)) (hP : P b0 H N)
    (step : ∀ b h n, P b h n → (∀ b' E' h' n', P b' h' n' → μ b' < μ b → E'.kill ks = puts E0 (vary b') → W T (.inLoop ks c :: t) ⟨E', h', n'⟩ Q) → W T (.code c :: .inLoop ks c :: t) ⟨puts E0 (vary b), h, n⟩ Q) :
    W T (.code (.loop ks c) :: t) ⟨E, H, N⟩ Q := by
  refine W.loop (β := β × Heap × Nat) (fun b => ⟨puts E0 (vary b.1), b.2.1, b.2.2⟩) (fun b => P b.1 b.2.1 b.2.2) (fun b => μ b.1) (b0, H, N) ?_ hP ?_
  · rw [hE]; exact congrArg (fun e => (⟨e, H, N⟩ : St)) h0
  · rintro ⟨b, h, n⟩ hp ih
    refine step b h n hp fun b' E' h' n' hp' hlt he => ?_
    exact ih (b', h', n') E' h' n' hp' hlt (by rw [he])

/-! ### regions -/
theorem WL.nil {nr i : Nat} {dr : DR} {s : St} {K : St → Prop} (h : K s) : WL T nr dr i [] s K := by
  refine ⟨s, Ev.of fun _ => ?_, h⟩
  cases dr <;> rfl
theorem WL.step {nr i : Nat} {dr : DR} {o : VO} {l : List VO} {s s1 : St} {K : St → Prop} {ft : Foot} (h1 : Ev fun j => step1 (callT T j) (nr, i) o s = some (s1, ft)) (hc : okR dr i ft o = true)
    (H : WL T nr (logR dr i ft) (i + 1) l s1 K) : WL T nr dr i (o :: l) s K := by
  obtain ⟨s2, h2, h3⟩ := H
  refine ⟨s2, (h1.and h2).mono fun j hj => ?_, h3⟩
  match dr, hc, hj with
  | none, _, hj =>
    have e1 := hj.1
    have e2 := hj.2
    simp only [runR, logR] at e2 ⊢
    simp only [runL, e1, e2]
  | some (un, e0, log), hc, hj =>
    have e1 := hj.1
    have e2 := hj.2
    simp only [runR, logR] at e2 ⊢
    simp only [okR, Bool.not_eq_true'] at hc
    simp only [runD, e1, hc, e2, cond_false]

theorem step1_aop {call : CallF} {nid : Id} {d : Option Nat} {g : Option (Nat × Bool)} {op : VOp} {md : Mode} {E : Env} {H : Heap} {N : Nat} {eff : Eff} (hg : wantedA E g = some true) (h : aop E H nid d op = some eff) :
    step1 call nid ⟨d, g, op, md⟩ ⟨E, H, N⟩ = some ((⟨E, H, N⟩ : St).eff d eff, (eff.rd, eff.wr)) := by
  unfold step1
  rw [hg]
  cases op <;> first | (simp only [aop] at h; cases h; done) | simp only [h]

/-- An operation that only tells a value. -/
theorem WL.val {nr i d : Nat} {dr : DR} {g : Option (Nat × Bool)} {op : VOp} {md : Mode} {l : List VO} {E : Env} {H : Heap} {N : Nat} {K : St → Prop} {v : SV} {rd wr : List Key} (hg : wantedA E g = some true)
    (h : aop E H (nr, i) (some d) op = some ⟨v, none, [], none, rd, wr⟩) (hc : okR dr i (rd, wr) ⟨some d, g, op, md⟩ = true) (R : WL T nr (logR dr i (rd, wr)) (i + 1) l ⟨E.put d v, H, N⟩ K) : WL T nr dr i (⟨some d, g, op, md⟩ :: l) ⟨E, H, N⟩ K :=
  WL.step (Ev.of fun j => step1_aop hg h) hc R
/-- One whose guard says no. -/
theorem WL.off {nr i : Nat} {dr : DR} {d : Option Nat} {g : Option (Nat × Bool)} {op : VOp} {md : Mode} {l : List VO} {E : Env} {H : Heap} {N : Nat} {K : St → Prop} (hg : wantedA E g = some false)
    (hc : okR dr i ([], skipWr ⟨d, g, op, md⟩) ⟨d, g, op, md⟩ = true) (R : WL T nr (logR dr i ([], skipWr ⟨d, g, op, md⟩)) (i + 1) l ⟨E.putO d (.v (.tuple [])), H, N⟩ K) : WL T nr dr i (⟨d, g, op, md⟩ :: l) ⟨E, H, N⟩ K :=
  WL.step (ft := ([], skipWr ⟨d, g, op, md⟩)) (Ev.of fun j => by unfold step1; rw [hg]; rfl) hc R
/-- A store into a variable of its own. -/
theorem WL.box {nr i : Nat} {dr : DR} {d : Option Nat} {g : Option (Nat × Bool)} {op : VOp} {md : Mode} {l : List VO} {E : Env} {H : Heap} {N : Nat} {K : St → Prop} {v : SV} {t : Nat} {cs : List AV} {rd wr : List Key} (hg : wantedA E g = some true)
    (h : aop E H (nr, i) d op = some ⟨v, some (t, cs), [], none, rd, wr⟩) (hc : okR dr i (rd, wr) ⟨d, g, op, md⟩ = true) (R : WL T nr (logR dr i (rd, wr)) (i + 1) l ⟨(E.put t (.box cs)).putO d v, H, N⟩ K) : WL T nr dr i (⟨d, g, op, md⟩ :: l) ⟨E, H, N⟩ K :=
  WL.step (Ev.of fun j => step1_aop hg h) hc R
/-- One that writes into the heap. -/
theorem WL.heap {nr i : Nat} {dr : DR} {d : Option Nat} {g : Option (Nat × Bool)} {op : VOp} {md : Mode} {l : List VO} {E : Env} {H : Heap} {N : Nat} {K : St → Prop} {v : SV} {o : Id} {ob : AObj} {rd wr : List Key} (hg : wantedA E g = some true)
    (h : aop E H (nr, i) d op = some ⟨v, none, [(o, ob)], none, rd, wr⟩) (hc : okR dr i (rd, wr) ⟨d, g, op, md⟩ = true) (R : WL T nr (logR dr i (rd, wr)) (i + 1) l ⟨E.putO d v, H.put o ob, N⟩ K) : WL T nr dr i (⟨d, g, op, md⟩ :: l) ⟨E, H, N⟩ K :=
  WL.step (Ev.of fun j => step1_aop hg h) hc R
theorem WL.swap {nr i : Nat} {dr : DR} {d : Option Nat} {g : Option (Nat × Bool)} {op : VOp} {md : Mode} {l : List VO} {E : Env} {H : Heap} {N : Nat} {K : St → Prop} {v : SV} {o x : Id} {ob : AObj} {rd wr : List Key} (hg : wantedA E g = some true)
    (h : aop E H (nr, i) d op = some ⟨v, none, [(o, ob)], some x, rd, wr⟩) (hc : okR dr i (rd, wr) ⟨d, g, op, md⟩ = true) (R : WL T nr (logR dr i (rd, wr)) (i + 1) l ⟨E.putO d v, (H.del x).put o ob, N⟩ K) : WL T nr dr i (⟨d, g, op, md⟩ :: l) ⟨E, H, N⟩ K :=
  WL.step (Ev.of fun j => step1_aop hg h) hc R

/-! ### calls -/
/-- A call whose arguments are frozen, by what is frozen of its result. -/
def VC1 (T : FuncId → Option VFun) (f : FuncId) (args : List AV) (a : AV) : Prop :=
  CallsTo T f args Heap.empty 0 fun r h' _ => pur purLimit h' r = some a

theorem WL.eff {nr i d : Nat} {dr : DR} {g : Option (Nat × Bool)} {f : FuncId} {args : List Operand} {l : List VO} {E : Env} {H : Heap} {N : Nat} {K : St → Prop} {as : List AV} (hg : wantedA E g = some true) (ha : evAs E args = some as)
    (hc : okR dr i ([.heap], [.heap]) ⟨some d, g, .call f args, .eff⟩ = true) (R : CallsTo T f as H N fun r H' N' => WL T nr (logR dr i ([.heap], [.heap])) (i + 1) l ⟨E.put d (.v r), H', N'⟩ K) : WL T nr dr i (⟨some d, g, .call f args, .eff⟩ :: l) ⟨E, H, N⟩ K := by
  obtain ⟨r, H', N', h1, h2⟩ := R
  refine WL.step (ft := ([.heap], [.heap])) (h1.mono fun j hj => ?_) hc h2
  unfold step1
  simp only [hg, ha, callM, hj, putDst, Env.putO]
theorem WL.effv {nr i d : Nat} {dr : DR} {g : Option (Nat × Bool)} {x : Operand} {args : List Operand} {l : List VO} {md : Mode} {E : Env} {H : Heap} {N : Nat} {K : St → Prop} {as as' : List AV} {f : FuncId} (hg : wantedA E g = some true) (ha : evAs E args = some as)
    (ht : target E x as = some (f, as')) (hc : okR dr i ([.heap], [.heap]) ⟨some d, g, .callv x args, md⟩ = true) (R : CallsTo T f as' H N fun r H' N' => WL T nr (logR dr i ([.heap], [.heap])) (i + 1) l ⟨E.put d (.v r), H', N'⟩ K) : WL T nr dr i (⟨some d, g, .callv x args, md⟩ :: l) ⟨E, H, N⟩ K := by
  obtain ⟨r, H', N', h1, h2⟩ := R
  refine WL.step (ft := ([.heap], [.heap])) (h1.mono fun j hj => ?_) hc h2
  unfold step1
  simp only [hg, ha, ht, hj, putDst, Env.putO]
theorem WL.pure {nr i d : Nat} {dr : DR} {g : Option (Nat × Bool)} {f : FuncId} {args : List Operand} {l : List VO} {E : Env} {H : Heap} {N : Nat} {K : St → Prop} {as : List AV} {a : AV} (hg : wantedA E g = some true) (ha : evAs E args = some as)
    (hs : stills as = true) (C : VC1 T f as a) (hc : okR dr i ([], []) ⟨some d, g, .call f args, .pure⟩ = true) (R : WL T nr (logR dr i ([], [])) (i + 1) l ⟨E.put d (.v a), H, N⟩ K) : WL T nr dr i (⟨some d, g, .call f args, .pure⟩ :: l) ⟨E, H, N⟩ K := by
  obtain ⟨r, H', N', h1, h2⟩ := C
  refine WL.step (ft := ([], [])) (h1.mono fun j hj => ?_) hc R
  unfold step1
  simp only [hg, ha, callM, hs, hj, h2, putDst, Env.putO, cond_true]
theorem WL.view {nr i d : Nat} {dr : DR} {g : Option (Nat × Bool)} {f : FuncId} {args : List Operand} {l : List VO} {E : Env} {H : Heap} {N : Nat} {K : St → Prop} {as as' : List AV} {a : AV} (hg : wantedA E g = some true) (ha : evAs E args = some as)
    (hp : mapO (pur purLimit H) as = some as') (C : VC1 T f as' a) (hs : a.scal = true) (hc : okR dr i (flatK (purK purLimit H) as, []) ⟨some d, g, .call f args, .view⟩ = true) (R : WL T nr (logR dr i (flatK (purK purLimit H) as, [])) (i + 1) l ⟨E.put d (.v a), H, N⟩ K) : WL T nr dr i (⟨some d, g, .call f args, .view⟩ :: l) ⟨E, H, N⟩ K := by
  obtain ⟨r, H', N', h1, h2⟩ := C
  refine WL.step (ft := (flatK (purK purLimit H) as, [])) (h1.mono fun j hj => ?_) hc R
  unfold step1
  simp only [hg, ha, callM, hp, hj, h2, hs, putDst, Env.putO, cond_true]

theorem VC1.of {f : FuncId} {args : List AV} {vf : VFun} {a : AV} (hT : T f = some vf) (hn : (vf.nargs == args.length) = true)
    (H : W T [.code vf.body] ⟨initEnv 0 args, Heap.empty, 0⟩ fun s' => ∃ l, readRess s'.env s'.heap vf.results = some l ∧ pur purLimit s'.heap (theRes l) = some a) : VC1 T f args a :=
  CallsTo.of hT hn H

end
end Go.AM

/- AM, part 29: operations on lists of structs, slices, maps: what they tell. -/
namespace Go.AM
noncomputable section
set_option linter.unusedVariables false
set_option linter.unusedSimpArgs false
variable {E : Env} {H : Heap} {nid : Id} {d : Option Nat}

/-! ### a slice that came in (nil, or frozen) -/
def SlV (esz : Nat) (cs : List AV) (len : Nat) (v : AV) : Prop := (v = .nils ∧ len = 0 ∧ cs = []) ∨ ∃ clip e, v = .pslice cs len e clip
theorem SlV.p (esz : Nat) (cs : List AV) (len : Nat) (clip : Bool) (e : Nat) : SlV esz cs len (.pslice cs len e clip) := .inr ⟨clip, e, rfl⟩
theorem SlV.nil (esz : Nat) : SlV esz [] 0 .nils := .inl ⟨rfl, rfl, rfl⟩
theorem SlV.nj {esz cs len v} (h : SlV esz cs len v) : v ≠ .junk := by rcases h with ⟨rfl, _⟩ | ⟨_, _, rfl⟩ <;> intro h <;> cases h
theorem SlV.pur {esz cs len v} (h : SlV esz cs len v) (k : Nat) (H : Heap) : ∃ v', AM.pur (k + 1) H v = some v' ∧ SlV esz cs len v' := by
  rcases h with ⟨rfl, rfl, rfl⟩ | ⟨_, _, rfl⟩
  · exact ⟨_, rfl, .inr ⟨_, _, rfl⟩⟩
  · exact ⟨_, rfl, .inr ⟨_, _, rfl⟩⟩
theorem SlV.still {esz cs len v} (h : SlV esz cs len v) : v.still = true := by rcases h with ⟨rfl, _⟩ | ⟨_, _, rfl⟩ <;> rfl
theorem SlV.one {esz cs len v} (h : SlV esz cs len v) : v.one = true := by rcases h with ⟨rfl, _⟩ | ⟨_, _, rfl⟩ <;> rfl

theorem evA_nj {t : Nat} {v : AV} (h : E.get t = some (.v v)) (hv : v ≠ .junk) : evA E (.tmp t) = some v := by simp only [evA, h]
theorem evS_nj {t : Nat} {v : AV} (h : E.get t = some (.v v)) (hv : v ≠ .junk) : evS E (.tmp t) = some (.v v) := by simp only [evS, h]
theorem aop_move_nj {t : Nat} {v : AV} (h : E.get t = some (.v v)) (hv : v ≠ .junk) : aop E H nid d (.move (.tmp t)) = some ⟨.v v, none, [], none, [], []⟩ := by
  simp only [aop, evS_nj h hv, ptrKey]
theorem aop_len_sl {t : Nat} {v : AV} {esz len : Nat} {cs : List AV} (h : E.get t = some (.v v)) (hv : SlV esz cs len v) : aop E H nid d (.len .slice (.tmp t)) = some ⟨.v (.int .i64 len), none, [], none, [], []⟩ := by
  simp only [aop, evA_nj h hv.nj]
  rcases hv with ⟨rfl, rfl, rfl⟩ | ⟨_, _, rfl⟩ <;> rfl
theorem idx_ok {esz n len : Nat} (hn : n < len) : (esz == esz && decide ((0 : Int) ≤ (n : Int)) && decide ((n : Int) < (len : Int))) = true := by
  have h1 : decide ((0 : Int) ≤ (n : Int)) = true := decide_eq_true (by omega)
  have h2 : decide ((n : Int) < (len : Int)) = true := decide_eq_true (by omega)
  rw [h1, h2]; simp
theorem idx_ok2 {n len : Nat} (hn : n < len) : (decide ((0 : Int) ≤ (n : Int)) && decide ((n : Int) < (len : Int))) = true := by
  have h1 : decide ((0 : Int) ≤ (n : Int)) = true := decide_eq_true (by omega)
  have h2 : decide ((n : Int) < (len : Int)) = true := decide_eq_true (by omega)
  rw [h1, h2]; simp
theorem aop_iaddr_sl {t : Nat} {i : Operand} {v : AV} {esz len n : Nat} {cs : List AV} {z : Int} (h : E.get t = some (.v v)) (hv : SlV esz cs len v) (hi : evA E i = some (.int .i64 z)) (hn : n < len) (hz : z = n := by rfl) :
    aop E H nid d (.iaddr esz none (.tmp t) i) = some ⟨.v (.pptr cs (n * esz)), none, [], none, [], []⟩ := by
  subst hz
  simp only [aop, evS_nj h hv.nj, hi, asInt]
  rcases hv with ⟨rfl, rfl, rfl⟩ | ⟨_, _, rfl⟩
  · omega
  · simp only [idx_ok2 hn, cond_true, Int.toNat_natCast]
theorem aop_iaddr_p {x i : Operand} {esz e len n : Nat} {z : Int} {cs : List AV} {clip : Bool} (h : evS E x = some (.v (.pslice cs len e clip))) (hi : evA E i = some (.int .i64 z)) (hn : n < len) (hz : z = n := by rfl) :
    aop E H nid d (.iaddr esz none x i) = some ⟨.v (.pptr cs (n * esz)), none, [], none, [], []⟩ := by
  subst hz
  simp only [aop, h, hi, asInt, idx_ok2 hn, cond_true, Int.toNat_natCast]
theorem aop_iaddr_h {x i : Operand} {esz len n co : Nat} {z : Int} {o : Id} {clip : Bool} (h : evS E x = some (.v (.slice o co len esz clip))) (hi : evA E i = some (.int .i64 z)) (hn : n < len) (hz : z = n := by rfl) :
    aop E H nid d (.iaddr esz none x i) = some ⟨.v (.ptr o (co + n * esz)), none, [], none, [], []⟩ := by
  subst hz
  simp only [aop, h, hi, asInt, idx_ok hn, cond_true, Int.toNat_natCast]

/-! ### cells of lists of structs -/
theorem flat_get {α : Type} {enc : α → List AV} {k : Nat} (he : ∀ x, (enc x).length = k) {l : List α} {i o : Nat} (hi : i < l.length) (ho : o < k) : (l.flatMap enc)[i * k + o]? = (enc l[i])[o]? := by
  induction l generalizing i with
  | nil => simp at hi
  | cons a l ih =>
    simp only [List.flatMap_cons]
    cases i with
    | zero => rw [List.getElem?_append_left (by rw [he]; omega)]; simp
    | succ i =>
      rw [List.getElem?_append_right (by rw [he, Nat.succ_mul]; omega), he, show (i + 1) * k + o - k = i * k + o by rw [Nat.succ_mul]; omega]
      simp only [List.length_cons] at hi
      rw [ih (by omega)]; rfl
theorem flat_len {α : Type} {enc : α → List AV} {k : Nat} (he : ∀ x, (enc x).length = k) (l : List α) : (l.flatMap enc).length = l.length * k := by
  induction l with
  | nil => simp
  | cons a l ih => simp only [List.flatMap_cons, List.length_append, he, ih, List.length_cons, Nat.succ_mul]; omega
theorem flat_piece {α : Type} {enc : α → List AV} {k : Nat} (he : ∀ x, (enc x).length = k) {l : List α} {i : Nat} (hi : i < l.length) : ((l.flatMap enc).drop (i * k)).take k = enc l[i] := by
  induction l generalizing i with
  | nil => simp at hi
  | cons a l ih =>
    simp only [List.flatMap_cons]
    cases i with
    | zero => simp [← he a]
    | succ i =>
      simp only [List.length_cons] at hi
      have e : (i + 1) * k = (enc a).length + i * k := by rw [he, Nat.succ_mul]; omega
      rw [e, List.drop_append, List.drop_eq_nil_of_le (by omega), List.nil_append, Nat.add_sub_cancel_left]
      rw [ih (by omega)]; rfl
theorem sub_one {cs : List AV} {off : Nat} {a : AV} (h : cs[off]? = some a) : sub cs off 1 = some [a] := by
  obtain ⟨h1, h2⟩ := List.getElem?_eq_some_iff.1 h
  have : Nat.ble (off + 1) cs.length = true := Nat.ble_eq_true_of_le h1
  simp only [sub, this, cond_true]
  congr 1
  rw [List.drop_eq_getElem_cons h1, h2]; rfl
theorem sub_flat {α : Type} {enc : α → List AV} {k : Nat} (he : ∀ x, (enc x).length = k) {l : List α} {i : Nat} (hi : i < l.length) : sub (l.flatMap enc) (i * k) k = some (enc l[i]) := by
  have : Nat.ble (i * k + k) (l.flatMap enc).length = true := by
    refine Nat.ble_eq_true_of_le ?_
    rw [flat_len he, ← Nat.succ_mul]
    exact Nat.mul_le_mul_right k hi
  simp only [sub, this, cond_true, flat_piece he hi]
theorem sub_all (cs : List AV) (n : Nat) (h : cs.length = n) : sub cs 0 n = some cs := by
  have : Nat.ble (0 + n) cs.length = true := Nat.ble_eq_true_of_le (by omega)
  subst h
  simp only [sub, this, cond_true, List.drop_zero, List.take_length]
/-- One cell of an element. -/
theorem aop_load_el {α : Type} {enc : α → List AV} {k : Nat} {l : List α} {i o : Nat} {x : Operand} {a : AV} (hx : evS E x = some (.v (.pptr (l.flatMap enc) (i * k + o)))) (he : ∀ x, (enc x).length = k)
    (hi : i < l.length) (ho : o < k) (ha : (enc l[i])[o]? = some a) : aop E H nid d (.load none x) = some ⟨.v a, none, [], none, [], []⟩ := by
  simp only [aop, hx, readAt, width]
  rw [sub_one ((flat_get he hi ho).trans ha)]
  rfl
/-- A whole element. -/
theorem aop_load_st {α : Type} {enc : α → List AV} {k : Nat} {l : List α} {i : Nat} {x : Operand} (hx : evS E x = some (.v (.pptr (l.flatMap enc) (i * k)))) (he : ∀ x, (enc x).length = k)
    (hi : i < l.length) : aop E H nid d (.load (some k) x) = some ⟨.v (.agg (enc l[i])), none, [], none, [], []⟩ := by
  simp only [aop, hx, readAt, width]
  rw [sub_flat he hi]
  rfl

/-! ### numbers -/
theorem wrap64 {n : Int} (h1 : -9223372036854775808 ≤ n) (h2 : n < 9223372036854775808) : IntKind.wrap .i64 n = n := by
  simp only [IntKind.wrap, IntKind.bits, IntKind.signed, Bool.true_and, decide_eq_true_eq, ge_iff_le]
  split <;> omega
theorem wrap64_nat {k : Nat} (h : k < 9223372036854775807) : IntKind.wrap .i64 ((k : Int) + 1) = ((k + 1 : Nat) : Int) := by
  rw [wrap64 (by omega) (by omega)]; rfl

/-! ### a slice of the function's own -/
def OwnS (h : Heap) (esz : Nat) (cs : List AV) (len : Nat) (v : AV) : Prop :=
  (v = .nils ∧ len = 0 ∧ cs = []) ∨ ∃ o clip, v = .slice o 0 len esz clip ∧ h.get o = some (.cells cs) ∧ cs.length = len * esz
theorem OwnS.nil (h : Heap) (esz : Nat) : OwnS h esz [] 0 .nils := .inl ⟨rfl, rfl, rfl⟩
theorem OwnS.nj {h esz cs len v} (hv : OwnS h esz cs len v) : v ≠ .junk := by rcases hv with ⟨rfl, _⟩ | ⟨_, _, rfl, _⟩ <;> intro h <;> cases h
theorem OwnS.one {h esz cs len v} (hv : OwnS h esz cs len v) : v.one = true := by rcases hv with ⟨rfl, _⟩ | ⟨_, _, rfl, _⟩ <;> rfl
theorem aop_len_own {t : Nat} {v : AV} {h : Heap} {esz len : Nat} {cs : List AV} (ht : E.get t = some (.v v)) (hv : OwnS h esz cs len v) : aop E H nid d (.len .slice (.tmp t)) = some ⟨.v (.int .i64 len), none, [], none, [], []⟩ := by
  simp only [aop, evA_nj ht hv.nj]
  rcases hv with ⟨rfl, rfl, rfl⟩ | ⟨_, _, rfl, _⟩ <;> rfl
/-- All objects are elder. -/
def Fresh (h : Heap) (n : Nat) : Prop := ∀ i o, h.get i = some o → i.1 < n
theorem Fresh.empty (n : Nat) : Fresh Heap.empty n := by
  intro i o h; rw [Heap.get_empty] at h; cases h
theorem Fresh.put {h : Heap} {n m : Nat} (H : Fresh h n) {i : Id} {o : AObj} (hi : i.1 < m) (hn : n ≤ m) : Fresh (h.put i o) m := by
  intro j p hj
  rw [Heap.get_put] at hj
  split at hj
  · rename_i e; rw [e]; exact hi
  · exact Nat.lt_of_lt_of_le (H j p hj) hn
theorem Fresh.del {h : Heap} {n m : Nat} (H : Fresh h n) {i : Id} (hn : n ≤ m) : Fresh (h.del i) m := by
  intro j p hj
  rw [Heap.get_del] at hj
  split at hj
  · cases hj
  · exact Nat.lt_of_lt_of_le (H j p hj) hn
theorem Fresh.mono {h : Heap} {n m : Nat} (H : Fresh h n) (hn : n ≤ m) : Fresh h m := fun i o hj => Nat.lt_of_lt_of_le (H i o hj) hn
def AV.objs : AV → List Id
  | .slice o .. => [o]
  | .ptr o _ => [o]
  | .map o => [o]
  | _ => []

/-- Append of cells that stand in the heap: the slice is the function's own again; the other objects stay. -/
theorem WL.append {T : FuncId → Option VFun} {nr i dd : Nat} {dr : DR} {g : Option (Nat × Bool)} {esz bytes len n t u : Nat} {md : Mode} {l : List VO} {N : Nat} {K : St → Prop} {v b : AV} {cs new : List AV} {rd : List Key}
    (hg : wantedA E g = some true) (hs : E.get t = some (.v v)) (hv : OwnS H esz cs len v) (hb : evA E (.tmp u) = some b) (hx : elems esz H b = some (new, n, rd)) (hn : 0 < n) (ho : ones new = true) (hl : new.length = n * esz)
    (hz : (len + n) * bytes ≤ 140737488355328)
    (hc : ∀ rd wr, (∀ k ∈ wr, ∃ o, k = .obj o ∧ (o = (nr, i) ∨ o ∈ v.objs)) → okR dr i (rd, wr) ⟨some dd, g, .append esz bytes (.tmp t) (.tmp u), md⟩ = true)
    (R : ∀ rd wr H', OwnS H' esz (cs ++ new) (len + n) (.slice (nr, i) 0 (len + n) esz false) → (∀ j, j ∉ v.objs → j ≠ (nr, i) → H'.get j = H.get j) → (∀ m, nr < m → Fresh H m → Fresh H' m) →
      WL T nr (logR dr i (rd, wr)) (i + 1) l ⟨E.put dd (.v (.slice (nr, i) 0 (len + n) esz false)), H', N⟩ K) :
    WL T nr dr i (⟨some dd, g, .append esz bytes (.tmp t) (.tmp u), md⟩ :: l) ⟨E, H, N⟩ K := by
  have hn0 : (n == 0) = false := by simp; omega
  have hcond : (!(ones new) || !(new.length == n * esz)) = false := by rw [ho, hl]; simp
  have hb2 : Nat.ble ((len + n) * bytes) 140737488355328 = true := Nat.ble_eq_true_of_le hz
  rcases hv with ⟨rfl, rfl, rfl⟩ | ⟨o, clip, rfl, hgo, hlen⟩
  · have e : aop E H (nr, i) (some dd) (.append esz bytes (.tmp t) (.tmp u)) = some ⟨.v (.slice (nr, i) 0 n esz false), none, [((nr, i), .cells new)], none, rd, [.obj (nr, i)]⟩ := by
      simp only [Nat.zero_add] at hb2
      simp only [aop, evA_nj hs (by intro h; cases h), hb, hx, appendTo, hn0, cond_false, hcond, hb2, cond_true]
    refine WL.heap hg e (hc _ _ (by simp [AV.objs])) ?_
    have := R rd [.obj (nr, i)] (H.put (nr, i) (.cells new)) ?_ ?_ ?_
    · simp only [Nat.zero_add] at this
      exact this
    · exact .inr ⟨(nr, i), false, rfl, by rw [Heap.get_put, if_pos rfl]; rfl, by simpa using hl⟩
    · intro j _ hj; rw [Heap.get_put, if_neg hj]
    · exact fun m hm hf => hf.put hm (Nat.le_refl _)
  · have hl2 : (cs ++ new).length = (len + n) * esz := by rw [List.length_append, hlen, hl, Nat.add_mul]
    cases clip with
    | false =>
      have hcs : ((0 : Nat) == 0 && cs.length == len * esz) = true := by rw [hlen]; simp
      have e : aop E H (nr, i) (some dd) (.append esz bytes (.tmp t) (.tmp u)) = some ⟨.v (.slice (nr, i) 0 (len + n) esz false), none, [((nr, i), .cells (cs ++ new))], some o, .obj o :: rd, [.obj (nr, i), .obj o]⟩ := by
        simp only [aop, evA_nj hs (by intro h; cases h), hb, hx, appendTo, hn0, cond_false, hcond, beq_self_eq_true, Bool.true_and, hb2, cond_true, hgo, hcs]
        rw [hlen]; simp
      refine WL.swap hg e (hc _ _ (by intro k hk; simp only [List.mem_cons, List.not_mem_nil, or_false] at hk; rcases hk with rfl | rfl; exact ⟨_, rfl, .inl rfl⟩; exact ⟨_, rfl, .inr (by simp [AV.objs])⟩)) ?_
      refine R _ _ ((H.del o).put (nr, i) (.cells (cs ++ new))) ?_ ?_ ?_
      · exact .inr ⟨(nr, i), false, rfl, by rw [Heap.get_put, if_pos rfl], hl2⟩
      · intro j hjo hj
        simp only [AV.objs, List.mem_singleton] at hjo
        rw [Heap.get_put, if_neg hj, Heap.get_del, if_neg hjo]
      · exact fun m hm hf => (hf.del (Nat.le_refl _)).put hm (Nat.le_refl _)
    | true =>
      have e : aop E H (nr, i) (some dd) (.append esz bytes (.tmp t) (.tmp u)) = some ⟨.v (.slice (nr, i) 0 (len + n) esz false), none, [((nr, i), .cells (cs ++ new))], none, .obj o :: rd, [.obj (nr, i)]⟩ := by
        simp only [aop, evA_nj hs (by intro h; cases h), hb, hx, appendTo, hn0, cond_false, hcond, beq_self_eq_true, Bool.true_and, hb2, cond_true, hgo, sub_all cs (len * esz) hlen]
      refine WL.heap hg e (hc _ _ (by intro k hk; simp only [List.mem_singleton] at hk; subst hk; exact ⟨_, rfl, .inl rfl⟩)) ?_
      refine R _ _ (H.put (nr, i) (.cells (cs ++ new))) ?_ ?_ ?_
      · exact .inr ⟨(nr, i), false, rfl, by rw [Heap.get_put, if_pos rfl], hl2⟩
      · intro j _ hj; rw [Heap.get_put, if_neg hj]
      · exact fun m hm hf => hf.put hm (Nat.le_refl _)
theorem elems_put {o : Id} {cs : List AV} {len esz es : Nat} {clip : Bool} (h : cs.length = len * esz) : elems es (H.put o (.cells cs)) (.slice o 0 len esz clip) = some (cs, len, [.obj o]) := by
  simp only [elems, Heap.get_put, if_true, sub_all cs _ h]
theorem OwnS.frame {h h' : Heap} {esz len : Nat} {cs : List AV} {v : AV} (hv : OwnS h esz cs len v) (hf : ∀ j, j ∈ v.objs → h'.get j = h.get j) : OwnS h' esz cs len v := by
  rcases hv with hv | ⟨o, clip, rfl, h1, h2⟩
  · exact .inl hv
  · exact .inr ⟨o, clip, rfl, (hf o (by simp [AV.objs])).trans h1, h2⟩

/-! ### freezing -/
theorem pur_scal_all (k : Nat) (h : Heap) : ∀ l : List AV, (∀ a ∈ l, pur k h a = some a) → mapO (pur k h) l = some l := by
  intro l
  induction l with
  | nil => intro _; rfl
  | cons a l ih =>
    intro hl
    simp only [mapO, hl a (by simp), ih fun b hb => hl b (by simp [hb])]
theorem OwnS.pur {h : Heap} {esz len : Nat} {cs : List AV} {v : AV} (hv : OwnS h esz cs len v) (k : Nat) (hs : ∀ a ∈ cs, AM.pur k h a = some a) : ∃ v', AM.pur (k + 1) h v = some v' ∧ SlV esz cs len v' := by
  rcases hv with ⟨rfl, rfl, rfl⟩ | ⟨o, clip, rfl, h1, h2⟩
  · exact ⟨_, rfl, .inr ⟨_, _, rfl⟩⟩
  · refine ⟨.pslice cs len esz clip, ?_, SlV.p ..⟩
    simp only [AM.pur, h1, sub_all cs _ h2, pur_scal_all k h cs hs]

/-! ### maps -/
theorem findK_int {α : Type} (f : α → Int) (n : Int) : ∀ (l : List α) (i : Nat), findK (.one (.int .i64)) (.int .i64 n) (l.map fun x => .int .i64 (f x)) i = some ((l.findIdx? fun x => f x == n).map (· + i)) := by
  intro l
  induction l with
  | nil => intro i; rfl
  | cons a l ih =>
    intro i
    simp only [List.map_cons, findK, keq, keq1, List.findIdx?_cons]
    by_cases h : n = f a
    · subst h; simp
    · have h1 : (n == f a) = false := by simpa using h
      have h2 : (f a == n) = false := by simpa using fun e => h e.symm
      simp only [beq_self_eq_true, Bool.and_self, cond_true, h1, h2, ih, Bool.false_eq_true, if_false]
      cases l.findIdx? (fun x => f x == n) <;> simp <;> omega
/-- A pair of numbers as a key. -/
def kp (p : Int × Int) : AV := .agg [.int .i64 p.1, .int .i64 p.2]
theorem findK_pair {α : Type} (f : α → Int × Int) (n : Int × Int) : ∀ (l : List α) (i : Nat), findK (.flat [.int .i64, .int .i64]) (kp n) (l.map fun x => kp (f x)) i = some ((l.findIdx? fun x => f x == n).map (· + i)) := by
  intro l
  induction l with
  | nil => intro i; rfl
  | cons a l ih =>
    intro i
    simp only [List.map_cons, findK, kp, keq, keqs, keq1, List.findIdx?_cons]
    simp only [kp] at ih
    by_cases h : n = f a
    · subst h; simp
    · have h1 : (n.1 == (f a).1 && (n.2 == (f a).2 && true)) = false := by
        cases hx : (n.1 == (f a).1 && (n.2 == (f a).2 && true))
        · rfl
        · simp at hx; exact absurd (Prod.ext hx.1 hx.2) h
      have h2 : (f a == n) = false := by simpa using fun e => h e.symm
      simp only [beq_self_eq_true, Bool.and_self, cond_true, h1, h2, ih, Bool.false_eq_true, if_false]
      cases l.findIdx? (fun x => f x == n) <;> simp <;> omega
/-- Two lists, place by place. -/
def All2 {α β : Type} (R : α → β → Prop) (l : List α) (m : List β) : Prop := l.length = m.length ∧ ∀ (i : Nat) (h : i < l.length) (k : i < m.length), R l[i] m[i]
theorem All2.nil {α β : Type} (R : α → β → Prop) : All2 R [] [] := ⟨rfl, fun i h => by simp at h⟩
theorem All2.snoc {α β : Type} {R : α → β → Prop} {l : List α} {m : List β} (h : All2 R l m) {a : α} {b : β} (hr : R a b) : All2 R (l ++ [a]) (m ++ [b]) := by
  refine ⟨by simp [h.1], fun i h1 h2 => ?_⟩
  have e := h.1
  by_cases hi : i < l.length
  · rw [List.getElem_append_left hi, List.getElem_append_left (by omega)]
    exact h.2 i hi (by omega)
  · simp only [List.length_append, List.length_cons, List.length_nil] at h1
    have e1 : i = l.length := by omega
    subst e1
    rw [List.getElem_append_right (by omega), List.getElem_append_right (by omega)]
    simpa [e] using hr
theorem All2.mono {α β : Type} {R S : α → β → Prop} {l : List α} {m : List β} (h : All2 R l m) (k : ∀ a b, a ∈ l → b ∈ m → R a b → S a b) : All2 S l m :=
  ⟨h.1, fun i h1 h2 => k _ _ (List.getElem_mem h1) (List.getElem_mem h2) (h.2 i h1 h2)⟩

theorem find_of_idx {α : Type} {p : α → Bool} {l : List α} {j : Nat} (hf : l.findIdx? p = some j) : ∃ h : j < l.length, l.find? p = some l[j] := by
  obtain ⟨hj, h1, h2⟩ := List.findIdx?_eq_some_iff_getElem.1 hf
  refine ⟨hj, ?_⟩
  rw [List.find?_eq_some_iff_getElem]
  exact ⟨h1, j, hj, rfl, fun k hk => by simpa using h2 k hk⟩
/-- A lookL-up in a frozen map. -/
theorem aop_lookup_p {α : Type} {f : α → Int} {l : List α} {vs : List AV} {x i : Operand} {n : Int} {z : AV} {ok : Bool} {R : α → AV → Prop} (hx : evA E x = some (.pmap (l.map fun x => .int .i64 (f x)) vs))
    (hi : evA E i = some (.int .i64 n)) (hl : All2 R l vs) :
    (∃ a v, l.find? (fun x => f x == n) = some a ∧ a ∈ l ∧ R a v ∧ aop E H nid d (.lookup (.one (.int .i64)) z x i ok) = some ⟨.v (bif ok then .tuple [v, .bool true] else v), none, [], none, [], []⟩) ∨
    (l.find? (fun x => f x == n) = none ∧ aop E H nid d (.lookup (.one (.int .i64)) z x i ok) = some ⟨.v (bif ok then .tuple [z, .bool false] else z), none, [], none, [], []⟩) := by
  have hfit : fits (.one (.int .i64)) (.int .i64 n) = true := rfl
  cases hf : l.findIdx? (fun x => f x == n) with
  | none =>
    right
    refine ⟨by simpa using hf, ?_⟩
    simp only [aop, hx, hi, lookupIn, mapIx, hfit, cond_true, findK_int, hf, Option.map_none]
  | some j =>
    left
    obtain ⟨hj, h1⟩ := find_of_idx hf
    have hj2 : j < vs.length := by have := hl.1; omega
    refine ⟨l[j], vs[j], h1, List.getElem_mem hj, hl.2 j hj hj2, ?_⟩
    simp only [aop, hx, hi, lookupIn, mapIx, hfit, cond_true, findK_int, hf, Option.map_some, Nat.add_zero, List.getElem?_eq_getElem hj2]
theorem WL.lookup_p {T : FuncId → Option VFun} {nr i dd : Nat} {dr : DR} {g : Option (Nat × Bool)} {md : Mode} {ops : List VO} {N : Nat} {K : St → Prop} {α : Type} {f : α → Int} {l : List α} {vs : List AV} {x y : Operand} {n : Int} {z : AV} {ok : Bool} {R : α → AV → Prop}
    (hg : wantedA E g = some true) (hx : evA E x = some (.pmap (l.map fun x => .int .i64 (f x)) vs)) (hi : evA E y = some (.int .i64 n)) (hl : All2 R l vs)
    (hc : okR dr i ([], []) ⟨some dd, g, .lookup (.one (.int .i64)) z x y ok, md⟩ = true)
    (h1 : ∀ a v, l.find? (fun x => f x == n) = some a → a ∈ l → R a v → WL T nr (logR dr i ([], [])) (i + 1) ops ⟨E.put dd (.v (bif ok then .tuple [v, .bool true] else v)), H, N⟩ K)
    (h2 : l.find? (fun x => f x == n) = none → WL T nr (logR dr i ([], [])) (i + 1) ops ⟨E.put dd (.v (bif ok then .tuple [z, .bool false] else z)), H, N⟩ K) :
    WL T nr dr i (⟨some dd, g, .lookup (.one (.int .i64)) z x y ok, md⟩ :: ops) ⟨E, H, N⟩ K := by
  rcases aop_lookup_p (H := H) (nid := (nr, i)) (d := some dd) (z := z) (ok := ok) hx hi hl with ⟨a, v, e1, e2, e3, e4⟩ | ⟨e1, e2⟩
  · exact WL.val hg e4 hc (h1 a v e1 e2 e3)
  · exact WL.val hg e2 hc (h2 e1)

/-- One more element. -/
theorem WL.push {T : FuncId → Option VFun} {nr i dd : Nat} {dr : DR} {g g' : Option (Nat × Bool)} {esz bytes len t u : Nat} {md md' : Mode} {l : List VO} {N : Nat} {K : St → Prop} {v b : AV} {cs new z : List AV} {x : Operand}
    (hg : wantedA E g = some true) (hx : evA E x = some b) (hb : cellsOf b = new) (hbl : new.length = esz) (hz : z.length = esz) (hg' : wantedA (E.put u (.v (.slice (nr, i) 0 1 esz true))) g' = some true) (htu : t ≠ u)
    (hs : E.get t = some (.v v)) (hv : OwnS H esz cs len v) (hf : Fresh H nr) (ho : ones new = true) (hsz : (len + 1) * bytes ≤ 140737488355328)
    (hc : okR dr i ([], [.obj (nr, i)]) ⟨some u, g, .bslice z 1 esz [(0, x)], md⟩ = true)
    (hc' : ∀ rd wr, (∀ k ∈ wr, ∃ o, k = .obj o ∧ (o = (nr, i + 1) ∨ o ∈ v.objs)) → okR (logR dr i ([], [.obj (nr, i)])) (i + 1) (rd, wr) ⟨some dd, g', .append esz bytes (.tmp t) (.tmp u), md'⟩ = true)
    (R : ∀ rd wr H', OwnS H' esz (cs ++ new) (len + 1) (.slice (nr, i + 1) 0 (len + 1) esz false) → (∀ j, j ∉ v.objs → j.1 < nr → H'.get j = H.get j) → (∀ m, nr < m → Fresh H' m) →
      WL T nr (logR (logR dr i ([], [.obj (nr, i)])) (i + 1) (rd, wr)) (i + 2) l ⟨(E.put u (.v (.slice (nr, i) 0 1 esz true))).put dd (.v (.slice (nr, i + 1) 0 (len + 1) esz false)), H', N⟩ K) :
    WL T nr dr i (⟨some u, g, .bslice z 1 esz [(0, x)], md⟩ :: ⟨some dd, g', .append esz bytes (.tmp t) (.tmp u), md'⟩ :: l) ⟨E, H, N⟩ K := by
  have e1 : aop E H (nr, i) (some u) (.bslice z 1 esz [(0, x)]) = some ⟨.v (.slice (nr, i) 0 1 esz true), none, [((nr, i), .cells new)], none, [], [.obj (nr, i)]⟩ := by
    have h1 : (new.length == esz) = true := by rw [hbl]; simp
    have h2 : Nat.ble (0 + new.length) (rep 1 z).length = true := Nat.ble_eq_true_of_le (by simp [rep, hbl, hz])
    have h3 : (rep 1 z).drop (0 + new.length) = [] := List.drop_eq_nil_of_le (by simp [rep, hbl, hz])
    simp only [aop, evElems, hx, hb, h1, cond_true, fill, Nat.zero_mul, upd, h2, h3, List.take_zero, List.nil_append, List.append_nil]
  refine WL.heap hg e1 hc ?_
  have hno : ∀ j, j ∈ v.objs → j ≠ (nr, i) := by
    intro j hj e
    subst e
    rcases hv with ⟨rfl, _⟩ | ⟨o, clip, rfl, h1, _⟩
    · cases hj
    · simp only [AV.objs, List.mem_singleton] at hj
      rw [← hj] at h1
      have := hf _ _ h1
      exact absurd this (Nat.lt_irrefl _)
  refine WL.append (b := .slice (nr, i) 0 1 esz true) (new := new) (n := 1) hg' (v := v) ?_ (hv.frame fun j hj => by rw [Heap.get_put, if_neg (hno j hj)]) (evA_nj (by rw [show (E.putO (some u) (SV.v (AV.slice (nr, i) 0 1 esz true))) = E.put u (SV.v (AV.slice (nr, i) 0 1 esz true)) from rfl, Env.get_put, if_pos rfl]) (by intro h; cases h)) (elems_put (by omega)) (by decide) ho (by omega) hsz hc' ?_
  · show (E.put u _).get t = _
    rw [Env.get_put, if_neg htu]; exact hs
  · intro rd wr H' h1 h2 h3
    refine R rd wr H' h1 (fun j hj hl => ?_) (fun m hm => h3 m hm (hf.put hm (Nat.le_of_lt hm)))
    have n1 : j ≠ (nr, i + 1) := fun e => by rw [e] at hl; exact absurd hl (Nat.lt_irrefl _)
    have n2 : j ≠ (nr, i) := fun e => by rw [e] at hl; exact absurd hl (Nat.lt_irrefl _)
    rw [h2 j hj n1, Heap.get_put, if_neg n2]
theorem okR_of {un : List (Nat × Nat)} {e0 : Env} {log : List (Nat × Foot)} {i : Nat} {f : Foot} {o : VO} (h1 : clashes un i f log = false) (h2 : startOk e0 o = true) (h3 : led o log = false) : okR (some (un, e0, log)) i f o = true := by
  simp only [okR, h1, h2, h3, Bool.not_true, Bool.or_self, Bool.not_false]
theorem meets_none {xs ys : List Key} (h : ∀ x ∈ xs, ∀ y ∈ ys, x.meet y = false) : meets xs ys = false := by
  simp only [meets, List.any_eq_false, Bool.not_eq_true]
  exact h
/-- What a list of pairs holds at a key: a list, the empty one where there is none. -/
def lookL {β : Type} (l : List (Int × List β)) (n : Int) : List β := ((l.find? fun t => t.1 == n).map (·.2)).getD []
theorem lookL_le {β : Type} {l : List (Int × List β)} {m : Nat} (hl : ∀ t ∈ l, t.2.length < m) (hm : 0 < m) (n : Int) : (lookL l n).length < m := by
  unfold lookL
  cases h : l.find? (fun t => t.1 == n) with
  | none => simpa using hm
  | some t => simpa using hl t (List.mem_of_find?_eq_some h)
theorem WL.lookup_sl {T : FuncId → Option VFun} {nr i dd : Nat} {dr : DR} {g : Option (Nat × Bool)} {md : Mode} {ops : List VO} {N : Nat} {K : St → Prop} {β : Type} {enc : β → List AV} {esz : Nat} {l : List (Int × List β)} {vs : List AV} {x y : Operand} {n : Int} {ok : Bool}
    (hg : wantedA E g = some true) (hx : evA E x = some (.pmap (l.map fun x => .int .i64 x.1) vs)) (hi : evA E y = some (.int .i64 n)) (hl : All2 (fun t v => SlV esz (t.2.flatMap enc) t.2.length v) l vs)
    (hc : okR dr i ([], []) ⟨some dd, g, .lookup (.one (.int .i64)) .nils x y ok, md⟩ = true)
    (h1 : ∀ v, SlV esz ((lookL l n).flatMap enc) (lookL l n).length v → WL T nr (logR dr i ([], [])) (i + 1) ops ⟨E.put dd (.v (bif ok then .tuple [v, .bool (l.find? fun t => t.1 == n).isSome] else v)), H, N⟩ K) :
    WL T nr dr i (⟨some dd, g, .lookup (.one (.int .i64)) .nils x y ok, md⟩ :: ops) ⟨E, H, N⟩ K := by
  refine WL.lookup_p (f := fun t => t.1) hg hx hi hl hc (fun t v hf hm hR => ?_) (fun hf => ?_)
  · have := h1 v (by simpa only [lookL, hf, Option.map_some, Option.getD_some] using hR)
    rw [hf] at this; exact this
  · have := h1 .nils (by simp only [lookL, hf, Option.map_none, Option.getD_none]; exact SlV.nil esz)
    rw [hf] at this; exact this
theorem res1 {t : Nat} {v : AV} (h : E.get t = some (.v v)) (hv : v ≠ .junk) : readRess E H [.tmp t] = some [v] := by simp only [readRess, readRes, evA_nj h hv]
theorem flat_snoc {α β : Type} {f : α → List β} {l : List α} {i : Nat} (h : i < l.length) : (l.take (i + 1)).flatMap f = (l.take i).flatMap f ++ f l[i] := by
  rw [List.take_succ_eq_append_getElem h, List.flatMap_append]; simp
theorem map_snoc {α β : Type} {f : α → β} {l : List α} {i : Nat} (h : i < l.length) : (l.take (i + 1)).map f = (l.take i).map f ++ [f l[i]] := by
  rw [List.take_succ_eq_append_getElem h, List.map_append]; rfl
end
end Go.AM

/- The program's data as Lean's, and as the abstract machine's. -/
namespace Go.AM
noncomputable section
set_option linter.unusedVariables false

/-- A slice that came in: what it holds, and whether its capacity is its length. -/
structure Sl (α : Type) where
  l : List α
  clip : Bool
  e : Nat
def Sl.av {α : Type} (esz : Nat) (enc : α → List AV) (s : Sl α) : AV := .pslice (s.l.flatMap enc) s.l.length s.e s.clip
def I (n : Int) : AV := .int .i64 n
def encI (n : Int) : List AV := [.int .i64 n]
def encU64 (n : Int) : List AV := [.int .u64 n]
structure Arm where
  value : Int
  next : Int
def Arm.enc (a : Arm) : List AV := [.int .u32 a.value, .int .i64 a.next]
structure Node where
  id : Int
  size : Int
  lenOff : Int
  lenWidth : Int
  lenUnit : Int
  selOff : Int
  selWidth : Int
  arms : Sl Arm
  other : Int
def Node.enc (x : Node) : List AV := [.int .i64 x.id, .int .i64 x.size, .int .i64 x.lenOff, .int .i64 x.lenWidth, .int .i64 x.lenUnit, .int .i64 x.selOff, .int .i64 x.selWidth, x.arms.av 2 Arm.enc, .int .i64 x.other]
structure Field where
  id : Int
  base : Int
  node : Int
  off : Int
  width : Int
def Field.enc (x : Field) : List AV := [.int .i64 x.id, .int .u8 x.base, .int .i64 x.node, .int .i64 x.off, .int .i64 x.width]
structure Table where
  id : Int
  kind : Int
  keys : Sl Int
  cap : Int
  miss : Int
def Table.enc (x : Table) : List AV := [.int .i64 x.id, .int .u8 x.kind, x.keys.av 1 encI, .int .i64 x.cap, .int .i64 x.miss]
structure Entry where
  table : Int
  key : ByteArray
  other : ByteArray
  len : Int
  prio : Int
  block : Int
  args : Sl Int
  idle : Int
  hard : Int
  cookie : Int
  tell : Bool
def Entry.enc (x : Entry) : List AV := [.int .i64 x.table, .str x.key, .str x.other, .int .i64 x.len, .int .i64 x.prio, .int .i64 x.block, x.args.av 1 encU64, .int .i64 x.idle, .int .i64 x.hard, .int .u64 x.cookie, .bool x.tell]
structure Instr where
  op : Int
  to : Int
  ak : Int
  an : Int
  bk : Int
  bn : Int
  n : Int
def Instr.enc (x : Instr) : List AV := [.int .u8 x.op, .int .i64 x.to, .int .u8 x.ak, .int .u64 x.an, .int .u8 x.bk, .int .u64 x.bn, .int .i64 x.n]
structure Block where
  id : Int
  code : Sl Instr
def Block.enc (x : Block) : List AV := [.int .i64 x.id, x.code.av 7 Instr.enc]
structure Bucket where
  weight : Int
  block : Int
def Bucket.enc (x : Bucket) : List AV := [.int .u64 x.weight, .int .i64 x.block]
structure Group where
  id : Int
  kind : Int
  field : Int
  buckets : Sl Bucket
def Group.enc (x : Group) : List AV := [.int .i64 x.id, .int .u8 x.kind, .int .i64 x.field, x.buckets.av 2 Bucket.enc]
structure Meter where
  id : Int
  rate : Int
  burst : Int
def Meter.enc (x : Meter) : List AV := [.int .i64 x.id, .int .i64 x.rate, .int .i64 x.burst]
structure Regs where
  id : Int
  size : Int
def Regs.enc (x : Regs) : List AV := [.int .i64 x.id, .int .i64 x.size]
structure Config where
  nodes : Sl Node
  fields : Sl Field
  tables : Sl Table
  entries : Sl Entry
  blocks : Sl Block
  groups : Sl Group
  meters : Sl Meter
  regs : Sl Regs
  counters : Sl Int
def Config.enc (c : Config) : List AV := [c.nodes.av 9 Node.enc, c.fields.av 5 Field.enc, c.tables.av 5 Table.enc, c.entries.av 11 Entry.enc, c.blocks.av 2 Block.enc, c.groups.av 4 Group.enc, c.meters.av 3 Meter.enc, c.regs.av 2 Regs.enc, c.counters.av 1 encI]
end
end Go.AM
