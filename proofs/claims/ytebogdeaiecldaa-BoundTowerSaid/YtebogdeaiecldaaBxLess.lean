/- Parts of the proof: B.Less, B.PartsP, B.Parts, AM.Deep, B.Tower, B.TowerP, B.TowerL. -/
import Derived.Test.YtebogdeaiecldaaBxArgs
/- The law BoundLess. -/
namespace Go.AM.B
open Go.Proofs.Ytebogdeaiecldaa.Tab
noncomputable section
set_option linter.unusedVariables false
set_option linter.unusedSimpArgs false
set_option maxHeartbeats 4000000

def mkD (c : Config) (E : Sl Entry) (B : Sl Block) : Config := { c with entries := E, blocks := B }
theorem purE {L : List Entry} {h : Heap} {o : AM.Id} {q : Bool} {k : Nat} (hk : k < L.length) (hg : h.get o = some (.cells ([] ++ ((L.drop 0).take (k - 0)).flatMap Entry.enc ++ ((L.drop (k + 1)).take (L.length - (k + 1))).flatMap Entry.enc))) :
    AM.pur 39 h (.slice o 0 (0 + (k - 0) + (L.length - (k + 1))) 11 q) = some (Sl.av 11 Entry.enc ⟨L.take k ++ L.drop (k + 1), q, 11⟩) := by
  have e : [] ++ ((L.drop 0).take (k - 0)).flatMap Entry.enc ++ ((L.drop (k + 1)).take (L.length - (k + 1))).flatMap Entry.enc = (L.take k ++ L.drop (k + 1)).flatMap Entry.enc := by
    rw [List.nil_append, List.drop_zero, Nat.sub_zero, List.take_of_length_le (l := L.drop (k + 1)) (by rw [List.length_drop]; exact Nat.le_refl _), List.flatMap_append]
  have en : 0 + (k - 0) + (L.length - (k + 1)) = (L.take k ++ L.drop (k + 1)).length := by rw [List.length_append, List.length_take, List.length_drop]; omega
  rw [e] at hg
  rw [en]
  refine pur_slice (k := 38) hg (flat_len (k := 11) (fun _ => rfl) _) ?_
  intro a ha; obtain ⟨x, _, ha⟩ := List.mem_flatMap.1 ha; simp only [Entry.enc, List.mem_cons, List.not_mem_nil, or_false] at ha; rcases ha with rfl | rfl | rfl | rfl | rfl | rfl | rfl | rfl | rfl | rfl | rfl <;> rfl
def nob (id : Int) : Block := ⟨id, ⟨[], true, 0⟩⟩
theorem purB {L : List Block} {h : Heap} {o : AM.Id} {q : Bool} {k : Nat} (hk : k < L.length) (hg : h.get o = some (.cells ((L.take k).flatMap Block.enc ++ [AV.int .i64 L[k].id, AV.nils] ++ (L.drop (k + 1)).flatMap Block.enc))) :
    AM.pur 39 h (.slice o 0 (0 + L.length) 2 q) = some (Sl.av 2 Block.enc ⟨L.set k (nob L[k].id), q, 2⟩) := by
  have e : ((L.take k).flatMap Block.enc ++ [AV.int .i64 L[k].id, AV.nils] ++ (L.drop (k + 1)).flatMap Block.enc).map fz = (L.set k (nob L[k].id)).flatMap Block.enc := by
    rw [List.map_append, List.map_append, map_flat (enc' := Block.enc) (fun _ => rfl), map_flat (enc' := Block.enc) (fun _ => rfl), set_split L hk, List.flatMap_append, List.flatMap_append]
    rfl
  have en : 0 + L.length = (L.set k (nob L[k].id)).length := by rw [List.length_set]; omega
  have := pur_sliceF (k := 38) (clip := q) (len := 0 + L.length) (esz := 2) hg (by rw [List.length_append, List.length_append, flat_len (k := 2) (fun _ => rfl), flat_len (k := 2) (fun _ => rfl), List.length_take, List.length_drop]; simp only [List.length_cons, List.length_nil]; omega) ?_
  · rw [this, e, en]; rfl
  intro a ha
  rcases List.mem_append.1 ha with ha | ha
  · rcases List.mem_append.1 ha with ha | ha
    · obtain ⟨x, _, ha⟩ := List.mem_flatMap.1 ha; simp only [Block.enc, List.mem_cons, List.not_mem_nil, or_false] at ha; rcases ha with rfl | rfl <;> rfl
    · simp only [List.mem_cons, List.not_mem_nil, or_false] at ha; rcases ha with rfl | rfl <;> rfl
  · obtain ⟨x, _, ha⟩ := List.mem_flatMap.1 ha; simp only [Block.enc, List.mem_cons, List.not_mem_nil, or_false] at ha; rcases ha with rfl | rfl <;> rfl
theorem mkD_pur {c : Config} {E : Sl Entry} {B : Sl Block} {h : Heap} {x y : AV} (h1 : AM.pur 39 h x = some (E.av 11 Entry.enc)) (h2 : AM.pur 39 h y = some (B.av 2 Block.enc)) :
    AM.pur purLimit h (.agg [c.nodes.av 9 Node.enc, c.fields.av 5 Field.enc, c.tables.av 5 Table.enc, x, y, c.groups.av 4 Group.enc, c.meters.av 3 Meter.enc, c.regs.av 2 Regs.enc, c.counters.av 1 encI]) = some (.agg (mkD c E B).enc) :=
  pur_agg (mapO_cons rfl (mapO_cons rfl (mapO_cons rfl (mapO_cons h1 (mapO_cons h2 (mapO_cons rfl (mapO_cons rfl (mapO_cons rfl (mapO_cons rfl rfl)))))))))
theorem find_setb {L : List Block} {k : Nat} (hk : k < L.length) (id : Int) : (((L.set k (nob L[k].id)).find? fun b => b.id == id).map (·.code.l)).getD [] = ((L.find? fun b => b.id == id).map (·.code.l)).getD [] ∨ (((L.set k (nob L[k].id)).find? fun b => b.id == id).map (·.code.l)).getD [] = [] := by
  induction L generalizing k with
  | nil => exact absurd hk (by simp)
  | cons a l ih =>
    cases k with
    | zero =>
      simp only [List.set_cons_zero, List.getElem_cons_zero, List.find?_cons]
      have : (nob a.id).id = a.id := rfl
      rw [this]
      cases a.id == id with
      | true => exact .inr rfl
      | false => exact .inl rfl
    | succ k =>
      simp only [List.set_cons_succ, List.getElem_cons_succ, List.find?_cons]
      cases a.id == id with
      | true => exact .inl rfl
      | false => exact ih (by simpa using hk)
theorem mkD_less {c : Config} {E : Sl Entry} {B : Sl Block} (h1 : ∀ x ∈ E.l, x ∈ c.entries.l) (h2 : B.l = c.blocks.l ∨ ∃ k, ∃ hk : k < c.blocks.l.length, B.l = c.blocks.l.set k (nob c.blocks.l[k].id)) : LessC (mkD c E B) c := by
  refine ⟨rfl, h1, fun id => ?_, rfl⟩
  unfold blkL mkD
  dsimp only
  rcases h2 with e | ⟨k, hk, e⟩
  · rw [e]; exact .inl rfl
  · rw [e]; exact find_setb hk id
theorem mkD_small {c : Config} {E : Sl Entry} {B : Sl Block} (sm : Small c) (h1 : E.l.length < 100000) (h2 : B.l = c.blocks.l ∨ ∃ k, ∃ hk : k < c.blocks.l.length, B.l = c.blocks.l.set k (nob c.blocks.l[k].id)) : Small (mkD c E B) := by
  refine ⟨sm.sn, sm.sa, sm.st, h1, ?_, sm.sg, ?_, sm.sk⟩
  · rcases h2 with e | ⟨k, hk, e⟩
    · show B.l.length < _; rw [e]; exact sm.sb
    · show B.l.length < _; rw [e, List.length_set]; exact sm.sb
  · intro x (hx : x ∈ B.l)
    rcases h2 with e | ⟨k, hk, e⟩
    · rw [e] at hx; exact sm.sc x hx
    · rw [e] at hx
      rcases List.mem_or_eq_of_mem_set hx with h | h
      · exact sm.sc x h
      · rw [h]; exact (by decide : (0 : Nat) < 100000)
theorem bnd_acy {s : Solv} (h : acy s) (x : Th) : bnd s x = (val s x, 0) := by simp [bnd, h]
theorem of_less {d c : Config} (h : LessC d c) (hn : d.nodes.l = c.nodes.l) (hs : c.nodes.l.length < 100000) (ha : acy (solve c)) : ∃ v w, ofB c = (v, 0) ∧ ofB d = (w, 0) ∧ w ≤ v := by
  have e1 : bnd (solve c) (0, 1) = (val (solve c) (0, 1), 0) := by simp [bnd, ha]
  have e2 : bnd (solve d) (0, 1) = (val (solve d) (0, 1), 0) := by simp [bnd, h.acy ha]
  have hv := h.val ha (0, 1)
  refine ⟨_, _, by unfold ofB; rw [e1, if_pos rfl], by unfold ofB; rw [e2, if_pos rfl], ?_⟩
  dsimp only
  rw [hn]
  omega
theorem less_c (c : Config) (i j id : Int) (hc : Config.ok c) : VC1 T 7 [.agg c.enc, .int .i64 i, .int .i64 j, .int .i64 id] (.bool true) := by
  have l1 := large_k hc
  have l3 := awake_c
  refine VC1.of (vf := v7) rfl rfl ?_
  unfold v7
  repeat (first | refine W.seq ?_ | refine W.ops ?_ | refine WL.off rfl rfl ?_ | refine WL.val rfl rfl rfl ?_ | refine WL.nil ?_ | refine W.block ?_ | refine W.outBlock ?_ | refine W.skip ?_ | refine W.exit rfl ?_ | refine WL.box rfl rfl rfl ?_ | refine W.opsD ?_ | refine W.condT rfl ?_ | refine W.condF rfl ?_)
  refine WL.view rfl rfl rfl l1 rfl rfl ?_
  repeat (first | refine W.seq ?_ | refine W.ops ?_ | refine WL.off rfl rfl ?_ | refine WL.val rfl rfl rfl ?_ | refine WL.nil ?_ | refine W.block ?_ | refine W.outBlock ?_ | refine W.skip ?_ | refine W.exit rfl ?_ | refine WL.box rfl rfl rfl ?_ | refine W.opsD ?_ | refine W.condT rfl ?_ | refine W.condF rfl ?_)
  refine WL.splitG rfl (fun g1 => ?_) (fun g1 => ?_)
  · repeat (first | refine W.seq ?_ | refine W.ops ?_ | refine WL.off rfl rfl ?_ | refine WL.val rfl rfl rfl ?_ | refine WL.nil ?_ | refine W.block ?_ | refine W.outBlock ?_ | refine W.skip ?_ | refine W.exit rfl ?_ | refine WL.box rfl rfl rfl ?_ | refine W.opsD ?_ | refine W.condT rfl ?_ | refine W.condF rfl ?_)
    refine WL.view rfl rfl rfl l3 rfl rfl ?_
    repeat (first | refine W.seq ?_ | refine W.ops ?_ | refine WL.off rfl rfl ?_ | refine WL.val rfl rfl rfl ?_ | refine WL.nil ?_ | refine W.block ?_ | refine W.outBlock ?_ | refine W.skip ?_ | refine W.exit rfl ?_ | refine WL.box rfl rfl rfl ?_ | refine W.opsD ?_ | refine W.condT rfl ?_ | refine W.condF rfl ?_)
    exact W.ret ⟨_, rfl, rfl⟩
  obtain ⟨sm1, m1⟩ := large_small g1
  repeat (first | refine W.seq ?_ | refine W.ops ?_ | refine WL.off rfl rfl ?_ | refine WL.val rfl rfl rfl ?_ | refine WL.nil ?_ | refine W.block ?_ | refine W.outBlock ?_ | refine W.skip ?_ | refine W.exit rfl ?_ | refine WL.box rfl rfl rfl ?_ | refine W.opsD ?_ | refine W.condT rfl ?_ | refine W.condF rfl ?_)
  refine WL.view rfl rfl rfl (cyc_c c sm1) rfl rfl ?_
  repeat (first | refine W.seq ?_ | refine W.ops ?_ | refine WL.off rfl rfl ?_ | refine WL.val rfl rfl rfl ?_ | refine WL.nil ?_ | refine W.block ?_ | refine W.outBlock ?_ | refine W.skip ?_ | refine W.exit rfl ?_ | refine WL.box rfl rfl rfl ?_ | refine W.opsD ?_ | refine W.condT rfl ?_ | refine W.condF rfl ?_)
  refine WL.splitG rfl (fun g2 => ?_) (fun g2 => ?_)
  · repeat (first | refine W.seq ?_ | refine W.ops ?_ | refine WL.off rfl rfl ?_ | refine WL.val rfl rfl rfl ?_ | refine WL.nil ?_ | refine W.block ?_ | refine W.outBlock ?_ | refine W.skip ?_ | refine W.exit rfl ?_ | refine WL.box rfl rfl rfl ?_ | refine W.opsD ?_ | refine W.condT rfl ?_ | refine W.condF rfl ?_)
    refine WL.view rfl rfl rfl l3 rfl rfl ?_
    repeat (first | refine W.seq ?_ | refine W.ops ?_ | refine WL.off rfl rfl ?_ | refine WL.val rfl rfl rfl ?_ | refine WL.nil ?_ | refine W.block ?_ | refine W.outBlock ?_ | refine W.skip ?_ | refine W.exit rfl ?_ | refine WL.box rfl rfl rfl ?_ | refine W.opsD ?_ | refine W.condT rfl ?_ | refine W.condF rfl ?_)
    exact W.ret ⟨_, rfl, rfl⟩
  have ha := acy_of g2
  repeat (first | refine W.seq ?_ | refine W.ops ?_ | refine WL.off rfl rfl ?_ | refine WL.val rfl rfl rfl ?_ | refine WL.nil ?_ | refine W.block ?_ | refine W.outBlock ?_ | refine W.skip ?_ | refine W.exit rfl ?_ | refine WL.box rfl rfl rfl ?_ | refine W.opsD ?_ | refine W.condT rfl ?_ | refine W.condF rfl ?_)
  refine WL.view rfl rfl rfl l3 rfl rfl ?_
  repeat (first | refine W.seq ?_ | refine W.ops ?_ | refine WL.off rfl rfl ?_ | refine WL.val rfl rfl rfl ?_ | refine WL.nil ?_ | refine W.block ?_ | refine W.outBlock ?_ | refine W.skip ?_ | refine W.exit rfl ?_ | refine WL.box rfl rfl rfl ?_ | refine W.opsD ?_ | refine W.condT rfl ?_ | refine W.condF rfl ?_ | refine WL.heap rfl rfl rfl ?_)
  have m1' := m1
  unfold n0 at m1'
  have hb : ∀ x, bnd (solve c) x = (val (solve c) x, 0) := fun x => by simp [bnd, ha]
  refine W.condS rfl (fun g3 => ?_) (fun g3 => ?_)
  · have hn : 0 < c.entries.l.length := by simpa using g3
    obtain ⟨k, hk, ek, ez⟩ := idx_rem i hn (by omega)
    repeat (first | refine W.seq ?_ | refine W.ops ?_ | refine WL.off rfl rfl ?_ | refine WL.val rfl rfl rfl ?_ | refine WL.nil ?_ | refine W.block ?_ | refine W.outBlock ?_ | refine W.skip ?_ | refine W.exit rfl ?_ | refine WL.box rfl rfl rfl ?_ | refine W.opsD ?_ | refine W.condT rfl ?_ | refine W.condF rfl ?_)
    refine WL.val rfl (aop_rem rfl rfl ez) rfl ?_
    repeat (first | refine W.seq ?_ | refine W.ops ?_ | refine WL.off rfl rfl ?_ | refine WL.val rfl rfl rfl ?_ | refine WL.nil ?_ | refine W.block ?_ | refine W.outBlock ?_ | refine W.skip ?_ | refine W.exit rfl ?_ | refine WL.box rfl rfl rfl ?_ | refine W.opsD ?_ | refine W.condT rfl ?_ | refine W.condF rfl ?_ | refine WL.heap rfl rfl rfl ?_)
    refine WL.slcP (k := 11) (fun _ => rfl) rfl rfl (slcB_hi rfl ek (by omega)) (Nat.zero_le _) (by omega) rfl ?_
    intro raw1 q1 hr1
    repeat (first | refine W.seq ?_ | refine W.ops ?_ | refine WL.off rfl rfl ?_ | refine WL.val rfl rfl rfl ?_ | refine WL.nil ?_ | refine W.block ?_ | refine W.outBlock ?_ | refine W.skip ?_ | refine W.exit rfl ?_ | refine WL.box rfl rfl rfl ?_ | refine W.opsD ?_ | refine W.condT rfl ?_ | refine W.condF rfl ?_)
    refine WL.appP (cs := []) [(5, 0)] rfl rfl rfl (by rw [Heap.get_put, if_pos rfl]; rfl) rfl hr1 (ones_flat (fun _ => rfl) _) (by omega) (List.mem_singleton.2 rfl) rfl ?_
    intro po pq ph pg pm pf
    repeat (first | refine W.seq ?_ | refine W.ops ?_ | refine WL.off rfl rfl ?_ | refine WL.val rfl rfl rfl ?_ | refine WL.nil ?_ | refine W.block ?_ | refine W.outBlock ?_ | refine W.skip ?_ | refine W.exit rfl ?_ | refine WL.box rfl rfl rfl ?_ | refine W.opsD ?_ | refine W.condT rfl ?_ | refine W.condF rfl ?_)
    refine WL.slcP (k := 11) (fun _ => rfl) rfl rfl (slcB_lo rfl (by rw [ek]; exact wrap64_nat (by omega)) (by omega)) (by omega) (Nat.le_refl _) rfl ?_
    intro raw2 q2 hr2
    repeat (first | refine W.seq ?_ | refine W.ops ?_ | refine WL.off rfl rfl ?_ | refine WL.val rfl rfl rfl ?_ | refine WL.nil ?_ | refine W.block ?_ | refine W.outBlock ?_ | refine W.skip ?_ | refine W.exit rfl ?_ | refine WL.box rfl rfl rfl ?_ | refine W.opsD ?_ | refine W.condT rfl ?_ | refine W.condF rfl ?_)
    refine WL.appP [(5, 5), (5, 0)] rfl rfl rfl pg (by rw [List.nil_append, flat_len (k := 11) (fun _ => rfl), List.length_take, List.length_drop]; omega) hr2 (ones_flat (fun _ => rfl) _) (by omega) pm rfl ?_
    intro o1 q1' H1 G1 M1 W1
    repeat (first | refine W.seq ?_ | refine W.ops ?_ | refine WL.off rfl rfl ?_ | refine WL.val rfl rfl rfl ?_ | refine WL.nil ?_ | refine W.block ?_ | refine W.outBlock ?_ | refine W.skip ?_ | refine W.exit rfl ?_ | refine WL.box rfl rfl rfl ?_ | refine W.opsD ?_ | refine W.condT rfl ?_ | refine W.condF rfl ?_)
    have hLE : ∀ x ∈ (⟨c.entries.l.take k ++ c.entries.l.drop (k + 1), q1', 11⟩ : Sl Entry).l, x ∈ c.entries.l := by
      intro x hx
      rcases List.mem_append.1 hx with h | h
      · exact List.mem_of_mem_take h
      · exact List.mem_of_mem_drop h
    have hSE : (⟨c.entries.l.take k ++ c.entries.l.drop (k + 1), q1', 11⟩ : Sl Entry).l.length < 100000 := by
      show (c.entries.l.take k ++ c.entries.l.drop (k + 1)).length < 100000
      rw [List.length_append, List.length_take, List.length_drop]; omega
    refine W.condS rfl (fun g4 => ?_) (fun g4 => ?_)
    · have hn2 : 0 < c.blocks.l.length := by simpa using g4
      obtain ⟨k2, hk2, ek2, ez2⟩ := idx_rem j hn2 (by omega)
      repeat (first | refine W.seq ?_ | refine W.ops ?_ | refine WL.off rfl rfl ?_ | refine WL.val rfl rfl rfl ?_ | refine WL.nil ?_ | refine W.block ?_ | refine W.outBlock ?_ | refine W.skip ?_ | refine W.exit rfl ?_ | refine WL.box rfl rfl rfl ?_ | refine W.opsD ?_ | refine W.condT rfl ?_ | refine W.condF rfl ?_)
      refine WL.val rfl (aop_rem rfl rfl ez2) rfl ?_
      repeat (first | refine W.seq ?_ | refine W.ops ?_ | refine WL.off rfl rfl ?_ | refine WL.val rfl rfl rfl ?_ | refine WL.nil ?_ | refine W.block ?_ | refine W.outBlock ?_ | refine W.skip ?_ | refine W.exit rfl ?_ | refine WL.box rfl rfl rfl ?_ | refine W.opsD ?_ | refine W.condT rfl ?_ | refine W.condF rfl ?_ | refine WL.heap rfl rfl rfl ?_)
      refine WL.appP (cs := []) [(8, 0)] rfl rfl rfl (by rw [Heap.get_put, if_pos rfl]; rfl) rfl (sub_all _ _ (flat_len (k := 2) (fun _ => rfl) _)) (ones_flat (fun _ => rfl) _) (by omega) (List.mem_singleton.2 rfl) rfl ?_
      intro o2 q2 H2 G2 M2 W2
      repeat (first | refine W.seq ?_ | refine W.ops ?_ | refine WL.off rfl rfl ?_ | refine WL.val rfl rfl rfl ?_ | refine WL.nil ?_ | refine W.block ?_ | refine W.outBlock ?_ | refine W.skip ?_ | refine W.exit rfl ?_ | refine WL.box rfl rfl rfl ?_ | refine W.opsD ?_ | refine W.condT rfl ?_ | refine W.condF rfl ?_)
      refine WL.val rfl (aop_iaddr_p rfl rfl hk2 ek2) rfl ?_
      repeat (first | refine W.seq ?_ | refine W.ops ?_ | refine WL.off rfl rfl ?_ | refine WL.val rfl rfl rfl ?_ | refine WL.nil ?_ | refine W.block ?_ | refine W.outBlock ?_ | refine W.skip ?_ | refine W.exit rfl ?_ | refine WL.box rfl rfl rfl ?_ | refine W.opsD ?_ | refine W.condT rfl ?_ | refine W.condF rfl ?_)
      refine WL.val rfl (aop_load_el (enc := Block.enc) (o := 0) rfl (fun _ => rfl) hk2 (by decide) rfl) rfl ?_
      repeat (first | refine W.seq ?_ | refine W.ops ?_ | refine WL.off rfl rfl ?_ | refine WL.val rfl rfl rfl ?_ | refine WL.nil ?_ | refine W.block ?_ | refine W.outBlock ?_ | refine W.skip ?_ | refine W.exit rfl ?_ | refine WL.box rfl rfl rfl ?_ | refine W.opsD ?_ | refine W.condT rfl ?_ | refine W.condF rfl ?_)
      refine WL.val rfl (aop_iaddr_h rfl rfl (show k2 < 0 + c.blocks.l.length by omega) ek2) rfl ?_
      rw [List.nil_append] at G2
      refine WL.heap rfl (aop_store_h rfl rfl rfl rfl G2 (by rw [Nat.zero_add]; exact upd_flat (k := 2) (fun _ => rfl) _ hk2 rfl)) rfl ?_
      have QB := purB (h := H2.put o2 (.cells ((c.blocks.l.take k2).flatMap Block.enc ++ [AV.int .i64 c.blocks.l[k2].id, AV.nils] ++ (c.blocks.l.drop (k2 + 1)).flatMap Block.enc))) (q := q2) hk2 (by rw [Heap.get_put, if_pos rfl])
      have eB : (⟨c.blocks.l.set k2 (nob c.blocks.l[k2].id), q2, 2⟩ : Sl Block).l = c.blocks.l ∨ ∃ k, ∃ hk : k < c.blocks.l.length, (⟨c.blocks.l.set k2 (nob c.blocks.l[k2].id), q2, 2⟩ : Sl Block).l = c.blocks.l.set k (nob c.blocks.l[k].id) := .inr ⟨k2, hk2, rfl⟩
      have LS := mkD_less (c := c) (E := ⟨c.entries.l.take k ++ c.entries.l.drop (k + 1), q1', 11⟩) hLE eB
      have SM := mkD_small (c := c) (E := ⟨c.entries.l.take k ++ c.entries.l.drop (k + 1), q1', 11⟩) sm1 hSE eB
      have E1 : (H2.put o2 (.cells ((c.blocks.l.take k2).flatMap Block.enc ++ [AV.int .i64 c.blocks.l[k2].id, AV.nils] ++ (c.blocks.l.drop (k2 + 1)).flatMap Block.enc))).get o1 = H1.get o1 := by
        simp only [List.mem_cons, List.not_mem_nil, or_false] at M1 M2
        rcases M1 with rfl | rfl | rfl
        all_goals
          rw [Heap.get_put, if_neg (by rcases M2 with rfl | rfl <;> decide), W2 _ (by decide) (by decide), Heap.get_put, if_neg (by decide)]
      have QE := purE (q := q1') hk (E1.trans G1)
      repeat (first | refine W.seq ?_ | refine W.ops ?_ | refine WL.off rfl rfl ?_ | refine WL.val rfl rfl rfl ?_ | refine WL.nil ?_ | refine W.block ?_ | refine W.outBlock ?_ | refine W.skip ?_ | refine W.exit rfl ?_ | refine WL.box rfl rfl rfl ?_ | refine W.opsD ?_ | refine W.condT rfl ?_ | refine W.condF rfl ?_)
      refine WL.view rfl rfl rfl (ofc_c c sm1) rfl rfl ?_
      obtain ⟨v, w, ev, ew, hvw⟩ := of_less LS rfl sm1.sn ha
      rw [ev]
      repeat (first | refine W.seq ?_ | refine W.ops ?_ | refine WL.off rfl rfl ?_ | refine WL.val rfl rfl rfl ?_ | refine WL.nil ?_ | refine W.block ?_ | refine W.outBlock ?_ | refine W.skip ?_ | refine W.exit rfl ?_ | refine WL.box rfl rfl rfl ?_ | refine W.opsD ?_ | refine W.condT rfl ?_ | refine W.condF rfl ?_)
      refine WL.view rfl rfl (mapO_cons (mkD_pur (c := c) QE QB) rfl) (ofc_c _ SM) rfl rfl ?_
      rw [ew]
      repeat (first | refine W.seq ?_ | refine W.ops ?_ | refine WL.off rfl rfl ?_ | refine WL.val rfl rfl rfl ?_ | refine WL.nil ?_ | refine W.block ?_ | refine W.outBlock ?_ | refine W.skip ?_ | refine W.exit rfl ?_ | refine WL.box rfl rfl rfl ?_ | refine W.opsD ?_ | refine W.condT rfl ?_ | refine W.condF rfl ?_)
      refine W.condS rfl (fun g5 => ?_) (fun g5 => ?_)
      · have g5' : v < w := of_decide_eq_true g5
        omega
      repeat (first | refine W.seq ?_ | refine W.ops ?_ | refine WL.off rfl rfl ?_ | refine WL.val rfl rfl rfl ?_ | refine WL.nil ?_ | refine W.block ?_ | refine W.outBlock ?_ | refine W.skip ?_ | refine W.exit rfl ?_ | refine WL.box rfl rfl rfl ?_ | refine W.opsD ?_ | refine W.condT rfl ?_ | refine W.condF rfl ?_)
      refine WL.view rfl rfl rfl (group_c c sm1 id) rfl rfl ?_
      rw [hb]
      repeat (first | refine W.seq ?_ | refine W.ops ?_ | refine WL.off rfl rfl ?_ | refine WL.val rfl rfl rfl ?_ | refine WL.nil ?_ | refine W.block ?_ | refine W.outBlock ?_ | refine W.skip ?_ | refine W.exit rfl ?_ | refine WL.box rfl rfl rfl ?_ | refine W.opsD ?_ | refine W.condT rfl ?_ | refine W.condF rfl ?_)
      refine WL.view rfl rfl (mapO_cons (mkD_pur (c := c) QE QB) rfl) (group_c _ SM id) rfl rfl ?_
      rw [bnd_acy ((LS).acy ha)]
      repeat (first | refine W.seq ?_ | refine W.ops ?_ | refine WL.off rfl rfl ?_ | refine WL.val rfl rfl rfl ?_ | refine WL.nil ?_ | refine W.block ?_ | refine W.outBlock ?_ | refine W.skip ?_ | refine W.exit rfl ?_ | refine WL.box rfl rfl rfl ?_ | refine W.opsD ?_ | refine W.condT rfl ?_ | refine W.condF rfl ?_)
      exact W.ret ⟨_, rfl, retB (decide_eq_true ((LS).val ha _))⟩
    · have LS := mkD_less (c := c) (E := ⟨c.entries.l.take k ++ c.entries.l.drop (k + 1), q1', 11⟩) (B := c.blocks) hLE (.inl rfl)
      have SM := mkD_small (c := c) (E := ⟨c.entries.l.take k ++ c.entries.l.drop (k + 1), q1', 11⟩) (B := c.blocks) sm1 hSE (.inl rfl)
      have QE := purE (q := q1') hk G1
      repeat (first | refine W.seq ?_ | refine W.ops ?_ | refine WL.off rfl rfl ?_ | refine WL.val rfl rfl rfl ?_ | refine WL.nil ?_ | refine W.block ?_ | refine W.outBlock ?_ | refine W.skip ?_ | refine W.exit rfl ?_ | refine WL.box rfl rfl rfl ?_ | refine W.opsD ?_ | refine W.condT rfl ?_ | refine W.condF rfl ?_)
      refine WL.view rfl rfl rfl (ofc_c c sm1) rfl rfl ?_
      obtain ⟨v, w, ev, ew, hvw⟩ := of_less LS rfl sm1.sn ha
      rw [ev]
      repeat (first | refine W.seq ?_ | refine W.ops ?_ | refine WL.off rfl rfl ?_ | refine WL.val rfl rfl rfl ?_ | refine WL.nil ?_ | refine W.block ?_ | refine W.outBlock ?_ | refine W.skip ?_ | refine W.exit rfl ?_ | refine WL.box rfl rfl rfl ?_ | refine W.opsD ?_ | refine W.condT rfl ?_ | refine W.condF rfl ?_)
      refine WL.view rfl rfl (mapO_cons (mkD_pur (c := c) (B := c.blocks) (y := c.blocks.av 2 Block.enc) QE rfl) rfl) (ofc_c _ SM) rfl rfl ?_
      rw [ew]
      repeat (first | refine W.seq ?_ | refine W.ops ?_ | refine WL.off rfl rfl ?_ | refine WL.val rfl rfl rfl ?_ | refine WL.nil ?_ | refine W.block ?_ | refine W.outBlock ?_ | refine W.skip ?_ | refine W.exit rfl ?_ | refine WL.box rfl rfl rfl ?_ | refine W.opsD ?_ | refine W.condT rfl ?_ | refine W.condF rfl ?_)
      refine W.condS rfl (fun g5 => ?_) (fun g5 => ?_)
      · have g5' : v < w := of_decide_eq_true g5
        omega
      repeat (first | refine W.seq ?_ | refine W.ops ?_ | refine WL.off rfl rfl ?_ | refine WL.val rfl rfl rfl ?_ | refine WL.nil ?_ | refine W.block ?_ | refine W.outBlock ?_ | refine W.skip ?_ | refine W.exit rfl ?_ | refine WL.box rfl rfl rfl ?_ | refine W.opsD ?_ | refine W.condT rfl ?_ | refine W.condF rfl ?_)
      refine WL.view rfl rfl rfl (group_c c sm1 id) rfl rfl ?_
      rw [hb]
      repeat (first | refine W.seq ?_ | refine W.ops ?_ | refine WL.off rfl rfl ?_ | refine WL.val rfl rfl rfl ?_ | refine WL.nil ?_ | refine W.block ?_ | refine W.outBlock ?_ | refine W.skip ?_ | refine W.exit rfl ?_ | refine WL.box rfl rfl rfl ?_ | refine W.opsD ?_ | refine W.condT rfl ?_ | refine W.condF rfl ?_)
      refine WL.view rfl rfl (mapO_cons (mkD_pur (c := c) (B := c.blocks) (y := c.blocks.av 2 Block.enc) QE rfl) rfl) (group_c _ SM id) rfl rfl ?_
      rw [bnd_acy ((LS).acy ha)]
      repeat (first | refine W.seq ?_ | refine W.ops ?_ | refine WL.off rfl rfl ?_ | refine WL.val rfl rfl rfl ?_ | refine WL.nil ?_ | refine W.block ?_ | refine W.outBlock ?_ | refine W.skip ?_ | refine W.exit rfl ?_ | refine WL.box rfl rfl rfl ?_ | refine W.opsD ?_ | refine W.condT rfl ?_ | refine W.condF rfl ?_)
      exact W.ret ⟨_, rfl, retB (decide_eq_true ((LS).val ha _))⟩
  · repeat (first | refine W.seq ?_ | refine W.ops ?_ | refine WL.off rfl rfl ?_ | refine WL.val rfl rfl rfl ?_ | refine WL.nil ?_ | refine W.block ?_ | refine W.outBlock ?_ | refine W.skip ?_ | refine W.exit rfl ?_ | refine WL.box rfl rfl rfl ?_ | refine W.opsD ?_ | refine W.condT rfl ?_ | refine W.condF rfl ?_)
    refine W.condS rfl (fun g4 => ?_) (fun g4 => ?_)
    · have hn2 : 0 < c.blocks.l.length := by simpa using g4
      obtain ⟨k2, hk2, ek2, ez2⟩ := idx_rem j hn2 (by omega)
      repeat (first | refine W.seq ?_ | refine W.ops ?_ | refine WL.off rfl rfl ?_ | refine WL.val rfl rfl rfl ?_ | refine WL.nil ?_ | refine W.block ?_ | refine W.outBlock ?_ | refine W.skip ?_ | refine W.exit rfl ?_ | refine WL.box rfl rfl rfl ?_ | refine W.opsD ?_ | refine W.condT rfl ?_ | refine W.condF rfl ?_)
      refine WL.val rfl (aop_rem rfl rfl ez2) rfl ?_
      repeat (first | refine W.seq ?_ | refine W.ops ?_ | refine WL.off rfl rfl ?_ | refine WL.val rfl rfl rfl ?_ | refine WL.nil ?_ | refine W.block ?_ | refine W.outBlock ?_ | refine W.skip ?_ | refine W.exit rfl ?_ | refine WL.box rfl rfl rfl ?_ | refine W.opsD ?_ | refine W.condT rfl ?_ | refine W.condF rfl ?_ | refine WL.heap rfl rfl rfl ?_)
      refine WL.appP (cs := []) [(6, 0)] rfl rfl rfl (by rw [Heap.get_put, if_pos rfl]; rfl) rfl (sub_all _ _ (flat_len (k := 2) (fun _ => rfl) _)) (ones_flat (fun _ => rfl) _) (by omega) (List.mem_singleton.2 rfl) rfl ?_
      intro o2 q2 H2 G2 M2 W2
      repeat (first | refine W.seq ?_ | refine W.ops ?_ | refine WL.off rfl rfl ?_ | refine WL.val rfl rfl rfl ?_ | refine WL.nil ?_ | refine W.block ?_ | refine W.outBlock ?_ | refine W.skip ?_ | refine W.exit rfl ?_ | refine WL.box rfl rfl rfl ?_ | refine W.opsD ?_ | refine W.condT rfl ?_ | refine W.condF rfl ?_)
      refine WL.val rfl (aop_iaddr_p rfl rfl hk2 ek2) rfl ?_
      repeat (first | refine W.seq ?_ | refine W.ops ?_ | refine WL.off rfl rfl ?_ | refine WL.val rfl rfl rfl ?_ | refine WL.nil ?_ | refine W.block ?_ | refine W.outBlock ?_ | refine W.skip ?_ | refine W.exit rfl ?_ | refine WL.box rfl rfl rfl ?_ | refine W.opsD ?_ | refine W.condT rfl ?_ | refine W.condF rfl ?_)
      refine WL.val rfl (aop_load_el (enc := Block.enc) (o := 0) rfl (fun _ => rfl) hk2 (by decide) rfl) rfl ?_
      repeat (first | refine W.seq ?_ | refine W.ops ?_ | refine WL.off rfl rfl ?_ | refine WL.val rfl rfl rfl ?_ | refine WL.nil ?_ | refine W.block ?_ | refine W.outBlock ?_ | refine W.skip ?_ | refine W.exit rfl ?_ | refine WL.box rfl rfl rfl ?_ | refine W.opsD ?_ | refine W.condT rfl ?_ | refine W.condF rfl ?_)
      refine WL.val rfl (aop_iaddr_h rfl rfl (show k2 < 0 + c.blocks.l.length by omega) ek2) rfl ?_
      rw [List.nil_append] at G2
      refine WL.heap rfl (aop_store_h rfl rfl rfl rfl G2 (by rw [Nat.zero_add]; exact upd_flat (k := 2) (fun _ => rfl) _ hk2 rfl)) rfl ?_
      have QB := purB (h := H2.put o2 (.cells ((c.blocks.l.take k2).flatMap Block.enc ++ [AV.int .i64 c.blocks.l[k2].id, AV.nils] ++ (c.blocks.l.drop (k2 + 1)).flatMap Block.enc))) (q := q2) hk2 (by rw [Heap.get_put, if_pos rfl])
      have eB : (⟨c.blocks.l.set k2 (nob c.blocks.l[k2].id), q2, 2⟩ : Sl Block).l = c.blocks.l ∨ ∃ k, ∃ hk : k < c.blocks.l.length, (⟨c.blocks.l.set k2 (nob c.blocks.l[k2].id), q2, 2⟩ : Sl Block).l = c.blocks.l.set k (nob c.blocks.l[k].id) := .inr ⟨k2, hk2, rfl⟩
      have LS := mkD_less (c := c) (E := c.entries) (fun x hx => hx) eB
      have SM := mkD_small (c := c) (E := c.entries) sm1 sm1.se eB
      have QE : AM.pur 39 (H2.put o2 (.cells ((c.blocks.l.take k2).flatMap Block.enc ++ [AV.int .i64 c.blocks.l[k2].id, AV.nils] ++ (c.blocks.l.drop (k2 + 1)).flatMap Block.enc))) (c.entries.av 11 Entry.enc) = some (c.entries.av 11 Entry.enc) := rfl
      repeat (first | refine W.seq ?_ | refine W.ops ?_ | refine WL.off rfl rfl ?_ | refine WL.val rfl rfl rfl ?_ | refine WL.nil ?_ | refine W.block ?_ | refine W.outBlock ?_ | refine W.skip ?_ | refine W.exit rfl ?_ | refine WL.box rfl rfl rfl ?_ | refine W.opsD ?_ | refine W.condT rfl ?_ | refine W.condF rfl ?_)
      refine WL.view rfl rfl rfl (ofc_c c sm1) rfl rfl ?_
      obtain ⟨v, w, ev, ew, hvw⟩ := of_less LS rfl sm1.sn ha
      rw [ev]
      repeat (first | refine W.seq ?_ | refine W.ops ?_ | refine WL.off rfl rfl ?_ | refine WL.val rfl rfl rfl ?_ | refine WL.nil ?_ | refine W.block ?_ | refine W.outBlock ?_ | refine W.skip ?_ | refine W.exit rfl ?_ | refine WL.box rfl rfl rfl ?_ | refine W.opsD ?_ | refine W.condT rfl ?_ | refine W.condF rfl ?_)
      refine WL.view rfl rfl (mapO_cons (mkD_pur (c := c) QE QB) rfl) (ofc_c _ SM) rfl rfl ?_
      rw [ew]
      repeat (first | refine W.seq ?_ | refine W.ops ?_ | refine WL.off rfl rfl ?_ | refine WL.val rfl rfl rfl ?_ | refine WL.nil ?_ | refine W.block ?_ | refine W.outBlock ?_ | refine W.skip ?_ | refine W.exit rfl ?_ | refine WL.box rfl rfl rfl ?_ | refine W.opsD ?_ | refine W.condT rfl ?_ | refine W.condF rfl ?_)
      refine W.condS rfl (fun g5 => ?_) (fun g5 => ?_)
      · have g5' : v < w := of_decide_eq_true g5
        omega
      repeat (first | refine W.seq ?_ | refine W.ops ?_ | refine WL.off rfl rfl ?_ | refine WL.val rfl rfl rfl ?_ | refine WL.nil ?_ | refine W.block ?_ | refine W.outBlock ?_ | refine W.skip ?_ | refine W.exit rfl ?_ | refine WL.box rfl rfl rfl ?_ | refine W.opsD ?_ | refine W.condT rfl ?_ | refine W.condF rfl ?_)
      refine WL.view rfl rfl rfl (group_c c sm1 id) rfl rfl ?_
      rw [hb]
      repeat (first | refine W.seq ?_ | refine W.ops ?_ | refine WL.off rfl rfl ?_ | refine WL.val rfl rfl rfl ?_ | refine WL.nil ?_ | refine W.block ?_ | refine W.outBlock ?_ | refine W.skip ?_ | refine W.exit rfl ?_ | refine WL.box rfl rfl rfl ?_ | refine W.opsD ?_ | refine W.condT rfl ?_ | refine W.condF rfl ?_)
      refine WL.view rfl rfl (mapO_cons (mkD_pur (c := c) QE QB) rfl) (group_c _ SM id) rfl rfl ?_
      rw [bnd_acy ((LS).acy ha)]
      repeat (first | refine W.seq ?_ | refine W.ops ?_ | refine WL.off rfl rfl ?_ | refine WL.val rfl rfl rfl ?_ | refine WL.nil ?_ | refine W.block ?_ | refine W.outBlock ?_ | refine W.skip ?_ | refine W.exit rfl ?_ | refine WL.box rfl rfl rfl ?_ | refine W.opsD ?_ | refine W.condT rfl ?_ | refine W.condF rfl ?_)
      exact W.ret ⟨_, rfl, retB (decide_eq_true ((LS).val ha _))⟩
    · have LS := mkD_less (c := c) (E := c.entries) (B := c.blocks) (fun x hx => hx) (.inl rfl)
      have SM := mkD_small (c := c) (E := c.entries) (B := c.blocks) sm1 sm1.se (.inl rfl)
      have QE : AM.pur 39 Heap.empty (c.entries.av 11 Entry.enc) = some (c.entries.av 11 Entry.enc) := rfl
      repeat (first | refine W.seq ?_ | refine W.ops ?_ | refine WL.off rfl rfl ?_ | refine WL.val rfl rfl rfl ?_ | refine WL.nil ?_ | refine W.block ?_ | refine W.outBlock ?_ | refine W.skip ?_ | refine W.exit rfl ?_ | refine WL.box rfl rfl rfl ?_ | refine W.opsD ?_ | refine W.condT rfl ?_ | refine W.condF rfl ?_)
      refine WL.view rfl rfl rfl (ofc_c c sm1) rfl rfl ?_
      obtain ⟨v, w, ev, ew, hvw⟩ := of_less LS rfl sm1.sn ha
      rw [ev]
      repeat (first | refine W.seq ?_ | refine W.ops ?_ | refine WL.off rfl rfl ?_ | refine WL.val rfl rfl rfl ?_ | refine WL.nil ?_ | refine W.block ?_ | refine W.outBlock ?_ | refine W.skip ?_ | refine W.exit rfl ?_ | refine WL.box rfl rfl rfl ?_ | refine W.opsD ?_ | refine W.condT rfl ?_ | refine W.condF rfl ?_)
      refine WL.view rfl rfl (mapO_cons (mkD_pur (c := c) (B := c.blocks) (y := c.blocks.av 2 Block.enc) QE rfl) rfl) (ofc_c _ SM) rfl rfl ?_
      rw [ew]
      repeat (first | refine W.seq ?_ | refine W.ops ?_ | refine WL.off rfl rfl ?_ | refine WL.val rfl rfl rfl ?_ | refine WL.nil ?_ | refine W.block ?_ | refine W.outBlock ?_ | refine W.skip ?_ | refine W.exit rfl ?_ | refine WL.box rfl rfl rfl ?_ | refine W.opsD ?_ | refine W.condT rfl ?_ | refine W.condF rfl ?_)
      refine W.condS rfl (fun g5 => ?_) (fun g5 => ?_)
      · have g5' : v < w := of_decide_eq_true g5
        omega
      repeat (first | refine W.seq ?_ | refine W.ops ?_ | refine WL.off rfl rfl ?_ | refine WL.val rfl rfl rfl ?_ | refine WL.nil ?_ | refine W.block ?_ | refine W.outBlock ?_ | refine W.skip ?_ | refine W.exit rfl ?_ | refine WL.box rfl rfl rfl ?_ | refine W.opsD ?_ | refine W.condT rfl ?_ | refine W.condF rfl ?_)
      refine WL.view rfl rfl rfl (group_c c sm1 id) rfl rfl ?_
      rw [hb]
      repeat (first | refine W.seq ?_ | refine W.ops ?_ | refine WL.off rfl rfl ?_ | refine WL.val rfl rfl rfl ?_ | refine WL.nil ?_ | refine W.block ?_ | refine W.outBlock ?_ | refine W.skip ?_ | refine W.exit rfl ?_ | refine WL.box rfl rfl rfl ?_ | refine W.opsD ?_ | refine W.condT rfl ?_ | refine W.condF rfl ?_)
      refine WL.view rfl rfl (mapO_cons (mkD_pur (c := c) (B := c.blocks) (y := c.blocks.av 2 Block.enc) QE rfl) rfl) (group_c _ SM id) rfl rfl ?_
      rw [bnd_acy ((LS).acy ha)]
      repeat (first | refine W.seq ?_ | refine W.ops ?_ | refine WL.off rfl rfl ?_ | refine WL.val rfl rfl rfl ?_ | refine WL.nil ?_ | refine W.block ?_ | refine W.outBlock ?_ | refine W.skip ?_ | refine W.exit rfl ?_ | refine WL.box rfl rfl rfl ?_ | refine W.opsD ?_ | refine W.condT rfl ?_ | refine W.condF rfl ?_)
      exact W.ret ⟨_, rfl, retB (decide_eq_true ((LS).val ha _))⟩
end
end Go.AM.B

/- A block's first instruction, a table's blocks: what they take. -/
namespace Go.AM.B
noncomputable section
set_option linter.unusedVariables false
set_option linter.unusedSimpArgs false

theorem val_blk {c : Config} (ha : acy (solve c)) {id : Int} {b : Block} (hf : (c.blocks.l.find? fun b => b.id == id) = some b) : val (solve c) (1, id) = min over ((codeV (val (solve c)) b.code.l).getD 0 0) := by
  have e := val_is ha (1, id)
  rw [e]
  unfold comb comb0
  rw [if_neg (fun h => by cases h), if_pos rfl, solve_blk]
  unfold blkL
  rw [hf]; rfl
theorem head_13 {c : Config} (ha : acy (solve c)) {id : Int} {b : Block} {i : Instr} {r : List Instr} (hf : (c.blocks.l.find? fun b => b.id == id) = some b) (hc : b.code.l = i :: r) (ho : i.op = 13) :
    val (solve c) (1, id) = min 65537 (1 + val (solve c) (0, i.n)) := by
  rw [val_blk ha hf, hc]
  have e : over = 65537 := rfl
  have : (codeV (val (solve c)) (i :: r)).getD 0 0 = min over (1 + val (solve c) (0, i.n)) := by
    simp only [codeV, ho]; rfl
  rw [this]; omega
theorem head_14 {c : Config} (ha : acy (solve c)) {id : Int} {b : Block} {i : Instr} {r : List Instr} (hf : (c.blocks.l.find? fun b => b.id == id) = some b) (hc : b.code.l = i :: r) (ho : i.op = 14) :
    val (solve c) (1, id) = min 65537 (1 + val (solve c) (2, i.n)) := by
  rw [val_blk ha hf, hc]
  have e : over = 65537 := rfl
  have : (codeV (val (solve c)) (i :: r)).getD 0 0 = min over (1 + val (solve c) (2, i.n)) := by
    simp only [codeV, ho]; rfl
  rw [this]; omega
theorem head_end {c : Config} (ha : acy (solve c)) {id : Int} {b : Block} {i : Instr} {r : List Instr} (hf : (c.blocks.l.find? fun b => b.id == id) = some b) (hc : b.code.l = i :: r) (ho : i.op = 23 ∨ i.op = 22) :
    val (solve c) (1, id) = min 65537 (1 + 0) := by
  rw [val_blk ha hf, hc]
  have e : over = 65537 := rfl
  have : (codeV (val (solve c)) (i :: r)).getD 0 0 = min over (1 + 0) := by
    simp only [codeV, if_pos ho]; rfl
  rw [this]; omega
/-- The rest of a block, as a block of its own in its place. -/
def restD (c : Config) (id : Int) (code : Sl Instr) (q : Bool) : Config := { c with blocks := ⟨⟨id, code⟩ :: c.blocks.l, q, 2⟩ }
theorem restD_blk (c : Config) (id : Int) (code : Sl Instr) (q : Bool) (x : Int) : blkL (restD c id code q) x = if id = x then code.l else blkL c x := by
  unfold blkL restD
  dsimp only
  rw [List.find?_cons]
  by_cases h : id = x
  · subst h; simp
  · have h' : (id == x) = false := by simpa using h
    simp only [h', if_neg h]
theorem restD_tab (c : Config) (id : Int) (code : Sl Instr) (q : Bool) (x : Int) : tabL (restD c id code q) x = tabL c x := rfl
theorem restD_comb (c : Config) (id : Int) (code : Sl Instr) (q : Bool) (V : Th → Int) {x : Th} (hx : x ≠ (1, id)) : comb (solve (restD c id code q)) V x = comb (solve c) V x ∧ (solve (restD c id code q)).leads x = (solve c).leads x := by
  obtain ⟨k, y⟩ := x
  have hg : (solve (restD c id code q)).group y = (solve c).group y := by rw [solve_grp, solve_grp]; rfl
  have hb : (solve (restD c id code q)).buckets y = (solve c).buckets y := by unfold Solv.buckets; rw [hg]
  constructor
  · unfold comb comb0
    dsimp only
    rw [solve_tab, solve_tab, restD_tab, solve_has, solve_has, solve_blk, solve_blk, restD_blk, hb, hg]
    by_cases h1 : k = 1
    · subst h1
      have : id ≠ y := fun e => hx (by rw [e])
      rw [if_neg this]; rfl
    · simp only [if_neg h1]; rfl
  · unfold Solv.leads
    dsimp only
    rw [solve_tab, solve_tab, restD_tab, solve_blk, solve_blk, restD_blk, hb]
    by_cases h1 : k = 1
    · subst h1
      have : id ≠ y := fun e => hx (by rw [e])
      rw [if_neg this]
    · have h1' : (k == 1) = false := by simpa using h1
      simp only [h1', Bool.false_eq_true, if_false]
theorem restD_acy {c : Config} (ha : acy (solve c)) {id : Int} {b : Block} {i : Instr} {code : Sl Instr} (q : Bool) (hf : (c.blocks.l.find? fun b => b.id == id) = some b) (hc : b.code.l = i :: code.l) : acy (solve (restD c id code q)) := by
  refine acy_mono (fun x y hy => ?_) ha
  by_cases h : x = (1, id)
  · subst h
    rw [leads_1, solve_blk, restD_blk, if_pos rfl] at hy
    rw [leads_1, solve_blk]
    unfold blkL
    rw [hf]
    show y ∈ b.code.l.flatMap instrLead
    rw [hc, List.flatMap_cons]
    exact List.mem_append.2 (.inr hy)
  · rw [(restD_comb c id code q (fun _ => 0) h).2] at hy; exact hy
theorem restD_val {c : Config} (ha : acy (solve c)) {id : Int} {b : Block} {i : Instr} {code : Sl Instr} (q : Bool) (hf : (c.blocks.l.find? fun b => b.id == id) = some b) (hc : b.code.l = i :: code.l) :
    ∀ y, Way (solve c) (1, id) y → val (solve (restD c id code q)) y = val (solve c) y := by
  have had := restD_acy ha q hf hc
  intro y
  induction ha y with
  | intro y _ ih =>
    intro hw
    have hne : y ≠ (1, id) := fun e => Way.not_self (ha (1, id)) (e ▸ hw)
    obtain ⟨e1, e2⟩ := restD_comb c id code q (val (solve (restD c id code q))) hne
    rw [val_is had y, val_is ha y, e1]
    exact comb_congr fun z hz => ih z hz (.more hw hz)
theorem head_rest {c : Config} (ha : acy (solve c)) {id : Int} {b : Block} {i : Instr} {code : Sl Instr} (q : Bool) (hf : (c.blocks.l.find? fun b => b.id == id) = some b) (hc : b.code.l = i :: code.l)
    (h12 : i.op ≠ 12) (h13 : i.op ≠ 13) (h14 : i.op ≠ 14) (h23 : i.op ≠ 23) (h22 : i.op ≠ 22) : val (solve c) (1, id) = min 65537 (1 + val (solve (restD c id code q)) (1, id)) := by
  have had := restD_acy ha q hf hc
  have hv := restD_val ha q hf hc
  have e : over = 65537 := rfl
  have e1 : (codeV (val (solve c)) (i :: code.l)).getD 0 0 = min over (1 + (codeV (val (solve c)) code.l).getD 0 0) := by
    have n1 : ¬ (i.op = 23 ∨ i.op = 22) := by omega
    have n2 : ¬ (i.op = 12 ∧ 0 ≤ i.n ∧ i.n < code.l.length) := by omega
    simp only [codeV, if_neg n1, if_neg h13, if_neg h14, if_neg n2]; rfl
  have e2 : val (solve (restD c id code q)) (1, id) = min over ((codeV (val (solve c)) code.l).getD 0 0) := by
    rw [val_is had (1, id)]
    unfold comb comb0
    rw [if_neg (fun h => by cases h), if_pos rfl, solve_blk, restD_blk, if_pos rfl]
    rw [codeV_congr (V := val (solve (restD c id code q))) (W := val (solve c)) fun y hy => hv y (.one (by
      rw [leads_1, solve_blk]
      unfold blkL
      rw [hf]
      show y ∈ b.code.l.flatMap instrLead
      rw [hc, List.flatMap_cons]
      exact List.mem_append.2 (.inr hy)))]
  rw [val_blk ha hf, hc, e1, e2]
  omega
def entF (c : Config) (id : Int) (k : Nat) (n : Int) : Int := (((c.entries.l.take k).filter fun e => e.table == id).map fun e => val (solve c) (1, e.block)).foldl max n
theorem entF_snoc {c : Config} {id : Int} {k : Nat} {n : Int} (hk : k < c.entries.l.length) : entF c id (k + 1) n = if c.entries.l[k].table == id then max (entF c id k n) (val (solve c) (1, c.entries.l[k].block)) else entF c id k n := by
  unfold entF
  rw [List.take_succ_eq_append_getElem hk, List.filter_append, List.map_append, List.foldl_append]
  cases h : c.entries.l[k].table == id <;> simp [List.filter_cons, h]
theorem entF_bnd {c : Config} (ha : acy (solve c)) (id : Int) (k : Nat) (n : Int) (h0 : 0 ≤ n) (h1 : n ≤ 65537) : 0 ≤ entF c id k n ∧ entF c id k n ≤ 65537 := by
  have hb := val_bnd ha (val_is ha)
  refine ⟨Int.le_trans h0 (foldl_max_ge _ _).1, foldl_max_le _ _ _ h1 fun r hr => ?_⟩
  obtain ⟨e, _, rfl⟩ := List.mem_map.1 hr
  exact (hb _).2
theorem tab_all {c : Config} (ha : acy (solve c)) {id : Int} {t : Table} (hf : (c.tables.l.find? fun t => t.id == id) = some t) : val (solve c) (0, id) = min 65537 (1 + entF c id c.entries.l.length (val (solve c) (1, t.miss))) := by
  have e : over = 65537 := rfl
  have hb := val_bnd ha (val_is ha) (1, t.miss)
  rw [val_is ha (0, id)]
  unfold comb comb0 entF
  rw [if_pos rfl, solve_has, hf, if_pos (show (some t).isSome = true from rfl)]
  dsimp only
  rw [solve_tab]
  unfold tabL
  rw [hf, List.take_length]
  have : max 0 (val (solve c) (1, t.miss)) = val (solve c) (1, t.miss) := by omega
  simp only [List.map_cons, List.map_map, List.foldl_cons, this]
  have e2 : (List.map ((fun b => val (solve c) (1, b)) ∘ fun x => x.block) (List.filter (fun e => e.table == id) c.entries.l)) = List.map (fun e => val (solve c) (1, e.block)) (List.filter (fun e => e.table == id) c.entries.l) := rfl
  rw [e2, e]
  omega
end
end Go.AM.B

/- The law BoundParts. -/
namespace Go.AM.B
open Go.Proofs.Ytebogdeaiecldaa.Tab
noncomputable section
set_option linter.unusedVariables false
set_option linter.unusedSimpArgs false
set_option maxHeartbeats 4000000

theorem restD_small {c : Config} (sm : Small c) (m : n0 c ≤ 60) {id : Int} {code : Sl Instr} {q : Bool} (h : code.l.length < 100000) : Small (restD c id code q) := by
  unfold n0 at m
  refine ⟨sm.sn, sm.sa, sm.st, sm.se, ?_, sm.sg, ?_, sm.sk⟩
  · show (_ :: c.blocks.l).length < _
    rw [List.length_cons]; omega
  · intro x hx
    rcases List.mem_cons.1 hx with rfl | hx
    · exact h
    · exact sm.sc x hx
theorem restD_pur {c : Config} {id : Int} {code : Sl Instr} {q : Bool} {h : Heap} {o : AM.Id} (he : code.e = 7) (hg : h.get o = some (.cells ([AV.int .i64 id, AV.pslice (code.l.flatMap Instr.enc) code.l.length 7 code.clip] ++ c.blocks.l.flatMap Block.enc))) :
    AM.pur purLimit h (.agg [c.nodes.av 9 Node.enc, c.fields.av 5 Field.enc, c.tables.av 5 Table.enc, c.entries.av 11 Entry.enc, .slice o 0 (1 + c.blocks.l.length) 2 q, c.groups.av 4 Group.enc, c.meters.av 3 Meter.enc, c.regs.av 2 Regs.enc, c.counters.av 1 encI]) = some (.agg (restD c id code q).enc) := by
  have e : [AV.int .i64 id, AV.pslice (code.l.flatMap Instr.enc) code.l.length 7 code.clip] ++ c.blocks.l.flatMap Block.enc = ((⟨id, code⟩ : Block) :: c.blocks.l).flatMap Block.enc := by
    rw [List.flatMap_cons]; unfold Block.enc Sl.av; dsimp only; rw [he]
  rw [e] at hg
  have en : 1 + c.blocks.l.length = ((⟨id, code⟩ : Block) :: c.blocks.l).length := by rw [List.length_cons]; omega
  have := pur_slice (k := 38) (clip := q) hg (flat_len (k := 2) (fun _ => rfl) _) (by
    intro a ha; obtain ⟨x, _, ha⟩ := List.mem_flatMap.1 ha; simp only [Block.enc, List.mem_cons, List.not_mem_nil, or_false] at ha; rcases ha with rfl | rfl <;> rfl)
  rw [← en] at this
  refine pur_agg (mapO_cons rfl (mapO_cons rfl (mapO_cons rfl (mapO_cons rfl (mapO_cons (this.trans ?_) (mapO_cons rfl (mapO_cons rfl (mapO_cons rfl (mapO_cons rfl rfl)))))))))
  rw [en]; rfl
theorem parts_c (c : Config) (id : Int) (hc : Config.ok c) : VC1 T 6 [.agg c.enc, .int .i64 id] (.bool true) := by
  have l1 := large_k hc
  have l3 := awake_c
  refine VC1.of (vf := v6) rfl rfl ?_
  unfold v6
  repeat (first | refine W.seq ?_ | refine W.ops ?_ | refine WL.off rfl rfl ?_ | refine WL.val rfl rfl rfl ?_ | refine WL.nil ?_ | refine W.block ?_ | refine W.outBlock ?_ | refine W.skip ?_ | refine W.exit rfl ?_ | refine WL.box rfl rfl rfl ?_ | refine W.opsD ?_ | refine W.condT rfl ?_ | refine W.condF rfl ?_)
  refine WL.view rfl rfl rfl l1 rfl rfl ?_
  repeat (first | refine W.seq ?_ | refine W.ops ?_ | refine WL.off rfl rfl ?_ | refine WL.val rfl rfl rfl ?_ | refine WL.nil ?_ | refine W.block ?_ | refine W.outBlock ?_ | refine W.skip ?_ | refine W.exit rfl ?_ | refine WL.box rfl rfl rfl ?_ | refine W.opsD ?_ | refine W.condT rfl ?_ | refine W.condF rfl ?_)
  refine WL.splitG rfl (fun g1 => ?_) (fun g1 => ?_)
  · repeat (first | refine W.seq ?_ | refine W.ops ?_ | refine WL.off rfl rfl ?_ | refine WL.val rfl rfl rfl ?_ | refine WL.nil ?_ | refine W.block ?_ | refine W.outBlock ?_ | refine W.skip ?_ | refine W.exit rfl ?_ | refine WL.box rfl rfl rfl ?_ | refine W.opsD ?_ | refine W.condT rfl ?_ | refine W.condF rfl ?_)
    refine WL.view rfl rfl rfl l3 rfl rfl ?_
    repeat (first | refine W.seq ?_ | refine W.ops ?_ | refine WL.off rfl rfl ?_ | refine WL.val rfl rfl rfl ?_ | refine WL.nil ?_ | refine W.block ?_ | refine W.outBlock ?_ | refine W.skip ?_ | refine W.exit rfl ?_ | refine WL.box rfl rfl rfl ?_ | refine W.opsD ?_ | refine W.condT rfl ?_ | refine W.condF rfl ?_)
    exact W.ret ⟨_, rfl, rfl⟩
  obtain ⟨sm1, m1⟩ := large_small g1
  repeat (first | refine W.seq ?_ | refine W.ops ?_ | refine WL.off rfl rfl ?_ | refine WL.val rfl rfl rfl ?_ | refine WL.nil ?_ | refine W.block ?_ | refine W.outBlock ?_ | refine W.skip ?_ | refine W.exit rfl ?_ | refine WL.box rfl rfl rfl ?_ | refine W.opsD ?_ | refine W.condT rfl ?_ | refine W.condF rfl ?_)
  refine WL.view rfl rfl rfl (cyc_c c sm1) rfl rfl ?_
  repeat (first | refine W.seq ?_ | refine W.ops ?_ | refine WL.off rfl rfl ?_ | refine WL.val rfl rfl rfl ?_ | refine WL.nil ?_ | refine W.block ?_ | refine W.outBlock ?_ | refine W.skip ?_ | refine W.exit rfl ?_ | refine WL.box rfl rfl rfl ?_ | refine W.opsD ?_ | refine W.condT rfl ?_ | refine W.condF rfl ?_)
  refine WL.splitG rfl (fun g2 => ?_) (fun g2 => ?_)
  · repeat (first | refine W.seq ?_ | refine W.ops ?_ | refine WL.off rfl rfl ?_ | refine WL.val rfl rfl rfl ?_ | refine WL.nil ?_ | refine W.block ?_ | refine W.outBlock ?_ | refine W.skip ?_ | refine W.exit rfl ?_ | refine WL.box rfl rfl rfl ?_ | refine W.opsD ?_ | refine W.condT rfl ?_ | refine W.condF rfl ?_)
    refine WL.view rfl rfl rfl l3 rfl rfl ?_
    repeat (first | refine W.seq ?_ | refine W.ops ?_ | refine WL.off rfl rfl ?_ | refine WL.val rfl rfl rfl ?_ | refine WL.nil ?_ | refine W.block ?_ | refine W.outBlock ?_ | refine W.skip ?_ | refine W.exit rfl ?_ | refine WL.box rfl rfl rfl ?_ | refine W.opsD ?_ | refine W.condT rfl ?_ | refine W.condF rfl ?_)
    exact W.ret ⟨_, rfl, rfl⟩
  have ha := acy_of g2
  repeat (first | refine W.seq ?_ | refine W.ops ?_ | refine WL.off rfl rfl ?_ | refine WL.val rfl rfl rfl ?_ | refine WL.nil ?_ | refine W.block ?_ | refine W.outBlock ?_ | refine W.skip ?_ | refine W.exit rfl ?_ | refine WL.box rfl rfl rfl ?_ | refine W.opsD ?_ | refine W.condT rfl ?_ | refine W.condF rfl ?_)
  refine WL.view rfl rfl rfl l3 rfl rfl ?_
  repeat (first | refine W.seq ?_ | refine W.ops ?_ | refine WL.off rfl rfl ?_ | refine WL.val rfl rfl rfl ?_ | refine WL.nil ?_ | refine W.block ?_ | refine W.outBlock ?_ | refine W.skip ?_ | refine W.exit rfl ?_ | refine WL.box rfl rfl rfl ?_ | refine W.opsD ?_ | refine W.condT rfl ?_ | refine W.condF rfl ?_)
  have m1' := m1
  unfold n0 at m1'
  have hb : ∀ x, bnd (solve c) x = (val (solve c) x, 0) := fun x => by simp [bnd, ha]
  have hv := val_bnd ha (val_is ha)
  refine W.loopE (E0 := envOf [(1, _), (2, _), (5, _)]) rfl (β := Nat) (fun b => [(5, .v (.int .i64 b))])
    (fun b h n => b ≤ c.blocks.l.length ∧ ∀ j (k : j < c.blocks.l.length), j < b → (c.blocks.l[j].id == id) = false) (fun b => c.blocks.l.length - b) 0 rfl ⟨by simp, fun j k h => by omega⟩ ?_
  rintro i h n ⟨hi, hf⟩ ih
  repeat (first | refine W.seq ?_ | refine W.ops ?_ | refine WL.off rfl rfl ?_ | refine WL.val rfl rfl rfl ?_ | refine WL.nil ?_ | refine W.block ?_ | refine W.outBlock ?_ | refine W.skip ?_ | refine W.exit rfl ?_ | refine WL.box rfl rfl rfl ?_ | refine W.opsD ?_ | refine W.condT rfl ?_ | refine W.condF rfl ?_)
  refine W.condS rfl (fun hb2 => ?_) (fun hb2 => ?_)
  · have hlt : i < c.blocks.l.length := by simpa using hb2
    repeat (first | refine W.seq ?_ | refine W.ops ?_ | refine WL.off rfl rfl ?_ | refine WL.val rfl rfl rfl ?_ | refine WL.nil ?_ | refine W.block ?_ | refine W.outBlock ?_ | refine W.skip ?_ | refine W.exit rfl ?_ | refine WL.box rfl rfl rfl ?_ | refine W.opsD ?_ | refine W.condT rfl ?_ | refine W.condF rfl ?_)
    refine WL.val rfl (aop_iaddr_p rfl rfl hlt) rfl ?_
    repeat (first | refine W.seq ?_ | refine W.ops ?_ | refine WL.off rfl rfl ?_ | refine WL.val rfl rfl rfl ?_ | refine WL.nil ?_ | refine W.block ?_ | refine W.outBlock ?_ | refine W.skip ?_ | refine W.exit rfl ?_ | refine WL.box rfl rfl rfl ?_ | refine W.opsD ?_ | refine W.condT rfl ?_ | refine W.condF rfl ?_)
    refine WL.val rfl (aop_load_el (enc := Block.enc) (o := 1) rfl (fun _ => rfl) hlt (by decide) rfl) rfl ?_
    repeat (first | refine W.seq ?_ | refine W.ops ?_ | refine WL.off rfl rfl ?_ | refine WL.val rfl rfl rfl ?_ | refine WL.nil ?_ | refine W.block ?_ | refine W.outBlock ?_ | refine W.skip ?_ | refine W.exit rfl ?_ | refine WL.box rfl rfl rfl ?_ | refine W.opsD ?_ | refine W.condT rfl ?_ | refine W.condF rfl ?_)
    refine WL.val rfl (aop_iaddr_p rfl rfl hlt) rfl ?_
    repeat (first | refine W.seq ?_ | refine W.ops ?_ | refine WL.off rfl rfl ?_ | refine WL.val rfl rfl rfl ?_ | refine WL.nil ?_ | refine W.block ?_ | refine W.outBlock ?_ | refine W.skip ?_ | refine W.exit rfl ?_ | refine WL.box rfl rfl rfl ?_ | refine W.opsD ?_ | refine W.condT rfl ?_ | refine W.condF rfl ?_)
    refine WL.val rfl (aop_load_el (enc := Block.enc) (o := 0) rfl (fun _ => rfl) hlt (by decide) rfl) rfl ?_
    repeat (first | refine W.seq ?_ | refine W.ops ?_ | refine WL.off rfl rfl ?_ | refine WL.val rfl rfl rfl ?_ | refine WL.nil ?_ | refine W.block ?_ | refine W.outBlock ?_ | refine W.skip ?_ | refine W.exit rfl ?_ | refine WL.box rfl rfl rfl ?_ | refine W.opsD ?_ | refine W.condT rfl ?_ | refine W.condF rfl ?_)
    refine W.condS rfl (fun g3 => ?_) (fun g3 => ?_)
    · have g3' : (c.blocks.l[i].id == id) = false := by simpa using g3
      repeat (first | refine W.seq ?_ | refine W.ops ?_ | refine WL.off rfl rfl ?_ | refine WL.val rfl rfl rfl ?_ | refine WL.nil ?_ | refine W.block ?_ | refine W.outBlock ?_ | refine W.skip ?_ | refine W.exit rfl ?_ | refine WL.box rfl rfl rfl ?_ | refine W.opsD ?_ | refine W.condT rfl ?_ | refine W.condF rfl ?_)
      refine ih (i + 1) _ _ _ ⟨hlt, fun j k hj => ?_⟩ (by omega) (by rw [← wrap64_nat (k := i) (by omega)]; rfl)
      by_cases e : j = i
      · subst e; exact g3'
      · exact hf j k (by omega)
    clear ih
    have g3' : (c.blocks.l[i].id == id) = true := by simpa using g3
    have hfi := find_first (p := fun g : Block => g.id == id) hlt hf g3'
    clear hf
    repeat (first | refine W.seq ?_ | refine W.ops ?_ | refine WL.off rfl rfl ?_ | refine WL.val rfl rfl rfl ?_ | refine WL.nil ?_ | refine W.block ?_ | refine W.outBlock ?_ | refine W.skip ?_ | refine W.exit rfl ?_ | refine WL.box rfl rfl rfl ?_ | refine W.opsD ?_ | refine W.condT rfl ?_ | refine W.condF rfl ?_)
    refine WL.splitG rfl (fun g4 => ?_) (fun g4 => ?_)
    · repeat (first | refine W.seq ?_ | refine W.ops ?_ | refine WL.off rfl rfl ?_ | refine WL.val rfl rfl rfl ?_ | refine WL.nil ?_ | refine W.block ?_ | refine W.outBlock ?_ | refine W.skip ?_ | refine W.exit rfl ?_ | refine WL.box rfl rfl rfl ?_ | refine W.opsD ?_ | refine W.condT rfl ?_ | refine W.condF rfl ?_)
      refine W.loopE (E0 := envOf [(1, _), (2, _), (11, _)]) rfl (β := Nat) (fun b => [(11, .v (.int .i64 b))])
        (fun b h n => b ≤ c.tables.l.length ∧ ∀ j (k : j < c.tables.l.length), j < b → (c.tables.l[j].id == id) = false) (fun b => c.tables.l.length - b) 0 rfl ⟨by simp, fun j k h => by omega⟩ ?_
      rintro i h n ⟨hi, hf⟩ ih
      repeat (first | refine W.seq ?_ | refine W.ops ?_ | refine WL.off rfl rfl ?_ | refine WL.val rfl rfl rfl ?_ | refine WL.nil ?_ | refine W.block ?_ | refine W.outBlock ?_ | refine W.skip ?_ | refine W.exit rfl ?_ | refine WL.box rfl rfl rfl ?_ | refine W.opsD ?_ | refine W.condT rfl ?_ | refine W.condF rfl ?_)
      refine W.condS rfl (fun hb2 => ?_) (fun hb2 => ?_)
      · have hlt : i < c.tables.l.length := by simpa using hb2
        repeat (first | refine W.seq ?_ | refine W.ops ?_ | refine WL.off rfl rfl ?_ | refine WL.val rfl rfl rfl ?_ | refine WL.nil ?_ | refine W.block ?_ | refine W.outBlock ?_ | refine W.skip ?_ | refine W.exit rfl ?_ | refine WL.box rfl rfl rfl ?_ | refine W.opsD ?_ | refine W.condT rfl ?_ | refine W.condF rfl ?_)
        refine WL.val rfl (aop_iaddr_p rfl rfl hlt) rfl ?_
        repeat (first | refine W.seq ?_ | refine W.ops ?_ | refine WL.off rfl rfl ?_ | refine WL.val rfl rfl rfl ?_ | refine WL.nil ?_ | refine W.block ?_ | refine W.outBlock ?_ | refine W.skip ?_ | refine W.exit rfl ?_ | refine WL.box rfl rfl rfl ?_ | refine W.opsD ?_ | refine W.condT rfl ?_ | refine W.condF rfl ?_)
        refine WL.val rfl (aop_load_el (enc := Table.enc) (o := 0) rfl (fun _ => rfl) hlt (by decide) rfl) rfl ?_
        repeat (first | refine W.seq ?_ | refine W.ops ?_ | refine WL.off rfl rfl ?_ | refine WL.val rfl rfl rfl ?_ | refine WL.nil ?_ | refine W.block ?_ | refine W.outBlock ?_ | refine W.skip ?_ | refine W.exit rfl ?_ | refine WL.box rfl rfl rfl ?_ | refine W.opsD ?_ | refine W.condT rfl ?_ | refine W.condF rfl ?_)
        refine W.condS rfl (fun g3 => ?_) (fun g3 => ?_)
        · have g3' : (c.tables.l[i].id == id) = false := by simpa using g3
          repeat (first | refine W.seq ?_ | refine W.ops ?_ | refine WL.off rfl rfl ?_ | refine WL.val rfl rfl rfl ?_ | refine WL.nil ?_ | refine W.block ?_ | refine W.outBlock ?_ | refine W.skip ?_ | refine W.exit rfl ?_ | refine WL.box rfl rfl rfl ?_ | refine W.opsD ?_ | refine W.condT rfl ?_ | refine W.condF rfl ?_)
          refine ih (i + 1) _ _ _ ⟨hlt, fun j k hj => ?_⟩ (by omega) (by rw [← wrap64_nat (k := i) (by omega)]; rfl)
          by_cases e : j = i
          · subst e; exact g3'
          · exact hf j k (by omega)
        clear ih
        have g3' : (c.tables.l[i].id == id) = true := by simpa using g3
        have hfi := find_first (p := fun g : Table => g.id == id) hlt hf g3'
        repeat (first | refine W.seq ?_ | refine W.ops ?_ | refine WL.off rfl rfl ?_ | refine WL.val rfl rfl rfl ?_ | refine WL.nil ?_ | refine W.block ?_ | refine W.outBlock ?_ | refine W.skip ?_ | refine W.exit rfl ?_ | refine WL.box rfl rfl rfl ?_ | refine W.opsD ?_ | refine W.condT rfl ?_ | refine W.condF rfl ?_)
        refine WL.view rfl rfl rfl (table_c c sm1 id) rfl rfl ?_
        rw [hb]
        repeat (first | refine W.seq ?_ | refine W.ops ?_ | refine WL.off rfl rfl ?_ | refine WL.val rfl rfl rfl ?_ | refine WL.nil ?_ | refine W.block ?_ | refine W.outBlock ?_ | refine W.skip ?_ | refine W.exit rfl ?_ | refine WL.box rfl rfl rfl ?_ | refine W.opsD ?_ | refine W.condT rfl ?_ | refine W.condF rfl ?_)
        refine WL.val rfl (aop_iaddr_p rfl rfl hlt) rfl ?_
        repeat (first | refine W.seq ?_ | refine W.ops ?_ | refine WL.off rfl rfl ?_ | refine WL.val rfl rfl rfl ?_ | refine WL.nil ?_ | refine W.block ?_ | refine W.outBlock ?_ | refine W.skip ?_ | refine W.exit rfl ?_ | refine WL.box rfl rfl rfl ?_ | refine W.opsD ?_ | refine W.condT rfl ?_ | refine W.condF rfl ?_)
        refine WL.val rfl (aop_load_el (enc := Table.enc) (o := 4) rfl (fun _ => rfl) hlt (by decide) rfl) rfl ?_
        repeat (first | refine W.seq ?_ | refine W.ops ?_ | refine WL.off rfl rfl ?_ | refine WL.val rfl rfl rfl ?_ | refine WL.nil ?_ | refine W.block ?_ | refine W.outBlock ?_ | refine W.skip ?_ | refine W.exit rfl ?_ | refine WL.box rfl rfl rfl ?_ | refine W.opsD ?_ | refine W.condT rfl ?_ | refine W.condF rfl ?_)
        refine WL.view rfl rfl rfl (block_c c sm1 _) rfl rfl ?_
        rw [hb]
        repeat (first | refine W.seq ?_ | refine W.ops ?_ | refine WL.off rfl rfl ?_ | refine WL.val rfl rfl rfl ?_ | refine WL.nil ?_ | refine W.block ?_ | refine W.outBlock ?_ | refine W.skip ?_ | refine W.exit rfl ?_ | refine WL.box rfl rfl rfl ?_ | refine W.opsD ?_ | refine W.condT rfl ?_ | refine W.condF rfl ?_)
        refine W.loopE (E0 := envOf [(1, _), (2, _), (12, _), (14, _), (16, _)]) rfl (β := Nat) (fun b => [(14, .v (.int .i64 (entF c id b (val (solve c) (1, c.tables.l[i].miss))))), (16, .v (.int .i64 b))])
          (fun b h n => b ≤ c.entries.l.length) (fun b => c.entries.l.length - b) 0 rfl (by simp) ?_
        rintro j h n hj ih
        have hmx := hv (1, c.tables.l[i].miss)
        repeat (first | refine W.seq ?_ | refine W.ops ?_ | refine WL.off rfl rfl ?_ | refine WL.val rfl rfl rfl ?_ | refine WL.nil ?_ | refine W.block ?_ | refine W.outBlock ?_ | refine W.skip ?_ | refine W.exit rfl ?_ | refine WL.box rfl rfl rfl ?_ | refine W.opsD ?_ | refine W.condT rfl ?_ | refine W.condF rfl ?_)
        refine W.condS rfl (fun hb3 => ?_) (fun hb3 => ?_)
        · have hlj : j < c.entries.l.length := by simpa using hb3
          repeat (first | refine W.seq ?_ | refine W.ops ?_ | refine WL.off rfl rfl ?_ | refine WL.val rfl rfl rfl ?_ | refine WL.nil ?_ | refine W.block ?_ | refine W.outBlock ?_ | refine W.skip ?_ | refine W.exit rfl ?_ | refine WL.box rfl rfl rfl ?_ | refine W.opsD ?_ | refine W.condT rfl ?_ | refine W.condF rfl ?_)
          refine WL.val rfl (aop_iaddr_p rfl rfl hlj) rfl ?_
          repeat (first | refine W.seq ?_ | refine W.ops ?_ | refine WL.off rfl rfl ?_ | refine WL.val rfl rfl rfl ?_ | refine WL.nil ?_ | refine W.block ?_ | refine W.outBlock ?_ | refine W.skip ?_ | refine W.exit rfl ?_ | refine WL.box rfl rfl rfl ?_ | refine W.opsD ?_ | refine W.condT rfl ?_ | refine W.condF rfl ?_)
          refine WL.val rfl (aop_load_el (enc := Entry.enc) (o := 0) rfl (fun _ => rfl) hlj (by decide) rfl) rfl ?_
          repeat (first | refine W.seq ?_ | refine W.ops ?_ | refine WL.off rfl rfl ?_ | refine WL.val rfl rfl rfl ?_ | refine WL.nil ?_ | refine W.block ?_ | refine W.outBlock ?_ | refine W.skip ?_ | refine W.exit rfl ?_ | refine WL.box rfl rfl rfl ?_ | refine W.opsD ?_ | refine W.condT rfl ?_ | refine W.condF rfl ?_)
          refine W.condS rfl (fun g4 => ?_) (fun g4 => ?_)
          · have g4' : (c.entries.l[j].table == id) = true := by simpa using g4
            repeat (first | refine W.seq ?_ | refine W.ops ?_ | refine WL.off rfl rfl ?_ | refine WL.val rfl rfl rfl ?_ | refine WL.nil ?_ | refine W.block ?_ | refine W.outBlock ?_ | refine W.skip ?_ | refine W.exit rfl ?_ | refine WL.box rfl rfl rfl ?_ | refine W.opsD ?_ | refine W.condT rfl ?_ | refine W.condF rfl ?_)
            refine WL.val rfl (aop_iaddr_p rfl rfl hlj) rfl ?_
            repeat (first | refine W.seq ?_ | refine W.ops ?_ | refine WL.off rfl rfl ?_ | refine WL.val rfl rfl rfl ?_ | refine WL.nil ?_ | refine W.block ?_ | refine W.outBlock ?_ | refine W.skip ?_ | refine W.exit rfl ?_ | refine WL.box rfl rfl rfl ?_ | refine W.opsD ?_ | refine W.condT rfl ?_ | refine W.condF rfl ?_)
            refine WL.val rfl (aop_load_el (enc := Entry.enc) (o := 5) rfl (fun _ => rfl) hlj (by decide) rfl) rfl ?_
            repeat (first | refine W.seq ?_ | refine W.ops ?_ | refine WL.off rfl rfl ?_ | refine WL.val rfl rfl rfl ?_ | refine WL.nil ?_ | refine W.block ?_ | refine W.outBlock ?_ | refine W.skip ?_ | refine W.exit rfl ?_ | refine WL.box rfl rfl rfl ?_ | refine W.opsD ?_ | refine W.condT rfl ?_ | refine W.condF rfl ?_)
            refine WL.view rfl rfl rfl (block_c c sm1 _) rfl rfl ?_
            rw [hb]
            repeat (first | refine W.seq ?_ | refine W.ops ?_ | refine WL.off rfl rfl ?_ | refine WL.val rfl rfl rfl ?_ | refine WL.nil ?_ | refine W.block ?_ | refine W.outBlock ?_ | refine W.skip ?_ | refine W.exit rfl ?_ | refine WL.box rfl rfl rfl ?_ | refine W.opsD ?_ | refine W.condT rfl ?_ | refine W.condF rfl ?_)
            have es : max (entF c id j (val (solve c) (1, c.tables.l[i].miss))) (val (solve c) (1, c.entries.l[j].block)) = entF c id (j + 1) (val (solve c) (1, c.tables.l[i].miss)) := by rw [entF_snoc hlj, if_pos g4']
            refine ih (j + 1) _ _ _ hlj (by omega) (by rw [← wrap64_nat (k := j) (by omega), ← es]; rfl)
          · have g4' : ¬ (c.entries.l[j].table == id) = true := by simpa using g4
            repeat (first | refine W.seq ?_ | refine W.ops ?_ | refine WL.off rfl rfl ?_ | refine WL.val rfl rfl rfl ?_ | refine WL.nil ?_ | refine W.block ?_ | refine W.outBlock ?_ | refine W.skip ?_ | refine W.exit rfl ?_ | refine WL.box rfl rfl rfl ?_ | refine W.opsD ?_ | refine W.condT rfl ?_ | refine W.condF rfl ?_)
            have es : entF c id j (val (solve c) (1, c.tables.l[i].miss)) = entF c id (j + 1) (val (solve c) (1, c.tables.l[i].miss)) := by rw [entF_snoc hlj, if_neg g4']
            refine ih (j + 1) _ _ _ hlj (by omega) (by rw [← wrap64_nat (k := j) (by omega), ← es]; rfl)
        · clear ih
          have hge : j = c.entries.l.length := by simp at hb3; omega
          subst hge
          repeat (first | refine W.seq ?_ | refine W.ops ?_ | refine WL.off rfl rfl ?_ | refine WL.val rfl rfl rfl ?_ | refine WL.nil ?_ | refine W.block ?_ | refine W.outBlock ?_ | refine W.skip ?_ | refine W.exit rfl ?_ | refine WL.box rfl rfl rfl ?_ | refine W.opsD ?_ | refine W.condT rfl ?_ | refine W.condF rfl ?_)
          have he := entF_bnd ha id c.entries.l.length (val (solve c) (1, c.tables.l[i].miss)) hmx.1 hmx.2
          refine W.ret ⟨_, rfl, retB ?_⟩
          have hA := tab_all ha hfi
          have ew : IntKind.wrap .i64 (1 + entF c id c.entries.l.length (val (solve c) (1, c.tables.l[i].miss))) = 1 + entF c id c.entries.l.length (val (solve c) (1, c.tables.l[i].miss)) := wrap64 (by omega) (by omega)
          rw [ew, hA]
          simp
      · clear ih
        repeat (first | refine W.seq ?_ | refine W.ops ?_ | refine WL.off rfl rfl ?_ | refine WL.val rfl rfl rfl ?_ | refine WL.nil ?_ | refine W.block ?_ | refine W.outBlock ?_ | refine W.skip ?_ | refine W.exit rfl ?_ | refine WL.box rfl rfl rfl ?_ | refine W.opsD ?_ | refine W.condT rfl ?_ | refine W.condF rfl ?_)
        exact W.ret ⟨_, rfl, rfl⟩
    have h0 : 0 < c.blocks.l[i].code.l.length := by
      rcases Nat.eq_zero_or_pos c.blocks.l[i].code.l.length with e | e
      · rw [e] at g4; cases g4
      · exact e
    have hcons : c.blocks.l[i].code.l = c.blocks.l[i].code.l[0] :: c.blocks.l[i].code.l.drop 1 := List.drop_eq_getElem_cons h0
    repeat (first | refine W.seq ?_ | refine W.ops ?_ | refine WL.off rfl rfl ?_ | refine WL.val rfl rfl rfl ?_ | refine WL.nil ?_ | refine W.block ?_ | refine W.outBlock ?_ | refine W.skip ?_ | refine W.exit rfl ?_ | refine WL.box rfl rfl rfl ?_ | refine W.opsD ?_ | refine W.condT rfl ?_ | refine W.condF rfl ?_)
    refine WL.val rfl (aop_iaddr_p rfl rfl h0) rfl ?_
    repeat (first | refine W.seq ?_ | refine W.ops ?_ | refine WL.off rfl rfl ?_ | refine WL.val rfl rfl rfl ?_ | refine WL.nil ?_ | refine W.block ?_ | refine W.outBlock ?_ | refine W.skip ?_ | refine W.exit rfl ?_ | refine WL.box rfl rfl rfl ?_ | refine W.opsD ?_ | refine W.condT rfl ?_ | refine W.condF rfl ?_)
    refine WL.val rfl (aop_load_el (enc := Instr.enc) (o := 0) rfl (fun _ => rfl) h0 (by decide) rfl) rfl ?_
    repeat (first | refine W.seq ?_ | refine W.ops ?_ | refine WL.off rfl rfl ?_ | refine WL.val rfl rfl rfl ?_ | refine WL.nil ?_ | refine W.block ?_ | refine W.outBlock ?_ | refine W.skip ?_ | refine W.exit rfl ?_ | refine WL.box rfl rfl rfl ?_ | refine W.opsD ?_ | refine W.condT rfl ?_ | refine W.condF rfl ?_)
    refine W.condS rfl (fun g5 => ?_) (fun g5 => ?_)
    · repeat (first | refine W.seq ?_ | refine W.ops ?_ | refine WL.off rfl rfl ?_ | refine WL.val rfl rfl rfl ?_ | refine WL.nil ?_ | refine W.block ?_ | refine W.outBlock ?_ | refine W.skip ?_ | refine W.exit rfl ?_ | refine WL.box rfl rfl rfl ?_ | refine W.opsD ?_ | refine W.condT rfl ?_ | refine W.condF rfl ?_)
      refine W.loopE (E0 := envOf [(1, _), (2, _), (11, _)]) rfl (β := Nat) (fun b => [(11, .v (.int .i64 b))])
        (fun b h n => b ≤ c.tables.l.length ∧ ∀ j (k : j < c.tables.l.length), j < b → (c.tables.l[j].id == id) = false) (fun b => c.tables.l.length - b) 0 rfl ⟨by simp, fun j k h => by omega⟩ ?_
      rintro i h n ⟨hi, hf⟩ ih
      repeat (first | refine W.seq ?_ | refine W.ops ?_ | refine WL.off rfl rfl ?_ | refine WL.val rfl rfl rfl ?_ | refine WL.nil ?_ | refine W.block ?_ | refine W.outBlock ?_ | refine W.skip ?_ | refine W.exit rfl ?_ | refine WL.box rfl rfl rfl ?_ | refine W.opsD ?_ | refine W.condT rfl ?_ | refine W.condF rfl ?_)
      refine W.condS rfl (fun hb2 => ?_) (fun hb2 => ?_)
      · have hlt : i < c.tables.l.length := by simpa using hb2
        repeat (first | refine W.seq ?_ | refine W.ops ?_ | refine WL.off rfl rfl ?_ | refine WL.val rfl rfl rfl ?_ | refine WL.nil ?_ | refine W.block ?_ | refine W.outBlock ?_ | refine W.skip ?_ | refine W.exit rfl ?_ | refine WL.box rfl rfl rfl ?_ | refine W.opsD ?_ | refine W.condT rfl ?_ | refine W.condF rfl ?_)
        refine WL.val rfl (aop_iaddr_p rfl rfl hlt) rfl ?_
        repeat (first | refine W.seq ?_ | refine W.ops ?_ | refine WL.off rfl rfl ?_ | refine WL.val rfl rfl rfl ?_ | refine WL.nil ?_ | refine W.block ?_ | refine W.outBlock ?_ | refine W.skip ?_ | refine W.exit rfl ?_ | refine WL.box rfl rfl rfl ?_ | refine W.opsD ?_ | refine W.condT rfl ?_ | refine W.condF rfl ?_)
        refine WL.val rfl (aop_load_el (enc := Table.enc) (o := 0) rfl (fun _ => rfl) hlt (by decide) rfl) rfl ?_
        repeat (first | refine W.seq ?_ | refine W.ops ?_ | refine WL.off rfl rfl ?_ | refine WL.val rfl rfl rfl ?_ | refine WL.nil ?_ | refine W.block ?_ | refine W.outBlock ?_ | refine W.skip ?_ | refine W.exit rfl ?_ | refine WL.box rfl rfl rfl ?_ | refine W.opsD ?_ | refine W.condT rfl ?_ | refine W.condF rfl ?_)
        refine W.condS rfl (fun g3 => ?_) (fun g3 => ?_)
        · have g3' : (c.tables.l[i].id == id) = false := by simpa using g3
          repeat (first | refine W.seq ?_ | refine W.ops ?_ | refine WL.off rfl rfl ?_ | refine WL.val rfl rfl rfl ?_ | refine WL.nil ?_ | refine W.block ?_ | refine W.outBlock ?_ | refine W.skip ?_ | refine W.exit rfl ?_ | refine WL.box rfl rfl rfl ?_ | refine W.opsD ?_ | refine W.condT rfl ?_ | refine W.condF rfl ?_)
          refine ih (i + 1) _ _ _ ⟨hlt, fun j k hj => ?_⟩ (by omega) (by rw [← wrap64_nat (k := i) (by omega)]; rfl)
          by_cases e : j = i
          · subst e; exact g3'
          · exact hf j k (by omega)
        clear ih
        have g3' : (c.tables.l[i].id == id) = true := by simpa using g3
        have hfi := find_first (p := fun g : Table => g.id == id) hlt hf g3'
        repeat (first | refine W.seq ?_ | refine W.ops ?_ | refine WL.off rfl rfl ?_ | refine WL.val rfl rfl rfl ?_ | refine WL.nil ?_ | refine W.block ?_ | refine W.outBlock ?_ | refine W.skip ?_ | refine W.exit rfl ?_ | refine WL.box rfl rfl rfl ?_ | refine W.opsD ?_ | refine W.condT rfl ?_ | refine W.condF rfl ?_)
        refine WL.view rfl rfl rfl (table_c c sm1 id) rfl rfl ?_
        rw [hb]
        repeat (first | refine W.seq ?_ | refine W.ops ?_ | refine WL.off rfl rfl ?_ | refine WL.val rfl rfl rfl ?_ | refine WL.nil ?_ | refine W.block ?_ | refine W.outBlock ?_ | refine W.skip ?_ | refine W.exit rfl ?_ | refine WL.box rfl rfl rfl ?_ | refine W.opsD ?_ | refine W.condT rfl ?_ | refine W.condF rfl ?_)
        refine WL.val rfl (aop_iaddr_p rfl rfl hlt) rfl ?_
        repeat (first | refine W.seq ?_ | refine W.ops ?_ | refine WL.off rfl rfl ?_ | refine WL.val rfl rfl rfl ?_ | refine WL.nil ?_ | refine W.block ?_ | refine W.outBlock ?_ | refine W.skip ?_ | refine W.exit rfl ?_ | refine WL.box rfl rfl rfl ?_ | refine W.opsD ?_ | refine W.condT rfl ?_ | refine W.condF rfl ?_)
        refine WL.val rfl (aop_load_el (enc := Table.enc) (o := 4) rfl (fun _ => rfl) hlt (by decide) rfl) rfl ?_
        repeat (first | refine W.seq ?_ | refine W.ops ?_ | refine WL.off rfl rfl ?_ | refine WL.val rfl rfl rfl ?_ | refine WL.nil ?_ | refine W.block ?_ | refine W.outBlock ?_ | refine W.skip ?_ | refine W.exit rfl ?_ | refine WL.box rfl rfl rfl ?_ | refine W.opsD ?_ | refine W.condT rfl ?_ | refine W.condF rfl ?_)
        refine WL.view rfl rfl rfl (block_c c sm1 _) rfl rfl ?_
        rw [hb]
        repeat (first | refine W.seq ?_ | refine W.ops ?_ | refine WL.off rfl rfl ?_ | refine WL.val rfl rfl rfl ?_ | refine WL.nil ?_ | refine W.block ?_ | refine W.outBlock ?_ | refine W.skip ?_ | refine W.exit rfl ?_ | refine WL.box rfl rfl rfl ?_ | refine W.opsD ?_ | refine W.condT rfl ?_ | refine W.condF rfl ?_)
        refine W.loopE (E0 := envOf [(1, _), (2, _), (12, _), (14, _), (16, _)]) rfl (β := Nat) (fun b => [(14, .v (.int .i64 (entF c id b (val (solve c) (1, c.tables.l[i].miss))))), (16, .v (.int .i64 b))])
          (fun b h n => b ≤ c.entries.l.length) (fun b => c.entries.l.length - b) 0 rfl (by simp) ?_
        rintro j h n hj ih
        have hmx := hv (1, c.tables.l[i].miss)
        repeat (first | refine W.seq ?_ | refine W.ops ?_ | refine WL.off rfl rfl ?_ | refine WL.val rfl rfl rfl ?_ | refine WL.nil ?_ | refine W.block ?_ | refine W.outBlock ?_ | refine W.skip ?_ | refine W.exit rfl ?_ | refine WL.box rfl rfl rfl ?_ | refine W.opsD ?_ | refine W.condT rfl ?_ | refine W.condF rfl ?_)
        refine W.condS rfl (fun hb3 => ?_) (fun hb3 => ?_)
        · have hlj : j < c.entries.l.length := by simpa using hb3
          repeat (first | refine W.seq ?_ | refine W.ops ?_ | refine WL.off rfl rfl ?_ | refine WL.val rfl rfl rfl ?_ | refine WL.nil ?_ | refine W.block ?_ | refine W.outBlock ?_ | refine W.skip ?_ | refine W.exit rfl ?_ | refine WL.box rfl rfl rfl ?_ | refine W.opsD ?_ | refine W.condT rfl ?_ | refine W.condF rfl ?_)
          refine WL.val rfl (aop_iaddr_p rfl rfl hlj) rfl ?_
          repeat (first | refine W.seq ?_ | refine W.ops ?_ | refine WL.off rfl rfl ?_ | refine WL.val rfl rfl rfl ?_ | refine WL.nil ?_ | refine W.block ?_ | refine W.outBlock ?_ | refine W.skip ?_ | refine W.exit rfl ?_ | refine WL.box rfl rfl rfl ?_ | refine W.opsD ?_ | refine W.condT rfl ?_ | refine W.condF rfl ?_)
          refine WL.val rfl (aop_load_el (enc := Entry.enc) (o := 0) rfl (fun _ => rfl) hlj (by decide) rfl) rfl ?_
          repeat (first | refine W.seq ?_ | refine W.ops ?_ | refine WL.off rfl rfl ?_ | refine WL.val rfl rfl rfl ?_ | refine WL.nil ?_ | refine W.block ?_ | refine W.outBlock ?_ | refine W.skip ?_ | refine W.exit rfl ?_ | refine WL.box rfl rfl rfl ?_ | refine W.opsD ?_ | refine W.condT rfl ?_ | refine W.condF rfl ?_)
          refine W.condS rfl (fun g4 => ?_) (fun g4 => ?_)
          · have g4' : (c.entries.l[j].table == id) = true := by simpa using g4
            repeat (first | refine W.seq ?_ | refine W.ops ?_ | refine WL.off rfl rfl ?_ | refine WL.val rfl rfl rfl ?_ | refine WL.nil ?_ | refine W.block ?_ | refine W.outBlock ?_ | refine W.skip ?_ | refine W.exit rfl ?_ | refine WL.box rfl rfl rfl ?_ | refine W.opsD ?_ | refine W.condT rfl ?_ | refine W.condF rfl ?_)
            refine WL.val rfl (aop_iaddr_p rfl rfl hlj) rfl ?_
            repeat (first | refine W.seq ?_ | refine W.ops ?_ | refine WL.off rfl rfl ?_ | refine WL.val rfl rfl rfl ?_ | refine WL.nil ?_ | refine W.block ?_ | refine W.outBlock ?_ | refine W.skip ?_ | refine W.exit rfl ?_ | refine WL.box rfl rfl rfl ?_ | refine W.opsD ?_ | refine W.condT rfl ?_ | refine W.condF rfl ?_)
            refine WL.val rfl (aop_load_el (enc := Entry.enc) (o := 5) rfl (fun _ => rfl) hlj (by decide) rfl) rfl ?_
            repeat (first | refine W.seq ?_ | refine W.ops ?_ | refine WL.off rfl rfl ?_ | refine WL.val rfl rfl rfl ?_ | refine WL.nil ?_ | refine W.block ?_ | refine W.outBlock ?_ | refine W.skip ?_ | refine W.exit rfl ?_ | refine WL.box rfl rfl rfl ?_ | refine W.opsD ?_ | refine W.condT rfl ?_ | refine W.condF rfl ?_)
            refine WL.view rfl rfl rfl (block_c c sm1 _) rfl rfl ?_
            rw [hb]
            repeat (first | refine W.seq ?_ | refine W.ops ?_ | refine WL.off rfl rfl ?_ | refine WL.val rfl rfl rfl ?_ | refine WL.nil ?_ | refine W.block ?_ | refine W.outBlock ?_ | refine W.skip ?_ | refine W.exit rfl ?_ | refine WL.box rfl rfl rfl ?_ | refine W.opsD ?_ | refine W.condT rfl ?_ | refine W.condF rfl ?_)
            have es : max (entF c id j (val (solve c) (1, c.tables.l[i].miss))) (val (solve c) (1, c.entries.l[j].block)) = entF c id (j + 1) (val (solve c) (1, c.tables.l[i].miss)) := by rw [entF_snoc hlj, if_pos g4']
            refine ih (j + 1) _ _ _ hlj (by omega) (by rw [← wrap64_nat (k := j) (by omega), ← es]; rfl)
          · have g4' : ¬ (c.entries.l[j].table == id) = true := by simpa using g4
            repeat (first | refine W.seq ?_ | refine W.ops ?_ | refine WL.off rfl rfl ?_ | refine WL.val rfl rfl rfl ?_ | refine WL.nil ?_ | refine W.block ?_ | refine W.outBlock ?_ | refine W.skip ?_ | refine W.exit rfl ?_ | refine WL.box rfl rfl rfl ?_ | refine W.opsD ?_ | refine W.condT rfl ?_ | refine W.condF rfl ?_)
            have es : entF c id j (val (solve c) (1, c.tables.l[i].miss)) = entF c id (j + 1) (val (solve c) (1, c.tables.l[i].miss)) := by rw [entF_snoc hlj, if_neg g4']
            refine ih (j + 1) _ _ _ hlj (by omega) (by rw [← wrap64_nat (k := j) (by omega), ← es]; rfl)
        · clear ih
          have hge : j = c.entries.l.length := by simp at hb3; omega
          subst hge
          repeat (first | refine W.seq ?_ | refine W.ops ?_ | refine WL.off rfl rfl ?_ | refine WL.val rfl rfl rfl ?_ | refine WL.nil ?_ | refine W.block ?_ | refine W.outBlock ?_ | refine W.skip ?_ | refine W.exit rfl ?_ | refine WL.box rfl rfl rfl ?_ | refine W.opsD ?_ | refine W.condT rfl ?_ | refine W.condF rfl ?_)
          have he := entF_bnd ha id c.entries.l.length (val (solve c) (1, c.tables.l[i].miss)) hmx.1 hmx.2
          refine W.ret ⟨_, rfl, retB ?_⟩
          have hA := tab_all ha hfi
          have ew : IntKind.wrap .i64 (1 + entF c id c.entries.l.length (val (solve c) (1, c.tables.l[i].miss))) = 1 + entF c id c.entries.l.length (val (solve c) (1, c.tables.l[i].miss)) := wrap64 (by omega) (by omega)
          rw [ew, hA]
          simp
      · clear ih
        repeat (first | refine W.seq ?_ | refine W.ops ?_ | refine WL.off rfl rfl ?_ | refine WL.val rfl rfl rfl ?_ | refine WL.nil ?_ | refine W.block ?_ | refine W.outBlock ?_ | refine W.skip ?_ | refine W.exit rfl ?_ | refine WL.box rfl rfl rfl ?_ | refine W.opsD ?_ | refine W.condT rfl ?_ | refine W.condF rfl ?_)
        exact W.ret ⟨_, rfl, rfl⟩
    have g5' : c.blocks.l[i].code.l[0].op ≠ 12 := by simpa using g5
    repeat (first | refine W.seq ?_ | refine W.ops ?_ | refine WL.off rfl rfl ?_ | refine WL.val rfl rfl rfl ?_ | refine WL.nil ?_ | refine W.block ?_ | refine W.outBlock ?_ | refine W.skip ?_ | refine W.exit rfl ?_ | refine WL.box rfl rfl rfl ?_ | refine W.opsD ?_ | refine W.condT rfl ?_ | refine W.condF rfl ?_)
    refine WL.view rfl rfl rfl (block_c c sm1 id) rfl rfl ?_
    rw [hb]
    repeat (first | refine W.seq ?_ | refine W.ops ?_ | refine WL.off rfl rfl ?_ | refine WL.val rfl rfl rfl ?_ | refine WL.nil ?_ | refine W.block ?_ | refine W.outBlock ?_ | refine W.skip ?_ | refine W.exit rfl ?_ | refine WL.box rfl rfl rfl ?_ | refine W.opsD ?_ | refine W.condT rfl ?_ | refine W.condF rfl ?_)
    refine WL.val rfl (aop_iaddr_p rfl rfl h0) rfl ?_
    repeat (first | refine W.seq ?_ | refine W.ops ?_ | refine WL.off rfl rfl ?_ | refine WL.val rfl rfl rfl ?_ | refine WL.nil ?_ | refine W.block ?_ | refine W.outBlock ?_ | refine W.skip ?_ | refine W.exit rfl ?_ | refine WL.box rfl rfl rfl ?_ | refine W.opsD ?_ | refine W.condT rfl ?_ | refine W.condF rfl ?_)
    refine WL.val rfl (aop_load_el (enc := Instr.enc) (o := 0) rfl (fun _ => rfl) h0 (by decide) rfl) rfl ?_
    repeat (first | refine W.seq ?_ | refine W.ops ?_ | refine WL.off rfl rfl ?_ | refine WL.val rfl rfl rfl ?_ | refine WL.nil ?_ | refine W.block ?_ | refine W.outBlock ?_ | refine W.skip ?_ | refine W.exit rfl ?_ | refine WL.box rfl rfl rfl ?_ | refine W.opsD ?_ | refine W.condT rfl ?_ | refine W.condF rfl ?_)
    refine W.condS rfl (fun g6 => ?_) (fun g6 => ?_)
    · have g6' : c.blocks.l[i].code.l[0].op = 13 := by simpa using g6
      repeat (first | refine W.seq ?_ | refine W.ops ?_ | refine WL.off rfl rfl ?_ | refine WL.val rfl rfl rfl ?_ | refine WL.nil ?_ | refine W.block ?_ | refine W.outBlock ?_ | refine W.skip ?_ | refine W.exit rfl ?_ | refine WL.box rfl rfl rfl ?_ | refine W.opsD ?_ | refine W.condT rfl ?_ | refine W.condF rfl ?_)
      refine WL.val rfl (aop_iaddr_p rfl rfl h0) rfl ?_
      repeat (first | refine W.seq ?_ | refine W.ops ?_ | refine WL.off rfl rfl ?_ | refine WL.val rfl rfl rfl ?_ | refine WL.nil ?_ | refine W.block ?_ | refine W.outBlock ?_ | refine W.skip ?_ | refine W.exit rfl ?_ | refine WL.box rfl rfl rfl ?_ | refine W.opsD ?_ | refine W.condT rfl ?_ | refine W.condF rfl ?_)
      refine WL.val rfl (aop_load_el (enc := Instr.enc) (o := 6) rfl (fun _ => rfl) h0 (by decide) rfl) rfl ?_
      repeat (first | refine W.seq ?_ | refine W.ops ?_ | refine WL.off rfl rfl ?_ | refine WL.val rfl rfl rfl ?_ | refine WL.nil ?_ | refine W.block ?_ | refine W.outBlock ?_ | refine W.skip ?_ | refine W.exit rfl ?_ | refine WL.box rfl rfl rfl ?_ | refine W.opsD ?_ | refine W.condT rfl ?_ | refine W.condF rfl ?_)
      refine WL.view rfl rfl rfl (table_c c sm1 _) rfl rfl ?_
      rw [hb]
      repeat (first | refine W.seq ?_ | refine W.ops ?_ | refine WL.off rfl rfl ?_ | refine WL.val rfl rfl rfl ?_ | refine WL.nil ?_ | refine W.block ?_ | refine W.outBlock ?_ | refine W.skip ?_ | refine W.exit rfl ?_ | refine WL.box rfl rfl rfl ?_ | refine W.opsD ?_ | refine W.condT rfl ?_ | refine W.condF rfl ?_)
      refine W.ret ⟨_, rfl, retB ?_⟩
      have hVV := hv (0, c.blocks.l[i].code.l[0].n)
      have ew : IntKind.wrap .i64 ((1 : Int) + val (solve c) (0, c.blocks.l[i].code.l[0].n)) = (1 : Int) + val (solve c) (0, c.blocks.l[i].code.l[0].n) := wrap64 (by omega) (by omega)
      dsimp only
      rw [ew, head_13 ha hfi hcons g6']
      simp
    have g6' : c.blocks.l[i].code.l[0].op ≠ 13 := by simpa using g6
    repeat (first | refine W.seq ?_ | refine W.ops ?_ | refine WL.off rfl rfl ?_ | refine WL.val rfl rfl rfl ?_ | refine WL.nil ?_ | refine W.block ?_ | refine W.outBlock ?_ | refine W.skip ?_ | refine W.exit rfl ?_ | refine WL.box rfl rfl rfl ?_ | refine W.opsD ?_ | refine W.condT rfl ?_ | refine W.condF rfl ?_)
    refine W.condS rfl (fun g7 => ?_) (fun g7 => ?_)
    · have g7' : c.blocks.l[i].code.l[0].op = 14 := by simpa using g7
      repeat (first | refine W.seq ?_ | refine W.ops ?_ | refine WL.off rfl rfl ?_ | refine WL.val rfl rfl rfl ?_ | refine WL.nil ?_ | refine W.block ?_ | refine W.outBlock ?_ | refine W.skip ?_ | refine W.exit rfl ?_ | refine WL.box rfl rfl rfl ?_ | refine W.opsD ?_ | refine W.condT rfl ?_ | refine W.condF rfl ?_)
      refine WL.val rfl (aop_iaddr_p rfl rfl h0) rfl ?_
      repeat (first | refine W.seq ?_ | refine W.ops ?_ | refine WL.off rfl rfl ?_ | refine WL.val rfl rfl rfl ?_ | refine WL.nil ?_ | refine W.block ?_ | refine W.outBlock ?_ | refine W.skip ?_ | refine W.exit rfl ?_ | refine WL.box rfl rfl rfl ?_ | refine W.opsD ?_ | refine W.condT rfl ?_ | refine W.condF rfl ?_)
      refine WL.val rfl (aop_load_el (enc := Instr.enc) (o := 6) rfl (fun _ => rfl) h0 (by decide) rfl) rfl ?_
      repeat (first | refine W.seq ?_ | refine W.ops ?_ | refine WL.off rfl rfl ?_ | refine WL.val rfl rfl rfl ?_ | refine WL.nil ?_ | refine W.block ?_ | refine W.outBlock ?_ | refine W.skip ?_ | refine W.exit rfl ?_ | refine WL.box rfl rfl rfl ?_ | refine W.opsD ?_ | refine W.condT rfl ?_ | refine W.condF rfl ?_)
      refine WL.view rfl rfl rfl (group_c c sm1 _) rfl rfl ?_
      rw [hb]
      repeat (first | refine W.seq ?_ | refine W.ops ?_ | refine WL.off rfl rfl ?_ | refine WL.val rfl rfl rfl ?_ | refine WL.nil ?_ | refine W.block ?_ | refine W.outBlock ?_ | refine W.skip ?_ | refine W.exit rfl ?_ | refine WL.box rfl rfl rfl ?_ | refine W.opsD ?_ | refine W.condT rfl ?_ | refine W.condF rfl ?_)
      refine W.ret ⟨_, rfl, retB ?_⟩
      have hVV := hv (2, c.blocks.l[i].code.l[0].n)
      have ew : IntKind.wrap .i64 ((1 : Int) + val (solve c) (2, c.blocks.l[i].code.l[0].n)) = (1 : Int) + val (solve c) (2, c.blocks.l[i].code.l[0].n) := wrap64 (by omega) (by omega)
      dsimp only
      rw [ew, head_14 ha hfi hcons g7']
      simp
    have g7' : c.blocks.l[i].code.l[0].op ≠ 14 := by simpa using g7
    repeat (first | refine W.seq ?_ | refine W.ops ?_ | refine WL.off rfl rfl ?_ | refine WL.val rfl rfl rfl ?_ | refine WL.nil ?_ | refine W.block ?_ | refine W.outBlock ?_ | refine W.skip ?_ | refine W.exit rfl ?_ | refine WL.box rfl rfl rfl ?_ | refine W.opsD ?_ | refine W.condT rfl ?_ | refine W.condF rfl ?_)
    refine W.condS rfl (fun g8 => ?_) (fun g8 => ?_)
    · have g8' : c.blocks.l[i].code.l[0].op = 23 := by simpa using g8
      repeat (first | refine W.seq ?_ | refine W.ops ?_ | refine WL.off rfl rfl ?_ | refine WL.val rfl rfl rfl ?_ | refine WL.nil ?_ | refine W.block ?_ | refine W.outBlock ?_ | refine W.skip ?_ | refine W.exit rfl ?_ | refine WL.box rfl rfl rfl ?_ | refine W.opsD ?_ | refine W.condT rfl ?_ | refine W.condF rfl ?_)
      refine W.ret ⟨_, rfl, retB ?_⟩
      rw [head_end ha hfi hcons (.inl g8')]
      rfl
    have g8' : c.blocks.l[i].code.l[0].op ≠ 23 := by simpa using g8
    repeat (first | refine W.seq ?_ | refine W.ops ?_ | refine WL.off rfl rfl ?_ | refine WL.val rfl rfl rfl ?_ | refine WL.nil ?_ | refine W.block ?_ | refine W.outBlock ?_ | refine W.skip ?_ | refine W.exit rfl ?_ | refine WL.box rfl rfl rfl ?_ | refine W.opsD ?_ | refine W.condT rfl ?_ | refine W.condF rfl ?_)
    refine W.condS rfl (fun g9 => ?_) (fun g9 => ?_)
    · have g9' : c.blocks.l[i].code.l[0].op = 22 := by simpa using g9
      repeat (first | refine W.seq ?_ | refine W.ops ?_ | refine WL.off rfl rfl ?_ | refine WL.val rfl rfl rfl ?_ | refine WL.nil ?_ | refine W.block ?_ | refine W.outBlock ?_ | refine W.skip ?_ | refine W.exit rfl ?_ | refine WL.box rfl rfl rfl ?_ | refine W.opsD ?_ | refine W.condT rfl ?_ | refine W.condF rfl ?_)
      refine W.ret ⟨_, rfl, retB ?_⟩
      rw [head_end ha hfi hcons (.inr g9')]
      rfl
    have g9' : c.blocks.l[i].code.l[0].op ≠ 22 := by simpa using g9
    repeat (first | refine W.seq ?_ | refine W.ops ?_ | refine WL.off rfl rfl ?_ | refine WL.val rfl rfl rfl ?_ | refine WL.nil ?_ | refine W.block ?_ | refine W.outBlock ?_ | refine W.skip ?_ | refine W.exit rfl ?_ | refine WL.box rfl rfl rfl ?_ | refine W.opsD ?_ | refine W.condT rfl ?_ | refine W.condF rfl ?_)
    refine WL.slcLo (k := 7) (fun _ => rfl) rfl rfl (slcB_lo (n := 1) rfl rfl (by omega)) (by omega) rfl ?_
    intro q1
    repeat (first | refine W.seq ?_ | refine W.ops ?_ | refine WL.off rfl rfl ?_ | refine WL.val rfl rfl rfl ?_ | refine WL.nil ?_ | refine W.block ?_ | refine W.outBlock ?_ | refine W.skip ?_ | refine W.exit rfl ?_ | refine WL.box rfl rfl rfl ?_ | refine W.opsD ?_ | refine W.condT rfl ?_ | refine W.condF rfl ?_ | refine WL.heap rfl rfl rfl ?_)
    refine WL.appP (cs := [AV.int .i64 id, AV.pslice ((c.blocks.l[i].code.l.drop 1).flatMap Instr.enc) (c.blocks.l[i].code.l.drop 1).length 7 q1]) [(_, 4)] rfl rfl rfl (by rw [Heap.get_put, if_pos rfl]; rfl) rfl (sub_all _ _ (flat_len (k := 2) (fun _ => rfl) _)) (ones_flat (fun _ => rfl) _) (by omega) (List.mem_singleton.2 rfl) rfl ?_
    intro o1 k1 H1 G1 M1 W1
    repeat (first | refine W.seq ?_ | refine W.ops ?_ | refine WL.off rfl rfl ?_ | refine WL.val rfl rfl rfl ?_ | refine WL.nil ?_ | refine W.block ?_ | refine W.outBlock ?_ | refine W.skip ?_ | refine W.exit rfl ?_ | refine WL.box rfl rfl rfl ?_ | refine W.opsD ?_ | refine W.condT rfl ?_ | refine W.condF rfl ?_)
    have hr := head_rest (code := ⟨c.blocks.l[i].code.l.drop 1, q1, 7⟩) ha k1 hfi hcons g5' g6' g7' g8' g9'
    have har := restD_acy (code := ⟨c.blocks.l[i].code.l.drop 1, q1, 7⟩) ha k1 hfi hcons
    have smr := restD_small sm1 m1 (id := id) (code := ⟨c.blocks.l[i].code.l.drop 1, q1, 7⟩) (q := k1) (by
      have := sm1.sc _ (List.getElem_mem hlt)
      show (c.blocks.l[i].code.l.drop 1).length < 100000
      rw [List.length_drop]; omega)
    refine WL.view rfl rfl (mapO_cons (restD_pur rfl G1) rfl) (block_c _ smr id) rfl rfl ?_
    rw [bnd_acy har]
    repeat (first | refine W.seq ?_ | refine W.ops ?_ | refine WL.off rfl rfl ?_ | refine WL.val rfl rfl rfl ?_ | refine WL.nil ?_ | refine W.block ?_ | refine W.outBlock ?_ | refine W.skip ?_ | refine W.exit rfl ?_ | refine WL.box rfl rfl rfl ?_ | refine W.opsD ?_ | refine W.condT rfl ?_ | refine W.condF rfl ?_)
    refine W.ret ⟨_, rfl, retB ?_⟩
    have hVV := val_bnd har (val_is har) (1, id)
    have ew : IntKind.wrap .i64 (1 + val (solve (restD c id ⟨c.blocks.l[i].code.l.drop 1, q1, 7⟩ k1)) (1, id)) = 1 + val (solve (restD c id ⟨c.blocks.l[i].code.l.drop 1, q1, 7⟩ k1)) (1, id) := wrap64 (by omega) (by omega)
    rw [ew, hr]
    simp
  · clear ih hf
    repeat (first | refine W.seq ?_ | refine W.ops ?_ | refine WL.off rfl rfl ?_ | refine WL.val rfl rfl rfl ?_ | refine WL.nil ?_ | refine W.block ?_ | refine W.outBlock ?_ | refine W.skip ?_ | refine W.exit rfl ?_ | refine WL.box rfl rfl rfl ?_ | refine W.opsD ?_ | refine W.condT rfl ?_ | refine W.condF rfl ?_)
    refine W.loopE (E0 := envOf [(1, _), (2, _), (11, _)]) rfl (β := Nat) (fun b => [(11, .v (.int .i64 b))])
      (fun b h n => b ≤ c.tables.l.length ∧ ∀ j (k : j < c.tables.l.length), j < b → (c.tables.l[j].id == id) = false) (fun b => c.tables.l.length - b) 0 rfl ⟨by simp, fun j k h => by omega⟩ ?_
    rintro i h n ⟨hi, hf⟩ ih
    repeat (first | refine W.seq ?_ | refine W.ops ?_ | refine WL.off rfl rfl ?_ | refine WL.val rfl rfl rfl ?_ | refine WL.nil ?_ | refine W.block ?_ | refine W.outBlock ?_ | refine W.skip ?_ | refine W.exit rfl ?_ | refine WL.box rfl rfl rfl ?_ | refine W.opsD ?_ | refine W.condT rfl ?_ | refine W.condF rfl ?_)
    refine W.condS rfl (fun hb2 => ?_) (fun hb2 => ?_)
    · have hlt : i < c.tables.l.length := by simpa using hb2
      repeat (first | refine W.seq ?_ | refine W.ops ?_ | refine WL.off rfl rfl ?_ | refine WL.val rfl rfl rfl ?_ | refine WL.nil ?_ | refine W.block ?_ | refine W.outBlock ?_ | refine W.skip ?_ | refine W.exit rfl ?_ | refine WL.box rfl rfl rfl ?_ | refine W.opsD ?_ | refine W.condT rfl ?_ | refine W.condF rfl ?_)
      refine WL.val rfl (aop_iaddr_p rfl rfl hlt) rfl ?_
      repeat (first | refine W.seq ?_ | refine W.ops ?_ | refine WL.off rfl rfl ?_ | refine WL.val rfl rfl rfl ?_ | refine WL.nil ?_ | refine W.block ?_ | refine W.outBlock ?_ | refine W.skip ?_ | refine W.exit rfl ?_ | refine WL.box rfl rfl rfl ?_ | refine W.opsD ?_ | refine W.condT rfl ?_ | refine W.condF rfl ?_)
      refine WL.val rfl (aop_load_el (enc := Table.enc) (o := 0) rfl (fun _ => rfl) hlt (by decide) rfl) rfl ?_
      repeat (first | refine W.seq ?_ | refine W.ops ?_ | refine WL.off rfl rfl ?_ | refine WL.val rfl rfl rfl ?_ | refine WL.nil ?_ | refine W.block ?_ | refine W.outBlock ?_ | refine W.skip ?_ | refine W.exit rfl ?_ | refine WL.box rfl rfl rfl ?_ | refine W.opsD ?_ | refine W.condT rfl ?_ | refine W.condF rfl ?_)
      refine W.condS rfl (fun g3 => ?_) (fun g3 => ?_)
      · have g3' : (c.tables.l[i].id == id) = false := by simpa using g3
        repeat (first | refine W.seq ?_ | refine W.ops ?_ | refine WL.off rfl rfl ?_ | refine WL.val rfl rfl rfl ?_ | refine WL.nil ?_ | refine W.block ?_ | refine W.outBlock ?_ | refine W.skip ?_ | refine W.exit rfl ?_ | refine WL.box rfl rfl rfl ?_ | refine W.opsD ?_ | refine W.condT rfl ?_ | refine W.condF rfl ?_)
        refine ih (i + 1) _ _ _ ⟨hlt, fun j k hj => ?_⟩ (by omega) (by rw [← wrap64_nat (k := i) (by omega)]; rfl)
        by_cases e : j = i
        · subst e; exact g3'
        · exact hf j k (by omega)
      clear ih
      have g3' : (c.tables.l[i].id == id) = true := by simpa using g3
      have hfi := find_first (p := fun g : Table => g.id == id) hlt hf g3'
      repeat (first | refine W.seq ?_ | refine W.ops ?_ | refine WL.off rfl rfl ?_ | refine WL.val rfl rfl rfl ?_ | refine WL.nil ?_ | refine W.block ?_ | refine W.outBlock ?_ | refine W.skip ?_ | refine W.exit rfl ?_ | refine WL.box rfl rfl rfl ?_ | refine W.opsD ?_ | refine W.condT rfl ?_ | refine W.condF rfl ?_)
      refine WL.view rfl rfl rfl (table_c c sm1 id) rfl rfl ?_
      rw [hb]
      repeat (first | refine W.seq ?_ | refine W.ops ?_ | refine WL.off rfl rfl ?_ | refine WL.val rfl rfl rfl ?_ | refine WL.nil ?_ | refine W.block ?_ | refine W.outBlock ?_ | refine W.skip ?_ | refine W.exit rfl ?_ | refine WL.box rfl rfl rfl ?_ | refine W.opsD ?_ | refine W.condT rfl ?_ | refine W.condF rfl ?_)
      refine WL.val rfl (aop_iaddr_p rfl rfl hlt) rfl ?_
      repeat (first | refine W.seq ?_ | refine W.ops ?_ | refine WL.off rfl rfl ?_ | refine WL.val rfl rfl rfl ?_ | refine WL.nil ?_ | refine W.block ?_ | refine W.outBlock ?_ | refine W.skip ?_ | refine W.exit rfl ?_ | refine WL.box rfl rfl rfl ?_ | refine W.opsD ?_ | refine W.condT rfl ?_ | refine W.condF rfl ?_)
      refine WL.val rfl (aop_load_el (enc := Table.enc) (o := 4) rfl (fun _ => rfl) hlt (by decide) rfl) rfl ?_
      repeat (first | refine W.seq ?_ | refine W.ops ?_ | refine WL.off rfl rfl ?_ | refine WL.val rfl rfl rfl ?_ | refine WL.nil ?_ | refine W.block ?_ | refine W.outBlock ?_ | refine W.skip ?_ | refine W.exit rfl ?_ | refine WL.box rfl rfl rfl ?_ | refine W.opsD ?_ | refine W.condT rfl ?_ | refine W.condF rfl ?_)
      refine WL.view rfl rfl rfl (block_c c sm1 _) rfl rfl ?_
      rw [hb]
      repeat (first | refine W.seq ?_ | refine W.ops ?_ | refine WL.off rfl rfl ?_ | refine WL.val rfl rfl rfl ?_ | refine WL.nil ?_ | refine W.block ?_ | refine W.outBlock ?_ | refine W.skip ?_ | refine W.exit rfl ?_ | refine WL.box rfl rfl rfl ?_ | refine W.opsD ?_ | refine W.condT rfl ?_ | refine W.condF rfl ?_)
      refine W.loopE (E0 := envOf [(1, _), (2, _), (12, _), (14, _), (16, _)]) rfl (β := Nat) (fun b => [(14, .v (.int .i64 (entF c id b (val (solve c) (1, c.tables.l[i].miss))))), (16, .v (.int .i64 b))])
        (fun b h n => b ≤ c.entries.l.length) (fun b => c.entries.l.length - b) 0 rfl (by simp) ?_
      rintro j h n hj ih
      have hmx := hv (1, c.tables.l[i].miss)
      repeat (first | refine W.seq ?_ | refine W.ops ?_ | refine WL.off rfl rfl ?_ | refine WL.val rfl rfl rfl ?_ | refine WL.nil ?_ | refine W.block ?_ | refine W.outBlock ?_ | refine W.skip ?_ | refine W.exit rfl ?_ | refine WL.box rfl rfl rfl ?_ | refine W.opsD ?_ | refine W.condT rfl ?_ | refine W.condF rfl ?_)
      refine W.condS rfl (fun hb3 => ?_) (fun hb3 => ?_)
      · have hlj : j < c.entries.l.length := by simpa using hb3
        repeat (first | refine W.seq ?_ | refine W.ops ?_ | refine WL.off rfl rfl ?_ | refine WL.val rfl rfl rfl ?_ | refine WL.nil ?_ | refine W.block ?_ | refine W.outBlock ?_ | refine W.skip ?_ | refine W.exit rfl ?_ | refine WL.box rfl rfl rfl ?_ | refine W.opsD ?_ | refine W.condT rfl ?_ | refine W.condF rfl ?_)
        refine WL.val rfl (aop_iaddr_p rfl rfl hlj) rfl ?_
        repeat (first | refine W.seq ?_ | refine W.ops ?_ | refine WL.off rfl rfl ?_ | refine WL.val rfl rfl rfl ?_ | refine WL.nil ?_ | refine W.block ?_ | refine W.outBlock ?_ | refine W.skip ?_ | refine W.exit rfl ?_ | refine WL.box rfl rfl rfl ?_ | refine W.opsD ?_ | refine W.condT rfl ?_ | refine W.condF rfl ?_)
        refine WL.val rfl (aop_load_el (enc := Entry.enc) (o := 0) rfl (fun _ => rfl) hlj (by decide) rfl) rfl ?_
        repeat (first | refine W.seq ?_ | refine W.ops ?_ | refine WL.off rfl rfl ?_ | refine WL.val rfl rfl rfl ?_ | refine WL.nil ?_ | refine W.block ?_ | refine W.outBlock ?_ | refine W.skip ?_ | refine W.exit rfl ?_ | refine WL.box rfl rfl rfl ?_ | refine W.opsD ?_ | refine W.condT rfl ?_ | refine W.condF rfl ?_)
        refine W.condS rfl (fun g4 => ?_) (fun g4 => ?_)
        · have g4' : (c.entries.l[j].table == id) = true := by simpa using g4
          repeat (first | refine W.seq ?_ | refine W.ops ?_ | refine WL.off rfl rfl ?_ | refine WL.val rfl rfl rfl ?_ | refine WL.nil ?_ | refine W.block ?_ | refine W.outBlock ?_ | refine W.skip ?_ | refine W.exit rfl ?_ | refine WL.box rfl rfl rfl ?_ | refine W.opsD ?_ | refine W.condT rfl ?_ | refine W.condF rfl ?_)
          refine WL.val rfl (aop_iaddr_p rfl rfl hlj) rfl ?_
          repeat (first | refine W.seq ?_ | refine W.ops ?_ | refine WL.off rfl rfl ?_ | refine WL.val rfl rfl rfl ?_ | refine WL.nil ?_ | refine W.block ?_ | refine W.outBlock ?_ | refine W.skip ?_ | refine W.exit rfl ?_ | refine WL.box rfl rfl rfl ?_ | refine W.opsD ?_ | refine W.condT rfl ?_ | refine W.condF rfl ?_)
          refine WL.val rfl (aop_load_el (enc := Entry.enc) (o := 5) rfl (fun _ => rfl) hlj (by decide) rfl) rfl ?_
          repeat (first | refine W.seq ?_ | refine W.ops ?_ | refine WL.off rfl rfl ?_ | refine WL.val rfl rfl rfl ?_ | refine WL.nil ?_ | refine W.block ?_ | refine W.outBlock ?_ | refine W.skip ?_ | refine W.exit rfl ?_ | refine WL.box rfl rfl rfl ?_ | refine W.opsD ?_ | refine W.condT rfl ?_ | refine W.condF rfl ?_)
          refine WL.view rfl rfl rfl (block_c c sm1 _) rfl rfl ?_
          rw [hb]
          repeat (first | refine W.seq ?_ | refine W.ops ?_ | refine WL.off rfl rfl ?_ | refine WL.val rfl rfl rfl ?_ | refine WL.nil ?_ | refine W.block ?_ | refine W.outBlock ?_ | refine W.skip ?_ | refine W.exit rfl ?_ | refine WL.box rfl rfl rfl ?_ | refine W.opsD ?_ | refine W.condT rfl ?_ | refine W.condF rfl ?_)
          have es : max (entF c id j (val (solve c) (1, c.tables.l[i].miss))) (val (solve c) (1, c.entries.l[j].block)) = entF c id (j + 1) (val (solve c) (1, c.tables.l[i].miss)) := by rw [entF_snoc hlj, if_pos g4']
          refine ih (j + 1) _ _ _ hlj (by omega) (by rw [← wrap64_nat (k := j) (by omega), ← es]; rfl)
        · have g4' : ¬ (c.entries.l[j].table == id) = true := by simpa using g4
          repeat (first | refine W.seq ?_ | refine W.ops ?_ | refine WL.off rfl rfl ?_ | refine WL.val rfl rfl rfl ?_ | refine WL.nil ?_ | refine W.block ?_ | refine W.outBlock ?_ | refine W.skip ?_ | refine W.exit rfl ?_ | refine WL.box rfl rfl rfl ?_ | refine W.opsD ?_ | refine W.condT rfl ?_ | refine W.condF rfl ?_)
          have es : entF c id j (val (solve c) (1, c.tables.l[i].miss)) = entF c id (j + 1) (val (solve c) (1, c.tables.l[i].miss)) := by rw [entF_snoc hlj, if_neg g4']
          refine ih (j + 1) _ _ _ hlj (by omega) (by rw [← wrap64_nat (k := j) (by omega), ← es]; rfl)
      · clear ih
        have hge : j = c.entries.l.length := by simp at hb3; omega
        subst hge
        repeat (first | refine W.seq ?_ | refine W.ops ?_ | refine WL.off rfl rfl ?_ | refine WL.val rfl rfl rfl ?_ | refine WL.nil ?_ | refine W.block ?_ | refine W.outBlock ?_ | refine W.skip ?_ | refine W.exit rfl ?_ | refine WL.box rfl rfl rfl ?_ | refine W.opsD ?_ | refine W.condT rfl ?_ | refine W.condF rfl ?_)
        have he := entF_bnd ha id c.entries.l.length (val (solve c) (1, c.tables.l[i].miss)) hmx.1 hmx.2
        refine W.ret ⟨_, rfl, retB ?_⟩
        have hA := tab_all ha hfi
        have ew : IntKind.wrap .i64 (1 + entF c id c.entries.l.length (val (solve c) (1, c.tables.l[i].miss))) = 1 + entF c id c.entries.l.length (val (solve c) (1, c.tables.l[i].miss)) := wrap64 (by omega) (by omega)
        rw [ew, hA]
        simp
    · clear ih
      repeat (first | refine W.seq ?_ | refine W.ops ?_ | refine WL.off rfl rfl ?_ | refine WL.val rfl rfl rfl ?_ | refine WL.nil ?_ | refine W.block ?_ | refine W.outBlock ?_ | refine W.skip ?_ | refine W.exit rfl ?_ | refine WL.box rfl rfl rfl ?_ | refine W.opsD ?_ | refine W.condT rfl ?_ | refine W.condF rfl ?_)
      exact W.ret ⟨_, rfl, rfl⟩
end
end Go.AM.B

/- AM: slices of slices: what they freeze to hangs on a part of the heap alone. -/
namespace Go.AM
set_option linter.unusedVariables false
set_option linter.unusedSimpArgs false

def Subh (h0 h : Heap) : Prop := ∀ i o, h0.get i = some o → h.get i = some o
theorem Subh.refl (h : Heap) : Subh h h := fun _ _ h => h
theorem Subh.trans {a b c : Heap} (h : Subh a b) (k : Subh b c) : Subh a c := fun i o e => k i o (h i o e)
theorem Subh.put {h0 h : Heap} (H : Subh h0 h) {i : Id} {o : AObj} (hn : h0.get i = none) : Subh h0 (h.put i o) := by
  intro j p hj
  rw [Heap.get_put]
  by_cases e : j = i
  · subst e; rw [hn] at hj; cases hj
  · rw [if_neg e]; exact H j p hj
theorem Subh.put2 {h0 h : Heap} (H : Subh h0 h) (i : Id) (o : AObj) : Subh (h0.put i o) (h.put i o) := by
  intro j p hj
  rw [Heap.get_put] at hj ⊢
  by_cases e : j = i
  · rw [if_pos e] at hj ⊢; exact hj
  · rw [if_neg e] at hj ⊢; exact H j p hj
theorem mapO_imp {f g : AV → Option AV} (h : ∀ a b, f a = some b → g a = some b) : ∀ (l m : List AV), mapO f l = some m → mapO g l = some m := by
  intro l
  induction l with
  | nil => intro m h; exact h
  | cons a l ih =>
    intro m hm
    simp only [mapO] at hm ⊢
    cases h1 : f a with
    | none => rw [h1] at hm; cases hm
    | some b =>
      cases h2 : mapO f l with
      | none => rw [h1, h2] at hm; cases hm
      | some r =>
        rw [h1, h2] at hm
        rw [h a b h1, ih r h2]; exact hm
theorem pur_sub {h0 h : Heap} (H : Subh h0 h) : ∀ (k : Nat) (a b : AV), AM.pur k h0 a = some b → AM.pur k h a = some b := by
  intro k
  induction k with
  | zero => intro a b e; cases e
  | succ k ih =>
    intro a b e
    have im := mapO_imp ih
    cases a with
    | ptr o off =>
      simp only [AM.pur] at e ⊢
      cases hg : h0.get o with
      | none => rw [hg] at e; cases e
      | some ob =>
        rw [hg] at e; rw [H _ _ hg]
        cases ob with
        | cells cs =>
          dsimp only at e ⊢
          cases hm : mapO (AM.pur k h0) cs with
          | none => rw [hm] at e; cases e
          | some l => rw [hm] at e; rw [im _ _ hm]; exact e
        | map _ _ _ _ => exact e
    | slice o co len esz clip =>
      simp only [AM.pur] at e ⊢
      cases hg : h0.get o with
      | none => rw [hg] at e; cases e
      | some ob =>
        rw [hg] at e; rw [H _ _ hg]
        cases ob with
        | cells cs =>
          dsimp only at e ⊢
          cases hs : sub cs co (len * esz) with
          | none => rw [hs] at e; cases e
          | some l0 =>
            rw [hs] at e
            dsimp only at e ⊢
            cases hm : mapO (AM.pur k h0) l0 with
            | none => rw [hm] at e; cases e
            | some l => rw [hm] at e; rw [im _ _ hm]; exact e
        | map _ _ _ _ => exact e
    | map o =>
      simp only [AM.pur] at e ⊢
      cases hg : h0.get o with
      | none => rw [hg] at e; cases e
      | some ob =>
        rw [hg] at e; rw [H _ _ hg]
        cases ob with
        | cells cs => exact e
        | map ks vs _ _ =>
          dsimp only at e ⊢
          cases h1 : mapO (AM.pur k h0) ks with
          | none => rw [h1] at e; cases e
          | some l1 =>
            cases h2 : mapO (AM.pur k h0) vs with
            | none => rw [h1, h2] at e; cases e
            | some l2 => rw [h1, h2] at e; rw [im _ _ h1, im _ _ h2]; exact e
    | agg cs =>
      simp only [AM.pur] at e ⊢
      cases hm : mapO (AM.pur k h0) cs with
      | none => rw [hm] at e; cases e
      | some l => rw [hm] at e; rw [im _ _ hm]; exact e
    | tuple cs =>
      simp only [AM.pur] at e ⊢
      cases hm : mapO (AM.pur k h0) cs with
      | none => rw [hm] at e; cases e
      | some l => rw [hm] at e; rw [im _ _ hm]; exact e
    | func fn x y =>
      simp only [AM.pur] at e ⊢
      cases h1 : mapO (AM.pur k h0) x with
      | none => rw [h1] at e; cases e
      | some l1 =>
        cases h2 : mapO (AM.pur k h0) y with
        | none => rw [h1, h2] at e; cases e
        | some l2 => rw [h1, h2] at e; rw [im _ _ h1, im _ _ h2]; exact e
    | _ => exact e
theorem mapO_sub {h0 h : Heap} (H : Subh h0 h) {k : Nat} {l m : List AV} (e : mapO (AM.pur k h0) l = some m) : mapO (AM.pur k h) l = some m := mapO_imp (pur_sub H k) l m e
theorem mapO_app {f : AV → Option AV} : ∀ {l m r s : List AV}, mapO f l = some r → mapO f m = some s → mapO f (l ++ m) = some (r ++ s) := by
  intro l
  induction l with
  | nil => intro m r s h1 h2; simp only [mapO, Option.some.injEq] at h1; subst h1; exact h2
  | cons a l ih =>
    intro m r s h1 h2
    simp only [mapO, List.cons_append] at h1 ⊢
    cases ha : f a with
    | none => rw [ha] at h1; cases h1
    | some b =>
      cases hl : mapO f l with
      | none => rw [ha, hl] at h1; cases h1
      | some t =>
        rw [ha, hl] at h1
        simp only [Option.some.injEq] at h1
        rw [ih hl h2, ← h1]; rfl
/-- A slice of one's own, deep. -/
theorem pur_deep {k : Nat} {h : Heap} {o : Id} {len esz : Nat} {clip : Bool} {cs ds : List AV} (hg : h.get o = some (.cells cs)) (hl : cs.length = len * esz) (hp : mapO (AM.pur k h) cs = some ds) :
    AM.pur (k + 1) h (.slice o 0 len esz clip) = some (.pslice ds len esz clip) := by
  simp only [AM.pur, hg, sub_all cs _ hl, hp]
theorem OwnS.deep {k : Nat} {h : Heap} {esz len : Nat} {cs ds : List AV} {v : AV} (hv : OwnS h esz cs len v) (hp : mapO (AM.pur k h) cs = some ds) : ∃ q e, AM.pur (k + 1) h v = some (.pslice ds len e q) := by
  rcases hv with ⟨rfl, rfl, rfl⟩ | ⟨o, clip, rfl, h1, h2⟩
  · simp only [mapO, Option.some.injEq] at hp; subst hp; exact ⟨_, _, rfl⟩
  · exact ⟨_, _, pur_deep h1 h2 hp⟩
/-- One element is put at the end of a slice of one's own; what else lies in the heap stays. -/
theorem WL.pushG {E : Env} {H : Heap} {T : FuncId → Option VFun} {nr i dd : Nat} {dr : DR} {g g' : Option (Nat × Bool)} {esz bytes len t u : Nat} {md md' : Mode} {l : List VO} {N : Nat} {K : St → Prop} {v b : AV} {cs new z : List AV} {x : Operand}
    (hg : wantedA E g = some true) (hx : evA E x = some b) (hb : cellsOf b = new) (hbl : new.length = esz) (hz : z.length = esz) (hg' : wantedA (E.put u (.v (.slice (nr, i) 0 1 esz true))) g' = some true) (htu : t ≠ u)
    (hs : E.get t = some (.v v)) (hv : OwnS H esz cs len v) (hno : ∀ j, j ∈ v.objs → j ≠ (nr, i)) (ho : ones new = true) (hsz : (len + 1) * bytes ≤ 140737488355328)
    (hc : okR dr i ([], [.obj (nr, i)]) ⟨some u, g, .bslice z 1 esz [(0, x)], md⟩ = true)
    (hc' : ∀ rd wr, (∀ k ∈ wr, ∃ o, k = .obj o ∧ (o = (nr, i + 1) ∨ o ∈ v.objs)) → okR (logR dr i ([], [.obj (nr, i)])) (i + 1) (rd, wr) ⟨some dd, g', .append esz bytes (.tmp t) (.tmp u), md'⟩ = true)
    (R : ∀ rd wr H', OwnS H' esz (cs ++ new) (len + 1) (.slice (nr, i + 1) 0 (len + 1) esz false) → (∀ j, j ∉ v.objs → j ≠ (nr, i) → j ≠ (nr, i + 1) → H'.get j = H.get j) → (∀ m, nr < m → Fresh H m → Fresh H' m) →
      WL T nr (logR (logR dr i ([], [.obj (nr, i)])) (i + 1) (rd, wr)) (i + 2) l ⟨(E.put u (.v (.slice (nr, i) 0 1 esz true))).put dd (.v (.slice (nr, i + 1) 0 (len + 1) esz false)), H', N⟩ K) :
    WL T nr dr i (⟨some u, g, .bslice z 1 esz [(0, x)], md⟩ :: ⟨some dd, g', .append esz bytes (.tmp t) (.tmp u), md'⟩ :: l) ⟨E, H, N⟩ K := by
  have e1 : aop E H (nr, i) (some u) (.bslice z 1 esz [(0, x)]) = some ⟨.v (.slice (nr, i) 0 1 esz true), none, [((nr, i), .cells new)], none, [], [.obj (nr, i)]⟩ := by
    have h1 : (new.length == esz) = true := by rw [hbl]; simp
    have h2 : Nat.ble (0 + new.length) (rep 1 z).length = true := Nat.ble_eq_true_of_le (by simp [rep, hbl, hz])
    have h3 : (rep 1 z).drop (0 + new.length) = [] := List.drop_eq_nil_of_le (by simp [rep, hbl, hz])
    simp only [aop, evElems, hx, hb, h1, cond_true, fill, Nat.zero_mul, upd, h2, h3, List.take_zero, List.nil_append, List.append_nil]
  refine WL.heap hg e1 hc ?_
  refine WL.append (b := .slice (nr, i) 0 1 esz true) (new := new) (n := 1) hg' (v := v) ?_ (hv.frame fun j hj => by rw [Heap.get_put, if_neg (hno j hj)]) (evA_nj (by rw [show (E.putO (some u) (SV.v (AV.slice (nr, i) 0 1 esz true))) = E.put u (SV.v (AV.slice (nr, i) 0 1 esz true)) from rfl, Env.get_put, if_pos rfl]) (by intro h; cases h)) (elems_put (by omega)) (by decide) ho (by omega) hsz hc' ?_
  · show (E.put u _).get t = _
    rw [Env.get_put, if_neg htu]; exact hs
  · intro rd wr H' h1 h2 h3
    refine R rd wr H' h1 (fun j hj n1 n2 => ?_) (fun m hm hf => h3 m hm (hf.put hm (Nat.le_refl _)))
    rw [h2 j hj n2, Heap.get_put, if_neg n1]
end Go.AM

/- The tower of groups. -/
namespace Go.AM.B
open Go.Proofs.Ytebogdeaiecldaa.Tab
noncomputable section
set_option linter.unusedVariables false
set_option linter.unusedSimpArgs false
set_option maxHeartbeats 4000000

def tabCells : List AV := [.int .i64 1, .int .u8 0, .nils, .int .i64 0, .int .i64 1]
def jmpI (i : Int) : Instr := ⟨14, 0, 0, 0, 0, 0, i⟩
def zeroI : Instr := ⟨0, 0, 0, 0, 0, 0, 0⟩
structure TwR (w : Nat) (h : Heap) (n k : Nat) (vb vg : AV) (h0 : Heap) (cb cg : List AV) (B : List Block) (G : List Group) : Prop where
  ob : OwnS h 2 cb k vb
  og : OwnS h 4 cg k vg
  sb : Subh h0 h
  nb : ∀ o ∈ vb.objs, h0.get o = none
  ng : ∀ o ∈ vg.objs, h0.get o = none
  dj : ∀ o ∈ vb.objs, o ∉ vg.objs
  pb : AM.mapO (AM.pur 38 h0) cb = some (B.flatMap Block.enc)
  pg : AM.mapO (AM.pur 38 h0) cg = some (G.flatMap Group.enc)
  tb : h0.get (1, 1) = some (.cells tabCells)
  fr : Fresh h n
  lb : B.map (fun b => (b.id, b.code.l)) = (List.range k).map fun (j : Nat) => (((j : Int) + 1), [jmpI ((j : Int) + 1)])
  lg : G.map (fun g => (g.id, g.kind, g.buckets.l)) = (List.range k).map fun (j : Nat) => (((j : Int) + 1), (1 : Int), List.replicate w (⟨0, (j : Int) + 1 + 1⟩ : Bucket))
  n1 : 1 < n
theorem rep_flat {α : Type} {enc : α → List AV} (a : α) : ∀ m, rep m (enc a) = (List.replicate m a).flatMap enc := by
  intro m
  induction m with
  | zero => rfl
  | succ m ih => rw [List.replicate_succ, List.flatMap_cons, ← ih]; rfl
theorem OwnS.part {h0 H : Heap} {ck : List AV} {w : Nat} {v : AV} (hv : OwnS H 2 ck w v) (hs : Subh h0 H) (hn : ∀ o ∈ v.objs, h0.get o = none) (hp : ∀ h, AM.mapO (AM.pur 37 h) ck = some ck) :
    ∃ h1, Subh h0 h1 ∧ Subh h1 H ∧ (∀ o, o ∉ v.objs → h1.get o = h0.get o) ∧ ∃ q e, AM.pur 38 h1 v = some (.pslice ck w e q) := by
  rcases hv with ⟨rfl, rfl, rfl⟩ | ⟨o, clip, rfl, g1, g2⟩
  · exact ⟨h0, .refl _, hs, fun _ _ => rfl, _, _, rfl⟩
  · have ho : h0.get o = none := hn o (by simp [AV.objs])
    refine ⟨h0.put o (.cells ck), (Subh.refl h0).put ho, ?_, fun j hj => ?_, clip, 2, pur_deep (by rw [Heap.get_put, if_pos rfl]) g2 (hp _)⟩
    · intro j p hj
      rw [Heap.get_put] at hj
      by_cases e : j = o
      · rw [if_pos e] at hj; rw [e, g1]; exact hj
      · rw [if_neg e] at hj; exact hs j p hj
    · rw [Heap.get_put, if_neg (fun e => hj (by rw [e]; simp [AV.objs]))]
theorem Fresh.none {h : Heap} {n : Nat} (H : Fresh h n) {i : AM.Id} (hi : n ≤ i.1) : h.get i = Option.none := by
  cases hg : h.get i with
  | none => rfl
  | some o => exact absurd (H i o hg) (by omega)
theorem Subh.none {h0 h : Heap} (H : Subh h0 h) {i : AM.Id} (hi : h.get i = Option.none) : h0.get i = Option.none := by
  cases hg : h0.get i with
  | none => rfl
  | some o => rw [H i o hg] at hi; cases hi
theorem VC1.ofE {α : Type} {enc : α → AV} {P : α → Prop} {T : FuncId → Option VFun} {f : FuncId} {args : List AV} {vf : VFun} (hT : T f = some vf) (hn : (vf.nargs == args.length) = true)
    (H : W T [.code vf.body] ⟨initEnv 0 args, Heap.empty, 0⟩ fun s' => ∃ C, P C ∧ ∃ l, readRess s'.env s'.heap vf.results = some l ∧ AM.pur purLimit s'.heap (theRes l) = some (enc C)) : ∃ C, P C ∧ VC1 T f args (enc C) := by
  obtain ⟨s', e, C, hP, q⟩ := H
  exact ⟨C, hP, VC1.of hT hn ⟨s', e, q⟩⟩
/-- What the tower holds. -/
structure IsTower (w d l : Nat) (C : Config) : Prop where
  n : C.nodes.l = []
  t : C.tables.l.map (fun t => (t.id, t.miss)) = [(1, 1)]
  e : C.entries.l = []
  b : C.blocks.l.map (fun b => (b.id, b.code.l)) = ((List.range d).map fun (j : Nat) => (((j : Int) + 1), [jmpI ((j : Int) + 1)])) ++ [((d : Int) + 1, List.replicate l zeroI)]
  g : C.groups.l.map (fun g => (g.id, g.kind, g.buckets.l)) = (List.range d).map fun (j : Nat) => (((j : Int) + 1), (1 : Int), List.replicate w (⟨0, (j : Int) + 1 + 1⟩ : Bucket))
theorem ones_app : ∀ {a b : List AV}, ones a = true → ones b = true → ones (a ++ b) = true := by
  intro a
  induction a with
  | nil => intro b _ h; exact h
  | cons x a ih =>
    intro b h1 h2
    simp only [ones, Bool.and_eq_true, List.cons_append] at h1 ⊢
    exact ⟨h1.1, ih h1.2 h2⟩
theorem TwR.push1 {w n k : Nat} {h H1 : Heap} {vb vg : AV} {h0 : Heap} {cb cg : List AV} {B : List Block} {G : List Group} (tw : TwR w h n k vb vg h0 cb cg B G) {L : List Instr} {q : Bool} (bid : Int)
    (hs : OwnS H1 2 (cb ++ [.int .i64 bid, .slice (n, 5) 0 L.length 7 q]) (k + 1) (.slice (n, 8) 0 (k + 1) 2 false))
    (hf : ∀ j, j ∉ vb.objs → j ≠ (n, 7) → j ≠ (n, 8) → H1.get j = (h.put (n, 5) (.cells (L.flatMap Instr.enc))).get j) (hfr : Fresh H1 (n + 1)) :
    ∃ h1, Subh h1 H1 ∧ (∀ j, j.1 ≥ n → j ≠ (n, 5) → h1.get j = none) ∧ (∀ o ∈ vg.objs, h1.get o = none) ∧ OwnS H1 4 cg k vg ∧ h1.get (1, 1) = some (.cells tabCells) ∧
      AM.mapO (AM.pur 38 h1) (cb ++ [.int .i64 bid, .slice (n, 5) 0 L.length 7 q]) = some ((B ++ [(⟨bid, ⟨L, q, 7⟩⟩ : Block)]).flatMap Block.enc) ∧ AM.mapO (AM.pur 38 h1) cg = some (G.flatMap Group.enc) := by
  have hn5 : h0.get (n, 5) = none := Subh.none tw.sb (Fresh.none tw.fr (Nat.le_refl _))
  have old : ∀ j, j.1 < n → j ∉ vb.objs → H1.get j = h.get j := by
    intro j hj hb
    have e1 : j ≠ (n, 7) := fun e => by rw [e] at hj; exact absurd hj (Nat.lt_irrefl _)
    have e2 : j ≠ (n, 8) := fun e => by rw [e] at hj; exact absurd hj (Nat.lt_irrefl _)
    have e3 : j ≠ (n, 5) := fun e => by rw [e] at hj; exact absurd hj (Nat.lt_irrefl _)
    rw [hf j hb e1 e2, Heap.get_put, if_neg e3]
  have lt0 : ∀ j o, h0.get j = some o → j.1 < n := fun j o hj => tw.fr _ _ (tw.sb _ _ hj)
  have s1 : Subh (h0.put (n, 5) (.cells (L.flatMap Instr.enc))) H1 := by
    intro j p hj
    rw [Heap.get_put] at hj
    by_cases e : j = (n, 5)
    · subst e
      rw [if_pos rfl] at hj
      have nb : ((n, 5) : AM.Id) ∉ vb.objs := fun hm => by
        have := OwnS.lt tw.ob tw.fr _ hm
        exact absurd this (Nat.lt_irrefl _)
      rw [hf _ nb (by intro e; simp at e) (by intro e; simp at e), Heap.get_put, if_pos rfl]; exact hj
    · rw [if_neg e] at hj
      rw [old j (lt0 j p hj) (fun hm => by rw [tw.nb j hm] at hj; cases hj)]
      exact tw.sb j p hj
  have s0 : Subh h0 (h0.put (n, 5) (.cells (L.flatMap Instr.enc))) := (Subh.refl h0).put hn5
  refine ⟨h0.put (n, 5) (.cells (L.flatMap Instr.enc)), s1, fun j hj hne => ?_, fun o ho => ?_, ?_, ?_, ?_, mapO_sub s0 tw.pg⟩
  · rw [Heap.get_put, if_neg hne]
    exact Subh.none tw.sb (Fresh.none tw.fr hj)
  · have := OwnS.lt tw.og tw.fr o ho
    rw [Heap.get_put, if_neg (fun e => by rw [e] at this; exact absurd this (Nat.lt_irrefl _))]
    exact tw.ng o ho
  · exact tw.og.frame fun j hj => old j (OwnS.lt tw.og tw.fr j hj) (fun hm => tw.dj j hm hj)
  · rw [Heap.get_put, if_neg (fun e => by have := congrArg Prod.fst e; have h1 := tw.n1; dsimp only at this; omega)]
    exact tw.tb
  · rw [List.flatMap_append]
    refine mapO_app (mapO_sub s0 tw.pb) (mapO_cons rfl (mapO_cons (b := .pslice (L.flatMap Instr.enc) L.length 7 q) ?_ rfl))
    refine pur_slice (k := 37) (by rw [Heap.get_put, if_pos rfl]) (flat_len (k := 7) (fun _ => rfl) _) ?_
    intro a ha; obtain ⟨x, _, ha⟩ := List.mem_flatMap.1 ha; simp only [Instr.enc, List.mem_cons, List.not_mem_nil, or_false] at ha; rcases ha with rfl | rfl | rfl | rfl | rfl | rfl | rfl <;> rfl
theorem aop_makeR {E : Env} {H : Heap} {nid : AM.Id} {d : Option Nat} {z : List AV} {bytes : Nat} {l : Operand} {n : Int} {m : Nat} (hl : evA E l = some (.int .i64 n)) (hn : n = m) (hb : m * bytes ≤ 140737488355328) :
    aop E H nid d (.mkslice z bytes l l) = some ⟨.v (.slice nid 0 m z.length true), none, [(nid, .cells (rep m z))], none, [], [.obj nid]⟩ := by
  subst hn
  have h1 : decide ((0 : Int) ≤ (m : Int)) = true := decide_eq_true (by omega)
  have h2 : decide ((m : Int) ≤ (m : Int)) = true := decide_eq_true (by omega)
  have h3 : decide ((m : Int) * (bytes : Int) ≤ 140737488355328) = true := decide_eq_true (by have : ((m * bytes : Nat) : Int) ≤ 140737488355328 := (by omega); rwa [Int.natCast_mul] at this)
  simp only [aop, hl]
  rw [h1, h2, h3]
  simp only [Bool.and_self, cond_true, Int.toNat_natCast, beq_self_eq_true]
theorem TwR.mono {w n m k : Nat} {h : Heap} {vb vg : AV} {h0 : Heap} {cb cg : List AV} {B : List Block} {G : List Group} (tw : TwR w h n k vb vg h0 cb cg B G) (hm : n ≤ m) : TwR w h m k vb vg h0 cb cg B G :=
  { tw with fr := tw.fr.mono hm, n1 := Nat.lt_of_lt_of_le tw.n1 hm }
def bkt (k : Nat) : Bucket := ⟨0, (k : Int) + 1 + 1⟩
theorem bkt_pur (j k : Nat) (h : Heap) : AM.mapO (AM.pur 37 h) ((List.replicate j (bkt k)).flatMap Bucket.enc) = some ((List.replicate j (bkt k)).flatMap Bucket.enc) :=
  pur_scal_all 37 h _ (by intro a ha; obtain ⟨x, _, ha⟩ := List.mem_flatMap.1 ha; simp only [Bucket.enc, List.mem_cons, List.not_mem_nil, or_false] at ha; rcases ha with rfl | rfl <;> rfl)
/-- After a round. -/
theorem TwR.next {w m k nI nr n' : Nat} {H1 H2 H3 : Heap} {vg vk : AV} {h1 : Heap} {cb' cg ck : List AV} {B' : List Block} {G : List Group} (m1 : 1 < m) (hmI : m + 1 ≤ nI) (hIr : nI ≤ nr) (hr' : nr + 1 ≤ n')
    (s1 : Subh h1 H1) (e1 : ∀ j, j.1 ≥ m → j ≠ (m, 5) → h1.get j = none) (ng1 : ∀ o ∈ vg.objs, h1.get o = none) (t1 : h1.get (1, 1) = some (.cells tabCells))
    (pb1 : AM.mapO (AM.pur 38 h1) cb' = some (B'.flatMap Block.enc)) (pg1 : AM.mapO (AM.pur 38 h1) cg = some (G.flatMap Group.enc)) (ob1 : OwnS H1 2 cb' (k + 1) (.slice (m, 8) 0 (k + 1) 2 false))
    (fr1 : Fresh H1 (m + 1)) (vlt : ∀ o ∈ vg.objs, o.1 < m)
    (ok2 : OwnS H2 2 ck w vk) (eck : ck = (List.replicate w (bkt k)).flatMap Bucket.enc) (kge : ∀ o ∈ vk.objs, nI ≤ o.1) (old2 : ∀ i, i.1 < nI → H2.get i = H1.get i) (fr2 : Fresh H2 nr)
    (og3 : OwnS H3 4 (cg ++ [.int .i64 ((k : Int) + 1), .int .u8 1, .int .i64 0, vk]) (k + 1) (.slice (nr, 4) 0 (k + 1) 4 false)) (old3 : ∀ j, j ∉ vg.objs → j ≠ (nr, 3) → j ≠ (nr, 4) → H3.get j = H2.get j) (fr3 : Fresh H3 (nr + 1))
    (lb : B'.map (fun b => (b.id, b.code.l)) = (List.range (k + 1)).map fun (j : Nat) => (((j : Int) + 1), [jmpI ((j : Int) + 1)]))
    (lg : G.map (fun g => (g.id, g.kind, g.buckets.l)) = (List.range k).map fun (j : Nat) => (((j : Int) + 1), (1 : Int), List.replicate w (⟨0, (j : Int) + 1 + 1⟩ : Bucket))) :
    ∃ h0 cb cg B G, TwR w H3 n' (k + 1) (.slice (m, 8) 0 (k + 1) 2 false) (.slice (nr, 4) 0 (k + 1) 4 false) h0 cb cg B G := by
  have lt1 : ∀ j o, h1.get j = some o → j.1 < m + 1 := fun j o hj => fr1 _ _ (s1 _ _ hj)
  have s12 : Subh h1 H2 := fun j o hj => by rw [old2 j (by have := lt1 j o hj; omega)]; exact s1 j o hj
  obtain ⟨h2, u1, u2, u3, q, e, u4⟩ := OwnS.part ok2 s12 (fun o ho => by
    cases hg : h1.get o with
    | none => rfl
    | some p => have := lt1 o p hg; have := kge o ho; omega) (fun h => by rw [eck]; exact bkt_pur w k h)
  have nvk : ∀ j : AM.Id, j.1 < nI → j ∉ vk.objs := fun j hj hm => by have := kge j hm; omega
  have s23 : Subh h2 H3 := by
    intro j o hj
    have h2j := u2 j o hj
    have hlt := fr2 _ _ h2j
    have nv : j ∉ vg.objs := fun hm => by
      have := vlt j hm
      rw [u3 j (nvk j (by omega)), ng1 j hm] at hj; cases hj
    rw [old3 j nv (fun e => by rw [e] at hlt; exact absurd hlt (Nat.lt_irrefl _)) (fun e => by rw [e] at hlt; exact absurd hlt (Nat.lt_irrefl _))]
    exact h2j
  refine ⟨h2, cb', cg ++ [.int .i64 ((k : Int) + 1), .int .u8 1, .int .i64 0, vk], B', G ++ [⟨(k : Int) + 1, 1, 0, ⟨List.replicate w (bkt k), q, e⟩⟩], ⟨?_, og3, s23, ?_, ?_, ?_, mapO_sub u1 pb1, ?_, u1 _ _ t1, fr3.mono hr', lb, ?_, by omega⟩⟩
  · refine (ob1.frame (h' := H2) fun j hj => ?_).frame fun j hj => ?_
    · simp only [AV.objs, List.mem_singleton] at hj
      subst hj
      exact old2 _ (by dsimp only; omega)
    · simp only [AV.objs, List.mem_singleton] at hj
      subst hj
      exact old3 _ (fun hm => absurd (vlt _ hm) (Nat.lt_irrefl _)) (fun e => by have := congrArg Prod.fst e; dsimp only at this; omega) (fun e => by have := congrArg Prod.fst e; dsimp only at this; omega)
  · intro o ho
    simp only [AV.objs, List.mem_singleton] at ho
    subst ho
    rw [u3 _ (nvk _ (by dsimp only; omega))]
    exact e1 _ (Nat.le_refl _) (fun e => by have := congrArg Prod.snd e; dsimp only at this; omega)
  · intro o ho
    simp only [AV.objs, List.mem_singleton] at ho
    subst ho
    exact Subh.none u2 (Fresh.none fr2 (Nat.le_refl _))
  · intro o ho hm
    simp only [AV.objs, List.mem_singleton] at ho hm
    rw [ho] at hm
    have := congrArg Prod.fst hm
    dsimp only at this; omega
  · rw [List.flatMap_append]
    refine mapO_app (mapO_sub u1 pg1) (mapO_cons rfl (mapO_cons rfl (mapO_cons rfl (mapO_cons u4 rfl)))) |>.trans ?_
    rw [eck]
    have : (List.replicate w (bkt k)).length = w := List.length_replicate
    simp only [List.flatMap_cons, List.flatMap_nil, Group.enc, Sl.av, this, List.append_nil]
  · rw [List.map_append, lg, List.range_succ, List.map_append]; rfl
theorem tower_c (w d l : Nat) (hw : w < 10000) (hd : d < 10000) (hl : l < 10000) : ∃ (C : Config), IsTower w d l C ∧ VC1 T 24 [.int .i64 w, .int .i64 d, .int .i64 l] (.agg C.enc) := by
  refine VC1.ofE (enc := fun C : Config => .agg C.enc) (vf := v24) rfl rfl ?_
  unfold v24
  repeat (first | refine W.seq ?_ | refine W.ops ?_ | refine WL.off rfl rfl ?_ | refine WL.val rfl rfl rfl ?_ | refine WL.nil ?_ | refine W.block ?_ | refine W.outBlock ?_ | refine W.skip ?_ | refine W.exit rfl ?_ | refine WL.box rfl rfl rfl ?_ | refine W.opsD ?_ | refine W.condT rfl ?_ | refine W.condF rfl ?_ | refine WL.heap rfl rfl rfl ?_)
  refine W.loopE (E0 := envOf [(0, _), (1, _), (2, _), (6, _), (7, _), (8, _)]) rfl (β := Nat × AV × AV) (fun b => [(7, .box [.nils, .nils, .slice (1, 1) 0 1 5 true, .nils, b.2.1, b.2.2, .nils, .nils, .nils]), (8, .v (.int .i64 ((b.1 : Int) + 1)))])
    (fun b h n => b.1 ≤ d ∧ ∃ h0 cb cg B G, TwR w h n b.1 b.2.1 b.2.2 h0 cb cg B G) (fun b => d - b.1) (0, .nils, .nils) rfl ⟨by simp, ?_⟩ ?_
  · refine ⟨Heap.empty.put (1, 1) (.cells tabCells), [], [], [], [], .nil _ _, .nil _ _, .refl _, (fun o ho => by cases ho), (fun o ho => by cases ho), (fun o ho => by cases ho), rfl, rfl, by rw [Heap.get_put, if_pos rfl], ?_, rfl, rfl, by decide⟩
    exact (Fresh.empty 3).put (by decide) (Nat.le_refl _)
  rintro ⟨k, vb, vg⟩ h n ⟨hk, h0, cb, cg, B, G, tw⟩ ih
  dsimp only at hk tw
  repeat (first | refine W.seq ?_ | refine W.ops ?_ | refine WL.off rfl rfl ?_ | refine WL.val rfl rfl rfl ?_ | refine WL.nil ?_ | refine W.block ?_ | refine W.outBlock ?_ | refine W.skip ?_ | refine W.exit rfl ?_ | refine WL.box rfl rfl rfl ?_ | refine W.opsD ?_ | refine W.condT rfl ?_ | refine W.condF rfl ?_)
  refine W.condS rfl (fun hb2 => ?_) (fun hb2 => ?_)
  · have hlt : k < d := by have := of_decide_eq_true hb2; omega
    have tw1 := tw.mono (Nat.le_succ n)
    repeat (first | refine W.seq ?_ | refine W.ops ?_ | refine WL.off rfl rfl ?_ | refine WL.val rfl rfl rfl ?_ | refine WL.nil ?_ | refine W.block ?_ | refine W.outBlock ?_ | refine W.skip ?_ | refine W.exit rfl ?_ | refine WL.box rfl rfl rfl ?_ | refine W.opsD ?_ | refine W.condT rfl ?_ | refine W.condF rfl ?_)
    refine WL.heap rfl rfl rfl ?_
    repeat (first | refine W.seq ?_ | refine W.ops ?_ | refine WL.off rfl rfl ?_ | refine WL.val rfl rfl rfl ?_ | refine WL.nil ?_ | refine W.block ?_ | refine W.outBlock ?_ | refine W.skip ?_ | refine W.exit rfl ?_ | refine WL.box rfl rfl rfl ?_ | refine W.opsD ?_ | refine W.condT rfl ?_ | refine W.condF rfl ?_)
    refine WL.pushG (v := vb) (cs := cb) (len := k) rfl rfl rfl rfl rfl rfl (by decide) rfl (tw.ob.frame fun j hj => ?_) (fun j hj e => ?_) rfl (by omega) rfl (fun _ _ _ => rfl) ?_
    · have := OwnS.lt tw.ob tw.fr j hj
      rw [Heap.get_put, if_neg (fun e => by rw [e] at this; exact absurd this (by dsimp only; omega))]
    · have := OwnS.lt tw.ob tw.fr j hj
      rw [e] at this; exact absurd this (by dsimp only; omega)
    intro rd wr H1 oh1 of1 fr1
    have fr1' : Fresh H1 (n + 1 + 1) := fr1 _ (by omega) ((tw1.fr.mono (Nat.le_succ _)).put (by dsimp only; omega) (Nat.le_refl _))
    obtain ⟨h1, s1, e1, ng1, og1, t1, pb1, pg1⟩ := tw1.push1 (L := [jmpI ((k : Int) + 1)]) (q := true) ((k : Int) + 1) oh1 of1 fr1'
    repeat (first | refine W.seq ?_ | refine W.ops ?_ | refine WL.off rfl rfl ?_ | refine WL.val rfl rfl rfl ?_ | refine WL.nil ?_ | refine W.block ?_ | refine W.outBlock ?_ | refine W.skip ?_ | refine W.exit rfl ?_ | refine WL.box rfl rfl rfl ?_ | refine W.opsD ?_ | refine W.condT rfl ?_ | refine W.condF rfl ?_)
    refine W.loopE (E0 := envOf [(0, _), (1, _), (2, _), (6, _), (7, _), (8, _), (9, _), (10, _)]) rfl (β := Nat × AV) (fun b => [(9, .box [.int .i64 ((k : Int) + 1), .int .u8 1, .int .i64 0, b.2]), (10, .v (.int .i64 (b.1 : Int)))])
      (fun b h n2 => b.1 ≤ w ∧ OwnS h 2 ((List.replicate b.1 (bkt k)).flatMap Bucket.enc) b.1 b.2 ∧ (∀ o ∈ b.2.objs, n + 2 ≤ o.1) ∧ (∀ i, i.1 < n + 2 → h.get i = H1.get i) ∧ Fresh h n2 ∧ n + 2 ≤ n2) (fun b => w - b.1) (0, .nils) rfl ⟨by simp, .nil _ _, (fun o ho => by cases ho), fun _ _ => rfl, fr1'.mono (by omega), by omega⟩ ?_
    rintro ⟨j, vk⟩ h n2 ⟨hj, ok2, kge, old2, fr2, hn2⟩ ih2
    dsimp only at hj ok2 kge
    repeat (first | refine W.seq ?_ | refine W.ops ?_ | refine WL.off rfl rfl ?_ | refine WL.val rfl rfl rfl ?_ | refine WL.nil ?_ | refine W.block ?_ | refine W.outBlock ?_ | refine W.skip ?_ | refine W.exit rfl ?_ | refine WL.box rfl rfl rfl ?_ | refine W.opsD ?_ | refine W.condT rfl ?_ | refine W.condF rfl ?_)
    refine W.condS rfl (fun hb3 => ?_) (fun hb3 => ?_)
    · have hlj : j < w := by have := of_decide_eq_true hb3; dsimp only at this; omega
      repeat (first | refine W.seq ?_ | refine W.ops ?_ | refine WL.off rfl rfl ?_ | refine WL.val rfl rfl rfl ?_ | refine WL.nil ?_ | refine W.block ?_ | refine W.outBlock ?_ | refine W.skip ?_ | refine W.exit rfl ?_ | refine WL.box rfl rfl rfl ?_ | refine W.opsD ?_ | refine W.condT rfl ?_ | refine W.condF rfl ?_)
      refine WL.pushG (v := vk) (len := j) rfl rfl rfl rfl rfl rfl (by decide) rfl ok2 (fun i hi e => ?_) rfl (by omega) rfl (fun _ _ _ => rfl) ?_
      · have := OwnS.lt ok2 fr2 i hi
        rw [e] at this; exact absurd this (by dsimp only; omega)
      intro rd wr H2 oh2 of2 fr2'
      repeat (first | refine W.seq ?_ | refine W.ops ?_ | refine WL.off rfl rfl ?_ | refine WL.val rfl rfl rfl ?_ | refine WL.nil ?_ | refine W.block ?_ | refine W.outBlock ?_ | refine W.skip ?_ | refine W.exit rfl ?_ | refine WL.box rfl rfl rfl ?_ | refine W.opsD ?_ | refine W.condT rfl ?_ | refine W.condF rfl ?_)
      refine ih2 (j + 1, .slice _ 0 (j + 1) 2 false) _ _ _ ⟨hlj, ?_, ?_, ?_, fr2' _ (by omega) (fr2.mono (by omega)), by omega⟩ (by dsimp only; omega) (by rw [← wrap64_nat (k := j) (by omega)]; rfl)
      · have ew : IntKind.wrap .i64 ((k : Int) + 1 + 1) = (k : Int) + 1 + 1 := wrap64 (by omega) (by omega)
        dsimp only
        rw [List.replicate_succ', List.flatMap_append]
        have : [bkt k].flatMap Bucket.enc = [.int .u64 0, .int .i64 (IntKind.wrap .i64 ((k : Int) + 1 + 1))] := by rw [ew]; rfl
        rw [this]
        exact oh2
      · intro o ho
        simp only [AV.objs, List.mem_singleton] at ho
        subst ho; dsimp only; omega
      · intro i hi
        rw [of2 i (fun hm => by have := kge i hm; omega) (fun e => by rw [e] at hi; dsimp only at hi; omega) (fun e => by rw [e] at hi; dsimp only at hi; omega)]
        exact old2 i hi
    · clear ih2
      have hge : j = w := by have := of_decide_eq_false hb3; dsimp only at this; omega
      subst hge
      repeat (first | refine W.seq ?_ | refine W.ops ?_ | refine WL.off rfl rfl ?_ | refine WL.val rfl rfl rfl ?_ | refine WL.nil ?_ | refine W.block ?_ | refine W.outBlock ?_ | refine W.skip ?_ | refine W.exit rfl ?_ | refine WL.box rfl rfl rfl ?_ | refine W.opsD ?_ | refine W.condT rfl ?_ | refine W.condF rfl ?_)
      have vlt : ∀ o ∈ vg.objs, o.1 < n + 1 := fun o ho => by have := OwnS.lt tw.og tw.fr o ho; omega
      have og2 : OwnS h 4 cg k vg := og1.frame fun i hi => old2 i (by have := vlt i hi; omega)
      refine WL.pushG (v := vg) (cs := cg) (len := k) rfl rfl rfl rfl rfl rfl (by decide) rfl og2 (fun i hi e => ?_) ?_ (by omega) rfl (fun _ _ _ => rfl) ?_
      · have := vlt i hi
        rw [e] at this; exact absurd this (by dsimp only; omega)
      · show ones [_, _, _, vk] = true
        show (true && (true && (true && (vk.one && true)))) = true
        rw [ok2.one]; rfl
      intro rd wr H3 oh3 of3 fr3
      repeat (first | refine W.seq ?_ | refine W.ops ?_ | refine WL.off rfl rfl ?_ | refine WL.val rfl rfl rfl ?_ | refine WL.nil ?_ | refine W.block ?_ | refine W.outBlock ?_ | refine W.skip ?_ | refine W.exit rfl ?_ | refine WL.box rfl rfl rfl ?_ | refine W.opsD ?_ | refine W.condT rfl ?_ | refine W.condF rfl ?_)
      refine ih (k + 1, .slice (n + 1, 8) 0 (k + 1) 2 false, .slice (n2 + 1, 4) 0 (k + 1) 4 false) _ _ _ ⟨hlt, ?_⟩ (by dsimp only; omega) ?_
      · refine TwR.next (w := j) (m := n + 1) (k := k) (nI := n + 2) (nr := n2 + 1) (H1 := H1) (H2 := h) (vg := vg) (vk := vk) (by have := tw.n1; omega) (by omega) (by omega) (by omega) s1 e1 ng1 t1 pb1 pg1 oh1 fr1' vlt ok2 rfl kge old2 (fr2.mono (by omega)) oh3 of3 (fr3 _ (by omega) (fr2.mono (by omega))) ?_ tw.lg
        rw [List.map_append, tw.lb, List.range_succ, List.map_append]; rfl
      · have ez : IntKind.wrap .i64 ((k : Int) + 1 + 1) = ((k + 1 : Nat) : Int) + 1 := by rw [wrap64 (by omega) (by omega)]; omega
        dsimp only
        rw [← ez]; rfl
  · clear ih
    have hge : k = d := by have := of_decide_eq_false hb2; dsimp only at this; omega
    subst hge
    have tw1 := tw.mono (Nat.le_succ n)
    repeat (first | refine W.seq ?_ | refine W.ops ?_ | refine WL.off rfl rfl ?_ | refine WL.val rfl rfl rfl ?_ | refine WL.nil ?_ | refine W.block ?_ | refine W.outBlock ?_ | refine W.skip ?_ | refine W.exit rfl ?_ | refine WL.box rfl rfl rfl ?_ | refine W.opsD ?_ | refine W.condT rfl ?_ | refine W.condF rfl ?_)
    refine WL.heap rfl (aop_makeR rfl rfl (by omega)) rfl ?_
    repeat (first | refine W.seq ?_ | refine W.ops ?_ | refine WL.off rfl rfl ?_ | refine WL.val rfl rfl rfl ?_ | refine WL.nil ?_ | refine W.block ?_ | refine W.outBlock ?_ | refine W.skip ?_ | refine W.exit rfl ?_ | refine WL.box rfl rfl rfl ?_ | refine W.opsD ?_ | refine W.condT rfl ?_ | refine W.condF rfl ?_)
    refine WL.pushG (v := vb) (cs := cb) (len := k) rfl rfl rfl rfl rfl rfl (by decide) rfl (tw.ob.frame fun j hj => ?_) (fun j hj e => ?_) rfl (by omega) rfl (fun _ _ _ => rfl) ?_
    · have := OwnS.lt tw.ob tw.fr j hj
      rw [Heap.get_put, if_neg (fun e => by rw [e] at this; exact absurd this (by dsimp only; omega))]
    · have := OwnS.lt tw.ob tw.fr j hj
      rw [e] at this; exact absurd this (by dsimp only; omega)
    intro rd wr H1 oh1 of1 fr1
    have fr1' : Fresh H1 (n + 1 + 1) := fr1 _ (by omega) ((tw1.fr.mono (Nat.le_succ _)).put (by dsimp only; omega) (Nat.le_refl _))
    have ew : IntKind.wrap .i64 ((k : Int) + 1) = (k : Int) + 1 := wrap64 (by omega) (by omega)
    have erp : rep l [AV.int .u8 0, .int .i64 0, .int .u8 0, .int .u64 0, .int .u8 0, .int .u64 0, .int .i64 0] = (List.replicate l zeroI).flatMap Instr.enc := rep_flat (enc := Instr.enc) zeroI l
    rw [ew] at oh1
    rw [erp] at of1
    have ell : (List.replicate l zeroI).length = l := List.length_replicate
    obtain ⟨h1, s1, e1, ng1, og1, t1, pb1, pg1⟩ := tw1.push1 (L := List.replicate l zeroI) (q := true) ((k : Int) + 1) (by rw [ell]; exact oh1) of1 fr1'
    repeat (first | refine W.seq ?_ | refine W.ops ?_ | refine WL.off rfl rfl ?_ | refine WL.val rfl rfl rfl ?_ | refine WL.nil ?_ | refine W.block ?_ | refine W.outBlock ?_ | refine W.skip ?_ | refine W.exit rfl ?_ | refine WL.box rfl rfl rfl ?_ | refine W.opsD ?_ | refine W.condT rfl ?_ | refine W.condF rfl ?_)
    refine WL.box rfl (aop_store_l rfl rfl rfl ?_ rfl rfl) rfl ?_
    · show (true && (true && (true && (true && (true && (vg.one && (true && (true && (true && true))))))))) = true
      rw [og1.one]; rfl
    repeat (first | refine W.seq ?_ | refine W.ops ?_ | refine WL.off rfl rfl ?_ | refine WL.val rfl rfl rfl ?_ | refine WL.nil ?_ | refine W.block ?_ | refine W.outBlock ?_ | refine W.skip ?_ | refine W.exit rfl ?_ | refine WL.box rfl rfl rfl ?_ | refine W.opsD ?_ | refine W.condT rfl ?_ | refine W.condF rfl ?_)
    have lenB : B.length = k := by have := congrArg List.length tw.lb; simpa using this
    have lenG : G.length = k := by have := congrArg List.length tw.lg; simpa using this
    obtain ⟨qb, eb, PB⟩ := OwnS.deep (k := 38) oh1 (ds := (B ++ [(⟨(k : Int) + 1, ⟨List.replicate l zeroI, true, 7⟩⟩ : Block)]).flatMap Block.enc) (by rw [ell] at pb1; exact mapO_sub s1 pb1)
    obtain ⟨qg, eg, PG⟩ := OwnS.deep (k := 38) og1 (mapO_sub s1 pg1)
    have PT : AM.pur 39 H1 (.slice (1, 1) 0 1 5 true) = some (Sl.av 5 Table.enc ⟨[⟨1, 0, ⟨[], true, 0⟩, 0, 1⟩], true, 5⟩) :=
      (pur_sliceF (k := 38) (s1 _ _ t1) rfl (by intro a ha; simp only [tabCells, List.mem_cons, List.not_mem_nil, or_false] at ha; rcases ha with rfl | rfl | rfl | rfl | rfl <;> rfl)).trans rfl
    have eB : k + 1 = (B ++ [(⟨(k : Int) + 1, ⟨List.replicate l zeroI, true, 7⟩⟩ : Block)]).length := by rw [List.length_append, lenB]; rfl
    rw [eB] at PB
    rw [← lenG] at PG
    refine W.ret ⟨⟨⟨[], true, 0⟩, ⟨[], true, 0⟩, ⟨[⟨1, 0, ⟨[], true, 0⟩, 0, 1⟩], true, 5⟩, ⟨[], true, 0⟩, ⟨B ++ [⟨(k : Int) + 1, ⟨List.replicate l zeroI, true, 7⟩⟩], qb, eb⟩, ⟨G, qg, eg⟩, ⟨[], true, 0⟩, ⟨[], true, 0⟩, ⟨[], true, 0⟩⟩, ⟨rfl, rfl, rfl, ?_, tw.lg⟩, _, rfl, ?_⟩
    · dsimp only
      rw [List.map_append, tw.lb]; rfl
    · rw [← eB] at PB
      rw [lenG] at PG
      refine pur_agg (mapO_cons rfl (mapO_cons rfl (mapO_cons PT (mapO_cons rfl (mapO_cons (PB.trans ?_) (mapO_cons (PG.trans ?_) (mapO_cons rfl (mapO_cons rfl (mapO_cons rfl rfl)))))))))
      · simp only [Sl.av, ← eB]
      · simp only [Sl.av, lenG]
end
end Go.AM.B

/- What the tower takes. -/
namespace Go.AM.B
noncomputable section
set_option linter.unusedVariables false
set_option linter.unusedSimpArgs false

theorem find_map {α β : Type} (f : α → Int × β) (id : Int) (L : List α) : (L.find? fun a => (f a).1 == id).map f = (L.map f).find? fun p => p.1 == id := by
  induction L with
  | nil => rfl
  | cons a L ih =>
    rw [List.map_cons, List.find?_cons, List.find?_cons]
    cases (f a).1 == id with
    | true => rfl
    | false => exact ih
theorem find_range {β : Type} (F : Nat → β) (id : Int) : ∀ d : Nat, (((List.range d).map fun (j : Nat) => ((j : Int) + 1, F j)).find? fun p => p.1 == id) = if 1 ≤ id ∧ id ≤ d then some (id, F (id - 1).toNat) else none := by
  intro d
  induction d with
  | zero => simp; omega
  | succ d ih =>
    rw [List.range_succ, List.map_append, List.find?_append, ih]
    by_cases h : 1 ≤ id ∧ id ≤ d
    · rw [if_pos h, if_pos (by omega)]; rfl
    · rw [if_neg h]
      by_cases h2 : id = (d : Int) + 1
      · rw [if_pos (by omega)]
        subst h2
        have : ((d : Int) + 1 - 1).toNat = d := by omega
        simp [this]
      · rw [if_neg (by omega)]
        have : (((d : Int) + 1) == id) = false := by simp; omega
        simp [this]
variable {w d l : Nat} {C : Config}
theorem IsTower.blk (h : IsTower w d l C) (id : Int) : blkL C id = if 1 ≤ id ∧ id ≤ d then [jmpI id] else if id = (d : Int) + 1 then List.replicate l zeroI else [] := by
  have e := find_map (fun b : Block => (b.id, b.code.l)) id C.blocks.l
  rw [h.b, List.find?_append, find_range] at e
  have e2 : blkL C id = (((C.blocks.l.find? fun a => a.id == id).map fun b => (b.id, b.code.l)).map (·.2)).getD [] := by unfold blkL; rw [Option.map_map]; rfl
  rw [e2, e]
  by_cases h1 : 1 ≤ id ∧ id ≤ d
  · rw [if_pos h1, if_pos h1]
    have : (((id - 1).toNat : Nat) : Int) + 1 = id := by omega
    rw [this]; rfl
  · rw [if_neg h1, if_neg h1]
    by_cases h2 : id = (d : Int) + 1
    · subst h2; simp
    · have : (((d : Int) + 1) == id) = false := by simp; omega
      simp [this, if_neg h2]
theorem IsTower.grp (h : IsTower w d l C) (id : Int) : ((solve C).group id).map (fun g => (g.id, g.kind, g.buckets.l)) = if 1 ≤ id ∧ id ≤ d then some (id, 1, List.replicate w ⟨0, id + 1⟩) else none := by
  have e := find_map (fun g : Group => (g.id, g.kind, g.buckets.l)) id C.groups.l
  rw [h.g, find_range] at e
  rw [solve_grp]
  refine e.trans ?_
  by_cases h1 : 1 ≤ id ∧ id ≤ d
  · rw [if_pos h1, if_pos h1]
    have : (((id - 1).toNat : Nat) : Int) + 1 = id := by omega
    rw [this]
  · rw [if_neg h1, if_neg h1]
theorem IsTower.grp' (h : IsTower w d l C) (id : Int) : (solve C).buckets id = (if 1 ≤ id ∧ id ≤ d then List.replicate w ⟨0, id + 1⟩ else []) ∧ kindOf ((solve C).group id) = if 1 ≤ id ∧ id ≤ d then 1 else 0 := by
  have e := h.grp id
  unfold Solv.buckets kindOf
  cases hg : (solve C).group id with
  | none =>
    rw [hg] at e
    by_cases h1 : 1 ≤ id ∧ id ≤ d
    · rw [if_pos h1] at e; cases e
    · rw [if_neg h1, if_neg h1]; exact ⟨rfl, rfl⟩
  | some g =>
    rw [hg] at e
    by_cases h1 : 1 ≤ id ∧ id ≤ d
    · rw [if_pos h1] at e ⊢
      simp only [Option.map_some, Option.some.injEq, Prod.mk.injEq] at e
      rw [if_pos h1]
      exact ⟨e.2.2, e.2.1⟩
    · rw [if_neg h1] at e; cases e
theorem IsTower.tab (h : IsTower w d l C) (id : Int) : tabL C id = (if id = 1 then [1] else []) ∧ (C.tables.l.find? fun t => t.id == id).isSome = decide (id = 1) := by
  have e := find_map (fun t : Table => (t.id, t.miss)) id C.tables.l
  rw [h.t] at e
  unfold tabL
  rw [h.e]
  by_cases h1 : id = 1
  · subst h1
    cases hf : C.tables.l.find? (fun t => t.id == 1) with
    | none => rw [hf] at e; simp at e
    | some t =>
      rw [hf] at e
      simp at e
      simp [e.2]
  · have : ((1 : Int) == id) = false := by simp; omega
    cases hf : C.tables.l.find? (fun t => t.id == id) with
    | none => simp [h1]
    | some t => rw [hf] at e; simp [this] at e
theorem IsTower.acc1 (h : IsTower w d l C) : ∀ (m i : Nat), i + m = d → Acc (Rl (solve C)) (1, (i : Int) + 1) := by
  intro m
  induction m with
  | zero =>
    intro i hi
    refine ⟨_, fun y hy => ?_⟩
    have hy' : y ∈ (solve C).leads (1, (i : Int) + 1) := hy
    rw [leads_1, solve_blk, h.blk, if_neg (by omega), if_pos (by omega)] at hy'
    obtain ⟨x, hx, hy'⟩ := List.mem_flatMap.1 hy'
    rw [(List.mem_replicate.1 hx).2] at hy'
    cases hy'
  | succ m ih =>
    intro i hi
    refine ⟨_, fun y hy => ?_⟩
    have hy' : y ∈ (solve C).leads (1, (i : Int) + 1) := hy
    rw [leads_1, solve_blk, h.blk, if_pos (by omega)] at hy'
    have e : y = (2, (i : Int) + 1) := by
      have : y ∈ [((2 : Int), (i : Int) + 1)] := hy'
      simpa using this
    subst e
    refine ⟨_, fun y hy => ?_⟩
    have hy2 : y ∈ (solve C).leads (2, (i : Int) + 1) := hy
    rw [leads_g _ _ (by decide) (by decide), (h.grp' _).1, if_pos (by omega)] at hy2
    obtain ⟨b, hb, rfl⟩ := List.mem_map.1 hy2
    rw [(List.mem_replicate.1 hb).2]
    have := ih (i + 1) (by omega)
    have e2 : ((i + 1 : Nat) : Int) + 1 = (i : Int) + 1 + 1 := by omega
    rw [e2] at this
    exact this
theorem IsTower.acy (h : IsTower w d l C) : B.acy (solve C) := by
  have blk : ∀ z : Int, Acc (Rl (solve C)) (1, z) := by
    intro z
    by_cases hz : 1 ≤ z ∧ z ≤ (d : Int) + 1
    · have := h.acc1 (d - (z - 1).toNat) (z - 1).toNat (by omega)
      have e : (((z - 1).toNat : Nat) : Int) + 1 = z := by omega
      rw [e] at this; exact this
    · refine ⟨_, fun y hy => ?_⟩
      have hy' : y ∈ (solve C).leads (1, z) := hy
      rw [leads_1, solve_blk, h.blk, if_neg (by omega), if_neg (by omega)] at hy'
      cases hy'
  rintro ⟨k, z⟩
  refine ⟨_, fun y hy => ?_⟩
  have hy' : y ∈ (solve C).leads (k, z) := hy
  by_cases h0 : k = 0
  · subst h0
    rw [leads_0] at hy'
    obtain ⟨b, _, rfl⟩ := List.mem_map.1 hy'
    exact blk b
  by_cases h1 : k = 1
  · subst h1; exact (blk z).inv hy
  rw [leads_g _ _ h0 h1] at hy'
  obtain ⟨b, _, rfl⟩ := List.mem_map.1 hy'
  exact blk _
theorem codeV_zero (V : Th → Int) : ∀ l : Nat, (codeV V (List.replicate l zeroI)).getD 0 0 = min 65537 (l : Int) := by
  intro l
  induction l with
  | zero => rfl
  | succ l ih =>
    rw [List.replicate_succ]
    have : (codeV V (zeroI :: List.replicate l zeroI)).getD 0 0 = min over (1 + (codeV V (List.replicate l zeroI)).getD 0 0) := rfl
    rw [this, ih]
    have e : over = 65537 := rfl
    omega
theorem fold_rep {r : Int} (hr : 0 ≤ r) : ∀ (w : Nat) (a : Int), 0 ≤ a → a ≤ 65537 → (List.replicate w r).foldl (fun n r => if (1 : Int) = 1 then min over (n + r) else max n r) a = min 65537 (a + w * r) := by
  intro w
  induction w with
  | zero => intro a h0 h1; simp; omega
  | succ w ih =>
    intro a h0 h1
    have e : over = 65537 := rfl
    rw [List.replicate_succ, List.foldl_cons, if_pos rfl, ih _ (by omega) (by omega)]
    have hm : (0 : Int) ≤ (w : Int) * r := Int.mul_nonneg (by omega) hr
    have : ((w + 1 : Nat) : Int) * r = (w : Int) * r + r := by rw [Int.natCast_add, Int.add_mul]; omega
    rw [this]
    omega
def want (w l : Nat) : Nat → Int
  | 0 => l
  | m + 1 => min 65537 (1 + w * want w l m)
theorem want_bnd (hl : l ≤ 65537) : ∀ m, 0 ≤ want w l m ∧ want w l m ≤ 65537 := by
  intro m
  induction m with
  | zero => simp only [want]; omega
  | succ m ih =>
    have : (0 : Int) ≤ (w : Int) * want w l m := Int.mul_nonneg (by omega) ih.1
    simp only [want]; omega
theorem IsTower.val1 (h : IsTower w d l C) (hl : l ≤ 65537) : ∀ (m i : Nat), i + m = d → val (solve C) (1, (i : Int) + 1) = want w l m := by
  have ha := h.acy
  have hv := val_is ha
  have ho : over = 65537 := rfl
  intro m
  induction m with
  | zero =>
    intro i hi
    rw [hv]
    unfold comb comb0
    rw [if_neg (fun e => by cases e), if_pos rfl, solve_blk, h.blk, if_neg (by omega), if_pos (by omega), codeV_zero]
    simp only [want]; omega
  | succ m ih =>
    intro i hi
    have hb := want_bnd (w := w) hl m
    have e2 : ((i + 1 : Nat) : Int) + 1 = (i : Int) + 1 + 1 := by omega
    have h1 := ih (i + 1) (by omega)
    rw [e2] at h1
    have g : val (solve C) (2, (i : Int) + 1) = min 65537 (w * want w l m) := by
      rw [hv]
      unfold comb comb0
      rw [if_neg (fun e => by cases e), if_neg (fun e => by cases e), (h.grp' _).1, (h.grp' _).2, if_pos (by omega), if_pos (by omega), List.map_replicate]
      dsimp only
      rw [h1, fold_rep hb.1 w 0 (by omega) (by omega)]
      omega
    have hm : (0 : Int) ≤ (w : Int) * want w l m := Int.mul_nonneg (by omega) hb.1
    rw [hv]
    unfold comb comb0
    rw [if_neg (fun e => by cases e), if_pos rfl, solve_blk, h.blk, if_pos (by omega)]
    have : (codeV (val (solve C)) [jmpI ((i : Int) + 1)]).getD 0 0 = min over (1 + val (solve C) (2, (i : Int) + 1)) := rfl
    rw [this, g]
    simp only [want]; omega
theorem IsTower.of (h : IsTower w d l C) (hl : l ≤ 65537) : ofB C = (min 65537 (1 + want w l d), 0) := by
  have ha := h.acy
  have hv := val_is ha
  have ho : over = 65537 := rfl
  have hb := want_bnd (w := w) hl d
  have v1 := h.val1 hl d 0 (by omega)
  have e : bnd (solve C) (0, 1) = (val (solve C) (0, 1), 0) := by simp [bnd, ha]
  have v0 : val (solve C) (0, 1) = min 65537 (want w l d + 1) := by
    rw [hv]
    unfold comb comb0
    rw [if_pos rfl, solve_has, (h.tab 1).2, if_pos (show decide ((1 : Int) = 1) = true from rfl)]
    dsimp only
    rw [solve_tab, (h.tab 1).1, if_pos rfl]
    simp only [List.map_cons, List.map_nil, List.foldl_cons, List.foldl_nil]
    have : val (solve C) (1, 1) = want w l d := v1
    rw [this]
    omega
  have hlo := longB_bnd (l := C.nodes.l) (by rw [h.n]; decide)
  have : C.nodes.l.length = 0 := by rw [h.n]; rfl
  unfold ofB
  rw [e, if_pos rfl, v0]
  have : longB C.nodes.l = 0 := by omega
  rw [this]
  dsimp only
  congr 1
  omega
theorem IsTower.small (h : IsTower w d l C) (hw : w < 10000) (hd : d < 10000) (hl : l < 10000) : Small C := by
  have lt : C.tables.l.length = 1 := by have := congrArg List.length h.t; simpa using this
  have lb : C.blocks.l.length = d + 1 := by have := congrArg List.length h.b; simpa using this
  have lg : C.groups.l.length = d := by have := congrArg List.length h.g; simpa using this
  refine ⟨by rw [h.n]; decide, by rw [h.n]; simp, by omega, by rw [h.e]; decide, by omega, by omega, fun x hx => ?_, fun x hx => ?_⟩
  · have := List.mem_map_of_mem (f := fun b : Block => (b.id, b.code.l)) hx
    rw [h.b] at this
    rcases List.mem_append.1 this with h1 | h1
    · obtain ⟨j, _, e⟩ := List.mem_map.1 h1
      have := (Prod.mk.inj e).2
      rw [← this]; simp
    · simp only [List.mem_singleton, Prod.mk.injEq] at h1
      rw [h1.2, List.length_replicate]; omega
  · have := List.mem_map_of_mem (f := fun g : Group => (g.id, g.kind, g.buckets.l)) hx
    rw [h.g] at this
    obtain ⟨j, _, e⟩ := List.mem_map.1 this
    have := (Prod.mk.inj (Prod.mk.inj e).2).2
    rw [← this, List.length_replicate]; omega
end
end Go.AM.B

/- The law BoundTower. -/
namespace Go.AM.B
open Go.Proofs.Ytebogdeaiecldaa.Tab
noncomputable section
set_option linter.unusedVariables false
set_option linter.unusedSimpArgs false
set_option maxHeartbeats 4000000

theorem u8_rem {a : Int} (h : litOk .u8 a) (m : Int) (hm : 0 < m) (hm2 : m ≤ 256) : ∃ k : Nat, (k : Int) < m ∧ IntKind.wrap .i64 (a.tmod m) = (k : Int) := by
  have h0 : 0 ≤ a := by
    unfold litOk Lit.wf at h
    simp only [Bool.and_eq_true, decide_eq_true_eq] at h
    exact h.1
  have h1 := Int.tmod_nonneg m h0
  have h2 := Int.tmod_lt_of_pos a hm
  generalize a.tmod m = z at h1 h2
  exact ⟨z.toNat, by omega, by rw [wrap64 (by omega) (by omega)]; omega⟩
theorem want_succ (w l m : Nat) : want w l (m + 1) = min 65537 (1 + w * want w l m) := rfl
theorem towerL_c (a b c : Int) (ka : litOk .u8 a) (kb : litOk .u8 b) (kc : litOk .u8 c) : VC1 T 9 [.int .u8 a, .int .u8 b, .int .u8 c] (.bool true) := by
  have l3 := awake_c
  obtain ⟨w, hw, ew⟩ := u8_rem ka 17 (by decide) (by decide)
  obtain ⟨d, hd, ed⟩ := u8_rem kb 33 (by decide) (by decide)
  obtain ⟨l, hl, el⟩ := u8_rem kc 33 (by decide) (by decide)
  obtain ⟨C, hC, h24⟩ := tower_c w d l (by omega) (by omega) (by omega)
  have hof := hC.of (by omega)
  have hofc := ofc_c C (hC.small (by omega) (by omega) (by omega))
  rw [hof] at hofc
  have hb := fun m => want_bnd (w := w) (l := l) (by omega) m
  refine VC1.of (vf := v9) rfl rfl ?_
  unfold v9
  repeat (first | refine W.seq ?_ | refine W.ops ?_ | refine WL.off rfl rfl ?_ | refine WL.val rfl rfl rfl ?_ | refine WL.nil ?_ | refine W.block ?_ | refine W.outBlock ?_ | refine W.skip ?_ | refine W.exit rfl ?_ | refine WL.box rfl rfl rfl ?_ | refine W.opsD ?_ | refine W.condT rfl ?_ | refine W.condF rfl ?_)
  rw [ew, ed, el]
  refine WL.pure rfl rfl rfl h24 rfl ?_
  repeat (first | refine W.seq ?_ | refine W.ops ?_ | refine WL.off rfl rfl ?_ | refine WL.val rfl rfl rfl ?_ | refine WL.nil ?_ | refine W.block ?_ | refine W.outBlock ?_ | refine W.skip ?_ | refine W.exit rfl ?_ | refine WL.box rfl rfl rfl ?_ | refine W.opsD ?_ | refine W.condT rfl ?_ | refine W.condF rfl ?_)
  refine WL.view rfl rfl rfl hofc rfl rfl ?_
  repeat (first | refine W.seq ?_ | refine W.ops ?_ | refine WL.off rfl rfl ?_ | refine WL.val rfl rfl rfl ?_ | refine WL.nil ?_ | refine W.block ?_ | refine W.outBlock ?_ | refine W.skip ?_ | refine W.exit rfl ?_ | refine WL.box rfl rfl rfl ?_ | refine W.opsD ?_ | refine W.condT rfl ?_ | refine W.condF rfl ?_)
  refine W.loopE (E0 := envOf [(7, _), (8, _), (10, _), (11, _), (12, _), (13, _)]) rfl (β := Nat) (fun b => [(12, .v (.int .i64 (want w l b))), (13, .v (.int .i64 b))])
    (fun b h n => b ≤ d) (fun b => d - b) 0 rfl (by simp) ?_
  rintro i h n hi ih
  repeat (first | refine W.seq ?_ | refine W.ops ?_ | refine WL.off rfl rfl ?_ | refine WL.val rfl rfl rfl ?_ | refine WL.nil ?_ | refine W.block ?_ | refine W.outBlock ?_ | refine W.skip ?_ | refine W.exit rfl ?_ | refine WL.box rfl rfl rfl ?_ | refine W.opsD ?_ | refine W.condT rfl ?_ | refine W.condF rfl ?_)
  refine W.condS rfl (fun hb2 => ?_) (fun hb2 => ?_)
  · have hlt : i < d := by have := of_decide_eq_true hb2; omega
    repeat (first | refine W.seq ?_ | refine W.ops ?_ | refine WL.off rfl rfl ?_ | refine WL.val rfl rfl rfl ?_ | refine WL.nil ?_ | refine W.block ?_ | refine W.outBlock ?_ | refine W.skip ?_ | refine W.exit rfl ?_ | refine WL.box rfl rfl rfl ?_ | refine W.opsD ?_ | refine W.condT rfl ?_ | refine W.condF rfl ?_)
    have hbi := hb i
    have hm : (0 : Int) ≤ (w : Int) * want w l i := Int.mul_nonneg (by omega) hbi.1
    have hm2 : (w : Int) * want w l i ≤ 17 * 65537 := Int.le_trans (Int.mul_le_mul_of_nonneg_right (by omega) hbi.1) (Int.mul_le_mul_of_nonneg_left hbi.2 (by decide))
    have ez : min 65537 (IntKind.wrap .i64 (1 + IntKind.wrap .i64 (w * want w l i))) = want w l (i + 1) := by
      rw [wrap64 (n := (w : Int) * want w l i) (by omega) (by omega), wrap64 (by omega) (by omega), want_succ]
    refine ih (i + 1) _ _ _ hlt (by omega) (by rw [← wrap64_nat (k := i) (by omega), ← ez]; rfl)
  · clear ih
    have hge : i = d := by have := of_decide_eq_false hb2; omega
    subst hge
    have hbi := hb i
    repeat (first | refine W.seq ?_ | refine W.ops ?_ | refine WL.off rfl rfl ?_ | refine WL.val rfl rfl rfl ?_ | refine WL.nil ?_ | refine W.block ?_ | refine W.outBlock ?_ | refine W.skip ?_ | refine W.exit rfl ?_ | refine WL.box rfl rfl rfl ?_ | refine W.opsD ?_ | refine W.condT rfl ?_ | refine W.condF rfl ?_)
    have ez : IntKind.wrap .i64 (1 + want w l i) = 1 + want w l i := wrap64 (by omega) (by omega)
    rw [ez]
    refine WL.splitG rfl (fun g => ?_) (fun g => ?_)
    · repeat (first | refine W.seq ?_ | refine W.ops ?_ | refine WL.off rfl rfl ?_ | refine WL.val rfl rfl rfl ?_ | refine WL.nil ?_ | refine W.block ?_ | refine W.outBlock ?_ | refine W.skip ?_ | refine W.exit rfl ?_ | refine WL.box rfl rfl rfl ?_ | refine W.opsD ?_ | refine W.condT rfl ?_ | refine W.condF rfl ?_)
      refine WL.view rfl rfl rfl l3 rfl rfl ?_
      repeat (first | refine W.seq ?_ | refine W.ops ?_ | refine WL.off rfl rfl ?_ | refine WL.val rfl rfl rfl ?_ | refine WL.nil ?_ | refine W.block ?_ | refine W.outBlock ?_ | refine W.skip ?_ | refine W.exit rfl ?_ | refine WL.box rfl rfl rfl ?_ | refine W.opsD ?_ | refine W.condT rfl ?_ | refine W.condF rfl ?_)
      exact W.ret ⟨_, rfl, rfl⟩
    · simp at g
end
end Go.AM.B
