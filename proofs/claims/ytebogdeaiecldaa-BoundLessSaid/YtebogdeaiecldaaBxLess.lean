/- Parts of the proof: B.Less, AM.Row. -/
import Derived.Test.YtebogdeaiecldaaBxArgs
import Derived.Test.YtebogdeaiecldaaBxGraph
import Derived.ChangeSame
import Derived.JoinedOf
import Derived.JoinedAt
import Derived.JoinedStill
import Derived.RowKit
import Derived.ProofKit
/- The law BoundLess. -/
namespace Go.AM.B
open Go.Proofs.Ytebogdeaiecldaa.Tab
noncomputable section
set_option linter.unusedVariables false
set_option linter.unusedSimpArgs false
set_option maxHeartbeats 4000000

def mkD (c : Config) (E : Sl Entry) (B : Sl Block) : Config := { c with entries := E, blocks := B }
theorem purE {L : List Entry} {h : Heap} {o : AM.Id} {q : Bool} {k : Nat} (hk : k < L.length) (hg : h.get o = some (.cells ([] ++ ((L.drop 0).take (k - 0)).flatMap Entry.enc ++ ((L.drop (k + 1)).take (L.length - (k + 1))).flatMap Entry.enc))) :
    AM.pur 39 h (.slice o 0 (0 + (k - 0) + (L.length - (k + 1))) 11 q) = some (Sl.av 11 Entry.enc ⟨L.take k ++ L.drop (k + 1), q, 11⟩) := by
  have e : [] ++ ((L.drop 0).take (k - 0)).flatMap Entry.enc ++ ((L.drop (k + 1)).take (L.length - (k + 1))).flatMap Entry.enc = (L.take k ++ L.drop (k + 1)).flatMap Entry.enc := by
    rw [List.nil_append, List.drop_zero, Nat.sub_zero, List.take_of_length_le (l := L.drop (k + 1)) (by rw [List.length_drop]; exact Nat.le_refl _), List.flatMap_append]
  have en : 0 + (k - 0) + (L.length - (k + 1)) = (L.take k ++ L.drop (k + 1)).length := by rw [List.length_append, List.length_take, List.length_drop]; omega
  rw [e] at hg
  rw [en]
  refine pur_slice (k := 38) hg (flat_len (k := 11) (fun _ => rfl) _) ?_
  intro a ha; obtain ⟨x, _, ha⟩ := List.mem_flatMap.1 ha; simp only [Entry.enc, List.mem_cons, List.not_mem_nil, or_false] at ha; rcases ha with rfl | rfl | rfl | rfl | rfl | rfl | rfl | rfl | rfl | rfl | rfl <;> rfl
def nob (id : Int) : Block := ⟨id, ⟨[], true, 0⟩⟩
theorem purB {L : List Block} {h : Heap} {o : AM.Id} {q : Bool} {k : Nat} (hk : k < L.length) (hg : h.get o = some (.cells ((L.take k).flatMap Block.enc ++ [AV.int .i64 L[k].id, AV.nils] ++ (L.drop (k + 1)).flatMap Block.enc))) :
    AM.pur 39 h (.slice o 0 (0 + L.length) 2 q) = some (Sl.av 2 Block.enc ⟨L.set k (nob L[k].id), q, 2⟩) := by
  have e : ((L.take k).flatMap Block.enc ++ [AV.int .i64 L[k].id, AV.nils] ++ (L.drop (k + 1)).flatMap Block.enc).map fz = (L.set k (nob L[k].id)).flatMap Block.enc := by
    rw [List.map_append, List.map_append, map_flat (enc' := Block.enc) (fun _ => rfl), map_flat (enc' := Block.enc) (fun _ => rfl), set_split L hk, List.flatMap_append, List.flatMap_append]
    rfl
  have en : 0 + L.length = (L.set k (nob L[k].id)).length := by rw [List.length_set]; omega
  have := pur_sliceF (k := 38) (clip := q) (len := 0 + L.length) (esz := 2) hg (by rw [List.length_append, List.length_append, flat_len (k := 2) (fun _ => rfl), flat_len (k := 2) (fun _ => rfl), List.length_take, List.length_drop]; simp only [List.length_cons, List.length_nil]; omega) ?_
  · rw [this, e, en]; rfl
  intro a ha
  rcases List.mem_append.1 ha with ha | ha
  · rcases List.mem_append.1 ha with ha | ha
    · obtain ⟨x, _, ha⟩ := List.mem_flatMap.1 ha; simp only [Block.enc, List.mem_cons, List.not_mem_nil, or_false] at ha; rcases ha with rfl | rfl <;> rfl
    · simp only [List.mem_cons, List.not_mem_nil, or_false] at ha; rcases ha with rfl | rfl <;> rfl
  · obtain ⟨x, _, ha⟩ := List.mem_flatMap.1 ha; simp only [Block.enc, List.mem_cons, List.not_mem_nil, or_false] at ha; rcases ha with rfl | rfl <;> rfl
theorem mkD_pur {c : Config} {E : Sl Entry} {B : Sl Block} {h : Heap} {x y : AV} (h1 : AM.pur 39 h x = some (E.av 11 Entry.enc)) (h2 : AM.pur 39 h y = some (B.av 2 Block.enc)) :
    AM.pur purLimit h (.agg [c.nodes.av 9 Node.enc, c.fields.av 5 Field.enc, c.tables.av 5 Table.enc, x, y, c.groups.av 4 Group.enc, c.meters.av 3 Meter.enc, c.regs.av 2 Regs.enc, c.counters.av 1 encI]) = some (.agg (mkD c E B).enc) :=
  pur_agg (mapO_cons rfl (mapO_cons rfl (mapO_cons rfl (mapO_cons h1 (mapO_cons h2 (mapO_cons rfl (mapO_cons rfl (mapO_cons rfl (mapO_cons rfl rfl)))))))))
theorem find_setb {L : List Block} {k : Nat} (hk : k < L.length) (id : Int) : (((L.set k (nob L[k].id)).find? fun b => b.id == id).map (·.code.l)).getD [] = ((L.find? fun b => b.id == id).map (·.code.l)).getD [] ∨ (((L.set k (nob L[k].id)).find? fun b => b.id == id).map (·.code.l)).getD [] = [] := by
  induction L generalizing k with
  | nil => exact absurd hk (by simp)
  | cons a l ih =>
    cases k with
    | zero =>
      simp only [List.set_cons_zero, List.getElem_cons_zero, List.find?_cons]
      have : (nob a.id).id = a.id := rfl
      rw [this]
      cases a.id == id with
      | true => exact .inr rfl
      | false => exact .inl rfl
    | succ k =>
      simp only [List.set_cons_succ, List.getElem_cons_succ, List.find?_cons]
      cases a.id == id with
      | true => exact .inl rfl
      | false => exact ih (by simpa using hk)
theorem mkD_less {c : Config} {E : Sl Entry} {B : Sl Block} (h1 : ∀ x ∈ E.l, x ∈ c.entries.l) (h2 : B.l = c.blocks.l ∨ ∃ k, ∃ hk : k < c.blocks.l.length, B.l = c.blocks.l.set k (nob c.blocks.l[k].id)) : LessC (mkD c E B) c := by
  refine ⟨rfl, h1, fun id => ?_, rfl⟩
  unfold blkL mkD
  dsimp only
  rcases h2 with e | ⟨k, hk, e⟩
  · rw [e]; exact .inl rfl
  · rw [e]; exact find_setb hk id
theorem mkD_small {c : Config} {E : Sl Entry} {B : Sl Block} (sm : Small c) (h1 : E.l.length < 100000) (h2 : B.l = c.blocks.l ∨ ∃ k, ∃ hk : k < c.blocks.l.length, B.l = c.blocks.l.set k (nob c.blocks.l[k].id)) : Small (mkD c E B) := by
  refine ⟨sm.sn, sm.sa, sm.st, h1, ?_, sm.sg, ?_, sm.sk⟩
  · rcases h2 with e | ⟨k, hk, e⟩
    · show B.l.length < _; rw [e]; exact sm.sb
    · show B.l.length < _; rw [e, List.length_set]; exact sm.sb
  · intro x (hx : x ∈ B.l)
    rcases h2 with e | ⟨k, hk, e⟩
    · rw [e] at hx; exact sm.sc x hx
    · rw [e] at hx
      rcases List.mem_or_eq_of_mem_set hx with h | h
      · exact sm.sc x h
      · rw [h]; exact (by decide : (0 : Nat) < 100000)
theorem bnd_acy {s : Solv} (h : acy s) (x : Th) : bnd s x = (val s x, 0) := by simp [bnd, h]
theorem of_less {d c : Config} (h : LessC d c) (hn : d.nodes.l = c.nodes.l) (hs : c.nodes.l.length < 100000) (ha : acy (solve c)) : ∃ v w, ofB c = (v, 0) ∧ ofB d = (w, 0) ∧ w ≤ v := by
  have e1 : bnd (solve c) (0, 1) = (val (solve c) (0, 1), 0) := by simp [bnd, ha]
  have e2 : bnd (solve d) (0, 1) = (val (solve d) (0, 1), 0) := by simp [bnd, h.acy ha]
  have hv := h.val ha (0, 1)
  refine ⟨_, _, by unfold ofB; rw [e1, if_pos rfl], by unfold ofB; rw [e2, if_pos rfl], ?_⟩
  dsimp only
  rw [hn]
  omega
theorem less_c (c : Config) (i j id : Int) (hc : Config.ok c) : VC1 T 7 [.agg c.enc, .int .i64 i, .int .i64 j, .int .i64 id] (.bool true) := by
  have l1 := large_k hc
  have l3 := awake_c
  refine VC1.of (vf := v7) rfl rfl ?_
  unfold v7
  repeat (first | refine W.seq ?_ | refine W.ops ?_ | refine WL.off rfl rfl ?_ | refine WL.val rfl rfl rfl ?_ | refine WL.nil ?_ | refine W.block ?_ | refine W.outBlock ?_ | refine W.skip ?_ | refine W.exit rfl ?_ | refine WL.box rfl rfl rfl ?_ | refine W.opsD ?_ | refine W.condT rfl ?_ | refine W.condF rfl ?_)
  refine WL.view rfl rfl rfl l1 rfl rfl ?_
  repeat (first | refine W.seq ?_ | refine W.ops ?_ | refine WL.off rfl rfl ?_ | refine WL.val rfl rfl rfl ?_ | refine WL.nil ?_ | refine W.block ?_ | refine W.outBlock ?_ | refine W.skip ?_ | refine W.exit rfl ?_ | refine WL.box rfl rfl rfl ?_ | refine W.opsD ?_ | refine W.condT rfl ?_ | refine W.condF rfl ?_)
  refine WL.splitG rfl (fun g1 => ?_) (fun g1 => ?_)
  · repeat (first | refine W.seq ?_ | refine W.ops ?_ | refine WL.off rfl rfl ?_ | refine WL.val rfl rfl rfl ?_ | refine WL.nil ?_ | refine W.block ?_ | refine W.outBlock ?_ | refine W.skip ?_ | refine W.exit rfl ?_ | refine WL.box rfl rfl rfl ?_ | refine W.opsD ?_ | refine W.condT rfl ?_ | refine W.condF rfl ?_)
    refine WL.view rfl rfl rfl l3 rfl rfl ?_
    repeat (first | refine W.seq ?_ | refine W.ops ?_ | refine WL.off rfl rfl ?_ | refine WL.val rfl rfl rfl ?_ | refine WL.nil ?_ | refine W.block ?_ | refine W.outBlock ?_ | refine W.skip ?_ | refine W.exit rfl ?_ | refine WL.box rfl rfl rfl ?_ | refine W.opsD ?_ | refine W.condT rfl ?_ | refine W.condF rfl ?_)
    exact W.ret ⟨_, rfl, rfl⟩
  obtain ⟨sm1, m1⟩ := large_small g1
  repeat (first | refine W.seq ?_ | refine W.ops ?_ | refine WL.off rfl rfl ?_ | refine WL.val rfl rfl rfl ?_ | refine WL.nil ?_ | refine W.block ?_ | refine W.outBlock ?_ | refine W.skip ?_ | refine W.exit rfl ?_ | refine WL.box rfl rfl rfl ?_ | refine W.opsD ?_ | refine W.condT rfl ?_ | refine W.condF rfl ?_)
  refine WL.view rfl rfl rfl (cyc_c c sm1) rfl rfl ?_
  repeat (first | refine W.seq ?_ | refine W.ops ?_ | refine WL.off rfl rfl ?_ | refine WL.val rfl rfl rfl ?_ | refine WL.nil ?_ | refine W.block ?_ | refine W.outBlock ?_ | refine W.skip ?_ | refine W.exit rfl ?_ | refine WL.box rfl rfl rfl ?_ | refine W.opsD ?_ | refine W.condT rfl ?_ | refine W.condF rfl ?_)
  refine WL.splitG rfl (fun g2 => ?_) (fun g2 => ?_)
  · repeat (first | refine W.seq ?_ | refine W.ops ?_ | refine WL.off rfl rfl ?_ | refine WL.val rfl rfl rfl ?_ | refine WL.nil ?_ | refine W.block ?_ | refine W.outBlock ?_ | refine W.skip ?_ | refine W.exit rfl ?_ | refine WL.box rfl rfl rfl ?_ | refine W.opsD ?_ | refine W.condT rfl ?_ | refine W.condF rfl ?_)
    refine WL.view rfl rfl rfl l3 rfl rfl ?_
    repeat (first | refine W.seq ?_ | refine W.ops ?_ | refine WL.off rfl rfl ?_ | refine WL.val rfl rfl rfl ?_ | refine WL.nil ?_ | refine W.block ?_ | refine W.outBlock ?_ | refine W.skip ?_ | refine W.exit rfl ?_ | refine WL.box rfl rfl rfl ?_ | refine W.opsD ?_ | refine W.condT rfl ?_ | refine W.condF rfl ?_)
    exact W.ret ⟨_, rfl, rfl⟩
  have ha := acy_of g2
  repeat (first | refine W.seq ?_ | refine W.ops ?_ | refine WL.off rfl rfl ?_ | refine WL.val rfl rfl rfl ?_ | refine WL.nil ?_ | refine W.block ?_ | refine W.outBlock ?_ | refine W.skip ?_ | refine W.exit rfl ?_ | refine WL.box rfl rfl rfl ?_ | refine W.opsD ?_ | refine W.condT rfl ?_ | refine W.condF rfl ?_)
  refine WL.view rfl rfl rfl l3 rfl rfl ?_
  repeat (first | refine W.seq ?_ | refine W.ops ?_ | refine WL.off rfl rfl ?_ | refine WL.val rfl rfl rfl ?_ | refine WL.nil ?_ | refine W.block ?_ | refine W.outBlock ?_ | refine W.skip ?_ | refine W.exit rfl ?_ | refine WL.box rfl rfl rfl ?_ | refine W.opsD ?_ | refine W.condT rfl ?_ | refine W.condF rfl ?_ | refine WL.heap rfl rfl rfl ?_)
  have m1' := m1
  unfold n0 at m1'
  have hb : ∀ x, bnd (solve c) x = (val (solve c) x, 0) := fun x => by simp [bnd, ha]
  refine W.condS rfl (fun g3 => ?_) (fun g3 => ?_)
  · have hn : 0 < c.entries.l.length := by simpa using g3
    obtain ⟨k, hk, ek, ez⟩ := idx_rem i hn (by omega)
    repeat (first | refine W.seq ?_ | refine W.ops ?_ | refine WL.off rfl rfl ?_ | refine WL.val rfl rfl rfl ?_ | refine WL.nil ?_ | refine W.block ?_ | refine W.outBlock ?_ | refine W.skip ?_ | refine W.exit rfl ?_ | refine WL.box rfl rfl rfl ?_ | refine W.opsD ?_ | refine W.condT rfl ?_ | refine W.condF rfl ?_)
    refine WL.val rfl (aop_rem rfl rfl ez) rfl ?_
    repeat (first | refine W.seq ?_ | refine W.ops ?_ | refine WL.off rfl rfl ?_ | refine WL.val rfl rfl rfl ?_ | refine WL.nil ?_ | refine W.block ?_ | refine W.outBlock ?_ | refine W.skip ?_ | refine W.exit rfl ?_ | refine WL.box rfl rfl rfl ?_ | refine W.opsD ?_ | refine W.condT rfl ?_ | refine W.condF rfl ?_ | refine WL.heap rfl rfl rfl ?_)
    refine WL.slcP (k := 11) (fun _ => rfl) rfl rfl (slcB_hi rfl ek (by omega)) (Nat.zero_le _) (by omega) rfl ?_
    intro raw1 q1 hr1
    repeat (first | refine W.seq ?_ | refine W.ops ?_ | refine WL.off rfl rfl ?_ | refine WL.val rfl rfl rfl ?_ | refine WL.nil ?_ | refine W.block ?_ | refine W.outBlock ?_ | refine W.skip ?_ | refine W.exit rfl ?_ | refine WL.box rfl rfl rfl ?_ | refine W.opsD ?_ | refine W.condT rfl ?_ | refine W.condF rfl ?_)
    refine WL.appP (cs := []) [(5, 0)] rfl rfl rfl (by rw [Heap.get_put, if_pos rfl]; rfl) rfl hr1 (ones_flat (fun _ => rfl) _) (by omega) (List.mem_singleton.2 rfl) rfl ?_
    intro po pq ph pg pm pf
    repeat (first | refine W.seq ?_ | refine W.ops ?_ | refine WL.off rfl rfl ?_ | refine WL.val rfl rfl rfl ?_ | refine WL.nil ?_ | refine W.block ?_ | refine W.outBlock ?_ | refine W.skip ?_ | refine W.exit rfl ?_ | refine WL.box rfl rfl rfl ?_ | refine W.opsD ?_ | refine W.condT rfl ?_ | refine W.condF rfl ?_)
    refine WL.slcP (k := 11) (fun _ => rfl) rfl rfl (slcB_lo rfl (by rw [ek]; exact wrap64_nat (by omega)) (by omega)) (by omega) (Nat.le_refl _) rfl ?_
    intro raw2 q2 hr2
    repeat (first | refine W.seq ?_ | refine W.ops ?_ | refine WL.off rfl rfl ?_ | refine WL.val rfl rfl rfl ?_ | refine WL.nil ?_ | refine W.block ?_ | refine W.outBlock ?_ | refine W.skip ?_ | refine W.exit rfl ?_ | refine WL.box rfl rfl rfl ?_ | refine W.opsD ?_ | refine W.condT rfl ?_ | refine W.condF rfl ?_)
    refine WL.appP [(5, 5), (5, 0)] rfl rfl rfl pg (by rw [List.nil_append, flat_len (k := 11) (fun _ => rfl), List.length_take, List.length_drop]; omega) hr2 (ones_flat (fun _ => rfl) _) (by omega) pm rfl ?_
    intro o1 q1' H1 G1 M1 W1
    repeat (first | refine W.seq ?_ | refine W.ops ?_ | refine WL.off rfl rfl ?_ | refine WL.val rfl rfl rfl ?_ | refine WL.nil ?_ | refine W.block ?_ | refine W.outBlock ?_ | refine W.skip ?_ | refine W.exit rfl ?_ | refine WL.box rfl rfl rfl ?_ | refine W.opsD ?_ | refine W.condT rfl ?_ | refine W.condF rfl ?_)
    have hLE : ∀ x ∈ (⟨c.entries.l.take k ++ c.entries.l.drop (k + 1), q1', 11⟩ : Sl Entry).l, x ∈ c.entries.l := by
      intro x hx
      rcases List.mem_append.1 hx with h | h
      · exact List.mem_of_mem_take h
      · exact List.mem_of_mem_drop h
    have hSE : (⟨c.entries.l.take k ++ c.entries.l.drop (k + 1), q1', 11⟩ : Sl Entry).l.length < 100000 := by
      show (c.entries.l.take k ++ c.entries.l.drop (k + 1)).length < 100000
      rw [List.length_append, List.length_take, List.length_drop]; omega
    refine W.condS rfl (fun g4 => ?_) (fun g4 => ?_)
    · have hn2 : 0 < c.blocks.l.length := by simpa using g4
      obtain ⟨k2, hk2, ek2, ez2⟩ := idx_rem j hn2 (by omega)
      repeat (first | refine W.seq ?_ | refine W.ops ?_ | refine WL.off rfl rfl ?_ | refine WL.val rfl rfl rfl ?_ | refine WL.nil ?_ | refine W.block ?_ | refine W.outBlock ?_ | refine W.skip ?_ | refine W.exit rfl ?_ | refine WL.box rfl rfl rfl ?_ | refine W.opsD ?_ | refine W.condT rfl ?_ | refine W.condF rfl ?_)
      refine WL.val rfl (aop_rem rfl rfl ez2) rfl ?_
      repeat (first | refine W.seq ?_ | refine W.ops ?_ | refine WL.off rfl rfl ?_ | refine WL.val rfl rfl rfl ?_ | refine WL.nil ?_ | refine W.block ?_ | refine W.outBlock ?_ | refine W.skip ?_ | refine W.exit rfl ?_ | refine WL.box rfl rfl rfl ?_ | refine W.opsD ?_ | refine W.condT rfl ?_ | refine W.condF rfl ?_ | refine WL.heap rfl rfl rfl ?_)
      refine WL.appP (cs := []) [(8, 0)] rfl rfl rfl (by rw [Heap.get_put, if_pos rfl]; rfl) rfl (sub_all _ _ (flat_len (k := 2) (fun _ => rfl) _)) (ones_flat (fun _ => rfl) _) (by omega) (List.mem_singleton.2 rfl) rfl ?_
      intro o2 q2 H2 G2 M2 W2
      repeat (first | refine W.seq ?_ | refine W.ops ?_ | refine WL.off rfl rfl ?_ | refine WL.val rfl rfl rfl ?_ | refine WL.nil ?_ | refine W.block ?_ | refine W.outBlock ?_ | refine W.skip ?_ | refine W.exit rfl ?_ | refine WL.box rfl rfl rfl ?_ | refine W.opsD ?_ | refine W.condT rfl ?_ | refine W.condF rfl ?_)
      refine WL.val rfl (aop_iaddr_p rfl rfl hk2 ek2) rfl ?_
      repeat (first | refine W.seq ?_ | refine W.ops ?_ | refine WL.off rfl rfl ?_ | refine WL.val rfl rfl rfl ?_ | refine WL.nil ?_ | refine W.block ?_ | refine W.outBlock ?_ | refine W.skip ?_ | refine W.exit rfl ?_ | refine WL.box rfl rfl rfl ?_ | refine W.opsD ?_ | refine W.condT rfl ?_ | refine W.condF rfl ?_)
      refine WL.val rfl (aop_load_el (enc := Block.enc) (o := 0) rfl (fun _ => rfl) hk2 (by decide) rfl) rfl ?_
      repeat (first | refine W.seq ?_ | refine W.ops ?_ | refine WL.off rfl rfl ?_ | refine WL.val rfl rfl rfl ?_ | refine WL.nil ?_ | refine W.block ?_ | refine W.outBlock ?_ | refine W.skip ?_ | refine W.exit rfl ?_ | refine WL.box rfl rfl rfl ?_ | refine W.opsD ?_ | refine W.condT rfl ?_ | refine W.condF rfl ?_)
      refine WL.val rfl (aop_iaddr_h rfl rfl (show k2 < 0 + c.blocks.l.length by omega) ek2) rfl ?_
      rw [List.nil_append] at G2
      refine WL.heap rfl (aop_store_h rfl rfl rfl rfl G2 (by rw [Nat.zero_add]; exact upd_flat (k := 2) (fun _ => rfl) _ hk2 rfl)) rfl ?_
      have QB := purB (h := H2.put o2 (.cells ((c.blocks.l.take k2).flatMap Block.enc ++ [AV.int .i64 c.blocks.l[k2].id, AV.nils] ++ (c.blocks.l.drop (k2 + 1)).flatMap Block.enc))) (q := q2) hk2 (by rw [Heap.get_put, if_pos rfl])
      have eB : (⟨c.blocks.l.set k2 (nob c.blocks.l[k2].id), q2, 2⟩ : Sl Block).l = c.blocks.l ∨ ∃ k, ∃ hk : k < c.blocks.l.length, (⟨c.blocks.l.set k2 (nob c.blocks.l[k2].id), q2, 2⟩ : Sl Block).l = c.blocks.l.set k (nob c.blocks.l[k].id) := .inr ⟨k2, hk2, rfl⟩
      have LS := mkD_less (c := c) (E := ⟨c.entries.l.take k ++ c.entries.l.drop (k + 1), q1', 11⟩) hLE eB
      have SM := mkD_small (c := c) (E := ⟨c.entries.l.take k ++ c.entries.l.drop (k + 1), q1', 11⟩) sm1 hSE eB
      have E1 : (H2.put o2 (.cells ((c.blocks.l.take k2).flatMap Block.enc ++ [AV.int .i64 c.blocks.l[k2].id, AV.nils] ++ (c.blocks.l.drop (k2 + 1)).flatMap Block.enc))).get o1 = H1.get o1 := by
        simp only [List.mem_cons, List.not_mem_nil, or_false] at M1 M2
        rcases M1 with rfl | rfl | rfl
        all_goals
          rw [Heap.get_put, if_neg (by rcases M2 with rfl | rfl <;> decide), W2 _ (by decide) (by decide), Heap.get_put, if_neg (by decide)]
      have QE := purE (q := q1') hk (E1.trans G1)
      repeat (first | refine W.seq ?_ | refine W.ops ?_ | refine WL.off rfl rfl ?_ | refine WL.val rfl rfl rfl ?_ | refine WL.nil ?_ | refine W.block ?_ | refine W.outBlock ?_ | refine W.skip ?_ | refine W.exit rfl ?_ | refine WL.box rfl rfl rfl ?_ | refine W.opsD ?_ | refine W.condT rfl ?_ | refine W.condF rfl ?_)
      refine WL.view rfl rfl rfl (ofc_c c sm1) rfl rfl ?_
      obtain ⟨v, w, ev, ew, hvw⟩ := of_less LS rfl sm1.sn ha
      rw [ev]
      repeat (first | refine W.seq ?_ | refine W.ops ?_ | refine WL.off rfl rfl ?_ | refine WL.val rfl rfl rfl ?_ | refine WL.nil ?_ | refine W.block ?_ | refine W.outBlock ?_ | refine W.skip ?_ | refine W.exit rfl ?_ | refine WL.box rfl rfl rfl ?_ | refine W.opsD ?_ | refine W.condT rfl ?_ | refine W.condF rfl ?_)
      refine WL.view rfl rfl (mapO_cons (mkD_pur (c := c) QE QB) rfl) (ofc_c _ SM) rfl rfl ?_
      rw [ew]
      repeat (first | refine W.seq ?_ | refine W.ops ?_ | refine WL.off rfl rfl ?_ | refine WL.val rfl rfl rfl ?_ | refine WL.nil ?_ | refine W.block ?_ | refine W.outBlock ?_ | refine W.skip ?_ | refine W.exit rfl ?_ | refine WL.box rfl rfl rfl ?_ | refine W.opsD ?_ | refine W.condT rfl ?_ | refine W.condF rfl ?_)
      refine W.condS rfl (fun g5 => ?_) (fun g5 => ?_)
      · have g5' : v < w := of_decide_eq_true g5
        omega
      repeat (first | refine W.seq ?_ | refine W.ops ?_ | refine WL.off rfl rfl ?_ | refine WL.val rfl rfl rfl ?_ | refine WL.nil ?_ | refine W.block ?_ | refine W.outBlock ?_ | refine W.skip ?_ | refine W.exit rfl ?_ | refine WL.box rfl rfl rfl ?_ | refine W.opsD ?_ | refine W.condT rfl ?_ | refine W.condF rfl ?_)
      refine WL.view rfl rfl rfl (group_c c sm1 id) rfl rfl ?_
      rw [hb]
      repeat (first | refine W.seq ?_ | refine W.ops ?_ | refine WL.off rfl rfl ?_ | refine WL.val rfl rfl rfl ?_ | refine WL.nil ?_ | refine W.block ?_ | refine W.outBlock ?_ | refine W.skip ?_ | refine W.exit rfl ?_ | refine WL.box rfl rfl rfl ?_ | refine W.opsD ?_ | refine W.condT rfl ?_ | refine W.condF rfl ?_)
      refine WL.view rfl rfl (mapO_cons (mkD_pur (c := c) QE QB) rfl) (group_c _ SM id) rfl rfl ?_
      rw [bnd_acy ((LS).acy ha)]
      repeat (first | refine W.seq ?_ | refine W.ops ?_ | refine WL.off rfl rfl ?_ | refine WL.val rfl rfl rfl ?_ | refine WL.nil ?_ | refine W.block ?_ | refine W.outBlock ?_ | refine W.skip ?_ | refine W.exit rfl ?_ | refine WL.box rfl rfl rfl ?_ | refine W.opsD ?_ | refine W.condT rfl ?_ | refine W.condF rfl ?_)
      exact W.ret ⟨_, rfl, retB (decide_eq_true ((LS).val ha _))⟩
    · have LS := mkD_less (c := c) (E := ⟨c.entries.l.take k ++ c.entries.l.drop (k + 1), q1', 11⟩) (B := c.blocks) hLE (.inl rfl)
      have SM := mkD_small (c := c) (E := ⟨c.entries.l.take k ++ c.entries.l.drop (k + 1), q1', 11⟩) (B := c.blocks) sm1 hSE (.inl rfl)
      have QE := purE (q := q1') hk G1
      repeat (first | refine W.seq ?_ | refine W.ops ?_ | refine WL.off rfl rfl ?_ | refine WL.val rfl rfl rfl ?_ | refine WL.nil ?_ | refine W.block ?_ | refine W.outBlock ?_ | refine W.skip ?_ | refine W.exit rfl ?_ | refine WL.box rfl rfl rfl ?_ | refine W.opsD ?_ | refine W.condT rfl ?_ | refine W.condF rfl ?_)
      refine WL.view rfl rfl rfl (ofc_c c sm1) rfl rfl ?_
      obtain ⟨v, w, ev, ew, hvw⟩ := of_less LS rfl sm1.sn ha
      rw [ev]
      repeat (first | refine W.seq ?_ | refine W.ops ?_ | refine WL.off rfl rfl ?_ | refine WL.val rfl rfl rfl ?_ | refine WL.nil ?_ | refine W.block ?_ | refine W.outBlock ?_ | refine W.skip ?_ | refine W.exit rfl ?_ | refine WL.box rfl rfl rfl ?_ | refine W.opsD ?_ | refine W.condT rfl ?_ | refine W.condF rfl ?_)
      refine WL.view rfl rfl (mapO_cons (mkD_pur (c := c) (B := c.blocks) (y := c.blocks.av 2 Block.enc) QE rfl) rfl) (ofc_c _ SM) rfl rfl ?_
      rw [ew]
      repeat (first | refine W.seq ?_ | refine W.ops ?_ | refine WL.off rfl rfl ?_ | refine WL.val rfl rfl rfl ?_ | refine WL.nil ?_ | refine W.block ?_ | refine W.outBlock ?_ | refine W.skip ?_ | refine W.exit rfl ?_ | refine WL.box rfl rfl rfl ?_ | refine W.opsD ?_ | refine W.condT rfl ?_ | refine W.condF rfl ?_)
      refine W.condS rfl (fun g5 => ?_) (fun g5 => ?_)
      · have g5' : v < w := of_decide_eq_true g5
        omega
      repeat (first | refine W.seq ?_ | refine W.ops ?_ | refine WL.off rfl rfl ?_ | refine WL.val rfl rfl rfl ?_ | refine WL.nil ?_ | refine W.block ?_ | refine W.outBlock ?_ | refine W.skip ?_ | refine W.exit rfl ?_ | refine WL.box rfl rfl rfl ?_ | refine W.opsD ?_ | refine W.condT rfl ?_ | refine W.condF rfl ?_)
      refine WL.view rfl rfl rfl (group_c c sm1 id) rfl rfl ?_
      rw [hb]
      repeat (first | refine W.seq ?_ | refine W.ops ?_ | refine WL.off rfl rfl ?_ | refine WL.val rfl rfl rfl ?_ | refine WL.nil ?_ | refine W.block ?_ | refine W.outBlock ?_ | refine W.skip ?_ | refine W.exit rfl ?_ | refine WL.box rfl rfl rfl ?_ | refine W.opsD ?_ | refine W.condT rfl ?_ | refine W.condF rfl ?_)
      refine WL.view rfl rfl (mapO_cons (mkD_pur (c := c) (B := c.blocks) (y := c.blocks.av 2 Block.enc) QE rfl) rfl) (group_c _ SM id) rfl rfl ?_
      rw [bnd_acy ((LS).acy ha)]
      repeat (first | refine W.seq ?_ | refine W.ops ?_ | refine WL.off rfl rfl ?_ | refine WL.val rfl rfl rfl ?_ | refine WL.nil ?_ | refine W.block ?_ | refine W.outBlock ?_ | refine W.skip ?_ | refine W.exit rfl ?_ | refine WL.box rfl rfl rfl ?_ | refine W.opsD ?_ | refine W.condT rfl ?_ | refine W.condF rfl ?_)
      exact W.ret ⟨_, rfl, retB (decide_eq_true ((LS).val ha _))⟩
  · repeat (first | refine W.seq ?_ | refine W.ops ?_ | refine WL.off rfl rfl ?_ | refine WL.val rfl rfl rfl ?_ | refine WL.nil ?_ | refine W.block ?_ | refine W.outBlock ?_ | refine W.skip ?_ | refine W.exit rfl ?_ | refine WL.box rfl rfl rfl ?_ | refine W.opsD ?_ | refine W.condT rfl ?_ | refine W.condF rfl ?_)
    refine W.condS rfl (fun g4 => ?_) (fun g4 => ?_)
    · have hn2 : 0 < c.blocks.l.length := by simpa using g4
      obtain ⟨k2, hk2, ek2, ez2⟩ := idx_rem j hn2 (by omega)
      repeat (first | refine W.seq ?_ | refine W.ops ?_ | refine WL.off rfl rfl ?_ | refine WL.val rfl rfl rfl ?_ | refine WL.nil ?_ | refine W.block ?_ | refine W.outBlock ?_ | refine W.skip ?_ | refine W.exit rfl ?_ | refine WL.box rfl rfl rfl ?_ | refine W.opsD ?_ | refine W.condT rfl ?_ | refine W.condF rfl ?_)
      refine WL.val rfl (aop_rem rfl rfl ez2) rfl ?_
      repeat (first | refine W.seq ?_ | refine W.ops ?_ | refine WL.off rfl rfl ?_ | refine WL.val rfl rfl rfl ?_ | refine WL.nil ?_ | refine W.block ?_ | refine W.outBlock ?_ | refine W.skip ?_ | refine W.exit rfl ?_ | refine WL.box rfl rfl rfl ?_ | refine W.opsD ?_ | refine W.condT rfl ?_ | refine W.condF rfl ?_ | refine WL.heap rfl rfl rfl ?_)
      refine WL.appP (cs := []) [(6, 0)] rfl rfl rfl (by rw [Heap.get_put, if_pos rfl]; rfl) rfl (sub_all _ _ (flat_len (k := 2) (fun _ => rfl) _)) (ones_flat (fun _ => rfl) _) (by omega) (List.mem_singleton.2 rfl) rfl ?_
      intro o2 q2 H2 G2 M2 W2
      repeat (first | refine W.seq ?_ | refine W.ops ?_ | refine WL.off rfl rfl ?_ | refine WL.val rfl rfl rfl ?_ | refine WL.nil ?_ | refine W.block ?_ | refine W.outBlock ?_ | refine W.skip ?_ | refine W.exit rfl ?_ | refine WL.box rfl rfl rfl ?_ | refine W.opsD ?_ | refine W.condT rfl ?_ | refine W.condF rfl ?_)
      refine WL.val rfl (aop_iaddr_p rfl rfl hk2 ek2) rfl ?_
      repeat (first | refine W.seq ?_ | refine W.ops ?_ | refine WL.off rfl rfl ?_ | refine WL.val rfl rfl rfl ?_ | refine WL.nil ?_ | refine W.block ?_ | refine W.outBlock ?_ | refine W.skip ?_ | refine W.exit rfl ?_ | refine WL.box rfl rfl rfl ?_ | refine W.opsD ?_ | refine W.condT rfl ?_ | refine W.condF rfl ?_)
      refine WL.val rfl (aop_load_el (enc := Block.enc) (o := 0) rfl (fun _ => rfl) hk2 (by decide) rfl) rfl ?_
      repeat (first | refine W.seq ?_ | refine W.ops ?_ | refine WL.off rfl rfl ?_ | refine WL.val rfl rfl rfl ?_ | refine WL.nil ?_ | refine W.block ?_ | refine W.outBlock ?_ | refine W.skip ?_ | refine W.exit rfl ?_ | refine WL.box rfl rfl rfl ?_ | refine W.opsD ?_ | refine W.condT rfl ?_ | refine W.condF rfl ?_)
      refine WL.val rfl (aop_iaddr_h rfl rfl (show k2 < 0 + c.blocks.l.length by omega) ek2) rfl ?_
      rw [List.nil_append] at G2
      refine WL.heap rfl (aop_store_h rfl rfl rfl rfl G2 (by rw [Nat.zero_add]; exact upd_flat (k := 2) (fun _ => rfl) _ hk2 rfl)) rfl ?_
      have QB := purB (h := H2.put o2 (.cells ((c.blocks.l.take k2).flatMap Block.enc ++ [AV.int .i64 c.blocks.l[k2].id, AV.nils] ++ (c.blocks.l.drop (k2 + 1)).flatMap Block.enc))) (q := q2) hk2 (by rw [Heap.get_put, if_pos rfl])
      have eB : (⟨c.blocks.l.set k2 (nob c.blocks.l[k2].id), q2, 2⟩ : Sl Block).l = c.blocks.l ∨ ∃ k, ∃ hk : k < c.blocks.l.length, (⟨c.blocks.l.set k2 (nob c.blocks.l[k2].id), q2, 2⟩ : Sl Block).l = c.blocks.l.set k (nob c.blocks.l[k].id) := .inr ⟨k2, hk2, rfl⟩
      have LS := mkD_less (c := c) (E := c.entries) (fun x hx => hx) eB
      have SM := mkD_small (c := c) (E := c.entries) sm1 sm1.se eB
      have QE : AM.pur 39 (H2.put o2 (.cells ((c.blocks.l.take k2).flatMap Block.enc ++ [AV.int .i64 c.blocks.l[k2].id, AV.nils] ++ (c.blocks.l.drop (k2 + 1)).flatMap Block.enc))) (c.entries.av 11 Entry.enc) = some (c.entries.av 11 Entry.enc) := rfl
      repeat (first | refine W.seq ?_ | refine W.ops ?_ | refine WL.off rfl rfl ?_ | refine WL.val rfl rfl rfl ?_ | refine WL.nil ?_ | refine W.block ?_ | refine W.outBlock ?_ | refine W.skip ?_ | refine W.exit rfl ?_ | refine WL.box rfl rfl rfl ?_ | refine W.opsD ?_ | refine W.condT rfl ?_ | refine W.condF rfl ?_)
      refine WL.view rfl rfl rfl (ofc_c c sm1) rfl rfl ?_
      obtain ⟨v, w, ev, ew, hvw⟩ := of_less LS rfl sm1.sn ha
      rw [ev]
      repeat (first | refine W.seq ?_ | refine W.ops ?_ | refine WL.off rfl rfl ?_ | refine WL.val rfl rfl rfl ?_ | refine WL.nil ?_ | refine W.block ?_ | refine W.outBlock ?_ | refine W.skip ?_ | refine W.exit rfl ?_ | refine WL.box rfl rfl rfl ?_ | refine W.opsD ?_ | refine W.condT rfl ?_ | refine W.condF rfl ?_)
      refine WL.view rfl rfl (mapO_cons (mkD_pur (c := c) QE QB) rfl) (ofc_c _ SM) rfl rfl ?_
      rw [ew]
      repeat (first | refine W.seq ?_ | refine W.ops ?_ | refine WL.off rfl rfl ?_ | refine WL.val rfl rfl rfl ?_ | refine WL.nil ?_ | refine W.block ?_ | refine W.outBlock ?_ | refine W.skip ?_ | refine W.exit rfl ?_ | refine WL.box rfl rfl rfl ?_ | refine W.opsD ?_ | refine W.condT rfl ?_ | refine W.condF rfl ?_)
      refine W.condS rfl (fun g5 => ?_) (fun g5 => ?_)
      · have g5' : v < w := of_decide_eq_true g5
        omega
      repeat (first | refine W.seq ?_ | refine W.ops ?_ | refine WL.off rfl rfl ?_ | refine WL.val rfl rfl rfl ?_ | refine WL.nil ?_ | refine W.block ?_ | refine W.outBlock ?_ | refine W.skip ?_ | refine W.exit rfl ?_ | refine WL.box rfl rfl rfl ?_ | refine W.opsD ?_ | refine W.condT rfl ?_ | refine W.condF rfl ?_)
      refine WL.view rfl rfl rfl (group_c c sm1 id) rfl rfl ?_
      rw [hb]
      repeat (first | refine W.seq ?_ | refine W.ops ?_ | refine WL.off rfl rfl ?_ | refine WL.val rfl rfl rfl ?_ | refine WL.nil ?_ | refine W.block ?_ | refine W.outBlock ?_ | refine W.skip ?_ | refine W.exit rfl ?_ | refine WL.box rfl rfl rfl ?_ | refine W.opsD ?_ | refine W.condT rfl ?_ | refine W.condF rfl ?_)
      refine WL.view rfl rfl (mapO_cons (mkD_pur (c := c) QE QB) rfl) (group_c _ SM id) rfl rfl ?_
      rw [bnd_acy ((LS).acy ha)]
      repeat (first | refine W.seq ?_ | refine W.ops ?_ | refine WL.off rfl rfl ?_ | refine WL.val rfl rfl rfl ?_ | refine WL.nil ?_ | refine W.block ?_ | refine W.outBlock ?_ | refine W.skip ?_ | refine W.exit rfl ?_ | refine WL.box rfl rfl rfl ?_ | refine W.opsD ?_ | refine W.condT rfl ?_ | refine W.condF rfl ?_)
      exact W.ret ⟨_, rfl, retB (decide_eq_true ((LS).val ha _))⟩
    · have LS := mkD_less (c := c) (E := c.entries) (B := c.blocks) (fun x hx => hx) (.inl rfl)
      have SM := mkD_small (c := c) (E := c.entries) (B := c.blocks) sm1 sm1.se (.inl rfl)
      have QE : AM.pur 39 Heap.empty (c.entries.av 11 Entry.enc) = some (c.entries.av 11 Entry.enc) := rfl
      repeat (first | refine W.seq ?_ | refine W.ops ?_ | refine WL.off rfl rfl ?_ | refine WL.val rfl rfl rfl ?_ | refine WL.nil ?_ | refine W.block ?_ | refine W.outBlock ?_ | refine W.skip ?_ | refine W.exit rfl ?_ | refine WL.box rfl rfl rfl ?_ | refine W.opsD ?_ | refine W.condT rfl ?_ | refine W.condF rfl ?_)
      refine WL.view rfl rfl rfl (ofc_c c sm1) rfl rfl ?_
      obtain ⟨v, w, ev, ew, hvw⟩ := of_less LS rfl sm1.sn ha
      rw [ev]
      repeat (first | refine W.seq ?_ | refine W.ops ?_ | refine WL.off rfl rfl ?_ | refine WL.val rfl rfl rfl ?_ | refine WL.nil ?_ | refine W.block ?_ | refine W.outBlock ?_ | refine W.skip ?_ | refine W.exit rfl ?_ | refine WL.box rfl rfl rfl ?_ | refine W.opsD ?_ | refine W.condT rfl ?_ | refine W.condF rfl ?_)
      refine WL.view rfl rfl (mapO_cons (mkD_pur (c := c) (B := c.blocks) (y := c.blocks.av 2 Block.enc) QE rfl) rfl) (ofc_c _ SM) rfl rfl ?_
      rw [ew]
      repeat (first | refine W.seq ?_ | refine W.ops ?_ | refine WL.off rfl rfl ?_ | refine WL.val rfl rfl rfl ?_ | refine WL.nil ?_ | refine W.block ?_ | refine W.outBlock ?_ | refine W.skip ?_ | refine W.exit rfl ?_ | refine WL.box rfl rfl rfl ?_ | refine W.opsD ?_ | refine W.condT rfl ?_ | refine W.condF rfl ?_)
      refine W.condS rfl (fun g5 => ?_) (fun g5 => ?_)
      · have g5' : v < w := of_decide_eq_true g5
        omega
      repeat (first | refine W.seq ?_ | refine W.ops ?_ | refine WL.off rfl rfl ?_ | refine WL.val rfl rfl rfl ?_ | refine WL.nil ?_ | refine W.block ?_ | refine W.outBlock ?_ | refine W.skip ?_ | refine W.exit rfl ?_ | refine WL.box rfl rfl rfl ?_ | refine W.opsD ?_ | refine W.condT rfl ?_ | refine W.condF rfl ?_)
      refine WL.view rfl rfl rfl (group_c c sm1 id) rfl rfl ?_
      rw [hb]
      repeat (first | refine W.seq ?_ | refine W.ops ?_ | refine WL.off rfl rfl ?_ | refine WL.val rfl rfl rfl ?_ | refine WL.nil ?_ | refine W.block ?_ | refine W.outBlock ?_ | refine W.skip ?_ | refine W.exit rfl ?_ | refine WL.box rfl rfl rfl ?_ | refine W.opsD ?_ | refine W.condT rfl ?_ | refine W.condF rfl ?_)
      refine WL.view rfl rfl (mapO_cons (mkD_pur (c := c) (B := c.blocks) (y := c.blocks.av 2 Block.enc) QE rfl) rfl) (group_c _ SM id) rfl rfl ?_
      rw [bnd_acy ((LS).acy ha)]
      repeat (first | refine W.seq ?_ | refine W.ops ?_ | refine WL.off rfl rfl ?_ | refine WL.val rfl rfl rfl ?_ | refine WL.nil ?_ | refine W.block ?_ | refine W.outBlock ?_ | refine W.skip ?_ | refine W.exit rfl ?_ | refine WL.box rfl rfl rfl ?_ | refine W.opsD ?_ | refine W.condT rfl ?_ | refine W.condF rfl ?_)
      exact W.ret ⟨_, rfl, retB (decide_eq_true ((LS).val ha _))⟩
end
end Go.AM.B

/- AM, part 32: a law's row, out of its contract. -/
namespace Go.AM
open Go.RowKit
noncomputable section
set_option linter.unusedVariables false
set_option linter.unusedSimpArgs false
variable {P : Program}

theorem pur_true {h : Heap} {r : AV} (hp : pur purLimit h r = some (.bool true)) : r = .bool true := by
  have key : ∀ k, pur (k + 1) h r = some (.bool true) → r = .bool true := by
    intro k hp
    cases r <;> simp only [pur] at hp <;> (repeat (split at hp)) <;> first | (simp only [Option.some.injEq, reduceCtorEq] at hp; done) | (cases hp; done) | (simp only [Option.some.injEq] at hp; exact hp) | skip
  exact key 39 hp
/-- What an abstract call says of the machine's: it returns true, and nothing that was there has turned. -/
theorem VC1.calls {l : List (Nat × VFun)} (hT : TabList P l) (hm : P.follows .mixedOrders = true) {f : FuncId} {args : List AV} (C : VC1 (tabOf l) f args (.bool true)) {W : World} {cargs : Array Value}
    (hr : RVs (fun b => b < W.heap.size) W ι0 args cargs) : Calls P f cargs W fun e w' => e = .returned (.bool true) ∧ Below W.heap.size W w' := by
  obtain ⟨r, h', n', ⟨k, hk⟩, hp⟩ := C
  have := pur_true hp
  subst this
  refine (calls_of hT hm k f args Heap.empty 0 _ h' n' (hk k (Nat.le_refl k)) (fun b => b < W.heap.size) ι0 W cargs (HSim.bare fun b hb => hb) Ids.bare hr).mono ?_
  rintro e w' ⟨_, c, F', ι', he, hrv, hs, hg, _⟩
  have := hrv.bool_inv
  subst this
  exact ⟨he, hg.kept.os, hg.kept.tape, hg.kept.output, hg.kept.size, fun b hb => hg.kept.same b hb (fun k => k.nothing)⟩
theorem trodAll_below {H : Type} {enc : TypeId × Value → H} (hl : laidOutB P = true) {W W' : World} (hb : Below W.heap.size W W') : ∀ {ts : List TypeId} {vs : List Value} {ds : List (DataW H)} {ps : List MemPlace},
    ts.all (fun t => P.readableRec t && decide (t < P.types.size)) = true → DataW.TrodAll enc P W 0 (fun _ => true) true ts vs ds ps → (∀ x ∈ ps, x.block < W.heap.size) → DataW.TrodAll enc P W' 0 (fun b => decide (b < W.heap.size)) true ts vs ds ps
  | [], [], [], _, _, h, _ => h
  | _ :: _, _ :: _, _ :: _, _, hr, ⟨p, q, h, hs, e⟩, hlt => by
    simp only [List.all_cons, Bool.and_eq_true, decide_eq_true_eq] at hr
    exact ⟨p, q, Below.trod hl hr.1.1 hr.1.2 h hb (fun x hx => hlt x (by rw [e]; simp [hx])), trodAll_below hl hb (by simpa using hr.2) hs (fun x hx => hlt x (by rw [e]; simp [hx])), e⟩
/-- A value whose cells are one. -/
theorem Rd.scalar {t : TypeId} {α : Type} {f : α → AV} {ok : α → Prop} (h : Rd P t (fun a => [f a]) ok) {W : World} {H : Type} {eh : TypeId × Value → H} {v : Value} {d : DataW H} {ps : List MemPlace}
    (ht : DataW.Trod eh P W 0 (fun _ => true) true t v d ps) (hwt : ∀ n ∈ d.weights P t, n ≤ reachBytes) (hv : v.cells.toList = [v]) : ∃ a, ok a ∧ RV (fun b => b < W.heap.size) W ι0 (f a) v := by
  obtain ⟨n, hn⟩ := ht
  rw [hv] at hn
  obtain ⟨a, h1, h2⟩ := h W H eh n _ _ hn hwt
  exact ⟨a, h1, h2.2 0 _ _ rfl rfl⟩
theorem Rd.agg {t : TypeId} {α : Type} {enc : α → List AV} {ok : α → Prop} (h : Rd P t enc ok) {W : World} {H : Type} {eh : TypeId × Value → H} {cs : Array Value} {d : DataW H} {ps : List MemPlace}
    (ht : DataW.Trod eh P W 0 (fun _ => true) true t (.agg cs) d ps) (hwt : ∀ n ∈ d.weights P t, n ≤ reachBytes) : ∃ a, ok a ∧ RV (fun b => b < W.heap.size) W ι0 (.agg (enc a)) (.agg cs) := by
  obtain ⟨n, hn⟩ := ht
  obtain ⟨a, h1, h2⟩ := h W H eh n _ _ hn hwt
  have h3 : RVl (fun b => b < W.heap.size) W (enc a) cs.toList := h2
  refine ⟨a, h1, .agg _ _ _ (by simpa using h3.1.symm) fun j u c hu hc => h3.2 j u c hu ?_⟩
  simpa using hc
theorem RVs.of {W : World} {l : List AV} {vs : List Value} (hl : vs.length = l.length) (h : ∀ (j : Nat) (u : AV) (c : Value), l[j]? = some u → vs[j]? = some c → RV (fun b => b < W.heap.size) W ι0 u c) : RVs (fun b => b < W.heap.size) W ι0 l vs.toArray :=
  ⟨by simpa using hl, fun j u c hu hc => h j u c hu (by simpa using hc)⟩
end
end Go.AM
