/- Parts of the proof: B.Less, B.PartsP, B.Parts, AM.Row. -/
import Derived.Test.YtebogdeaiecldaaBxArgs
import Derived.Test.YtebogdeaiecldaaBxGraph
import Derived.ChangeSame
import Derived.JoinedOf
import Derived.JoinedAt
import Derived.JoinedStill
import Derived.RowKit
import Derived.ProofKit
/- The law BoundLess. -/
namespace Go.AM.B
open Go.Proofs.Ytebogdeaiecldaa.Tab
noncomputable section
set_option linter.unusedVariables false
set_option linter.unusedSimpArgs false
set_option maxHeartbeats 4000000

def mkD (c : Config) (E : Sl Entry) (B : Sl Block) : Config := { c with entries := E, blocks := B }
theorem purE {L : List Entry} {h : Heap} {o : AM.Id} {q : Bool} {k : Nat} (hk : k < L.length) (hg : h.get o = some (.cells ([] ++ ((L.drop 0).take (k - 0)).flatMap Entry.enc ++ ((L.drop (k + 1)).take (L.length - (k + 1))).flatMap Entry.enc))) :
    AM.pur 39 h (.slice o 0 (0 + (k - 0) + (L.length - (k + 1))) 11 q) = some (Sl.av 11 Entry.enc ⟨L.take k ++ L.drop (k + 1), q, 11⟩) := by
  have e : [] ++ ((L.drop 0).take (k - 0)).flatMap Entry.enc ++ ((L.drop (k + 1)).take (L.length - (k + 1))).flatMap Entry.enc = (L.take k ++ L.drop (k + 1)).flatMap Entry.enc := by
    rw [List.nil_append, List.drop_zero, Nat.sub_zero, List.take_of_length_le (l := L.drop (k + 1)) (by rw [List.length_drop]; exact Nat.le_refl _), List.flatMap_append]
  have en : 0 + (k - 0) + (L.length - (k + 1)) = (L.take k ++ L.drop (k + 1)).length := by rw [List.length_append, List.length_take, List.length_drop]; omega
  rw [e] at hg
  rw [en]
  refine pur_slice (k := 38) hg (flat_len (k := 11) (fun _ => rfl) _) ?_
  intro a ha; obtain ⟨x, _, ha⟩ := List.mem_flatMap.1 ha; simp only [Entry.enc, List.mem_cons, List.not_mem_nil, or_false] at ha; rcases ha with rfl | rfl | rfl | rfl | rfl | rfl | rfl | rfl | rfl | rfl | rfl <;> rfl
def nob (id : Int) : Block := ⟨id, ⟨[], true, 0⟩⟩
theorem purB {L : List Block} {h : Heap} {o : AM.Id} {q : Bool} {k : Nat} (hk : k < L.length) (hg : h.get o = some (.cells ((L.take k).flatMap Block.enc ++ [AV.int .i64 L[k].id, AV.nils] ++ (L.drop (k + 1)).flatMap Block.enc))) :
    AM.pur 39 h (.slice o 0 (0 + L.length) 2 q) = some (Sl.av 2 Block.enc ⟨L.set k (nob L[k].id), q, 2⟩) := by
  have e : ((L.take k).flatMap Block.enc ++ [AV.int .i64 L[k].id, AV.nils] ++ (L.drop (k + 1)).flatMap Block.enc).map fz = (L.set k (nob L[k].id)).flatMap Block.enc := by
    rw [List.map_append, List.map_append, map_flat (enc' := Block.enc) (fun _ => rfl), map_flat (enc' := Block.enc) (fun _ => rfl), set_split L hk, List.flatMap_append, List.flatMap_append]
    rfl
  have en : 0 + L.length = (L.set k (nob L[k].id)).length := by rw [List.length_set]; omega
  have := pur_sliceF (k := 38) (clip := q) (len := 0 + L.length) (esz := 2) hg (by rw [List.length_append, List.length_append, flat_len (k := 2) (fun _ => rfl), flat_len (k := 2) (fun _ => rfl), List.length_take, List.length_drop]; simp only [List.length_cons, List.length_nil]; omega) ?_
  · rw [this, e, en]; rfl
  intro a ha
  rcases List.mem_append.1 ha with ha | ha
  · rcases List.mem_append.1 ha with ha | ha
    · obtain ⟨x, _, ha⟩ := List.mem_flatMap.1 ha; simp only [Block.enc, List.mem_cons, List.not_mem_nil, or_false] at ha; rcases ha with rfl | rfl <;> rfl
    · simp only [List.mem_cons, List.not_mem_nil, or_false] at ha; rcases ha with rfl | rfl <;> rfl
  · obtain ⟨x, _, ha⟩ := List.mem_flatMap.1 ha; simp only [Block.enc, List.mem_cons, List.not_mem_nil, or_false] at ha; rcases ha with rfl | rfl <;> rfl
theorem mkD_pur {c : Config} {E : Sl Entry} {B : Sl Block} {h : Heap} {x y : AV} (h1 : AM.pur 39 h x = some (E.av 11 Entry.enc)) (h2 : AM.pur 39 h y = some (B.av 2 Block.enc)) :
    AM.pur purLimit h (.agg [c.nodes.av 9 Node.enc, c.fields.av 5 Field.enc, c.tables.av 5 Table.enc, x, y, c.groups.av 4 Group.enc, c.meters.av 3 Meter.enc, c.regs.av 2 Regs.enc, c.counters.av 1 encI]) = some (.agg (mkD c E B).enc) :=
  pur_agg (mapO_cons rfl (mapO_cons rfl (mapO_cons rfl (mapO_cons h1 (mapO_cons h2 (mapO_cons rfl (mapO_cons rfl (mapO_cons rfl (mapO_cons rfl rfl)))))))))
theorem find_setb {L : List Block} {k : Nat} (hk : k < L.length) (id : Int) : (((L.set k (nob L[k].id)).find? fun b => b.id == id).map (·.code.l)).getD [] = ((L.find? fun b => b.id == id).map (·.code.l)).getD [] ∨ (((L.set k (nob L[k].id)).find? fun b => b.id == id).map (·.code.l)).getD [] = [] := by
  induction L generalizing k with
  | nil => exact absurd hk (by simp)
  | cons a l ih =>
    cases k with
    | zero =>
      simp only [List.set_cons_zero, List.getElem_cons_zero, List.find?_cons]
      have : (nob a.id).id = a.id := rfl
      rw [this]
      cases a.id == id with
      | true => exact .inr rfl
      | false => exact .inl rfl
    | succ k =>
      simp only [List.set_cons_succ, List.getElem_cons_succ, List.find?_cons]
      cases a.id == id with
      | true => exact .inl rfl
      | false => exact ih (by simpa using hk)
theorem mkD_less {c : Config} {E : Sl Entry} {B : Sl Block} (h1 : ∀ x ∈ E.l, x ∈ c.entries.l) (h2 : B.l = c.blocks.l ∨ ∃ k, ∃ hk : k < c.blocks.l.length, B.l = c.blocks.l.set k (nob c.blocks.l[k].id)) : LessC (mkD c E B) c := by
  refine ⟨rfl, h1, fun id => ?_, rfl⟩
  unfold blkL mkD
  dsimp only
  rcases h2 with e | ⟨k, hk, e⟩
  · rw [e]; exact .inl rfl
  · rw [e]; exact find_setb hk id
theorem mkD_small {c : Config} {E : Sl Entry} {B : Sl Block} (sm : Small c) (h1 : E.l.length < 100000) (h2 : B.l = c.blocks.l ∨ ∃ k, ∃ hk : k < c.blocks.l.length, B.l = c.blocks.l.set k (nob c.blocks.l[k].id)) : Small (mkD c E B) := by
  refine ⟨sm.sn, sm.sa, sm.st, h1, ?_, sm.sg, ?_, sm.sk⟩
  · rcases h2 with e | ⟨k, hk, e⟩
    · show B.l.length < _; rw [e]; exact sm.sb
    · show B.l.length < _; rw [e, List.length_set]; exact sm.sb
  · intro x (hx : x ∈ B.l)
    rcases h2 with e | ⟨k, hk, e⟩
    · rw [e] at hx; exact sm.sc x hx
    · rw [e] at hx
      rcases List.mem_or_eq_of_mem_set hx with h | h
      · exact sm.sc x h
      · rw [h]; exact (by decide : (0 : Nat) < 100000)
theorem bnd_acy {s : Solv} (h : acy s) (x : Th) : bnd s x = (val s x, 0) := by simp [bnd, h]
theorem of_less {d c : Config} (h : LessC d c) (hn : d.nodes.l = c.nodes.l) (hs : c.nodes.l.length < 100000) (ha : acy (solve c)) : ∃ v w, ofB c = (v, 0) ∧ ofB d = (w, 0) ∧ w ≤ v := by
  have e1 : bnd (solve c) (0, 1) = (val (solve c) (0, 1), 0) := by simp [bnd, ha]
  have e2 : bnd (solve d) (0, 1) = (val (solve d) (0, 1), 0) := by simp [bnd, h.acy ha]
  have hv := h.val ha (0, 1)
  refine ⟨_, _, by unfold ofB; rw [e1, if_pos rfl], by unfold ofB; rw [e2, if_pos rfl], ?_⟩
  dsimp only
  rw [hn]
  omega
theorem less_c (c : Config) (i j id : Int) (hc : Config.ok c) : VC1 T 7 [.agg c.enc, .int .i64 i, .int .i64 j, .int .i64 id] (.bool true) := by
  have l1 := large_k hc
  have l3 := awake_c
  refine VC1.of (vf := v7) rfl rfl ?_
  unfold v7
  repeat (first | refine W.seq ?_ | refine W.ops ?_ | refine WL.off rfl rfl ?_ | refine WL.val rfl rfl rfl ?_ | refine WL.nil ?_ | refine W.block ?_ | refine W.outBlock ?_ | refine W.skip ?_ | refine W.exit rfl ?_ | refine WL.box rfl rfl rfl ?_ | refine W.opsD ?_ | refine W.condT rfl ?_ | refine W.condF rfl ?_)
  refine WL.view rfl rfl rfl l1 rfl rfl ?_
  repeat (first | refine W.seq ?_ | refine W.ops ?_ | refine WL.off rfl rfl ?_ | refine WL.val rfl rfl rfl ?_ | refine WL.nil ?_ | refine W.block ?_ | refine W.outBlock ?_ | refine W.skip ?_ | refine W.exit rfl ?_ | refine WL.box rfl rfl rfl ?_ | refine W.opsD ?_ | refine W.condT rfl ?_ | refine W.condF rfl ?_)
  refine WL.splitG rfl (fun g1 => ?_) (fun g1 => ?_)
  · repeat (first | refine W.seq ?_ | refine W.ops ?_ | refine WL.off rfl rfl ?_ | refine WL.val rfl rfl rfl ?_ | refine WL.nil ?_ | refine W.block ?_ | refine W.outBlock ?_ | refine W.skip ?_ | refine W.exit rfl ?_ | refine WL.box rfl rfl rfl ?_ | refine W.opsD ?_ | refine W.condT rfl ?_ | refine W.condF rfl ?_)
    refine WL.view rfl rfl rfl l3 rfl rfl ?_
    repeat (first | refine W.seq ?_ | refine W.ops ?_ | refine WL.off rfl rfl ?_ | refine WL.val rfl rfl rfl ?_ | refine WL.nil ?_ | refine W.block ?_ | refine W.outBlock ?_ | refine W.skip ?_ | refine W.exit rfl ?_ | refine WL.box rfl rfl rfl ?_ | refine W.opsD ?_ | refine W.condT rfl ?_ | refine W.condF rfl ?_)
    exact W.ret ⟨_, rfl, rfl⟩
  obtain ⟨sm1, m1⟩ := large_small g1
  repeat (first | refine W.seq ?_ | refine W.ops ?_ | refine WL.off rfl rfl ?_ | refine WL.val rfl rfl rfl ?_ | refine WL.nil ?_ | refine W.block ?_ | refine W.outBlock ?_ | refine W.skip ?_ | refine W.exit rfl ?_ | refine WL.box rfl rfl rfl ?_ | refine W.opsD ?_ | refine W.condT rfl ?_ | refine W.condF rfl ?_)
  refine WL.view rfl rfl rfl (cyc_c c sm1) rfl rfl ?_
  repeat (first | refine W.seq ?_ | refine W.ops ?_ | refine WL.off rfl rfl ?_ | refine WL.val rfl rfl rfl ?_ | refine WL.nil ?_ | refine W.block ?_ | refine W.outBlock ?_ | refine W.skip ?_ | refine W.exit rfl ?_ | refine WL.box rfl rfl rfl ?_ | refine W.opsD ?_ | refine W.condT rfl ?_ | refine W.condF rfl ?_)
  refine WL.splitG rfl (fun g2 => ?_) (fun g2 => ?_)
  · repeat (first | refine W.seq ?_ | refine W.ops ?_ | refine WL.off rfl rfl ?_ | refine WL.val rfl rfl rfl ?_ | refine WL.nil ?_ | refine W.block ?_ | refine W.outBlock ?_ | refine W.skip ?_ | refine W.exit rfl ?_ | refine WL.box rfl rfl rfl ?_ | refine W.opsD ?_ | refine W.condT rfl ?_ | refine W.condF rfl ?_)
    refine WL.view rfl rfl rfl l3 rfl rfl ?_
    repeat (first | refine W.seq ?_ | refine W.ops ?_ | refine WL.off rfl rfl ?_ | refine WL.val rfl rfl rfl ?_ | refine WL.nil ?_ | refine W.block ?_ | refine W.outBlock ?_ | refine W.skip ?_ | refine W.exit rfl ?_ | refine WL.box rfl rfl rfl ?_ | refine W.opsD ?_ | refine W.condT rfl ?_ | refine W.condF rfl ?_)
    exact W.ret ⟨_, rfl, rfl⟩
  have ha := acy_of g2
  repeat (first | refine W.seq ?_ | refine W.ops ?_ | refine WL.off rfl rfl ?_ | refine WL.val rfl rfl rfl ?_ | refine WL.nil ?_ | refine W.block ?_ | refine W.outBlock ?_ | refine W.skip ?_ | refine W.exit rfl ?_ | refine WL.box rfl rfl rfl ?_ | refine W.opsD ?_ | refine W.condT rfl ?_ | refine W.condF rfl ?_)
  refine WL.view rfl rfl rfl l3 rfl rfl ?_
  repeat (first | refine W.seq ?_ | refine W.ops ?_ | refine WL.off rfl rfl ?_ | refine WL.val rfl rfl rfl ?_ | refine WL.nil ?_ | refine W.block ?_ | refine W.outBlock ?_ | refine W.skip ?_ | refine W.exit rfl ?_ | refine WL.box rfl rfl rfl ?_ | refine W.opsD ?_ | refine W.condT rfl ?_ | refine W.condF rfl ?_ | refine WL.heap rfl rfl rfl ?_)
  have m1' := m1
  unfold n0 at m1'
  have hb : ∀ x, bnd (solve c) x = (val (solve c) x, 0) := fun x => by simp [bnd, ha]
  refine W.condS rfl (fun g3 => ?_) (fun g3 => ?_)
  · have hn : 0 < c.entries.l.length := by simpa using g3
    obtain ⟨k, hk, ek, ez⟩ := idx_rem i hn (by omega)
    repeat (first | refine W.seq ?_ | refine W.ops ?_ | refine WL.off rfl rfl ?_ | refine WL.val rfl rfl rfl ?_ | refine WL.nil ?_ | refine W.block ?_ | refine W.outBlock ?_ | refine W.skip ?_ | refine W.exit rfl ?_ | refine WL.box rfl rfl rfl ?_ | refine W.opsD ?_ | refine W.condT rfl ?_ | refine W.condF rfl ?_)
    refine WL.val rfl (aop_rem rfl rfl ez) rfl ?_
    repeat (first | refine W.seq ?_ | refine W.ops ?_ | refine WL.off rfl rfl ?_ | refine WL.val rfl rfl rfl ?_ | refine WL.nil ?_ | refine W.block ?_ | refine W.outBlock ?_ | refine W.skip ?_ | refine W.exit rfl ?_ | refine WL.box rfl rfl rfl ?_ | refine W.opsD ?_ | refine W.condT rfl ?_ | refine W.condF rfl ?_ | refine WL.heap rfl rfl rfl ?_)
    refine WL.slcP (k := 11) (fun _ => rfl) rfl rfl (slcB_hi rfl ek (by omega)) (Nat.zero_le _) (by omega) rfl ?_
    intro raw1 q1 hr1
    repeat (first | refine W.seq ?_ | refine W.ops ?_ | refine WL.off rfl rfl ?_ | refine WL.val rfl rfl rfl ?_ | refine WL.nil ?_ | refine W.block ?_ | refine W.outBlock ?_ | refine W.skip ?_ | refine W.exit rfl ?_ | refine WL.box rfl rfl rfl ?_ | refine W.opsD ?_ | refine W.condT rfl ?_ | refine W.condF rfl ?_)
    refine WL.appP (cs := []) [(5, 0)] rfl rfl rfl (by rw [Heap.get_put, if_pos rfl]; rfl) rfl hr1 (ones_flat (fun _ => rfl) _) (by omega) (List.mem_singleton.2 rfl) rfl ?_
    intro po pq ph pg pm pf
    repeat (first | refine W.seq ?_ | refine W.ops ?_ | refine WL.off rfl rfl ?_ | refine WL.val rfl rfl rfl ?_ | refine WL.nil ?_ | refine W.block ?_ | refine W.outBlock ?_ | refine W.skip ?_ | refine W.exit rfl ?_ | refine WL.box rfl rfl rfl ?_ | refine W.opsD ?_ | refine W.condT rfl ?_ | refine W.condF rfl ?_)
    refine WL.slcP (k := 11) (fun _ => rfl) rfl rfl (slcB_lo rfl (by rw [ek]; exact wrap64_nat (by omega)) (by omega)) (by omega) (Nat.le_refl _) rfl ?_
    intro raw2 q2 hr2
    repeat (first | refine W.seq ?_ | refine W.ops ?_ | refine WL.off rfl rfl ?_ | refine WL.val rfl rfl rfl ?_ | refine WL.nil ?_ | refine W.block ?_ | refine W.outBlock ?_ | refine W.skip ?_ | refine W.exit rfl ?_ | refine WL.box rfl rfl rfl ?_ | refine W.opsD ?_ | refine W.condT rfl ?_ | refine W.condF rfl ?_)
    refine WL.appP [(5, 5), (5, 0)] rfl rfl rfl pg (by rw [List.nil_append, flat_len (k := 11) (fun _ => rfl), List.length_take, List.length_drop]; omega) hr2 (ones_flat (fun _ => rfl) _) (by omega) pm rfl ?_
    intro o1 q1' H1 G1 M1 W1
    repeat (first | refine W.seq ?_ | refine W.ops ?_ | refine WL.off rfl rfl ?_ | refine WL.val rfl rfl rfl ?_ | refine WL.nil ?_ | refine W.block ?_ | refine W.outBlock ?_ | refine W.skip ?_ | refine W.exit rfl ?_ | refine WL.box rfl rfl rfl ?_ | refine W.opsD ?_ | refine W.condT rfl ?_ | refine W.condF rfl ?_)
    have hLE : ∀ x ∈ (⟨c.entries.l.take k ++ c.entries.l.drop (k + 1), q1', 11⟩ : Sl Entry).l, x ∈ c.entries.l := by
      intro x hx
      rcases List.mem_append.1 hx with h | h
      · exact List.mem_of_mem_take h
      · exact List.mem_of_mem_drop h
    have hSE : (⟨c.entries.l.take k ++ c.entries.l.drop (k + 1), q1', 11⟩ : Sl Entry).l.length < 100000 := by
      show (c.entries.l.take k ++ c.entries.l.drop (k + 1)).length < 100000
      rw [List.length_append, List.length_take, List.length_drop]; omega
    refine W.condS rfl (fun g4 => ?_) (fun g4 => ?_)
    · have hn2 : 0 < c.blocks.l.length := by simpa using g4
      obtain ⟨k2, hk2, ek2, ez2⟩ := idx_rem j hn2 (by omega)
      repeat (first | refine W.seq ?_ | refine W.ops ?_ | refine WL.off rfl rfl ?_ | refine WL.val rfl rfl rfl ?_ | refine WL.nil ?_ | refine W.block ?_ | refine W.outBlock ?_ | refine W.skip ?_ | refine W.exit rfl ?_ | refine WL.box rfl rfl rfl ?_ | refine W.opsD ?_ | refine W.condT rfl ?_ | refine W.condF rfl ?_)
      refine WL.val rfl (aop_rem rfl rfl ez2) rfl ?_
      repeat (first | refine W.seq ?_ | refine W.ops ?_ | refine WL.off rfl rfl ?_ | refine WL.val rfl rfl rfl ?_ | refine WL.nil ?_ | refine W.block ?_ | refine W.outBlock ?_ | refine W.skip ?_ | refine W.exit rfl ?_ | refine WL.box rfl rfl rfl ?_ | refine W.opsD ?_ | refine W.condT rfl ?_ | refine W.condF rfl ?_ | refine WL.heap rfl rfl rfl ?_)
      refine WL.appP (cs := []) [(8, 0)] rfl rfl rfl (by rw [Heap.get_put, if_pos rfl]; rfl) rfl (sub_all _ _ (flat_len (k := 2) (fun _ => rfl) _)) (ones_flat (fun _ => rfl) _) (by omega) (List.mem_singleton.2 rfl) rfl ?_
      intro o2 q2 H2 G2 M2 W2
      repeat (first | refine W.seq ?_ | refine W.ops ?_ | refine WL.off rfl rfl ?_ | refine WL.val rfl rfl rfl ?_ | refine WL.nil ?_ | refine W.block ?_ | refine W.outBlock ?_ | refine W.skip ?_ | refine W.exit rfl ?_ | refine WL.box rfl rfl rfl ?_ | refine W.opsD ?_ | refine W.condT rfl ?_ | refine W.condF rfl ?_)
      refine WL.val rfl (aop_iaddr_p rfl rfl hk2 ek2) rfl ?_
      repeat (first | refine W.seq ?_ | refine W.ops ?_ | refine WL.off rfl rfl ?_ | refine WL.val rfl rfl rfl ?_ | refine WL.nil ?_ | refine W.block ?_ | refine W.outBlock ?_ | refine W.skip ?_ | refine W.exit rfl ?_ | refine WL.box rfl rfl rfl ?_ | refine W.opsD ?_ | refine W.condT rfl ?_ | refine W.condF rfl ?_)
      refine WL.val rfl (aop_load_el (enc := Block.enc) (o := 0) rfl (fun _ => rfl) hk2 (by decide) rfl) rfl ?_
      repeat (first | refine W.seq ?_ | refine W.ops ?_ | refine WL.off rfl rfl ?_ | refine WL.val rfl rfl rfl ?_ | refine WL.nil ?_ | refine W.block ?_ | refine W.outBlock ?_ | refine W.skip ?_ | refine W.exit rfl ?_ | refine WL.box rfl rfl rfl ?_ | refine W.opsD ?_ | refine W.condT rfl ?_ | refine W.condF rfl ?_)
      refine WL.val rfl (aop_iaddr_h rfl rfl (show k2 < 0 + c.blocks.l.length by omega) ek2) rfl ?_
      rw [List.nil_append] at G2
      refine WL.heap rfl (aop_store_h rfl rfl rfl rfl G2 (by rw [Nat.zero_add]; exact upd_flat (k := 2) (fun _ => rfl) _ hk2 rfl)) rfl ?_
      have QB := purB (h := H2.put o2 (.cells ((c.blocks.l.take k2).flatMap Block.enc ++ [AV.int .i64 c.blocks.l[k2].id, AV.nils] ++ (c.blocks.l.drop (k2 + 1)).flatMap Block.enc))) (q := q2) hk2 (by rw [Heap.get_put, if_pos rfl])
      have eB : (⟨c.blocks.l.set k2 (nob c.blocks.l[k2].id), q2, 2⟩ : Sl Block).l = c.blocks.l ∨ ∃ k, ∃ hk : k < c.blocks.l.length, (⟨c.blocks.l.set k2 (nob c.blocks.l[k2].id), q2, 2⟩ : Sl Block).l = c.blocks.l.set k (nob c.blocks.l[k].id) := .inr ⟨k2, hk2, rfl⟩
      have LS := mkD_less (c := c) (E := ⟨c.entries.l.take k ++ c.entries.l.drop (k + 1), q1', 11⟩) hLE eB
      have SM := mkD_small (c := c) (E := ⟨c.entries.l.take k ++ c.entries.l.drop (k + 1), q1', 11⟩) sm1 hSE eB
      have E1 : (H2.put o2 (.cells ((c.blocks.l.take k2).flatMap Block.enc ++ [AV.int .i64 c.blocks.l[k2].id, AV.nils] ++ (c.blocks.l.drop (k2 + 1)).flatMap Block.enc))).get o1 = H1.get o1 := by
        simp only [List.mem_cons, List.not_mem_nil, or_false] at M1 M2
        rcases M1 with rfl | rfl | rfl
        all_goals
          rw [Heap.get_put, if_neg (by rcases M2 with rfl | rfl <;> decide), W2 _ (by decide) (by decide), Heap.get_put, if_neg (by decide)]
      have QE := purE (q := q1') hk (E1.trans G1)
      repeat (first | refine W.seq ?_ | refine W.ops ?_ | refine WL.off rfl rfl ?_ | refine WL.val rfl rfl rfl ?_ | refine WL.nil ?_ | refine W.block ?_ | refine W.outBlock ?_ | refine W.skip ?_ | refine W.exit rfl ?_ | refine WL.box rfl rfl rfl ?_ | refine W.opsD ?_ | refine W.condT rfl ?_ | refine W.condF rfl ?_)
      refine WL.view rfl rfl rfl (ofc_c c sm1) rfl rfl ?_
      obtain ⟨v, w, ev, ew, hvw⟩ := of_less LS rfl sm1.sn ha
      rw [ev]
      repeat (first | refine W.seq ?_ | refine W.ops ?_ | refine WL.off rfl rfl ?_ | refine WL.val rfl rfl rfl ?_ | refine WL.nil ?_ | refine W.block ?_ | refine W.outBlock ?_ | refine W.skip ?_ | refine W.exit rfl ?_ | refine WL.box rfl rfl rfl ?_ | refine W.opsD ?_ | refine W.condT rfl ?_ | refine W.condF rfl ?_)
      refine WL.view rfl rfl (mapO_cons (mkD_pur (c := c) QE QB) rfl) (ofc_c _ SM) rfl rfl ?_
      rw [ew]
      repeat (first | refine W.seq ?_ | refine W.ops ?_ | refine WL.off rfl rfl ?_ | refine WL.val rfl rfl rfl ?_ | refine WL.nil ?_ | refine W.block ?_ | refine W.outBlock ?_ | refine W.skip ?_ | refine W.exit rfl ?_ | refine WL.box rfl rfl rfl ?_ | refine W.opsD ?_ | refine W.condT rfl ?_ | refine W.condF rfl ?_)
      refine W.condS rfl (fun g5 => ?_) (fun g5 => ?_)
      · have g5' : v < w := of_decide_eq_true g5
        omega
      repeat (first | refine W.seq ?_ | refine W.ops ?_ | refine WL.off rfl rfl ?_ | refine WL.val rfl rfl rfl ?_ | refine WL.nil ?_ | refine W.block ?_ | refine W.outBlock ?_ | refine W.skip ?_ | refine W.exit rfl ?_ | refine WL.box rfl rfl rfl ?_ | refine W.opsD ?_ | refine W.condT rfl ?_ | refine W.condF rfl ?_)
      refine WL.view rfl rfl rfl (group_c c sm1 id) rfl rfl ?_
      rw [hb]
      repeat (first | refine W.seq ?_ | refine W.ops ?_ | refine WL.off rfl rfl ?_ | refine WL.val rfl rfl rfl ?_ | refine WL.nil ?_ | refine W.block ?_ | refine W.outBlock ?_ | refine W.skip ?_ | refine W.exit rfl ?_ | refine WL.box rfl rfl rfl ?_ | refine W.opsD ?_ | refine W.condT rfl ?_ | refine W.condF rfl ?_)
      refine WL.view rfl rfl (mapO_cons (mkD_pur (c := c) QE QB) rfl) (group_c _ SM id) rfl rfl ?_
      rw [bnd_acy ((LS).acy ha)]
      repeat (first | refine W.seq ?_ | refine W.ops ?_ | refine WL.off rfl rfl ?_ | refine WL.val rfl rfl rfl ?_ | refine WL.nil ?_ | refine W.block ?_ | refine W.outBlock ?_ | refine W.skip ?_ | refine W.exit rfl ?_ | refine WL.box rfl rfl rfl ?_ | refine W.opsD ?_ | refine W.condT rfl ?_ | refine W.condF rfl ?_)
      exact W.ret ⟨_, rfl, retB (decide_eq_true ((LS).val ha _))⟩
    · have LS := mkD_less (c := c) (E := ⟨c.entries.l.take k ++ c.entries.l.drop (k + 1), q1', 11⟩) (B := c.blocks) hLE (.inl rfl)
      have SM := mkD_small (c := c) (E := ⟨c.entries.l.take k ++ c.entries.l.drop (k + 1), q1', 11⟩) (B := c.blocks) sm1 hSE (.inl rfl)
      have QE := purE (q := q1') hk G1
      repeat (first | refine W.seq ?_ | refine W.ops ?_ | refine WL.off rfl rfl ?_ | refine WL.val rfl rfl rfl ?_ | refine WL.nil ?_ | refine W.block ?_ | refine W.outBlock ?_ | refine W.skip ?_ | refine W.exit rfl ?_ | refine WL.box rfl rfl rfl ?_ | refine W.opsD ?_ | refine W.condT rfl ?_ | refine W.condF rfl ?_)
      refine WL.view rfl rfl rfl (ofc_c c sm1) rfl rfl ?_
      obtain ⟨v, w, ev, ew, hvw⟩ := of_less LS rfl sm1.sn ha
      rw [ev]
      repeat (first | refine W.seq ?_ | refine W.ops ?_ | refine WL.off rfl rfl ?_ | refine WL.val rfl rfl rfl ?_ | refine WL.nil ?_ | refine W.block ?_ | refine W.outBlock ?_ | refine W.skip ?_ | refine W.exit rfl ?_ | refine WL.box rfl rfl rfl ?_ | refine W.opsD ?_ | refine W.condT rfl ?_ | refine W.condF rfl ?_)
      refine WL.view rfl rfl (mapO_cons (mkD_pur (c := c) (B := c.blocks) (y := c.blocks.av 2 Block.enc) QE rfl) rfl) (ofc_c _ SM) rfl rfl ?_
      rw [ew]
      repeat (first | refine W.seq ?_ | refine W.ops ?_ | refine WL.off rfl rfl ?_ | refine WL.val rfl rfl rfl ?_ | refine WL.nil ?_ | refine W.block ?_ | refine W.outBlock ?_ | refine W.skip ?_ | refine W.exit rfl ?_ | refine WL.box rfl rfl rfl ?_ | refine W.opsD ?_ | refine W.condT rfl ?_ | refine W.condF rfl ?_)
      refine W.condS rfl (fun g5 => ?_) (fun g5 => ?_)
      · have g5' : v < w := of_decide_eq_true g5
        omega
      repeat (first | refine W.seq ?_ | refine W.ops ?_ | refine WL.off rfl rfl ?_ | refine WL.val rfl rfl rfl ?_ | refine WL.nil ?_ | refine W.block ?_ | refine W.outBlock ?_ | refine W.skip ?_ | refine W.exit rfl ?_ | refine WL.box rfl rfl rfl ?_ | refine W.opsD ?_ | refine W.condT rfl ?_ | refine W.condF rfl ?_)
      refine WL.view rfl rfl rfl (group_c c sm1 id) rfl rfl ?_
      rw [hb]
      repeat (first | refine W.seq ?_ | refine W.ops ?_ | refine WL.off rfl rfl ?_ | refine WL.val rfl rfl rfl ?_ | refine WL.nil ?_ | refine W.block ?_ | refine W.outBlock ?_ | refine W.skip ?_ | refine W.exit rfl ?_ | refine WL.box rfl rfl rfl ?_ | refine W.opsD ?_ | refine W.condT rfl ?_ | refine W.condF rfl ?_)
      refine WL.view rfl rfl (mapO_cons (mkD_pur (c := c) (B := c.blocks) (y := c.blocks.av 2 Block.enc) QE rfl) rfl) (group_c _ SM id) rfl rfl ?_
      rw [bnd_acy ((LS).acy ha)]
      repeat (first | refine W.seq ?_ | refine W.ops ?_ | refine WL.off rfl rfl ?_ | refine WL.val rfl rfl rfl ?_ | refine WL.nil ?_ | refine W.block ?_ | refine W.outBlock ?_ | refine W.skip ?_ | refine W.exit rfl ?_ | refine WL.box rfl rfl rfl ?_ | refine W.opsD ?_ | refine W.condT rfl ?_ | refine W.condF rfl ?_)
      exact W.ret ⟨_, rfl, retB (decide_eq_true ((LS).val ha _))⟩
  · repeat (first | refine W.seq ?_ | refine W.ops ?_ | refine WL.off rfl rfl ?_ | refine WL.val rfl rfl rfl ?_ | refine WL.nil ?_ | refine W.block ?_ | refine W.outBlock ?_ | refine W.skip ?_ | refine W.exit rfl ?_ | refine WL.box rfl rfl rfl ?_ | refine W.opsD ?_ | refine W.condT rfl ?_ | refine W.condF rfl ?_)
    refine W.condS rfl (fun g4 => ?_) (fun g4 => ?_)
    · have hn2 : 0 < c.blocks.l.length := by simpa using g4
      obtain ⟨k2, hk2, ek2, ez2⟩ := idx_rem j hn2 (by omega)
      repeat (first | refine W.seq ?_ | refine W.ops ?_ | refine WL.off rfl rfl ?_ | refine WL.val rfl rfl rfl ?_ | refine WL.nil ?_ | refine W.block ?_ | refine W.outBlock ?_ | refine W.skip ?_ | refine W.exit rfl ?_ | refine WL.box rfl rfl rfl ?_ | refine W.opsD ?_ | refine W.condT rfl ?_ | refine W.condF rfl ?_)
      refine WL.val rfl (aop_rem rfl rfl ez2) rfl ?_
      repeat (first | refine W.seq ?_ | refine W.ops ?_ | refine WL.off rfl rfl ?_ | refine WL.val rfl rfl rfl ?_ | refine WL.nil ?_ | refine W.block ?_ | refine W.outBlock ?_ | refine W.skip ?_ | refine W.exit rfl ?_ | refine WL.box rfl rfl rfl ?_ | refine W.opsD ?_ | refine W.condT rfl ?_ | refine W.condF rfl ?_ | refine WL.heap rfl rfl rfl ?_)
      refine WL.appP (cs := []) [(6, 0)] rfl rfl rfl (by rw [Heap.get_put, if_pos rfl]; rfl) rfl (sub_all _ _ (flat_len (k := 2) (fun _ => rfl) _)) (ones_flat (fun _ => rfl) _) (by omega) (List.mem_singleton.2 rfl) rfl ?_
      intro o2 q2 H2 G2 M2 W2
      repeat (first | refine W.seq ?_ | refine W.ops ?_ | refine WL.off rfl rfl ?_ | refine WL.val rfl rfl rfl ?_ | refine WL.nil ?_ | refine W.block ?_ | refine W.outBlock ?_ | refine W.skip ?_ | refine W.exit rfl ?_ | refine WL.box rfl rfl rfl ?_ | refine W.opsD ?_ | refine W.condT rfl ?_ | refine W.condF rfl ?_)
      refine WL.val rfl (aop_iaddr_p rfl rfl hk2 ek2) rfl ?_
      repeat (first | refine W.seq ?_ | refine W.ops ?_ | refine WL.off rfl rfl ?_ | refine WL.val rfl rfl rfl ?_ | refine WL.nil ?_ | refine W.block ?_ | refine W.outBlock ?_ | refine W.skip ?_ | refine W.exit rfl ?_ | refine WL.box rfl rfl rfl ?_ | refine W.opsD ?_ | refine W.condT rfl ?_ | refine W.condF rfl ?_)
      refine WL.val rfl (aop_load_el (enc := Block.enc) (o := 0) rfl (fun _ => rfl) hk2 (by decide) rfl) rfl ?_
      repeat (first | refine W.seq ?_ | refine W.ops ?_ | refine WL.off rfl rfl ?_ | refine WL.val rfl rfl rfl ?_ | refine WL.nil ?_ | refine W.block ?_ | refine W.outBlock ?_ | refine W.skip ?_ | refine W.exit rfl ?_ | refine WL.box rfl rfl rfl ?_ | refine W.opsD ?_ | refine W.condT rfl ?_ | refine W.condF rfl ?_)
      refine WL.val rfl (aop_iaddr_h rfl rfl (show k2 < 0 + c.blocks.l.length by omega) ek2) rfl ?_
      rw [List.nil_append] at G2
      refine WL.heap rfl (aop_store_h rfl rfl rfl rfl G2 (by rw [Nat.zero_add]; exact upd_flat (k := 2) (fun _ => rfl) _ hk2 rfl)) rfl ?_
      have QB := purB (h := H2.put o2 (.cells ((c.blocks.l.take k2).flatMap Block.enc ++ [AV.int .i64 c.blocks.l[k2].id, AV.nils] ++ (c.blocks.l.drop (k2 + 1)).flatMap Block.enc))) (q := q2) hk2 (by rw [Heap.get_put, if_pos rfl])
      have eB : (⟨c.blocks.l.set k2 (nob c.blocks.l[k2].id), q2, 2⟩ : Sl Block).l = c.blocks.l ∨ ∃ k, ∃ hk : k < c.blocks.l.length, (⟨c.blocks.l.set k2 (nob c.blocks.l[k2].id), q2, 2⟩ : Sl Block).l = c.blocks.l.set k (nob c.blocks.l[k].id) := .inr ⟨k2, hk2, rfl⟩
      have LS := mkD_less (c := c) (E := c.entries) (fun x hx => hx) eB
      have SM := mkD_small (c := c) (E := c.entries) sm1 sm1.se eB
      have QE : AM.pur 39 (H2.put o2 (.cells ((c.blocks.l.take k2).flatMap Block.enc ++ [AV.int .i64 c.blocks.l[k2].id, AV.nils] ++ (c.blocks.l.drop (k2 + 1)).flatMap Block.enc))) (c.entries.av 11 Entry.enc) = some (c.entries.av 11 Entry.enc) := rfl
      repeat (first | refine W.seq ?_ | refine W.ops ?_ | refine WL.off rfl rfl ?_ | refine WL.val rfl rfl rfl ?_ | refine WL.nil ?_ | refine W.block ?_ | refine W.outBlock ?_ | refine W.skip ?_ | refine W.exit rfl ?_ | refine WL.box rfl rfl rfl ?_ | refine W.opsD ?_ | refine W.condT rfl ?_ | refine W.condF rfl ?_)
      refine WL.view rfl rfl rfl (ofc_c c sm1) rfl rfl ?_
      obtain ⟨v, w, ev, ew, hvw⟩ := of_less LS rfl sm1.sn ha
      rw [ev]
      repeat (first | refine W.seq ?_ | refine W.ops ?_ | refine WL.off rfl rfl ?_ | refine WL.val rfl rfl rfl ?_ | refine WL.nil ?_ | refine W.block ?_ | refine W.outBlock ?_ | refine W.skip ?_ | refine W.exit rfl ?_ | refine WL.box rfl rfl rfl ?_ | refine W.opsD ?_ | refine W.condT rfl ?_ | refine W.condF rfl ?_)
      refine WL.view rfl rfl (mapO_cons (mkD_pur (c := c) QE QB) rfl) (ofc_c _ SM) rfl rfl ?_
      rw [ew]
      repeat (first | refine W.seq ?_ | refine W.ops ?_ | refine WL.off rfl rfl ?_ | refine WL.val rfl rfl rfl ?_ | refine WL.nil ?_ | refine W.block ?_ | refine W.outBlock ?_ | refine W.skip ?_ | refine W.exit rfl ?_ | refine WL.box rfl rfl rfl ?_ | refine W.opsD ?_ | refine W.condT rfl ?_ | refine W.condF rfl ?_)
      refine W.condS rfl (fun g5 => ?_) (fun g5 => ?_)
      · have g5' : v < w := of_decide_eq_true g5
        omega
      repeat (first | refine W.seq ?_ | refine W.ops ?_ | refine WL.off rfl rfl ?_ | refine WL.val rfl rfl rfl ?_ | refine WL.nil ?_ | refine W.block ?_ | refine W.outBlock ?_ | refine W.skip ?_ | refine W.exit rfl ?_ | refine WL.box rfl rfl rfl ?_ | refine W.opsD ?_ | refine W.condT rfl ?_ | refine W.condF rfl ?_)
      refine WL.view rfl rfl rfl (group_c c sm1 id) rfl rfl ?_
      rw [hb]
      repeat (first | refine W.seq ?_ | refine W.ops ?_ | refine WL.off rfl rfl ?_ | refine WL.val rfl rfl rfl ?_ | refine WL.nil ?_ | refine W.block ?_ | refine W.outBlock ?_ | refine W.skip ?_ | refine W.exit rfl ?_ | refine WL.box rfl rfl rfl ?_ | refine W.opsD ?_ | refine W.condT rfl ?_ | refine W.condF rfl ?_)
      refine WL.view rfl rfl (mapO_cons (mkD_pur (c := c) QE QB) rfl) (group_c _ SM id) rfl rfl ?_
      rw [bnd_acy ((LS).acy ha)]
      repeat (first | refine W.seq ?_ | refine W.ops ?_ | refine WL.off rfl rfl ?_ | refine WL.val rfl rfl rfl ?_ | refine WL.nil ?_ | refine W.block ?_ | refine W.outBlock ?_ | refine W.skip ?_ | refine W.exit rfl ?_ | refine WL.box rfl rfl rfl ?_ | refine W.opsD ?_ | refine W.condT rfl ?_ | refine W.condF rfl ?_)
      exact W.ret ⟨_, rfl, retB (decide_eq_true ((LS).val ha _))⟩
    · have LS := mkD_less (c := c) (E := c.entries) (B := c.blocks) (fun x hx => hx) (.inl rfl)
      have SM := mkD_small (c := c) (E := c.entries) (B := c.blocks) sm1 sm1.se (.inl rfl)
      have QE : AM.pur 39 Heap.empty (c.entries.av 11 Entry.enc) = some (c.entries.av 11 Entry.enc) := rfl
      repeat (first | refine W.seq ?_ | refine W.ops ?_ | refine WL.off rfl rfl ?_ | refine WL.val rfl rfl rfl ?_ | refine WL.nil ?_ | refine W.block ?_ | refine W.outBlock ?_ | refine W.skip ?_ | refine W.exit rfl ?_ | refine WL.box rfl rfl rfl ?_ | refine W.opsD ?_ | refine W.condT rfl ?_ | refine W.condF rfl ?_)
      refine WL.view rfl rfl rfl (ofc_c c sm1) rfl rfl ?_
      obtain ⟨v, w, ev, ew, hvw⟩ := of_less LS rfl sm1.sn ha
      rw [ev]
      repeat (first | refine W.seq ?_ | refine W.ops ?_ | refine WL.off rfl rfl ?_ | refine WL.val rfl rfl rfl ?_ | refine WL.nil ?_ | refine W.block ?_ | refine W.outBlock ?_ | refine W.skip ?_ | refine W.exit rfl ?_ | refine WL.box rfl rfl rfl ?_ | refine W.opsD ?_ | refine W.condT rfl ?_ | refine W.condF rfl ?_)
      refine WL.view rfl rfl (mapO_cons (mkD_pur (c := c) (B := c.blocks) (y := c.blocks.av 2 Block.enc) QE rfl) rfl) (ofc_c _ SM) rfl rfl ?_
      rw [ew]
      repeat (first | refine W.seq ?_ | refine W.ops ?_ | refine WL.off rfl rfl ?_ | refine WL.val rfl rfl rfl ?_ | refine WL.nil ?_ | refine W.block ?_ | refine W.outBlock ?_ | refine W.skip ?_ | refine W.exit rfl ?_ | refine WL.box rfl rfl rfl ?_ | refine W.opsD ?_ | refine W.condT rfl ?_ | refine W.condF rfl ?_)
      refine W.condS rfl (fun g5 => ?_) (fun g5 => ?_)
      · have g5' : v < w := of_decide_eq_true g5
        omega
      repeat (first | refine W.seq ?_ | refine W.ops ?_ | refine WL.off rfl rfl ?_ | refine WL.val rfl rfl rfl ?_ | refine WL.nil ?_ | refine W.block ?_ | refine W.outBlock ?_ | refine W.skip ?_ | refine W.exit rfl ?_ | refine WL.box rfl rfl rfl ?_ | refine W.opsD ?_ | refine W.condT rfl ?_ | refine W.condF rfl ?_)
      refine WL.view rfl rfl rfl (group_c c sm1 id) rfl rfl ?_
      rw [hb]
      repeat (first | refine W.seq ?_ | refine W.ops ?_ | refine WL.off rfl rfl ?_ | refine WL.val rfl rfl rfl ?_ | refine WL.nil ?_ | refine W.block ?_ | refine W.outBlock ?_ | refine W.skip ?_ | refine W.exit rfl ?_ | refine WL.box rfl rfl rfl ?_ | refine W.opsD ?_ | refine W.condT rfl ?_ | refine W.condF rfl ?_)
      refine WL.view rfl rfl (mapO_cons (mkD_pur (c := c) (B := c.blocks) (y := c.blocks.av 2 Block.enc) QE rfl) rfl) (group_c _ SM id) rfl rfl ?_
      rw [bnd_acy ((LS).acy ha)]
      repeat (first | refine W.seq ?_ | refine W.ops ?_ | refine WL.off rfl rfl ?_ | refine WL.val rfl rfl rfl ?_ | refine WL.nil ?_ | refine W.block ?_ | refine W.outBlock ?_ | refine W.skip ?_ | refine W.exit rfl ?_ | refine WL.box rfl rfl rfl ?_ | refine W.opsD ?_ | refine W.condT rfl ?_ | refine W.condF rfl ?_)
      exact W.ret ⟨_, rfl, retB (decide_eq_true ((LS).val ha _))⟩
end
end Go.AM.B

/- A block's first instruction, a table's blocks: what they take. -/
namespace Go.AM.B
noncomputable section
set_option linter.unusedVariables false
set_option linter.unusedSimpArgs false

theorem val_blk {c : Config} (ha : acy (solve c)) {id : Int} {b : Block} (hf : (c.blocks.l.find? fun b => b.id == id) = some b) : val (solve c) (1, id) = min over ((codeV (val (solve c)) b.code.l).getD 0 0) := by
  have e := val_is ha (1, id)
  rw [e]
  unfold comb comb0
  rw [if_neg (fun h => by cases h), if_pos rfl, solve_blk]
  unfold blkL
  rw [hf]; rfl
theorem head_13 {c : Config} (ha : acy (solve c)) {id : Int} {b : Block} {i : Instr} {r : List Instr} (hf : (c.blocks.l.find? fun b => b.id == id) = some b) (hc : b.code.l = i :: r) (ho : i.op = 13) :
    val (solve c) (1, id) = min 65537 (1 + val (solve c) (0, i.n)) := by
  rw [val_blk ha hf, hc]
  have e : over = 65537 := rfl
  have : (codeV (val (solve c)) (i :: r)).getD 0 0 = min over (1 + val (solve c) (0, i.n)) := by
    simp only [codeV, ho]; rfl
  rw [this]; omega
theorem head_14 {c : Config} (ha : acy (solve c)) {id : Int} {b : Block} {i : Instr} {r : List Instr} (hf : (c.blocks.l.find? fun b => b.id == id) = some b) (hc : b.code.l = i :: r) (ho : i.op = 14) :
    val (solve c) (1, id) = min 65537 (1 + val (solve c) (2, i.n)) := by
  rw [val_blk ha hf, hc]
  have e : over = 65537 := rfl
  have : (codeV (val (solve c)) (i :: r)).getD 0 0 = min over (1 + val (solve c) (2, i.n)) := by
    simp only [codeV, ho]; rfl
  rw [this]; omega
theorem head_end {c : Config} (ha : acy (solve c)) {id : Int} {b : Block} {i : Instr} {r : List Instr} (hf : (c.blocks.l.find? fun b => b.id == id) = some b) (hc : b.code.l = i :: r) (ho : i.op = 23 ∨ i.op = 22) :
    val (solve c) (1, id) = min 65537 (1 + 0) := by
  rw [val_blk ha hf, hc]
  have e : over = 65537 := rfl
  have : (codeV (val (solve c)) (i :: r)).getD 0 0 = min over (1 + 0) := by
    simp only [codeV, if_pos ho]; rfl
  rw [this]; omega
/-- The rest of a block, as a block of its own in its place. -/
def restD (c : Config) (id : Int) (code : Sl Instr) (q : Bool) : Config := { c with blocks := ⟨⟨id, code⟩ :: c.blocks.l, q, 2⟩ }
theorem restD_blk (c : Config) (id : Int) (code : Sl Instr) (q : Bool) (x : Int) : blkL (restD c id code q) x = if id = x then code.l else blkL c x := by
  unfold blkL restD
  dsimp only
  rw [List.find?_cons]
  by_cases h : id = x
  · subst h; simp
  · have h' : (id == x) = false := by simpa using h
    simp only [h', if_neg h]
theorem restD_tab (c : Config) (id : Int) (code : Sl Instr) (q : Bool) (x : Int) : tabL (restD c id code q) x = tabL c x := rfl
theorem restD_comb (c : Config) (id : Int) (code : Sl Instr) (q : Bool) (V : Th → Int) {x : Th} (hx : x ≠ (1, id)) : comb (solve (restD c id code q)) V x = comb (solve c) V x ∧ (solve (restD c id code q)).leads x = (solve c).leads x := by
  obtain ⟨k, y⟩ := x
  have hg : (solve (restD c id code q)).group y = (solve c).group y := by rw [solve_grp, solve_grp]; rfl
  have hb : (solve (restD c id code q)).buckets y = (solve c).buckets y := by unfold Solv.buckets; rw [hg]
  constructor
  · unfold comb comb0
    dsimp only
    rw [solve_tab, solve_tab, restD_tab, solve_has, solve_has, solve_blk, solve_blk, restD_blk, hb, hg]
    by_cases h1 : k = 1
    · subst h1
      have : id ≠ y := fun e => hx (by rw [e])
      rw [if_neg this]; rfl
    · simp only [if_neg h1]; rfl
  · unfold Solv.leads
    dsimp only
    rw [solve_tab, solve_tab, restD_tab, solve_blk, solve_blk, restD_blk, hb]
    by_cases h1 : k = 1
    · subst h1
      have : id ≠ y := fun e => hx (by rw [e])
      rw [if_neg this]
    · have h1' : (k == 1) = false := by simpa using h1
      simp only [h1', Bool.false_eq_true, if_false]
theorem restD_acy {c : Config} (ha : acy (solve c)) {id : Int} {b : Block} {i : Instr} {code : Sl Instr} (q : Bool) (hf : (c.blocks.l.find? fun b => b.id == id) = some b) (hc : b.code.l = i :: code.l) : acy (solve (restD c id code q)) := by
  refine acy_mono (fun x y hy => ?_) ha
  by_cases h : x = (1, id)
  · subst h
    rw [leads_1, solve_blk, restD_blk, if_pos rfl] at hy
    rw [leads_1, solve_blk]
    unfold blkL
    rw [hf]
    show y ∈ b.code.l.flatMap instrLead
    rw [hc, List.flatMap_cons]
    exact List.mem_append.2 (.inr hy)
  · rw [(restD_comb c id code q (fun _ => 0) h).2] at hy; exact hy
theorem restD_val {c : Config} (ha : acy (solve c)) {id : Int} {b : Block} {i : Instr} {code : Sl Instr} (q : Bool) (hf : (c.blocks.l.find? fun b => b.id == id) = some b) (hc : b.code.l = i :: code.l) :
    ∀ y, Way (solve c) (1, id) y → val (solve (restD c id code q)) y = val (solve c) y := by
  have had := restD_acy ha q hf hc
  intro y
  induction ha y with
  | intro y _ ih =>
    intro hw
    have hne : y ≠ (1, id) := fun e => Way.not_self (ha (1, id)) (e ▸ hw)
    obtain ⟨e1, e2⟩ := restD_comb c id code q (val (solve (restD c id code q))) hne
    rw [val_is had y, val_is ha y, e1]
    exact comb_congr fun z hz => ih z hz (.more hw hz)
theorem head_rest {c : Config} (ha : acy (solve c)) {id : Int} {b : Block} {i : Instr} {code : Sl Instr} (q : Bool) (hf : (c.blocks.l.find? fun b => b.id == id) = some b) (hc : b.code.l = i :: code.l)
    (h12 : i.op ≠ 12) (h13 : i.op ≠ 13) (h14 : i.op ≠ 14) (h23 : i.op ≠ 23) (h22 : i.op ≠ 22) : val (solve c) (1, id) = min 65537 (1 + val (solve (restD c id code q)) (1, id)) := by
  have had := restD_acy ha q hf hc
  have hv := restD_val ha q hf hc
  have e : over = 65537 := rfl
  have e1 : (codeV (val (solve c)) (i :: code.l)).getD 0 0 = min over (1 + (codeV (val (solve c)) code.l).getD 0 0) := by
    have n1 : ¬ (i.op = 23 ∨ i.op = 22) := by omega
    have n2 : ¬ (i.op = 12 ∧ 0 ≤ i.n ∧ i.n < code.l.length) := by omega
    simp only [codeV, if_neg n1, if_neg h13, if_neg h14, if_neg n2]; rfl
  have e2 : val (solve (restD c id code q)) (1, id) = min over ((codeV (val (solve c)) code.l).getD 0 0) := by
    rw [val_is had (1, id)]
    unfold comb comb0
    rw [if_neg (fun h => by cases h), if_pos rfl, solve_blk, restD_blk, if_pos rfl]
    rw [codeV_congr (V := val (solve (restD c id code q))) (W := val (solve c)) fun y hy => hv y (.one (by
      rw [leads_1, solve_blk]
      unfold blkL
      rw [hf]
      show y ∈ b.code.l.flatMap instrLead
      rw [hc, List.flatMap_cons]
      exact List.mem_append.2 (.inr hy)))]
  rw [val_blk ha hf, hc, e1, e2]
  omega
def entF (c : Config) (id : Int) (k : Nat) (n : Int) : Int := (((c.entries.l.take k).filter fun e => e.table == id).map fun e => val (solve c) (1, e.block)).foldl max n
theorem entF_snoc {c : Config} {id : Int} {k : Nat} {n : Int} (hk : k < c.entries.l.length) : entF c id (k + 1) n = if c.entries.l[k].table == id then max (entF c id k n) (val (solve c) (1, c.entries.l[k].block)) else entF c id k n := by
  unfold entF
  rw [List.take_succ_eq_append_getElem hk, List.filter_append, List.map_append, List.foldl_append]
  cases h : c.entries.l[k].table == id <;> simp [List.filter_cons, h]
theorem entF_bnd {c : Config} (ha : acy (solve c)) (id : Int) (k : Nat) (n : Int) (h0 : 0 ≤ n) (h1 : n ≤ 65537) : 0 ≤ entF c id k n ∧ entF c id k n ≤ 65537 := by
  have hb := val_bnd ha (val_is ha)
  refine ⟨Int.le_trans h0 (foldl_max_ge _ _).1, foldl_max_le _ _ _ h1 fun r hr => ?_⟩
  obtain ⟨e, _, rfl⟩ := List.mem_map.1 hr
  exact (hb _).2
theorem tab_all {c : Config} (ha : acy (solve c)) {id : Int} {t : Table} (hf : (c.tables.l.find? fun t => t.id == id) = some t) : val (solve c) (0, id) = min 65537 (1 + entF c id c.entries.l.length (val (solve c) (1, t.miss))) := by
  have e : over = 65537 := rfl
  have hb := val_bnd ha (val_is ha) (1, t.miss)
  rw [val_is ha (0, id)]
  unfold comb comb0 entF
  rw [if_pos rfl, solve_has, hf, if_pos (show (some t).isSome = true from rfl)]
  dsimp only
  rw [solve_tab]
  unfold tabL
  rw [hf, List.take_length]
  have : max 0 (val (solve c) (1, t.miss)) = val (solve c) (1, t.miss) := by omega
  simp only [List.map_cons, List.map_map, List.foldl_cons, this]
  have e2 : (List.map ((fun b => val (solve c) (1, b)) ∘ fun x => x.block) (List.filter (fun e => e.table == id) c.entries.l)) = List.map (fun e => val (solve c) (1, e.block)) (List.filter (fun e => e.table == id) c.entries.l) := rfl
  rw [e2, e]
  omega
end
end Go.AM.B

/- The law BoundParts. -/
namespace Go.AM.B
open Go.Proofs.Ytebogdeaiecldaa.Tab
noncomputable section
set_option linter.unusedVariables false
set_option linter.unusedSimpArgs false
set_option maxHeartbeats 4000000

theorem restD_small {c : Config} (sm : Small c) (m : n0 c ≤ 60) {id : Int} {code : Sl Instr} {q : Bool} (h : code.l.length < 100000) : Small (restD c id code q) := by
  unfold n0 at m
  refine ⟨sm.sn, sm.sa, sm.st, sm.se, ?_, sm.sg, ?_, sm.sk⟩
  · show (_ :: c.blocks.l).length < _
    rw [List.length_cons]; omega
  · intro x hx
    rcases List.mem_cons.1 hx with rfl | hx
    · exact h
    · exact sm.sc x hx
theorem restD_pur {c : Config} {id : Int} {code : Sl Instr} {q : Bool} {h : Heap} {o : AM.Id} (he : code.e = 7) (hg : h.get o = some (.cells ([AV.int .i64 id, AV.pslice (code.l.flatMap Instr.enc) code.l.length 7 code.clip] ++ c.blocks.l.flatMap Block.enc))) :
    AM.pur purLimit h (.agg [c.nodes.av 9 Node.enc, c.fields.av 5 Field.enc, c.tables.av 5 Table.enc, c.entries.av 11 Entry.enc, .slice o 0 (1 + c.blocks.l.length) 2 q, c.groups.av 4 Group.enc, c.meters.av 3 Meter.enc, c.regs.av 2 Regs.enc, c.counters.av 1 encI]) = some (.agg (restD c id code q).enc) := by
  have e : [AV.int .i64 id, AV.pslice (code.l.flatMap Instr.enc) code.l.length 7 code.clip] ++ c.blocks.l.flatMap Block.enc = ((⟨id, code⟩ : Block) :: c.blocks.l).flatMap Block.enc := by
    rw [List.flatMap_cons]; unfold Block.enc Sl.av; dsimp only; rw [he]
  rw [e] at hg
  have en : 1 + c.blocks.l.length = ((⟨id, code⟩ : Block) :: c.blocks.l).length := by rw [List.length_cons]; omega
  have := pur_slice (k := 38) (clip := q) hg (flat_len (k := 2) (fun _ => rfl) _) (by
    intro a ha; obtain ⟨x, _, ha⟩ := List.mem_flatMap.1 ha; simp only [Block.enc, List.mem_cons, List.not_mem_nil, or_false] at ha; rcases ha with rfl | rfl <;> rfl)
  rw [← en] at this
  refine pur_agg (mapO_cons rfl (mapO_cons rfl (mapO_cons rfl (mapO_cons rfl (mapO_cons (this.trans ?_) (mapO_cons rfl (mapO_cons rfl (mapO_cons rfl (mapO_cons rfl rfl)))))))))
  rw [en]; rfl
theorem parts_c (c : Config) (id : Int) (hc : Config.ok c) : VC1 T 6 [.agg c.enc, .int .i64 id] (.bool true) := by
  have l1 := large_k hc
  have l3 := awake_c
  refine VC1.of (vf := v6) rfl rfl ?_
  unfold v6
  repeat (first | refine W.seq ?_ | refine W.ops ?_ | refine WL.off rfl rfl ?_ | refine WL.val rfl rfl rfl ?_ | refine WL.nil ?_ | refine W.block ?_ | refine W.outBlock ?_ | refine W.skip ?_ | refine W.exit rfl ?_ | refine WL.box rfl rfl rfl ?_ | refine W.opsD ?_ | refine W.condT rfl ?_ | refine W.condF rfl ?_)
  refine WL.view rfl rfl rfl l1 rfl rfl ?_
  repeat (first | refine W.seq ?_ | refine W.ops ?_ | refine WL.off rfl rfl ?_ | refine WL.val rfl rfl rfl ?_ | refine WL.nil ?_ | refine W.block ?_ | refine W.outBlock ?_ | refine W.skip ?_ | refine W.exit rfl ?_ | refine WL.box rfl rfl rfl ?_ | refine W.opsD ?_ | refine W.condT rfl ?_ | refine W.condF rfl ?_)
  refine WL.splitG rfl (fun g1 => ?_) (fun g1 => ?_)
  · repeat (first | refine W.seq ?_ | refine W.ops ?_ | refine WL.off rfl rfl ?_ | refine WL.val rfl rfl rfl ?_ | refine WL.nil ?_ | refine W.block ?_ | refine W.outBlock ?_ | refine W.skip ?_ | refine W.exit rfl ?_ | refine WL.box rfl rfl rfl ?_ | refine W.opsD ?_ | refine W.condT rfl ?_ | refine W.condF rfl ?_)
    refine WL.view rfl rfl rfl l3 rfl rfl ?_
    repeat (first | refine W.seq ?_ | refine W.ops ?_ | refine WL.off rfl rfl ?_ | refine WL.val rfl rfl rfl ?_ | refine WL.nil ?_ | refine W.block ?_ | refine W.outBlock ?_ | refine W.skip ?_ | refine W.exit rfl ?_ | refine WL.box rfl rfl rfl ?_ | refine W.opsD ?_ | refine W.condT rfl ?_ | refine W.condF rfl ?_)
    exact W.ret ⟨_, rfl, rfl⟩
  obtain ⟨sm1, m1⟩ := large_small g1
  repeat (first | refine W.seq ?_ | refine W.ops ?_ | refine WL.off rfl rfl ?_ | refine WL.val rfl rfl rfl ?_ | refine WL.nil ?_ | refine W.block ?_ | refine W.outBlock ?_ | refine W.skip ?_ | refine W.exit rfl ?_ | refine WL.box rfl rfl rfl ?_ | refine W.opsD ?_ | refine W.condT rfl ?_ | refine W.condF rfl ?_)
  refine WL.view rfl rfl rfl (cyc_c c sm1) rfl rfl ?_
  repeat (first | refine W.seq ?_ | refine W.ops ?_ | refine WL.off rfl rfl ?_ | refine WL.val rfl rfl rfl ?_ | refine WL.nil ?_ | refine W.block ?_ | refine W.outBlock ?_ | refine W.skip ?_ | refine W.exit rfl ?_ | refine WL.box rfl rfl rfl ?_ | refine W.opsD ?_ | refine W.condT rfl ?_ | refine W.condF rfl ?_)
  refine WL.splitG rfl (fun g2 => ?_) (fun g2 => ?_)
  · repeat (first | refine W.seq ?_ | refine W.ops ?_ | refine WL.off rfl rfl ?_ | refine WL.val rfl rfl rfl ?_ | refine WL.nil ?_ | refine W.block ?_ | refine W.outBlock ?_ | refine W.skip ?_ | refine W.exit rfl ?_ | refine WL.box rfl rfl rfl ?_ | refine W.opsD ?_ | refine W.condT rfl ?_ | refine W.condF rfl ?_)
    refine WL.view rfl rfl rfl l3 rfl rfl ?_
    repeat (first | refine W.seq ?_ | refine W.ops ?_ | refine WL.off rfl rfl ?_ | refine WL.val rfl rfl rfl ?_ | refine WL.nil ?_ | refine W.block ?_ | refine W.outBlock ?_ | refine W.skip ?_ | refine W.exit rfl ?_ | refine WL.box rfl rfl rfl ?_ | refine W.opsD ?_ | refine W.condT rfl ?_ | refine W.condF rfl ?_)
    exact W.ret ⟨_, rfl, rfl⟩
  have ha := acy_of g2
  repeat (first | refine W.seq ?_ | refine W.ops ?_ | refine WL.off rfl rfl ?_ | refine WL.val rfl rfl rfl ?_ | refine WL.nil ?_ | refine W.block ?_ | refine W.outBlock ?_ | refine W.skip ?_ | refine W.exit rfl ?_ | refine WL.box rfl rfl rfl ?_ | refine W.opsD ?_ | refine W.condT rfl ?_ | refine W.condF rfl ?_)
  refine WL.view rfl rfl rfl l3 rfl rfl ?_
  repeat (first | refine W.seq ?_ | refine W.ops ?_ | refine WL.off rfl rfl ?_ | refine WL.val rfl rfl rfl ?_ | refine WL.nil ?_ | refine W.block ?_ | refine W.outBlock ?_ | refine W.skip ?_ | refine W.exit rfl ?_ | refine WL.box rfl rfl rfl ?_ | refine W.opsD ?_ | refine W.condT rfl ?_ | refine W.condF rfl ?_)
  have m1' := m1
  unfold n0 at m1'
  have hb : ∀ x, bnd (solve c) x = (val (solve c) x, 0) := fun x => by simp [bnd, ha]
  have hv := val_bnd ha (val_is ha)
  refine W.loopE (E0 := envOf [(1, _), (2, _), (5, _)]) rfl (β := Nat) (fun b => [(5, .v (.int .i64 b))])
    (fun b h n => b ≤ c.blocks.l.length ∧ ∀ j (k : j < c.blocks.l.length), j < b → (c.blocks.l[j].id == id) = false) (fun b => c.blocks.l.length - b) 0 rfl ⟨by simp, fun j k h => by omega⟩ ?_
  rintro i h n ⟨hi, hf⟩ ih
  repeat (first | refine W.seq ?_ | refine W.ops ?_ | refine WL.off rfl rfl ?_ | refine WL.val rfl rfl rfl ?_ | refine WL.nil ?_ | refine W.block ?_ | refine W.outBlock ?_ | refine W.skip ?_ | refine W.exit rfl ?_ | refine WL.box rfl rfl rfl ?_ | refine W.opsD ?_ | refine W.condT rfl ?_ | refine W.condF rfl ?_)
  refine W.condS rfl (fun hb2 => ?_) (fun hb2 => ?_)
  · have hlt : i < c.blocks.l.length := by simpa using hb2
    repeat (first | refine W.seq ?_ | refine W.ops ?_ | refine WL.off rfl rfl ?_ | refine WL.val rfl rfl rfl ?_ | refine WL.nil ?_ | refine W.block ?_ | refine W.outBlock ?_ | refine W.skip ?_ | refine W.exit rfl ?_ | refine WL.box rfl rfl rfl ?_ | refine W.opsD ?_ | refine W.condT rfl ?_ | refine W.condF rfl ?_)
    refine WL.val rfl (aop_iaddr_p rfl rfl hlt) rfl ?_
    repeat (first | refine W.seq ?_ | refine W.ops ?_ | refine WL.off rfl rfl ?_ | refine WL.val rfl rfl rfl ?_ | refine WL.nil ?_ | refine W.block ?_ | refine W.outBlock ?_ | refine W.skip ?_ | refine W.exit rfl ?_ | refine WL.box rfl rfl rfl ?_ | refine W.opsD ?_ | refine W.condT rfl ?_ | refine W.condF rfl ?_)
    refine WL.val rfl (aop_load_el (enc := Block.enc) (o := 1) rfl (fun _ => rfl) hlt (by decide) rfl) rfl ?_
    repeat (first | refine W.seq ?_ | refine W.ops ?_ | refine WL.off rfl rfl ?_ | refine WL.val rfl rfl rfl ?_ | refine WL.nil ?_ | refine W.block ?_ | refine W.outBlock ?_ | refine W.skip ?_ | refine W.exit rfl ?_ | refine WL.box rfl rfl rfl ?_ | refine W.opsD ?_ | refine W.condT rfl ?_ | refine W.condF rfl ?_)
    refine WL.val rfl (aop_iaddr_p rfl rfl hlt) rfl ?_
    repeat (first | refine W.seq ?_ | refine W.ops ?_ | refine WL.off rfl rfl ?_ | refine WL.val rfl rfl rfl ?_ | refine WL.nil ?_ | refine W.block ?_ | refine W.outBlock ?_ | refine W.skip ?_ | refine W.exit rfl ?_ | refine WL.box rfl rfl rfl ?_ | refine W.opsD ?_ | refine W.condT rfl ?_ | refine W.condF rfl ?_)
    refine WL.val rfl (aop_load_el (enc := Block.enc) (o := 0) rfl (fun _ => rfl) hlt (by decide) rfl) rfl ?_
    repeat (first | refine W.seq ?_ | refine W.ops ?_ | refine WL.off rfl rfl ?_ | refine WL.val rfl rfl rfl ?_ | refine WL.nil ?_ | refine W.block ?_ | refine W.outBlock ?_ | refine W.skip ?_ | refine W.exit rfl ?_ | refine WL.box rfl rfl rfl ?_ | refine W.opsD ?_ | refine W.condT rfl ?_ | refine W.condF rfl ?_)
    refine W.condS rfl (fun g3 => ?_) (fun g3 => ?_)
    · have g3' : (c.blocks.l[i].id == id) = false := by simpa using g3
      repeat (first | refine W.seq ?_ | refine W.ops ?_ | refine WL.off rfl rfl ?_ | refine WL.val rfl rfl rfl ?_ | refine WL.nil ?_ | refine W.block ?_ | refine W.outBlock ?_ | refine W.skip ?_ | refine W.exit rfl ?_ | refine WL.box rfl rfl rfl ?_ | refine W.opsD ?_ | refine W.condT rfl ?_ | refine W.condF rfl ?_)
      refine ih (i + 1) _ _ _ ⟨hlt, fun j k hj => ?_⟩ (by omega) (by rw [← wrap64_nat (k := i) (by omega)]; rfl)
      by_cases e : j = i
      · subst e; exact g3'
      · exact hf j k (by omega)
    clear ih
    have g3' : (c.blocks.l[i].id == id) = true := by simpa using g3
    have hfi := find_first (p := fun g : Block => g.id == id) hlt hf g3'
    clear hf
    repeat (first | refine W.seq ?_ | refine W.ops ?_ | refine WL.off rfl rfl ?_ | refine WL.val rfl rfl rfl ?_ | refine WL.nil ?_ | refine W.block ?_ | refine W.outBlock ?_ | refine W.skip ?_ | refine W.exit rfl ?_ | refine WL.box rfl rfl rfl ?_ | refine W.opsD ?_ | refine W.condT rfl ?_ | refine W.condF rfl ?_)
    refine WL.splitG rfl (fun g4 => ?_) (fun g4 => ?_)
    · repeat (first | refine W.seq ?_ | refine W.ops ?_ | refine WL.off rfl rfl ?_ | refine WL.val rfl rfl rfl ?_ | refine WL.nil ?_ | refine W.block ?_ | refine W.outBlock ?_ | refine W.skip ?_ | refine W.exit rfl ?_ | refine WL.box rfl rfl rfl ?_ | refine W.opsD ?_ | refine W.condT rfl ?_ | refine W.condF rfl ?_)
      refine W.loopE (E0 := envOf [(1, _), (2, _), (11, _)]) rfl (β := Nat) (fun b => [(11, .v (.int .i64 b))])
        (fun b h n => b ≤ c.tables.l.length ∧ ∀ j (k : j < c.tables.l.length), j < b → (c.tables.l[j].id == id) = false) (fun b => c.tables.l.length - b) 0 rfl ⟨by simp, fun j k h => by omega⟩ ?_
      rintro i h n ⟨hi, hf⟩ ih
      repeat (first | refine W.seq ?_ | refine W.ops ?_ | refine WL.off rfl rfl ?_ | refine WL.val rfl rfl rfl ?_ | refine WL.nil ?_ | refine W.block ?_ | refine W.outBlock ?_ | refine W.skip ?_ | refine W.exit rfl ?_ | refine WL.box rfl rfl rfl ?_ | refine W.opsD ?_ | refine W.condT rfl ?_ | refine W.condF rfl ?_)
      refine W.condS rfl (fun hb2 => ?_) (fun hb2 => ?_)
      · have hlt : i < c.tables.l.length := by simpa using hb2
        repeat (first | refine W.seq ?_ | refine W.ops ?_ | refine WL.off rfl rfl ?_ | refine WL.val rfl rfl rfl ?_ | refine WL.nil ?_ | refine W.block ?_ | refine W.outBlock ?_ | refine W.skip ?_ | refine W.exit rfl ?_ | refine WL.box rfl rfl rfl ?_ | refine W.opsD ?_ | refine W.condT rfl ?_ | refine W.condF rfl ?_)
        refine WL.val rfl (aop_iaddr_p rfl rfl hlt) rfl ?_
        repeat (first | refine W.seq ?_ | refine W.ops ?_ | refine WL.off rfl rfl ?_ | refine WL.val rfl rfl rfl ?_ | refine WL.nil ?_ | refine W.block ?_ | refine W.outBlock ?_ | refine W.skip ?_ | refine W.exit rfl ?_ | refine WL.box rfl rfl rfl ?_ | refine W.opsD ?_ | refine W.condT rfl ?_ | refine W.condF rfl ?_)
        refine WL.val rfl (aop_load_el (enc := Table.enc) (o := 0) rfl (fun _ => rfl) hlt (by decide) rfl) rfl ?_
        repeat (first | refine W.seq ?_ | refine W.ops ?_ | refine WL.off rfl rfl ?_ | refine WL.val rfl rfl rfl ?_ | refine WL.nil ?_ | refine W.block ?_ | refine W.outBlock ?_ | refine W.skip ?_ | refine W.exit rfl ?_ | refine WL.box rfl rfl rfl ?_ | refine W.opsD ?_ | refine W.condT rfl ?_ | refine W.condF rfl ?_)
        refine W.condS rfl (fun g3 => ?_) (fun g3 => ?_)
        · have g3' : (c.tables.l[i].id == id) = false := by simpa using g3
          repeat (first | refine W.seq ?_ | refine W.ops ?_ | refine WL.off rfl rfl ?_ | refine WL.val rfl rfl rfl ?_ | refine WL.nil ?_ | refine W.block ?_ | refine W.outBlock ?_ | refine W.skip ?_ | refine W.exit rfl ?_ | refine WL.box rfl rfl rfl ?_ | refine W.opsD ?_ | refine W.condT rfl ?_ | refine W.condF rfl ?_)
          refine ih (i + 1) _ _ _ ⟨hlt, fun j k hj => ?_⟩ (by omega) (by rw [← wrap64_nat (k := i) (by omega)]; rfl)
          by_cases e : j = i
          · subst e; exact g3'
          · exact hf j k (by omega)
        clear ih
        have g3' : (c.tables.l[i].id == id) = true := by simpa using g3
        have hfi := find_first (p := fun g : Table => g.id == id) hlt hf g3'
        repeat (first | refine W.seq ?_ | refine W.ops ?_ | refine WL.off rfl rfl ?_ | refine WL.val rfl rfl rfl ?_ | refine WL.nil ?_ | refine W.block ?_ | refine W.outBlock ?_ | refine W.skip ?_ | refine W.exit rfl ?_ | refine WL.box rfl rfl rfl ?_ | refine W.opsD ?_ | refine W.condT rfl ?_ | refine W.condF rfl ?_)
        refine WL.view rfl rfl rfl (table_c c sm1 id) rfl rfl ?_
        rw [hb]
        repeat (first | refine W.seq ?_ | refine W.ops ?_ | refine WL.off rfl rfl ?_ | refine WL.val rfl rfl rfl ?_ | refine WL.nil ?_ | refine W.block ?_ | refine W.outBlock ?_ | refine W.skip ?_ | refine W.exit rfl ?_ | refine WL.box rfl rfl rfl ?_ | refine W.opsD ?_ | refine W.condT rfl ?_ | refine W.condF rfl ?_)
        refine WL.val rfl (aop_iaddr_p rfl rfl hlt) rfl ?_
        repeat (first | refine W.seq ?_ | refine W.ops ?_ | refine WL.off rfl rfl ?_ | refine WL.val rfl rfl rfl ?_ | refine WL.nil ?_ | refine W.block ?_ | refine W.outBlock ?_ | refine W.skip ?_ | refine W.exit rfl ?_ | refine WL.box rfl rfl rfl ?_ | refine W.opsD ?_ | refine W.condT rfl ?_ | refine W.condF rfl ?_)
        refine WL.val rfl (aop_load_el (enc := Table.enc) (o := 4) rfl (fun _ => rfl) hlt (by decide) rfl) rfl ?_
        repeat (first | refine W.seq ?_ | refine W.ops ?_ | refine WL.off rfl rfl ?_ | refine WL.val rfl rfl rfl ?_ | refine WL.nil ?_ | refine W.block ?_ | refine W.outBlock ?_ | refine W.skip ?_ | refine W.exit rfl ?_ | refine WL.box rfl rfl rfl ?_ | refine W.opsD ?_ | refine W.condT rfl ?_ | refine W.condF rfl ?_)
        refine WL.view rfl rfl rfl (block_c c sm1 _) rfl rfl ?_
        rw [hb]
        repeat (first | refine W.seq ?_ | refine W.ops ?_ | refine WL.off rfl rfl ?_ | refine WL.val rfl rfl rfl ?_ | refine WL.nil ?_ | refine W.block ?_ | refine W.outBlock ?_ | refine W.skip ?_ | refine W.exit rfl ?_ | refine WL.box rfl rfl rfl ?_ | refine W.opsD ?_ | refine W.condT rfl ?_ | refine W.condF rfl ?_)
        refine W.loopE (E0 := envOf [(1, _), (2, _), (12, _), (14, _), (16, _)]) rfl (β := Nat) (fun b => [(14, .v (.int .i64 (entF c id b (val (solve c) (1, c.tables.l[i].miss))))), (16, .v (.int .i64 b))])
          (fun b h n => b ≤ c.entries.l.length) (fun b => c.entries.l.length - b) 0 rfl (by simp) ?_
        rintro j h n hj ih
        have hmx := hv (1, c.tables.l[i].miss)
        repeat (first | refine W.seq ?_ | refine W.ops ?_ | refine WL.off rfl rfl ?_ | refine WL.val rfl rfl rfl ?_ | refine WL.nil ?_ | refine W.block ?_ | refine W.outBlock ?_ | refine W.skip ?_ | refine W.exit rfl ?_ | refine WL.box rfl rfl rfl ?_ | refine W.opsD ?_ | refine W.condT rfl ?_ | refine W.condF rfl ?_)
        refine W.condS rfl (fun hb3 => ?_) (fun hb3 => ?_)
        · have hlj : j < c.entries.l.length := by simpa using hb3
          repeat (first | refine W.seq ?_ | refine W.ops ?_ | refine WL.off rfl rfl ?_ | refine WL.val rfl rfl rfl ?_ | refine WL.nil ?_ | refine W.block ?_ | refine W.outBlock ?_ | refine W.skip ?_ | refine W.exit rfl ?_ | refine WL.box rfl rfl rfl ?_ | refine W.opsD ?_ | refine W.condT rfl ?_ | refine W.condF rfl ?_)
          refine WL.val rfl (aop_iaddr_p rfl rfl hlj) rfl ?_
          repeat (first | refine W.seq ?_ | refine W.ops ?_ | refine WL.off rfl rfl ?_ | refine WL.val rfl rfl rfl ?_ | refine WL.nil ?_ | refine W.block ?_ | refine W.outBlock ?_ | refine W.skip ?_ | refine W.exit rfl ?_ | refine WL.box rfl rfl rfl ?_ | refine W.opsD ?_ | refine W.condT rfl ?_ | refine W.condF rfl ?_)
          refine WL.val rfl (aop_load_el (enc := Entry.enc) (o := 0) rfl (fun _ => rfl) hlj (by decide) rfl) rfl ?_
          repeat (first | refine W.seq ?_ | refine W.ops ?_ | refine WL.off rfl rfl ?_ | refine WL.val rfl rfl rfl ?_ | refine WL.nil ?_ | refine W.block ?_ | refine W.outBlock ?_ | refine W.skip ?_ | refine W.exit rfl ?_ | refine WL.box rfl rfl rfl ?_ | refine W.opsD ?_ | refine W.condT rfl ?_ | refine W.condF rfl ?_)
          refine W.condS rfl (fun g4 => ?_) (fun g4 => ?_)
          · have g4' : (c.entries.l[j].table == id) = true := by simpa using g4
            repeat (first | refine W.seq ?_ | refine W.ops ?_ | refine WL.off rfl rfl ?_ | refine WL.val rfl rfl rfl ?_ | refine WL.nil ?_ | refine W.block ?_ | refine W.outBlock ?_ | refine W.skip ?_ | refine W.exit rfl ?_ | refine WL.box rfl rfl rfl ?_ | refine W.opsD ?_ | refine W.condT rfl ?_ | refine W.condF rfl ?_)
            refine WL.val rfl (aop_iaddr_p rfl rfl hlj) rfl ?_
            repeat (first | refine W.seq ?_ | refine W.ops ?_ | refine WL.off rfl rfl ?_ | refine WL.val rfl rfl rfl ?_ | refine WL.nil ?_ | refine W.block ?_ | refine W.outBlock ?_ | refine W.skip ?_ | refine W.exit rfl ?_ | refine WL.box rfl rfl rfl ?_ | refine W.opsD ?_ | refine W.condT rfl ?_ | refine W.condF rfl ?_)
            refine WL.val rfl (aop_load_el (enc := Entry.enc) (o := 5) rfl (fun _ => rfl) hlj (by decide) rfl) rfl ?_
            repeat (first | refine W.seq ?_ | refine W.ops ?_ | refine WL.off rfl rfl ?_ | refine WL.val rfl rfl rfl ?_ | refine WL.nil ?_ | refine W.block ?_ | refine W.outBlock ?_ | refine W.skip ?_ | refine W.exit rfl ?_ | refine WL.box rfl rfl rfl ?_ | refine W.opsD ?_ | refine W.condT rfl ?_ | refine W.condF rfl ?_)
            refine WL.view rfl rfl rfl (block_c c sm1 _) rfl rfl ?_
            rw [hb]
            repeat (first | refine W.seq ?_ | refine W.ops ?_ | refine WL.off rfl rfl ?_ | refine WL.val rfl rfl rfl ?_ | refine WL.nil ?_ | refine W.block ?_ | refine W.outBlock ?_ | refine W.skip ?_ | refine W.exit rfl ?_ | refine WL.box rfl rfl rfl ?_ | refine W.opsD ?_ | refine W.condT rfl ?_ | refine W.condF rfl ?_)
            have es : max (entF c id j (val (solve c) (1, c.tables.l[i].miss))) (val (solve c) (1, c.entries.l[j].block)) = entF c id (j + 1) (val (solve c) (1, c.tables.l[i].miss)) := by rw [entF_snoc hlj, if_pos g4']
            refine ih (j + 1) _ _ _ hlj (by omega) (by rw [← wrap64_nat (k := j) (by omega), ← es]; rfl)
          · have g4' : ¬ (c.entries.l[j].table == id) = true := by simpa using g4
            repeat (first | refine W.seq ?_ | refine W.ops ?_ | refine WL.off rfl rfl ?_ | refine WL.val rfl rfl rfl ?_ | refine WL.nil ?_ | refine W.block ?_ | refine W.outBlock ?_ | refine W.skip ?_ | refine W.exit rfl ?_ | refine WL.box rfl rfl rfl ?_ | refine W.opsD ?_ | refine W.condT rfl ?_ | refine W.condF rfl ?_)
            have es : entF c id j (val (solve c) (1, c.tables.l[i].miss)) = entF c id (j + 1) (val (solve c) (1, c.tables.l[i].miss)) := by rw [entF_snoc hlj, if_neg g4']
            refine ih (j + 1) _ _ _ hlj (by omega) (by rw [← wrap64_nat (k := j) (by omega), ← es]; rfl)
        · clear ih
          have hge : j = c.entries.l.length := by simp at hb3; omega
          subst hge
          repeat (first | refine W.seq ?_ | refine W.ops ?_ | refine WL.off rfl rfl ?_ | refine WL.val rfl rfl rfl ?_ | refine WL.nil ?_ | refine W.block ?_ | refine W.outBlock ?_ | refine W.skip ?_ | refine W.exit rfl ?_ | refine WL.box rfl rfl rfl ?_ | refine W.opsD ?_ | refine W.condT rfl ?_ | refine W.condF rfl ?_)
          have he := entF_bnd ha id c.entries.l.length (val (solve c) (1, c.tables.l[i].miss)) hmx.1 hmx.2
          refine W.ret ⟨_, rfl, retB ?_⟩
          have hA := tab_all ha hfi
          have ew : IntKind.wrap .i64 (1 + entF c id c.entries.l.length (val (solve c) (1, c.tables.l[i].miss))) = 1 + entF c id c.entries.l.length (val (solve c) (1, c.tables.l[i].miss)) := wrap64 (by omega) (by omega)
          rw [ew, hA]
          simp
      · clear ih
        repeat (first | refine W.seq ?_ | refine W.ops ?_ | refine WL.off rfl rfl ?_ | refine WL.val rfl rfl rfl ?_ | refine WL.nil ?_ | refine W.block ?_ | refine W.outBlock ?_ | refine W.skip ?_ | refine W.exit rfl ?_ | refine WL.box rfl rfl rfl ?_ | refine W.opsD ?_ | refine W.condT rfl ?_ | refine W.condF rfl ?_)
        exact W.ret ⟨_, rfl, rfl⟩
    have h0 : 0 < c.blocks.l[i].code.l.length := by
      rcases Nat.eq_zero_or_pos c.blocks.l[i].code.l.length with e | e
      · rw [e] at g4; cases g4
      · exact e
    have hcons : c.blocks.l[i].code.l = c.blocks.l[i].code.l[0] :: c.blocks.l[i].code.l.drop 1 := List.drop_eq_getElem_cons h0
    repeat (first | refine W.seq ?_ | refine W.ops ?_ | refine WL.off rfl rfl ?_ | refine WL.val rfl rfl rfl ?_ | refine WL.nil ?_ | refine W.block ?_ | refine W.outBlock ?_ | refine W.skip ?_ | refine W.exit rfl ?_ | refine WL.box rfl rfl rfl ?_ | refine W.opsD ?_ | refine W.condT rfl ?_ | refine W.condF rfl ?_)
    refine WL.val rfl (aop_iaddr_p rfl rfl h0) rfl ?_
    repeat (first | refine W.seq ?_ | refine W.ops ?_ | refine WL.off rfl rfl ?_ | refine WL.val rfl rfl rfl ?_ | refine WL.nil ?_ | refine W.block ?_ | refine W.outBlock ?_ | refine W.skip ?_ | refine W.exit rfl ?_ | refine WL.box rfl rfl rfl ?_ | refine W.opsD ?_ | refine W.condT rfl ?_ | refine W.condF rfl ?_)
    refine WL.val rfl (aop_load_el (enc := Instr.enc) (o := 0) rfl (fun _ => rfl) h0 (by decide) rfl) rfl ?_
    repeat (first | refine W.seq ?_ | refine W.ops ?_ | refine WL.off rfl rfl ?_ | refine WL.val rfl rfl rfl ?_ | refine WL.nil ?_ | refine W.block ?_ | refine W.outBlock ?_ | refine W.skip ?_ | refine W.exit rfl ?_ | refine WL.box rfl rfl rfl ?_ | refine W.opsD ?_ | refine W.condT rfl ?_ | refine W.condF rfl ?_)
    refine W.condS rfl (fun g5 => ?_) (fun g5 => ?_)
    · repeat (first | refine W.seq ?_ | refine W.ops ?_ | refine WL.off rfl rfl ?_ | refine WL.val rfl rfl rfl ?_ | refine WL.nil ?_ | refine W.block ?_ | refine W.outBlock ?_ | refine W.skip ?_ | refine W.exit rfl ?_ | refine WL.box rfl rfl rfl ?_ | refine W.opsD ?_ | refine W.condT rfl ?_ | refine W.condF rfl ?_)
      refine W.loopE (E0 := envOf [(1, _), (2, _), (11, _)]) rfl (β := Nat) (fun b => [(11, .v (.int .i64 b))])
        (fun b h n => b ≤ c.tables.l.length ∧ ∀ j (k : j < c.tables.l.length), j < b → (c.tables.l[j].id == id) = false) (fun b => c.tables.l.length - b) 0 rfl ⟨by simp, fun j k h => by omega⟩ ?_
      rintro i h n ⟨hi, hf⟩ ih
      repeat (first | refine W.seq ?_ | refine W.ops ?_ | refine WL.off rfl rfl ?_ | refine WL.val rfl rfl rfl ?_ | refine WL.nil ?_ | refine W.block ?_ | refine W.outBlock ?_ | refine W.skip ?_ | refine W.exit rfl ?_ | refine WL.box rfl rfl rfl ?_ | refine W.opsD ?_ | refine W.condT rfl ?_ | refine W.condF rfl ?_)
      refine W.condS rfl (fun hb2 => ?_) (fun hb2 => ?_)
      · have hlt : i < c.tables.l.length := by simpa using hb2
        repeat (first | refine W.seq ?_ | refine W.ops ?_ | refine WL.off rfl rfl ?_ | refine WL.val rfl rfl rfl ?_ | refine WL.nil ?_ | refine W.block ?_ | refine W.outBlock ?_ | refine W.skip ?_ | refine W.exit rfl ?_ | refine WL.box rfl rfl rfl ?_ | refine W.opsD ?_ | refine W.condT rfl ?_ | refine W.condF rfl ?_)
        refine WL.val rfl (aop_iaddr_p rfl rfl hlt) rfl ?_
        repeat (first | refine W.seq ?_ | refine W.ops ?_ | refine WL.off rfl rfl ?_ | refine WL.val rfl rfl rfl ?_ | refine WL.nil ?_ | refine W.block ?_ | refine W.outBlock ?_ | refine W.skip ?_ | refine W.exit rfl ?_ | refine WL.box rfl rfl rfl ?_ | refine W.opsD ?_ | refine W.condT rfl ?_ | refine W.condF rfl ?_)
        refine WL.val rfl (aop_load_el (enc := Table.enc) (o := 0) rfl (fun _ => rfl) hlt (by decide) rfl) rfl ?_
        repeat (first | refine W.seq ?_ | refine W.ops ?_ | refine WL.off rfl rfl ?_ | refine WL.val rfl rfl rfl ?_ | refine WL.nil ?_ | refine W.block ?_ | refine W.outBlock ?_ | refine W.skip ?_ | refine W.exit rfl ?_ | refine WL.box rfl rfl rfl ?_ | refine W.opsD ?_ | refine W.condT rfl ?_ | refine W.condF rfl ?_)
        refine W.condS rfl (fun g3 => ?_) (fun g3 => ?_)
        · have g3' : (c.tables.l[i].id == id) = false := by simpa using g3
          repeat (first | refine W.seq ?_ | refine W.ops ?_ | refine WL.off rfl rfl ?_ | refine WL.val rfl rfl rfl ?_ | refine WL.nil ?_ | refine W.block ?_ | refine W.outBlock ?_ | refine W.skip ?_ | refine W.exit rfl ?_ | refine WL.box rfl rfl rfl ?_ | refine W.opsD ?_ | refine W.condT rfl ?_ | refine W.condF rfl ?_)
          refine ih (i + 1) _ _ _ ⟨hlt, fun j k hj => ?_⟩ (by omega) (by rw [← wrap64_nat (k := i) (by omega)]; rfl)
          by_cases e : j = i
          · subst e; exact g3'
          · exact hf j k (by omega)
        clear ih
        have g3' : (c.tables.l[i].id == id) = true := by simpa using g3
        have hfi := find_first (p := fun g : Table => g.id == id) hlt hf g3'
        repeat (first | refine W.seq ?_ | refine W.ops ?_ | refine WL.off rfl rfl ?_ | refine WL.val rfl rfl rfl ?_ | refine WL.nil ?_ | refine W.block ?_ | refine W.outBlock ?_ | refine W.skip ?_ | refine W.exit rfl ?_ | refine WL.box rfl rfl rfl ?_ | refine W.opsD ?_ | refine W.condT rfl ?_ | refine W.condF rfl ?_)
        refine WL.view rfl rfl rfl (table_c c sm1 id) rfl rfl ?_
        rw [hb]
        repeat (first | refine W.seq ?_ | refine W.ops ?_ | refine WL.off rfl rfl ?_ | refine WL.val rfl rfl rfl ?_ | refine WL.nil ?_ | refine W.block ?_ | refine W.outBlock ?_ | refine W.skip ?_ | refine W.exit rfl ?_ | refine WL.box rfl rfl rfl ?_ | refine W.opsD ?_ | refine W.condT rfl ?_ | refine W.condF rfl ?_)
        refine WL.val rfl (aop_iaddr_p rfl rfl hlt) rfl ?_
        repeat (first | refine W.seq ?_ | refine W.ops ?_ | refine WL.off rfl rfl ?_ | refine WL.val rfl rfl rfl ?_ | refine WL.nil ?_ | refine W.block ?_ | refine W.outBlock ?_ | refine W.skip ?_ | refine W.exit rfl ?_ | refine WL.box rfl rfl rfl ?_ | refine W.opsD ?_ | refine W.condT rfl ?_ | refine W.condF rfl ?_)
        refine WL.val rfl (aop_load_el (enc := Table.enc) (o := 4) rfl (fun _ => rfl) hlt (by decide) rfl) rfl ?_
        repeat (first | refine W.seq ?_ | refine W.ops ?_ | refine WL.off rfl rfl ?_ | refine WL.val rfl rfl rfl ?_ | refine WL.nil ?_ | refine W.block ?_ | refine W.outBlock ?_ | refine W.skip ?_ | refine W.exit rfl ?_ | refine WL.box rfl rfl rfl ?_ | refine W.opsD ?_ | refine W.condT rfl ?_ | refine W.condF rfl ?_)
        refine WL.view rfl rfl rfl (block_c c sm1 _) rfl rfl ?_
        rw [hb]
        repeat (first | refine W.seq ?_ | refine W.ops ?_ | refine WL.off rfl rfl ?_ | refine WL.val rfl rfl rfl ?_ | refine WL.nil ?_ | refine W.block ?_ | refine W.outBlock ?_ | refine W.skip ?_ | refine W.exit rfl ?_ | refine WL.box rfl rfl rfl ?_ | refine W.opsD ?_ | refine W.condT rfl ?_ | refine W.condF rfl ?_)
        refine W.loopE (E0 := envOf [(1, _), (2, _), (12, _), (14, _), (16, _)]) rfl (β := Nat) (fun b => [(14, .v (.int .i64 (entF c id b (val (solve c) (1, c.tables.l[i].miss))))), (16, .v (.int .i64 b))])
          (fun b h n => b ≤ c.entries.l.length) (fun b => c.entries.l.length - b) 0 rfl (by simp) ?_
        rintro j h n hj ih
        have hmx := hv (1, c.tables.l[i].miss)
        repeat (first | refine W.seq ?_ | refine W.ops ?_ | refine WL.off rfl rfl ?_ | refine WL.val rfl rfl rfl ?_ | refine WL.nil ?_ | refine W.block ?_ | refine W.outBlock ?_ | refine W.skip ?_ | refine W.exit rfl ?_ | refine WL.box rfl rfl rfl ?_ | refine W.opsD ?_ | refine W.condT rfl ?_ | refine W.condF rfl ?_)
        refine W.condS rfl (fun hb3 => ?_) (fun hb3 => ?_)
        · have hlj : j < c.entries.l.length := by simpa using hb3
          repeat (first | refine W.seq ?_ | refine W.ops ?_ | refine WL.off rfl rfl ?_ | refine WL.val rfl rfl rfl ?_ | refine WL.nil ?_ | refine W.block ?_ | refine W.outBlock ?_ | refine W.skip ?_ | refine W.exit rfl ?_ | refine WL.box rfl rfl rfl ?_ | refine W.opsD ?_ | refine W.condT rfl ?_ | refine W.condF rfl ?_)
          refine WL.val rfl (aop_iaddr_p rfl rfl hlj) rfl ?_
          repeat (first | refine W.seq ?_ | refine W.ops ?_ | refine WL.off rfl rfl ?_ | refine WL.val rfl rfl rfl ?_ | refine WL.nil ?_ | refine W.block ?_ | refine W.outBlock ?_ | refine W.skip ?_ | refine W.exit rfl ?_ | refine WL.box rfl rfl rfl ?_ | refine W.opsD ?_ | refine W.condT rfl ?_ | refine W.condF rfl ?_)
          refine WL.val rfl (aop_load_el (enc := Entry.enc) (o := 0) rfl (fun _ => rfl) hlj (by decide) rfl) rfl ?_
          repeat (first | refine W.seq ?_ | refine W.ops ?_ | refine WL.off rfl rfl ?_ | refine WL.val rfl rfl rfl ?_ | refine WL.nil ?_ | refine W.block ?_ | refine W.outBlock ?_ | refine W.skip ?_ | refine W.exit rfl ?_ | refine WL.box rfl rfl rfl ?_ | refine W.opsD ?_ | refine W.condT rfl ?_ | refine W.condF rfl ?_)
          refine W.condS rfl (fun g4 => ?_) (fun g4 => ?_)
          · have g4' : (c.entries.l[j].table == id) = true := by simpa using g4
            repeat (first | refine W.seq ?_ | refine W.ops ?_ | refine WL.off rfl rfl ?_ | refine WL.val rfl rfl rfl ?_ | refine WL.nil ?_ | refine W.block ?_ | refine W.outBlock ?_ | refine W.skip ?_ | refine W.exit rfl ?_ | refine WL.box rfl rfl rfl ?_ | refine W.opsD ?_ | refine W.condT rfl ?_ | refine W.condF rfl ?_)
            refine WL.val rfl (aop_iaddr_p rfl rfl hlj) rfl ?_
            repeat (first | refine W.seq ?_ | refine W.ops ?_ | refine WL.off rfl rfl ?_ | refine WL.val rfl rfl rfl ?_ | refine WL.nil ?_ | refine W.block ?_ | refine W.outBlock ?_ | refine W.skip ?_ | refine W.exit rfl ?_ | refine WL.box rfl rfl rfl ?_ | refine W.opsD ?_ | refine W.condT rfl ?_ | refine W.condF rfl ?_)
            refine WL.val rfl (aop_load_el (enc := Entry.enc) (o := 5) rfl (fun _ => rfl) hlj (by decide) rfl) rfl ?_
            repeat (first | refine W.seq ?_ | refine W.ops ?_ | refine WL.off rfl rfl ?_ | refine WL.val rfl rfl rfl ?_ | refine WL.nil ?_ | refine W.block ?_ | refine W.outBlock ?_ | refine W.skip ?_ | refine W.exit rfl ?_ | refine WL.box rfl rfl rfl ?_ | refine W.opsD ?_ | refine W.condT rfl ?_ | refine W.condF rfl ?_)
            refine WL.view rfl rfl rfl (block_c c sm1 _) rfl rfl ?_
            rw [hb]
            repeat (first | refine W.seq ?_ | refine W.ops ?_ | refine WL.off rfl rfl ?_ | refine WL.val rfl rfl rfl ?_ | refine WL.nil ?_ | refine W.block ?_ | refine W.outBlock ?_ | refine W.skip ?_ | refine W.exit rfl ?_ | refine WL.box rfl rfl rfl ?_ | refine W.opsD ?_ | refine W.condT rfl ?_ | refine W.condF rfl ?_)
            have es : max (entF c id j (val (solve c) (1, c.tables.l[i].miss))) (val (solve c) (1, c.entries.l[j].block)) = entF c id (j + 1) (val (solve c) (1, c.tables.l[i].miss)) := by rw [entF_snoc hlj, if_pos g4']
            refine ih (j + 1) _ _ _ hlj (by omega) (by rw [← wrap64_nat (k := j) (by omega), ← es]; rfl)
          · have g4' : ¬ (c.entries.l[j].table == id) = true := by simpa using g4
            repeat (first | refine W.seq ?_ | refine W.ops ?_ | refine WL.off rfl rfl ?_ | refine WL.val rfl rfl rfl ?_ | refine WL.nil ?_ | refine W.block ?_ | refine W.outBlock ?_ | refine W.skip ?_ | refine W.exit rfl ?_ | refine WL.box rfl rfl rfl ?_ | refine W.opsD ?_ | refine W.condT rfl ?_ | refine W.condF rfl ?_)
            have es : entF c id j (val (solve c) (1, c.tables.l[i].miss)) = entF c id (j + 1) (val (solve c) (1, c.tables.l[i].miss)) := by rw [entF_snoc hlj, if_neg g4']
            refine ih (j + 1) _ _ _ hlj (by omega) (by rw [← wrap64_nat (k := j) (by omega), ← es]; rfl)
        · clear ih
          have hge : j = c.entries.l.length := by simp at hb3; omega
          subst hge
          repeat (first | refine W.seq ?_ | refine W.ops ?_ | refine WL.off rfl rfl ?_ | refine WL.val rfl rfl rfl ?_ | refine WL.nil ?_ | refine W.block ?_ | refine W.outBlock ?_ | refine W.skip ?_ | refine W.exit rfl ?_ | refine WL.box rfl rfl rfl ?_ | refine W.opsD ?_ | refine W.condT rfl ?_ | refine W.condF rfl ?_)
          have he := entF_bnd ha id c.entries.l.length (val (solve c) (1, c.tables.l[i].miss)) hmx.1 hmx.2
          refine W.ret ⟨_, rfl, retB ?_⟩
          have hA := tab_all ha hfi
          have ew : IntKind.wrap .i64 (1 + entF c id c.entries.l.length (val (solve c) (1, c.tables.l[i].miss))) = 1 + entF c id c.entries.l.length (val (solve c) (1, c.tables.l[i].miss)) := wrap64 (by omega) (by omega)
          rw [ew, hA]
          simp
      · clear ih
        repeat (first | refine W.seq ?_ | refine W.ops ?_ | refine WL.off rfl rfl ?_ | refine WL.val rfl rfl rfl ?_ | refine WL.nil ?_ | refine W.block ?_ | refine W.outBlock ?_ | refine W.skip ?_ | refine W.exit rfl ?_ | refine WL.box rfl rfl rfl ?_ | refine W.opsD ?_ | refine W.condT rfl ?_ | refine W.condF rfl ?_)
        exact W.ret ⟨_, rfl, rfl⟩
    have g5' : c.blocks.l[i].code.l[0].op ≠ 12 := by simpa using g5
    repeat (first | refine W.seq ?_ | refine W.ops ?_ | refine WL.off rfl rfl ?_ | refine WL.val rfl rfl rfl ?_ | refine WL.nil ?_ | refine W.block ?_ | refine W.outBlock ?_ | refine W.skip ?_ | refine W.exit rfl ?_ | refine WL.box rfl rfl rfl ?_ | refine W.opsD ?_ | refine W.condT rfl ?_ | refine W.condF rfl ?_)
    refine WL.view rfl rfl rfl (block_c c sm1 id) rfl rfl ?_
    rw [hb]
    repeat (first | refine W.seq ?_ | refine W.ops ?_ | refine WL.off rfl rfl ?_ | refine WL.val rfl rfl rfl ?_ | refine WL.nil ?_ | refine W.block ?_ | refine W.outBlock ?_ | refine W.skip ?_ | refine W.exit rfl ?_ | refine WL.box rfl rfl rfl ?_ | refine W.opsD ?_ | refine W.condT rfl ?_ | refine W.condF rfl ?_)
    refine WL.val rfl (aop_iaddr_p rfl rfl h0) rfl ?_
    repeat (first | refine W.seq ?_ | refine W.ops ?_ | refine WL.off rfl rfl ?_ | refine WL.val rfl rfl rfl ?_ | refine WL.nil ?_ | refine W.block ?_ | refine W.outBlock ?_ | refine W.skip ?_ | refine W.exit rfl ?_ | refine WL.box rfl rfl rfl ?_ | refine W.opsD ?_ | refine W.condT rfl ?_ | refine W.condF rfl ?_)
    refine WL.val rfl (aop_load_el (enc := Instr.enc) (o := 0) rfl (fun _ => rfl) h0 (by decide) rfl) rfl ?_
    repeat (first | refine W.seq ?_ | refine W.ops ?_ | refine WL.off rfl rfl ?_ | refine WL.val rfl rfl rfl ?_ | refine WL.nil ?_ | refine W.block ?_ | refine W.outBlock ?_ | refine W.skip ?_ | refine W.exit rfl ?_ | refine WL.box rfl rfl rfl ?_ | refine W.opsD ?_ | refine W.condT rfl ?_ | refine W.condF rfl ?_)
    refine W.condS rfl (fun g6 => ?_) (fun g6 => ?_)
    · have g6' : c.blocks.l[i].code.l[0].op = 13 := by simpa using g6
      repeat (first | refine W.seq ?_ | refine W.ops ?_ | refine WL.off rfl rfl ?_ | refine WL.val rfl rfl rfl ?_ | refine WL.nil ?_ | refine W.block ?_ | refine W.outBlock ?_ | refine W.skip ?_ | refine W.exit rfl ?_ | refine WL.box rfl rfl rfl ?_ | refine W.opsD ?_ | refine W.condT rfl ?_ | refine W.condF rfl ?_)
      refine WL.val rfl (aop_iaddr_p rfl rfl h0) rfl ?_
      repeat (first | refine W.seq ?_ | refine W.ops ?_ | refine WL.off rfl rfl ?_ | refine WL.val rfl rfl rfl ?_ | refine WL.nil ?_ | refine W.block ?_ | refine W.outBlock ?_ | refine W.skip ?_ | refine W.exit rfl ?_ | refine WL.box rfl rfl rfl ?_ | refine W.opsD ?_ | refine W.condT rfl ?_ | refine W.condF rfl ?_)
      refine WL.val rfl (aop_load_el (enc := Instr.enc) (o := 6) rfl (fun _ => rfl) h0 (by decide) rfl) rfl ?_
      repeat (first | refine W.seq ?_ | refine W.ops ?_ | refine WL.off rfl rfl ?_ | refine WL.val rfl rfl rfl ?_ | refine WL.nil ?_ | refine W.block ?_ | refine W.outBlock ?_ | refine W.skip ?_ | refine W.exit rfl ?_ | refine WL.box rfl rfl rfl ?_ | refine W.opsD ?_ | refine W.condT rfl ?_ | refine W.condF rfl ?_)
      refine WL.view rfl rfl rfl (table_c c sm1 _) rfl rfl ?_
      rw [hb]
      repeat (first | refine W.seq ?_ | refine W.ops ?_ | refine WL.off rfl rfl ?_ | refine WL.val rfl rfl rfl ?_ | refine WL.nil ?_ | refine W.block ?_ | refine W.outBlock ?_ | refine W.skip ?_ | refine W.exit rfl ?_ | refine WL.box rfl rfl rfl ?_ | refine W.opsD ?_ | refine W.condT rfl ?_ | refine W.condF rfl ?_)
      refine W.ret ⟨_, rfl, retB ?_⟩
      have hVV := hv (0, c.blocks.l[i].code.l[0].n)
      have ew : IntKind.wrap .i64 ((1 : Int) + val (solve c) (0, c.blocks.l[i].code.l[0].n)) = (1 : Int) + val (solve c) (0, c.blocks.l[i].code.l[0].n) := wrap64 (by omega) (by omega)
      dsimp only
      rw [ew, head_13 ha hfi hcons g6']
      simp
    have g6' : c.blocks.l[i].code.l[0].op ≠ 13 := by simpa using g6
    repeat (first | refine W.seq ?_ | refine W.ops ?_ | refine WL.off rfl rfl ?_ | refine WL.val rfl rfl rfl ?_ | refine WL.nil ?_ | refine W.block ?_ | refine W.outBlock ?_ | refine W.skip ?_ | refine W.exit rfl ?_ | refine WL.box rfl rfl rfl ?_ | refine W.opsD ?_ | refine W.condT rfl ?_ | refine W.condF rfl ?_)
    refine W.condS rfl (fun g7 => ?_) (fun g7 => ?_)
    · have g7' : c.blocks.l[i].code.l[0].op = 14 := by simpa using g7
      repeat (first | refine W.seq ?_ | refine W.ops ?_ | refine WL.off rfl rfl ?_ | refine WL.val rfl rfl rfl ?_ | refine WL.nil ?_ | refine W.block ?_ | refine W.outBlock ?_ | refine W.skip ?_ | refine W.exit rfl ?_ | refine WL.box rfl rfl rfl ?_ | refine W.opsD ?_ | refine W.condT rfl ?_ | refine W.condF rfl ?_)
      refine WL.val rfl (aop_iaddr_p rfl rfl h0) rfl ?_
      repeat (first | refine W.seq ?_ | refine W.ops ?_ | refine WL.off rfl rfl ?_ | refine WL.val rfl rfl rfl ?_ | refine WL.nil ?_ | refine W.block ?_ | refine W.outBlock ?_ | refine W.skip ?_ | refine W.exit rfl ?_ | refine WL.box rfl rfl rfl ?_ | refine W.opsD ?_ | refine W.condT rfl ?_ | refine W.condF rfl ?_)
      refine WL.val rfl (aop_load_el (enc := Instr.enc) (o := 6) rfl (fun _ => rfl) h0 (by decide) rfl) rfl ?_
      repeat (first | refine W.seq ?_ | refine W.ops ?_ | refine WL.off rfl rfl ?_ | refine WL.val rfl rfl rfl ?_ | refine WL.nil ?_ | refine W.block ?_ | refine W.outBlock ?_ | refine W.skip ?_ | refine W.exit rfl ?_ | refine WL.box rfl rfl rfl ?_ | refine W.opsD ?_ | refine W.condT rfl ?_ | refine W.condF rfl ?_)
      refine WL.view rfl rfl rfl (group_c c sm1 _) rfl rfl ?_
      rw [hb]
      repeat (first | refine W.seq ?_ | refine W.ops ?_ | refine WL.off rfl rfl ?_ | refine WL.val rfl rfl rfl ?_ | refine WL.nil ?_ | refine W.block ?_ | refine W.outBlock ?_ | refine W.skip ?_ | refine W.exit rfl ?_ | refine WL.box rfl rfl rfl ?_ | refine W.opsD ?_ | refine W.condT rfl ?_ | refine W.condF rfl ?_)
      refine W.ret ⟨_, rfl, retB ?_⟩
      have hVV := hv (2, c.blocks.l[i].code.l[0].n)
      have ew : IntKind.wrap .i64 ((1 : Int) + val (solve c) (2, c.blocks.l[i].code.l[0].n)) = (1 : Int) + val (solve c) (2, c.blocks.l[i].code.l[0].n) := wrap64 (by omega) (by omega)
      dsimp only
      rw [ew, head_14 ha hfi hcons g7']
      simp
    have g7' : c.blocks.l[i].code.l[0].op ≠ 14 := by simpa using g7
    repeat (first | refine W.seq ?_ | refine W.ops ?_ | refine WL.off rfl rfl ?_ | refine WL.val rfl rfl rfl ?_ | refine WL.nil ?_ | refine W.block ?_ | refine W.outBlock ?_ | refine W.skip ?_ | refine W.exit rfl ?_ | refine WL.box rfl rfl rfl ?_ | refine W.opsD ?_ | refine W.condT rfl ?_ | refine W.condF rfl ?_)
    refine W.condS rfl (fun g8 => ?_) (fun g8 => ?_)
    · have g8' : c.blocks.l[i].code.l[0].op = 23 := by simpa using g8
      repeat (first | refine W.seq ?_ | refine W.ops ?_ | refine WL.off rfl rfl ?_ | refine WL.val rfl rfl rfl ?_ | refine WL.nil ?_ | refine W.block ?_ | refine W.outBlock ?_ | refine W.skip ?_ | refine W.exit rfl ?_ | refine WL.box rfl rfl rfl ?_ | refine W.opsD ?_ | refine W.condT rfl ?_ | refine W.condF rfl ?_)
      refine W.ret ⟨_, rfl, retB ?_⟩
      rw [head_end ha hfi hcons (.inl g8')]
      rfl
    have g8' : c.blocks.l[i].code.l[0].op ≠ 23 := by simpa using g8
    repeat (first | refine W.seq ?_ | refine W.ops ?_ | refine WL.off rfl rfl ?_ | refine WL.val rfl rfl rfl ?_ | refine WL.nil ?_ | refine W.block ?_ | refine W.outBlock ?_ | refine W.skip ?_ | refine W.exit rfl ?_ | refine WL.box rfl rfl rfl ?_ | refine W.opsD ?_ | refine W.condT rfl ?_ | refine W.condF rfl ?_)
    refine W.condS rfl (fun g9 => ?_) (fun g9 => ?_)
    · have g9' : c.blocks.l[i].code.l[0].op = 22 := by simpa using g9
      repeat (first | refine W.seq ?_ | refine W.ops ?_ | refine WL.off rfl rfl ?_ | refine WL.val rfl rfl rfl ?_ | refine WL.nil ?_ | refine W.block ?_ | refine W.outBlock ?_ | refine W.skip ?_ | refine W.exit rfl ?_ | refine WL.box rfl rfl rfl ?_ | refine W.opsD ?_ | refine W.condT rfl ?_ | refine W.condF rfl ?_)
      refine W.ret ⟨_, rfl, retB ?_⟩
      rw [head_end ha hfi hcons (.inr g9')]
      rfl
    have g9' : c.blocks.l[i].code.l[0].op ≠ 22 := by simpa using g9
    repeat (first | refine W.seq ?_ | refine W.ops ?_ | refine WL.off rfl rfl ?_ | refine WL.val rfl rfl rfl ?_ | refine WL.nil ?_ | refine W.block ?_ | refine W.outBlock ?_ | refine W.skip ?_ | refine W.exit rfl ?_ | refine WL.box rfl rfl rfl ?_ | refine W.opsD ?_ | refine W.condT rfl ?_ | refine W.condF rfl ?_)
    refine WL.slcLo (k := 7) (fun _ => rfl) rfl rfl (slcB_lo (n := 1) rfl rfl (by omega)) (by omega) rfl ?_
    intro q1
    repeat (first | refine W.seq ?_ | refine W.ops ?_ | refine WL.off rfl rfl ?_ | refine WL.val rfl rfl rfl ?_ | refine WL.nil ?_ | refine W.block ?_ | refine W.outBlock ?_ | refine W.skip ?_ | refine W.exit rfl ?_ | refine WL.box rfl rfl rfl ?_ | refine W.opsD ?_ | refine W.condT rfl ?_ | refine W.condF rfl ?_ | refine WL.heap rfl rfl rfl ?_)
    refine WL.appP (cs := [AV.int .i64 id, AV.pslice ((c.blocks.l[i].code.l.drop 1).flatMap Instr.enc) (c.blocks.l[i].code.l.drop 1).length 7 q1]) [(_, 4)] rfl rfl rfl (by rw [Heap.get_put, if_pos rfl]; rfl) rfl (sub_all _ _ (flat_len (k := 2) (fun _ => rfl) _)) (ones_flat (fun _ => rfl) _) (by omega) (List.mem_singleton.2 rfl) rfl ?_
    intro o1 k1 H1 G1 M1 W1
    repeat (first | refine W.seq ?_ | refine W.ops ?_ | refine WL.off rfl rfl ?_ | refine WL.val rfl rfl rfl ?_ | refine WL.nil ?_ | refine W.block ?_ | refine W.outBlock ?_ | refine W.skip ?_ | refine W.exit rfl ?_ | refine WL.box rfl rfl rfl ?_ | refine W.opsD ?_ | refine W.condT rfl ?_ | refine W.condF rfl ?_)
    have hr := head_rest (code := ⟨c.blocks.l[i].code.l.drop 1, q1, 7⟩) ha k1 hfi hcons g5' g6' g7' g8' g9'
    have har := restD_acy (code := ⟨c.blocks.l[i].code.l.drop 1, q1, 7⟩) ha k1 hfi hcons
    have smr := restD_small sm1 m1 (id := id) (code := ⟨c.blocks.l[i].code.l.drop 1, q1, 7⟩) (q := k1) (by
      have := sm1.sc _ (List.getElem_mem hlt)
      show (c.blocks.l[i].code.l.drop 1).length < 100000
      rw [List.length_drop]; omega)
    refine WL.view rfl rfl (mapO_cons (restD_pur rfl G1) rfl) (block_c _ smr id) rfl rfl ?_
    rw [bnd_acy har]
    repeat (first | refine W.seq ?_ | refine W.ops ?_ | refine WL.off rfl rfl ?_ | refine WL.val rfl rfl rfl ?_ | refine WL.nil ?_ | refine W.block ?_ | refine W.outBlock ?_ | refine W.skip ?_ | refine W.exit rfl ?_ | refine WL.box rfl rfl rfl ?_ | refine W.opsD ?_ | refine W.condT rfl ?_ | refine W.condF rfl ?_)
    refine W.ret ⟨_, rfl, retB ?_⟩
    have hVV := val_bnd har (val_is har) (1, id)
    have ew : IntKind.wrap .i64 (1 + val (solve (restD c id ⟨c.blocks.l[i].code.l.drop 1, q1, 7⟩ k1)) (1, id)) = 1 + val (solve (restD c id ⟨c.blocks.l[i].code.l.drop 1, q1, 7⟩ k1)) (1, id) := wrap64 (by omega) (by omega)
    rw [ew, hr]
    simp
  · clear ih hf
    repeat (first | refine W.seq ?_ | refine W.ops ?_ | refine WL.off rfl rfl ?_ | refine WL.val rfl rfl rfl ?_ | refine WL.nil ?_ | refine W.block ?_ | refine W.outBlock ?_ | refine W.skip ?_ | refine W.exit rfl ?_ | refine WL.box rfl rfl rfl ?_ | refine W.opsD ?_ | refine W.condT rfl ?_ | refine W.condF rfl ?_)
    refine W.loopE (E0 := envOf [(1, _), (2, _), (11, _)]) rfl (β := Nat) (fun b => [(11, .v (.int .i64 b))])
      (fun b h n => b ≤ c.tables.l.length ∧ ∀ j (k : j < c.tables.l.length), j < b → (c.tables.l[j].id == id) = false) (fun b => c.tables.l.length - b) 0 rfl ⟨by simp, fun j k h => by omega⟩ ?_
    rintro i h n ⟨hi, hf⟩ ih
    repeat (first | refine W.seq ?_ | refine W.ops ?_ | refine WL.off rfl rfl ?_ | refine WL.val rfl rfl rfl ?_ | refine WL.nil ?_ | refine W.block ?_ | refine W.outBlock ?_ | refine W.skip ?_ | refine W.exit rfl ?_ | refine WL.box rfl rfl rfl ?_ | refine W.opsD ?_ | refine W.condT rfl ?_ | refine W.condF rfl ?_)
    refine W.condS rfl (fun hb2 => ?_) (fun hb2 => ?_)
    · have hlt : i < c.tables.l.length := by simpa using hb2
      repeat (first | refine W.seq ?_ | refine W.ops ?_ | refine WL.off rfl rfl ?_ | refine WL.val rfl rfl rfl ?_ | refine WL.nil ?_ | refine W.block ?_ | refine W.outBlock ?_ | refine W.skip ?_ | refine W.exit rfl ?_ | refine WL.box rfl rfl rfl ?_ | refine W.opsD ?_ | refine W.condT rfl ?_ | refine W.condF rfl ?_)
      refine WL.val rfl (aop_iaddr_p rfl rfl hlt) rfl ?_
      repeat (first | refine W.seq ?_ | refine W.ops ?_ | refine WL.off rfl rfl ?_ | refine WL.val rfl rfl rfl ?_ | refine WL.nil ?_ | refine W.block ?_ | refine W.outBlock ?_ | refine W.skip ?_ | refine W.exit rfl ?_ | refine WL.box rfl rfl rfl ?_ | refine W.opsD ?_ | refine W.condT rfl ?_ | refine W.condF rfl ?_)
      refine WL.val rfl (aop_load_el (enc := Table.enc) (o := 0) rfl (fun _ => rfl) hlt (by decide) rfl) rfl ?_
      repeat (first | refine W.seq ?_ | refine W.ops ?_ | refine WL.off rfl rfl ?_ | refine WL.val rfl rfl rfl ?_ | refine WL.nil ?_ | refine W.block ?_ | refine W.outBlock ?_ | refine W.skip ?_ | refine W.exit rfl ?_ | refine WL.box rfl rfl rfl ?_ | refine W.opsD ?_ | refine W.condT rfl ?_ | refine W.condF rfl ?_)
      refine W.condS rfl (fun g3 => ?_) (fun g3 => ?_)
      · have g3' : (c.tables.l[i].id == id) = false := by simpa using g3
        repeat (first | refine W.seq ?_ | refine W.ops ?_ | refine WL.off rfl rfl ?_ | refine WL.val rfl rfl rfl ?_ | refine WL.nil ?_ | refine W.block ?_ | refine W.outBlock ?_ | refine W.skip ?_ | refine W.exit rfl ?_ | refine WL.box rfl rfl rfl ?_ | refine W.opsD ?_ | refine W.condT rfl ?_ | refine W.condF rfl ?_)
        refine ih (i + 1) _ _ _ ⟨hlt, fun j k hj => ?_⟩ (by omega) (by rw [← wrap64_nat (k := i) (by omega)]; rfl)
        by_cases e : j = i
        · subst e; exact g3'
        · exact hf j k (by omega)
      clear ih
      have g3' : (c.tables.l[i].id == id) = true := by simpa using g3
      have hfi := find_first (p := fun g : Table => g.id == id) hlt hf g3'
      repeat (first | refine W.seq ?_ | refine W.ops ?_ | refine WL.off rfl rfl ?_ | refine WL.val rfl rfl rfl ?_ | refine WL.nil ?_ | refine W.block ?_ | refine W.outBlock ?_ | refine W.skip ?_ | refine W.exit rfl ?_ | refine WL.box rfl rfl rfl ?_ | refine W.opsD ?_ | refine W.condT rfl ?_ | refine W.condF rfl ?_)
      refine WL.view rfl rfl rfl (table_c c sm1 id) rfl rfl ?_
      rw [hb]
      repeat (first | refine W.seq ?_ | refine W.ops ?_ | refine WL.off rfl rfl ?_ | refine WL.val rfl rfl rfl ?_ | refine WL.nil ?_ | refine W.block ?_ | refine W.outBlock ?_ | refine W.skip ?_ | refine W.exit rfl ?_ | refine WL.box rfl rfl rfl ?_ | refine W.opsD ?_ | refine W.condT rfl ?_ | refine W.condF rfl ?_)
      refine WL.val rfl (aop_iaddr_p rfl rfl hlt) rfl ?_
      repeat (first | refine W.seq ?_ | refine W.ops ?_ | refine WL.off rfl rfl ?_ | refine WL.val rfl rfl rfl ?_ | refine WL.nil ?_ | refine W.block ?_ | refine W.outBlock ?_ | refine W.skip ?_ | refine W.exit rfl ?_ | refine WL.box rfl rfl rfl ?_ | refine W.opsD ?_ | refine W.condT rfl ?_ | refine W.condF rfl ?_)
      refine WL.val rfl (aop_load_el (enc := Table.enc) (o := 4) rfl (fun _ => rfl) hlt (by decide) rfl) rfl ?_
      repeat (first | refine W.seq ?_ | refine W.ops ?_ | refine WL.off rfl rfl ?_ | refine WL.val rfl rfl rfl ?_ | refine WL.nil ?_ | refine W.block ?_ | refine W.outBlock ?_ | refine W.skip ?_ | refine W.exit rfl ?_ | refine WL.box rfl rfl rfl ?_ | refine W.opsD ?_ | refine W.condT rfl ?_ | refine W.condF rfl ?_)
      refine WL.view rfl rfl rfl (block_c c sm1 _) rfl rfl ?_
      rw [hb]
      repeat (first | refine W.seq ?_ | refine W.ops ?_ | refine WL.off rfl rfl ?_ | refine WL.val rfl rfl rfl ?_ | refine WL.nil ?_ | refine W.block ?_ | refine W.outBlock ?_ | refine W.skip ?_ | refine W.exit rfl ?_ | refine WL.box rfl rfl rfl ?_ | refine W.opsD ?_ | refine W.condT rfl ?_ | refine W.condF rfl ?_)
      refine W.loopE (E0 := envOf [(1, _), (2, _), (12, _), (14, _), (16, _)]) rfl (β := Nat) (fun b => [(14, .v (.int .i64 (entF c id b (val (solve c) (1, c.tables.l[i].miss))))), (16, .v (.int .i64 b))])
        (fun b h n => b ≤ c.entries.l.length) (fun b => c.entries.l.length - b) 0 rfl (by simp) ?_
      rintro j h n hj ih
      have hmx := hv (1, c.tables.l[i].miss)
      repeat (first | refine W.seq ?_ | refine W.ops ?_ | refine WL.off rfl rfl ?_ | refine WL.val rfl rfl rfl ?_ | refine WL.nil ?_ | refine W.block ?_ | refine W.outBlock ?_ | refine W.skip ?_ | refine W.exit rfl ?_ | refine WL.box rfl rfl rfl ?_ | refine W.opsD ?_ | refine W.condT rfl ?_ | refine W.condF rfl ?_)
      refine W.condS rfl (fun hb3 => ?_) (fun hb3 => ?_)
      · have hlj : j < c.entries.l.length := by simpa using hb3
        repeat (first | refine W.seq ?_ | refine W.ops ?_ | refine WL.off rfl rfl ?_ | refine WL.val rfl rfl rfl ?_ | refine WL.nil ?_ | refine W.block ?_ | refine W.outBlock ?_ | refine W.skip ?_ | refine W.exit rfl ?_ | refine WL.box rfl rfl rfl ?_ | refine W.opsD ?_ | refine W.condT rfl ?_ | refine W.condF rfl ?_)
        refine WL.val rfl (aop_iaddr_p rfl rfl hlj) rfl ?_
        repeat (first | refine W.seq ?_ | refine W.ops ?_ | refine WL.off rfl rfl ?_ | refine WL.val rfl rfl rfl ?_ | refine WL.nil ?_ | refine W.block ?_ | refine W.outBlock ?_ | refine W.skip ?_ | refine W.exit rfl ?_ | refine WL.box rfl rfl rfl ?_ | refine W.opsD ?_ | refine W.condT rfl ?_ | refine W.condF rfl ?_)
        refine WL.val rfl (aop_load_el (enc := Entry.enc) (o := 0) rfl (fun _ => rfl) hlj (by decide) rfl) rfl ?_
        repeat (first | refine W.seq ?_ | refine W.ops ?_ | refine WL.off rfl rfl ?_ | refine WL.val rfl rfl rfl ?_ | refine WL.nil ?_ | refine W.block ?_ | refine W.outBlock ?_ | refine W.skip ?_ | refine W.exit rfl ?_ | refine WL.box rfl rfl rfl ?_ | refine W.opsD ?_ | refine W.condT rfl ?_ | refine W.condF rfl ?_)
        refine W.condS rfl (fun g4 => ?_) (fun g4 => ?_)
        · have g4' : (c.entries.l[j].table == id) = true := by simpa using g4
          repeat (first | refine W.seq ?_ | refine W.ops ?_ | refine WL.off rfl rfl ?_ | refine WL.val rfl rfl rfl ?_ | refine WL.nil ?_ | refine W.block ?_ | refine W.outBlock ?_ | refine W.skip ?_ | refine W.exit rfl ?_ | refine WL.box rfl rfl rfl ?_ | refine W.opsD ?_ | refine W.condT rfl ?_ | refine W.condF rfl ?_)
          refine WL.val rfl (aop_iaddr_p rfl rfl hlj) rfl ?_
          repeat (first | refine W.seq ?_ | refine W.ops ?_ | refine WL.off rfl rfl ?_ | refine WL.val rfl rfl rfl ?_ | refine WL.nil ?_ | refine W.block ?_ | refine W.outBlock ?_ | refine W.skip ?_ | refine W.exit rfl ?_ | refine WL.box rfl rfl rfl ?_ | refine W.opsD ?_ | refine W.condT rfl ?_ | refine W.condF rfl ?_)
          refine WL.val rfl (aop_load_el (enc := Entry.enc) (o := 5) rfl (fun _ => rfl) hlj (by decide) rfl) rfl ?_
          repeat (first | refine W.seq ?_ | refine W.ops ?_ | refine WL.off rfl rfl ?_ | refine WL.val rfl rfl rfl ?_ | refine WL.nil ?_ | refine W.block ?_ | refine W.outBlock ?_ | refine W.skip ?_ | refine W.exit rfl ?_ | refine WL.box rfl rfl rfl ?_ | refine W.opsD ?_ | refine W.condT rfl ?_ | refine W.condF rfl ?_)
          refine WL.view rfl rfl rfl (block_c c sm1 _) rfl rfl ?_
          rw [hb]
          repeat (first | refine W.seq ?_ | refine W.ops ?_ | refine WL.off rfl rfl ?_ | refine WL.val rfl rfl rfl ?_ | refine WL.nil ?_ | refine W.block ?_ | refine W.outBlock ?_ | refine W.skip ?_ | refine W.exit rfl ?_ | refine WL.box rfl rfl rfl ?_ | refine W.opsD ?_ | refine W.condT rfl ?_ | refine W.condF rfl ?_)
          have es : max (entF c id j (val (solve c) (1, c.tables.l[i].miss))) (val (solve c) (1, c.entries.l[j].block)) = entF c id (j + 1) (val (solve c) (1, c.tables.l[i].miss)) := by rw [entF_snoc hlj, if_pos g4']
          refine ih (j + 1) _ _ _ hlj (by omega) (by rw [← wrap64_nat (k := j) (by omega), ← es]; rfl)
        · have g4' : ¬ (c.entries.l[j].table == id) = true := by simpa using g4
          repeat (first | refine W.seq ?_ | refine W.ops ?_ | refine WL.off rfl rfl ?_ | refine WL.val rfl rfl rfl ?_ | refine WL.nil ?_ | refine W.block ?_ | refine W.outBlock ?_ | refine W.skip ?_ | refine W.exit rfl ?_ | refine WL.box rfl rfl rfl ?_ | refine W.opsD ?_ | refine W.condT rfl ?_ | refine W.condF rfl ?_)
          have es : entF c id j (val (solve c) (1, c.tables.l[i].miss)) = entF c id (j + 1) (val (solve c) (1, c.tables.l[i].miss)) := by rw [entF_snoc hlj, if_neg g4']
          refine ih (j + 1) _ _ _ hlj (by omega) (by rw [← wrap64_nat (k := j) (by omega), ← es]; rfl)
      · clear ih
        have hge : j = c.entries.l.length := by simp at hb3; omega
        subst hge
        repeat (first | refine W.seq ?_ | refine W.ops ?_ | refine WL.off rfl rfl ?_ | refine WL.val rfl rfl rfl ?_ | refine WL.nil ?_ | refine W.block ?_ | refine W.outBlock ?_ | refine W.skip ?_ | refine W.exit rfl ?_ | refine WL.box rfl rfl rfl ?_ | refine W.opsD ?_ | refine W.condT rfl ?_ | refine W.condF rfl ?_)
        have he := entF_bnd ha id c.entries.l.length (val (solve c) (1, c.tables.l[i].miss)) hmx.1 hmx.2
        refine W.ret ⟨_, rfl, retB ?_⟩
        have hA := tab_all ha hfi
        have ew : IntKind.wrap .i64 (1 + entF c id c.entries.l.length (val (solve c) (1, c.tables.l[i].miss))) = 1 + entF c id c.entries.l.length (val (solve c) (1, c.tables.l[i].miss)) := wrap64 (by omega) (by omega)
        rw [ew, hA]
        simp
    · clear ih
      repeat (first | refine W.seq ?_ | refine W.ops ?_ | refine WL.off rfl rfl ?_ | refine WL.val rfl rfl rfl ?_ | refine WL.nil ?_ | refine W.block ?_ | refine W.outBlock ?_ | refine W.skip ?_ | refine W.exit rfl ?_ | refine WL.box rfl rfl rfl ?_ | refine W.opsD ?_ | refine W.condT rfl ?_ | refine W.condF rfl ?_)
      exact W.ret ⟨_, rfl, rfl⟩
end
end Go.AM.B

/- AM, part 32: a law's row, out of its contract. -/
namespace Go.AM
open Go.RowKit
noncomputable section
set_option linter.unusedVariables false
set_option linter.unusedSimpArgs false
variable {P : Program}

theorem pur_true {h : Heap} {r : AV} (hp : pur purLimit h r = some (.bool true)) : r = .bool true := by
  have key : ∀ k, pur (k + 1) h r = some (.bool true) → r = .bool true := by
    intro k hp
    cases r <;> simp only [pur] at hp <;> (repeat (split at hp)) <;> first | (simp only [Option.some.injEq, reduceCtorEq] at hp; done) | (cases hp; done) | (simp only [Option.some.injEq] at hp; exact hp) | skip
  exact key 39 hp
/-- What an abstract call says of the machine's: it returns true, and nothing that was there has turned. -/
theorem VC1.calls {l : List (Nat × VFun)} (hT : TabList P l) (hm : P.follows .mixedOrders = true) {f : FuncId} {args : List AV} (C : VC1 (tabOf l) f args (.bool true)) {W : World} {cargs : Array Value}
    (hr : RVs (fun b => b < W.heap.size) W ι0 args cargs) : Calls P f cargs W fun e w' => e = .returned (.bool true) ∧ Below W.heap.size W w' := by
  obtain ⟨r, h', n', ⟨k, hk⟩, hp⟩ := C
  have := pur_true hp
  subst this
  refine (calls_of hT hm k f args Heap.empty 0 _ h' n' (hk k (Nat.le_refl k)) (fun b => b < W.heap.size) ι0 W cargs (HSim.bare fun b hb => hb) Ids.bare hr).mono ?_
  rintro e w' ⟨_, c, F', ι', he, hrv, hs, hg, _⟩
  have := hrv.bool_inv
  subst this
  exact ⟨he, hg.kept.os, hg.kept.tape, hg.kept.output, hg.kept.size, fun b hb => hg.kept.same b hb (fun k => k.nothing)⟩
theorem trodAll_below {H : Type} {enc : TypeId × Value → H} (hl : laidOutB P = true) {W W' : World} (hb : Below W.heap.size W W') : ∀ {ts : List TypeId} {vs : List Value} {ds : List (DataW H)} {ps : List MemPlace},
    ts.all (fun t => P.readableRec t && decide (t < P.types.size)) = true → DataW.TrodAll enc P W 0 (fun _ => true) true ts vs ds ps → (∀ x ∈ ps, x.block < W.heap.size) → DataW.TrodAll enc P W' 0 (fun b => decide (b < W.heap.size)) true ts vs ds ps
  | [], [], [], _, _, h, _ => h
  | _ :: _, _ :: _, _ :: _, _, hr, ⟨p, q, h, hs, e⟩, hlt => by
    simp only [List.all_cons, Bool.and_eq_true, decide_eq_true_eq] at hr
    exact ⟨p, q, Below.trod hl hr.1.1 hr.1.2 h hb (fun x hx => hlt x (by rw [e]; simp [hx])), trodAll_below hl hb (by simpa using hr.2) hs (fun x hx => hlt x (by rw [e]; simp [hx])), e⟩
/-- A value whose cells are one. -/
theorem Rd.scalar {t : TypeId} {α : Type} {f : α → AV} {ok : α → Prop} (h : Rd P t (fun a => [f a]) ok) {W : World} {H : Type} {eh : TypeId × Value → H} {v : Value} {d : DataW H} {ps : List MemPlace}
    (ht : DataW.Trod eh P W 0 (fun _ => true) true t v d ps) (hwt : ∀ n ∈ d.weights P t, n ≤ reachBytes) (hv : v.cells.toList = [v]) : ∃ a, ok a ∧ RV (fun b => b < W.heap.size) W ι0 (f a) v := by
  obtain ⟨n, hn⟩ := ht
  rw [hv] at hn
  obtain ⟨a, h1, h2⟩ := h W H eh n _ _ hn hwt
  exact ⟨a, h1, h2.2 0 _ _ rfl rfl⟩
theorem Rd.agg {t : TypeId} {α : Type} {enc : α → List AV} {ok : α → Prop} (h : Rd P t enc ok) {W : World} {H : Type} {eh : TypeId × Value → H} {cs : Array Value} {d : DataW H} {ps : List MemPlace}
    (ht : DataW.Trod eh P W 0 (fun _ => true) true t (.agg cs) d ps) (hwt : ∀ n ∈ d.weights P t, n ≤ reachBytes) : ∃ a, ok a ∧ RV (fun b => b < W.heap.size) W ι0 (.agg (enc a)) (.agg cs) := by
  obtain ⟨n, hn⟩ := ht
  obtain ⟨a, h1, h2⟩ := h W H eh n _ _ hn hwt
  have h3 : RVl (fun b => b < W.heap.size) W (enc a) cs.toList := h2
  refine ⟨a, h1, .agg _ _ _ (by simpa using h3.1.symm) fun j u c hu hc => h3.2 j u c hu ?_⟩
  simpa using hc
theorem RVs.of {W : World} {l : List AV} {vs : List Value} (hl : vs.length = l.length) (h : ∀ (j : Nat) (u : AV) (c : Value), l[j]? = some u → vs[j]? = some c → RV (fun b => b < W.heap.size) W ι0 u c) : RVs (fun b => b < W.heap.size) W ι0 l vs.toArray :=
  ⟨by simpa using hl, fun j u c hu hc => h j u c hu (by simpa using hc)⟩
end
end Go.AM
