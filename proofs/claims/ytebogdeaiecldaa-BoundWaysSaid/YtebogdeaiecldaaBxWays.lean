/- Parts of the proof: B.Ways, B.Ways2, B.Ways3, B.WaysL, AM.Row. -/
import Derived.Test.YtebogdeaiecldaaBxArgs
import Derived.Test.YtebogdeaiecldaaBxGraph
import Derived.ChangeSame
import Derived.JoinedOf
import Derived.JoinedAt
import Derived.JoinedStill
import Derived.RowKit
import Derived.ProofKit
/- The law BoundWays: the walker. -/
namespace Go.AM.B
open Go.Proofs.Ytebogdeaiecldaa.Tab
noncomputable section
set_option linter.unusedVariables false
set_option linter.unusedSimpArgs false
set_option maxHeartbeats 4000000

def wayC (c : Config) (ws : Sl Int) (i : Nat) : List AV := c.enc ++ [ws.av 1 encU8, .int .i64 i]
structure WH (c : Config) (ws : Sl Int) (o : AM.Id) (h : Heap) (n : Nat) : Prop where
  g : ∃ i : Nat, i ≤ ws.l.length ∧ h.get o = some (.cells (wayC c ws i))
  fr : Fresh h n
  lt : o.1 < n
theorem u8_nat {a : Int} (h : litOk .u8 a) : 0 ≤ a ∧ a ≤ 255 := by
  unfold litOk Lit.wf at h
  simp only [Bool.and_eq_true, decide_eq_true_eq] at h
  exact ⟨h.1, h.2⟩
theorem pick_c {c : Config} {ws : Sl Int} (hw : ∀ a ∈ ws.l, litOk .u8 a) (hl : ws.l.length ≤ 5000) {o : AM.Id} {h : Heap} {n : Nat} (H : WH c ws o h n) (m : Nat) (hm : m < 1000000) :
    CallsTo T 36 [.ptr o 0, .int .i64 m] h n fun r h' n' => (∃ k : Nat, r = .int .i64 k ∧ (0 < m → k < m)) ∧ WH c ws o h' n' ∧ n ≤ n' ∧ ∀ j, j ≠ o → h'.get j = h.get j := by
  obtain ⟨⟨i, hi, hg⟩, fr, lt⟩ := H
  refine CallsTo.of (vf := v36) rfl rfl ?_
  unfold v36
  repeat (first | refine W.seq ?_ | refine W.ops ?_ | refine WL.off rfl rfl ?_ | refine WL.val rfl rfl rfl ?_ | refine WL.nil ?_ | refine W.block ?_ | refine W.outBlock ?_ | refine W.skip ?_ | refine W.exit rfl ?_ | refine WL.box rfl rfl rfl ?_ | refine W.opsD ?_ | refine W.condT rfl ?_ | refine W.condF rfl ?_)
  refine WL.val rfl (aop_load_h rfl hg rfl) rfl ?_
  repeat (first | refine W.seq ?_ | refine W.ops ?_ | refine WL.off rfl rfl ?_ | refine WL.val rfl rfl rfl ?_ | refine WL.nil ?_ | refine W.block ?_ | refine W.outBlock ?_ | refine W.skip ?_ | refine W.exit rfl ?_ | refine WL.box rfl rfl rfl ?_ | refine W.opsD ?_ | refine W.condT rfl ?_ | refine W.condF rfl ?_)
  refine WL.val rfl (aop_load_h rfl hg rfl) rfl ?_
  repeat (first | refine W.seq ?_ | refine W.ops ?_ | refine WL.off rfl rfl ?_ | refine WL.val rfl rfl rfl ?_ | refine WL.nil ?_ | refine W.block ?_ | refine W.outBlock ?_ | refine W.skip ?_ | refine W.exit rfl ?_ | refine WL.box rfl rfl rfl ?_ | refine W.opsD ?_ | refine W.condT rfl ?_ | refine W.condF rfl ?_)
  refine WL.splitG rfl (fun g1 => ?_) (fun g1 => ?_)
  · repeat (first | refine W.seq ?_ | refine W.ops ?_ | refine WL.off rfl rfl ?_ | refine WL.val rfl rfl rfl ?_ | refine WL.nil ?_ | refine W.block ?_ | refine W.outBlock ?_ | refine W.skip ?_ | refine W.exit rfl ?_ | refine WL.box rfl rfl rfl ?_ | refine W.opsD ?_ | refine W.condT rfl ?_ | refine W.condF rfl ?_)
    exact W.ret ⟨_, rfl, ⟨0, rfl, fun h => h⟩, ⟨⟨i, hi, hg⟩, fr.mono (by dsimp only; omega), by dsimp only; omega⟩, by dsimp only; omega, fun _ _ => rfl⟩
  have hlt : i < ws.l.length := by have := of_decide_eq_false g1; omega
  repeat (first | refine W.seq ?_ | refine W.ops ?_ | refine WL.off rfl rfl ?_ | refine WL.val rfl rfl rfl ?_ | refine WL.nil ?_ | refine W.block ?_ | refine W.outBlock ?_ | refine W.skip ?_ | refine W.exit rfl ?_ | refine WL.box rfl rfl rfl ?_ | refine W.opsD ?_ | refine W.condT rfl ?_ | refine W.condF rfl ?_)
  refine W.condS rfl (fun g2 => ?_) (fun g2 => ?_)
  · have g2' : m = 0 := by simp at g2; omega
    repeat (first | refine W.seq ?_ | refine W.ops ?_ | refine WL.off rfl rfl ?_ | refine WL.val rfl rfl rfl ?_ | refine WL.nil ?_ | refine W.block ?_ | refine W.outBlock ?_ | refine W.skip ?_ | refine W.exit rfl ?_ | refine WL.box rfl rfl rfl ?_ | refine W.opsD ?_ | refine W.condT rfl ?_ | refine W.condF rfl ?_)
    exact W.ret ⟨_, rfl, ⟨0, rfl, fun h => h⟩, ⟨⟨i, hi, hg⟩, fr.mono (by dsimp only; omega), by dsimp only; omega⟩, by dsimp only; omega, fun _ _ => rfl⟩
  have g2' : 0 < m := by simp at g2; omega
  repeat (first | refine W.seq ?_ | refine W.ops ?_ | refine WL.off rfl rfl ?_ | refine WL.val rfl rfl rfl ?_ | refine WL.nil ?_ | refine W.block ?_ | refine W.outBlock ?_ | refine W.skip ?_ | refine W.exit rfl ?_ | refine WL.box rfl rfl rfl ?_ | refine W.opsD ?_ | refine W.condT rfl ?_ | refine W.condF rfl ?_)
  refine WL.val rfl (aop_load_h rfl hg rfl) rfl ?_
  repeat (first | refine W.seq ?_ | refine W.ops ?_ | refine WL.off rfl rfl ?_ | refine WL.val rfl rfl rfl ?_ | refine WL.nil ?_ | refine W.block ?_ | refine W.outBlock ?_ | refine W.skip ?_ | refine W.exit rfl ?_ | refine WL.box rfl rfl rfl ?_ | refine W.opsD ?_ | refine W.condT rfl ?_ | refine W.condF rfl ?_)
  refine WL.heap rfl (aop_store_h rfl rfl rfl rfl hg rfl) rfl ?_
  have ei : IntKind.wrap .i64 ((i : Int) + 1) = ((i + 1 : Nat) : Int) := wrap64_nat (by omega)
  rw [ei]
  have hg2 : (h.put o (.cells (wayC c ws (i + 1)))).get o = some (.cells (wayC c ws (i + 1))) := by rw [Heap.get_put, if_pos rfl]
  repeat (first | refine W.seq ?_ | refine W.ops ?_ | refine WL.off rfl rfl ?_ | refine WL.val rfl rfl rfl ?_ | refine WL.nil ?_ | refine W.block ?_ | refine W.outBlock ?_ | refine W.skip ?_ | refine W.exit rfl ?_ | refine WL.box rfl rfl rfl ?_ | refine W.opsD ?_ | refine W.condT rfl ?_ | refine W.condF rfl ?_)
  refine WL.val rfl (aop_load_h rfl hg2 rfl) rfl ?_
  repeat (first | refine W.seq ?_ | refine W.ops ?_ | refine WL.off rfl rfl ?_ | refine WL.val rfl rfl rfl ?_ | refine WL.nil ?_ | refine W.block ?_ | refine W.outBlock ?_ | refine W.skip ?_ | refine W.exit rfl ?_ | refine WL.box rfl rfl rfl ?_ | refine W.opsD ?_ | refine W.condT rfl ?_ | refine W.condF rfl ?_)
  refine WL.val rfl (aop_load_h rfl hg2 rfl) rfl ?_
  repeat (first | refine W.seq ?_ | refine W.ops ?_ | refine WL.off rfl rfl ?_ | refine WL.val rfl rfl rfl ?_ | refine WL.nil ?_ | refine W.block ?_ | refine W.outBlock ?_ | refine W.skip ?_ | refine W.exit rfl ?_ | refine WL.box rfl rfl rfl ?_ | refine W.opsD ?_ | refine W.condT rfl ?_ | refine W.condF rfl ?_)
  have ej : IntKind.wrap .i64 (((i + 1 : Nat) : Int) - 1) = (i : Int) := by rw [wrap64 (by omega) (by omega)]; omega
  refine WL.val rfl (aop_iaddr_p rfl rfl hlt ej) rfl ?_
  repeat (first | refine W.seq ?_ | refine W.ops ?_ | refine WL.off rfl rfl ?_ | refine WL.val rfl rfl rfl ?_ | refine WL.nil ?_ | refine W.block ?_ | refine W.outBlock ?_ | refine W.skip ?_ | refine W.exit rfl ?_ | refine WL.box rfl rfl rfl ?_ | refine W.opsD ?_ | refine W.condT rfl ?_ | refine W.condF rfl ?_)
  refine WL.val rfl (aop_load_el (enc := encU8) (o := 0) rfl (fun _ => rfl) hlt (by decide) rfl) rfl ?_
  repeat (first | refine W.seq ?_ | refine W.ops ?_ | refine WL.off rfl rfl ?_ | refine WL.val rfl rfl rfl ?_ | refine WL.nil ?_ | refine W.block ?_ | refine W.outBlock ?_ | refine W.skip ?_ | refine W.exit rfl ?_ | refine WL.box rfl rfl rfl ?_ | refine W.opsD ?_ | refine W.condT rfl ?_ | refine W.condF rfl ?_)
  have hb := u8_nat (hw _ (List.getElem_mem hlt))
  have ew : IntKind.wrap .i64 ws.l[i] = ws.l[i] := wrap64 (by omega) (by omega)
  rw [ew]
  refine WL.val rfl (aop_rem rfl rfl (by omega)) rfl ?_
  repeat (first | refine W.seq ?_ | refine W.ops ?_ | refine WL.off rfl rfl ?_ | refine WL.val rfl rfl rfl ?_ | refine WL.nil ?_ | refine W.block ?_ | refine W.outBlock ?_ | refine W.skip ?_ | refine W.exit rfl ?_ | refine WL.box rfl rfl rfl ?_ | refine W.opsD ?_ | refine W.condT rfl ?_ | refine W.condF rfl ?_)
  have q1 := Int.tmod_nonneg (m : Int) hb.1
  have q2 := Int.tmod_lt_of_pos ws.l[i] (b := (m : Int)) (by omega)
  refine W.ret ⟨_, rfl, ⟨(ws.l[i].tmod m).toNat, ?_, fun _ => by omega⟩, ⟨⟨i + 1, hlt, hg2⟩, (fr.mono (by dsimp only; omega)).put (by dsimp only; omega) (Nat.le_refl _), by dsimp only; omega⟩, by dsimp only; omega, fun j hj => by rw [Heap.get_put, if_neg hj]⟩
  have : (((ws.l[i].tmod m).toNat : Nat) : Int) = ws.l[i].tmod m := by omega
  rw [this]; rfl
def fnOf (k : Int) : Nat := if k = 0 then 25 else if k = 1 then 26 else 37
/-- A walk's answer is no more than the bound. -/
def WalkR (c : Config) (ws : Sl Int) (x : Th) : Prop := val (solve c) x ≤ 20000 → ∀ (o : AM.Id) (h : Heap) (n : Nat), WH c ws o h n →
  CallsTo T (fnOf x.1) [.ptr o 0, .int .i64 x.2] h n fun r h' n' => (∃ k : Nat, r = .int .i64 k ∧ (k : Int) ≤ val (solve c) x) ∧ WH c ws o h' n' ∧ n ≤ n' ∧ ∀ j, j ≠ o → j.1 < n → h'.get j = h.get j
theorem WH.move {c : Config} {ws : Sl Int} {o : AM.Id} {h h' : Heap} {n n' : Nat} (H : WH c ws o h n) (hf : ∀ j, j.1 < n → h'.get j = h.get j) (fr : Fresh h' n') (hn : n ≤ n') : WH c ws o h' n' := by
  obtain ⟨⟨i, hi, hg⟩, _, lt⟩ := H
  exact ⟨⟨i, hi, by rw [hf o lt]; exact hg⟩, fr, by omega⟩
theorem WH.mono {c : Config} {ws : Sl Int} {o : AM.Id} {h : Heap} {n n' : Nat} (H : WH c ws o h n) (hn : n ≤ n') : WH c ws o h n' := H.move (fun _ _ => rfl) (H.fr.mono hn) hn
def toL (c : Config) (id : Int) (t : Table) (k : Nat) : List Int := t.miss :: ((c.entries.l.take k).filter fun e => e.table == id).map (·.block)
theorem toL_snoc {c : Config} {id : Int} {t : Table} {k : Nat} (hk : k < c.entries.l.length) : toL c id t (k + 1) = if c.entries.l[k].table == id then toL c id t k ++ [c.entries.l[k].block] else toL c id t k := by
  unfold toL
  rw [List.take_succ_eq_append_getElem hk, List.filter_append, List.map_append]
  cases h : c.entries.l[k].table == id <;> simp [List.filter_cons, h]
theorem toL_len (c : Config) (id : Int) (t : Table) (k : Nat) : 0 < (toL c id t k).length ∧ (toL c id t k).length ≤ k + 1 := by
  unfold toL
  refine ⟨by simp, ?_⟩
  rw [List.length_cons, List.length_map]
  have := List.length_filter_le (fun e : Entry => e.table == id) (c.entries.l.take k)
  rw [List.length_take] at this
  omega
theorem tab_ge {c : Config} (ha : acy (solve c)) {id : Int} {t : Table} (hf : (c.tables.l.find? fun t => t.id == id) = some t) (hv0 : val (solve c) (0, id) ≤ 20000) {b : Int} (hb : b ∈ toL c id t c.entries.l.length) :
    val (solve c) (1, b) + 1 ≤ val (solve c) (0, id) ∧ ((1, b) : Th) ∈ (solve c).leads (0, id) := by
  have e : over = 65537 := rfl
  have et : tabL c id = toL c id t c.entries.l.length := by unfold tabL toL; rw [hf, List.take_length]
  rw [leads_0, solve_tab, et]
  refine ⟨?_, List.mem_map.2 ⟨b, hb, rfl⟩⟩
  rw [val_is ha (0, id)] at hv0 ⊢
  unfold comb comb0 at hv0 ⊢
  rw [if_pos rfl, solve_has, hf, if_pos (show (some t).isSome = true from rfl)] at hv0 ⊢
  dsimp only at hv0 ⊢
  rw [solve_tab, et] at hv0 ⊢
  have := (foldl_max_ge ((toL c id t c.entries.l.length).map fun b => val (solve c) (1, b)) 0).2 _ (List.mem_map.2 ⟨b, hb, rfl⟩)
  omega
theorem walk_table {c : Config} {ws : Sl Int} (sm : Small c) (m : n0 c ≤ 60) (hw : ∀ a ∈ ws.l, litOk .u8 a) (hl : ws.l.length ≤ 5000) (ha : acy (solve c)) (id : Int) (ih : ∀ y ∈ (solve c).leads (0, id), WalkR c ws y) : WalkR c ws (0, id) := by
  intro hv0 o h0 n0 H
  have hv := val_bnd ha (val_is ha)
  unfold B.n0 at m
  refine CallsTo.of (vf := v25) rfl rfl ?_
  unfold v25
  repeat (first | refine W.seq ?_ | refine W.ops ?_ | refine WL.off rfl rfl ?_ | refine WL.val rfl rfl rfl ?_ | refine WL.nil ?_ | refine W.block ?_ | refine W.outBlock ?_ | refine W.skip ?_ | refine W.exit rfl ?_ | refine WL.box rfl rfl rfl ?_ | refine W.opsD ?_ | refine W.condT rfl ?_ | refine W.condF rfl ?_)
  refine W.loopE (E0 := envOf [(0, _), (1, _), (5, _)]) rfl (β := Nat) (fun b => [(5, .v (.int .i64 b))])
    (fun b h n => b ≤ c.tables.l.length ∧ (∀ j (k : j < c.tables.l.length), j < b → (c.tables.l[j].id == id) = false) ∧ h = h0 ∧ n0 ≤ n) (fun b => c.tables.l.length - b) 0 rfl ⟨by simp, (fun j k h => by omega), rfl, by omega⟩ ?_
  rintro i h n ⟨hi, hf, rfl, hn⟩ ihl
  obtain ⟨p, hp, hg⟩ := H.g
  repeat (first | refine W.seq ?_ | refine W.ops ?_ | refine WL.off rfl rfl ?_ | refine WL.val rfl rfl rfl ?_ | refine WL.nil ?_ | refine W.block ?_ | refine W.outBlock ?_ | refine W.skip ?_ | refine W.exit rfl ?_ | refine WL.box rfl rfl rfl ?_ | refine W.opsD ?_ | refine W.condT rfl ?_ | refine W.condF rfl ?_)
  refine WL.val rfl (aop_load_h rfl hg rfl) rfl ?_
  repeat (first | refine W.seq ?_ | refine W.ops ?_ | refine WL.off rfl rfl ?_ | refine WL.val rfl rfl rfl ?_ | refine WL.nil ?_ | refine W.block ?_ | refine W.outBlock ?_ | refine W.skip ?_ | refine W.exit rfl ?_ | refine WL.box rfl rfl rfl ?_ | refine W.opsD ?_ | refine W.condT rfl ?_ | refine W.condF rfl ?_)
  refine W.condS rfl (fun hb2 => ?_) (fun hb2 => ?_)
  · have hlt : i < c.tables.l.length := by simpa using hb2
    repeat (first | refine W.seq ?_ | refine W.ops ?_ | refine WL.off rfl rfl ?_ | refine WL.val rfl rfl rfl ?_ | refine WL.nil ?_ | refine W.block ?_ | refine W.outBlock ?_ | refine W.skip ?_ | refine W.exit rfl ?_ | refine WL.box rfl rfl rfl ?_ | refine W.opsD ?_ | refine W.condT rfl ?_ | refine W.condF rfl ?_)
    refine WL.val rfl (aop_load_h rfl hg rfl) rfl ?_
    repeat (first | refine W.seq ?_ | refine W.ops ?_ | refine WL.off rfl rfl ?_ | refine WL.val rfl rfl rfl ?_ | refine WL.nil ?_ | refine W.block ?_ | refine W.outBlock ?_ | refine W.skip ?_ | refine W.exit rfl ?_ | refine WL.box rfl rfl rfl ?_ | refine W.opsD ?_ | refine W.condT rfl ?_ | refine W.condF rfl ?_)
    refine WL.val rfl (aop_iaddr_p rfl rfl hlt) rfl ?_
    repeat (first | refine W.seq ?_ | refine W.ops ?_ | refine WL.off rfl rfl ?_ | refine WL.val rfl rfl rfl ?_ | refine WL.nil ?_ | refine W.block ?_ | refine W.outBlock ?_ | refine W.skip ?_ | refine W.exit rfl ?_ | refine WL.box rfl rfl rfl ?_ | refine W.opsD ?_ | refine W.condT rfl ?_ | refine W.condF rfl ?_)
    refine WL.val rfl (aop_load_el (enc := Table.enc) (o := 0) rfl (fun _ => rfl) hlt (by decide) rfl) rfl ?_
    repeat (first | refine W.seq ?_ | refine W.ops ?_ | refine WL.off rfl rfl ?_ | refine WL.val rfl rfl rfl ?_ | refine WL.nil ?_ | refine W.block ?_ | refine W.outBlock ?_ | refine W.skip ?_ | refine W.exit rfl ?_ | refine WL.box rfl rfl rfl ?_ | refine W.opsD ?_ | refine W.condT rfl ?_ | refine W.condF rfl ?_)
    refine W.condS rfl (fun g3 => ?_) (fun g3 => ?_)
    · have g3' : (c.tables.l[i].id == id) = false := by simpa using g3
      repeat (first | refine W.seq ?_ | refine W.ops ?_ | refine WL.off rfl rfl ?_ | refine WL.val rfl rfl rfl ?_ | refine WL.nil ?_ | refine W.block ?_ | refine W.outBlock ?_ | refine W.skip ?_ | refine W.exit rfl ?_ | refine WL.box rfl rfl rfl ?_ | refine W.opsD ?_ | refine W.condT rfl ?_ | refine W.condF rfl ?_)
      refine ihl (i + 1) _ _ _ ⟨hlt, (fun j k hj => ?_), rfl, by omega⟩ (by omega) (by rw [← wrap64_nat (k := i) (by omega)]; rfl)
      by_cases e : j = i
      · subst e; exact g3'
      · exact hf j k (by omega)
    clear ihl
    have g3' : (c.tables.l[i].id == id) = true := by simpa using g3
    have hfi := find_first (p := fun g : Table => g.id == id) hlt hf g3'
    repeat (first | refine W.seq ?_ | refine W.ops ?_ | refine WL.off rfl rfl ?_ | refine WL.val rfl rfl rfl ?_ | refine WL.nil ?_ | refine W.block ?_ | refine W.outBlock ?_ | refine W.skip ?_ | refine W.exit rfl ?_ | refine WL.box rfl rfl rfl ?_ | refine W.opsD ?_ | refine W.condT rfl ?_ | refine W.condF rfl ?_)
    refine WL.val rfl (aop_load_h rfl hg rfl) rfl ?_
    repeat (first | refine W.seq ?_ | refine W.ops ?_ | refine WL.off rfl rfl ?_ | refine WL.val rfl rfl rfl ?_ | refine WL.nil ?_ | refine W.block ?_ | refine W.outBlock ?_ | refine W.skip ?_ | refine W.exit rfl ?_ | refine WL.box rfl rfl rfl ?_ | refine W.opsD ?_ | refine W.condT rfl ?_ | refine W.condF rfl ?_)
    refine WL.val rfl (aop_iaddr_p rfl rfl hlt) rfl ?_
    repeat (first | refine W.seq ?_ | refine W.ops ?_ | refine WL.off rfl rfl ?_ | refine WL.val rfl rfl rfl ?_ | refine WL.nil ?_ | refine W.block ?_ | refine W.outBlock ?_ | refine W.skip ?_ | refine W.exit rfl ?_ | refine WL.box rfl rfl rfl ?_ | refine W.opsD ?_ | refine W.condT rfl ?_ | refine W.condF rfl ?_)
    refine WL.val rfl (aop_load_el (enc := Table.enc) (o := 4) rfl (fun _ => rfl) hlt (by decide) rfl) rfl ?_
    repeat (first | refine W.seq ?_ | refine W.ops ?_ | refine WL.off rfl rfl ?_ | refine WL.val rfl rfl rfl ?_ | refine WL.nil ?_ | refine W.block ?_ | refine W.outBlock ?_ | refine W.skip ?_ | refine W.exit rfl ?_ | refine WL.box rfl rfl rfl ?_ | refine W.opsD ?_ | refine W.condT rfl ?_ | refine W.condF rfl ?_ | refine WL.heap rfl rfl rfl ?_)
    refine W.loopE (E0 := envOf [(0, _), (1, _), (6, _), (7, _)]) rfl (β := Nat × AV) (fun b => [(6, .v b.2), (7, .v (.int .i64 (b.1 : Int)))])
      (fun b h2 n2 => b.1 ≤ c.entries.l.length ∧ OwnS h2 1 ((toL c id c.tables.l[i] b.1).flatMap encI) (toL c id c.tables.l[i] b.1).length b.2 ∧ (∀ o ∈ b.2.objs, n ≤ o.1) ∧ (∀ j, j.1 < n → h2.get j = h.get j) ∧ Fresh h2 n2 ∧ n ≤ n2) (fun b => c.entries.l.length - b.1) (0, .slice (n + 2, 9) 0 1 1 true) rfl
      ⟨by simp, .inr ⟨_, _, rfl, by rw [Heap.get_put, if_pos rfl]; rfl, rfl⟩, (fun o ho => by simp only [AV.objs, List.mem_singleton] at ho; subst ho; dsimp only; omega), (fun j hj => by rw [Heap.get_put, if_neg (fun e => by rw [e] at hj; dsimp only at hj; omega)]), (H.fr.mono (by omega)).put (by dsimp only; omega) (Nat.le_refl _), by omega⟩ ?_
    rintro ⟨q, v⟩ h2 n2 ⟨hq, ov, vge, old2, fr2, hn2⟩ ih2
    dsimp only at hq ov vge
    have hnj := ov.nj
    have hg2 : h2.get o = some (.cells (wayC c ws p)) := by rw [old2 o (by have := H.lt; omega)]; exact hg
    have tl := toL_len c id c.tables.l[i] q
    repeat (first | refine W.seq ?_ | refine W.ops ?_ | refine WL.off rfl rfl ?_ | refine WL.val rfl rfl rfl ?_ | refine WL.nil ?_ | refine W.block ?_ | refine W.outBlock ?_ | refine W.skip ?_ | refine W.exit rfl ?_ | refine WL.box rfl rfl rfl ?_ | refine W.opsD ?_ | refine W.condT rfl ?_ | refine W.condF rfl ?_)
    refine WL.val rfl (aop_load_h rfl hg2 rfl) rfl ?_
    repeat (first | refine W.seq ?_ | refine W.ops ?_ | refine WL.off rfl rfl ?_ | refine WL.val rfl rfl rfl ?_ | refine WL.nil ?_ | refine W.block ?_ | refine W.outBlock ?_ | refine W.skip ?_ | refine W.exit rfl ?_ | refine WL.box rfl rfl rfl ?_ | refine W.opsD ?_ | refine W.condT rfl ?_ | refine W.condF rfl ?_)
    refine W.condS rfl (fun hb3 => ?_) (fun hb3 => ?_)
    · have hlq : q < c.entries.l.length := by have := of_decide_eq_true hb3; dsimp only at this; omega
      repeat (first | refine W.seq ?_ | refine W.ops ?_ | refine WL.off rfl rfl ?_ | refine WL.val rfl rfl rfl ?_ | refine WL.nil ?_ | refine W.block ?_ | refine W.outBlock ?_ | refine W.skip ?_ | refine W.exit rfl ?_ | refine WL.box rfl rfl rfl ?_ | refine W.opsD ?_ | refine W.condT rfl ?_ | refine W.condF rfl ?_)
      refine WL.val rfl (aop_load_h rfl hg2 rfl) rfl ?_
      repeat (first | refine W.seq ?_ | refine W.ops ?_ | refine WL.off rfl rfl ?_ | refine WL.val rfl rfl rfl ?_ | refine WL.nil ?_ | refine W.block ?_ | refine W.outBlock ?_ | refine W.skip ?_ | refine W.exit rfl ?_ | refine WL.box rfl rfl rfl ?_ | refine W.opsD ?_ | refine W.condT rfl ?_ | refine W.condF rfl ?_)
      refine WL.val rfl (aop_iaddr_p rfl rfl hlq) rfl ?_
      repeat (first | refine W.seq ?_ | refine W.ops ?_ | refine WL.off rfl rfl ?_ | refine WL.val rfl rfl rfl ?_ | refine WL.nil ?_ | refine W.block ?_ | refine W.outBlock ?_ | refine W.skip ?_ | refine W.exit rfl ?_ | refine WL.box rfl rfl rfl ?_ | refine W.opsD ?_ | refine W.condT rfl ?_ | refine W.condF rfl ?_)
      refine WL.val rfl (aop_load_el (enc := Entry.enc) (o := 0) rfl (fun _ => rfl) hlq (by decide) rfl) rfl ?_
      repeat (first | refine W.seq ?_ | refine W.ops ?_ | refine WL.off rfl rfl ?_ | refine WL.val rfl rfl rfl ?_ | refine WL.nil ?_ | refine W.block ?_ | refine W.outBlock ?_ | refine W.skip ?_ | refine W.exit rfl ?_ | refine WL.box rfl rfl rfl ?_ | refine W.opsD ?_ | refine W.condT rfl ?_ | refine W.condF rfl ?_)
      refine W.condS rfl (fun g4 => ?_) (fun g4 => ?_)
      · have g4' : (c.entries.l[q].table == id) = true := by simpa using g4
        repeat (first | refine W.seq ?_ | refine W.ops ?_ | refine WL.off rfl rfl ?_ | refine WL.val rfl rfl rfl ?_ | refine WL.nil ?_ | refine W.block ?_ | refine W.outBlock ?_ | refine W.skip ?_ | refine W.exit rfl ?_ | refine WL.box rfl rfl rfl ?_ | refine W.opsD ?_ | refine W.condT rfl ?_ | refine W.condF rfl ?_)
        refine WL.val rfl (aop_move_nj rfl hnj) rfl ?_
        repeat (first | refine W.seq ?_ | refine W.ops ?_ | refine WL.off rfl rfl ?_ | refine WL.val rfl rfl rfl ?_ | refine WL.nil ?_ | refine W.block ?_ | refine W.outBlock ?_ | refine W.skip ?_ | refine W.exit rfl ?_ | refine WL.box rfl rfl rfl ?_ | refine W.opsD ?_ | refine W.condT rfl ?_ | refine W.condF rfl ?_)
        refine WL.val rfl (aop_load_h rfl hg2 rfl) rfl ?_
        repeat (first | refine W.seq ?_ | refine W.ops ?_ | refine WL.off rfl rfl ?_ | refine WL.val rfl rfl rfl ?_ | refine WL.nil ?_ | refine W.block ?_ | refine W.outBlock ?_ | refine W.skip ?_ | refine W.exit rfl ?_ | refine WL.box rfl rfl rfl ?_ | refine W.opsD ?_ | refine W.condT rfl ?_ | refine W.condF rfl ?_)
        refine WL.val rfl (aop_iaddr_p rfl rfl hlq) rfl ?_
        repeat (first | refine W.seq ?_ | refine W.ops ?_ | refine WL.off rfl rfl ?_ | refine WL.val rfl rfl rfl ?_ | refine WL.nil ?_ | refine W.block ?_ | refine W.outBlock ?_ | refine W.skip ?_ | refine W.exit rfl ?_ | refine WL.box rfl rfl rfl ?_ | refine W.opsD ?_ | refine W.condT rfl ?_ | refine W.condF rfl ?_)
        refine WL.val rfl (aop_load_el (enc := Entry.enc) (o := 5) rfl (fun _ => rfl) hlq (by decide) rfl) rfl ?_
        repeat (first | refine W.seq ?_ | refine W.ops ?_ | refine WL.off rfl rfl ?_ | refine WL.val rfl rfl rfl ?_ | refine WL.nil ?_ | refine W.block ?_ | refine W.outBlock ?_ | refine W.skip ?_ | refine W.exit rfl ?_ | refine WL.box rfl rfl rfl ?_ | refine W.opsD ?_ | refine W.condT rfl ?_ | refine W.condF rfl ?_)
        refine WL.pushG (v := v) rfl rfl rfl rfl rfl rfl (by decide) rfl ov (fun j hj e => ?_) rfl (by omega) rfl (fun _ _ _ => rfl) ?_
        · have := OwnS.lt ov fr2 j hj
          rw [e] at this; exact absurd this (by dsimp only; omega)
        intro rd wr H1 oh1 of1 fr1
        repeat (first | refine W.seq ?_ | refine W.ops ?_ | refine WL.off rfl rfl ?_ | refine WL.val rfl rfl rfl ?_ | refine WL.nil ?_ | refine W.block ?_ | refine W.outBlock ?_ | refine W.skip ?_ | refine W.exit rfl ?_ | refine WL.box rfl rfl rfl ?_ | refine W.opsD ?_ | refine W.condT rfl ?_ | refine W.condF rfl ?_)
        have es := toL_snoc (id := id) (t := c.tables.l[i]) hlq
        rw [if_pos g4'] at es
        refine ih2 (q + 1, .slice (_, _) 0 ((toL c id c.tables.l[i] q).length + 1) 1 false) _ _ _ ⟨hlq, ?_, ?_, ?_, fr1 _ (by omega) (fr2.mono (by omega)), by omega⟩ (by dsimp only; omega) (by rw [← wrap64_nat (k := q) (by omega)]; rfl)
        · dsimp only
          rw [es, List.flatMap_append, List.length_append]
          exact oh1
        · intro o2 ho
          simp only [AV.objs, List.mem_singleton] at ho
          subst ho; dsimp only; omega
        · intro j hj
          rw [of1 j (fun hm => by have := vge j hm; omega) (fun e => by rw [e] at hj; dsimp only at hj; omega) (fun e => by rw [e] at hj; dsimp only at hj; omega)]
          exact old2 j hj
      · have g4' : ¬ (c.entries.l[q].table == id) = true := by simpa using g4
        repeat (first | refine W.seq ?_ | refine W.ops ?_ | refine WL.off rfl rfl ?_ | refine WL.val rfl rfl rfl ?_ | refine WL.nil ?_ | refine W.block ?_ | refine W.outBlock ?_ | refine W.skip ?_ | refine W.exit rfl ?_ | refine WL.box rfl rfl rfl ?_ | refine W.opsD ?_ | refine W.condT rfl ?_ | refine W.condF rfl ?_)
        have es := toL_snoc (id := id) (t := c.tables.l[i]) hlq
        rw [if_neg g4'] at es
        refine ih2 (q + 1, v) _ _ _ ⟨hlq, by dsimp only; rw [es]; exact ov, vge, old2, fr2.mono (by omega), by omega⟩ (by dsimp only; omega) (by rw [← wrap64_nat (k := q) (by omega)]; rfl)
    · clear ih2
      have hge : q = c.entries.l.length := by have := of_decide_eq_false hb3; dsimp only at this; omega
      subst hge
      rcases ov with ⟨_, h1, _⟩ | ⟨o2, clip, rfl, gv, lv⟩
      · omega
      have hge2 : n ≤ o2.1 := vge o2 (by simp [AV.objs])
      have hno : o2 ≠ o := fun e => by have := H.lt; rw [e] at hge2; omega
      repeat (first | refine W.seq ?_ | refine W.ops ?_ | refine WL.off rfl rfl ?_ | refine WL.val rfl rfl rfl ?_ | refine WL.nil ?_ | refine W.block ?_ | refine W.outBlock ?_ | refine W.skip ?_ | refine W.exit rfl ?_ | refine WL.box rfl rfl rfl ?_ | refine W.opsD ?_ | refine W.condT rfl ?_ | refine W.condF rfl ?_)
      refine WL.eff rfl rfl rfl ((pick_c hw hl ((H.move (n' := n2) (fun j hj => old2 j (by omega)) fr2 (by omega)).mono (n' := n2 + 1 + 1) (by omega)) (toL c id c.tables.l[i] c.entries.l.length).length (by omega)).mono ?_)
      rintro r h3 n3 ⟨⟨k, rfl, hk⟩, W3, n23, f3⟩
      have hk' := hk tl.1
      repeat (first | refine W.seq ?_ | refine W.ops ?_ | refine WL.off rfl rfl ?_ | refine WL.val rfl rfl rfl ?_ | refine WL.nil ?_ | refine W.block ?_ | refine W.outBlock ?_ | refine W.skip ?_ | refine W.exit rfl ?_ | refine WL.box rfl rfl rfl ?_ | refine W.opsD ?_ | refine W.condT rfl ?_ | refine W.condF rfl ?_)
      refine WL.val rfl (aop_iaddr_h rfl rfl hk') rfl ?_
      repeat (first | refine W.seq ?_ | refine W.ops ?_ | refine WL.off rfl rfl ?_ | refine WL.val rfl rfl rfl ?_ | refine WL.nil ?_ | refine W.block ?_ | refine W.outBlock ?_ | refine W.skip ?_ | refine W.exit rfl ?_ | refine WL.box rfl rfl rfl ?_ | refine W.opsD ?_ | refine W.condT rfl ?_ | refine W.condF rfl ?_)
      refine WL.val rfl (aop_load_h rfl ((f3 o2 hno).trans gv) (by rw [Nat.zero_add]; exact flat_get (k := 1) (o := 0) (fun _ => rfl) hk' (by decide))) rfl ?_
      obtain ⟨t1, t2⟩ := tab_ge ha hfi hv0 (List.getElem_mem hk')
      have hvb := hv (1, (toL c id c.tables.l[i] c.entries.l.length)[k])
      refine WL.eff rfl rfl rfl ((ih _ t2 (by omega) o h3 n3 W3).mono ?_)
      rintro r h4 n4 ⟨⟨k4, rfl, hk4⟩, W4, n34, f4⟩
      repeat (first | refine W.seq ?_ | refine W.ops ?_ | refine WL.off rfl rfl ?_ | refine WL.val rfl rfl rfl ?_ | refine WL.nil ?_ | refine W.block ?_ | refine W.outBlock ?_ | refine W.skip ?_ | refine W.exit rfl ?_ | refine WL.box rfl rfl rfl ?_ | refine W.opsD ?_ | refine W.condT rfl ?_ | refine W.condF rfl ?_)
      have ew : IntKind.wrap .i64 (1 + (k4 : Int)) = ((k4 + 1 : Nat) : Int) := by rw [wrap64 (by omega) (by omega)]; omega
      rw [ew]
      refine W.ret ⟨_, rfl, ⟨k4 + 1, rfl, by omega⟩, W4, by dsimp only; omega, fun j hj hn => ?_⟩
      rw [f4 j hj (by omega), f3 j hj]
      exact old2 j (by omega)
  · clear ihl
    repeat (first | refine W.seq ?_ | refine W.ops ?_ | refine WL.off rfl rfl ?_ | refine WL.val rfl rfl rfl ?_ | refine WL.nil ?_ | refine W.block ?_ | refine W.outBlock ?_ | refine W.skip ?_ | refine W.exit rfl ?_ | refine WL.box rfl rfl rfl ?_ | refine W.opsD ?_ | refine W.condT rfl ?_ | refine W.condF rfl ?_)
    exact W.ret ⟨_, rfl, ⟨0, rfl, (hv _).1⟩, H.mono (by dsimp only; omega), by dsimp only; omega, fun _ _ _ => rfl⟩
end
end Go.AM.B

/- The law BoundWays: the walker's groups and blocks. -/
namespace Go.AM.B
open Go.Proofs.Ytebogdeaiecldaa.Tab
noncomputable section
set_option linter.unusedVariables false
set_option linter.unusedSimpArgs false
set_option maxHeartbeats 4000000

/-- A group that takes little takes no less than each of its blocks, or than their sum. -/
theorem grp_lead {c : Config} {id : Int} {g : Group} (hf : (c.groups.l.find? fun g => g.id == id) = some g) {b : Bucket} (hb : b ∈ g.buckets.l) : ((1, b.block) : Th) ∈ (solve c).leads (2, id) := by
  have e1 : (solve c).buckets id = g.buckets.l := by unfold Solv.buckets; rw [solve_grp, hf]; rfl
  rw [leads_g _ _ (by decide) (by decide), e1]
  exact List.mem_map.2 ⟨b, hb, rfl⟩
theorem sum_nn : ∀ (l : List Int), (∀ r ∈ l, 0 ≤ r) → 0 ≤ l.sum := by
  intro l
  induction l with
  | nil => intro _; exact Int.le_refl _
  | cons a l ih => intro h; rw [List.sum_cons]; have := h a List.mem_cons_self; have := ih fun r hr => h r (List.mem_cons_of_mem _ hr); omega
theorem fold_sum : ∀ (l : List Int) (n : Int), (∀ r ∈ l, 0 ≤ r) → 0 ≤ n → n ≤ 65537 → l.foldl (fun n r => if (1 : Int) = 1 then min over (n + r) else max n r) n = min 65537 (n + l.sum) := by
  intro l
  have e : over = 65537 := rfl
  induction l with
  | nil => intro n _ h0 h1; simp only [List.foldl_nil, List.sum_nil]; omega
  | cons a l ih =>
    intro n hl h0 h1
    have ha := hl a List.mem_cons_self
    have hl' : ∀ r ∈ l, 0 ≤ r := fun r hr => hl r (List.mem_cons_of_mem _ hr)
    have hs := sum_nn l hl'
    simp only [if_true] at ih ⊢
    rw [List.foldl_cons, ih _ hl' (by omega) (by omega), List.sum_cons]
    omega
def sumV (c : Config) (g : Group) (k : Nat) : Int := ((g.buckets.l.take k).map fun b => val (solve c) (1, b.block)).sum
theorem sumV_snoc {c : Config} {g : Group} {k : Nat} (hk : k < g.buckets.l.length) : sumV c g (k + 1) = sumV c g k + val (solve c) (1, g.buckets.l[k].block) := by
  unfold sumV
  rw [List.take_succ_eq_append_getElem hk, List.map_append, List.sum_append]; simp
theorem sumV_le {c : Config} (ha : acy (solve c)) (g : Group) (k : Nat) : 0 ≤ sumV c g k ∧ sumV c g k ≤ sumV c g g.buckets.l.length := by
  have hv := val_bnd ha (val_is ha)
  unfold sumV
  have e : g.buckets.l = g.buckets.l.take k ++ g.buckets.l.drop k := (List.take_append_drop k _).symm
  have h1 := sum_nn ((g.buckets.l.take k).map fun b => val (solve c) (1, b.block)) (fun r hr => by obtain ⟨b, _, rfl⟩ := List.mem_map.1 hr; exact (hv _).1)
  have h2 := sum_nn ((g.buckets.l.drop k).map fun b => val (solve c) (1, b.block)) (fun r hr => by obtain ⟨b, _, rfl⟩ := List.mem_map.1 hr; exact (hv _).1)
  refine ⟨h1, ?_⟩
  rw [List.take_length]
  conv => rhs; rw [e, List.map_append, List.sum_append]
  omega
theorem grp_sum {c : Config} (ha : acy (solve c)) {id : Int} {g : Group} (hf : (c.groups.l.find? fun g => g.id == id) = some g) (hk : g.kind = 1) (hv0 : val (solve c) (2, id) ≤ 20000) : val (solve c) (2, id) = sumV c g g.buckets.l.length := by
  have hv := val_bnd ha (val_is ha)
  have eo : over = 65537 := rfl
  have e1 : (solve c).buckets id = g.buckets.l := by unfold Solv.buckets; rw [solve_grp, hf]; rfl
  have e2 : kindOf ((solve c).group id) = 1 := by rw [solve_grp, hf]; exact hk
  have e := val_is ha (2, id)
  unfold comb comb0 at e
  rw [if_neg (fun h => by cases h), if_neg (fun h => by cases h), e1, e2] at e
  rw [fold_sum _ 0 (fun r hr => by obtain ⟨b, _, rfl⟩ := List.mem_map.1 hr; exact (hv _).1) (by decide) (by decide)] at e
  unfold sumV
  rw [List.take_length]
  omega
theorem walk_group {c : Config} {ws : Sl Int} (sm : Small c) (m : n0 c ≤ 60) (hw : ∀ a ∈ ws.l, litOk .u8 a) (hl : ws.l.length ≤ 5000) (ha : acy (solve c)) (id : Int) (ih : ∀ y ∈ (solve c).leads (2, id), WalkR c ws y) : WalkR c ws (2, id) := by
  intro hv0 o h0 n0 H
  have hv := val_bnd ha (val_is ha)
  unfold B.n0 at m
  refine CallsTo.of (vf := v37) rfl rfl ?_
  unfold v37
  repeat (first | refine W.seq ?_ | refine W.ops ?_ | refine WL.off rfl rfl ?_ | refine WL.val rfl rfl rfl ?_ | refine WL.nil ?_ | refine W.block ?_ | refine W.outBlock ?_ | refine W.skip ?_ | refine W.exit rfl ?_ | refine WL.box rfl rfl rfl ?_ | refine W.opsD ?_ | refine W.condT rfl ?_ | refine W.condF rfl ?_)
  refine W.loopE (E0 := envOf [(0, _), (1, _), (5, _)]) rfl (β := Nat) (fun b => [(5, .v (.int .i64 b))])
    (fun b h n => b ≤ c.groups.l.length ∧ (∀ j (k : j < c.groups.l.length), j < b → (c.groups.l[j].id == id) = false) ∧ h = h0 ∧ n0 ≤ n) (fun b => c.groups.l.length - b) 0 rfl ⟨by simp, (fun j k h => by omega), rfl, by omega⟩ ?_
  rintro i h n ⟨hi, hf, rfl, hn⟩ ihl
  obtain ⟨p, hp, hg⟩ := H.g
  repeat (first | refine W.seq ?_ | refine W.ops ?_ | refine WL.off rfl rfl ?_ | refine WL.val rfl rfl rfl ?_ | refine WL.nil ?_ | refine W.block ?_ | refine W.outBlock ?_ | refine W.skip ?_ | refine W.exit rfl ?_ | refine WL.box rfl rfl rfl ?_ | refine W.opsD ?_ | refine W.condT rfl ?_ | refine W.condF rfl ?_)
  refine WL.val rfl (aop_load_h rfl hg rfl) rfl ?_
  repeat (first | refine W.seq ?_ | refine W.ops ?_ | refine WL.off rfl rfl ?_ | refine WL.val rfl rfl rfl ?_ | refine WL.nil ?_ | refine W.block ?_ | refine W.outBlock ?_ | refine W.skip ?_ | refine W.exit rfl ?_ | refine WL.box rfl rfl rfl ?_ | refine W.opsD ?_ | refine W.condT rfl ?_ | refine W.condF rfl ?_)
  refine W.condS rfl (fun hb2 => ?_) (fun hb2 => ?_)
  · have hlt : i < c.groups.l.length := by simpa using hb2
    repeat (first | refine W.seq ?_ | refine W.ops ?_ | refine WL.off rfl rfl ?_ | refine WL.val rfl rfl rfl ?_ | refine WL.nil ?_ | refine W.block ?_ | refine W.outBlock ?_ | refine W.skip ?_ | refine W.exit rfl ?_ | refine WL.box rfl rfl rfl ?_ | refine W.opsD ?_ | refine W.condT rfl ?_ | refine W.condF rfl ?_)
    refine WL.val rfl (aop_load_h rfl hg rfl) rfl ?_
    repeat (first | refine W.seq ?_ | refine W.ops ?_ | refine WL.off rfl rfl ?_ | refine WL.val rfl rfl rfl ?_ | refine WL.nil ?_ | refine W.block ?_ | refine W.outBlock ?_ | refine W.skip ?_ | refine W.exit rfl ?_ | refine WL.box rfl rfl rfl ?_ | refine W.opsD ?_ | refine W.condT rfl ?_ | refine W.condF rfl ?_)
    refine WL.val rfl (aop_iaddr_p rfl rfl hlt) rfl ?_
    repeat (first | refine W.seq ?_ | refine W.ops ?_ | refine WL.off rfl rfl ?_ | refine WL.val rfl rfl rfl ?_ | refine WL.nil ?_ | refine W.block ?_ | refine W.outBlock ?_ | refine W.skip ?_ | refine W.exit rfl ?_ | refine WL.box rfl rfl rfl ?_ | refine W.opsD ?_ | refine W.condT rfl ?_ | refine W.condF rfl ?_)
    refine WL.val rfl (aop_load_st (enc := Group.enc) rfl (fun _ => rfl) hlt) rfl ?_
    repeat (first | refine W.seq ?_ | refine W.ops ?_ | refine WL.off rfl rfl ?_ | refine WL.val rfl rfl rfl ?_ | refine WL.nil ?_ | refine W.block ?_ | refine W.outBlock ?_ | refine W.skip ?_ | refine W.exit rfl ?_ | refine WL.box rfl rfl rfl ?_ | refine W.opsD ?_ | refine W.condT rfl ?_ | refine W.condF rfl ?_)
    refine WL.splitG rfl (fun g3 => ?_) (fun g3 => ?_)
    · have g3' : (c.groups.l[i].id == id) = false := by simpa using g3
      repeat (first | refine W.seq ?_ | refine W.ops ?_ | refine WL.off rfl rfl ?_ | refine WL.val rfl rfl rfl ?_ | refine WL.nil ?_ | refine W.block ?_ | refine W.outBlock ?_ | refine W.skip ?_ | refine W.exit rfl ?_ | refine WL.box rfl rfl rfl ?_ | refine W.opsD ?_ | refine W.condT rfl ?_ | refine W.condF rfl ?_)
      refine W.condS rfl (fun g4 => ?_) (fun g4 => ?_)
      · have g4' : (c.groups.l[i].id == id) = true := by simpa using g4
        rw [g3'] at g4'; cases g4'
      repeat (first | refine W.seq ?_ | refine W.ops ?_ | refine WL.off rfl rfl ?_ | refine WL.val rfl rfl rfl ?_ | refine WL.nil ?_ | refine W.block ?_ | refine W.outBlock ?_ | refine W.skip ?_ | refine W.exit rfl ?_ | refine WL.box rfl rfl rfl ?_ | refine W.opsD ?_ | refine W.condT rfl ?_ | refine W.condF rfl ?_)
      refine ihl (i + 1) _ _ _ ⟨hlt, (fun j k hj => ?_), rfl, by omega⟩ (by omega) (by rw [← wrap64_nat (k := i) (by omega)]; rfl)
      by_cases e : j = i
      · subst e; exact g3'
      · exact hf j k (by omega)
    clear ihl
    have g3' : (c.groups.l[i].id == id) = true := by simpa using g3
    have hfi := find_first (p := fun g : Group => g.id == id) hlt hf g3'
    have hbk := sm.sk c.groups.l[i] (List.getElem_mem hlt)
    repeat (first | refine W.seq ?_ | refine W.ops ?_ | refine WL.off rfl rfl ?_ | refine WL.val rfl rfl rfl ?_ | refine WL.nil ?_ | refine W.block ?_ | refine W.outBlock ?_ | refine W.skip ?_ | refine W.exit rfl ?_ | refine WL.box rfl rfl rfl ?_ | refine W.opsD ?_ | refine W.condT rfl ?_ | refine W.condF rfl ?_)
    refine W.condS rfl (fun g5 => ?_) (fun g5 => ?_)
    · repeat (first | refine W.seq ?_ | refine W.ops ?_ | refine WL.off rfl rfl ?_ | refine WL.val rfl rfl rfl ?_ | refine WL.nil ?_ | refine W.block ?_ | refine W.outBlock ?_ | refine W.skip ?_ | refine W.exit rfl ?_ | refine WL.box rfl rfl rfl ?_ | refine W.opsD ?_ | refine W.condT rfl ?_ | refine W.condF rfl ?_)
      refine W.condS rfl (fun g6 => ?_) (fun g6 => ?_)
      · repeat (first | refine W.seq ?_ | refine W.ops ?_ | refine WL.off rfl rfl ?_ | refine WL.val rfl rfl rfl ?_ | refine WL.nil ?_ | refine W.block ?_ | refine W.outBlock ?_ | refine W.skip ?_ | refine W.exit rfl ?_ | refine WL.box rfl rfl rfl ?_ | refine W.opsD ?_ | refine W.condT rfl ?_ | refine W.condF rfl ?_)
        exact W.ret ⟨_, rfl, ⟨0, rfl, (hv _).1⟩, H.mono (by dsimp only; omega), by dsimp only; omega, fun _ _ _ => rfl⟩
      · have g6' : (c.groups.l[i].id == id) = false := by simpa using g6
        rw [g3'] at g6'; cases g6'
    have hb0 : 0 < c.groups.l[i].buckets.l.length := by
      rcases Nat.eq_zero_or_pos c.groups.l[i].buckets.l.length with e | e
      · rw [e] at g5; cases g5
      · exact e
    repeat (first | refine W.seq ?_ | refine W.ops ?_ | refine WL.off rfl rfl ?_ | refine WL.val rfl rfl rfl ?_ | refine WL.nil ?_ | refine W.block ?_ | refine W.outBlock ?_ | refine W.skip ?_ | refine W.exit rfl ?_ | refine WL.box rfl rfl rfl ?_ | refine W.opsD ?_ | refine W.condT rfl ?_ | refine W.condF rfl ?_)
    refine W.condS rfl (fun g7 => ?_) (fun g7 => ?_)
    · have g7' : c.groups.l[i].kind ≠ 1 := by simpa using g7
      repeat (first | refine W.seq ?_ | refine W.ops ?_ | refine WL.off rfl rfl ?_ | refine WL.val rfl rfl rfl ?_ | refine WL.nil ?_ | refine W.block ?_ | refine W.outBlock ?_ | refine W.skip ?_ | refine W.exit rfl ?_ | refine WL.box rfl rfl rfl ?_ | refine W.opsD ?_ | refine W.condT rfl ?_ | refine W.condF rfl ?_)
      refine WL.eff rfl rfl rfl ((pick_c hw hl (H.mono (n' := n + 1 + 1 + 1 + 1 + 1) (by omega)) c.groups.l[i].buckets.l.length (by omega)).mono ?_)
      rintro r h3 n3 ⟨⟨k, rfl, hk⟩, W3, n23, f3⟩
      have hk' := hk hb0
      repeat (first | refine W.seq ?_ | refine W.ops ?_ | refine WL.off rfl rfl ?_ | refine WL.val rfl rfl rfl ?_ | refine WL.nil ?_ | refine W.block ?_ | refine W.outBlock ?_ | refine W.skip ?_ | refine W.exit rfl ?_ | refine WL.box rfl rfl rfl ?_ | refine W.opsD ?_ | refine W.condT rfl ?_ | refine W.condF rfl ?_)
      refine WL.val rfl (aop_iaddr_p rfl rfl hk') rfl ?_
      repeat (first | refine W.seq ?_ | refine W.ops ?_ | refine WL.off rfl rfl ?_ | refine WL.val rfl rfl rfl ?_ | refine WL.nil ?_ | refine W.block ?_ | refine W.outBlock ?_ | refine W.skip ?_ | refine W.exit rfl ?_ | refine WL.box rfl rfl rfl ?_ | refine W.opsD ?_ | refine W.condT rfl ?_ | refine W.condF rfl ?_)
      refine WL.val rfl (aop_load_el (enc := Bucket.enc) (o := 1) rfl (fun _ => rfl) hk' (by decide) rfl) rfl ?_
      repeat (first | refine W.seq ?_ | refine W.ops ?_ | refine WL.off rfl rfl ?_ | refine WL.val rfl rfl rfl ?_ | refine WL.nil ?_ | refine W.block ?_ | refine W.outBlock ?_ | refine W.skip ?_ | refine W.exit rfl ?_ | refine WL.box rfl rfl rfl ?_ | refine W.opsD ?_ | refine W.condT rfl ?_ | refine W.condF rfl ?_)
      have t1 := group_ge ha hfi (List.getElem_mem hk')
      have t2 := grp_lead hfi (List.getElem_mem hk')
      refine WL.eff rfl rfl rfl ((ih _ t2 (by omega) o h3 n3 W3).mono ?_)
      rintro r h4 n4 ⟨⟨k4, rfl, hk4⟩, W4, n34, f4⟩
      repeat (first | refine W.seq ?_ | refine W.ops ?_ | refine WL.off rfl rfl ?_ | refine WL.val rfl rfl rfl ?_ | refine WL.nil ?_ | refine W.block ?_ | refine W.outBlock ?_ | refine W.skip ?_ | refine W.exit rfl ?_ | refine WL.box rfl rfl rfl ?_ | refine W.opsD ?_ | refine W.condT rfl ?_ | refine W.condF rfl ?_)
      refine W.ret ⟨_, rfl, ⟨k4, rfl, by omega⟩, W4, by dsimp only; omega, fun j hj hn => ?_⟩
      rw [f4 j hj (by omega), f3 j hj]
    have g7' : c.groups.l[i].kind = 1 := by simpa using g7
    have hsum := grp_sum ha hfi g7' hv0
    repeat (first | refine W.seq ?_ | refine W.ops ?_ | refine WL.off rfl rfl ?_ | refine WL.val rfl rfl rfl ?_ | refine WL.nil ?_ | refine W.block ?_ | refine W.outBlock ?_ | refine W.skip ?_ | refine W.exit rfl ?_ | refine WL.box rfl rfl rfl ?_ | refine W.opsD ?_ | refine W.condT rfl ?_ | refine W.condF rfl ?_)
    refine W.loopE (E0 := envOf [(0, _), (6, _), (7, _), (8, _)]) rfl (β := Nat × Nat) (fun b => [(7, .v (.int .i64 (b.2 : Int))), (8, .v (.int .i64 (b.1 : Int)))])
      (fun b h2 n2 => b.1 ≤ c.groups.l[i].buckets.l.length ∧ (b.2 : Int) ≤ sumV c c.groups.l[i] b.1 ∧ WH c ws o h2 n2 ∧ n0 ≤ n2 ∧ ∀ j, j ≠ o → j.1 < n0 → h2.get j = h.get j) (fun b => c.groups.l[i].buckets.l.length - b.1) (0, 0) rfl ⟨by simp, by simp [sumV], H.mono (by omega), by omega, fun _ _ _ => rfl⟩ ?_
    rintro ⟨q, a⟩ h2 n2 ⟨hq, haq, W2, hn2, f2⟩ ih2
    dsimp only at hq haq
    have hsl := sumV_le ha c.groups.l[i] q
    repeat (first | refine W.seq ?_ | refine W.ops ?_ | refine WL.off rfl rfl ?_ | refine WL.val rfl rfl rfl ?_ | refine WL.nil ?_ | refine W.block ?_ | refine W.outBlock ?_ | refine W.skip ?_ | refine W.exit rfl ?_ | refine WL.box rfl rfl rfl ?_ | refine W.opsD ?_ | refine W.condT rfl ?_ | refine W.condF rfl ?_)
    refine WL.splitG rfl (fun g8 => ?_) (fun g8 => ?_)
    · have hlq : q < c.groups.l[i].buckets.l.length := by have := of_decide_eq_true g8; dsimp only at this; omega
      repeat (first | refine W.seq ?_ | refine W.ops ?_ | refine WL.off rfl rfl ?_ | refine WL.val rfl rfl rfl ?_ | refine WL.nil ?_ | refine W.block ?_ | refine W.outBlock ?_ | refine W.skip ?_ | refine W.exit rfl ?_ | refine WL.box rfl rfl rfl ?_ | refine W.opsD ?_)
      refine W.condS rfl (fun g9 => ?_) (fun g9 => ?_)
      · repeat (first | refine W.seq ?_ | refine W.ops ?_ | refine WL.off rfl rfl ?_ | refine WL.val rfl rfl rfl ?_ | refine WL.nil ?_ | refine W.block ?_ | refine W.outBlock ?_ | refine W.skip ?_ | refine W.exit rfl ?_ | refine WL.box rfl rfl rfl ?_ | refine W.opsD ?_ | refine W.condT rfl ?_ | refine W.condF rfl ?_)
        refine WL.val rfl (aop_iaddr_p rfl rfl hlq) rfl ?_
        repeat (first | refine W.seq ?_ | refine W.ops ?_ | refine WL.off rfl rfl ?_ | refine WL.val rfl rfl rfl ?_ | refine WL.nil ?_ | refine W.block ?_ | refine W.outBlock ?_ | refine W.skip ?_ | refine W.exit rfl ?_ | refine WL.box rfl rfl rfl ?_ | refine W.opsD ?_ | refine W.condT rfl ?_ | refine W.condF rfl ?_)
        refine WL.val rfl (aop_load_el (enc := Bucket.enc) (o := 1) rfl (fun _ => rfl) hlq (by decide) rfl) rfl ?_
        repeat (first | refine W.seq ?_ | refine W.ops ?_ | refine WL.off rfl rfl ?_ | refine WL.val rfl rfl rfl ?_ | refine WL.nil ?_ | refine W.block ?_ | refine W.outBlock ?_ | refine W.skip ?_ | refine W.exit rfl ?_ | refine WL.box rfl rfl rfl ?_ | refine W.opsD ?_ | refine W.condT rfl ?_ | refine W.condF rfl ?_)
        have t2 := grp_lead hfi (List.getElem_mem hlq)
        have es := sumV_snoc (c := c) (g := c.groups.l[i]) hlq
        have hsl2 := sumV_le ha c.groups.l[i] (q + 1)
        have hvb := hv (1, c.groups.l[i].buckets.l[q].block)
        refine WL.eff rfl rfl rfl ((ih _ t2 (by omega) o h2 _ (W2.mono (Nat.le_add_right _ 2))).mono ?_)
        rintro r h4 n4 ⟨⟨k4, rfl, hk4⟩, W4, n34, f4⟩
        repeat (first | refine W.seq ?_ | refine W.ops ?_ | refine WL.off rfl rfl ?_ | refine WL.val rfl rfl rfl ?_ | refine WL.nil ?_ | refine W.block ?_ | refine W.outBlock ?_ | refine W.skip ?_ | refine W.exit rfl ?_ | refine WL.box rfl rfl rfl ?_ | refine W.opsD ?_ | refine W.condT rfl ?_ | refine W.condF rfl ?_)
        have ew : IntKind.wrap .i64 ((a : Int) + (k4 : Int)) = ((a + k4 : Nat) : Int) := by rw [wrap64 (by omega) (by omega)]; omega
        refine ih2 (q + 1, a + k4) _ _ _ ⟨hlq, by dsimp only; omega, W4.mono (by omega), by omega, fun j hj hn => ?_⟩ (by dsimp only; omega) (by rw [← wrap64_nat (k := q) (by omega), ← ew]; rfl)
        rw [f4 j hj (by omega)]
        exact f2 j hj hn
      · have := of_decide_eq_false g9
        dsimp only at this
        omega
    · clear ih2
      repeat (first | refine W.seq ?_ | refine W.ops ?_ | refine WL.off rfl rfl ?_ | refine WL.val rfl rfl rfl ?_ | refine WL.nil ?_ | refine W.block ?_ | refine W.outBlock ?_ | refine W.skip ?_ | refine W.exit rfl ?_ | refine WL.box rfl rfl rfl ?_ | refine W.opsD ?_ | refine W.condT rfl ?_ | refine W.condF rfl ?_)
      refine W.ret ⟨_, rfl, ⟨a, rfl, by omega⟩, W2.mono (by dsimp only; omega), by dsimp only; omega, fun j hj hn => f2 j hj hn⟩
  · clear ihl
    repeat (first | refine W.seq ?_ | refine W.ops ?_ | refine WL.off rfl rfl ?_ | refine WL.val rfl rfl rfl ?_ | refine WL.nil ?_ | refine W.block ?_ | refine W.outBlock ?_ | refine W.skip ?_ | refine W.exit rfl ?_ | refine WL.box rfl rfl rfl ?_ | refine W.opsD ?_ | refine W.condT rfl ?_ | refine W.condF rfl ?_)
    exact W.ret ⟨_, rfl, ⟨0, rfl, (hv _).1⟩, H.mono (by dsimp only; omega), by dsimp only; omega, fun _ _ _ => rfl⟩
end
end Go.AM.B

/- The law BoundWays: the walker's blocks. -/
namespace Go.AM.B
open Go.Proofs.Ytebogdeaiecldaa.Tab
noncomputable section
set_option linter.unusedVariables false
set_option linter.unusedSimpArgs false
set_option maxHeartbeats 4000000

def cv (V : Th → Int) (L : List Instr) (p : Nat) : Int := (codeV V L).getD p 0
theorem codeV_drop (V : Th → Int) : ∀ (L : List Instr) (p j : Nat), p ≤ L.length → (codeV V (L.drop p)).getD j 0 = cv V L (p + j) := by
  intro L
  unfold cv
  induction L with
  | nil => intro p j h; have : p = 0 := by simpa using h
           subst this; simp
  | cons a L ih =>
    intro p j h
    cases p with
    | zero => simp
    | succ p =>
      rw [List.drop_succ_cons, ih p j (by simpa using h)]
      have : p + 1 + j = (p + j) + 1 := by omega
      rw [this]
      simp only [codeV, List.getD_cons_succ]
theorem cv_nn {V : Th → Int} (hV : ∀ y, 0 ≤ V y) (L : List Instr) (p : Nat) : 0 ≤ cv V L p := by
  unfold cv
  by_cases h : p < (codeV V L).length
  · rw [getD_in h]; exact (codeV_bnd hV L _ (List.getElem_mem h)).1
  · rw [getD_out (by omega)]; exact Int.le_refl _
theorem cv_step {V : Th → Int} (hV : ∀ y, 0 ≤ V y) {L : List Instr} {p : Nat} (hp : p < L.length) (hle : cv V L p ≤ 20000) :
    1 ≤ cv V L p ∧ (L[p].op = 13 → cv V L p = 1 + V (0, L[p].n)) ∧ (L[p].op = 14 → cv V L p = 1 + V (2, L[p].n)) ∧
      (L[p].op ≠ 23 → L[p].op ≠ 22 → L[p].op ≠ 13 → L[p].op ≠ 14 → 1 + cv V L (p + 1) ≤ cv V L p) ∧ (L[p].op = 12 → 0 ≤ L[p].n → L[p].n < (L.length - (p + 1) : Nat) → 1 + cv V L (p + 1 + L[p].n.toNat) ≤ cv V L p) := by
  have eo : over = 65537 := rfl
  have e0 : L.drop p = L[p] :: L.drop (p + 1) := List.drop_eq_getElem_cons hp
  have e1 : cv V L p = (codeV V (L[p] :: L.drop (p + 1))).getD 0 0 := by rw [← e0, codeV_drop V L p 0 (by omega)]; rfl
  have e2 : ∀ j, (codeV V (L.drop (p + 1))).getD j 0 = cv V L (p + 1 + j) := fun j => codeV_drop V L (p + 1) j (by omega)
  have e20 := e2 0
  have elen : (L.drop (p + 1)).length = L.length - (p + 1) := List.length_drop
  have hnn := cv_nn hV L
  have n1 := hnn (p + 1)
  have n2 := hnn (p + 1 + L[p].n.toNat)
  have v0 := hV (0, L[p].n)
  have v2 := hV (2, L[p].n)
  generalize cv V L p = z at e1 hle ⊢
  simp only [codeV, List.getD_cons_zero, e2, elen, Nat.add_zero] at e1
  split at e1
  · refine ⟨by omega, fun h => by omega, fun h => by omega, fun a b => by omega, fun h => by omega⟩
  · split at e1
    · refine ⟨by omega, fun h => by omega, fun h => by omega, fun a b => by omega, fun h => by omega⟩
    · split at e1
      · refine ⟨by omega, fun h => by omega, fun h => by omega, fun a b => by omega, fun h => by omega⟩
      · split at e1
        · refine ⟨by omega, fun h => by omega, fun h => by omega, fun a b c d => by omega, fun h a b => by omega⟩
        · refine ⟨by omega, fun h => by omega, fun h => by omega, fun a b c d => by omega, fun h a b => by omega⟩
theorem blk_head {c : Config} (ha : acy (solve c)) {id : Int} {b : Block} (hf : (c.blocks.l.find? fun b => b.id == id) = some b) (hv0 : val (solve c) (1, id) ≤ 20000) : cv (val (solve c)) b.code.l 0 = val (solve c) (1, id) := by
  have e := val_blk ha hf
  have eo : over = 65537 := rfl
  unfold cv
  omega
theorem blk_lead {c : Config} {id : Int} {b : Block} (hf : (c.blocks.l.find? fun b => b.id == id) = some b) {x : Instr} (hx : x ∈ b.code.l) {y : Th} (hy : y ∈ instrLead x) : y ∈ (solve c).leads (1, id) := by
  rw [leads_1, solve_blk]
  unfold blkL
  rw [hf]
  exact List.mem_flatMap.2 ⟨x, hx, hy⟩
theorem walk_block {c : Config} {ws : Sl Int} (sm : Small c) (m : n0 c ≤ 60) (hw : ∀ a ∈ ws.l, litOk .u8 a) (hl : ws.l.length ≤ 5000) (ha : acy (solve c)) (id : Int) (ih : ∀ y ∈ (solve c).leads (1, id), WalkR c ws y) : WalkR c ws (1, id) := by
  intro hv0 o h0 n0 H
  have hv := val_bnd ha (val_is ha)
  unfold B.n0 at m
  refine CallsTo.of (vf := v26) rfl rfl ?_
  unfold v26
  repeat (first | refine W.seq ?_ | refine W.ops ?_ | refine WL.off rfl rfl ?_ | refine WL.val rfl rfl rfl ?_ | refine WL.nil ?_ | refine W.block ?_ | refine W.outBlock ?_ | refine W.skip ?_ | refine W.exit rfl ?_ | refine WL.box rfl rfl rfl ?_ | refine W.opsD ?_ | refine W.condT rfl ?_ | refine W.condF rfl ?_)
  refine W.loopE (E0 := envOf [(0, _), (1, _), (5, _)]) rfl (β := Nat) (fun b => [(5, .v (.int .i64 b))])
    (fun b h n => b ≤ c.blocks.l.length ∧ (∀ j (k : j < c.blocks.l.length), j < b → (c.blocks.l[j].id == id) = false) ∧ h = h0 ∧ n0 ≤ n) (fun b => c.blocks.l.length - b) 0 rfl ⟨by simp, (fun j k h => by omega), rfl, by omega⟩ ?_
  rintro i h n ⟨hi, hf, rfl, hn⟩ ihl
  obtain ⟨p, hp, hg⟩ := H.g
  repeat (first | refine W.seq ?_ | refine W.ops ?_ | refine WL.off rfl rfl ?_ | refine WL.val rfl rfl rfl ?_ | refine WL.nil ?_ | refine W.block ?_ | refine W.outBlock ?_ | refine W.skip ?_ | refine W.exit rfl ?_ | refine WL.box rfl rfl rfl ?_ | refine W.opsD ?_ | refine W.condT rfl ?_ | refine W.condF rfl ?_)
  refine WL.val rfl (aop_load_h rfl hg rfl) rfl ?_
  repeat (first | refine W.seq ?_ | refine W.ops ?_ | refine WL.off rfl rfl ?_ | refine WL.val rfl rfl rfl ?_ | refine WL.nil ?_ | refine W.block ?_ | refine W.outBlock ?_ | refine W.skip ?_ | refine W.exit rfl ?_ | refine WL.box rfl rfl rfl ?_ | refine W.opsD ?_ | refine W.condT rfl ?_ | refine W.condF rfl ?_)
  refine W.condS rfl (fun hb2 => ?_) (fun hb2 => ?_)
  · have hlt : i < c.blocks.l.length := by simpa using hb2
    repeat (first | refine W.seq ?_ | refine W.ops ?_ | refine WL.off rfl rfl ?_ | refine WL.val rfl rfl rfl ?_ | refine WL.nil ?_ | refine W.block ?_ | refine W.outBlock ?_ | refine W.skip ?_ | refine W.exit rfl ?_ | refine WL.box rfl rfl rfl ?_ | refine W.opsD ?_ | refine W.condT rfl ?_ | refine W.condF rfl ?_)
    refine WL.val rfl (aop_load_h rfl hg rfl) rfl ?_
    repeat (first | refine W.seq ?_ | refine W.ops ?_ | refine WL.off rfl rfl ?_ | refine WL.val rfl rfl rfl ?_ | refine WL.nil ?_ | refine W.block ?_ | refine W.outBlock ?_ | refine W.skip ?_ | refine W.exit rfl ?_ | refine WL.box rfl rfl rfl ?_ | refine W.opsD ?_ | refine W.condT rfl ?_ | refine W.condF rfl ?_)
    refine WL.val rfl (aop_iaddr_p rfl rfl hlt) rfl ?_
    repeat (first | refine W.seq ?_ | refine W.ops ?_ | refine WL.off rfl rfl ?_ | refine WL.val rfl rfl rfl ?_ | refine WL.nil ?_ | refine W.block ?_ | refine W.outBlock ?_ | refine W.skip ?_ | refine W.exit rfl ?_ | refine WL.box rfl rfl rfl ?_ | refine W.opsD ?_ | refine W.condT rfl ?_ | refine W.condF rfl ?_)
    refine WL.val rfl (aop_load_el (enc := Block.enc) (o := 0) rfl (fun _ => rfl) hlt (by decide) rfl) rfl ?_
    repeat (first | refine W.seq ?_ | refine W.ops ?_ | refine WL.off rfl rfl ?_ | refine WL.val rfl rfl rfl ?_ | refine WL.nil ?_ | refine W.block ?_ | refine W.outBlock ?_ | refine W.skip ?_ | refine W.exit rfl ?_ | refine WL.box rfl rfl rfl ?_ | refine W.opsD ?_ | refine W.condT rfl ?_ | refine W.condF rfl ?_)
    refine W.condS rfl (fun g3 => ?_) (fun g3 => ?_)
    · have g3' : (c.blocks.l[i].id == id) = false := by simpa using g3
      repeat (first | refine W.seq ?_ | refine W.ops ?_ | refine WL.off rfl rfl ?_ | refine WL.val rfl rfl rfl ?_ | refine WL.nil ?_ | refine W.block ?_ | refine W.outBlock ?_ | refine W.skip ?_ | refine W.exit rfl ?_ | refine WL.box rfl rfl rfl ?_ | refine W.opsD ?_ | refine W.condT rfl ?_ | refine W.condF rfl ?_)
      refine ihl (i + 1) _ _ _ ⟨hlt, (fun j k hj => ?_), rfl, by omega⟩ (by omega) (by rw [← wrap64_nat (k := i) (by omega)]; rfl)
      by_cases e : j = i
      · subst e; exact g3'
      · exact hf j k (by omega)
    clear ihl
    have g3' : (c.blocks.l[i].id == id) = true := by simpa using g3
    have hfi := find_first (p := fun g : Block => g.id == id) hlt hf g3'
    have hcl := sm.sc c.blocks.l[i] (List.getElem_mem hlt)
    have hh := blk_head ha hfi hv0
    have hnn := cv_nn (fun y => (hv y).1) c.blocks.l[i].code.l
    repeat (first | refine W.seq ?_ | refine W.ops ?_ | refine WL.off rfl rfl ?_ | refine WL.val rfl rfl rfl ?_ | refine WL.nil ?_ | refine W.block ?_ | refine W.outBlock ?_ | refine W.skip ?_ | refine W.exit rfl ?_ | refine WL.box rfl rfl rfl ?_ | refine W.opsD ?_ | refine W.condT rfl ?_ | refine W.condF rfl ?_)
    refine WL.val rfl (aop_load_h rfl hg rfl) rfl ?_
    repeat (first | refine W.seq ?_ | refine W.ops ?_ | refine WL.off rfl rfl ?_ | refine WL.val rfl rfl rfl ?_ | refine WL.nil ?_ | refine W.block ?_ | refine W.outBlock ?_ | refine W.skip ?_ | refine W.exit rfl ?_ | refine WL.box rfl rfl rfl ?_ | refine W.opsD ?_ | refine W.condT rfl ?_ | refine W.condF rfl ?_)
    refine WL.val rfl (aop_iaddr_p rfl rfl hlt) rfl ?_
    repeat (first | refine W.seq ?_ | refine W.ops ?_ | refine WL.off rfl rfl ?_ | refine WL.val rfl rfl rfl ?_ | refine WL.nil ?_ | refine W.block ?_ | refine W.outBlock ?_ | refine W.skip ?_ | refine W.exit rfl ?_ | refine WL.box rfl rfl rfl ?_ | refine W.opsD ?_ | refine W.condT rfl ?_ | refine W.condF rfl ?_)
    refine WL.val rfl (aop_load_el (enc := Block.enc) (o := 1) rfl (fun _ => rfl) hlt (by decide) rfl) rfl ?_
    repeat (first | refine W.seq ?_ | refine W.ops ?_ | refine WL.off rfl rfl ?_ | refine WL.val rfl rfl rfl ?_ | refine WL.nil ?_ | refine W.block ?_ | refine W.outBlock ?_ | refine W.skip ?_ | refine W.exit rfl ?_ | refine WL.box rfl rfl rfl ?_ | refine W.opsD ?_ | refine W.condT rfl ?_ | refine W.condF rfl ?_)
    refine W.loopE (E0 := envOf [(0, _), (6, _), (7, _), (8, _)]) rfl (β := Nat × Nat) (fun b => [(7, .v (.int .i64 (b.2 : Int))), (8, .v (.int .i64 (b.1 : Int)))])
      (fun b h2 n2 => (b.1 ≤ c.blocks.l[i].code.l.length ∧ (b.2 : Int) + cv (val (solve c)) c.blocks.l[i].code.l b.1 ≤ val (solve c) (1, id) ∨ c.blocks.l[i].code.l.length < b.1 ∧ b.1 ≤ 1000000 ∧ (b.2 : Int) ≤ val (solve c) (1, id)) ∧ WH c ws o h2 n2 ∧ n0 ≤ n2 ∧ ∀ j, j ≠ o → j.1 < n0 → h2.get j = h.get j) (fun b => c.blocks.l[i].code.l.length + 1 - b.1) (0, 0) rfl ⟨.inl ⟨by simp, by dsimp only; omega⟩, H.mono (by omega), by omega, fun _ _ _ => rfl⟩ ?_
    rintro ⟨q, a⟩ h2 n2 ⟨hq, W2, hn2, f2⟩ ih2
    dsimp only at hq
    have haV : (a : Int) ≤ val (solve c) (1, id) := by
      rcases hq with h | h
      · have := hnn q; omega
      · exact h.2.2
    obtain ⟨p2, hp2, hg2⟩ := W2.g
    have hge0 : decide (((q, a).1 : Int) ≥ 0) = true := decide_eq_true (by dsimp only; omega)
    repeat (first | refine W.seq ?_ | refine W.ops ?_ | refine WL.off rfl rfl ?_ | refine WL.val rfl rfl rfl ?_ | refine WL.nil ?_ | refine W.block ?_ | refine W.outBlock ?_ | refine W.skip ?_ | refine W.exit rfl ?_ | refine WL.box rfl rfl rfl ?_ | refine W.opsD ?_)
    refine W.condS rfl (fun g8 => ?_) (fun g8 => ?_)
    · have hlq : q < c.blocks.l[i].code.l.length := by have := of_decide_eq_true g8; dsimp only at this; omega
      have hq' : (a : Int) + cv (val (solve c)) c.blocks.l[i].code.l q ≤ val (solve c) (1, id) := by
        rcases hq with h | h
        · exact h.2
        · omega
      obtain ⟨k1, k13, k14, kel, k12⟩ := cv_step (fun y => (hv y).1) hlq (by omega)
      have nn1 := hnn (q + 1)
      have ea : IntKind.wrap .i64 ((a : Int) + 1) = ((a + 1 : Nat) : Int) := wrap64_nat (by omega)
      repeat (first | refine W.seq ?_ | refine W.ops ?_ | refine WL.off rfl rfl ?_ | refine WL.val rfl rfl rfl ?_ | refine WL.nil ?_ | refine W.block ?_ | refine W.outBlock ?_ | refine W.skip ?_ | refine W.exit rfl ?_ | refine WL.box rfl rfl rfl ?_ | refine W.opsD ?_ | refine W.condT rfl ?_ | refine W.condF rfl ?_)
      refine WL.val rfl (aop_iaddr_p rfl rfl hlq) rfl ?_
      repeat (first | refine W.seq ?_ | refine W.ops ?_ | refine WL.off rfl rfl ?_ | refine WL.val rfl rfl rfl ?_ | refine WL.nil ?_ | refine W.block ?_ | refine W.outBlock ?_ | refine W.skip ?_ | refine W.exit rfl ?_ | refine WL.box rfl rfl rfl ?_ | refine W.opsD ?_ | refine W.condT rfl ?_ | refine W.condF rfl ?_)
      refine WL.val rfl (aop_load_el (enc := Instr.enc) (o := 0) rfl (fun _ => rfl) hlq (by decide) rfl) rfl ?_
      repeat (first | refine W.seq ?_ | refine W.ops ?_ | refine WL.off rfl rfl ?_ | refine WL.val rfl rfl rfl ?_ | refine WL.nil ?_ | refine W.block ?_ | refine W.outBlock ?_ | refine W.skip ?_ | refine W.exit rfl ?_ | refine WL.box rfl rfl rfl ?_ | refine W.opsD ?_ | refine W.condT rfl ?_ | refine W.condF rfl ?_)
      refine W.condS rfl (fun g9 => ?_) (fun g9 => ?_)
      · repeat (first | refine W.seq ?_ | refine W.ops ?_ | refine WL.off rfl rfl ?_ | refine WL.val rfl rfl rfl ?_ | refine WL.nil ?_ | refine W.block ?_ | refine W.outBlock ?_ | refine W.skip ?_ | refine W.exit rfl ?_ | refine WL.box rfl rfl rfl ?_ | refine W.opsD ?_ | refine W.condT rfl ?_ | refine W.condF rfl ?_)
        refine W.ret ⟨_, rfl, ⟨a + 1, ?_, by omega⟩, W2.mono (by dsimp only; omega), by dsimp only; omega, fun j hj hn => f2 j hj hn⟩
        rw [← ea]; rfl
      have g9' : c.blocks.l[i].code.l[q].op ≠ 23 := by simpa using g9
      repeat (first | refine W.seq ?_ | refine W.ops ?_ | refine WL.off rfl rfl ?_ | refine WL.val rfl rfl rfl ?_ | refine WL.nil ?_ | refine W.block ?_ | refine W.outBlock ?_ | refine W.skip ?_ | refine W.exit rfl ?_ | refine WL.box rfl rfl rfl ?_ | refine W.opsD ?_ | refine W.condT rfl ?_ | refine W.condF rfl ?_)
      refine W.condS rfl (fun g10 => ?_) (fun g10 => ?_)
      · repeat (first | refine W.seq ?_ | refine W.ops ?_ | refine WL.off rfl rfl ?_ | refine WL.val rfl rfl rfl ?_ | refine WL.nil ?_ | refine W.block ?_ | refine W.outBlock ?_ | refine W.skip ?_ | refine W.exit rfl ?_ | refine WL.box rfl rfl rfl ?_ | refine W.opsD ?_ | refine W.condT rfl ?_ | refine W.condF rfl ?_)
        refine W.ret ⟨_, rfl, ⟨a + 1, ?_, by omega⟩, W2.mono (by dsimp only; omega), by dsimp only; omega, fun j hj hn => f2 j hj hn⟩
        rw [← ea]; rfl
      have g10' : c.blocks.l[i].code.l[q].op ≠ 22 := by simpa using g10
      repeat (first | refine W.seq ?_ | refine W.ops ?_ | refine WL.off rfl rfl ?_ | refine WL.val rfl rfl rfl ?_ | refine WL.nil ?_ | refine W.block ?_ | refine W.outBlock ?_ | refine W.skip ?_ | refine W.exit rfl ?_ | refine WL.box rfl rfl rfl ?_ | refine W.opsD ?_ | refine W.condT rfl ?_ | refine W.condF rfl ?_)
      refine W.condS rfl (fun g11 => ?_) (fun g11 => ?_)
      · have g11' : c.blocks.l[i].code.l[q].op = 13 := by simpa using g11
        have hk13 := k13 g11'
        repeat (first | refine W.seq ?_ | refine W.ops ?_ | refine WL.off rfl rfl ?_ | refine WL.val rfl rfl rfl ?_ | refine WL.nil ?_ | refine W.block ?_ | refine W.outBlock ?_ | refine W.skip ?_ | refine W.exit rfl ?_ | refine WL.box rfl rfl rfl ?_ | refine W.opsD ?_ | refine W.condT rfl ?_ | refine W.condF rfl ?_)
        refine WL.val rfl (aop_iaddr_p rfl rfl hlq) rfl ?_
        repeat (first | refine W.seq ?_ | refine W.ops ?_ | refine WL.off rfl rfl ?_ | refine WL.val rfl rfl rfl ?_ | refine WL.nil ?_ | refine W.block ?_ | refine W.outBlock ?_ | refine W.skip ?_ | refine W.exit rfl ?_ | refine WL.box rfl rfl rfl ?_ | refine W.opsD ?_ | refine W.condT rfl ?_ | refine W.condF rfl ?_)
        refine WL.val rfl (aop_load_el (enc := Instr.enc) (o := 6) rfl (fun _ => rfl) hlq (by decide) rfl) rfl ?_
        repeat (first | refine W.seq ?_ | refine W.ops ?_ | refine WL.off rfl rfl ?_ | refine WL.val rfl rfl rfl ?_ | refine WL.nil ?_ | refine W.block ?_ | refine W.outBlock ?_ | refine W.skip ?_ | refine W.exit rfl ?_ | refine WL.box rfl rfl rfl ?_ | refine W.opsD ?_ | refine W.condT rfl ?_ | refine W.condF rfl ?_)
        have t2 := blk_lead hfi (List.getElem_mem hlq) (y := (0, c.blocks.l[i].code.l[q].n)) (by simp [instrLead, g11'])
        have hvb := hv (0, c.blocks.l[i].code.l[q].n)
        refine WL.eff rfl rfl rfl ((ih _ t2 (by omega) o h2 _ (W2.mono (Nat.le_add_right _ 7))).mono ?_)
        rintro r h4 n4 ⟨⟨k4, rfl, hk4⟩, W4, n34, f4⟩
        repeat (first | refine W.seq ?_ | refine W.ops ?_ | refine WL.off rfl rfl ?_ | refine WL.val rfl rfl rfl ?_ | refine WL.nil ?_ | refine W.block ?_ | refine W.outBlock ?_ | refine W.skip ?_ | refine W.exit rfl ?_ | refine WL.box rfl rfl rfl ?_ | refine W.opsD ?_ | refine W.condT rfl ?_ | refine W.condF rfl ?_)
        have ew : IntKind.wrap .i64 (IntKind.wrap .i64 ((a : Int) + 1) + (k4 : Int)) = ((a + 1 + k4 : Nat) : Int) := by rw [ea, wrap64 (by omega) (by omega)]; omega
        refine W.ret ⟨_, rfl, ⟨a + 1 + k4, by rw [← ew]; rfl, by omega⟩, W4, by dsimp only; omega, fun j hj hn => ?_⟩
        rw [f4 j hj (by omega)]
        exact f2 j hj hn
      have g11' : c.blocks.l[i].code.l[q].op ≠ 13 := by simpa using g11
      repeat (first | refine W.seq ?_ | refine W.ops ?_ | refine WL.off rfl rfl ?_ | refine WL.val rfl rfl rfl ?_ | refine WL.nil ?_ | refine W.block ?_ | refine W.outBlock ?_ | refine W.skip ?_ | refine W.exit rfl ?_ | refine WL.box rfl rfl rfl ?_ | refine W.opsD ?_ | refine W.condT rfl ?_ | refine W.condF rfl ?_)
      refine W.condS rfl (fun g12 => ?_) (fun g12 => ?_)
      · have g12' : c.blocks.l[i].code.l[q].op = 14 := by simpa using g12
        have hk14 := k14 g12'
        repeat (first | refine W.seq ?_ | refine W.ops ?_ | refine WL.off rfl rfl ?_ | refine WL.val rfl rfl rfl ?_ | refine WL.nil ?_ | refine W.block ?_ | refine W.outBlock ?_ | refine W.skip ?_ | refine W.exit rfl ?_ | refine WL.box rfl rfl rfl ?_ | refine W.opsD ?_ | refine W.condT rfl ?_ | refine W.condF rfl ?_)
        refine WL.val rfl (aop_iaddr_p rfl rfl hlq) rfl ?_
        repeat (first | refine W.seq ?_ | refine W.ops ?_ | refine WL.off rfl rfl ?_ | refine WL.val rfl rfl rfl ?_ | refine WL.nil ?_ | refine W.block ?_ | refine W.outBlock ?_ | refine W.skip ?_ | refine W.exit rfl ?_ | refine WL.box rfl rfl rfl ?_ | refine W.opsD ?_ | refine W.condT rfl ?_ | refine W.condF rfl ?_)
        refine WL.val rfl (aop_load_el (enc := Instr.enc) (o := 6) rfl (fun _ => rfl) hlq (by decide) rfl) rfl ?_
        repeat (first | refine W.seq ?_ | refine W.ops ?_ | refine WL.off rfl rfl ?_ | refine WL.val rfl rfl rfl ?_ | refine WL.nil ?_ | refine W.block ?_ | refine W.outBlock ?_ | refine W.skip ?_ | refine W.exit rfl ?_ | refine WL.box rfl rfl rfl ?_ | refine W.opsD ?_ | refine W.condT rfl ?_ | refine W.condF rfl ?_)
        have t2 := blk_lead hfi (List.getElem_mem hlq) (y := (2, c.blocks.l[i].code.l[q].n)) (by simp [instrLead, g12'])
        have hvb := hv (2, c.blocks.l[i].code.l[q].n)
        refine WL.eff rfl rfl rfl ((ih _ t2 (by omega) o h2 _ (W2.mono (Nat.le_add_right _ 8))).mono ?_)
        rintro r h4 n4 ⟨⟨k4, rfl, hk4⟩, W4, n34, f4⟩
        repeat (first | refine W.seq ?_ | refine W.ops ?_ | refine WL.off rfl rfl ?_ | refine WL.val rfl rfl rfl ?_ | refine WL.nil ?_ | refine W.block ?_ | refine W.outBlock ?_ | refine W.skip ?_ | refine W.exit rfl ?_ | refine WL.box rfl rfl rfl ?_ | refine W.opsD ?_ | refine W.condT rfl ?_ | refine W.condF rfl ?_)
        have ew : IntKind.wrap .i64 (IntKind.wrap .i64 ((a : Int) + 1) + (k4 : Int)) = ((a + 1 + k4 : Nat) : Int) := by rw [ea, wrap64 (by omega) (by omega)]; omega
        refine W.ret ⟨_, rfl, ⟨a + 1 + k4, by rw [← ew]; rfl, by omega⟩, W4, by dsimp only; omega, fun j hj hn => ?_⟩
        rw [f4 j hj (by omega)]
        exact f2 j hj hn
      have g12' : c.blocks.l[i].code.l[q].op ≠ 14 := by simpa using g12
      have hel := kel g9' g10' g11' g12'
      repeat (first | refine W.seq ?_ | refine W.ops ?_ | refine WL.off rfl rfl ?_ | refine WL.val rfl rfl rfl ?_ | refine WL.nil ?_ | refine W.block ?_ | refine W.outBlock ?_ | refine W.skip ?_ | refine W.exit rfl ?_ | refine WL.box rfl rfl rfl ?_ | refine W.opsD ?_ | refine W.condT rfl ?_ | refine W.condF rfl ?_)
      refine W.condS rfl (fun g13 => ?_) (fun g13 => ?_)
      · have g13' : c.blocks.l[i].code.l[q].op = 12 := by simpa using g13
        have h12 := k12 g13'
        repeat (first | refine W.seq ?_ | refine W.ops ?_ | refine WL.off rfl rfl ?_ | refine WL.val rfl rfl rfl ?_ | refine WL.nil ?_ | refine W.block ?_ | refine W.outBlock ?_ | refine W.skip ?_ | refine W.exit rfl ?_ | refine WL.box rfl rfl rfl ?_ | refine W.opsD ?_ | refine W.condT rfl ?_ | refine W.condF rfl ?_)
        refine WL.eff rfl rfl rfl ((pick_c hw hl (W2.mono (Nat.le_add_right _ 9)) 2 (by decide)).mono ?_)
        rintro r h4 n4 ⟨⟨k4, rfl, hk4⟩, W4, n34, f4⟩
        repeat (first | refine W.seq ?_ | refine W.ops ?_ | refine WL.off rfl rfl ?_ | refine WL.val rfl rfl rfl ?_ | refine WL.nil ?_ | refine W.block ?_ | refine W.outBlock ?_ | refine W.skip ?_ | refine W.exit rfl ?_ | refine WL.box rfl rfl rfl ?_ | refine W.opsD ?_ | refine W.condT rfl ?_ | refine W.condF rfl ?_)
        refine W.condS rfl (fun g14 => ?_) (fun g14 => ?_)
        · have f2' : ∀ j, j ≠ o → j.1 < n0 → h4.get j = h.get j := fun j hj hn => (f4 j hj).trans (f2 j hj hn)
          repeat (first | refine W.seq ?_ | refine W.ops ?_ | refine WL.off rfl rfl ?_ | refine WL.val rfl rfl rfl ?_ | refine WL.nil ?_ | refine W.block ?_ | refine W.outBlock ?_ | refine W.skip ?_ | refine W.exit rfl ?_ | refine WL.box rfl rfl rfl ?_ | refine W.opsD ?_ | refine W.condT rfl ?_ | refine W.condF rfl ?_)
          refine WL.val rfl (aop_iaddr_p rfl rfl hlq) rfl ?_
          repeat (first | refine W.seq ?_ | refine W.ops ?_ | refine WL.off rfl rfl ?_ | refine WL.val rfl rfl rfl ?_ | refine WL.nil ?_ | refine W.block ?_ | refine W.outBlock ?_ | refine W.skip ?_ | refine W.exit rfl ?_ | refine WL.box rfl rfl rfl ?_ | refine W.opsD ?_ | refine W.condT rfl ?_ | refine W.condF rfl ?_)
          refine WL.val rfl (aop_load_el (enc := Instr.enc) (o := 6) rfl (fun _ => rfl) hlq (by decide) rfl) rfl ?_
          repeat (first | refine W.seq ?_ | refine W.ops ?_ | refine WL.off rfl rfl ?_ | refine WL.val rfl rfl rfl ?_ | refine WL.nil ?_ | refine W.block ?_ | refine W.outBlock ?_ | refine W.skip ?_ | refine W.exit rfl ?_ | refine WL.box rfl rfl rfl ?_ | refine W.opsD ?_ | refine W.condT rfl ?_ | refine W.condF rfl ?_)
          refine WL.splitG rfl (fun g15 => ?_) (fun g15 => ?_)
          · repeat (first | refine W.seq ?_ | refine W.ops ?_ | refine WL.off rfl rfl ?_ | refine WL.val rfl rfl rfl ?_ | refine WL.nil ?_ | refine W.block ?_ | refine W.outBlock ?_ | refine W.skip ?_ | refine W.exit rfl ?_ | refine WL.box rfl rfl rfl ?_ | refine W.opsD ?_ | refine W.condT rfl ?_ | refine W.condF rfl ?_)
            refine W.ret ⟨_, rfl, ⟨a + 1, ?_, by omega⟩, W4.mono (by dsimp only; omega), by dsimp only; omega, fun j hj hn => f2' j hj hn⟩
            rw [← ea]; rfl
          have g15' : 0 ≤ c.blocks.l[i].code.l[q].n := by have := of_decide_eq_false g15; omega
          repeat (first | refine W.seq ?_ | refine W.ops ?_ | refine WL.off rfl rfl ?_ | refine WL.val rfl rfl rfl ?_ | refine WL.nil ?_ | refine W.block ?_ | refine W.outBlock ?_ | refine W.skip ?_ | refine W.exit rfl ?_ | refine WL.box rfl rfl rfl ?_ | refine W.opsD ?_ | refine W.condT rfl ?_ | refine W.condF rfl ?_)
          refine WL.val rfl (aop_iaddr_p rfl rfl hlq) rfl ?_
          repeat (first | refine W.seq ?_ | refine W.ops ?_ | refine WL.off rfl rfl ?_ | refine WL.val rfl rfl rfl ?_ | refine WL.nil ?_ | refine W.block ?_ | refine W.outBlock ?_ | refine W.skip ?_ | refine W.exit rfl ?_ | refine WL.box rfl rfl rfl ?_ | refine W.opsD ?_ | refine W.condT rfl ?_ | refine W.condF rfl ?_)
          refine WL.val rfl (aop_load_el (enc := Instr.enc) (o := 6) rfl (fun _ => rfl) hlq (by decide) rfl) rfl ?_
          repeat (first | refine W.seq ?_ | refine W.ops ?_ | refine WL.off rfl rfl ?_ | refine WL.val rfl rfl rfl ?_ | refine WL.nil ?_ | refine W.block ?_ | refine W.outBlock ?_ | refine W.skip ?_ | refine W.exit rfl ?_ | refine WL.box rfl rfl rfl ?_ | refine W.opsD ?_ | refine W.condT rfl ?_ | refine W.condF rfl ?_)
          refine W.condS rfl (fun g16 => ?_) (fun g16 => ?_)
          · repeat (first | refine W.seq ?_ | refine W.ops ?_ | refine WL.off rfl rfl ?_ | refine WL.val rfl rfl rfl ?_ | refine WL.nil ?_ | refine W.block ?_ | refine W.outBlock ?_ | refine W.skip ?_ | refine W.exit rfl ?_ | refine WL.box rfl rfl rfl ?_ | refine W.opsD ?_ | refine W.condT rfl ?_ | refine W.condF rfl ?_)
            refine W.ret ⟨_, rfl, ⟨a + 1, ?_, by omega⟩, W4.mono (by dsimp only; omega), by dsimp only; omega, fun j hj hn => f2' j hj hn⟩
            rw [← ea]; rfl
          have g16' : c.blocks.l[i].code.l[q].n ≤ c.blocks.l[i].code.l.length := by have := of_decide_eq_false g16; omega
          repeat (first | refine W.seq ?_ | refine W.ops ?_ | refine WL.off rfl rfl ?_ | refine WL.val rfl rfl rfl ?_ | refine WL.nil ?_ | refine W.block ?_ | refine W.outBlock ?_ | refine W.skip ?_ | refine W.exit rfl ?_ | refine WL.box rfl rfl rfl ?_ | refine W.opsD ?_ | refine W.condT rfl ?_ | refine W.condF rfl ?_)
          refine WL.val rfl (aop_iaddr_p rfl rfl hlq) rfl ?_
          repeat (first | refine W.seq ?_ | refine W.ops ?_ | refine WL.off rfl rfl ?_ | refine WL.val rfl rfl rfl ?_ | refine WL.nil ?_ | refine W.block ?_ | refine W.outBlock ?_ | refine W.skip ?_ | refine W.exit rfl ?_ | refine WL.box rfl rfl rfl ?_ | refine W.opsD ?_ | refine W.condT rfl ?_ | refine W.condF rfl ?_)
          refine WL.val rfl (aop_load_el (enc := Instr.enc) (o := 6) rfl (fun _ => rfl) hlq (by decide) rfl) rfl ?_
          repeat (first | refine W.seq ?_ | refine W.ops ?_ | refine WL.off rfl rfl ?_ | refine WL.val rfl rfl rfl ?_ | refine WL.nil ?_ | refine W.block ?_ | refine W.outBlock ?_ | refine W.skip ?_ | refine W.exit rfl ?_ | refine WL.box rfl rfl rfl ?_ | refine W.opsD ?_ | refine W.condT rfl ?_ | refine W.condF rfl ?_)
          have ej : IntKind.wrap .i64 (IntKind.wrap .i64 ((q : Int) + c.blocks.l[i].code.l[q].n) + 1) = ((q + c.blocks.l[i].code.l[q].n.toNat + 1 : Nat) : Int) := by rw [wrap64 (n := (q : Int) + c.blocks.l[i].code.l[q].n) (by omega) (by omega), wrap64 (by omega) (by omega)]; omega
          refine ih2 (q + c.blocks.l[i].code.l[q].n.toNat + 1, a + 1) _ _ _ ⟨?_, W4.mono (by omega), by omega, f2'⟩ (by dsimp only; omega) (by rw [← ej, ← ea]; rfl)
          dsimp only
          have e3 : q + c.blocks.l[i].code.l[q].n.toNat + 1 = q + 1 + c.blocks.l[i].code.l[q].n.toNat := by omega
          rw [e3]
          by_cases h5 : c.blocks.l[i].code.l[q].n < (c.blocks.l[i].code.l.length - (q + 1) : Nat)
          · have := h12 g15' h5
            exact .inl ⟨by omega, by omega⟩
          · by_cases h6 : q + 1 + c.blocks.l[i].code.l[q].n.toNat = c.blocks.l[i].code.l.length
            · rw [h6]
              have : cv (val (solve c)) c.blocks.l[i].code.l c.blocks.l[i].code.l.length = 0 := by
                have := codeV_drop (val (solve c)) c.blocks.l[i].code.l c.blocks.l[i].code.l.length 0 (Nat.le_refl _)
                rw [List.drop_length] at this
                exact this.symm
              exact .inl ⟨Nat.le_refl _, by rw [this]; omega⟩
            · exact .inr ⟨by omega, by omega, by omega⟩
        · repeat (first | refine W.seq ?_ | refine W.ops ?_ | refine WL.off rfl rfl ?_ | refine WL.val rfl rfl rfl ?_ | refine WL.nil ?_ | refine W.block ?_ | refine W.outBlock ?_ | refine W.skip ?_ | refine W.exit rfl ?_ | refine WL.box rfl rfl rfl ?_ | refine W.opsD ?_ | refine W.condT rfl ?_ | refine W.condF rfl ?_)
          refine ih2 (q + 1, a + 1) _ _ _ ⟨.inl ⟨hlq, by dsimp only; omega⟩, W4.mono (by omega), by omega, fun j hj hn => (f4 j hj).trans (f2 j hj hn)⟩ (by dsimp only; omega) (by rw [← wrap64_nat (k := q) (by omega), ← ea]; rfl)
      repeat (first | refine W.seq ?_ | refine W.ops ?_ | refine WL.off rfl rfl ?_ | refine WL.val rfl rfl rfl ?_ | refine WL.nil ?_ | refine W.block ?_ | refine W.outBlock ?_ | refine W.skip ?_ | refine W.exit rfl ?_ | refine WL.box rfl rfl rfl ?_ | refine W.opsD ?_ | refine W.condT rfl ?_ | refine W.condF rfl ?_)
      refine ih2 (q + 1, a + 1) _ _ _ ⟨.inl ⟨hlq, by dsimp only; have := hel; omega⟩, W2.mono (by omega), by omega, f2⟩ (by dsimp only; omega) (by rw [← wrap64_nat (k := q) (by omega), ← ea]; rfl)
    · clear ih2
      repeat (first | refine W.seq ?_ | refine W.ops ?_ | refine WL.off rfl rfl ?_ | refine WL.val rfl rfl rfl ?_ | refine WL.nil ?_ | refine W.block ?_ | refine W.outBlock ?_ | refine W.skip ?_ | refine W.exit rfl ?_ | refine WL.box rfl rfl rfl ?_ | refine W.opsD ?_ | refine W.condT rfl ?_ | refine W.condF rfl ?_)
      refine W.ret ⟨_, rfl, ⟨a, rfl, haV⟩, W2.mono (by dsimp only; omega), by dsimp only; omega, fun j hj hn => f2 j hj hn⟩
  · clear ihl
    repeat (first | refine W.seq ?_ | refine W.ops ?_ | refine WL.off rfl rfl ?_ | refine WL.val rfl rfl rfl ?_ | refine WL.nil ?_ | refine W.block ?_ | refine W.outBlock ?_ | refine W.skip ?_ | refine W.exit rfl ?_ | refine WL.box rfl rfl rfl ?_ | refine W.opsD ?_ | refine W.condT rfl ?_ | refine W.condF rfl ?_)
    exact W.ret ⟨_, rfl, ⟨0, rfl, (hv _).1⟩, H.mono (by dsimp only; omega), by dsimp only; omega, fun _ _ _ => rfl⟩
end
end Go.AM.B

/- The law BoundWays. -/
namespace Go.AM.B
open Go.Proofs.Ytebogdeaiecldaa.Tab
noncomputable section
set_option linter.unusedVariables false
set_option linter.unusedSimpArgs false
set_option maxHeartbeats 4000000

theorem walk_all {c : Config} {ws : Sl Int} (sm : Small c) (m : n0 c ≤ 60) (hw : ∀ a ∈ ws.l, litOk .u8 a) (hl : ws.l.length ≤ 5000) (ha : acy (solve c)) (x : Th) (hk : x.1 = 0 ∨ x.1 = 1 ∨ x.1 = 2) : WalkR c ws x := by
  induction ha x with
  | intro x _ ih =>
    have ih' : ∀ y ∈ (solve c).leads x, WalkR c ws y := fun y hy => ih y hy (leads_kind hy)
    obtain ⟨k, id⟩ := x
    rcases hk with h | h | h
    · dsimp only at h; subst h; exact walk_table sm m hw hl ha id ih'
    · dsimp only at h; subst h; exact walk_block sm m hw hl ha id ih'
    · dsimp only at h; subst h; exact walk_group sm m hw hl ha id ih'
theorem ways_c (c : Config) (ws : Sl Int) (id : Int) (hc : Config.ok c) (hws : (∀ a ∈ ws.l, (litOk .u8) a) ∧ ws.l.length ≤ reachBytes) : VC1 T 5 [.agg c.enc, ws.av 1 encU8, .int .i64 id] (.bool true) := by
  have l1 := large_k hc
  have l3 := awake_c
  obtain ⟨hw, _⟩ := hws
  refine VC1.of (vf := v5) rfl rfl ?_
  unfold v5
  repeat (first | refine W.seq ?_ | refine W.ops ?_ | refine WL.off rfl rfl ?_ | refine WL.val rfl rfl rfl ?_ | refine WL.nil ?_ | refine W.block ?_ | refine W.outBlock ?_ | refine W.skip ?_ | refine W.exit rfl ?_ | refine WL.box rfl rfl rfl ?_ | refine W.opsD ?_ | refine W.condT rfl ?_ | refine W.condF rfl ?_)
  refine WL.view rfl rfl rfl l1 rfl rfl ?_
  repeat (first | refine W.seq ?_ | refine W.ops ?_ | refine WL.off rfl rfl ?_ | refine WL.val rfl rfl rfl ?_ | refine WL.nil ?_ | refine W.block ?_ | refine W.outBlock ?_ | refine W.skip ?_ | refine W.exit rfl ?_ | refine WL.box rfl rfl rfl ?_ | refine W.opsD ?_ | refine W.condT rfl ?_ | refine W.condF rfl ?_)
  refine WL.splitG rfl (fun g1 => ?_) (fun g1 => ?_)
  · repeat (first | refine W.seq ?_ | refine W.ops ?_ | refine WL.off rfl rfl ?_ | refine WL.val rfl rfl rfl ?_ | refine WL.nil ?_ | refine W.block ?_ | refine W.outBlock ?_ | refine W.skip ?_ | refine W.exit rfl ?_ | refine WL.box rfl rfl rfl ?_ | refine W.opsD ?_ | refine W.condT rfl ?_ | refine W.condF rfl ?_)
    refine WL.view rfl rfl rfl l3 rfl rfl ?_
    repeat (first | refine W.seq ?_ | refine W.ops ?_ | refine WL.off rfl rfl ?_ | refine WL.val rfl rfl rfl ?_ | refine WL.nil ?_ | refine W.block ?_ | refine W.outBlock ?_ | refine W.skip ?_ | refine W.exit rfl ?_ | refine WL.box rfl rfl rfl ?_ | refine W.opsD ?_ | refine W.condT rfl ?_ | refine W.condF rfl ?_)
    exact W.ret ⟨_, rfl, rfl⟩
  obtain ⟨sm, m⟩ := large_small g1
  repeat (first | refine W.seq ?_ | refine W.ops ?_ | refine WL.off rfl rfl ?_ | refine WL.val rfl rfl rfl ?_ | refine WL.nil ?_ | refine W.block ?_ | refine W.outBlock ?_ | refine W.skip ?_ | refine W.exit rfl ?_ | refine WL.box rfl rfl rfl ?_ | refine W.opsD ?_)
  refine WL.splitG rfl (fun g2 => ?_) (fun g2 => ?_)
  · repeat (first | refine W.seq ?_ | refine W.ops ?_ | refine WL.off rfl rfl ?_ | refine WL.val rfl rfl rfl ?_ | refine WL.nil ?_ | refine W.block ?_ | refine W.outBlock ?_ | refine W.skip ?_ | refine W.exit rfl ?_ | refine WL.box rfl rfl rfl ?_ | refine W.opsD ?_ | refine W.condT rfl ?_ | refine W.condF rfl ?_)
    refine WL.view rfl rfl rfl l3 rfl rfl ?_
    repeat (first | refine W.seq ?_ | refine W.ops ?_ | refine WL.off rfl rfl ?_ | refine WL.val rfl rfl rfl ?_ | refine WL.nil ?_ | refine W.block ?_ | refine W.outBlock ?_ | refine W.skip ?_ | refine W.exit rfl ?_ | refine WL.box rfl rfl rfl ?_ | refine W.opsD ?_ | refine W.condT rfl ?_ | refine W.condF rfl ?_)
    exact W.ret ⟨_, rfl, rfl⟩
  have hl : ws.l.length ≤ 5000 := by have := of_decide_eq_false g2; omega
  repeat (first | refine W.seq ?_ | refine W.ops ?_ | refine WL.off rfl rfl ?_ | refine WL.val rfl rfl rfl ?_ | refine WL.nil ?_ | refine W.block ?_ | refine W.outBlock ?_ | refine W.skip ?_ | refine W.exit rfl ?_ | refine WL.box rfl rfl rfl ?_ | refine W.opsD ?_ | refine W.condT rfl ?_ | refine W.condF rfl ?_)
  refine WL.view rfl rfl rfl l3 rfl rfl ?_
  repeat (first | refine W.seq ?_ | refine W.ops ?_ | refine WL.off rfl rfl ?_ | refine WL.val rfl rfl rfl ?_ | refine WL.nil ?_ | refine W.block ?_ | refine W.outBlock ?_ | refine W.skip ?_ | refine W.exit rfl ?_ | refine WL.box rfl rfl rfl ?_ | refine W.opsD ?_ | refine W.condT rfl ?_ | refine W.condF rfl ?_)
  refine WL.view rfl rfl rfl (table_c c sm 1) rfl rfl ?_
  repeat (first | refine W.seq ?_ | refine W.ops ?_ | refine WL.off rfl rfl ?_ | refine WL.val rfl rfl rfl ?_ | refine WL.nil ?_ | refine W.block ?_ | refine W.outBlock ?_ | refine W.skip ?_ | refine W.exit rfl ?_ | refine WL.box rfl rfl rfl ?_ | refine W.opsD ?_ | refine W.condT rfl ?_ | refine W.condF rfl ?_)
  refine WL.view rfl rfl rfl (block_c c sm id) rfl rfl ?_
  by_cases ha : acy (solve c)
  · have hcy : cycB (solve c) = false := by simp [cycB, ha]
    have hv := val_bnd ha (val_is ha)
    rw [bnd_acy ha, bnd_acy ha]
    repeat (first | refine W.seq ?_ | refine W.ops ?_ | refine WL.off rfl rfl ?_ | refine WL.val rfl rfl rfl ?_ | refine WL.nil ?_ | refine W.block ?_ | refine W.outBlock ?_ | refine W.skip ?_ | refine W.exit rfl ?_ | refine WL.box rfl rfl rfl ?_ | refine W.opsD ?_)
    repeat (first | refine W.seq ?_ | refine W.ops ?_ | refine WL.off rfl rfl ?_ | refine WL.val rfl rfl rfl ?_ | refine WL.nil ?_ | refine W.block ?_ | refine W.outBlock ?_ | refine W.skip ?_ | refine W.exit rfl ?_ | refine WL.box rfl rfl rfl ?_ | refine W.opsD ?_ | refine W.condT rfl ?_ | refine W.condF rfl ?_)
    refine WL.splitG rfl (fun g3 => ?_) (fun g3 => ?_)
    · repeat (first | refine W.seq ?_ | refine W.ops ?_ | refine WL.off rfl rfl ?_ | refine WL.val rfl rfl rfl ?_ | refine WL.nil ?_ | refine W.block ?_ | refine W.outBlock ?_ | refine W.skip ?_ | refine W.exit rfl ?_ | refine WL.box rfl rfl rfl ?_ | refine W.opsD ?_ | refine W.condT rfl ?_ | refine W.condF rfl ?_)
      refine WL.view rfl rfl rfl (cyc_c c sm) rfl rfl ?_
      rw [hcy]
      repeat (first | refine W.seq ?_ | refine W.ops ?_ | refine WL.off rfl rfl ?_ | refine WL.val rfl rfl rfl ?_ | refine WL.nil ?_ | refine W.block ?_ | refine W.outBlock ?_ | refine W.skip ?_ | refine W.exit rfl ?_ | refine WL.box rfl rfl rfl ?_ | refine W.opsD ?_ | refine W.condT rfl ?_ | refine W.condF rfl ?_)
      exact W.ret ⟨_, rfl, rfl⟩
    have g3' : val (solve c) (0, 1) ≤ 20000 := by have := of_decide_eq_false g3; dsimp only at this; omega
    repeat (first | refine W.seq ?_ | refine W.ops ?_ | refine WL.off rfl rfl ?_ | refine WL.val rfl rfl rfl ?_ | refine WL.nil ?_ | refine W.block ?_ | refine W.outBlock ?_ | refine W.skip ?_ | refine W.exit rfl ?_ | refine WL.box rfl rfl rfl ?_ | refine W.opsD ?_)
    refine W.condS rfl (fun g4 => ?_) (fun g4 => ?_)
    · repeat (first | refine W.seq ?_ | refine W.ops ?_ | refine WL.off rfl rfl ?_ | refine WL.val rfl rfl rfl ?_ | refine WL.nil ?_ | refine W.block ?_ | refine W.outBlock ?_ | refine W.skip ?_ | refine W.exit rfl ?_ | refine WL.box rfl rfl rfl ?_ | refine W.opsD ?_ | refine W.condT rfl ?_ | refine W.condF rfl ?_)
      refine WL.view rfl rfl rfl (cyc_c c sm) rfl rfl ?_
      rw [hcy]
      repeat (first | refine W.seq ?_ | refine W.ops ?_ | refine WL.off rfl rfl ?_ | refine WL.val rfl rfl rfl ?_ | refine WL.nil ?_ | refine W.block ?_ | refine W.outBlock ?_ | refine W.skip ?_ | refine W.exit rfl ?_ | refine WL.box rfl rfl rfl ?_ | refine W.opsD ?_ | refine W.condT rfl ?_ | refine W.condF rfl ?_)
      exact W.ret ⟨_, rfl, rfl⟩
    have g4' : val (solve c) (1, id) ≤ 20000 := by have := of_decide_eq_false g4; dsimp only at this; omega
    repeat (first | refine W.seq ?_ | refine W.ops ?_ | refine WL.off rfl rfl ?_ | refine WL.val rfl rfl rfl ?_ | refine WL.nil ?_ | refine W.block ?_ | refine W.outBlock ?_ | refine W.skip ?_ | refine W.exit rfl ?_ | refine WL.box rfl rfl rfl ?_ | refine W.opsD ?_ | refine W.condT rfl ?_ | refine W.condF rfl ?_ | refine WL.heap rfl rfl rfl ?_)
    have W1 : WH c ws (6, 3) (Heap.empty.put (6, 3) (.cells (wayC c ws 0))) 8 := ⟨⟨0, Nat.zero_le _, by rw [Heap.get_put, if_pos rfl]⟩, (Fresh.empty 8).put (by decide) (Nat.le_refl _), by decide⟩
    refine WL.eff rfl rfl rfl ((walk_all sm m hw hl ha (0, 1) (.inl rfl) g3' _ _ _ W1).mono ?_)
    rintro r h3 n3 ⟨⟨k3, rfl, hk3⟩, W3, n23, f3⟩
    repeat (first | refine W.seq ?_ | refine W.ops ?_ | refine WL.off rfl rfl ?_ | refine WL.val rfl rfl rfl ?_ | refine WL.nil ?_ | refine W.block ?_ | refine W.outBlock ?_ | refine W.skip ?_ | refine W.exit rfl ?_ | refine WL.box rfl rfl rfl ?_ | refine W.opsD ?_)
    refine W.condS rfl (fun g5 => ?_) (fun g5 => ?_)
    · have := of_decide_eq_true g5
      dsimp only at this
      omega
    repeat (first | refine W.seq ?_ | refine W.ops ?_ | refine WL.off rfl rfl ?_ | refine WL.val rfl rfl rfl ?_ | refine WL.nil ?_ | refine W.block ?_ | refine W.outBlock ?_ | refine W.skip ?_ | refine W.exit rfl ?_ | refine WL.box rfl rfl rfl ?_ | refine W.opsD ?_ | refine W.condT rfl ?_ | refine W.condF rfl ?_ | refine WL.heap rfl rfl rfl ?_)
    have W4 : WH c ws (n3, 3) (h3.put (n3, 3) (.cells (wayC c ws 0))) (n3 + 2) := ⟨⟨0, Nat.zero_le _, by rw [Heap.get_put, if_pos rfl]⟩, (W3.fr.mono (by omega)).put (by dsimp only; omega) (Nat.le_refl _), by dsimp only; omega⟩
    refine WL.eff rfl rfl rfl ((walk_all sm m hw hl ha (1, id) (.inr (.inl rfl)) g4' _ _ _ W4).mono ?_)
    rintro r h5 n5 ⟨⟨k5, rfl, hk5⟩, W5, n45, f5⟩
    repeat (first | refine W.seq ?_ | refine W.ops ?_ | refine WL.off rfl rfl ?_ | refine WL.val rfl rfl rfl ?_ | refine WL.nil ?_ | refine W.block ?_ | refine W.outBlock ?_ | refine W.skip ?_ | refine W.exit rfl ?_ | refine WL.box rfl rfl rfl ?_ | refine W.opsD ?_ | refine W.condT rfl ?_ | refine W.condF rfl ?_)
    exact W.ret ⟨_, rfl, retB (decide_eq_true hk5)⟩
  · have hcy : cycB (solve c) = true := by simp [cycB, ha]
    have hb : ∀ x, bnd (solve c) x = (0, 10) := fun x => by simp [bnd, ha]
    rw [hb, hb]
    repeat (first | refine W.seq ?_ | refine W.ops ?_ | refine WL.off rfl rfl ?_ | refine WL.val rfl rfl rfl ?_ | refine WL.nil ?_ | refine W.block ?_ | refine W.outBlock ?_ | refine W.skip ?_ | refine W.exit rfl ?_ | refine WL.box rfl rfl rfl ?_ | refine W.opsD ?_ | refine W.condT rfl ?_ | refine W.condF rfl ?_)
    refine WL.view rfl rfl rfl (cyc_c c sm) rfl rfl ?_
    repeat (first | refine W.seq ?_ | refine W.ops ?_ | refine WL.off rfl rfl ?_ | refine WL.val rfl rfl rfl ?_ | refine WL.nil ?_ | refine W.block ?_ | refine W.outBlock ?_ | refine W.skip ?_ | refine W.exit rfl ?_ | refine WL.box rfl rfl rfl ?_ | refine W.opsD ?_ | refine W.condT rfl ?_ | refine W.condF rfl ?_)
    exact W.ret ⟨_, rfl, retB hcy⟩
end
end Go.AM.B

/- AM, part 32: a law's row, out of its contract. -/
namespace Go.AM
open Go.RowKit
noncomputable section
set_option linter.unusedVariables false
set_option linter.unusedSimpArgs false
variable {P : Program}

theorem pur_true {h : Heap} {r : AV} (hp : pur purLimit h r = some (.bool true)) : r = .bool true := by
  have key : ∀ k, pur (k + 1) h r = some (.bool true) → r = .bool true := by
    intro k hp
    cases r <;> simp only [pur] at hp <;> (repeat (split at hp)) <;> first | (simp only [Option.some.injEq, reduceCtorEq] at hp; done) | (cases hp; done) | (simp only [Option.some.injEq] at hp; exact hp) | skip
  exact key 39 hp
/-- What an abstract call says of the machine's: it returns true, and nothing that was there has turned. -/
theorem VC1.calls {l : List (Nat × VFun)} (hT : TabList P l) (hm : P.follows .mixedOrders = true) {f : FuncId} {args : List AV} (C : VC1 (tabOf l) f args (.bool true)) {W : World} {cargs : Array Value}
    (hr : RVs (fun b => b < W.heap.size) W ι0 args cargs) : Calls P f cargs W fun e w' => e = .returned (.bool true) ∧ Below W.heap.size W w' := by
  obtain ⟨r, h', n', ⟨k, hk⟩, hp⟩ := C
  have := pur_true hp
  subst this
  refine (calls_of hT hm k f args Heap.empty 0 _ h' n' (hk k (Nat.le_refl k)) (fun b => b < W.heap.size) ι0 W cargs (HSim.bare fun b hb => hb) Ids.bare hr).mono ?_
  rintro e w' ⟨_, c, F', ι', he, hrv, hs, hg, _⟩
  have := hrv.bool_inv
  subst this
  exact ⟨he, hg.kept.os, hg.kept.tape, hg.kept.output, hg.kept.size, fun b hb => hg.kept.same b hb (fun k => k.nothing)⟩
theorem trodAll_below {H : Type} {enc : TypeId × Value → H} (hl : laidOutB P = true) {W W' : World} (hb : Below W.heap.size W W') : ∀ {ts : List TypeId} {vs : List Value} {ds : List (DataW H)} {ps : List MemPlace},
    ts.all (fun t => P.readableRec t && decide (t < P.types.size)) = true → DataW.TrodAll enc P W 0 (fun _ => true) true ts vs ds ps → (∀ x ∈ ps, x.block < W.heap.size) → DataW.TrodAll enc P W' 0 (fun b => decide (b < W.heap.size)) true ts vs ds ps
  | [], [], [], _, _, h, _ => h
  | _ :: _, _ :: _, _ :: _, _, hr, ⟨p, q, h, hs, e⟩, hlt => by
    simp only [List.all_cons, Bool.and_eq_true, decide_eq_true_eq] at hr
    exact ⟨p, q, Below.trod hl hr.1.1 hr.1.2 h hb (fun x hx => hlt x (by rw [e]; simp [hx])), trodAll_below hl hb (by simpa using hr.2) hs (fun x hx => hlt x (by rw [e]; simp [hx])), e⟩
/-- A value whose cells are one. -/
theorem Rd.scalar {t : TypeId} {α : Type} {f : α → AV} {ok : α → Prop} (h : Rd P t (fun a => [f a]) ok) {W : World} {H : Type} {eh : TypeId × Value → H} {v : Value} {d : DataW H} {ps : List MemPlace}
    (ht : DataW.Trod eh P W 0 (fun _ => true) true t v d ps) (hwt : ∀ n ∈ d.weights P t, n ≤ reachBytes) (hv : v.cells.toList = [v]) : ∃ a, ok a ∧ RV (fun b => b < W.heap.size) W ι0 (f a) v := by
  obtain ⟨n, hn⟩ := ht
  rw [hv] at hn
  obtain ⟨a, h1, h2⟩ := h W H eh n _ _ hn hwt
  exact ⟨a, h1, h2.2 0 _ _ rfl rfl⟩
theorem Rd.agg {t : TypeId} {α : Type} {enc : α → List AV} {ok : α → Prop} (h : Rd P t enc ok) {W : World} {H : Type} {eh : TypeId × Value → H} {cs : Array Value} {d : DataW H} {ps : List MemPlace}
    (ht : DataW.Trod eh P W 0 (fun _ => true) true t (.agg cs) d ps) (hwt : ∀ n ∈ d.weights P t, n ≤ reachBytes) : ∃ a, ok a ∧ RV (fun b => b < W.heap.size) W ι0 (.agg (enc a)) (.agg cs) := by
  obtain ⟨n, hn⟩ := ht
  obtain ⟨a, h1, h2⟩ := h W H eh n _ _ hn hwt
  have h3 : RVl (fun b => b < W.heap.size) W (enc a) cs.toList := h2
  refine ⟨a, h1, .agg _ _ _ (by simpa using h3.1.symm) fun j u c hu hc => h3.2 j u c hu ?_⟩
  simpa using hc
theorem RVs.of {W : World} {l : List AV} {vs : List Value} (hl : vs.length = l.length) (h : ∀ (j : Nat) (u : AV) (c : Value), l[j]? = some u → vs[j]? = some c → RV (fun b => b < W.heap.size) W ι0 u c) : RVs (fun b => b < W.heap.size) W ι0 l vs.toArray :=
  ⟨by simpa using hl, fun j u c hu hc => h j u c hu (by simpa using hc)⟩
end
end Go.AM
