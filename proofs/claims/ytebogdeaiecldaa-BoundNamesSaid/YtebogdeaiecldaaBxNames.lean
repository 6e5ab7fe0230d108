/- Parts of the proof: B.Names, AM.Row. -/
import Derived.Test.YtebogdeaiecldaaAmFast
import Derived.ChangeSame
import Derived.JoinedOf
import Derived.JoinedAt
import Derived.JoinedStill
import Derived.RowKit
import Derived.ProofKit
/- The law BoundNames. -/
namespace Go.AM.B
open Go.Proofs.Ytebogdeaiecldaa.Tab
noncomputable section
set_option linter.unusedVariables false
set_option linter.unusedSimpArgs false
set_option maxHeartbeats 4000000

theorem E0_small : Small E0 := ⟨by decide, fun x hx => (by cases hx), by decide, by decide, by decide, by decide, fun x hx => (by cases hx), fun x hx => (by cases hx)⟩
theorem C1_arms : ∀ x ∈ C1.nodes.l, x.arms.l.length < 100000 := by
  intro x hx
  have : x ∈ l3 := hx
  simp only [l3, List.mem_cons, List.not_mem_nil, or_false] at this
  rcases this with rfl | rfl | rfl <;> simp [nd, s0]
theorem C3_code : ∀ x ∈ C3.blocks.l, x.code.l.length < 100000 := by
  intro x hx
  simp only [C3, List.mem_cons, List.not_mem_nil, or_false] at hx
  rcases hx with rfl | rfl | rfl <;> simp
theorem C1_small : Small C1 := ⟨by decide, C1_arms, by decide, by decide, by decide, by decide, fun x hx => (by cases hx), fun x hx => (by cases hx)⟩
theorem C2_small : Small C2 := ⟨by decide, fun x hx => (by cases hx), by decide, by decide, by decide, by decide, fun x hx => (by cases hx), fun x hx => (by cases hx)⟩
theorem C3_small : Small C3 := ⟨by decide, fun x hx => (by cases hx), by decide, by decide, by decide, by decide, C3_code, fun x hx => (by cases hx)⟩
theorem tower_of (w d l : Nat) (hw : w < 10000) (hd : d < 10000) (hl : l < 10000) (z : Int) (hz : min 65537 (1 + want w l d) = z) : ∃ C : Config, VC1 T 24 [.int .i64 w, .int .i64 d, .int .i64 l] (.agg C.enc) ∧ VC1 T 12 [.agg C.enc] (pairAV (z, 0)) := by
  obtain ⟨C, hC, h24⟩ := tower_c w d l hw hd hl
  have hofc := ofc_c C (hC.small hw hd hl)
  rw [hC.of (by omega), hz] at hofc
  exact ⟨C, h24, hofc⟩
theorem names_c : VC1 T 4 [] (.bool true) := by
  have l3 := awake_c
  have h0 := ofc_c E0 E0_small
  have h1 := ofc_c C1 C1_small
  have h2 := ofc_c C2 C2_small
  have h3 := ofc_c C3 C3_small
  rw [E0_of] at h0
  rw [C1_of] at h1
  rw [C2_of] at h2
  rw [C3_of] at h3
  obtain ⟨T1, t1, u1⟩ := tower_of 2 2 3 (by decide) (by decide) (by decide) 16 rfl
  obtain ⟨T2, t2, u2⟩ := tower_of 16 8 5 (by decide) (by decide) (by decide) 65537 rfl
  obtain ⟨T3, t3, u3⟩ := tower_of 2 15 0 (by decide) (by decide) (by decide) 32768 rfl
  obtain ⟨T4, t4, u4⟩ := tower_of 256 1 255 (by decide) (by decide) (by decide) 65282 rfl
  obtain ⟨T5, t5, u5⟩ := tower_of 256 1 256 (by decide) (by decide) (by decide) 65537 rfl
  refine VC1.of (vf := v4) rfl rfl ?_
  unfold v4
  repeat (first | refine W.seq ?_ | refine W.ops ?_ | refine WL.off rfl rfl ?_ | refine WL.val rfl rfl rfl ?_ | refine WL.nil ?_ | refine W.block ?_ | refine W.outBlock ?_ | refine W.skip ?_ | refine W.exit rfl ?_ | refine WL.box rfl rfl rfl ?_ | refine W.opsD ?_ | refine W.condT rfl ?_ | refine W.condF rfl ?_)
  refine WL.view rfl rfl rfl l3 rfl rfl ?_
  repeat (first | refine W.seq ?_ | refine W.ops ?_ | refine WL.off rfl rfl ?_ | refine WL.val rfl rfl rfl ?_ | refine WL.nil ?_ | refine W.block ?_ | refine W.outBlock ?_ | refine W.skip ?_ | refine W.exit rfl ?_ | refine WL.box rfl rfl rfl ?_ | refine W.opsD ?_ | refine W.condT rfl ?_ | refine W.condF rfl ?_)
  refine WL.view rfl rfl rfl h0 rfl rfl ?_
  repeat (first | refine W.seq ?_ | refine W.ops ?_ | refine WL.off rfl rfl ?_ | refine WL.val rfl rfl rfl ?_ | refine WL.nil ?_ | refine W.block ?_ | refine W.outBlock ?_ | refine W.skip ?_ | refine W.exit rfl ?_ | refine WL.box rfl rfl rfl ?_ | refine W.opsD ?_ | refine W.condT rfl ?_ | refine W.condF rfl ?_ | refine WL.heap rfl rfl rfl ?_)
  refine WL.view rfl rfl rfl h1 rfl rfl ?_
  repeat (first | refine W.seq ?_ | refine W.ops ?_ | refine WL.off rfl rfl ?_ | refine WL.val rfl rfl rfl ?_ | refine WL.nil ?_ | refine W.block ?_ | refine W.outBlock ?_ | refine W.skip ?_ | refine W.exit rfl ?_ | refine WL.box rfl rfl rfl ?_ | refine W.opsD ?_ | refine W.condT rfl ?_ | refine W.condF rfl ?_ | refine WL.heap rfl rfl rfl ?_)
  refine WL.view rfl rfl rfl h2 rfl rfl ?_
  repeat (first | refine W.seq ?_ | refine W.ops ?_ | refine WL.off rfl rfl ?_ | refine WL.val rfl rfl rfl ?_ | refine WL.nil ?_ | refine W.block ?_ | refine W.outBlock ?_ | refine W.skip ?_ | refine W.exit rfl ?_ | refine WL.box rfl rfl rfl ?_ | refine W.opsD ?_ | refine W.condT rfl ?_ | refine W.condF rfl ?_ | refine WL.heap rfl rfl rfl ?_)
  refine WL.vfresh rfl rfl rfl (codes_c [23, 20, 20] true 1 (by decide) (by decide)) rfl rfl ?_
  repeat (first | refine W.seq ?_ | refine W.ops ?_ | refine WL.off rfl rfl ?_ | refine WL.val rfl rfl rfl ?_ | refine WL.nil ?_ | refine W.block ?_ | refine W.outBlock ?_ | refine W.skip ?_ | refine W.exit rfl ?_ | refine WL.box rfl rfl rfl ?_ | refine W.opsD ?_ | refine W.condT rfl ?_ | refine W.condF rfl ?_ | refine WL.heap rfl rfl rfl ?_)
  refine WL.vfresh rfl rfl rfl (codes_c [12, 23, 20, 22, 20] true 1 (by decide) (by decide)) rfl rfl ?_
  repeat (first | refine W.seq ?_ | refine W.ops ?_ | refine WL.off rfl rfl ?_ | refine WL.val rfl rfl rfl ?_ | refine WL.nil ?_ | refine W.block ?_ | refine W.outBlock ?_ | refine W.skip ?_ | refine W.exit rfl ?_ | refine WL.box rfl rfl rfl ?_ | refine W.opsD ?_ | refine W.condT rfl ?_ | refine W.condF rfl ?_ | refine WL.heap rfl rfl rfl ?_)
  refine WL.view rfl rfl rfl h3 rfl rfl ?_
  repeat (first | refine W.seq ?_ | refine W.ops ?_ | refine WL.off rfl rfl ?_ | refine WL.val rfl rfl rfl ?_ | refine WL.nil ?_ | refine W.block ?_ | refine W.outBlock ?_ | refine W.skip ?_ | refine W.exit rfl ?_ | refine WL.box rfl rfl rfl ?_ | refine W.opsD ?_ | refine W.condT rfl ?_ | refine W.condF rfl ?_)
  refine WL.view rfl rfl rfl (is_c _ _ _) rfl rfl ?_
  repeat (first | refine W.seq ?_ | refine W.ops ?_ | refine WL.off rfl rfl ?_ | refine WL.val rfl rfl rfl ?_ | refine WL.nil ?_ | refine W.block ?_ | refine W.outBlock ?_ | refine W.skip ?_ | refine W.exit rfl ?_ | refine WL.box rfl rfl rfl ?_ | refine W.opsD ?_ | refine W.condT rfl ?_ | refine W.condF rfl ?_)
  refine WL.view rfl rfl rfl (is_c _ _ _) rfl rfl ?_
  repeat (first | refine W.seq ?_ | refine W.ops ?_ | refine WL.off rfl rfl ?_ | refine WL.val rfl rfl rfl ?_ | refine WL.nil ?_ | refine W.block ?_ | refine W.outBlock ?_ | refine W.skip ?_ | refine W.exit rfl ?_ | refine WL.box rfl rfl rfl ?_ | refine W.opsD ?_ | refine W.condT rfl ?_ | refine W.condF rfl ?_)
  refine WL.view rfl rfl rfl (is_c _ _ _) rfl rfl ?_
  repeat (first | refine W.seq ?_ | refine W.ops ?_ | refine WL.off rfl rfl ?_ | refine WL.val rfl rfl rfl ?_ | refine WL.nil ?_ | refine W.block ?_ | refine W.outBlock ?_ | refine W.skip ?_ | refine W.exit rfl ?_ | refine WL.box rfl rfl rfl ?_ | refine W.opsD ?_ | refine W.condT rfl ?_ | refine W.condF rfl ?_)
  refine WL.view rfl rfl rfl (is_c _ _ _) rfl rfl ?_
  repeat (first | refine W.seq ?_ | refine W.ops ?_ | refine WL.off rfl rfl ?_ | refine WL.val rfl rfl rfl ?_ | refine WL.nil ?_ | refine W.block ?_ | refine W.outBlock ?_ | refine W.skip ?_ | refine W.exit rfl ?_ | refine WL.box rfl rfl rfl ?_ | refine W.opsD ?_ | refine W.condT rfl ?_ | refine W.condF rfl ?_)
  refine WL.pure rfl rfl rfl t1 rfl ?_
  refine WL.view rfl rfl rfl u1 rfl rfl ?_
  repeat (first | refine W.seq ?_ | refine W.ops ?_ | refine WL.off rfl rfl ?_ | refine WL.val rfl rfl rfl ?_ | refine WL.nil ?_ | refine W.block ?_ | refine W.outBlock ?_ | refine W.skip ?_ | refine W.exit rfl ?_ | refine WL.box rfl rfl rfl ?_ | refine W.opsD ?_ | refine W.condT rfl ?_ | refine W.condF rfl ?_)
  refine WL.pure rfl rfl rfl t2 rfl ?_
  refine WL.view rfl rfl rfl u2 rfl rfl ?_
  repeat (first | refine W.seq ?_ | refine W.ops ?_ | refine WL.off rfl rfl ?_ | refine WL.val rfl rfl rfl ?_ | refine WL.nil ?_ | refine W.block ?_ | refine W.outBlock ?_ | refine W.skip ?_ | refine W.exit rfl ?_ | refine WL.box rfl rfl rfl ?_ | refine W.opsD ?_ | refine W.condT rfl ?_ | refine W.condF rfl ?_)
  refine WL.pure rfl rfl rfl t3 rfl ?_
  refine WL.view rfl rfl rfl u3 rfl rfl ?_
  repeat (first | refine W.seq ?_ | refine W.ops ?_ | refine WL.off rfl rfl ?_ | refine WL.val rfl rfl rfl ?_ | refine WL.nil ?_ | refine W.block ?_ | refine W.outBlock ?_ | refine W.skip ?_ | refine W.exit rfl ?_ | refine WL.box rfl rfl rfl ?_ | refine W.opsD ?_ | refine W.condT rfl ?_ | refine W.condF rfl ?_)
  refine WL.pure rfl rfl rfl t4 rfl ?_
  refine WL.view rfl rfl rfl u4 rfl rfl ?_
  repeat (first | refine W.seq ?_ | refine W.ops ?_ | refine WL.off rfl rfl ?_ | refine WL.val rfl rfl rfl ?_ | refine WL.nil ?_ | refine W.block ?_ | refine W.outBlock ?_ | refine W.skip ?_ | refine W.exit rfl ?_ | refine WL.box rfl rfl rfl ?_ | refine W.opsD ?_ | refine W.condT rfl ?_ | refine W.condF rfl ?_)
  refine WL.pure rfl rfl rfl t5 rfl ?_
  refine WL.view rfl rfl rfl u5 rfl rfl ?_
  repeat (first | refine W.seq ?_ | refine W.ops ?_ | refine WL.off rfl rfl ?_ | refine WL.val rfl rfl rfl ?_ | refine WL.nil ?_ | refine W.block ?_ | refine W.outBlock ?_ | refine W.skip ?_ | refine W.exit rfl ?_ | refine WL.box rfl rfl rfl ?_ | refine W.opsD ?_ | refine W.condT rfl ?_ | refine W.condF rfl ?_)
  refine WL.view rfl rfl rfl (is_c _ _ _) rfl rfl ?_
  repeat (first | refine W.seq ?_ | refine W.ops ?_ | refine WL.off rfl rfl ?_ | refine WL.val rfl rfl rfl ?_ | refine WL.nil ?_ | refine W.block ?_ | refine W.outBlock ?_ | refine W.skip ?_ | refine W.exit rfl ?_ | refine WL.box rfl rfl rfl ?_ | refine W.opsD ?_ | refine W.condT rfl ?_ | refine W.condF rfl ?_)
  refine WL.view rfl rfl rfl (is_c _ _ _) rfl rfl ?_
  repeat (first | refine W.seq ?_ | refine W.ops ?_ | refine WL.off rfl rfl ?_ | refine WL.val rfl rfl rfl ?_ | refine WL.nil ?_ | refine W.block ?_ | refine W.outBlock ?_ | refine W.skip ?_ | refine W.exit rfl ?_ | refine WL.box rfl rfl rfl ?_ | refine W.opsD ?_ | refine W.condT rfl ?_ | refine W.condF rfl ?_)
  refine WL.view rfl rfl rfl (is_c _ _ _) rfl rfl ?_
  repeat (first | refine W.seq ?_ | refine W.ops ?_ | refine WL.off rfl rfl ?_ | refine WL.val rfl rfl rfl ?_ | refine WL.nil ?_ | refine W.block ?_ | refine W.outBlock ?_ | refine W.skip ?_ | refine W.exit rfl ?_ | refine WL.box rfl rfl rfl ?_ | refine W.opsD ?_ | refine W.condT rfl ?_ | refine W.condF rfl ?_)
  refine WL.view rfl rfl rfl (is_c _ _ _) rfl rfl ?_
  repeat (first | refine W.seq ?_ | refine W.ops ?_ | refine WL.off rfl rfl ?_ | refine WL.val rfl rfl rfl ?_ | refine WL.nil ?_ | refine W.block ?_ | refine W.outBlock ?_ | refine W.skip ?_ | refine W.exit rfl ?_ | refine WL.box rfl rfl rfl ?_ | refine W.opsD ?_ | refine W.condT rfl ?_ | refine W.condF rfl ?_)
  refine WL.view rfl rfl rfl (is_c _ _ _) rfl rfl ?_
  repeat (first | refine W.seq ?_ | refine W.ops ?_ | refine WL.off rfl rfl ?_ | refine WL.val rfl rfl rfl ?_ | refine WL.nil ?_ | refine W.block ?_ | refine W.outBlock ?_ | refine W.skip ?_ | refine W.exit rfl ?_ | refine WL.box rfl rfl rfl ?_ | refine W.opsD ?_ | refine W.condT rfl ?_ | refine W.condF rfl ?_)
  exact W.ret ⟨_, rfl, rfl⟩
end
end Go.AM.B

/- AM, part 32: a law's row, out of its contract. -/
namespace Go.AM
open Go.RowKit
noncomputable section
set_option linter.unusedVariables false
set_option linter.unusedSimpArgs false
variable {P : Program}

theorem pur_true {h : Heap} {r : AV} (hp : pur purLimit h r = some (.bool true)) : r = .bool true := by
  have key : ∀ k, pur (k + 1) h r = some (.bool true) → r = .bool true := by
    intro k hp
    cases r <;> simp only [pur] at hp <;> (repeat (split at hp)) <;> first | (simp only [Option.some.injEq, reduceCtorEq] at hp; done) | (cases hp; done) | (simp only [Option.some.injEq] at hp; exact hp) | skip
  exact key 39 hp
/-- What an abstract call says of the machine's: it returns true, and nothing that was there has turned. -/
theorem VC1.calls {l : List (Nat × VFun)} (hT : TabList P l) (hm : P.follows .mixedOrders = true) {f : FuncId} {args : List AV} (C : VC1 (tabOf l) f args (.bool true)) {W : World} {cargs : Array Value}
    (hr : RVs (fun b => b < W.heap.size) W ι0 args cargs) : Calls P f cargs W fun e w' => e = .returned (.bool true) ∧ Below W.heap.size W w' := by
  obtain ⟨r, h', n', ⟨k, hk⟩, hp⟩ := C
  have := pur_true hp
  subst this
  refine (calls_of hT hm k f args Heap.empty 0 _ h' n' (hk k (Nat.le_refl k)) (fun b => b < W.heap.size) ι0 W cargs (HSim.bare fun b hb => hb) Ids.bare hr).mono ?_
  rintro e w' ⟨_, c, F', ι', he, hrv, hs, hg, _⟩
  have := hrv.bool_inv
  subst this
  exact ⟨he, hg.kept.os, hg.kept.tape, hg.kept.output, hg.kept.size, fun b hb => hg.kept.same b hb (fun k => k.nothing)⟩
theorem trodAll_below {H : Type} {enc : TypeId × Value → H} (hl : laidOutB P = true) {W W' : World} (hb : Below W.heap.size W W') : ∀ {ts : List TypeId} {vs : List Value} {ds : List (DataW H)} {ps : List MemPlace},
    ts.all (fun t => P.readableRec t && decide (t < P.types.size)) = true → DataW.TrodAll enc P W 0 (fun _ => true) true ts vs ds ps → (∀ x ∈ ps, x.block < W.heap.size) → DataW.TrodAll enc P W' 0 (fun b => decide (b < W.heap.size)) true ts vs ds ps
  | [], [], [], _, _, h, _ => h
  | _ :: _, _ :: _, _ :: _, _, hr, ⟨p, q, h, hs, e⟩, hlt => by
    simp only [List.all_cons, Bool.and_eq_true, decide_eq_true_eq] at hr
    exact ⟨p, q, Below.trod hl hr.1.1 hr.1.2 h hb (fun x hx => hlt x (by rw [e]; simp [hx])), trodAll_below hl hb (by simpa using hr.2) hs (fun x hx => hlt x (by rw [e]; simp [hx])), e⟩
/-- A value whose cells are one. -/
theorem Rd.scalar {t : TypeId} {α : Type} {f : α → AV} {ok : α → Prop} (h : Rd P t (fun a => [f a]) ok) {W : World} {H : Type} {eh : TypeId × Value → H} {v : Value} {d : DataW H} {ps : List MemPlace}
    (ht : DataW.Trod eh P W 0 (fun _ => true) true t v d ps) (hwt : ∀ n ∈ d.weights P t, n ≤ reachBytes) (hv : v.cells.toList = [v]) : ∃ a, ok a ∧ RV (fun b => b < W.heap.size) W ι0 (f a) v := by
  obtain ⟨n, hn⟩ := ht
  rw [hv] at hn
  obtain ⟨a, h1, h2⟩ := h W H eh n _ _ hn hwt
  exact ⟨a, h1, h2.2 0 _ _ rfl rfl⟩
theorem Rd.agg {t : TypeId} {α : Type} {enc : α → List AV} {ok : α → Prop} (h : Rd P t enc ok) {W : World} {H : Type} {eh : TypeId × Value → H} {cs : Array Value} {d : DataW H} {ps : List MemPlace}
    (ht : DataW.Trod eh P W 0 (fun _ => true) true t (.agg cs) d ps) (hwt : ∀ n ∈ d.weights P t, n ≤ reachBytes) : ∃ a, ok a ∧ RV (fun b => b < W.heap.size) W ι0 (.agg (enc a)) (.agg cs) := by
  obtain ⟨n, hn⟩ := ht
  obtain ⟨a, h1, h2⟩ := h W H eh n _ _ hn hwt
  have h3 : RVl (fun b => b < W.heap.size) W (enc a) cs.toList := h2
  refine ⟨a, h1, .agg _ _ _ (by simpa using h3.1.symm) fun j u c hu hc => h3.2 j u c hu ?_⟩
  simpa using hc
theorem RVs.of {W : World} {l : List AV} {vs : List Value} (hl : vs.length = l.length) (h : ∀ (j : Nat) (u : AV) (c : Value), l[j]? = some u → vs[j]? = some c → RV (fun b => b < W.heap.size) W ι0 u c) : RVs (fun b => b < W.heap.size) W ι0 l vs.toArray :=
  ⟨by simpa using hl, fun j u c hu hc => h j u c hu (by simpa using hc)⟩
end
end Go.AM
