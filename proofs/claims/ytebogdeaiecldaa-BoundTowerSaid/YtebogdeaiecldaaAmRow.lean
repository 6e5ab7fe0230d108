/- AM, part 32: a law's row, out of its contract. -/
import Derived.Test.YtebogdeaiecldaaBxGraph
import Derived.ChangeSame
import Derived.JoinedOf
import Derived.JoinedAt
import Derived.JoinedStill
import Derived.RowKit
import Derived.ProofKit
namespace Go.AM
open Go.RowKit
noncomputable section
set_option linter.unusedVariables false
set_option linter.unusedSimpArgs false
variable {P : Program}

theorem pur_true {h : Heap} {r : AV} (hp : pur purLimit h r = some (.bool true)) : r = .bool true := by
  have key : ∀ k, pur (k + 1) h r = some (.bool true) → r = .bool true := by
    intro k hp
    cases r <;> simp only [pur] at hp <;> (repeat (split at hp)) <;> first | (simp only [Option.some.injEq, reduceCtorEq] at hp; done) | (cases hp; done) | (simp only [Option.some.injEq] at hp; exact hp) | skip
  exact key 39 hp
/-- What an abstract call says of the machine's: it returns true, and nothing that was there has turned. -/
theorem VC1.calls {l : List (Nat × VFun)} (hT : TabList P l) (hm : P.follows .mixedOrders = true) {f : FuncId} {args : List AV} (C : VC1 (tabOf l) f args (.bool true)) {W : World} {cargs : Array Value}
    (hr : RVs (fun b => b < W.heap.size) W ι0 args cargs) : Calls P f cargs W fun e w' => e = .returned (.bool true) ∧ Below W.heap.size W w' := by
  obtain ⟨r, h', n', ⟨k, hk⟩, hp⟩ := C
  have := pur_true hp
  subst this
  refine (calls_of hT hm k f args Heap.empty 0 _ h' n' (hk k (Nat.le_refl k)) (fun b => b < W.heap.size) ι0 W cargs (HSim.bare fun b hb => hb) Ids.bare hr).mono ?_
  rintro e w' ⟨_, c, F', ι', he, hrv, hs, hg, _⟩
  have := hrv.bool_inv
  subst this
  exact ⟨he, hg.kept.os, hg.kept.tape, hg.kept.output, hg.kept.size, fun b hb => hg.kept.same b hb (fun k => k.nothing)⟩
theorem trodAll_below {H : Type} {enc : TypeId × Value → H} (hl : laidOutB P = true) {W W' : World} (hb : Below W.heap.size W W') : ∀ {ts : List TypeId} {vs : List Value} {ds : List (DataW H)} {ps : List MemPlace},
    ts.all (fun t => P.readableRec t && decide (t < P.types.size)) = true → DataW.TrodAll enc P W 0 (fun _ => true) true ts vs ds ps → (∀ x ∈ ps, x.block < W.heap.size) → DataW.TrodAll enc P W' 0 (fun b => decide (b < W.heap.size)) true ts vs ds ps
  | [], [], [], _, _, h, _ => h
  | _ :: _, _ :: _, _ :: _, _, hr, ⟨p, q, h, hs, e⟩, hlt => by
    simp only [List.all_cons, Bool.and_eq_true, decide_eq_true_eq] at hr
    exact ⟨p, q, Below.trod hl hr.1.1 hr.1.2 h hb (fun x hx => hlt x (by rw [e]; simp [hx])), trodAll_below hl hb (by simpa using hr.2) hs (fun x hx => hlt x (by rw [e]; simp [hx])), e⟩
/-- A value whose cells are one. -/
theorem Rd.scalar {t : TypeId} {α : Type} {f : α → AV} {ok : α → Prop} (h : Rd P t (fun a => [f a]) ok) {W : World} {H : Type} {eh : TypeId × Value → H} {v : Value} {d : DataW H} {ps : List MemPlace}
    (ht : DataW.Trod eh P W 0 (fun _ => true) true t v d ps) (hwt : ∀ n ∈ d.weights P t, n ≤ reachBytes) (hv : v.cells.toList = [v]) : ∃ a, ok a ∧ RV (fun b => b < W.heap.size) W ι0 (f a) v := by
  obtain ⟨n, hn⟩ := ht
  rw [hv] at hn
  obtain ⟨a, h1, h2⟩ := h W H eh n _ _ hn hwt
  exact ⟨a, h1, h2.2 0 _ _ rfl rfl⟩
theorem Rd.agg {t : TypeId} {α : Type} {enc : α → List AV} {ok : α → Prop} (h : Rd P t enc ok) {W : World} {H : Type} {eh : TypeId × Value → H} {cs : Array Value} {d : DataW H} {ps : List MemPlace}
    (ht : DataW.Trod eh P W 0 (fun _ => true) true t (.agg cs) d ps) (hwt : ∀ n ∈ d.weights P t, n ≤ reachBytes) : ∃ a, ok a ∧ RV (fun b => b < W.heap.size) W ι0 (.agg (enc a)) (.agg cs) := by
  obtain ⟨n, hn⟩ := ht
  obtain ⟨a, h1, h2⟩ := h W H eh n _ _ hn hwt
  have h3 : RVl (fun b => b < W.heap.size) W (enc a) cs.toList := h2
  refine ⟨a, h1, .agg _ _ _ (by simpa using h3.1.symm) fun j u c hu hc => h3.2 j u c hu ?_⟩
  simpa using hc
theorem RVs.of {W : World} {l : List AV} {vs : List Value} (hl : vs.length = l.length) (h : ∀ (j : Nat) (u : AV) (c : Value), l[j]? = some u → vs[j]? = some c → RV (fun b => b < W.heap.size) W ι0 u c) : RVs (fun b => b < W.heap.size) W ι0 l vs.toArray :=
  ⟨by simpa using hl, fun j u c hu hc => h j u c hu (by simpa using hc)⟩
end
end Go.AM
