/- The law BoundWays, for every input. -/
import Derived.Test.YtebogdeaiecldaaBxWays
import Derived.Test.YtebogdeaiecldaaRows
import Derived.HandedShaped
namespace Go.Proofs.Ytebogdeaiecldaa
open Go.ChangeShapes Go.WideShapes Go.ChangeAt Go.RowKit Go.AM Go.AM.B
noncomputable section
set_option linter.unusedVariables false
set_option linter.unusedSimpArgs false

theorem own : ownKnob Go.Proofs.Try.prog.godebug = none := by kernel_rfl
theorem laid : laidOutB Go.Proofs.Try.prog = true := by kernel_rfl

set_option maxRecDepth 100000 in
theorem boundWays_lifted (os : Os) (started : os.Started) (H : Type) (enc : TypeId × Value → H) :
    ReturnsInHanded {} Go.Proofs.Try.checked os 5 .any (Rows.boundWaysSpec.pre6 enc Go.Proofs.Try.prog Go.Proofs.Try.f5 Rows.boundWaysRow.domain false) (Rows.boundWaysSpec.post enc Go.Proofs.Try.prog Go.Proofs.Try.f5 false true false false) := by
  refine returnsInHanded_of_change_shaped (C := Go.Proofs.Try.checked) own started (by kernel_rfl) Go.Proofs.Try.func5
    (ChangeSpec.witness6 (enc := enc) (C := Go.Proofs.Try.checked) false ⟨#[], #[.agg #[.slice none 0 0, .slice none 0 0, .slice none 0 0, .slice none 0 0, .slice none 0 0, .slice none 0 0, .slice none 0 0, .slice none 0 0, .slice none 0 0], .slice none 0 0, .int .i64 0], []⟩ 8 (by kernel_rfl) (by kernel_rfl) (by kernel_rfl) (by kernel_rfl)) ?_
  intro W base args ds gs before hval0 hW _ hwt0 _ _
  have hval : ∀ (j : Nat) t v, Go.Proofs.Try.f5.params[j]? = some t → args[j]? = some v → Value.okWide Go.Proofs.Try.prog W .any base t v := hval0
  have hW' := hW
  obtain ⟨p, q, hA0, hV, rfl, hlt0, _⟩ := hW
  have hA : DataW.TrodAll enc Go.Proofs.Try.prog W 0 (fun _ => true) true Go.Proofs.Try.f5.params.toList args.toList ds p := hA0
  rw [Go.Proofs.Try.params5] at hA hval
  obtain ⟨rfl, rfl⟩ := trodVars_none hV
  simp only [List.append_nil] at hW'
  obtain ⟨v0, v1, v2, d0, d1, d2, p0, p1, p2, rfl, rfl, rfl, h0, h1, h2⟩ := trodAll_three hA
  have hwt : (DataW.weightsEach Go.Proofs.Try.prog ([32, 55, 3] : List TypeId) [d0, d1, d2]).all (· ≤ reachBytes) = true := hwt0
  simp only [DataW.weightsEach, List.all_append, List.all_nil, Bool.and_true, Bool.and_eq_true, List.all_eq_true, decide_eq_true_eq] at hwt
  obtain ⟨w0, w1, w2⟩ := hwt
  obtain ⟨c0, rfl, _⟩ := okWide_struct Go.Proofs.Try.underlying32 (hval 0 32 _ rfl rfl)
  have s1 : v1.cells.toList = [v1] := by
    obtain ⟨x, y, z, e⟩ := okWide_slice Go.Proofs.Try.underlying55 (hval 1 55 v1 rfl rfl)
    rw [e]; rfl
  obtain ⟨n2, rfl, _, _, _⟩ := open_int Go.Proofs.Try.underlying3 (hval 2 3 _ rfl rfl) h2
  obtain ⟨a0, k0, r0⟩ := Rd.agg rd_Config h0 w0
  obtain ⟨a1, k1, r1⟩ := Rd.scalar rd_s_uint8 h1 w1 s1
  obtain ⟨a2, k2, r2⟩ := Rd.scalar rd_int h2 w2 rfl
  have hlt : ∀ x ∈ p0 ++ p1 ++ p2, x.block < W.heap.size := fun x hx => hW'.lt x hx
  refine (VC1.calls Go.Proofs.Ytebogdeaiecldaa.Tab.vfs_ok Go.Proofs.Ytebogdeaiecldaa.Tab.follows (ways_c a0 a1 a2 k0 k1) (RVs.of (l := [.agg a0.enc, a1.av 1 encU8, .int .i64 a2]) (vs := [.agg c0, v1, _]) rfl ?_)).mono fun e W' ⟨he, hb⟩ => ?_
  · intro j u c hu hc
    match j, hu, hc with
    | 0, hu, hc => cases hu; cases hc; exact r0
    | 1, hu, hc => cases hu; cases hc; exact r1
    | 2, hu, hc => cases hu; cases hc; exact r2
  subst he
  exact ⟨_, rfl, ⟨_, _, _, [], _, [], hW', trodAll_mk1 (shut_bool Go.Proofs.Try.underlying4 _), trodAll_below laid hb (by kernel_rfl) hA hlt, rfl, hb.frame _, fun h => by cases h⟩⟩

theorem boundWays : Rows.BoundWaysSaid :=
  OpenClaim.holds_of_wide 5 Go.Proofs.Try.f5 rfl rfl rfl rfl rfl rfl rfl ⟨rfl, rfl, rfl, rfl, rfl⟩ rfl rfl rfl rfl rfl (by kernel_rfl) Go.Proofs.Try.func5 (by kernel_rfl)
    (of_decide_eq_true (by kernel_rfl)) (by unfold Func.isWrapper; rw [if_neg (by decide +kernel)]; exact ⟨rfl, rfl⟩)
    (fun os started H enc _ => boundWays_lifted os started H enc)
#print axioms boundWays
end
end Go.Proofs.Ytebogdeaiecldaa
