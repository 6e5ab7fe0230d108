/- Parts of the proof: B.Graph, B.Walk, B.GraphP, B.Longest, B.Of, AM.Arg. -/
import Derived.Test.YtebogdeaiecldaaBxLeads
import Derived.Test.YtebogdeaiecldaaBxSolve
import Derived.Carry
/- Package graph: its functions. -/
namespace Go.AM.B
open Go.Proofs.Ytebogdeaiecldaa.Tab
noncomputable section
set_option linter.unusedVariables false
set_option linter.unusedSimpArgs false
set_option maxHeartbeats 4000000

def toB (id : Int) : Bool := decide (0 ≤ id) && decide (id ≤ 65535)
theorem to_c (id : Int) : VC1 T 62 [.int .i64 id] (.bool (toB id)) := by
  refine VC1.of (vf := v62) rfl rfl ?_
  unfold v62
  repeat (first | refine W.seq ?_ | refine W.ops ?_ | refine WL.off rfl rfl ?_ | refine WL.val rfl rfl rfl ?_ | refine WL.nil ?_ | refine W.block ?_ | refine W.outBlock ?_ | refine W.skip ?_ | refine W.exit rfl ?_ | refine WL.box rfl rfl rfl ?_ | refine W.opsD ?_ | refine W.condT rfl ?_ | refine W.condF rfl ?_)
  refine WL.splitG rfl (fun h1 => ?_) (fun h1 => ?_)
  · repeat (first | refine W.seq ?_ | refine W.ops ?_ | refine WL.off rfl rfl ?_ | refine WL.val rfl rfl rfl ?_ | refine WL.nil ?_ | refine W.block ?_ | refine W.outBlock ?_ | refine W.skip ?_ | refine W.exit rfl ?_ | refine WL.box rfl rfl rfl ?_ | refine W.opsD ?_ | refine W.condT rfl ?_ | refine W.condF rfl ?_)
    refine W.ret ⟨_, rfl, retB ?_⟩
    rw [Bool.eq_iff_iff]
    simp [toB] at * <;> omega
  · repeat (first | refine W.seq ?_ | refine W.ops ?_ | refine WL.off rfl rfl ?_ | refine WL.val rfl rfl rfl ?_ | refine WL.nil ?_ | refine W.block ?_ | refine W.outBlock ?_ | refine W.skip ?_ | refine W.exit rfl ?_ | refine WL.box rfl rfl rfl ?_ | refine W.opsD ?_ | refine W.condT rfl ?_ | refine W.condF rfl ?_)
    refine W.ret ⟨_, rfl, retB ?_⟩
    rw [Bool.eq_iff_iff]
    simp [toB] at * <;> omega
def mayB (off width most : Int) : Bool := if width = 0 then decide (off = 0) else decide (0 < width) && decide (width ≤ most) && decide (0 ≤ off) && decide (off ≤ 2048)
theorem may_c (off width most : Int) : VC1 T 63 [.agg [.int .i64 off, .int .i64 width, .int .i64 most]] (.bool (mayB off width most)) := by
  refine VC1.of (vf := v63) rfl rfl ?_
  unfold v63
  repeat (first | refine W.seq ?_ | refine W.ops ?_ | refine WL.off rfl rfl ?_ | refine WL.val rfl rfl rfl ?_ | refine WL.nil ?_ | refine W.block ?_ | refine W.outBlock ?_ | refine W.skip ?_ | refine W.exit rfl ?_ | refine WL.box rfl rfl rfl ?_ | refine W.opsD ?_ | refine W.condT rfl ?_ | refine W.condF rfl ?_)
  refine W.condS rfl (fun h0 => ?_) (fun h0 => ?_)
  · have e : width = 0 := by simpa using h0
    subst e
    repeat (first | refine W.seq ?_ | refine W.ops ?_ | refine WL.off rfl rfl ?_ | refine WL.val rfl rfl rfl ?_ | refine WL.nil ?_ | refine W.block ?_ | refine W.outBlock ?_ | refine W.skip ?_ | refine W.exit rfl ?_ | refine WL.box rfl rfl rfl ?_ | refine W.opsD ?_ | refine W.condT rfl ?_ | refine W.condF rfl ?_)
    exact W.ret ⟨_, rfl, retB (by simp [mayB]; rfl)⟩
  have e : mayB off width most = (decide (0 < width) && decide (width ≤ most) && decide (0 ≤ off) && decide (off ≤ 2048)) := by
    have : width ≠ 0 := by simpa using h0
    simp [mayB, this]
  rw [e]
  clear e h0
  repeat (first | refine W.seq ?_ | refine W.ops ?_ | refine WL.off rfl rfl ?_ | refine WL.val rfl rfl rfl ?_ | refine WL.nil ?_ | refine W.block ?_ | refine W.outBlock ?_ | refine W.skip ?_ | refine W.exit rfl ?_ | refine WL.box rfl rfl rfl ?_ | refine W.opsD ?_ | refine W.condT rfl ?_ | refine W.condF rfl ?_)
  refine WL.splitG rfl (fun h1 => ?_) (fun h1 => ?_)
  · repeat (first | refine W.seq ?_ | refine W.ops ?_ | refine WL.off rfl rfl ?_ | refine WL.val rfl rfl rfl ?_ | refine WL.nil ?_ | refine W.block ?_ | refine W.outBlock ?_ | refine W.skip ?_ | refine W.exit rfl ?_ | refine WL.box rfl rfl rfl ?_ | refine W.opsD ?_ | refine W.condT rfl ?_ | refine W.condF rfl ?_)
    refine WL.splitG rfl (fun h2 => ?_) (fun h2 => ?_)
    · repeat (first | refine W.seq ?_ | refine W.ops ?_ | refine WL.off rfl rfl ?_ | refine WL.val rfl rfl rfl ?_ | refine WL.nil ?_ | refine W.block ?_ | refine W.outBlock ?_ | refine W.skip ?_ | refine W.exit rfl ?_ | refine WL.box rfl rfl rfl ?_ | refine W.opsD ?_ | refine W.condT rfl ?_ | refine W.condF rfl ?_)
      refine WL.splitG rfl (fun h3 => ?_) (fun h3 => ?_)
      · repeat (first | refine W.seq ?_ | refine W.ops ?_ | refine WL.off rfl rfl ?_ | refine WL.val rfl rfl rfl ?_ | refine WL.nil ?_ | refine W.block ?_ | refine W.outBlock ?_ | refine W.skip ?_ | refine W.exit rfl ?_ | refine WL.box rfl rfl rfl ?_ | refine W.opsD ?_ | refine W.condT rfl ?_ | refine W.condF rfl ?_)
        refine W.ret ⟨_, rfl, retB ?_⟩
        rw [Bool.eq_iff_iff]
        simp [toB] at * <;> omega
      · repeat (first | refine W.seq ?_ | refine W.ops ?_ | refine WL.off rfl rfl ?_ | refine WL.val rfl rfl rfl ?_ | refine WL.nil ?_ | refine W.block ?_ | refine W.outBlock ?_ | refine W.skip ?_ | refine W.exit rfl ?_ | refine WL.box rfl rfl rfl ?_ | refine W.opsD ?_ | refine W.condT rfl ?_ | refine W.condF rfl ?_)
        refine W.ret ⟨_, rfl, retB ?_⟩
        rw [Bool.eq_iff_iff]
        simp [toB] at * <;> omega
    · repeat (first | refine W.seq ?_ | refine W.ops ?_ | refine WL.off rfl rfl ?_ | refine WL.val rfl rfl rfl ?_ | refine WL.nil ?_ | refine W.block ?_ | refine W.outBlock ?_ | refine W.skip ?_ | refine W.exit rfl ?_ | refine WL.box rfl rfl rfl ?_ | refine W.opsD ?_ | refine W.condT rfl ?_ | refine W.condF rfl ?_)
      refine W.ret ⟨_, rfl, retB ?_⟩
      rw [Bool.eq_iff_iff]
      simp [toB] at * <;> omega
  · repeat (first | refine W.seq ?_ | refine W.ops ?_ | refine WL.off rfl rfl ?_ | refine WL.val rfl rfl rfl ?_ | refine WL.nil ?_ | refine W.block ?_ | refine W.outBlock ?_ | refine W.skip ?_ | refine W.exit rfl ?_ | refine WL.box rfl rfl rfl ?_ | refine W.opsD ?_ | refine W.condT rfl ?_ | refine W.condF rfl ?_)
    refine W.ret ⟨_, rfl, retB ?_⟩
    rw [Bool.eq_iff_iff]
    simp [toB] at * <;> omega
def unitB (x : Node) : Bool := if x.lenWidth = 0 then decide (x.lenUnit = 0) else decide (1 ≤ x.lenUnit) && decide (x.lenUnit ≤ 256)
theorem unit_c (x : Node) : VC1 T 64 [.agg x.enc] (.bool (unitB x)) := by
  refine VC1.of (vf := v64) rfl rfl ?_
  unfold v64
  repeat (first | refine W.seq ?_ | refine W.ops ?_ | refine WL.off rfl rfl ?_ | refine WL.val rfl rfl rfl ?_ | refine WL.nil ?_ | refine W.block ?_ | refine W.outBlock ?_ | refine W.skip ?_ | refine W.exit rfl ?_ | refine WL.box rfl rfl rfl ?_ | refine W.opsD ?_ | refine W.condT rfl ?_ | refine W.condF rfl ?_)
  refine W.condS rfl (fun h0 => ?_) (fun h0 => ?_)
  · have e : x.lenWidth = 0 := by simpa using h0
    repeat (first | refine W.seq ?_ | refine W.ops ?_ | refine WL.off rfl rfl ?_ | refine WL.val rfl rfl rfl ?_ | refine WL.nil ?_ | refine W.block ?_ | refine W.outBlock ?_ | refine W.skip ?_ | refine W.exit rfl ?_ | refine WL.box rfl rfl rfl ?_ | refine W.opsD ?_ | refine W.condT rfl ?_ | refine W.condF rfl ?_)
    exact W.ret ⟨_, rfl, retB (by simp [unitB, e]; rfl)⟩
  have e : unitB x = (decide (1 ≤ x.lenUnit) && decide (x.lenUnit ≤ 256)) := by
    have : x.lenWidth ≠ 0 := by simpa using h0
    simp [unitB, this]
  rw [e]
  clear e h0
  repeat (first | refine W.seq ?_ | refine W.ops ?_ | refine WL.off rfl rfl ?_ | refine WL.val rfl rfl rfl ?_ | refine WL.nil ?_ | refine W.block ?_ | refine W.outBlock ?_ | refine W.skip ?_ | refine W.exit rfl ?_ | refine WL.box rfl rfl rfl ?_ | refine W.opsD ?_ | refine W.condT rfl ?_ | refine W.condF rfl ?_)
  refine WL.splitG rfl (fun h1 => ?_) (fun h1 => ?_)
  · repeat (first | refine W.seq ?_ | refine W.ops ?_ | refine WL.off rfl rfl ?_ | refine WL.val rfl rfl rfl ?_ | refine WL.nil ?_ | refine W.block ?_ | refine W.outBlock ?_ | refine W.skip ?_ | refine W.exit rfl ?_ | refine WL.box rfl rfl rfl ?_ | refine W.opsD ?_ | refine W.condT rfl ?_ | refine W.condF rfl ?_)
    refine W.ret ⟨_, rfl, retB ?_⟩
    rw [Bool.eq_iff_iff]
    simp [toB] at * <;> omega
  · repeat (first | refine W.seq ?_ | refine W.ops ?_ | refine WL.off rfl rfl ?_ | refine WL.val rfl rfl rfl ?_ | refine WL.nil ?_ | refine W.block ?_ | refine W.outBlock ?_ | refine W.skip ?_ | refine W.exit rfl ?_ | refine WL.box rfl rfl rfl ?_ | refine W.opsD ?_ | refine W.condT rfl ?_ | refine W.condF rfl ?_)
    refine W.ret ⟨_, rfl, retB ?_⟩
    rw [Bool.eq_iff_iff]
    simp [toB] at * <;> omega

open Classical in
def dB (P : Prop) : Bool := decide P
theorem dB_no {P : Prop} (h : ¬ P) : false = dB P := by simp [dB, h]
theorem dB_yes {P : Prop} (h : P) : true = dB P := by simp [dB, h]
theorem dB_iff {P : Prop} : dB P = true ↔ P := by simp [dB]
theorem dB_false {P : Prop} : dB P = false ↔ ¬ P := by simp [dB]
def findN (l : List Node) (id : Int) : Option Node := l.find? fun x => x.id == id
def zeroNode : AV := .agg [.int .i64 0, .int .i64 0, .int .i64 0, .int .i64 0, .int .i64 0, .int .i64 0, .int .i64 0, .pslice [] 0 0 true, .int .i64 0]
def findAV (l : List Node) (id : Int) : AV := match findN l id with
  | some x => .tuple [.agg x.enc, .bool true]
  | none => .tuple [zeroNode, .bool false]
theorem take_find {α : Type} {p : α → Bool} {l : List α} {i : Nat} (hi : i < l.length) (h : ∀ j (hj : j < l.length), j < i → p l[j] = false) (hp : p l[i] = true) : l.find? p = some l[i] := by
  rw [List.find?_eq_some_iff_getElem]
  exact ⟨hp, i, hi, rfl, fun k hk => by simpa using h k (by omega) hk⟩
theorem take_none {α : Type} {p : α → Bool} {l : List α} (h : ∀ j (hj : j < l.length), p l[j] = false) : l.find? p = none := by
  rw [List.find?_eq_none]
  intro x hx
  obtain ⟨j, hj, rfl⟩ := List.mem_iff_getElem.1 hx
  simp [h j hj]
theorem find_c (nodes : Sl Node) (hl : nodes.l.length < 100000) (id : Int) : VC1 T 51 [nodes.av 9 Node.enc, .int .i64 id] (findAV nodes.l id) := by
  refine VC1.of (vf := v51) rfl rfl ?_
  unfold v51
  repeat (first | refine W.seq ?_ | refine W.ops ?_ | refine WL.off rfl rfl ?_ | refine WL.val rfl rfl rfl ?_ | refine WL.nil ?_ | refine W.block ?_ | refine W.outBlock ?_ | refine W.skip ?_ | refine W.exit rfl ?_ | refine WL.box rfl rfl rfl ?_ | refine W.opsD ?_ | refine W.condT rfl ?_ | refine W.condF rfl ?_)
  refine W.loopE (E0 := envOf [(1, _), (4, _), (8, _), (9, _), (10, _)]) rfl (β := Nat) (fun b => [(10, .v (.int .i64 b))])
    (fun b h n => b ≤ nodes.l.length ∧ h = Heap.empty ∧ ∀ j (hj : j < nodes.l.length), j < b → (nodes.l[j].id == id) = false) (fun b => nodes.l.length - b) 0 rfl ⟨by simp, rfl, by intro j _ h; simp at h⟩ ?_
  rintro i h n ⟨hi, rfl, hno⟩ ih
  repeat (first | refine W.seq ?_ | refine W.ops ?_ | refine WL.off rfl rfl ?_ | refine WL.val rfl rfl rfl ?_ | refine WL.nil ?_ | refine W.block ?_ | refine W.outBlock ?_ | refine W.skip ?_ | refine W.exit rfl ?_ | refine WL.box rfl rfl rfl ?_ | refine W.opsD ?_ | refine W.condT rfl ?_ | refine W.condF rfl ?_)
  refine W.cond rfl (fun hb2 => ?_) (fun hb2 => ?_)
  · have hlt : i < nodes.l.length := by simpa using hb2
    repeat (first | refine W.seq ?_ | refine W.ops ?_ | refine WL.off rfl rfl ?_ | refine WL.val rfl rfl rfl ?_ | refine WL.nil ?_ | refine W.block ?_ | refine W.outBlock ?_ | refine W.skip ?_ | refine W.exit rfl ?_ | refine WL.box rfl rfl rfl ?_ | refine W.opsD ?_ | refine W.condT rfl ?_ | refine W.condF rfl ?_)
    refine WL.val rfl (aop_iaddr_p rfl rfl hlt) rfl ?_
    refine WL.val rfl (aop_load_st (enc := Node.enc) rfl (fun _ => rfl) hlt) rfl ?_
    repeat (first | refine W.seq ?_ | refine W.ops ?_ | refine WL.off rfl rfl ?_ | refine WL.val rfl rfl rfl ?_ | refine WL.nil ?_ | refine W.block ?_ | refine W.outBlock ?_ | refine W.skip ?_ | refine W.exit rfl ?_ | refine WL.box rfl rfl rfl ?_ | refine W.opsD ?_ | refine W.condT rfl ?_ | refine W.condF rfl ?_)
    refine W.condS rfl (fun hb3 => ?_) (fun hb3 => ?_)
    · have e : (nodes.l[i].id == id) = true := hb3
      repeat (first | refine W.seq ?_ | refine W.ops ?_ | refine WL.off rfl rfl ?_ | refine WL.val rfl rfl rfl ?_ | refine WL.nil ?_ | refine W.block ?_ | refine W.outBlock ?_ | refine W.skip ?_ | refine W.exit rfl ?_ | refine WL.box rfl rfl rfl ?_ | refine W.opsD ?_ | refine W.condT rfl ?_ | refine W.condF rfl ?_)
      refine W.ret ⟨_, rfl, ?_⟩
      have : findN nodes.l id = some nodes.l[i] := take_find hlt hno e
      simp only [findAV, this]; rfl
    · have e : (nodes.l[i].id == id) = false := hb3
      repeat (first | refine W.seq ?_ | refine W.ops ?_ | refine WL.off rfl rfl ?_ | refine WL.val rfl rfl rfl ?_ | refine WL.nil ?_ | refine W.block ?_ | refine W.outBlock ?_ | refine W.skip ?_ | refine W.exit rfl ?_ | refine WL.box rfl rfl rfl ?_ | refine W.opsD ?_ | refine W.condT rfl ?_ | refine W.condF rfl ?_)
      refine ih (i + 1) _ _ _ ⟨hlt, rfl, fun j hj hji => ?_⟩ (by omega) (by rw [← wrap64_nat (k := i) (by omega)]; rfl)
      by_cases hj2 : j = i
      · subst hj2; exact e
      · exact hno j hj (by omega)
  · have hge : i = nodes.l.length := by simp at hb2; omega
    subst hge
    repeat (first | refine W.seq ?_ | refine W.ops ?_ | refine WL.off rfl rfl ?_ | refine WL.val rfl rfl rfl ?_ | refine WL.nil ?_ | refine W.block ?_ | refine W.outBlock ?_ | refine W.skip ?_ | refine W.exit rfl ?_ | refine WL.box rfl rfl rfl ?_ | refine W.opsD ?_ | refine W.condT rfl ?_ | refine W.condF rfl ?_)
    refine W.ret ⟨_, rfl, ?_⟩
    have : findN nodes.l id = none := take_none fun j hj => hno j hj hj
    simp only [findAV, this]; rfl
def goesL (x : Node) : List Int := x.other :: x.arms.l.map (·.next)
theorem goes_c (x : Node) (hl : x.arms.l.length < 100000) : ∃ v, VC1 T 52 [.agg x.enc] v ∧ SlV 1 ((goesL x).flatMap encI) (goesL x).length v := by
  suffices H : W T [.code v52.body] ⟨initEnv 0 [.agg x.enc], Heap.empty, 0⟩ fun s' => ∃ v, OwnS s'.heap 1 ((goesL x).flatMap encI) (goesL x).length v ∧ readRess s'.env s'.heap v52.results = some [v] by
    obtain ⟨s', h1, v, h2, h3⟩ := H
    obtain ⟨v', h4, h5⟩ := h2.pur 39 (fun a ha => by
      simp only [List.mem_flatMap, encI, List.mem_singleton] at ha
      obtain ⟨p, _, rfl⟩ := ha; rfl)
    exact ⟨v', VC1.of (vf := v52) rfl rfl ⟨s', h1, [v], h3, h4⟩, h5⟩
  unfold v52
  repeat (first | refine W.seq ?_ | refine W.ops ?_ | refine WL.off rfl rfl ?_ | refine WL.val rfl rfl rfl ?_ | refine WL.nil ?_ | refine W.block ?_ | refine W.outBlock ?_ | refine W.skip ?_ | refine W.exit rfl ?_ | refine WL.box rfl rfl rfl ?_ | refine W.opsD ?_ | refine W.condT rfl ?_ | refine W.condF rfl ?_)
  refine WL.heap rfl rfl rfl ?_
  repeat (first | refine W.seq ?_ | refine W.ops ?_ | refine WL.off rfl rfl ?_ | refine WL.val rfl rfl rfl ?_ | refine WL.nil ?_ | refine W.block ?_ | refine W.outBlock ?_ | refine W.skip ?_ | refine W.exit rfl ?_ | refine WL.box rfl rfl rfl ?_ | refine W.opsD ?_ | refine W.condT rfl ?_ | refine W.condF rfl ?_)
  refine W.loopE (E0 := envOf [(3, _), (10, _), (11, _), (12, _)]) rfl (β := Nat × AV) (fun b => [(3, .v b.2), (12, .v (.int .i64 b.1))])
    (fun b h n => b.1 ≤ x.arms.l.length ∧ OwnS h 1 ((x.other :: (x.arms.l.take b.1).map (·.next)).flatMap encI) (b.1 + 1) b.2 ∧ Fresh h n) (fun b => x.arms.l.length - b.1) (0, _) rfl ⟨by simp, .inr ⟨_, _, rfl, rfl, rfl⟩, (Fresh.empty _).put (by decide) (Nat.le_refl _)⟩ ?_
  rintro ⟨i, w⟩ h n ⟨hi, hw, hfr⟩ ih
  dsimp only at hi hw
  repeat (first | refine W.seq ?_ | refine W.ops ?_ | refine WL.off rfl rfl ?_ | refine WL.val rfl rfl rfl ?_ | refine WL.nil ?_ | refine W.block ?_ | refine W.outBlock ?_ | refine W.skip ?_ | refine W.exit rfl ?_ | refine WL.box rfl rfl rfl ?_ | refine W.opsD ?_ | refine W.condT rfl ?_ | refine W.condF rfl ?_)
  refine W.cond rfl (fun hb2 => ?_) (fun hb2 => ?_)
  · have hlt : i < x.arms.l.length := by simpa using hb2
    repeat (first | refine W.seq ?_ | refine W.ops ?_ | refine WL.off rfl rfl ?_ | refine WL.val rfl rfl rfl ?_ | refine WL.nil ?_ | refine W.block ?_ | refine W.outBlock ?_ | refine W.skip ?_ | refine W.exit rfl ?_ | refine WL.box rfl rfl rfl ?_ | refine W.opsD ?_ | refine W.condT rfl ?_ | refine W.condF rfl ?_)
    refine WL.val rfl (aop_iaddr_p rfl rfl hlt) rfl ?_
    refine WL.val rfl (aop_load_st (enc := Arm.enc) rfl (fun _ => rfl) hlt) rfl ?_
    repeat (first | refine W.seq ?_ | refine W.ops ?_ | refine WL.off rfl rfl ?_ | refine WL.val rfl rfl rfl ?_ | refine WL.nil ?_ | refine W.block ?_ | refine W.outBlock ?_ | refine W.skip ?_ | refine W.exit rfl ?_ | refine WL.box rfl rfl rfl ?_ | refine W.opsD ?_ | refine W.condT rfl ?_ | refine W.condF rfl ?_)
    refine WL.val rfl (aop_move_nj rfl hw.nj) rfl ?_
    repeat (first | refine W.seq ?_ | refine W.ops ?_ | refine WL.off rfl rfl ?_ | refine WL.val rfl rfl rfl ?_ | refine WL.nil ?_ | refine W.block ?_ | refine W.outBlock ?_ | refine W.skip ?_ | refine W.exit rfl ?_ | refine WL.box rfl rfl rfl ?_ | refine W.opsD ?_ | refine W.condT rfl ?_ | refine W.condF rfl ?_)
    refine WL.push (new := encI x.arms.l[i].next) rfl rfl rfl rfl rfl rfl (by decide) rfl hw (hfr.mono (by omega)) rfl (by omega) rfl (fun _ _ _ => rfl) (fun rd wr H' g1 g2 g3 => ?_)
    repeat (first | refine W.seq ?_ | refine W.ops ?_ | refine WL.off rfl rfl ?_ | refine WL.val rfl rfl rfl ?_ | refine WL.nil ?_ | refine W.block ?_ | refine W.outBlock ?_ | refine W.skip ?_ | refine W.exit rfl ?_ | refine WL.box rfl rfl rfl ?_ | refine W.opsD ?_ | refine W.condT rfl ?_ | refine W.condF rfl ?_)
    refine ih (i + 1, _) _ _ _ ⟨hlt, ?_, g3 _ (by omega)⟩ (by simp only; omega) (by rw [← wrap64_nat (k := i) (by omega)]; rfl)
    rw [map_snoc hlt, ← List.cons_append, List.flatMap_append]
    exact g1
  · have hge : i = x.arms.l.length := by simp at hb2; omega
    subst hge
    repeat (first | refine W.seq ?_ | refine W.ops ?_ | refine WL.off rfl rfl ?_ | refine WL.val rfl rfl rfl ?_ | refine WL.nil ?_ | refine W.block ?_ | refine W.outBlock ?_ | refine W.skip ?_ | refine W.exit rfl ?_ | refine WL.box rfl rfl rfl ?_ | refine W.opsD ?_ | refine W.condT rfl ?_ | refine W.condF rfl ?_)
    refine WL.val rfl (aop_move_nj rfl hw.nj) rfl ?_
    refine WL.val rfl (aop_move_nj rfl hw.nj) rfl ?_
    repeat (first | refine W.seq ?_ | refine W.ops ?_ | refine WL.off rfl rfl ?_ | refine WL.val rfl rfl rfl ?_ | refine WL.nil ?_ | refine W.block ?_ | refine W.outBlock ?_ | refine W.skip ?_ | refine W.exit rfl ?_ | refine WL.box rfl rfl rfl ?_ | refine W.opsD ?_ | refine W.condT rfl ?_ | refine W.condF rfl ?_)
    refine W.ret ⟨w, ?_, res1 rfl hw.nj⟩
    rw [List.take_length] at hw
    simpa [goesL] using hw

def shrV (x : Node) (a : Arm) : Int := (IntKind.wrap .u64 a.value).fdiv (2 ^ (Nat.min x.selWidth.toNat 64))
def armOk (x : Node) (i : Nat) : Prop := ∀ h : i < x.arms.l.length, ¬ shrV x x.arms.l[i] > 0 ∧ x.selWidth ≠ 0 ∧ (0 < i → ∀ h2 : i - 1 < x.arms.l.length, ¬ x.arms.l[i].value ≤ x.arms.l[i - 1].value) ∧ toB x.arms.l[i].next = true
def formOk (x : Node) : Prop := 1 ≤ x.id ∧ x.id ≤ 65534 ∧ 0 ≤ x.size ∧ x.size ≤ 256 ∧ toB x.other = true ∧ x.arms.l.length ≤ 32 ∧ mayB x.lenOff x.lenWidth 16 = true ∧ unitB x = true ∧ mayB x.selOff x.selWidth 32 = true ∧ ∀ i, armOk x i
def formB (x : Node) : Bool := dB (formOk x)
theorem formB_no {x : Node} (h : ¬ formOk x) : false = formB x := dB_no h
theorem formB_yes {x : Node} (h : formOk x) : true = formB x := dB_yes h
theorem aop_shr {E : Env} {H : Heap} {nid : AM.Id} {d : Option Nat} {x y : Operand} {k k' : IntKind} {a b : Int} (hx : evA E x = some (.int k a)) (hy : evA E y = some (.int k' b)) (hb : 0 ≤ b) :
    aop E H nid d (.bin .shr x y) = some ⟨.v (.int k (a.fdiv (2 ^ (Nat.min b.toNat k.bits)))), none, [], none, [], []⟩ := by
  have : decide (b < 0) = false := decide_eq_false (by omega)
  simp only [aop, hx, hy, binop, this, cond_false]
theorem form_c (x : Node) (hl : x.arms.l.length < 100000) : VC1 T 61 [.agg x.enc] (.bool (formB x)) := by
  have ht := to_c x.other
  have hm1 := may_c x.lenOff x.lenWidth 16
  have hu := unit_c x
  have hm2 := may_c x.selOff x.selWidth 32
  refine VC1.of (vf := v61) rfl rfl ?_
  unfold v61
  repeat (first | refine W.seq ?_ | refine W.ops ?_ | refine WL.off rfl rfl ?_ | refine WL.val rfl rfl rfl ?_ | refine WL.nil ?_ | refine W.block ?_ | refine W.outBlock ?_ | refine W.skip ?_ | refine W.exit rfl ?_ | refine WL.box rfl rfl rfl ?_ | refine W.opsD ?_ | refine W.condT rfl ?_ | refine W.condF rfl ?_)
  refine WL.splitG rfl (fun h1 => ?_) (fun h1 => ?_)
  · repeat (first | refine W.seq ?_ | refine W.ops ?_ | refine WL.off rfl rfl ?_ | refine WL.val rfl rfl rfl ?_ | refine WL.nil ?_ | refine W.block ?_ | refine W.outBlock ?_ | refine W.skip ?_ | refine W.exit rfl ?_ | refine WL.box rfl rfl rfl ?_ | refine W.opsD ?_ | refine W.condT rfl ?_ | refine W.condF rfl ?_)
    exact W.ret ⟨_, rfl, retB (formB_no (fun hf => by obtain ⟨f1, f2, f3, f4, f5, f6, f7, f8, f9, f10⟩ := hf; simp at *; omega))⟩
  repeat (first | refine W.seq ?_ | refine W.ops ?_ | refine WL.off rfl rfl ?_ | refine WL.val rfl rfl rfl ?_ | refine WL.nil ?_ | refine W.block ?_ | refine W.outBlock ?_ | refine W.skip ?_ | refine W.exit rfl ?_ | refine WL.box rfl rfl rfl ?_ | refine W.opsD ?_ | refine W.condT rfl ?_ | refine W.condF rfl ?_)
  refine WL.splitG rfl (fun h2 => ?_) (fun h2 => ?_)
  · repeat (first | refine W.seq ?_ | refine W.ops ?_ | refine WL.off rfl rfl ?_ | refine WL.val rfl rfl rfl ?_ | refine WL.nil ?_ | refine W.block ?_ | refine W.outBlock ?_ | refine W.skip ?_ | refine W.exit rfl ?_ | refine WL.box rfl rfl rfl ?_ | refine W.opsD ?_ | refine W.condT rfl ?_ | refine W.condF rfl ?_)
    exact W.ret ⟨_, rfl, retB (formB_no (fun hf => by obtain ⟨f1, f2, f3, f4, f5, f6, f7, f8, f9, f10⟩ := hf; simp at *; omega))⟩
  repeat (first | refine W.seq ?_ | refine W.ops ?_ | refine WL.off rfl rfl ?_ | refine WL.val rfl rfl rfl ?_ | refine WL.nil ?_ | refine W.block ?_ | refine W.outBlock ?_ | refine W.skip ?_ | refine W.exit rfl ?_ | refine WL.box rfl rfl rfl ?_ | refine W.opsD ?_ | refine W.condT rfl ?_ | refine W.condF rfl ?_)
  refine WL.splitG rfl (fun h3 => ?_) (fun h3 => ?_)
  · repeat (first | refine W.seq ?_ | refine W.ops ?_ | refine WL.off rfl rfl ?_ | refine WL.val rfl rfl rfl ?_ | refine WL.nil ?_ | refine W.block ?_ | refine W.outBlock ?_ | refine W.skip ?_ | refine W.exit rfl ?_ | refine WL.box rfl rfl rfl ?_ | refine W.opsD ?_ | refine W.condT rfl ?_ | refine W.condF rfl ?_)
    exact W.ret ⟨_, rfl, retB (formB_no (fun hf => by obtain ⟨f1, f2, f3, f4, f5, f6, f7, f8, f9, f10⟩ := hf; simp at *; omega))⟩
  repeat (first | refine W.seq ?_ | refine W.ops ?_ | refine WL.off rfl rfl ?_ | refine WL.val rfl rfl rfl ?_ | refine WL.nil ?_ | refine W.block ?_ | refine W.outBlock ?_ | refine W.skip ?_ | refine W.exit rfl ?_ | refine WL.box rfl rfl rfl ?_ | refine W.opsD ?_ | refine W.condT rfl ?_ | refine W.condF rfl ?_)
  refine WL.splitG rfl (fun h4 => ?_) (fun h4 => ?_)
  · repeat (first | refine W.seq ?_ | refine W.ops ?_ | refine WL.off rfl rfl ?_ | refine WL.val rfl rfl rfl ?_ | refine WL.nil ?_ | refine W.block ?_ | refine W.outBlock ?_ | refine W.skip ?_ | refine W.exit rfl ?_ | refine WL.box rfl rfl rfl ?_ | refine W.opsD ?_ | refine W.condT rfl ?_ | refine W.condF rfl ?_)
    exact W.ret ⟨_, rfl, retB (formB_no (fun hf => by obtain ⟨f1, f2, f3, f4, f5, f6, f7, f8, f9, f10⟩ := hf; simp at *; omega))⟩
  repeat (first | refine W.seq ?_ | refine W.ops ?_ | refine WL.off rfl rfl ?_ | refine WL.val rfl rfl rfl ?_ | refine WL.nil ?_ | refine W.block ?_ | refine W.outBlock ?_ | refine W.skip ?_ | refine W.exit rfl ?_ | refine WL.box rfl rfl rfl ?_ | refine W.opsD ?_ | refine W.condT rfl ?_ | refine W.condF rfl ?_)
  refine WL.view rfl rfl rfl ht rfl rfl ?_
  cases h5 : toB x.other
  · repeat (first | refine W.seq ?_ | refine W.ops ?_ | refine WL.off rfl rfl ?_ | refine WL.val rfl rfl rfl ?_ | refine WL.nil ?_ | refine W.block ?_ | refine W.outBlock ?_ | refine W.skip ?_ | refine W.exit rfl ?_ | refine WL.box rfl rfl rfl ?_ | refine W.opsD ?_ | refine W.condT rfl ?_ | refine W.condF rfl ?_)
    exact W.ret ⟨_, rfl, retB (formB_no (fun hf => by obtain ⟨f1, f2, f3, f4, f5, f6, f7, f8, f9, f10⟩ := hf; exact absurd f5 (by simp [h5])))⟩
  repeat (first | refine W.seq ?_ | refine W.ops ?_ | refine WL.off rfl rfl ?_ | refine WL.val rfl rfl rfl ?_ | refine WL.nil ?_ | refine W.block ?_ | refine W.outBlock ?_ | refine W.skip ?_ | refine W.exit rfl ?_ | refine WL.box rfl rfl rfl ?_ | refine W.opsD ?_ | refine W.condT rfl ?_ | refine W.condF rfl ?_)
  refine W.condS rfl (fun h7 => ?_) (fun h7 => ?_)
  · repeat (first | refine W.seq ?_ | refine W.ops ?_ | refine WL.off rfl rfl ?_ | refine WL.val rfl rfl rfl ?_ | refine WL.nil ?_ | refine W.block ?_ | refine W.outBlock ?_ | refine W.skip ?_ | refine W.exit rfl ?_ | refine WL.box rfl rfl rfl ?_ | refine W.opsD ?_ | refine W.condT rfl ?_ | refine W.condF rfl ?_)
    exact W.ret ⟨_, rfl, retB (formB_no (fun hf => by obtain ⟨f1, f2, f3, f4, f5, f6, f7, f8, f9, f10⟩ := hf; exact absurd f6 (by have := of_decide_eq_true h7; omega)))⟩
  have l6 : x.arms.l.length ≤ 32 := by have := of_decide_eq_false h7; omega
  repeat (first | refine W.seq ?_ | refine W.ops ?_ | refine WL.off rfl rfl ?_ | refine WL.val rfl rfl rfl ?_ | refine WL.nil ?_ | refine W.block ?_ | refine W.outBlock ?_ | refine W.skip ?_ | refine W.exit rfl ?_ | refine WL.box rfl rfl rfl ?_ | refine W.opsD ?_ | refine W.condT rfl ?_ | refine W.condF rfl ?_)
  refine WL.view rfl rfl rfl hm1 rfl rfl ?_
  cases h8 : mayB x.lenOff x.lenWidth 16
  · repeat (first | refine W.seq ?_ | refine W.ops ?_ | refine WL.off rfl rfl ?_ | refine WL.val rfl rfl rfl ?_ | refine WL.nil ?_ | refine W.block ?_ | refine W.outBlock ?_ | refine W.skip ?_ | refine W.exit rfl ?_ | refine WL.box rfl rfl rfl ?_ | refine W.opsD ?_ | refine W.condT rfl ?_ | refine W.condF rfl ?_)
    exact W.ret ⟨_, rfl, retB (formB_no (fun hf => by obtain ⟨f1, f2, f3, f4, f5, f6, f7, f8, f9, f10⟩ := hf; exact absurd f7 (by simp [h8])))⟩
  repeat (first | refine W.seq ?_ | refine W.ops ?_ | refine WL.off rfl rfl ?_ | refine WL.val rfl rfl rfl ?_ | refine WL.nil ?_ | refine W.block ?_ | refine W.outBlock ?_ | refine W.skip ?_ | refine W.exit rfl ?_ | refine WL.box rfl rfl rfl ?_ | refine W.opsD ?_ | refine W.condT rfl ?_ | refine W.condF rfl ?_)
  refine WL.view rfl rfl rfl hu rfl rfl ?_
  cases h9 : unitB x
  · repeat (first | refine W.seq ?_ | refine W.ops ?_ | refine WL.off rfl rfl ?_ | refine WL.val rfl rfl rfl ?_ | refine WL.nil ?_ | refine W.block ?_ | refine W.outBlock ?_ | refine W.skip ?_ | refine W.exit rfl ?_ | refine WL.box rfl rfl rfl ?_ | refine W.opsD ?_ | refine W.condT rfl ?_ | refine W.condF rfl ?_)
    exact W.ret ⟨_, rfl, retB (formB_no (fun hf => by obtain ⟨f1, f2, f3, f4, f5, f6, f7, f8, f9, f10⟩ := hf; exact absurd f8 (by simp [h9])))⟩
  repeat (first | refine W.seq ?_ | refine W.ops ?_ | refine WL.off rfl rfl ?_ | refine WL.val rfl rfl rfl ?_ | refine WL.nil ?_ | refine W.block ?_ | refine W.outBlock ?_ | refine W.skip ?_ | refine W.exit rfl ?_ | refine WL.box rfl rfl rfl ?_ | refine W.opsD ?_ | refine W.condT rfl ?_ | refine W.condF rfl ?_)
  refine WL.view rfl rfl rfl hm2 rfl rfl ?_
  cases h10 : mayB x.selOff x.selWidth 32
  · repeat (first | refine W.seq ?_ | refine W.ops ?_ | refine WL.off rfl rfl ?_ | refine WL.val rfl rfl rfl ?_ | refine WL.nil ?_ | refine W.block ?_ | refine W.outBlock ?_ | refine W.skip ?_ | refine W.exit rfl ?_ | refine WL.box rfl rfl rfl ?_ | refine W.opsD ?_ | refine W.condT rfl ?_ | refine W.condF rfl ?_)
    exact W.ret ⟨_, rfl, retB (formB_no (fun hf => by obtain ⟨f1, f2, f3, f4, f5, f6, f7, f8, f9, f10⟩ := hf; exact absurd f9 (by simp [h10])))⟩
  have hsw : 0 ≤ x.selWidth := by
    unfold mayB at h10
    split at h10
    · omega
    · simp at h10; omega
  repeat (first | refine W.seq ?_ | refine W.ops ?_ | refine WL.off rfl rfl ?_ | refine WL.val rfl rfl rfl ?_ | refine WL.nil ?_ | refine W.block ?_ | refine W.outBlock ?_ | refine W.skip ?_ | refine W.exit rfl ?_ | refine WL.box rfl rfl rfl ?_ | refine W.opsD ?_ | refine W.condT rfl ?_ | refine W.condF rfl ?_)
  refine W.loopE (E0 := envOf [(1, _), (57, _), (58, _), (59, _)]) rfl (β := Nat) (fun b => [(59, .v (.int .i64 b))])
    (fun b h n => b ≤ x.arms.l.length ∧ h = Heap.empty ∧ ∀ j, j < b → armOk x j) (fun b => x.arms.l.length - b) 0 rfl ⟨by simp, rfl, by intro j h; simp at h⟩ ?_
  rintro i h n ⟨hi, rfl, hok⟩ ih
  repeat (first | refine W.seq ?_ | refine W.ops ?_ | refine WL.off rfl rfl ?_ | refine WL.val rfl rfl rfl ?_ | refine WL.nil ?_ | refine W.block ?_ | refine W.outBlock ?_ | refine W.skip ?_ | refine W.exit rfl ?_ | refine WL.box rfl rfl rfl ?_ | refine W.opsD ?_ | refine W.condT rfl ?_ | refine W.condF rfl ?_)
  refine W.cond rfl (fun hb2 => ?_) (fun hb2 => ?_)
  · have hlt : i < x.arms.l.length := by simpa using hb2
    have hta := to_c x.arms.l[i].next
    repeat (first | refine W.seq ?_ | refine W.ops ?_ | refine WL.off rfl rfl ?_ | refine WL.val rfl rfl rfl ?_ | refine WL.nil ?_ | refine W.block ?_ | refine W.outBlock ?_ | refine W.skip ?_ | refine W.exit rfl ?_ | refine WL.box rfl rfl rfl ?_ | refine W.opsD ?_ | refine W.condT rfl ?_ | refine W.condF rfl ?_)
    refine WL.val rfl (aop_iaddr_p rfl rfl hlt) rfl ?_
    refine WL.val rfl (aop_load_st (enc := Arm.enc) rfl (fun _ => rfl) hlt) rfl ?_
    repeat (first | refine W.seq ?_ | refine W.ops ?_ | refine WL.off rfl rfl ?_ | refine WL.val rfl rfl rfl ?_ | refine WL.nil ?_ | refine W.block ?_ | refine W.outBlock ?_ | refine W.skip ?_ | refine W.exit rfl ?_ | refine WL.box rfl rfl rfl ?_ | refine W.opsD ?_ | refine W.condT rfl ?_ | refine W.condF rfl ?_)
    refine WL.val rfl (aop_shr rfl rfl hsw) rfl ?_
    repeat (first | refine W.seq ?_ | refine W.ops ?_ | refine WL.off rfl rfl ?_ | refine WL.val rfl rfl rfl ?_ | refine WL.nil ?_ | refine W.block ?_ | refine W.outBlock ?_ | refine W.skip ?_ | refine W.exit rfl ?_ | refine WL.box rfl rfl rfl ?_ | refine W.opsD ?_ | refine W.condT rfl ?_ | refine W.condF rfl ?_)
    refine WL.splitG rfl (fun h11 => ?_) (fun h11 => ?_)
    · repeat (first | refine W.seq ?_ | refine W.ops ?_ | refine WL.off rfl rfl ?_ | refine WL.val rfl rfl rfl ?_ | refine WL.nil ?_ | refine W.block ?_ | refine W.outBlock ?_ | refine W.skip ?_ | refine W.exit rfl ?_ | refine WL.box rfl rfl rfl ?_ | refine W.opsD ?_ | refine W.condT rfl ?_ | refine W.condF rfl ?_)
      exact W.ret ⟨_, rfl, retB (formB_no (fun hf => by obtain ⟨f1, f2, f3, f4, f5, f6, f7, f8, f9, f10⟩ := hf; exact absurd (of_decide_eq_true h11) (f10 i hlt).1))⟩
    repeat (first | refine W.seq ?_ | refine W.ops ?_ | refine WL.off rfl rfl ?_ | refine WL.val rfl rfl rfl ?_ | refine WL.nil ?_ | refine W.block ?_ | refine W.outBlock ?_ | refine W.skip ?_ | refine W.exit rfl ?_ | refine WL.box rfl rfl rfl ?_ | refine W.opsD ?_ | refine W.condT rfl ?_ | refine W.condF rfl ?_)
    refine WL.splitG rfl (fun h12 => ?_) (fun h12 => ?_)
    · repeat (first | refine W.seq ?_ | refine W.ops ?_ | refine WL.off rfl rfl ?_ | refine WL.val rfl rfl rfl ?_ | refine WL.nil ?_ | refine W.block ?_ | refine W.outBlock ?_ | refine W.skip ?_ | refine W.exit rfl ?_ | refine WL.box rfl rfl rfl ?_ | refine W.opsD ?_ | refine W.condT rfl ?_ | refine W.condF rfl ?_)
      exact W.ret ⟨_, rfl, retB (formB_no (fun hf => by obtain ⟨f1, f2, f3, f4, f5, f6, f7, f8, f9, f10⟩ := hf; exact absurd (by simpa using h12) (f10 i hlt).2.1))⟩
    repeat (first | refine W.seq ?_ | refine W.ops ?_ | refine WL.off rfl rfl ?_ | refine WL.val rfl rfl rfl ?_ | refine WL.nil ?_ | refine W.block ?_ | refine W.outBlock ?_ | refine W.skip ?_ | refine W.exit rfl ?_ | refine WL.box rfl rfl rfl ?_ | refine W.opsD ?_ | refine W.condT rfl ?_ | refine W.condF rfl ?_)
    refine WL.splitG rfl (fun h13 => ?_) (fun h13 => ?_)
    · repeat (first | refine W.seq ?_ | refine W.ops ?_ | refine WL.off rfl rfl ?_ | refine WL.val rfl rfl rfl ?_ | refine WL.nil ?_ | refine W.block ?_ | refine W.outBlock ?_ | refine W.skip ?_ | refine W.exit rfl ?_ | refine WL.box rfl rfl rfl ?_ | refine W.opsD ?_ | refine W.condT rfl ?_ | refine W.condF rfl ?_)
      have hi0 : 0 < i := by have := of_decide_eq_true h13; omega
      have ew : IntKind.wrap .i64 ((i : Int) - 1) = ((i - 1 : Nat) : Int) := by rw [wrap64 (by omega) (by omega)]; omega
      refine WL.val rfl (aop_iaddr_p rfl rfl (show i - 1 < x.arms.l.length by omega) ew) rfl ?_
      repeat (first | refine W.seq ?_ | refine W.ops ?_ | refine WL.off rfl rfl ?_ | refine WL.val rfl rfl rfl ?_ | refine WL.nil ?_ | refine W.block ?_ | refine W.outBlock ?_ | refine W.skip ?_ | refine W.exit rfl ?_ | refine WL.box rfl rfl rfl ?_ | refine W.opsD ?_ | refine W.condT rfl ?_ | refine W.condF rfl ?_)
      refine WL.val rfl (aop_load_el (enc := Arm.enc) (o := 0) rfl (fun _ => rfl) (show i - 1 < x.arms.l.length by omega) (by decide) rfl) rfl ?_
      repeat (first | refine W.seq ?_ | refine W.ops ?_ | refine WL.off rfl rfl ?_ | refine WL.val rfl rfl rfl ?_ | refine WL.nil ?_ | refine W.block ?_ | refine W.outBlock ?_ | refine W.skip ?_ | refine W.exit rfl ?_ | refine WL.box rfl rfl rfl ?_ | refine W.opsD ?_ | refine W.condT rfl ?_ | refine W.condF rfl ?_)
      refine WL.splitG rfl (fun h14 => ?_) (fun h14 => ?_)
      · repeat (first | refine W.seq ?_ | refine W.ops ?_ | refine WL.off rfl rfl ?_ | refine WL.val rfl rfl rfl ?_ | refine WL.nil ?_ | refine W.block ?_ | refine W.outBlock ?_ | refine W.skip ?_ | refine W.exit rfl ?_ | refine WL.box rfl rfl rfl ?_ | refine W.opsD ?_ | refine W.condT rfl ?_ | refine W.condF rfl ?_)
        exact W.ret ⟨_, rfl, retB (formB_no (fun hf => by obtain ⟨f1, f2, f3, f4, f5, f6, f7, f8, f9, f10⟩ := hf; exact absurd (of_decide_eq_true h14) ((f10 i hlt).2.2.1 hi0 (by omega))))⟩
      repeat (first | refine W.seq ?_ | refine W.ops ?_ | refine WL.off rfl rfl ?_ | refine WL.val rfl rfl rfl ?_ | refine WL.nil ?_ | refine W.block ?_ | refine W.outBlock ?_ | refine W.skip ?_ | refine W.exit rfl ?_ | refine WL.box rfl rfl rfl ?_ | refine W.opsD ?_ | refine W.condT rfl ?_ | refine W.condF rfl ?_)
      refine WL.view rfl rfl rfl hta rfl rfl ?_
      cases h15 : toB x.arms.l[i].next
      · repeat (first | refine W.seq ?_ | refine W.ops ?_ | refine WL.off rfl rfl ?_ | refine WL.val rfl rfl rfl ?_ | refine WL.nil ?_ | refine W.block ?_ | refine W.outBlock ?_ | refine W.skip ?_ | refine W.exit rfl ?_ | refine WL.box rfl rfl rfl ?_ | refine W.opsD ?_ | refine W.condT rfl ?_ | refine W.condF rfl ?_)
        exact W.ret ⟨_, rfl, retB (formB_no (fun hf => by obtain ⟨f1, f2, f3, f4, f5, f6, f7, f8, f9, f10⟩ := hf; exact absurd (f10 i hlt).2.2.2 (by simp [h15])))⟩
      repeat (first | refine W.seq ?_ | refine W.ops ?_ | refine WL.off rfl rfl ?_ | refine WL.val rfl rfl rfl ?_ | refine WL.nil ?_ | refine W.block ?_ | refine W.outBlock ?_ | refine W.skip ?_ | refine W.exit rfl ?_ | refine WL.box rfl rfl rfl ?_ | refine W.opsD ?_ | refine W.condT rfl ?_ | refine W.condF rfl ?_)
      refine ih (i + 1) _ _ _ ⟨hlt, rfl, fun j hj => ?_⟩ (by omega) (by rw [← wrap64_nat (k := i) (by omega)]; rfl)
      by_cases hji : j = i
      · subst hji
        exact fun hx => ⟨of_decide_eq_false h11, by simpa using h12, fun hp hq => of_decide_eq_false h14, h15⟩
      · exact hok j (by omega)
    · have h13' := of_decide_eq_false h13
      repeat (first | refine W.seq ?_ | refine W.ops ?_ | refine WL.off rfl rfl ?_ | refine WL.val rfl rfl rfl ?_ | refine WL.nil ?_ | refine W.block ?_ | refine W.outBlock ?_ | refine W.skip ?_ | refine W.exit rfl ?_ | refine WL.box rfl rfl rfl ?_ | refine W.opsD ?_ | refine W.condT rfl ?_ | refine W.condF rfl ?_)
      refine WL.view rfl rfl rfl hta rfl rfl ?_
      cases h15 : toB x.arms.l[i].next
      · repeat (first | refine W.seq ?_ | refine W.ops ?_ | refine WL.off rfl rfl ?_ | refine WL.val rfl rfl rfl ?_ | refine WL.nil ?_ | refine W.block ?_ | refine W.outBlock ?_ | refine W.skip ?_ | refine W.exit rfl ?_ | refine WL.box rfl rfl rfl ?_ | refine W.opsD ?_ | refine W.condT rfl ?_ | refine W.condF rfl ?_)
        exact W.ret ⟨_, rfl, retB (formB_no (fun hf => by obtain ⟨f1, f2, f3, f4, f5, f6, f7, f8, f9, f10⟩ := hf; exact absurd (f10 i hlt).2.2.2 (by simp [h15])))⟩
      repeat (first | refine W.seq ?_ | refine W.ops ?_ | refine WL.off rfl rfl ?_ | refine WL.val rfl rfl rfl ?_ | refine WL.nil ?_ | refine W.block ?_ | refine W.outBlock ?_ | refine W.skip ?_ | refine W.exit rfl ?_ | refine WL.box rfl rfl rfl ?_ | refine W.opsD ?_ | refine W.condT rfl ?_ | refine W.condF rfl ?_)
      refine ih (i + 1) _ _ _ ⟨hlt, rfl, fun j hj => ?_⟩ (by omega) (by rw [← wrap64_nat (k := i) (by omega)]; rfl)
      by_cases hji : j = i
      · subst hji
        exact fun hx => ⟨of_decide_eq_false h11, by simpa using h12, fun hp hq => absurd hp (by omega), h15⟩
      · exact hok j (by omega)
  · have hge : i = x.arms.l.length := by simp at hb2; omega
    subst hge
    repeat (first | refine W.seq ?_ | refine W.ops ?_ | refine WL.off rfl rfl ?_ | refine WL.val rfl rfl rfl ?_ | refine WL.nil ?_ | refine W.block ?_ | refine W.outBlock ?_ | refine W.skip ?_ | refine W.exit rfl ?_ | refine WL.box rfl rfl rfl ?_ | refine W.opsD ?_ | refine W.condT rfl ?_ | refine W.condF rfl ?_)
    refine W.ret ⟨_, rfl, retB (formB_yes ⟨?_, ?_, ?_, ?_, h5, l6, h8, h9, h10, fun j hj => hok j hj hj⟩)⟩
    · have := of_decide_eq_false h1; omega
    · have := of_decide_eq_false h2; omega
    · have := of_decide_eq_false h3; omega
    · have := of_decide_eq_false h4; omega

def formsOk (l : List Node) : Prop := ∀ i (hi : i < l.length), formB l[i] = true ∧ (0 < i → ∀ h2 : i - 1 < l.length, l[i - 1].id < l[i].id)
def formsB (l : List Node) : Bool := dB (formsOk l)
theorem forms_c (nodes : Sl Node) (hl : nodes.l.length < 100000) (ha : ∀ x ∈ nodes.l, x.arms.l.length < 100000) : VC1 T 48 [nodes.av 9 Node.enc] (.bool (formsB nodes.l)) := by
  refine VC1.of (vf := v48) rfl rfl ?_
  unfold v48
  repeat (first | refine W.seq ?_ | refine W.ops ?_ | refine WL.off rfl rfl ?_ | refine WL.val rfl rfl rfl ?_ | refine WL.nil ?_ | refine W.block ?_ | refine W.outBlock ?_ | refine W.skip ?_ | refine W.exit rfl ?_ | refine WL.box rfl rfl rfl ?_ | refine W.opsD ?_ | refine W.condT rfl ?_ | refine W.condF rfl ?_)
  refine W.loopE (E0 := envOf [(0, _), (5, _), (6, _), (7, _)]) rfl (β := Nat) (fun b => [(7, .v (.int .i64 b))])
    (fun b h n => b ≤ nodes.l.length ∧ h = Heap.empty ∧ ∀ j (hj : j < nodes.l.length), j < b → formB nodes.l[j] = true ∧ (0 < j → ∀ h2 : j - 1 < nodes.l.length, nodes.l[j - 1].id < nodes.l[j].id)) (fun b => nodes.l.length - b) 0 rfl ⟨by simp, rfl, by intro j _ h; simp at h⟩ ?_
  rintro i h n ⟨hi, rfl, hok⟩ ih
  repeat (first | refine W.seq ?_ | refine W.ops ?_ | refine WL.off rfl rfl ?_ | refine WL.val rfl rfl rfl ?_ | refine WL.nil ?_ | refine W.block ?_ | refine W.outBlock ?_ | refine W.skip ?_ | refine W.exit rfl ?_ | refine WL.box rfl rfl rfl ?_ | refine W.opsD ?_ | refine W.condT rfl ?_ | refine W.condF rfl ?_)
  refine W.cond rfl (fun hb2 => ?_) (fun hb2 => ?_)
  · have hlt : i < nodes.l.length := by simpa using hb2
    have hf := form_c nodes.l[i] (ha _ (List.getElem_mem hlt))
    repeat (first | refine W.seq ?_ | refine W.ops ?_ | refine WL.off rfl rfl ?_ | refine WL.val rfl rfl rfl ?_ | refine WL.nil ?_ | refine W.block ?_ | refine W.outBlock ?_ | refine W.skip ?_ | refine W.exit rfl ?_ | refine WL.box rfl rfl rfl ?_ | refine W.opsD ?_ | refine W.condT rfl ?_ | refine W.condF rfl ?_)
    refine WL.val rfl (aop_iaddr_p rfl rfl hlt) rfl ?_
    refine WL.val rfl (aop_load_st (enc := Node.enc) rfl (fun _ => rfl) hlt) rfl ?_
    repeat (first | refine W.seq ?_ | refine W.ops ?_ | refine WL.off rfl rfl ?_ | refine WL.val rfl rfl rfl ?_ | refine WL.nil ?_ | refine W.block ?_ | refine W.outBlock ?_ | refine W.skip ?_ | refine W.exit rfl ?_ | refine WL.box rfl rfl rfl ?_ | refine W.opsD ?_ | refine W.condT rfl ?_ | refine W.condF rfl ?_)
    refine WL.view rfl rfl rfl hf rfl rfl ?_
    cases h1 : formB nodes.l[i]
    · repeat (first | refine W.seq ?_ | refine W.ops ?_ | refine WL.off rfl rfl ?_ | refine WL.val rfl rfl rfl ?_ | refine WL.nil ?_ | refine W.block ?_ | refine W.outBlock ?_ | refine W.skip ?_ | refine W.exit rfl ?_ | refine WL.box rfl rfl rfl ?_ | refine W.opsD ?_ | refine W.condT rfl ?_ | refine W.condF rfl ?_)
      exact W.ret ⟨_, rfl, retB (dB_no (fun hq : formsOk nodes.l => by have := (hq i hlt).1; rw [h1] at this; cases this))⟩
    repeat (first | refine W.seq ?_ | refine W.ops ?_ | refine WL.off rfl rfl ?_ | refine WL.val rfl rfl rfl ?_ | refine WL.nil ?_ | refine W.block ?_ | refine W.outBlock ?_ | refine W.skip ?_ | refine W.exit rfl ?_ | refine WL.box rfl rfl rfl ?_ | refine W.opsD ?_ | refine W.condT rfl ?_ | refine W.condF rfl ?_)
    refine WL.splitG rfl (fun h2 => ?_) (fun h2 => ?_)
    · have hi0 : 0 < i := by have := of_decide_eq_true h2; omega
      have ew : IntKind.wrap .i64 ((i : Int) - 1) = ((i - 1 : Nat) : Int) := by rw [wrap64 (by omega) (by omega)]; omega
      repeat (first | refine W.seq ?_ | refine W.ops ?_ | refine WL.off rfl rfl ?_ | refine WL.val rfl rfl rfl ?_ | refine WL.nil ?_ | refine W.block ?_ | refine W.outBlock ?_ | refine W.skip ?_ | refine W.exit rfl ?_ | refine WL.box rfl rfl rfl ?_ | refine W.opsD ?_ | refine W.condT rfl ?_ | refine W.condF rfl ?_)
      refine WL.val rfl (aop_iaddr_p rfl rfl (show i - 1 < nodes.l.length by omega) ew) rfl ?_
      repeat (first | refine W.seq ?_ | refine W.ops ?_ | refine WL.off rfl rfl ?_ | refine WL.val rfl rfl rfl ?_ | refine WL.nil ?_ | refine W.block ?_ | refine W.outBlock ?_ | refine W.skip ?_ | refine W.exit rfl ?_ | refine WL.box rfl rfl rfl ?_ | refine W.opsD ?_ | refine W.condT rfl ?_ | refine W.condF rfl ?_)
      refine WL.val rfl (aop_load_el (enc := Node.enc) (o := 0) rfl (fun _ => rfl) (show i - 1 < nodes.l.length by omega) (by decide) rfl) rfl ?_
      repeat (first | refine W.seq ?_ | refine W.ops ?_ | refine WL.off rfl rfl ?_ | refine WL.val rfl rfl rfl ?_ | refine WL.nil ?_ | refine W.block ?_ | refine W.outBlock ?_ | refine W.skip ?_ | refine W.exit rfl ?_ | refine WL.box rfl rfl rfl ?_ | refine W.opsD ?_ | refine W.condT rfl ?_ | refine W.condF rfl ?_)
      refine W.condS rfl (fun h3 => ?_) (fun h3 => ?_)
      · repeat (first | refine W.seq ?_ | refine W.ops ?_ | refine WL.off rfl rfl ?_ | refine WL.val rfl rfl rfl ?_ | refine WL.nil ?_ | refine W.block ?_ | refine W.outBlock ?_ | refine W.skip ?_ | refine W.exit rfl ?_ | refine WL.box rfl rfl rfl ?_ | refine W.opsD ?_ | refine W.condT rfl ?_ | refine W.condF rfl ?_)
        exact W.ret ⟨_, rfl, retB (dB_no (fun hq : formsOk nodes.l => by have := (hq i hlt).2 hi0 (by omega); have := of_decide_eq_true h3; omega))⟩
      repeat (first | refine W.seq ?_ | refine W.ops ?_ | refine WL.off rfl rfl ?_ | refine WL.val rfl rfl rfl ?_ | refine WL.nil ?_ | refine W.block ?_ | refine W.outBlock ?_ | refine W.skip ?_ | refine W.exit rfl ?_ | refine WL.box rfl rfl rfl ?_ | refine W.opsD ?_ | refine W.condT rfl ?_ | refine W.condF rfl ?_)
      refine ih (i + 1) _ _ _ ⟨hlt, rfl, fun j hj hji => ?_⟩ (by omega) (by rw [← wrap64_nat (k := i) (by omega)]; rfl)
      by_cases e : j = i
      · subst e; exact ⟨h1, fun _ _ => by have := of_decide_eq_false h3; omega⟩
      · exact hok j hj (by omega)
    · repeat (first | refine W.seq ?_ | refine W.ops ?_ | refine WL.off rfl rfl ?_ | refine WL.val rfl rfl rfl ?_ | refine WL.nil ?_ | refine W.block ?_ | refine W.outBlock ?_ | refine W.skip ?_ | refine W.exit rfl ?_ | refine WL.box rfl rfl rfl ?_ | refine W.opsD ?_ | refine W.condT rfl ?_ | refine W.condF rfl ?_)
      refine ih (i + 1) _ _ _ ⟨hlt, rfl, fun j hj hji => ?_⟩ (by omega) (by rw [← wrap64_nat (k := i) (by omega)]; rfl)
      by_cases e : j = i
      · subst e; exact ⟨h1, fun hp _ => by have := of_decide_eq_false h2; omega⟩
      · exact hok j hj (by omega)
  · have hge : i = nodes.l.length := by simp at hb2; omega
    subst hge
    repeat (first | refine W.seq ?_ | refine W.ops ?_ | refine WL.off rfl rfl ?_ | refine WL.val rfl rfl rfl ?_ | refine WL.nil ?_ | refine W.block ?_ | refine W.outBlock ?_ | refine W.skip ?_ | refine W.exit rfl ?_ | refine WL.box rfl rfl rfl ?_ | refine W.opsD ?_ | refine W.condT rfl ?_ | refine W.condF rfl ?_)
    exact W.ret ⟨_, rfl, retB (dB_yes (fun j hj => hok j hj hj))⟩

def refOk (l : List Node) (id : Int) : Prop := (findN l id).isSome = true ∨ id = 0 ∨ id = 65535
def refsOk (l : List Node) : Prop := ∀ x ∈ l, ∀ id ∈ goesL x, refOk l id
def refsB (l : List Node) : Bool := dB (refsOk l)
theorem refs_c (nodes : Sl Node) (hl : nodes.l.length < 100000) (ha : ∀ x ∈ nodes.l, x.arms.l.length < 100000) : VC1 T 49 [nodes.av 9 Node.enc] (.bool (refsB nodes.l)) := by
  refine VC1.of (vf := v49) rfl rfl ?_
  unfold v49
  repeat (first | refine W.seq ?_ | refine W.ops ?_ | refine WL.off rfl rfl ?_ | refine WL.val rfl rfl rfl ?_ | refine WL.nil ?_ | refine W.block ?_ | refine W.outBlock ?_ | refine W.skip ?_ | refine W.exit rfl ?_ | refine WL.box rfl rfl rfl ?_ | refine W.opsD ?_ | refine W.condT rfl ?_ | refine W.condF rfl ?_)
  refine W.loopE (E0 := envOf [(0, _), (9, _), (10, _), (11, _)]) rfl (β := Nat) (fun b => [(11, .v (.int .i64 b))])
    (fun b h n => b ≤ nodes.l.length ∧ h = Heap.empty ∧ ∀ j (hj : j < nodes.l.length), j < b → ∀ id ∈ goesL nodes.l[j], refOk nodes.l id) (fun b => nodes.l.length - b) 0 rfl ⟨by simp, rfl, by intro j _ h; simp at h⟩ ?_
  rintro i h n ⟨hi, rfl, hok⟩ ih
  repeat (first | refine W.seq ?_ | refine W.ops ?_ | refine WL.off rfl rfl ?_ | refine WL.val rfl rfl rfl ?_ | refine WL.nil ?_ | refine W.block ?_ | refine W.outBlock ?_ | refine W.skip ?_ | refine W.exit rfl ?_ | refine WL.box rfl rfl rfl ?_ | refine W.opsD ?_ | refine W.condT rfl ?_ | refine W.condF rfl ?_)
  refine W.cond rfl (fun hb2 => ?_) (fun hb2 => ?_)
  · have hlt : i < nodes.l.length := by simpa using hb2
    obtain ⟨v, hg, hv⟩ := goes_c nodes.l[i] (ha _ (List.getElem_mem hlt))
    have hgl : (goesL nodes.l[i]).length < 200000 := by have := ha _ (List.getElem_mem hlt); simp [goesL]; omega
    repeat (first | refine W.seq ?_ | refine W.ops ?_ | refine WL.off rfl rfl ?_ | refine WL.val rfl rfl rfl ?_ | refine WL.nil ?_ | refine W.block ?_ | refine W.outBlock ?_ | refine W.skip ?_ | refine W.exit rfl ?_ | refine WL.box rfl rfl rfl ?_ | refine W.opsD ?_ | refine W.condT rfl ?_ | refine W.condF rfl ?_)
    refine WL.val rfl (aop_iaddr_p rfl rfl hlt) rfl ?_
    refine WL.val rfl (aop_load_st (enc := Node.enc) rfl (fun _ => rfl) hlt) rfl ?_
    repeat (first | refine W.seq ?_ | refine W.ops ?_ | refine WL.off rfl rfl ?_ | refine WL.val rfl rfl rfl ?_ | refine WL.nil ?_ | refine W.block ?_ | refine W.outBlock ?_ | refine W.skip ?_ | refine W.exit rfl ?_ | refine WL.box rfl rfl rfl ?_ | refine W.opsD ?_ | refine W.condT rfl ?_ | refine W.condF rfl ?_)
    refine WL.pure rfl rfl rfl hg rfl ?_
    refine WL.val rfl (aop_len_sl rfl hv) rfl ?_
    repeat (first | refine W.seq ?_ | refine W.ops ?_ | refine WL.off rfl rfl ?_ | refine WL.val rfl rfl rfl ?_ | refine WL.nil ?_ | refine W.block ?_ | refine W.outBlock ?_ | refine W.skip ?_ | refine W.exit rfl ?_ | refine WL.box rfl rfl rfl ?_ | refine W.opsD ?_ | refine W.condT rfl ?_ | refine W.condF rfl ?_)
    refine W.loopE (E0 := envOf [(0, _), (9, _), (10, _), (11, _), (16, _), (17, _), (18, _)]) rfl (β := Nat) (fun b => [(18, .v (.int .i64 b))])
      (fun b h n => b ≤ (goesL nodes.l[i]).length ∧ h = Heap.empty ∧ ∀ j (hj : j < (goesL nodes.l[i]).length), j < b → refOk nodes.l (goesL nodes.l[i])[j]) (fun b => (goesL nodes.l[i]).length - b) 0 rfl ⟨by simp, rfl, by intro j _ h; simp at h⟩ ?_
    rintro k h2 n2 ⟨hk, rfl, hok2⟩ ih2
    repeat (first | refine W.seq ?_ | refine W.ops ?_ | refine WL.off rfl rfl ?_ | refine WL.val rfl rfl rfl ?_ | refine WL.nil ?_ | refine W.block ?_ | refine W.outBlock ?_ | refine W.skip ?_ | refine W.exit rfl ?_ | refine WL.box rfl rfl rfl ?_ | refine W.opsD ?_ | refine W.condT rfl ?_ | refine W.condF rfl ?_)
    refine W.cond rfl (fun hb3 => ?_) (fun hb3 => ?_)
    · have hlt3 : k < (goesL nodes.l[i]).length := by simpa using hb3
      have hfi := find_c nodes hl (goesL nodes.l[i])[k]
      repeat (first | refine W.seq ?_ | refine W.ops ?_ | refine WL.off rfl rfl ?_ | refine WL.val rfl rfl rfl ?_ | refine WL.nil ?_ | refine W.block ?_ | refine W.outBlock ?_ | refine W.skip ?_ | refine W.exit rfl ?_ | refine WL.box rfl rfl rfl ?_ | refine W.opsD ?_ | refine W.condT rfl ?_ | refine W.condF rfl ?_)
      refine WL.val rfl (aop_iaddr_sl rfl hv rfl hlt3) rfl ?_
      refine WL.val rfl (aop_load_el (enc := encI) (o := 0) rfl (fun _ => rfl) hlt3 (by decide) rfl) rfl ?_
      repeat (first | refine W.seq ?_ | refine W.ops ?_ | refine WL.off rfl rfl ?_ | refine WL.val rfl rfl rfl ?_ | refine WL.nil ?_ | refine W.block ?_ | refine W.outBlock ?_ | refine W.skip ?_ | refine W.exit rfl ?_ | refine WL.box rfl rfl rfl ?_ | refine W.opsD ?_ | refine W.condT rfl ?_ | refine W.condF rfl ?_)
      refine WL.pure rfl rfl rfl hfi rfl ?_
      generalize hid : (goesL nodes.l[i])[k] = id at *
      have cont : refOk nodes.l id → ∀ j (hj : j < (goesL nodes.l[i]).length), j < k + 1 → refOk nodes.l (goesL nodes.l[i])[j] := by
        intro h1 j hj hjk
        by_cases e : j = k
        · subst e; rw [hid]; exact h1
        · exact hok2 j hj (by omega)
      have hmem : id ∈ goesL nodes.l[i] := by rw [← hid]; exact List.getElem_mem hlt3
      unfold findAV
      cases hfn : findN nodes.l id with
      | some x =>
        repeat (first | refine W.seq ?_ | refine W.ops ?_ | refine WL.off rfl rfl ?_ | refine WL.val rfl rfl rfl ?_ | refine WL.nil ?_ | refine W.block ?_ | refine W.outBlock ?_ | refine W.skip ?_ | refine W.exit rfl ?_ | refine WL.box rfl rfl rfl ?_ | refine W.opsD ?_ | refine W.condT rfl ?_ | refine W.condF rfl ?_)
        exact ih2 (k + 1) _ _ _ ⟨hlt3, rfl, cont (.inl (by rw [hfn]; rfl))⟩ (by omega) (by rw [← wrap64_nat (k := k) (by omega)]; rfl)
      | none =>
        repeat (first | refine W.seq ?_ | refine W.ops ?_ | refine WL.off rfl rfl ?_ | refine WL.val rfl rfl rfl ?_ | refine WL.nil ?_ | refine W.block ?_ | refine W.outBlock ?_ | refine W.skip ?_ | refine W.exit rfl ?_ | refine WL.box rfl rfl rfl ?_ | refine W.opsD ?_ | refine W.condT rfl ?_ | refine W.condF rfl ?_)
        refine WL.splitG rfl (fun h4 => ?_) (fun h4 => ?_)
        · have h4' : id ≠ 0 := by simpa using h4
          repeat (first | refine W.seq ?_ | refine W.ops ?_ | refine WL.off rfl rfl ?_ | refine WL.val rfl rfl rfl ?_ | refine WL.nil ?_ | refine W.block ?_ | refine W.outBlock ?_ | refine W.skip ?_ | refine W.exit rfl ?_ | refine WL.box rfl rfl rfl ?_ | refine W.opsD ?_ | refine W.condT rfl ?_ | refine W.condF rfl ?_)
          refine W.condS rfl (fun h5 => ?_) (fun h5 => ?_)
          · have h5' : id ≠ 65535 := by simpa using h5
            repeat (first | refine W.seq ?_ | refine W.ops ?_ | refine WL.off rfl rfl ?_ | refine WL.val rfl rfl rfl ?_ | refine WL.nil ?_ | refine W.block ?_ | refine W.outBlock ?_ | refine W.skip ?_ | refine W.exit rfl ?_ | refine WL.box rfl rfl rfl ?_ | refine W.opsD ?_ | refine W.condT rfl ?_ | refine W.condF rfl ?_)
            exact W.ret ⟨_, rfl, retB (by
              refine dB_no (fun hq : refsOk nodes.l => ?_)
              rcases hq _ (List.getElem_mem hlt) id hmem with q | q | q
              · rw [hfn] at q; cases q
              · exact h4' q
              · exact h5' q)⟩
          · have h5' : id = 65535 := by simpa using h5
            repeat (first | refine W.seq ?_ | refine W.ops ?_ | refine WL.off rfl rfl ?_ | refine WL.val rfl rfl rfl ?_ | refine WL.nil ?_ | refine W.block ?_ | refine W.outBlock ?_ | refine W.skip ?_ | refine W.exit rfl ?_ | refine WL.box rfl rfl rfl ?_ | refine W.opsD ?_ | refine W.condT rfl ?_ | refine W.condF rfl ?_)
            exact ih2 (k + 1) _ _ _ ⟨hlt3, rfl, cont (.inr (.inr h5'))⟩ (by omega) (by rw [← wrap64_nat (k := k) (by omega)]; rfl)
        · have h4' : id = 0 := by simpa using h4
          repeat (first | refine W.seq ?_ | refine W.ops ?_ | refine WL.off rfl rfl ?_ | refine WL.val rfl rfl rfl ?_ | refine WL.nil ?_ | refine W.block ?_ | refine W.outBlock ?_ | refine W.skip ?_ | refine W.exit rfl ?_ | refine WL.box rfl rfl rfl ?_ | refine W.opsD ?_ | refine W.condT rfl ?_ | refine W.condF rfl ?_)
          exact ih2 (k + 1) _ _ _ ⟨hlt3, rfl, cont (.inr (.inl h4'))⟩ (by omega) (by rw [← wrap64_nat (k := k) (by omega)]; rfl)
    · have hge : k = (goesL nodes.l[i]).length := by simp at hb3; omega
      subst hge
      repeat (first | refine W.seq ?_ | refine W.ops ?_ | refine WL.off rfl rfl ?_ | refine WL.val rfl rfl rfl ?_ | refine WL.nil ?_ | refine W.block ?_ | refine W.outBlock ?_ | refine W.skip ?_ | refine W.exit rfl ?_ | refine WL.box rfl rfl rfl ?_ | refine W.opsD ?_ | refine W.condT rfl ?_ | refine W.condF rfl ?_)
      refine ih (i + 1) _ _ _ ⟨hlt, rfl, fun j hj hji id hid => ?_⟩ (by omega) (by rw [← wrap64_nat (k := i) (by omega)]; rfl)
      by_cases e : j = i
      · subst e
        obtain ⟨q, hq, rfl⟩ := List.mem_iff_getElem.1 hid
        exact hok2 q hq hq
      · exact hok j hj (by omega) id hid
  · have hge : i = nodes.l.length := by simp at hb2; omega
    subst hge
    repeat (first | refine W.seq ?_ | refine W.ops ?_ | refine WL.off rfl rfl ?_ | refine WL.val rfl rfl rfl ?_ | refine WL.nil ?_ | refine W.block ?_ | refine W.outBlock ?_ | refine W.skip ?_ | refine W.exit rfl ?_ | refine WL.box rfl rfl rfl ?_ | refine W.opsD ?_ | refine W.condT rfl ?_ | refine W.condF rfl ?_)
    exact W.ret ⟨_, rfl, retB (by
      refine dB_yes (fun x hx id hid => ?_)
      obtain ⟨q, hq, rfl⟩ := List.mem_iff_getElem.1 hx
      exact hok q hq hq id hid)⟩
end
end Go.AM.B

/- Package graph: the longest ways. -/
namespace Go.AM.B
open Go.Proofs.Ytebogdeaiecldaa.Tab
noncomputable section
set_option linter.unusedVariables false
set_option linter.unusedSimpArgs false
set_option maxHeartbeats 4000000

abbrev MI := List (Int × Int)
structure GS where
  done : MI
  on : MI
  whole : Bool
def gi (m : MI) (id : Int) : Int := (mget m id).getD 0
def foldW (f : GS → Int → Option (GS × Int)) : GS → Int → List Int → Option (GS × Int)
  | st, most, [] => some (st, most)
  | st, most, y :: ys => match f st y with
    | none => none
    | some (st', r) => foldW f st' (max most r) ys
def walkF (l : List Node) : Nat → GS → Int → Option (GS × Int)
  | 0, _, _ => none
  | k + 1, st, id => match findN l id with
    | none => some (st, 0)
    | some x =>
      if gi st.on id > 0 then some ({ st with whole := false }, 0)
      else if gi st.done id > 0 then some (st, gi st.done id)
      else if gi st.on id = 0 then
        match foldW (walkF l k) { st with on := mput st.on id 1 } 0 (goesL x) with
        | none => none
        | some (st', most) => if gi st'.on id = 1 ∧ 0 ≤ most ∧ most < 1000000 then some ({ st' with on := mput st'.on id 0, done := mput st'.done id (most + 1) }, most + 1) else none
      else none
def kI (n : Int) : AV := .int .i64 n

structure GH (m : Nat) (nodes : Sl Node) (h : Heap) (n : Nat) (st : GS) : Prop where
  l : h.get (m, 0) = some (.cells [nodes.av 9 Node.enc])
  d : h.get (m + 1, 2) = some (.cells [.map (m + 1, 0)])
  o : h.get (m + 1, 3) = some (.cells [.map (m + 1, 1)])
  w : h.get (m + 2, 0) = some (.cells [.bool st.whole])
  f : h.get (m + 3, 0) = some (.cells [.func (.func 50) [] [.ptr (m, 0) 0, .ptr (m + 1, 3) 0, .ptr (m + 2, 0) 0, .ptr (m + 1, 2) 0, .ptr (m + 3, 0) 0]])
  dm : MapN kI h (m + 1, 0) st.done
  om : MapN kI h (m + 1, 1) st.on
  fr : Fresh h n
  n4 : m + 4 ≤ n
theorem GH.mono {nodes : Sl Node} {h : Heap} {n m n' : Nat} {st : GS} (H : GH m nodes h n st) (hm : n ≤ n') : GH m nodes h n' st := { H with fr := H.fr.mono hm, n4 := Nat.le_trans H.n4 hm }
theorem GH.putOn {nodes : Sl Node} {h : Heap} {m n : Nat} {st : GS} (H : GH m nodes h n st) {ob : AObj} {mm : MI} (hob : ∀ H' : Heap, H'.get (m + 1, 1) = some ob → MapN kI H' (m + 1, 1) mm) : GH m nodes (h.put (m + 1, 1) ob) n { st with on := mm } where
  l := by rw [Heap.get_put, if_neg (by simp)]; exact H.l
  d := by rw [Heap.get_put, if_neg (by simp)]; exact H.d
  o := by rw [Heap.get_put, if_neg (by simp)]; exact H.o
  w := by rw [Heap.get_put, if_neg (by simp)]; exact H.w
  f := by rw [Heap.get_put, if_neg (by simp)]; exact H.f
  dm := MapH.frame H.dm (by rw [Heap.get_put, if_neg (by simp)])
  om := hob _ (by rw [Heap.get_put, if_pos rfl])
  fr := H.fr.put (by have := H.n4; dsimp only; omega) (Nat.le_refl _)
  n4 := H.n4
theorem GH.putDone {nodes : Sl Node} {h : Heap} {m n : Nat} {st : GS} (H : GH m nodes h n st) {ob : AObj} {mm : MI} (hob : ∀ H' : Heap, H'.get (m + 1, 0) = some ob → MapN kI H' (m + 1, 0) mm) : GH m nodes (h.put (m + 1, 0) ob) n { st with done := mm } where
  l := by rw [Heap.get_put, if_neg (by simp)]; exact H.l
  d := by rw [Heap.get_put, if_neg (by simp)]; exact H.d
  o := by rw [Heap.get_put, if_neg (by simp)]; exact H.o
  w := by rw [Heap.get_put, if_neg (by simp)]; exact H.w
  f := by rw [Heap.get_put, if_neg (by simp)]; exact H.f
  om := MapH.frame H.om (by rw [Heap.get_put, if_neg (by simp)])
  dm := hob _ (by rw [Heap.get_put, if_pos rfl])
  fr := H.fr.put (by have := H.n4; dsimp only; omega) (Nat.le_refl _)
  n4 := H.n4
theorem GH.putWhole {nodes : Sl Node} {h : Heap} {m n : Nat} {st : GS} (H : GH m nodes h n st) (b : Bool) : GH m nodes (h.put (m + 2, 0) (.cells [.bool b])) n { st with whole := b } where
  l := by rw [Heap.get_put, if_neg (by simp)]; exact H.l
  d := by rw [Heap.get_put, if_neg (by simp)]; exact H.d
  o := by rw [Heap.get_put, if_neg (by simp)]; exact H.o
  w := by rw [Heap.get_put, if_pos rfl]
  f := by rw [Heap.get_put, if_neg (by simp)]; exact H.f
  om := MapH.frame H.om (by rw [Heap.get_put, if_neg (by simp)])
  dm := MapH.frame H.dm (by rw [Heap.get_put, if_neg (by simp)])
  fr := H.fr.put (by have := H.n4; dsimp only; omega) (Nat.le_refl _)
  n4 := H.n4

theorem walk_c (m : Nat) (nodes : Sl Node) (hl : nodes.l.length < 100000) (ha : ∀ x ∈ nodes.l, x.arms.l.length < 100000) : ∀ (k : Nat) (st : GS) (id : Int) (st' : GS) (r : Int) (h : Heap) (n : Nat), walkF nodes.l k st id = some (st', r) → GH m nodes h n st →
    CallsTo T 50 [.int .i64 id, .ptr (m, 0) 0, .ptr (m + 1, 3) 0, .ptr (m + 2, 0) 0, .ptr (m + 1, 2) 0, .ptr (m + 3, 0) 0] h n fun v h' n' => v = .int .i64 r ∧ GH m nodes h' n' st' := by
  intro k
  induction k with
  | zero => intro st id st' r h n hd; cases hd
  | succ k IH =>
    intro st id st' r h n hd hG
    have hfi := find_c nodes hl id
    simp only [walkF] at hd
    refine CallsTo.of (vf := v50) rfl rfl ?_
    unfold v50
    repeat (first | refine W.seq ?_ | refine W.ops ?_ | refine WL.off rfl rfl ?_ | refine WL.val rfl rfl rfl ?_ | refine WL.nil ?_ | refine W.block ?_ | refine W.outBlock ?_ | refine W.skip ?_ | refine W.exit rfl ?_ | refine WL.box rfl rfl rfl ?_ | refine W.opsD ?_ | refine W.condT rfl ?_ | refine W.condF rfl ?_)
    refine WL.val rfl (aop_load_h rfl hG.l rfl) rfl ?_
    repeat (first | refine W.seq ?_ | refine W.ops ?_ | refine WL.off rfl rfl ?_ | refine WL.val rfl rfl rfl ?_ | refine WL.nil ?_ | refine W.block ?_ | refine W.outBlock ?_ | refine W.skip ?_ | refine W.exit rfl ?_ | refine WL.box rfl rfl rfl ?_ | refine W.opsD ?_ | refine W.condT rfl ?_ | refine W.condF rfl ?_)
    refine WL.pure rfl rfl rfl hfi rfl ?_
    unfold findAV
    cases hfn : findN nodes.l id with
    | none =>
      rw [hfn] at hd
      simp only [Option.some.injEq, Prod.mk.injEq] at hd
      obtain ⟨rfl, rfl⟩ := hd
      repeat (first | refine W.seq ?_ | refine W.ops ?_ | refine WL.off rfl rfl ?_ | refine WL.val rfl rfl rfl ?_ | refine WL.nil ?_ | refine W.block ?_ | refine W.outBlock ?_ | refine W.skip ?_ | refine W.exit rfl ?_ | refine WL.box rfl rfl rfl ?_ | refine W.opsD ?_ | refine W.condT rfl ?_ | refine W.condF rfl ?_)
      exact W.ret ⟨_, rfl, rfl, hG.mono (by dsimp only; omega)⟩
    | some x =>
      rw [hfn] at hd
      dsimp only at hd
      have hx : x ∈ nodes.l := List.mem_of_find?_eq_some hfn
      obtain ⟨v, hgo, hv⟩ := goes_c x (ha x hx)
      have hgl : (goesL x).length < 200000 := by have := ha x hx; simp [goesL]; omega
      repeat (first | refine W.seq ?_ | refine W.ops ?_ | refine WL.off rfl rfl ?_ | refine WL.val rfl rfl rfl ?_ | refine WL.nil ?_ | refine W.block ?_ | refine W.outBlock ?_ | refine W.skip ?_ | refine W.exit rfl ?_ | refine WL.box rfl rfl rfl ?_ | refine W.opsD ?_ | refine W.condT rfl ?_ | refine W.condF rfl ?_)
      refine WL.val rfl (aop_load_h rfl hG.o rfl) rfl ?_
      repeat (first | refine W.seq ?_ | refine W.ops ?_ | refine WL.off rfl rfl ?_ | refine WL.val rfl rfl rfl ?_ | refine WL.nil ?_ | refine W.block ?_ | refine W.outBlock ?_ | refine W.skip ?_ | refine W.exit rfl ?_ | refine WL.box rfl rfl rfl ?_ | refine W.opsD ?_ | refine W.condT rfl ?_ | refine W.condF rfl ?_)
      refine WL.lookN (key := kI) (n := id) (mapIx_int (fun p : Int × Int => p.1) id st.on) rfl rfl rfl hG.om rfl ?_
      repeat (first | refine W.seq ?_ | refine W.ops ?_ | refine WL.off rfl rfl ?_ | refine WL.val rfl rfl rfl ?_ | refine WL.nil ?_ | refine W.block ?_ | refine W.outBlock ?_ | refine W.skip ?_ | refine W.exit rfl ?_ | refine WL.box rfl rfl rfl ?_ | refine W.opsD ?_ | refine W.condT rfl ?_ | refine W.condF rfl ?_)
      refine W.condS rfl (fun h1 => ?_) (fun h1 => ?_)
      · have h1' : gi st.on id > 0 := of_decide_eq_true h1
        rw [if_pos h1'] at hd
        simp only [Option.some.injEq, Prod.mk.injEq] at hd
        obtain ⟨rfl, rfl⟩ := hd
        repeat (first | refine W.seq ?_ | refine W.ops ?_ | refine WL.off rfl rfl ?_ | refine WL.val rfl rfl rfl ?_ | refine WL.nil ?_ | refine W.block ?_ | refine W.outBlock ?_ | refine W.skip ?_ | refine W.exit rfl ?_ | refine WL.box rfl rfl rfl ?_ | refine W.opsD ?_ | refine W.condT rfl ?_ | refine W.condF rfl ?_)
        refine WL.heap rfl (aop_store_h rfl rfl rfl rfl hG.w rfl) rfl ?_
        repeat (first | refine W.seq ?_ | refine W.ops ?_ | refine WL.off rfl rfl ?_ | refine WL.val rfl rfl rfl ?_ | refine WL.nil ?_ | refine W.block ?_ | refine W.outBlock ?_ | refine W.skip ?_ | refine W.exit rfl ?_ | refine WL.box rfl rfl rfl ?_ | refine W.opsD ?_ | refine W.condT rfl ?_ | refine W.condF rfl ?_)
        exact W.ret ⟨_, rfl, rfl, (hG.putWhole false).mono (by dsimp only; omega)⟩
      have h1' : ¬ gi st.on id > 0 := of_decide_eq_false h1
      rw [if_neg h1'] at hd
      repeat (first | refine W.seq ?_ | refine W.ops ?_ | refine WL.off rfl rfl ?_ | refine WL.val rfl rfl rfl ?_ | refine WL.nil ?_ | refine W.block ?_ | refine W.outBlock ?_ | refine W.skip ?_ | refine W.exit rfl ?_ | refine WL.box rfl rfl rfl ?_ | refine W.opsD ?_ | refine W.condT rfl ?_ | refine W.condF rfl ?_)
      refine WL.val rfl (aop_load_h rfl hG.d rfl) rfl ?_
      repeat (first | refine W.seq ?_ | refine W.ops ?_ | refine WL.off rfl rfl ?_ | refine WL.val rfl rfl rfl ?_ | refine WL.nil ?_ | refine W.block ?_ | refine W.outBlock ?_ | refine W.skip ?_ | refine W.exit rfl ?_ | refine WL.box rfl rfl rfl ?_ | refine W.opsD ?_ | refine W.condT rfl ?_ | refine W.condF rfl ?_)
      refine WL.lookN (key := kI) (n := id) (mapIx_int (fun p : Int × Int => p.1) id st.done) rfl rfl rfl hG.dm rfl ?_
      repeat (first | refine W.seq ?_ | refine W.ops ?_ | refine WL.off rfl rfl ?_ | refine WL.val rfl rfl rfl ?_ | refine WL.nil ?_ | refine W.block ?_ | refine W.outBlock ?_ | refine W.skip ?_ | refine W.exit rfl ?_ | refine WL.box rfl rfl rfl ?_ | refine W.opsD ?_ | refine W.condT rfl ?_ | refine W.condF rfl ?_)
      refine W.condS rfl (fun h2 => ?_) (fun h2 => ?_)
      · have h2' : gi st.done id > 0 := of_decide_eq_true h2
        rw [if_pos h2'] at hd
        simp only [Option.some.injEq, Prod.mk.injEq] at hd
        obtain ⟨rfl, rfl⟩ := hd
        repeat (first | refine W.seq ?_ | refine W.ops ?_ | refine WL.off rfl rfl ?_ | refine WL.val rfl rfl rfl ?_ | refine WL.nil ?_ | refine W.block ?_ | refine W.outBlock ?_ | refine W.skip ?_ | refine W.exit rfl ?_ | refine WL.box rfl rfl rfl ?_ | refine W.opsD ?_ | refine W.condT rfl ?_ | refine W.condF rfl ?_)
        refine WL.val rfl (aop_load_h rfl hG.d rfl) rfl ?_
        repeat (first | refine W.seq ?_ | refine W.ops ?_ | refine WL.off rfl rfl ?_ | refine WL.val rfl rfl rfl ?_ | refine WL.nil ?_ | refine W.block ?_ | refine W.outBlock ?_ | refine W.skip ?_ | refine W.exit rfl ?_ | refine WL.box rfl rfl rfl ?_ | refine W.opsD ?_ | refine W.condT rfl ?_ | refine W.condF rfl ?_)
        refine WL.lookN (key := kI) (n := id) (mapIx_int (fun p : Int × Int => p.1) id st.done) rfl rfl rfl hG.dm rfl ?_
        repeat (first | refine W.seq ?_ | refine W.ops ?_ | refine WL.off rfl rfl ?_ | refine WL.val rfl rfl rfl ?_ | refine WL.nil ?_ | refine W.block ?_ | refine W.outBlock ?_ | refine W.skip ?_ | refine W.exit rfl ?_ | refine WL.box rfl rfl rfl ?_ | refine W.opsD ?_ | refine W.condT rfl ?_ | refine W.condF rfl ?_)
        exact W.ret ⟨_, rfl, rfl, hG.mono (by dsimp only; omega)⟩
      have h2' : ¬ gi st.done id > 0 := of_decide_eq_false h2
      rw [if_neg h2'] at hd
      by_cases h3 : gi st.on id = 0
      case neg => rw [if_neg h3] at hd; cases hd
      rw [if_pos h3] at hd
      repeat (first | refine W.seq ?_ | refine W.ops ?_ | refine WL.off rfl rfl ?_ | refine WL.val rfl rfl rfl ?_ | refine WL.nil ?_ | refine W.block ?_ | refine W.outBlock ?_ | refine W.skip ?_ | refine W.exit rfl ?_ | refine WL.box rfl rfl rfl ?_ | refine W.opsD ?_ | refine W.condT rfl ?_ | refine W.condF rfl ?_)
      refine WL.val rfl (aop_load_h rfl hG.o rfl) rfl ?_
      repeat (first | refine W.seq ?_ | refine W.ops ?_ | refine WL.off rfl rfl ?_ | refine WL.val rfl rfl rfl ?_ | refine WL.nil ?_ | refine W.block ?_ | refine W.outBlock ?_ | refine W.skip ?_ | refine W.exit rfl ?_ | refine WL.box rfl rfl rfl ?_ | refine W.opsD ?_ | refine W.condT rfl ?_ | refine W.condF rfl ?_)
      refine WL.lookN (key := kI) (n := id) (mapIx_int (fun p : Int × Int => p.1) id st.on) rfl rfl rfl hG.om rfl ?_
      repeat (first | refine W.seq ?_ | refine W.ops ?_ | refine WL.off rfl rfl ?_ | refine WL.val rfl rfl rfl ?_ | refine WL.nil ?_ | refine W.block ?_ | refine W.outBlock ?_ | refine W.skip ?_ | refine W.exit rfl ?_ | refine WL.box rfl rfl rfl ?_ | refine W.opsD ?_ | refine W.condT rfl ?_ | refine W.condF rfl ?_)
      have e1 : IntKind.wrap .i64 ((mget st.on id).getD 0 + 1) = 1 := by
        have : (mget st.on id).getD 0 = 0 := h3
        rw [this]; rfl
      dsimp only [cond_false]
      rw [e1]
      refine WL.mapupN (key := kI) (n := id) (mapIx_int (fun p : Int × Int => p.1) id st.on) rfl rfl rfl rfl hG.om rfl (fun ob hob => ?_)
      have hG1 := hG.putOn hob
      repeat (first | refine W.seq ?_ | refine W.ops ?_ | refine WL.off rfl rfl ?_ | refine WL.val rfl rfl rfl ?_ | refine WL.nil ?_ | refine W.block ?_ | refine W.outBlock ?_ | refine W.skip ?_ | refine W.exit rfl ?_ | refine WL.box rfl rfl rfl ?_ | refine W.opsD ?_ | refine W.condT rfl ?_ | refine W.condF rfl ?_)
      refine WL.pure rfl rfl rfl hgo rfl ?_
      refine WL.val rfl (aop_len_sl rfl hv) rfl ?_
      repeat (first | refine W.seq ?_ | refine W.ops ?_ | refine WL.off rfl rfl ?_ | refine WL.val rfl rfl rfl ?_ | refine WL.nil ?_ | refine W.block ?_ | refine W.outBlock ?_ | refine W.skip ?_ | refine W.exit rfl ?_ | refine WL.box rfl rfl rfl ?_ | refine W.opsD ?_ | refine W.condT rfl ?_ | refine W.condF rfl ?_)
      cases hfo : foldW (walkF nodes.l k) { st with on := mput st.on id 1 } 0 (goesL x) with
      | none => rw [hfo] at hd; cases hd
      | some p =>
      obtain ⟨sf, mf⟩ := p
      rw [hfo] at hd
      dsimp only at hd
      by_cases hcd : gi sf.on id = 1 ∧ 0 ≤ mf ∧ mf < 1000000
      case neg => rw [if_neg hcd] at hd; cases hd
      rw [if_pos hcd] at hd
      simp only [Option.some.injEq, Prod.mk.injEq] at hd
      obtain ⟨rfl, rfl⟩ := hd
      refine W.loopE (E0 := envOf [(0, _), (2, _), (4, _), (5, _), (10, _), (40, _), (41, _), (42, _)]) rfl (β := Nat × GS × Int) (fun b => [(10, .v (.int .i64 b.2.2)), (42, .v (.int .i64 b.1))])
        (fun b h1 n1 => b.1 ≤ (goesL x).length ∧ GH m nodes h1 n1 b.2.1 ∧ foldW (walkF nodes.l k) b.2.1 b.2.2 ((goesL x).drop b.1) = some (sf, mf)) (fun b => (goesL x).length - b.1) (0, { st with on := mput st.on id 1 }, 0) rfl ⟨by simp, hG1.mono (by omega), hfo⟩ ?_
      rintro ⟨i, st1, m1⟩ h1 n1 ⟨hi, hG2, hfo1⟩ ih
      dsimp only at hi hG2 hfo1 ⊢
      repeat (first | refine W.seq ?_ | refine W.ops ?_ | refine WL.off rfl rfl ?_ | refine WL.val rfl rfl rfl ?_ | refine WL.nil ?_ | refine W.block ?_ | refine W.outBlock ?_ | refine W.skip ?_ | refine W.exit rfl ?_ | refine WL.box rfl rfl rfl ?_ | refine W.opsD ?_ | refine W.condT rfl ?_ | refine W.condF rfl ?_)
      refine W.cond rfl (fun hb2 => ?_) (fun hb2 => ?_)
      · have hlt : i < (goesL x).length := by simpa using hb2
        rw [List.drop_eq_getElem_cons hlt] at hfo1
        simp only [foldW] at hfo1
        repeat (first | refine W.seq ?_ | refine W.ops ?_ | refine WL.off rfl rfl ?_ | refine WL.val rfl rfl rfl ?_ | refine WL.nil ?_ | refine W.block ?_ | refine W.outBlock ?_ | refine W.skip ?_ | refine W.exit rfl ?_ | refine WL.box rfl rfl rfl ?_ | refine W.opsD ?_ | refine W.condT rfl ?_ | refine W.condF rfl ?_)
        refine WL.val rfl (aop_iaddr_sl rfl hv rfl hlt) rfl ?_
        refine WL.val rfl (aop_load_el (enc := encI) (o := 0) rfl (fun _ => rfl) hlt (by decide) rfl) rfl ?_
        repeat (first | refine W.seq ?_ | refine W.ops ?_ | refine WL.off rfl rfl ?_ | refine WL.val rfl rfl rfl ?_ | refine WL.nil ?_ | refine W.block ?_ | refine W.outBlock ?_ | refine W.skip ?_ | refine W.exit rfl ?_ | refine WL.box rfl rfl rfl ?_ | refine W.opsD ?_ | refine W.condT rfl ?_ | refine W.condF rfl ?_)
        refine WL.val rfl (aop_load_h rfl hG2.f rfl) rfl ?_
        repeat (first | refine W.seq ?_ | refine W.ops ?_ | refine WL.off rfl rfl ?_ | refine WL.val rfl rfl rfl ?_ | refine WL.nil ?_ | refine W.block ?_ | refine W.outBlock ?_ | refine W.skip ?_ | refine W.exit rfl ?_ | refine WL.box rfl rfl rfl ?_ | refine W.opsD ?_ | refine W.condT rfl ?_ | refine W.condF rfl ?_)
        cases hr : walkF nodes.l k st1 (goesL x)[i] with
        | none => rw [hr] at hfo1; cases hfo1
        | some p =>
        obtain ⟨st2, r2⟩ := p
        rw [hr] at hfo1
        refine WL.effv rfl rfl rfl rfl ((IH st1 (goesL x)[i] st2 r2 _ _ hr (hG2.mono (by omega))).mono ?_)
        rintro u h2 n2 ⟨rfl, hG3⟩
        repeat (first | refine W.seq ?_ | refine W.ops ?_ | refine WL.off rfl rfl ?_ | refine WL.val rfl rfl rfl ?_ | refine WL.nil ?_ | refine W.block ?_ | refine W.outBlock ?_ | refine W.skip ?_ | refine W.exit rfl ?_ | refine WL.box rfl rfl rfl ?_ | refine W.opsD ?_ | refine W.condT rfl ?_ | refine W.condF rfl ?_)
        exact ih (i + 1, st2, max m1 r2) _ _ _ ⟨hlt, hG3.mono (by omega), hfo1⟩ (by simp only; omega) (by rw [← wrap64_nat (k := i) (by omega)]; rfl)
      · have hge : i = (goesL x).length := by simp at hb2; omega
        subst hge
        rw [List.drop_length] at hfo1
        simp only [foldW, Option.some.injEq, Prod.mk.injEq] at hfo1
        obtain ⟨rfl, rfl⟩ := hfo1
        repeat (first | refine W.seq ?_ | refine W.ops ?_ | refine WL.off rfl rfl ?_ | refine WL.val rfl rfl rfl ?_ | refine WL.nil ?_ | refine W.block ?_ | refine W.outBlock ?_ | refine W.skip ?_ | refine W.exit rfl ?_ | refine WL.box rfl rfl rfl ?_ | refine W.opsD ?_ | refine W.condT rfl ?_ | refine W.condF rfl ?_)
        refine WL.val rfl (aop_load_h rfl hG2.o rfl) rfl ?_
        repeat (first | refine W.seq ?_ | refine W.ops ?_ | refine WL.off rfl rfl ?_ | refine WL.val rfl rfl rfl ?_ | refine WL.nil ?_ | refine W.block ?_ | refine W.outBlock ?_ | refine W.skip ?_ | refine W.exit rfl ?_ | refine WL.box rfl rfl rfl ?_ | refine W.opsD ?_ | refine W.condT rfl ?_ | refine W.condF rfl ?_)
        refine WL.lookN (key := kI) (n := id) (mapIx_int (fun p : Int × Int => p.1) id st1.on) rfl rfl rfl hG2.om rfl ?_
        repeat (first | refine W.seq ?_ | refine W.ops ?_ | refine WL.off rfl rfl ?_ | refine WL.val rfl rfl rfl ?_ | refine WL.nil ?_ | refine W.block ?_ | refine W.outBlock ?_ | refine W.skip ?_ | refine W.exit rfl ?_ | refine WL.box rfl rfl rfl ?_ | refine W.opsD ?_ | refine W.condT rfl ?_ | refine W.condF rfl ?_)
        have e2 : IntKind.wrap .i64 ((mget st1.on id).getD 0 - 1) = 0 := by
          have : (mget st1.on id).getD 0 = 1 := hcd.1
          rw [this]; rfl
        dsimp only [cond_false]
        rw [e2]
        refine WL.mapupN (key := kI) (n := id) (mapIx_int (fun p : Int × Int => p.1) id st1.on) rfl rfl rfl rfl hG2.om rfl (fun ob hob => ?_)
        have hG4 := hG2.putOn hob
        repeat (first | refine W.seq ?_ | refine W.ops ?_ | refine WL.off rfl rfl ?_ | refine WL.val rfl rfl rfl ?_ | refine WL.nil ?_ | refine W.block ?_ | refine W.outBlock ?_ | refine W.skip ?_ | refine W.exit rfl ?_ | refine WL.box rfl rfl rfl ?_ | refine W.opsD ?_ | refine W.condT rfl ?_ | refine W.condF rfl ?_)
        refine WL.val rfl (aop_load_h rfl hG4.d rfl) rfl ?_
        repeat (first | refine W.seq ?_ | refine W.ops ?_ | refine WL.off rfl rfl ?_ | refine WL.val rfl rfl rfl ?_ | refine WL.nil ?_ | refine W.block ?_ | refine W.outBlock ?_ | refine W.skip ?_ | refine W.exit rfl ?_ | refine WL.box rfl rfl rfl ?_ | refine W.opsD ?_ | refine W.condT rfl ?_ | refine W.condF rfl ?_)
        have e3 : IntKind.wrap .i64 (m1 + 1) = m1 + 1 := wrap64 (by omega) (by omega)
        rw [e3]
        refine WL.mapupN (key := kI) (n := id) (mapIx_int (fun p : Int × Int => p.1) id st1.done) rfl rfl rfl rfl hG4.dm rfl (fun ob hob => ?_)
        have hG5 := hG4.putDone hob
        repeat (first | refine W.seq ?_ | refine W.ops ?_ | refine WL.off rfl rfl ?_ | refine WL.val rfl rfl rfl ?_ | refine WL.nil ?_ | refine W.block ?_ | refine W.outBlock ?_ | refine W.skip ?_ | refine W.exit rfl ?_ | refine WL.box rfl rfl rfl ?_ | refine W.opsD ?_ | refine W.condT rfl ?_ | refine W.condF rfl ?_)
        rw [e3]
        exact W.ret ⟨_, rfl, rfl, hG5.mono (by dsimp only; omega)⟩

def runAll (l : List Node) (k : Nat) : GS → List Node → Option GS
  | st, [] => some st
  | st, x :: r => match walkF l k st x.id with
    | none => none
    | some (st', _) => runAll l k st' r
def gs0 : GS := ⟨[], [], true⟩
theorem longest_c (nodes : Sl Node) (hl : nodes.l.length < 100000) (ha : ∀ x ∈ nodes.l, x.arms.l.length < 100000) (k : Nat) (st' : GS) (hr : runAll nodes.l k gs0 nodes.l = some st') (m : Nat) :
    CallsTo T 39 [nodes.av 9 Node.enc] Heap.empty m fun v h' n' => v = .tuple [.func (.func 50) [] [.ptr (m, 0) 0, .ptr (m + 1, 3) 0, .ptr (m + 2, 0) 0, .ptr (m + 1, 2) 0, .ptr (m + 3, 0) 0], .bool st'.whole] ∧ GH m nodes h' n' st' := by
  refine CallsTo.of (vf := v39) rfl rfl ?_
  unfold v39
  repeat (first | refine W.seq ?_ | refine W.ops ?_ | refine WL.off rfl rfl ?_ | refine WL.val rfl rfl rfl ?_ | refine WL.nil ?_ | refine W.block ?_ | refine W.outBlock ?_ | refine W.skip ?_ | refine W.exit rfl ?_ | refine WL.box rfl rfl rfl ?_ | refine W.opsD ?_ | refine W.condT rfl ?_ | refine W.condF rfl ?_ | refine WL.heap rfl rfl rfl ?_)
  refine WL.heap rfl (aop_store_h (cs := [.nilm]) rfl rfl rfl rfl (by simp [Heap.get_put]) rfl) rfl ?_
  refine WL.heap rfl (aop_store_h (cs := [.nilm]) rfl rfl rfl rfl (by simp [Heap.get_put]) rfl) rfl ?_
  repeat (first | refine W.seq ?_ | refine W.ops ?_ | refine WL.off rfl rfl ?_ | refine WL.val rfl rfl rfl ?_ | refine WL.nil ?_ | refine W.block ?_ | refine W.outBlock ?_ | refine W.skip ?_ | refine W.exit rfl ?_ | refine WL.box rfl rfl rfl ?_ | refine W.opsD ?_ | refine W.condT rfl ?_ | refine W.condF rfl ?_ | refine WL.heap rfl rfl rfl ?_)
  refine WL.heap rfl (aop_store_h (cs := [.bool false]) rfl rfl rfl rfl (by simp [Heap.get_put]) rfl) rfl ?_
  repeat (first | refine W.seq ?_ | refine W.ops ?_ | refine WL.off rfl rfl ?_ | refine WL.val rfl rfl rfl ?_ | refine WL.nil ?_ | refine W.block ?_ | refine W.outBlock ?_ | refine W.skip ?_ | refine W.exit rfl ?_ | refine WL.box rfl rfl rfl ?_ | refine W.opsD ?_ | refine W.condT rfl ?_ | refine W.condF rfl ?_ | refine WL.heap rfl rfl rfl ?_)
  refine WL.heap rfl (aop_store_h (cs := [.nilf]) rfl rfl rfl rfl (by simp [Heap.get_put]) rfl) rfl ?_
  refine WL.nil ?_
  refine W.gen (P := fun h n => GH m nodes h n gs0) ?_ ?_
  · refine ⟨by simp [Heap.get_put, Nat.add_assoc]; rfl, by simp [Heap.get_put, Nat.add_assoc]; rfl, by simp [Heap.get_put, Nat.add_assoc]; rfl, by simp [Heap.get_put, Nat.add_assoc]; rfl, by simp [Heap.get_put, Nat.add_assoc]; rfl, ⟨[], 0, by simp [Heap.get_put, Nat.add_assoc]; rfl⟩, ⟨[], 0, by simp [Heap.get_put, Nat.add_assoc]; rfl⟩, ?_, by omega⟩
    repeat first | exact Fresh.empty _ | refine Fresh.put ?_ (by dsimp only; omega) (Nat.le_refl _)
  intro H0 N0 hG0
  repeat (first | refine W.seq ?_ | refine W.ops ?_ | refine WL.off rfl rfl ?_ | refine WL.val rfl rfl rfl ?_ | refine WL.nil ?_ | refine W.block ?_ | refine W.outBlock ?_ | refine W.skip ?_ | refine W.exit rfl ?_ | refine WL.box rfl rfl rfl ?_ | refine W.opsD ?_ | refine W.condT rfl ?_ | refine W.condF rfl ?_)
  refine WL.val rfl (aop_load_h rfl hG0.l rfl) rfl ?_
  repeat (first | refine W.seq ?_ | refine W.ops ?_ | refine WL.off rfl rfl ?_ | refine WL.val rfl rfl rfl ?_ | refine WL.nil ?_ | refine W.block ?_ | refine W.outBlock ?_ | refine W.skip ?_ | refine W.exit rfl ?_ | refine WL.box rfl rfl rfl ?_ | refine W.opsD ?_ | refine W.condT rfl ?_ | refine W.condF rfl ?_)
  refine W.loopE (E0 := envOf [(6, _), (7, _), (13, _), (14, _), (15, _)]) rfl (β := Nat × GS) (fun b => [(15, .v (.int .i64 b.1))])
    (fun b h1 n1 => b.1 ≤ nodes.l.length ∧ GH m nodes h1 n1 b.2 ∧ runAll nodes.l k b.2 (nodes.l.drop b.1) = some st') (fun b => nodes.l.length - b.1) (0, gs0) rfl ⟨by simp, hG0.mono (by omega), hr⟩ ?_
  rintro ⟨i, st1⟩ h1 n1 ⟨hi, hG, hr1⟩ ih
  dsimp only at hi hG hr1 ⊢
  repeat (first | refine W.seq ?_ | refine W.ops ?_ | refine WL.off rfl rfl ?_ | refine WL.val rfl rfl rfl ?_ | refine WL.nil ?_ | refine W.block ?_ | refine W.outBlock ?_ | refine W.skip ?_ | refine W.exit rfl ?_ | refine WL.box rfl rfl rfl ?_ | refine W.opsD ?_ | refine W.condT rfl ?_ | refine W.condF rfl ?_)
  refine W.cond rfl (fun hb2 => ?_) (fun hb2 => ?_)
  · have hlt : i < nodes.l.length := by simpa using hb2
    rw [List.drop_eq_getElem_cons hlt] at hr1
    simp only [runAll] at hr1
    repeat (first | refine W.seq ?_ | refine W.ops ?_ | refine WL.off rfl rfl ?_ | refine WL.val rfl rfl rfl ?_ | refine WL.nil ?_ | refine W.block ?_ | refine W.outBlock ?_ | refine W.skip ?_ | refine W.exit rfl ?_ | refine WL.box rfl rfl rfl ?_ | refine W.opsD ?_ | refine W.condT rfl ?_ | refine W.condF rfl ?_)
    refine WL.val rfl (aop_iaddr_p rfl rfl hlt) rfl ?_
    refine WL.val rfl (aop_load_st (enc := Node.enc) rfl (fun _ => rfl) hlt) rfl ?_
    repeat (first | refine W.seq ?_ | refine W.ops ?_ | refine WL.off rfl rfl ?_ | refine WL.val rfl rfl rfl ?_ | refine WL.nil ?_ | refine W.block ?_ | refine W.outBlock ?_ | refine W.skip ?_ | refine W.exit rfl ?_ | refine WL.box rfl rfl rfl ?_ | refine W.opsD ?_ | refine W.condT rfl ?_ | refine W.condF rfl ?_)
    refine WL.val rfl (aop_load_h rfl hG.f rfl) rfl ?_
    repeat (first | refine W.seq ?_ | refine W.ops ?_ | refine WL.off rfl rfl ?_ | refine WL.val rfl rfl rfl ?_ | refine WL.nil ?_ | refine W.block ?_ | refine W.outBlock ?_ | refine W.skip ?_ | refine W.exit rfl ?_ | refine WL.box rfl rfl rfl ?_ | refine W.opsD ?_ | refine W.condT rfl ?_ | refine W.condF rfl ?_)
    cases hw : walkF nodes.l k st1 nodes.l[i].id with
    | none => rw [hw] at hr1; cases hr1
    | some p =>
    obtain ⟨st2, r2⟩ := p
    rw [hw] at hr1
    refine WL.effv rfl rfl rfl rfl ((walk_c m nodes hl ha k st1 nodes.l[i].id st2 r2 _ _ hw (hG.mono (by omega))).mono ?_)
    rintro u h2 n2 ⟨rfl, hG3⟩
    repeat (first | refine W.seq ?_ | refine W.ops ?_ | refine WL.off rfl rfl ?_ | refine WL.val rfl rfl rfl ?_ | refine WL.nil ?_ | refine W.block ?_ | refine W.outBlock ?_ | refine W.skip ?_ | refine W.exit rfl ?_ | refine WL.box rfl rfl rfl ?_ | refine W.opsD ?_ | refine W.condT rfl ?_ | refine W.condF rfl ?_)
    exact ih (i + 1, st2) _ _ _ ⟨hlt, hG3.mono (by omega), hr1⟩ (by simp only; omega) (by rw [← wrap64_nat (k := i) (by omega)]; rfl)
  · have hge : i = nodes.l.length := by simp at hb2; omega
    subst hge
    rw [List.drop_length] at hr1
    simp only [runAll, Option.some.injEq] at hr1
    subst hr1
    repeat (first | refine W.seq ?_ | refine W.ops ?_ | refine WL.off rfl rfl ?_ | refine WL.val rfl rfl rfl ?_ | refine WL.nil ?_ | refine W.block ?_ | refine W.outBlock ?_ | refine W.skip ?_ | refine W.exit rfl ?_ | refine WL.box rfl rfl rfl ?_ | refine W.opsD ?_ | refine W.condT rfl ?_ | refine W.condF rfl ?_)
    refine WL.val rfl (aop_load_h rfl hG.f rfl) rfl ?_
    refine WL.val rfl (aop_load_h rfl hG.w rfl) rfl ?_
    repeat (first | refine W.seq ?_ | refine W.ops ?_ | refine WL.off rfl rfl ?_ | refine WL.val rfl rfl rfl ?_ | refine WL.nil ?_ | refine W.block ?_ | refine W.outBlock ?_ | refine W.skip ?_ | refine W.exit rfl ?_ | refine WL.box rfl rfl rfl ?_ | refine W.opsD ?_ | refine W.condT rfl ?_ | refine W.condF rfl ?_)
    exact W.ret ⟨_, rfl, rfl, hG.mono (by dsimp only; omega)⟩
end
end Go.AM.B

/- Package graph: what the walks come to (plain; no machine). -/
namespace Go.AM.B
noncomputable section
set_option linter.unusedVariables false
set_option linter.unusedSimpArgs false
variable {l : List Node}

def nexts (l : List Node) (id : Int) : List Int := match findN l id with
  | none => []
  | some x => goesL x
def Rg (l : List Node) (y x : Int) : Prop := y ∈ nexts l x
def acyG (l : List Node) : Prop := ∀ id, Acc (Rg l) id
theorem gi_mput (m : MI) (x y : Int) (v : Int) : gi (mput m x v) y = if x = y then v else gi m y := by
  unfold gi
  rw [mget_mput]
  by_cases h : x = y
  · subst h; simp
  · have : (x == y) = false := by simpa using h
    simp [this, h]

/-! ### it ends -/
def ids (l : List Node) : List Int := l.map (·.id)
def cntG (l : List Node) (st : GS) : Nat := (ids l).countP fun u => gi st.on u == 0 && gi st.done u == 0
def cntD (l : List Node) (st : GS) : Nat := (ids l).countP fun u => gi st.done u == 0
theorem countP_lt {α : Type} {p q : α → Bool} {L : List α} (h : ∀ u, q u = true → p u = true) {x : α} (hx : x ∈ L) (h0 : p x = true) (h1 : q x = false) : L.countP q < L.countP p := by
  induction L with
  | nil => cases hx
  | cons a L ih =>
    simp only [List.countP_cons]
    have hle : L.countP q ≤ L.countP p := List.countP_mono_left fun u _ hu => h u hu
    rcases List.mem_cons.1 hx with rfl | hx
    · rw [h0, h1]; simp; omega
    · have := ih hx
      have e : (if q a = true then 1 else 0) ≤ (if p a = true then 1 else 0) := by
        by_cases ha : q a = true
        · simp [ha, h a ha]
        · simp [ha]
      omega
theorem mem_ids {id : Int} {x : Node} (h : findN l id = some x) : id ∈ ids l ∧ x ∈ l ∧ x.id = id := by
  have h1 := List.mem_of_find?_eq_some h
  have h2 := List.find?_some h
  simp only [beq_iff_eq] at h2
  exact ⟨List.mem_map.2 ⟨x, h1, h2⟩, h1, h2⟩
structure GInv (l : List Node) (st : GS) : Prop where
  on : ∀ u, gi st.on u = 0 ∨ gi st.on u = 1
  dn : ∀ u, 0 ≤ gi st.done u ∧ gi st.done u + cntD l st ≤ l.length
  ex : ∀ u, gi st.on u = 1 → gi st.done u = 0
theorem cntD_le (st : GS) : cntD l st ≤ l.length := by
  unfold cntD
  refine Nat.le_trans List.countP_le_length (by simp [ids])
structure GPost (l : List Node) (st st' : GS) (r : Int) : Prop where
  inv : GInv l st'
  on : ∀ u, gi st'.on u = gi st.on u
  dn : ∀ u, 0 < gi st.done u → gi st'.done u = gi st.done u
  lo : 0 ≤ r
  hi : r + cntD l st' ≤ l.length
  wh : st'.whole = true → st.whole = true
theorem cntD_mono {st st' : GS} (h : ∀ u, 0 < gi st.done u → gi st'.done u = gi st.done u) (hi : GInv l st) : cntD l st' ≤ cntD l st := by
  unfold cntD
  refine List.countP_mono_left fun u _ hu => ?_
  simp only [beq_iff_eq] at hu ⊢
  have := (hi.dn u).1
  refine Decidable.byContradiction fun e => ?_
  have := h u (by omega)
  omega
theorem cntG_mono {st st' : GS} (hon : ∀ u, gi st'.on u = gi st.on u) (h : ∀ u, 0 < gi st.done u → gi st'.done u = gi st.done u) (hi : GInv l st) : cntG l st' ≤ cntG l st := by
  unfold cntG
  refine List.countP_mono_left fun u _ hu => ?_
  simp only [Bool.and_eq_true, beq_iff_eq] at hu ⊢
  have := (hi.dn u).1
  refine ⟨by rw [← hon]; exact hu.1, Decidable.byContradiction fun e => ?_⟩
  have := h u (by omega)
  omega
theorem walk_total (hl : l.length < 100000) : ∀ (k : Nat) (st : GS) (id : Int), GInv l st → cntG l st < k → ∃ st' r, walkF l k st id = some (st', r) ∧ GPost l st st' r := by
  intro k
  induction k with
  | zero => intro st id _ h; omega
  | succ k ih =>
    intro st id hi hk
    simp only [walkF]
    cases hf : findN l id with
    | none => exact ⟨_, _, rfl, hi, fun _ => rfl, fun _ _ => rfl, Int.le_refl 0, by have := cntD_le (l := l) st; omega, fun h => h⟩
    | some x =>
      obtain ⟨hm, hxl, hxid⟩ := mem_ids hf
      dsimp only
      by_cases h1 : gi st.on id > 0
      · rw [if_pos h1]
        exact ⟨_, _, rfl, ⟨hi.on, hi.dn, hi.ex⟩, fun _ => rfl, fun _ _ => rfl, Int.le_refl 0, by have := cntD_le (l := l) { st with whole := false }; omega, fun h => by cases h⟩
      rw [if_neg h1]
      by_cases h2 : gi st.done id > 0
      · rw [if_pos h2]
        exact ⟨_, _, rfl, hi, fun _ => rfl, fun _ _ => rfl, (hi.dn id).1, (hi.dn id).2, fun h => h⟩
      rw [if_neg h2]
      have h3 : gi st.on id = 0 := by rcases hi.on id with h | h <;> omega
      have h4 : gi st.done id = 0 := by have := (hi.dn id).1; omega
      rw [if_pos h3]
      have hi1 : GInv l { st with on := mput st.on id 1 } := by
        refine ⟨fun u => ?_, hi.dn, fun u hu => ?_⟩
        · dsimp only; rw [gi_mput]; split
          · exact .inr rfl
          · exact hi.on u
        · dsimp only at hu ⊢; rw [gi_mput] at hu; split at hu
          · rename_i e; rw [← e]; exact h4
          · exact hi.ex u hu
      have hc1 : cntG l { st with on := mput st.on id 1 } < k := by
        have : cntG l { st with on := mput st.on id 1 } < cntG l st := by
          unfold cntG
          refine countP_lt (x := id) (fun u hu => ?_) hm (by simp [h3, h4]) (by simp [gi_mput])
          simp only [Bool.and_eq_true, beq_iff_eq] at hu ⊢
          rw [gi_mput] at hu
          split at hu
          · exact absurd hu.1 (by decide)
          · exact hu
        omega
      have fold : ∀ (L : List Int) (st : GS) (most : Int), GInv l st → cntG l st < k → 0 ≤ most → most + cntD l st ≤ l.length → ∃ st' m, foldW (walkF l k) st most L = some (st', m) ∧ GPost l st st' m := by
        intro L
        induction L with
        | nil => intro st most hi _ h1 h2; exact ⟨_, _, rfl, hi, fun _ => rfl, fun _ _ => rfl, h1, h2, fun h => h⟩
        | cons y ys ih2 =>
          intro st most hi hc h1 h2
          obtain ⟨st1, r1, e1, p1⟩ := ih st y hi hc
          have hle := cntD_mono p1.dn hi
          obtain ⟨st2, m2, e2, p2⟩ := ih2 st1 (max most r1) p1.inv (Nat.lt_of_le_of_lt (cntG_mono p1.on p1.dn hi) hc) (by have := p1.lo; omega) (by have := p1.hi; omega)
          refine ⟨st2, m2, by simp only [foldW, e1, e2], p2.inv, fun u => (p2.on u).trans (p1.on u), fun u hu => ?_, p2.lo, p2.hi, fun h => p1.wh (p2.wh h)⟩
          have q := p1.dn u hu
          exact (p2.dn u (by omega)).trans q
      obtain ⟨st2, m2, e2, p2⟩ := fold (goesL x) _ 0 hi1 hc1 (Int.le_refl 0) (by have := cntD_le (l := l) { st with on := mput st.on id 1 }; omega)
      have hon2 : gi st2.on id = 1 := by rw [p2.on]; dsimp only; rw [gi_mput, if_pos rfl]
      have hd2 : gi st2.done id = 0 := p2.inv.ex id hon2
      have hm2 : m2 < 1000000 := by have := p2.hi; omega
      rw [e2]
      dsimp only
      rw [if_pos ⟨hon2, p2.lo, hm2⟩]
      have hlt : cntD l { st2 with on := mput st2.on id 0, done := mput st2.done id (m2 + 1) } < cntD l st2 := by
        unfold cntD
        refine countP_lt (x := id) (fun u hu => ?_) hm (by simp [hd2]) (by simp [gi_mput]; have := p2.lo; omega)
        simp only [beq_iff_eq] at hu ⊢
        rw [gi_mput] at hu
        split at hu
        · have := p2.lo; omega
        · exact hu
      refine ⟨_, _, rfl, ⟨fun u => ?_, fun u => ?_, fun u hu => ?_⟩, fun u => ?_, fun u hu => ?_, by have := p2.lo; omega, by have := p2.hi; omega, p2.wh⟩
      · dsimp only; rw [gi_mput]; split
        · exact .inl rfl
        · exact p2.inv.on u
      · dsimp only; rw [gi_mput]; split
        · exact ⟨by have := p2.lo; omega, by have := p2.hi; omega⟩
        · have := p2.inv.dn u; exact ⟨this.1, by omega⟩
      · dsimp only at hu ⊢
        rw [gi_mput] at hu ⊢
        split at hu
        · cases hu
        · rename_i e; rw [if_neg e]; exact p2.inv.ex u hu
      · dsimp only; rw [gi_mput]; split
        · rename_i e; rw [← e]; exact h3.symm
        · rename_i e; rw [p2.on]; dsimp only; rw [gi_mput, if_neg e]
      · dsimp only; rw [gi_mput]; split
        · rename_i e; rw [← e] at hu; omega
        · exact p2.dn u hu
theorem ginv0 : GInv l gs0 := by
  have h : ∀ u, gi ([] : MI) u = 0 := fun _ => rfl
  refine ⟨fun u => .inl (h u), fun u => ⟨by rw [show gi gs0.done u = 0 from h u]; exact Int.le_refl 0, ?_⟩, fun u _ => h u⟩
  rw [show gi gs0.done u = 0 from h u]
  have := cntD_le (l := l) gs0
  omega
theorem runAll_total (hl : l.length < 100000) : ∃ st', runAll l (l.length + 1) gs0 l = some st' ∧ GInv l st' ∧ ∀ u, gi st'.on u = 0 := by
  have key : ∀ (L : List Node) (st : GS), GInv l st → (∀ u, gi st.on u = 0) → ∃ st', runAll l (l.length + 1) st L = some st' ∧ GInv l st' ∧ ∀ u, gi st'.on u = 0 := by
    intro L
    induction L with
    | nil => intro st h1 h2; exact ⟨st, rfl, h1, h2⟩
    | cons x L ih =>
      intro st h1 h2
      obtain ⟨st1, r1, e1, p1⟩ := walk_total hl (l.length + 1) st x.id h1 (Nat.lt_succ_of_le (by unfold cntG; exact Nat.le_trans List.countP_le_length (by simp [ids])))
      obtain ⟨st2, e2, q1, q2⟩ := ih st1 p1.inv (fun u => (p1.on u).trans (h2 u))
      exact ⟨st2, by simp only [runAll, e1, e2], q1, q2⟩
  exact key l gs0 ginv0 (fun _ => rfl)

/-! ### what it says -/
theorem walk_on : ∀ (k : Nat) (st : GS) (id : Int) (st' : GS) (r : Int), walkF l k st id = some (st', r) → (∀ u, gi st'.on u = gi st.on u) ∧ (st'.whole = true → st.whole = true) := by
  intro k
  induction k with
  | zero => intro st id st' r h; cases h
  | succ k ih =>
    intro st id st' r h
    simp only [walkF] at h
    have fold : ∀ (L : List Int) (st : GS) (m : Int) (st' : GS) (m' : Int), foldW (walkF l k) st m L = some (st', m') → (∀ u, gi st'.on u = gi st.on u) ∧ (st'.whole = true → st.whole = true) := by
      intro L
      induction L with
      | nil => intro st m st' m' h; simp only [foldW, Option.some.injEq, Prod.mk.injEq] at h; rw [← h.1]; exact ⟨fun _ => rfl, fun h => h⟩
      | cons y ys ih2 =>
        intro st m st' m' h
        simp only [foldW] at h
        cases hr : walkF l k st y with
        | none => rw [hr] at h; cases h
        | some p =>
          obtain ⟨st1, r1⟩ := p
          rw [hr] at h
          obtain ⟨a1, a2⟩ := ih _ _ _ _ hr
          obtain ⟨b1, b2⟩ := ih2 _ _ _ _ h
          exact ⟨fun u => (b1 u).trans (a1 u), fun h => a2 (b2 h)⟩
    split at h
    · simp only [Option.some.injEq, Prod.mk.injEq] at h; rw [← h.1]; exact ⟨fun _ => rfl, fun h => h⟩
    · rename_i x hf
      split at h
      · simp only [Option.some.injEq, Prod.mk.injEq] at h; rw [← h.1]; exact ⟨fun _ => rfl, fun h => by cases h⟩
      · split at h
        · simp only [Option.some.injEq, Prod.mk.injEq] at h; rw [← h.1]; exact ⟨fun _ => rfl, fun h => h⟩
        · split at h
          · rename_i h3
            cases hr : foldW (walkF l k) { st with on := mput st.on id 1 } 0 (goesL x) with
            | none => rw [hr] at h; cases h
            | some p =>
              obtain ⟨st1, m1⟩ := p
              rw [hr] at h
              dsimp only at h
              obtain ⟨a1, a2⟩ := fold _ _ _ _ _ hr
              split at h
              · simp only [Option.some.injEq, Prod.mk.injEq] at h
                rw [← h.1]
                refine ⟨fun u => ?_, a2⟩
                dsimp only; rw [gi_mput]; split
                · rename_i e; rw [← e]; exact h3.symm
                · rename_i e; rw [a1]; dsimp only; rw [gi_mput, if_neg e]
              · cases h
          · cases h
def DoneG (l : List Node) (st : GS) : Prop := ∀ u, 0 < gi st.done u → Acc (Rg l) u
theorem walk_acc : ∀ (k : Nat) (st : GS) (id : Int) (st' : GS) (r : Int), DoneG l st → walkF l k st id = some (st', r) → st'.whole = true → DoneG l st' ∧ Acc (Rg l) id := by
  intro k
  induction k with
  | zero => intro st id st' r _ h; cases h
  | succ k ih =>
    intro st id st' r hd h hw
    have fold : ∀ (L : List Int) (st : GS) (m : Int) (st' : GS) (m' : Int), DoneG l st → foldW (walkF l k) st m L = some (st', m') → st'.whole = true → DoneG l st' ∧ ∀ y ∈ L, Acc (Rg l) y := by
      intro L
      induction L with
      | nil => intro st m st' m' hd h hw; simp only [foldW, Option.some.injEq, Prod.mk.injEq] at h; rw [← h.1]; exact ⟨hd, (fun y hy => by cases hy)⟩
      | cons y ys ih2 =>
        intro st m st' m' hd h hw
        simp only [foldW] at h
        cases hr : walkF l k st y with
        | none => rw [hr] at h; cases h
        | some p =>
          obtain ⟨st1, r1⟩ := p
          rw [hr] at h
          have hw1 : st1.whole = true := by
            have key : ∀ (L : List Int) (st : GS) (m : Int) (st' : GS) (m' : Int), foldW (walkF l k) st m L = some (st', m') → st'.whole = true → st.whole = true := by
              intro L
              induction L with
              | nil => intro st m st' m' h hw; simp only [foldW, Option.some.injEq, Prod.mk.injEq] at h; rw [h.1]; exact hw
              | cons y ys ih3 =>
                intro st m st' m' h hw
                simp only [foldW] at h
                cases hr : walkF l k st y with
                | none => rw [hr] at h; cases h
                | some p =>
                  rw [hr] at h
                  exact (walk_on _ _ _ _ _ hr).2 (ih3 _ _ _ _ h hw)
            exact key _ _ _ _ _ h hw
          obtain ⟨a1, a2⟩ := ih _ _ _ _ hd hr hw1
          obtain ⟨b1, b2⟩ := ih2 _ _ _ _ a1 h hw
          refine ⟨b1, fun z hz => ?_⟩
          rcases List.mem_cons.1 hz with rfl | hz
          · exact a2
          · exact b2 z hz
    simp only [walkF] at h
    split at h
    · rename_i hf
      simp only [Option.some.injEq, Prod.mk.injEq] at h
      rw [← h.1]
      exact ⟨hd, Acc.intro _ fun y hy => by unfold Rg nexts at hy; rw [hf] at hy; cases hy⟩
    · rename_i x hf
      split at h
      · simp only [Option.some.injEq, Prod.mk.injEq] at h; rw [← h.1] at hw; cases hw
      · split at h
        · rename_i h2
          simp only [Option.some.injEq, Prod.mk.injEq] at h; rw [← h.1]; exact ⟨hd, hd id h2⟩
        · split at h
          · rename_i h3
            cases hr : foldW (walkF l k) { st with on := mput st.on id 1 } 0 (goesL x) with
            | none => rw [hr] at h; cases h
            | some p =>
              obtain ⟨st1, m1⟩ := p
              rw [hr] at h
              dsimp only at h
              split at h
              · simp only [Option.some.injEq, Prod.mk.injEq] at h
                rw [← h.1] at hw ⊢
                obtain ⟨a1, a2⟩ := fold _ { st with on := mput st.on id 1 } _ _ _ hd hr hw
                have hacc : Acc (Rg l) id := Acc.intro _ fun y hy => by unfold Rg nexts at hy; rw [hf] at hy; exact a2 y hy
                refine ⟨fun u hu => ?_, hacc⟩
                dsimp only at hu; rw [gi_mput] at hu; split at hu
                · rename_i e; rw [← e]; exact hacc
                · exact a1 u hu
              · cases h
          · cases h
inductive WayN {α : Type} (N : α → List α) : α → α → Prop
  | one {x y} : y ∈ N x → WayN N x y
  | more {x y z} : WayN N x y → z ∈ N y → WayN N x z
theorem WayN.first {α : Type} {N : α → List α} {x z : α} (h : WayN N x z) : ∃ w, w ∈ N x ∧ (w = z ∨ WayN N w z) := by
  induction h with
  | one h => exact ⟨_, h, .inl rfl⟩
  | more h1 h2 ih =>
    obtain ⟨w, h3, h4⟩ := ih
    rcases h4 with rfl | h4
    · exact ⟨w, h3, .inr (.one h2)⟩
    · exact ⟨w, h3, .inr (.more h4 h2)⟩
theorem WayN.not_self {α : Type} {N : α → List α} {u : α} (ha : Acc (fun y x => y ∈ N x) u) : ¬ WayN N u u := by
  induction ha with
  | intro v _ ih =>
    intro h
    obtain ⟨w, h1, h2⟩ := h.first
    rcases h2 with rfl | h2
    · exact ih w h1 h
    · exact ih w h1 (.more h2 h1)
theorem walk_cyc : ∀ (k : Nat) (st : GS) (id : Int) (st' : GS) (r : Int), (∀ u, 0 < gi st.on u → WayN (nexts l) u id) → st.whole = true → walkF l k st id = some (st', r) → st'.whole = false → ∃ u, WayN (nexts l) u u := by
  intro k
  induction k with
  | zero => intro st id st' r _ _ h; cases h
  | succ k ih =>
    intro st id st' r hon hst h hw
    have fold : ∀ (L : List Int) (st : GS) (m : Int) (st' : GS) (m' : Int), (∀ y ∈ L, y ∈ nexts l id) → (∀ u, 0 < gi st.on u → u = id ∨ WayN (nexts l) u id) → st.whole = true → foldW (walkF l k) st m L = some (st', m') → st'.whole = false → ∃ u, WayN (nexts l) u u := by
      intro L
      induction L with
      | nil => intro st m st' m' _ _ hst h hw; simp only [foldW, Option.some.injEq, Prod.mk.injEq] at h; rw [← h.1, hst] at hw; cases hw
      | cons y ys ih2 =>
        intro st m st' m' hL hon hst h hw
        simp only [foldW] at h
        cases hr : walkF l k st y with
        | none => rw [hr] at h; cases h
        | some p =>
          obtain ⟨st1, r1⟩ := p
          rw [hr] at h
          cases hw1 : st1.whole with
          | false =>
            refine ih _ _ _ _ (fun u hu => ?_) hst hr hw1
            rcases hon u hu with rfl | h1
            · exact .one (hL y (by simp))
            · exact .more h1 (hL y (by simp))
          | true =>
            exact ih2 st1 _ st' m' (fun z hz => hL z (by simp [hz])) (fun u hu => hon u (by rw [← (walk_on _ _ _ _ _ hr).1]; exact hu)) hw1 h hw
    simp only [walkF] at h
    split at h
    · simp only [Option.some.injEq, Prod.mk.injEq] at h; rw [← h.1, hst] at hw; cases hw
    · rename_i x hf
      split at h
      · rename_i h1
        exact ⟨id, hon id h1⟩
      · split at h
        · simp only [Option.some.injEq, Prod.mk.injEq] at h; rw [← h.1, hst] at hw; cases hw
        · split at h
          · cases hr : foldW (walkF l k) { st with on := mput st.on id 1 } 0 (goesL x) with
            | none => rw [hr] at h; cases h
            | some p =>
              obtain ⟨st1, m1⟩ := p
              rw [hr] at h
              dsimp only at h
              split at h
              · simp only [Option.some.injEq, Prod.mk.injEq] at h
                rw [← h.1] at hw
                refine fold (goesL x) { st with on := mput st.on id 1 } 0 st1 m1 (fun y hy => by unfold nexts; rw [hf]; exact hy) (fun u hu => ?_) hst hr hw
                dsimp only at hu; rw [gi_mput] at hu; split at hu
                · rename_i e; exact .inl e.symm
                · exact .inr (hon u hu)
              · cases h
          · cases h
theorem runAll_sem : ∀ (k : Nat) (L : List Node) (st st' : GS), (∀ u, gi st.on u = 0) → DoneG l st → st.whole = true → runAll l k st L = some st' →
    (st'.whole = true → ∀ x ∈ L, Acc (Rg l) x.id) ∧ (st'.whole = false → ∃ u, WayN (nexts l) u u) := by
  intro k L
  induction L with
  | nil => intro st st' _ _ hw h; simp only [runAll, Option.some.injEq] at h; subst h; exact ⟨fun _ x hx => (by cases hx), fun h => by rw [hw] at h; cases h⟩
  | cons x L ih =>
    intro st st' hon hd hw h
    simp only [runAll] at h
    cases hr : walkF l k st x.id with
    | none => rw [hr] at h; cases h
    | some p =>
      obtain ⟨st1, r1⟩ := p
      rw [hr] at h
      dsimp only at h
      have hon1 : ∀ u, gi st1.on u = 0 := fun u => ((walk_on _ _ _ _ _ hr).1 u).trans (hon u)
      cases hw1 : st1.whole with
      | false =>
        have hc := walk_cyc k st x.id st1 r1 (fun u hu => by rw [hon u] at hu; cases hu) hw hr hw1
        refine ⟨fun h2 => ?_, fun _ => hc⟩
        have key : ∀ (L : List Node) (st st' : GS), runAll l k st L = some st' → st'.whole = true → st.whole = true := by
          intro L
          induction L with
          | nil => intro st st' h hw; simp only [runAll, Option.some.injEq] at h; rw [h]; exact hw
          | cons y ys ih3 =>
            intro st st' h hw
            simp only [runAll] at h
            cases hq : walkF l k st y.id with
            | none => rw [hq] at h; cases h
            | some p => rw [hq] at h; exact (walk_on _ _ _ _ _ hq).2 (ih3 _ _ h hw)
        rw [key L st1 st' h h2] at hw1; cases hw1
      | true =>
        obtain ⟨a1, a2⟩ := walk_acc k st x.id st1 r1 hd hr hw1
        obtain ⟨b1, b2⟩ := ih st1 st' hon1 a1 hw1 h
        refine ⟨fun h2 y hy => ?_, b2⟩
        rcases List.mem_cons.1 hy with rfl | hy
        · exact a2
        · exact b1 h2 y hy
theorem whole_iff {k : Nat} {st' : GS} (h : runAll l k gs0 l = some st') : st'.whole = true ↔ acyG l := by
  obtain ⟨h1, h2⟩ := runAll_sem k l gs0 st' (fun _ => rfl) (fun u hu => by have e : gi gs0.done u = 0 := rfl; omega) rfl h
  constructor
  · intro hw id
    cases hf : findN l id with
    | none => exact Acc.intro _ fun y hy => by unfold Rg nexts at hy; rw [hf] at hy; cases hy
    | some x =>
      obtain ⟨_, hx, e⟩ := mem_ids hf
      rw [← e]; exact h1 hw x hx
  · intro ha
    cases hw : st'.whole with
    | true => rfl
    | false =>
      obtain ⟨u, hu⟩ := h2 hw
      exact absurd hu (WayN.not_self (ha u))
/-! ### the numbers -/
def rankOf (l : List Node) (V : Int → Int) (id : Int) : Int := match findN l id with
  | none => 0
  | some x => ((goesL x).map V).foldl max 0 + 1
def IsRank (l : List Node) (V : Int → Int) : Prop := ∀ id, V id = rankOf l V id
theorem rank_congr {V W : Int → Int} {id : Int} (h : ∀ y ∈ nexts l id, V y = W y) : rankOf l V id = rankOf l W id := by
  unfold rankOf nexts at *
  cases hf : findN l id with
  | none => rfl
  | some x =>
    rw [hf] at h
    dsimp only
    rw [show (goesL x).map V = (goesL x).map W from List.map_congr_left h]
open Classical in
theorem rank_exists (ha : acyG l) : ∃ V, IsRank l V := by
  have wf : WellFounded (Rg l) := ⟨ha⟩
  refine ⟨wf.fix fun x rec => rankOf l (fun y => if h : Rg l y x then rec y h else 0) x, fun x => ?_⟩
  rw [wf.fix_eq]
  refine rank_congr fun y hy => ?_
  have : Rg l y x := hy
  simp only [this, dif_pos]
theorem rank_unique (ha : acyG l) {V W : Int → Int} (hV : IsRank l V) (hW : IsRank l W) : V = W := by
  funext x
  induction ha x with
  | intro x _ ih => rw [hV x, hW x]; exact rank_congr fun y hy => ih y hy
theorem walk_rank {V : Int → Int} (hV : IsRank l V) : ∀ (k : Nat) (st : GS) (id : Int) (st' : GS) (r : Int), (∀ u, 0 < gi st.done u → gi st.done u = V u) → walkF l k st id = some (st', r) → st'.whole = true → r = V id ∧ ∀ u, 0 < gi st'.done u → gi st'.done u = V u := by
  intro k
  induction k with
  | zero => intro st id st' r _ h; cases h
  | succ k ih =>
    intro st id st' r hd h hw
    have wh : ∀ (L : List Int) (st : GS) (m : Int) (st' : GS) (m' : Int), foldW (walkF l k) st m L = some (st', m') → st'.whole = true → st.whole = true := by
      intro L
      induction L with
      | nil => intro st m st' m' h hw; simp only [foldW, Option.some.injEq, Prod.mk.injEq] at h; rw [h.1]; exact hw
      | cons y ys ih3 =>
        intro st m st' m' h hw
        simp only [foldW] at h
        cases hr : walkF l k st y with
        | none => rw [hr] at h; cases h
        | some p => rw [hr] at h; exact (walk_on _ _ _ _ _ hr).2 (ih3 _ _ _ _ h hw)
    have fold : ∀ (L : List Int) (st : GS) (m : Int) (st' : GS) (m' : Int), (∀ u, 0 < gi st.done u → gi st.done u = V u) → foldW (walkF l k) st m L = some (st', m') → st'.whole = true → m' = (L.map V).foldl max m ∧ ∀ u, 0 < gi st'.done u → gi st'.done u = V u := by
      intro L
      induction L with
      | nil => intro st m st' m' hd h hw; simp only [foldW, Option.some.injEq, Prod.mk.injEq] at h; rw [← h.1, ← h.2]; exact ⟨rfl, hd⟩
      | cons y ys ih2 =>
        intro st m st' m' hd h hw
        simp only [foldW] at h
        cases hr : walkF l k st y with
        | none => rw [hr] at h; cases h
        | some p =>
          obtain ⟨st1, r1⟩ := p
          rw [hr] at h
          obtain ⟨rfl, a2⟩ := ih _ _ _ _ hd hr (wh _ _ _ _ _ h hw)
          exact ih2 _ _ _ _ a2 h hw
    simp only [walkF] at h
    split at h
    · rename_i hf
      simp only [Option.some.injEq, Prod.mk.injEq] at h
      rw [← h.1, ← h.2]
      exact ⟨by rw [hV id]; unfold rankOf; rw [hf], hd⟩
    · rename_i x hf
      split at h
      · simp only [Option.some.injEq, Prod.mk.injEq] at h; rw [← h.1] at hw; cases hw
      · split at h
        · rename_i h2
          simp only [Option.some.injEq, Prod.mk.injEq] at h; rw [← h.1, ← h.2]; exact ⟨hd id h2, hd⟩
        · split at h
          · cases hr : foldW (walkF l k) { st with on := mput st.on id 1 } 0 (goesL x) with
            | none => rw [hr] at h; cases h
            | some p =>
              obtain ⟨st1, m1⟩ := p
              rw [hr] at h
              dsimp only at h
              split at h
              · simp only [Option.some.injEq, Prod.mk.injEq] at h
                rw [← h.1] at hw ⊢
                obtain ⟨a1, a2⟩ := fold _ { st with on := mput st.on id 1 } _ _ _ hd hr hw
                have e : m1 + 1 = V id := by rw [hV id]; unfold rankOf; rw [hf, a1]
                refine ⟨by rw [← h.2]; exact e, fun u hu => ?_⟩
                dsimp only at hu ⊢; rw [gi_mput] at hu ⊢; split at hu
                · rename_i e1; rw [if_pos e1, ← e1]; exact e
                · rename_i e1; rw [if_neg e1]; exact a2 u hu
              · cases h
          · cases h
theorem runAll_rank {V : Int → Int} (hV : IsRank l V) (k : Nat) : ∀ (L : List Node) (st st' : GS), (∀ u, 0 < gi st.done u → gi st.done u = V u) → runAll l k st L = some st' → st'.whole = true → ∀ u, 0 < gi st'.done u → gi st'.done u = V u := by
  intro L
  induction L with
  | nil => intro st st' hd h _; simp only [runAll, Option.some.injEq] at h; subst h; exact hd
  | cons x L ih =>
    intro st st' hd h hw
    simp only [runAll] at h
    cases hr : walkF l k st x.id with
    | none => rw [hr] at h; cases h
    | some p =>
      obtain ⟨st1, r1⟩ := p
      rw [hr] at h
      have key : ∀ (L : List Node) (st st' : GS), runAll l k st L = some st' → st'.whole = true → st.whole = true := by
        intro L
        induction L with
        | nil => intro st st' h hw; simp only [runAll, Option.some.injEq] at h; rw [h]; exact hw
        | cons y ys ih3 =>
          intro st st' h hw
          simp only [runAll] at h
          cases hq : walkF l k st y.id with
          | none => rw [hq] at h; cases h
          | some p => rw [hq] at h; exact (walk_on _ _ _ _ _ hq).2 (ih3 _ _ h hw)
      exact ih st1 st' (walk_rank hV k st x.id st1 r1 hd hr (key L st1 st' h hw)).2 h hw
open Classical in
def rank (l : List Node) : Int → Int := if h : ∃ V, IsRank l V then h.choose else fun _ => 0
theorem rank_is (ha : acyG l) : IsRank l (rank l) := by
  have h := rank_exists ha
  unfold rank
  rw [dif_pos h]
  exact h.choose_spec
end
end Go.AM.B

/- Package graph: May and Longest, by what they tell. -/
namespace Go.AM.B
open Go.Proofs.Ytebogdeaiecldaa.Tab
noncomputable section
set_option linter.unusedVariables false
set_option linter.unusedSimpArgs false
set_option maxHeartbeats 4000000

def mayE (l : List Node) : Int := if formsB l = false then 3 else if 32 < l.length then 12 else if refsB l = false then 8 else if dB (acyG l) = false then 10 else 0
theorem may_ok (nodes : Sl Node) (hl : nodes.l.length < 100000) (ha : ∀ x ∈ nodes.l, x.arms.l.length < 100000) : VC1 T 38 [nodes.av 9 Node.enc] (.int .i64 (mayE nodes.l)) := by
  have h1 := forms_c nodes hl ha
  have h2 := refs_c nodes hl ha
  obtain ⟨st', e, hinv, hon⟩ := runAll_total (l := nodes.l) hl
  have hw := whole_iff e
  have h3 := longest_c nodes hl ha _ st' e
  have hwb : st'.whole = dB (acyG nodes.l) := by
    cases h : st'.whole with
    | true => exact dB_yes (hw.1 h)
    | false => exact dB_no (fun ha => by rw [hw.2 ha] at h; cases h)
  refine VC1.of (vf := v38) rfl rfl ?_
  unfold v38
  repeat (first | refine W.seq ?_ | refine W.ops ?_ | refine WL.off rfl rfl ?_ | refine WL.val rfl rfl rfl ?_ | refine WL.nil ?_ | refine W.block ?_ | refine W.outBlock ?_ | refine W.skip ?_ | refine W.exit rfl ?_ | refine WL.box rfl rfl rfl ?_ | refine W.opsD ?_ | refine W.condT rfl ?_ | refine W.condF rfl ?_)
  refine WL.view rfl rfl rfl h1 rfl rfl ?_
  unfold mayE
  cases c1 : formsB nodes.l
  · repeat (first | refine W.seq ?_ | refine W.ops ?_ | refine WL.off rfl rfl ?_ | refine WL.val rfl rfl rfl ?_ | refine WL.nil ?_ | refine W.block ?_ | refine W.outBlock ?_ | refine W.skip ?_ | refine W.exit rfl ?_ | refine WL.box rfl rfl rfl ?_ | refine W.opsD ?_ | refine W.condT rfl ?_ | refine W.condF rfl ?_)
    exact W.ret ⟨_, rfl, rfl⟩
  repeat (first | refine W.seq ?_ | refine W.ops ?_ | refine WL.off rfl rfl ?_ | refine WL.val rfl rfl rfl ?_ | refine WL.nil ?_ | refine W.block ?_ | refine W.outBlock ?_ | refine W.skip ?_ | refine W.exit rfl ?_ | refine WL.box rfl rfl rfl ?_ | refine W.opsD ?_ | refine W.condT rfl ?_ | refine W.condF rfl ?_)
  refine W.condS rfl (fun c2 => ?_) (fun c2 => ?_)
  · have c2' : 32 < nodes.l.length := by have := of_decide_eq_true c2; omega
    repeat (first | refine W.seq ?_ | refine W.ops ?_ | refine WL.off rfl rfl ?_ | refine WL.val rfl rfl rfl ?_ | refine WL.nil ?_ | refine W.block ?_ | refine W.outBlock ?_ | refine W.skip ?_ | refine W.exit rfl ?_ | refine WL.box rfl rfl rfl ?_ | refine W.opsD ?_ | refine W.condT rfl ?_ | refine W.condF rfl ?_)
    exact W.ret ⟨_, rfl, retI (by simp [c2'])⟩
  have c2' : ¬ 32 < nodes.l.length := by have := of_decide_eq_false c2; omega
  repeat (first | refine W.seq ?_ | refine W.ops ?_ | refine WL.off rfl rfl ?_ | refine WL.val rfl rfl rfl ?_ | refine WL.nil ?_ | refine W.block ?_ | refine W.outBlock ?_ | refine W.skip ?_ | refine W.exit rfl ?_ | refine WL.box rfl rfl rfl ?_ | refine W.opsD ?_ | refine W.condT rfl ?_ | refine W.condF rfl ?_)
  refine WL.view rfl rfl rfl h2 rfl rfl ?_
  cases c3 : refsB nodes.l
  · repeat (first | refine W.seq ?_ | refine W.ops ?_ | refine WL.off rfl rfl ?_ | refine WL.val rfl rfl rfl ?_ | refine WL.nil ?_ | refine W.block ?_ | refine W.outBlock ?_ | refine W.skip ?_ | refine W.exit rfl ?_ | refine WL.box rfl rfl rfl ?_ | refine W.opsD ?_ | refine W.condT rfl ?_ | refine W.condF rfl ?_)
    exact W.ret ⟨_, rfl, retI (by simp [c2'])⟩
  repeat (first | refine W.seq ?_ | refine W.ops ?_ | refine WL.off rfl rfl ?_ | refine WL.val rfl rfl rfl ?_ | refine WL.nil ?_ | refine W.block ?_ | refine W.outBlock ?_ | refine W.skip ?_ | refine W.exit rfl ?_ | refine WL.box rfl rfl rfl ?_ | refine W.opsD ?_ | refine W.condT rfl ?_ | refine W.condF rfl ?_)
  refine WL.eff rfl rfl rfl ((h3 _).mono ?_)
  rintro v h' n' ⟨rfl, hG⟩
  rw [hwb]
  cases c4 : dB (acyG nodes.l)
  · repeat (first | refine W.seq ?_ | refine W.ops ?_ | refine WL.off rfl rfl ?_ | refine WL.val rfl rfl rfl ?_ | refine WL.nil ?_ | refine W.block ?_ | refine W.outBlock ?_ | refine W.skip ?_ | refine W.exit rfl ?_ | refine WL.box rfl rfl rfl ?_ | refine W.opsD ?_ | refine W.condT rfl ?_ | refine W.condF rfl ?_)
    exact W.ret ⟨_, rfl, retI (by simp [c2'])⟩
  · repeat (first | refine W.seq ?_ | refine W.ops ?_ | refine WL.off rfl rfl ?_ | refine WL.val rfl rfl rfl ?_ | refine WL.nil ?_ | refine W.block ?_ | refine W.outBlock ?_ | refine W.skip ?_ | refine W.exit rfl ?_ | refine WL.box rfl rfl rfl ?_ | refine W.opsD ?_ | refine W.condT rfl ?_ | refine W.condF rfl ?_)
    exact W.ret ⟨_, rfl, retI (by simp [c2'])⟩
def longB (l : List Node) : Int := if mayE l = 0 then rank l 1 else 0
theorem longest_ok (nodes : Sl Node) (hl : nodes.l.length < 100000) (ha : ∀ x ∈ nodes.l, x.arms.l.length < 100000) : VC1 T 27 [nodes.av 9 Node.enc] (.int .i64 (longB nodes.l)) := by
  have h1 := may_ok nodes hl ha
  obtain ⟨st', e, hinv, hon⟩ := runAll_total (l := nodes.l) hl
  have hw := whole_iff e
  have h3 := longest_c nodes hl ha _ st' e
  refine VC1.of (vf := v27) rfl rfl ?_
  unfold v27
  repeat (first | refine W.seq ?_ | refine W.ops ?_ | refine WL.off rfl rfl ?_ | refine WL.val rfl rfl rfl ?_ | refine WL.nil ?_ | refine W.block ?_ | refine W.outBlock ?_ | refine W.skip ?_ | refine W.exit rfl ?_ | refine WL.box rfl rfl rfl ?_ | refine W.opsD ?_ | refine W.condT rfl ?_ | refine W.condF rfl ?_)
  refine WL.view rfl rfl rfl h1 rfl rfl ?_
  unfold longB
  by_cases hm : mayE nodes.l = 0
  · rw [hm, if_pos rfl]
    have hac : acyG nodes.l := by
      unfold mayE at hm
      split at hm
      · cases hm
      · split at hm
        · cases hm
        · split at hm
          · cases hm
          · split at hm
            · cases hm
            · rename_i c; simp only [Bool.not_eq_false] at c; exact dB_iff.1 c
    have hwt := hw.2 hac
    have hV := rank_is hac
    have hdn := runAll_rank hV _ nodes.l gs0 st' (fun u hu => by have e : gi gs0.done u = 0 := rfl; omega) e hwt
    obtain ⟨st2, r2, e2, p2⟩ := walk_total hl (nodes.l.length + 1) st' 1 hinv (Nat.lt_succ_of_le (by unfold cntG; exact Nat.le_trans List.countP_le_length (by simp [ids])))
    have hw2 : st2.whole = true := by
      cases h : st2.whole with
      | true => rfl
      | false =>
        obtain ⟨u, hu⟩ := walk_cyc _ st' 1 st2 r2 (fun u hu => by rw [hon u] at hu; cases hu) hwt e2 h
        exact absurd hu (WayN.not_self (hac u))
    have hr := (walk_rank hV _ st' 1 st2 r2 hdn e2 hw2).1
    repeat (first | refine W.seq ?_ | refine W.ops ?_ | refine WL.off rfl rfl ?_ | refine WL.val rfl rfl rfl ?_ | refine WL.nil ?_ | refine W.block ?_ | refine W.outBlock ?_ | refine W.skip ?_ | refine W.exit rfl ?_ | refine WL.box rfl rfl rfl ?_ | refine W.opsD ?_ | refine W.condT rfl ?_ | refine W.condF rfl ?_)
    refine WL.eff rfl rfl rfl ((h3 _).mono ?_)
    rintro v h' n' ⟨rfl, hG⟩
    repeat (first | refine W.seq ?_ | refine W.ops ?_ | refine WL.off rfl rfl ?_ | refine WL.val rfl rfl rfl ?_ | refine WL.nil ?_ | refine W.block ?_ | refine W.outBlock ?_ | refine W.skip ?_ | refine W.exit rfl ?_ | refine WL.box rfl rfl rfl ?_ | refine W.opsD ?_ | refine W.condT rfl ?_ | refine W.condF rfl ?_)
    refine WL.effv rfl rfl rfl rfl ((walk_c _ nodes hl ha _ st' 1 st2 r2 _ _ e2 (hG.mono (by omega))).mono ?_)
    rintro u h2 n2 ⟨rfl, hG2⟩
    repeat (first | refine W.seq ?_ | refine W.ops ?_ | refine WL.off rfl rfl ?_ | refine WL.val rfl rfl rfl ?_ | refine WL.nil ?_ | refine W.block ?_ | refine W.outBlock ?_ | refine W.skip ?_ | refine W.exit rfl ?_ | refine WL.box rfl rfl rfl ?_ | refine W.opsD ?_ | refine W.condT rfl ?_ | refine W.condF rfl ?_)
    exact W.ret ⟨_, rfl, retI hr⟩
  · rw [if_neg hm]
    have hne : (!(mayE nodes.l == 0)) = true := by simpa using hm
    repeat (first | refine W.seq ?_ | refine W.ops ?_ | refine WL.off rfl rfl ?_ | refine WL.val rfl rfl rfl ?_ | refine WL.nil ?_ | refine W.block ?_ | refine W.outBlock ?_ | refine W.skip ?_ | refine W.exit rfl ?_ | refine WL.box rfl rfl rfl ?_ | refine W.opsD ?_ | refine W.condT rfl ?_ | refine W.condF rfl ?_)
    refine W.condS rfl (fun c => ?_) (fun c => ?_)
    · repeat (first | refine W.seq ?_ | refine W.ops ?_ | refine WL.off rfl rfl ?_ | refine WL.val rfl rfl rfl ?_ | refine WL.nil ?_ | refine W.block ?_ | refine W.outBlock ?_ | refine W.skip ?_ | refine W.exit rfl ?_ | refine WL.box rfl rfl rfl ?_ | refine W.opsD ?_ | refine W.condT rfl ?_ | refine W.condF rfl ?_)
      exact W.ret ⟨_, rfl, rfl⟩
    · exact absurd c (by simpa using hm)
end
end Go.AM.B

/- Package bound: Of; the guard 'large'. -/
namespace Go.AM.B
open Go.Proofs.Ytebogdeaiecldaa.Tab
noncomputable section
set_option linter.unusedVariables false
set_option linter.unusedSimpArgs false
set_option maxHeartbeats 4000000

theorem codeV_bnd {V : Th → Int} (hV : ∀ y, 0 ≤ V y) : ∀ (l : List Instr), ∀ r ∈ codeV V l, 0 ≤ r ∧ r ≤ 65537 := by
  intro l
  induction l with
  | nil => intro r hr; simp only [codeV, List.mem_singleton] at hr; omega
  | cons i l ih =>
    intro r hr
    have h0 : ∀ k, 0 ≤ (codeV V l).getD k 0 := by
      intro k
      rw [List.getD_eq_getElem?_getD]
      cases h : (codeV V l)[k]? with
      | none => exact Int.le_refl 0
      | some v => exact (ih v (List.mem_of_getElem? h)).1
    simp only [codeV] at hr
    rcases List.mem_cons.1 hr with rfl | hr
    · have := h0 0
      have := h0 i.n.toNat
      have := hV (0, i.n)
      have := hV (2, i.n)
      unfold over
      split
      · omega
      · split
        · omega
        · split
          · omega
          · split <;> omega
    · exact ih r hr
theorem foldl_max_nn : ∀ (l : List Int) (n : Int), 0 ≤ n → 0 ≤ l.foldl max n := by
  intro l
  induction l with
  | nil => intro n h; exact h
  | cons a l ih => intro n h; exact ih _ (by omega)
theorem val_bnd {s : Solv} (ha : acy s) {V : Th → Int} (hV : IsVal s V) : ∀ x, 0 ≤ V x ∧ V x ≤ 65537 := by
  intro x
  induction ha x with
  | intro x _ ih =>
    have hle : V x ≤ 65537 := by rw [hV x]; unfold comb over; omega
    refine ⟨?_, hle⟩
    -- the numbers below are not negative
    let V' : Th → Int := fun y => max 0 (V y)
    have e : comb s V x = comb s V' x := comb_congr fun y hy => by have := (ih y hy).1; simp only [V']; omega
    rw [hV x, e]
    have hV' : ∀ y, 0 ≤ V' y := fun y => by simp only [V']; omega
    have h0 : 0 ≤ comb0 s V' x := by
      unfold comb0
      split
      · split
        · have := foldl_max_nn ((lookL s.tables x.2).map fun b => V' (1, b)) 0 (Int.le_refl 0); omega
        · exact foldl_max_nn _ 0 (Int.le_refl 0)
      · split
        · rw [List.getD_eq_getElem?_getD]
          cases h : (codeV V' (lookL s.blocks x.2))[0]? with
          | none => exact Int.le_refl 0
          | some v => exact (codeV_bnd hV' _ v (List.mem_of_getElem? h)).1
        · have key : ∀ (l : List Int) (n : Int), (∀ r ∈ l, 0 ≤ r) → 0 ≤ n → 0 ≤ l.foldl (fun n r => if kindOf (s.group x.2) = 1 then min over (n + r) else max n r) n := by
            intro l
            induction l with
            | nil => intro n _ h; exact h
            | cons a l ih2 =>
              intro n hl h
              refine ih2 _ (fun r hr => hl r (by simp [hr])) ?_
              have := hl a (by simp)
              dsimp only
              unfold over
              split <;> omega
          exact key _ 0 (fun r hr => by obtain ⟨b, _, rfl⟩ := List.mem_map.1 hr; exact hV' _) (Int.le_refl 0)
    unfold comb over
    omega
theorem rank_bnd {l : List Node} (hl : l.length < 100000) (ha : acyG l) : 0 ≤ rank l 1 ∧ rank l 1 ≤ l.length := by
  obtain ⟨st', e, hinv, hon⟩ := runAll_total (l := l) hl
  have hwt := (whole_iff e).2 ha
  have hV := rank_is ha
  have hdn := runAll_rank hV _ l gs0 st' (fun u hu => by have e : gi gs0.done u = 0 := rfl; omega) e hwt
  obtain ⟨st2, r2, e2, p2⟩ := walk_total hl (l.length + 1) st' 1 hinv (Nat.lt_succ_of_le (by unfold cntG; exact Nat.le_trans List.countP_le_length (by simp [ids])))
  have hw2 : st2.whole = true := by
    cases h : st2.whole with
    | true => rfl
    | false =>
      obtain ⟨u, hu⟩ := walk_cyc _ st' 1 st2 r2 (fun u hu => by rw [hon u] at hu; cases hu) hwt e2 h
      exact absurd hu (WayN.not_self (ha u))
  have hr := (walk_rank hV _ st' 1 st2 r2 hdn e2 hw2).1
  rw [← hr]
  exact ⟨p2.lo, by have := p2.hi; omega⟩
theorem mayE_acy {l : List Node} (hm : mayE l = 0) : acyG l := by
  unfold mayE at hm
  split at hm
  · cases hm
  · split at hm
    · cases hm
    · split at hm
      · cases hm
      · split at hm
        · cases hm
        · rename_i c; simp only [Bool.not_eq_false] at c; exact dB_iff.1 c
theorem longB_bnd {l : List Node} (hl : l.length < 100000) : 0 ≤ longB l ∧ longB l ≤ l.length := by
  unfold longB
  split
  · rename_i h; exact rank_bnd hl (mayE_acy h)
  · omega
/-- What Of tells. -/
def ofB (c : Config) : Int × Int := if (bnd (solve c) (0, 1)).2 = 0 then (min 65537 ((bnd (solve c) (0, 1)).1 + longB c.nodes.l), 0) else (0, 10)
theorem ofc_c (c : Config) (sm : Small c) : VC1 T 12 [.agg c.enc] (pairAV (ofB c)) := by
  have h1 := table_c c sm 1
  have h2 := longest_ok c.nodes sm.sn sm.sa
  have hb := longB_bnd (l := c.nodes.l) sm.sn
  have hn := sm.sn
  refine VC1.of (vf := v12) rfl rfl ?_
  unfold v12
  repeat (first | refine W.seq ?_ | refine W.ops ?_ | refine WL.off rfl rfl ?_ | refine WL.val rfl rfl rfl ?_ | refine WL.nil ?_ | refine W.block ?_ | refine W.outBlock ?_ | refine W.skip ?_ | refine W.exit rfl ?_ | refine WL.box rfl rfl rfl ?_ | refine W.opsD ?_ | refine W.condT rfl ?_ | refine W.condF rfl ?_)
  refine WL.view rfl rfl rfl h1 rfl rfl ?_
  by_cases ha : acy (solve c)
  · have e : bnd (solve c) (0, 1) = (val (solve c) (0, 1), 0) := by simp [bnd, ha]
    have hv := val_bnd ha (val_is ha) (0, 1)
    unfold ofB
    rw [e]
    have ew : IntKind.wrap .i64 (val (solve c) (0, 1) + longB c.nodes.l) = val (solve c) (0, 1) + longB c.nodes.l := wrap64 (by omega) (by omega)
    repeat (first | refine W.seq ?_ | refine W.ops ?_ | refine WL.off rfl rfl ?_ | refine WL.val rfl rfl rfl ?_ | refine WL.nil ?_ | refine W.block ?_ | refine W.outBlock ?_ | refine W.skip ?_ | refine W.exit rfl ?_ | refine WL.box rfl rfl rfl ?_ | refine W.opsD ?_ | refine W.condT rfl ?_ | refine W.condF rfl ?_)
    refine WL.view rfl rfl rfl h2 rfl rfl ?_
    repeat (first | refine W.seq ?_ | refine W.ops ?_ | refine WL.off rfl rfl ?_ | refine WL.val rfl rfl rfl ?_ | refine WL.nil ?_ | refine W.block ?_ | refine W.outBlock ?_ | refine W.skip ?_ | refine W.exit rfl ?_ | refine WL.box rfl rfl rfl ?_ | refine W.opsD ?_ | refine W.condT rfl ?_ | refine W.condF rfl ?_)
    refine W.ret ⟨_, rfl, ?_⟩
    rw [ew]; rfl
  · have e : bnd (solve c) (0, 1) = (0, 10) := by simp [bnd, ha]
    unfold ofB
    rw [e]
    repeat (first | refine W.seq ?_ | refine W.ops ?_ | refine WL.off rfl rfl ?_ | refine WL.val rfl rfl rfl ?_ | refine WL.nil ?_ | refine W.block ?_ | refine W.outBlock ?_ | refine W.skip ?_ | refine W.exit rfl ?_ | refine WL.box rfl rfl rfl ?_ | refine W.opsD ?_ | refine W.condT rfl ?_ | refine W.condF rfl ?_)
    exact W.ret ⟨_, rfl, rfl⟩
end
end Go.AM.B

/- AM, part 31: what came in, as abstract values; the call of a law. -/
namespace Go.AM
noncomputable section
set_option linter.unusedVariables false
set_option linter.unusedSimpArgs false

theorem mapM_get {α β : Type} {f : α → Option β} : ∀ {l : List α} {ys : List β}, l.mapM f = some ys → ys.length = l.length ∧ ∀ (i : Nat) (y : β), ys[i]? = some y → ∃ x, l[i]? = some x ∧ f x = some y := by
  intro l
  induction l with
  | nil => intro ys h; simp at h; subst h; exact ⟨rfl, fun i y h => by simp at h⟩
  | cons a l ih =>
    intro ys h
    rw [List.mapM_cons] at h
    cases ha : f a with
    | none => rw [ha] at h; simp at h
    | some b =>
      cases hl : l.mapM f with
      | none => rw [ha, hl] at h; simp at h
      | some bs =>
        rw [ha, hl] at h
        simp at h
        subst h
        obtain ⟨h1, h2⟩ := ih hl
        refine ⟨by simp [h1], fun i y hy => ?_⟩
        cases i with
        | zero => simp at hy; subst hy; exact ⟨a, rfl, ha⟩
        | succ i => simp at hy; obtain ⟨x, q1, q2⟩ := h2 i y hy; exact ⟨x, by simpa using q1, q2⟩

variable {P : Program} {W : World} {F : Nat → Prop}
def RVl (F : Nat → Prop) (W : World) (l : List AV) (cs : List Value) : Prop := l.length = cs.length ∧ ∀ (j : Nat) (u : AV) (c : Value), l[j]? = some u → cs[j]? = some c → RV F W ι0 u c
theorem RVl.nil : RVl F W [] [] := ⟨rfl, fun j u c h => by simp at h⟩
theorem RVl.one {u : AV} {c : Value} (h : RV F W ι0 u c) : RVl F W [u] [c] := ⟨rfl, fun j u' c' h1 h2 => by
  cases j with
  | zero => simp at h1 h2; subst h1; subst h2; exact h
  | succ j => simp at h1⟩
theorem RVl.append {l m : List AV} {cs ds : List Value} (h : RVl F W l cs) (k : RVl F W m ds) : RVl F W (l ++ m) (cs ++ ds) := by
  refine ⟨by simp [h.1, k.1], fun j u c h1 h2 => ?_⟩
  have e := h.1
  by_cases hj : j < l.length
  · rw [List.getElem?_append_left hj] at h1
    rw [List.getElem?_append_left (by omega)] at h2
    exact h.2 j u c h1 h2
  · rw [List.getElem?_append_right (by omega)] at h1
    rw [List.getElem?_append_right (by omega), ← e] at h2
    exact k.2 _ u c h1 h2

/-- How a type's cells read: as 'enc' of something of which 'ok' holds. -/
def Rd (P : Program) (t : TypeId) {α : Type} (enc : α → List AV) (ok : α → Prop) : Prop :=
  ∀ (W : World) (H : Type) (eh : TypeId × Value → H) (fuel : Nat) (cs : List Value) (x : DataW H × List MemPlace), DataW.trod eh P W 0 (fun _ => true) true fuel t cs = some x → (∀ n ∈ x.1.weights P t, n ≤ reachBytes) → ∃ a : α, ok a ∧ RVl (fun b => b < W.heap.size) W (enc a) cs
theorem Rd.map {t : TypeId} {α β : Type} {enc : α → List AV} {ok : α → Prop} {enc' : β → List AV} {ok' : β → Prop} (h : Rd P t enc ok) (g : α → β) (he : ∀ a, enc' (g a) = enc a) (hk : ∀ a, ok a → ok' (g a)) : Rd P t enc' ok' := by
  intro W H eh fuel cs x hx hwt
  obtain ⟨a, h1, h2⟩ := h W H eh fuel cs x hx hwt
  exact ⟨g a, hk a h1, by rw [he]; exact h2⟩
def litOk (k : IntKind) (n : Int) : Prop := (Lit.int k n).wf = true
theorem Rd.int {t : TypeId} {k : IntKind} (hu : P.underlying t = some (.int k)) : Rd P t (fun n : Int => [.int k n]) (litOk k) := by
  intro W H eh fuel cs x hx hwt
  cases fuel with
  | zero => simp [DataW.trod] at hx
  | succ fuel =>
    unfold DataW.trod at hx
    rw [hu] at hx
    split at hx <;> first | (cases hx; done) | skip
    all_goals rename_i hh
    all_goals first | (cases hh; done) | skip
    rename_i k1 k2 n
    simp only [Option.some.injEq, TypeDesc.int.injEq] at hh
    subst hh
    split at hx
    · rename_i hc
      obtain ⟨rfl, hw⟩ := hc
      exact ⟨n, hw, RVl.one (.int _ _ _)⟩
    · cases hx

theorem Rd.bool {t : TypeId} (hu : P.underlying t = some .bool) : Rd P t (fun b : Bool => [.bool b]) (fun _ => True) := by
  intro W H eh fuel cs x hx hwt
  cases fuel with
  | zero => simp [DataW.trod] at hx
  | succ fuel =>
    unfold DataW.trod at hx
    rw [hu] at hx
    split at hx <;> first | (cases hx; done) | skip
    all_goals rename_i hh
    all_goals first | (cases hh; done) | skip
    exact ⟨_, trivial, RVl.one (.bool _ _)⟩
theorem Rd.str {t : TypeId} (hu : P.underlying t = some .string) : Rd P t (fun b : ByteArray => [.str b]) (fun b => b.size ≤ maxLen) := by
  intro W H eh fuel cs x hx hwt
  cases fuel with
  | zero => simp [DataW.trod] at hx
  | succ fuel =>
    unfold DataW.trod at hx
    rw [hu] at hx
    split at hx <;> first | (cases hx; done) | skip
    all_goals rename_i hh
    all_goals first | (cases hh; done) | skip
    split at hx
    · rename_i hc; exact ⟨_, hc, RVl.one (.str _ _)⟩
    · cases hx
theorem cell_addr {a : Addr} {v : Value} (h : W.cell? a = some v) : a = ⟨a.block, a.off, none⟩ ∧ a.block < W.heap.size := by
  unfold World.cell? at h
  split at h
  · rename_i c t f hh
    refine ⟨?_, (Array.getElem?_eq_some_iff.1 hh).1⟩
    cases hs : a.spot with
    | none => rw [← hs]
    | some s => rw [hs] at h; simp at h
  · cases h
theorem add_addr {a : Addr} {n : Nat} {v : Value} (h : W.cell? (a.add n) = some v) : a.add n = ⟨a.block, a.off + n, none⟩ := by
  have h1 := (cell_addr h).1
  unfold Addr.add at h1 ⊢
  split
  · rename_i h0
    subst h0
    rw [if_pos rfl] at h1
    exact h1
  · rfl
theorem cells_get {base : Nat} {a : Addr} {n : Nat} {cs : List Value} (h : W.cells? base a n = some cs) : cs.length = n ∧ ∀ (i : Nat) (v : Value), cs[i]? = some v → W.cell? (a.add i) = some v := by
  unfold World.cells? at h
  split at h
  · obtain ⟨h1, h2⟩ := mapM_get h
    refine ⟨by simpa using h1, fun i v hv => ?_⟩
    obtain ⟨x, q1, q2⟩ := h2 i v hv
    obtain ⟨hi, e⟩ := List.getElem?_eq_some_iff.1 q1
    simp at e
    subst e
    exact q2
  · cases h
theorem weightsAll_mem {H : Type} {e : TypeId} : ∀ {l : List (DataW H)} {d : DataW H} {n : Nat}, d ∈ l → n ∈ d.weights P e → n ∈ DataW.weightsAll P e l := by
  intro l
  induction l with
  | nil => intro d n h; cases h
  | cons a l ih =>
    intro d n h hn
    rw [DataW.weightsAll]
    rcases List.mem_cons.1 h with rfl | h
    · exact List.mem_append.2 (.inl hn)
    · exact List.mem_append.2 (.inr (ih h hn))
theorem Rd.slice {t e : TypeId} {k : Nat} {α : Type} {enc : α → List AV} {ok : α → Prop} (hu : P.underlying t = some (.slice e)) (hk : P.cellsOf e = k) (hk0 : 0 < k) (hby : Nat.ble 1 (P.bytesOf e) = true) (he : Rd P e enc ok) (hl : ∀ a, (enc a).length = k) :
    Rd P t (fun s : List α × Bool × Nat => [.pslice (s.1.flatMap enc) s.1.length s.2.2 s.2.1]) (fun s => (∀ a ∈ s.1, ok a) ∧ s.1.length ≤ reachBytes) := by
  intro W H eh fuel cs x hx hwt
  cases fuel with
  | zero => simp [DataW.trod] at hx
  | succ fuel =>
    unfold DataW.trod at hx
    rw [hu] at hx
    split at hx <;> first | (cases hx; done) | skip
    all_goals rename_i hh
    all_goals first | (cases hh; done) | skip
    · exact ⟨([], true, 0), ⟨(fun a ha => by cases ha), Nat.zero_le _⟩, RVl.one (.pslice _ [] 0 0 true none 0 0 0 (fun _ => undef) (Nat.le_refl _) (Nat.zero_le _) (fun _ => rfl) (fun h => absurd h (Nat.lt_irrefl _)) (fun h => absurd rfl h) (fun j u hu => by simp at hu) (fun j u hu => by simp at hu))⟩
    · rename_i e1 a len cap
      simp only [Option.some.injEq, TypeDesc.slice.injEq] at hh
      subst hh
      simp only at hx
      split at hx
      case isFalse => cases hx
      rename_i hc
      simp only [Option.map_eq_some_iff, Option.bind_eq_some_iff] at hx
      obtain ⟨elems, hel, rest, hrest, hxe⟩ := hx
      subst hxe
      have hw0 : ∀ n ∈ (((elems.map (·.1)).length + (rest.map (·.1)).length) * P.bytesOf e :: (DataW.weightsAll P e (elems.map (·.1)) ++ DataW.weightsAll P e (rest.map (·.1)))), n ≤ reachBytes := by
        have : (DataW.slice (elems.map (·.1)) (rest.map (·.1))).weights P t = (((elems.map (·.1)).length + (rest.map (·.1)).length) * P.bytesOf e :: (DataW.weightsAll P e (elems.map (·.1)) ++ DataW.weightsAll P e (rest.map (·.1)))) := by
          rw [DataW.weights, hu]
        rw [← this]; exact hwt
      obtain ⟨h1, h2⟩ := mapM_get hel
      have hlen : elems.length = len := by simpa using h1
      have one : ∀ i : Fin len, ∃ y : α, ok y ∧ ∃ ds, W.cells? 0 (a.add (i.1 * k)) k = some ds ∧ RVl (fun b => b < W.heap.size) W (enc y) ds := by
        intro i
        obtain ⟨q, q1, q2⟩ := h2 i.1 elems[i.1] (List.getElem?_eq_getElem (by omega))
        obtain ⟨hi, e⟩ := List.getElem?_eq_some_iff.1 q1
        simp at e
        subst e
        simp only [Option.bind_eq_some_iff] at q2
        obtain ⟨ds, g1, g2⟩ := q2
        obtain ⟨y, y1, y2⟩ := he W H eh fuel ds _ g2 (fun n hn => hw0 n (List.mem_cons_of_mem _ (List.mem_append.2 (.inl (weightsAll_mem (List.mem_map.2 ⟨elems[i.1], List.getElem_mem _, rfl⟩) hn)))))
        rw [hk] at g1
        exact ⟨y, y1, ds, g1, y2⟩
      let l : List α := List.ofFn fun i => (one i).choose
      have hll : l.length = len := List.length_ofFn
      have hget : ∀ i (h : i < l.length), ok l[i] ∧ ∃ ds, W.cells? 0 (a.add (i * k)) k = some ds ∧ RVl (fun b => b < W.heap.size) W (enc l[i]) ds := by
        intro i h
        have e : l[i] = (one ⟨i, by omega⟩).choose := by simp [l]
        rw [e]
        exact (one ⟨i, by omega⟩).choose_spec
      have cellAt : ∀ (j : Nat) (u : AV), (l.flatMap enc)[j]? = some u → ∃ v, W.cell? ⟨a.block, a.off + j, none⟩ = some v ∧ RV (fun b => b < W.heap.size) W ι0 u v := by
        intro j u hu
        have hj : j < (l.flatMap enc).length := (List.getElem?_eq_some_iff.1 hu).1
        rw [flat_len hl] at hj
        have hdm : j = (j / k) * k + j % k := by rw [Nat.mul_comm]; exact (Nat.div_add_mod j k).symm
        have hik : j / k < l.length := Nat.div_lt_of_lt_mul (by rw [Nat.mul_comm]; exact hj)
        have hok : j % k < k := Nat.mod_lt _ hk0
        obtain ⟨_, ds, d1, d2⟩ := hget (j / k) hik
        obtain ⟨c1, c2⟩ := cells_get d1
        rw [hdm, flat_get hl hik hok] at hu
        have hds : ds[j % k]? = some ds[j % k] := List.getElem?_eq_getElem (by omega)
        have hc2 := c2 (j % k) _ hds
        have hc0 := c2 0 _ (List.getElem?_eq_getElem (by omega))
        have e0 := add_addr hc0
        refine ⟨ds[j % k], ?_, d2.2 (j % k) u _ hu hds⟩
        have e1 := add_addr hc2
        rw [e1] at hc2
        have eb : (a.add (j / k * k)).block = a.block ∧ (a.add (j / k * k)).off = a.off + j / k * k := by
          unfold Addr.add; split
          · rename_i h0; rw [h0]; exact ⟨rfl, rfl⟩
          · exact ⟨rfl, rfl⟩
        rw [eb.1, eb.2, Nat.add_assoc, ← hdm] at hc2
        exact hc2
      refine ⟨(l, len == cap, 0), ⟨fun y hy => ?_, ?_⟩, RVl.one ?_⟩
      · obtain ⟨i, hi, rfl⟩ := List.mem_iff_getElem.1 hy
        exact (hget i hi).1
      · have h3 := hw0 _ (List.mem_cons_self)
        have h4 : len ≤ ((elems.map (·.1)).length + (rest.map (·.1)).length) * P.bytesOf e := by
          rw [List.length_map, hlen]
          exact Nat.le_trans (Nat.le_add_right _ _) (Nat.le_mul_of_pos_right _ (Nat.le_of_ble_eq_true hby))
        dsimp only
        rw [hll]; exact Nat.le_trans h4 h3
      · rw [hll]
        refine .pslice _ _ len 0 _ (some a) cap a.block a.off (fun j => (W.cell? ⟨a.block, a.off + j, none⟩).getD undef) hc.2.1 hc.2.2 (fun h => (beq_iff_eq.1 (show (len == cap) = true from h)).symm) (fun hp => ?_) (fun hne => ?_) (fun j u hu => ?_) (fun j u hu => ?_)
        · obtain ⟨_, ds, d1, d2⟩ := hget 0 (by omega)
          obtain ⟨c1, c2⟩ := cells_get d1
          have hc0 := c2 0 _ (List.getElem?_eq_getElem (by omega))
          have ea : (a.add (0 * k)).add 0 = a := by simp [Addr.add]
          rw [ea] at hc0
          obtain ⟨q1, q2⟩ := cell_addr hc0
          exact ⟨by rw [← q1], q2⟩
        · refine Nat.pos_of_ne_zero fun h0 => hne ?_
          have : l = [] := List.eq_nil_of_length_eq_zero (by omega)
          simp [this]
        · obtain ⟨v, v1, v2⟩ := cellAt j u hu
          rw [v1]; rfl
        · obtain ⟨v, v1, v2⟩ := cellAt j u hu
          rw [v1]; exact v2

/-- A struct's fields, from a place on. -/
def RdF (P : Program) (fs : List Go.Field) (off : Nat) {α : Type} (enc : α → List AV) (ok : α → Prop) : Prop :=
  ∀ (W : World) (H : Type) (eh : TypeId × Value → H) (fuel : Nat) (cs : List Value) (xs : List (DataW H × List MemPlace)), fs.mapM (fun f => DataW.trod eh P W 0 (fun _ => true) true fuel f.type ((cs.drop f.offset).take (P.cellsOf f.type))) = some xs → (∀ n ∈ DataW.weightsEach P (fs.map (·.type)) (xs.map (·.1)), n ≤ reachBytes) →
    ∃ a : α, ok a ∧ (enc a).length = (fs.map fun f => P.cellsOf f.type).sum ∧ (off + (fs.map fun f => P.cellsOf f.type).sum ≤ cs.length → RVl (fun b => b < W.heap.size) W (enc a) ((cs.drop off).take (fs.map fun f => P.cellsOf f.type).sum))
theorem RdF.nil {off : Nat} : RdF P [] off (fun _ : Unit => []) (fun _ => True) := by
  intro W H eh fuel cs xs h _
  exact ⟨(), trivial, rfl, fun _ => by simpa using RVl.nil⟩
theorem RdF.cons {f : Go.Field} {fs : List Go.Field} {off k : Nat} {α β : Type} {e1 : α → List AV} {o1 : α → Prop} {e2 : β → List AV} {o2 : β → Prop} (ho : f.offset = off) (h1 : Rd P f.type e1 o1) (hl : ∀ a, (e1 a).length = k) (hk : P.cellsOf f.type = k) (h2 : RdF P fs (off + k) e2 o2) :
    RdF P (f :: fs) off (fun p : α × β => e1 p.1 ++ e2 p.2) (fun p => o1 p.1 ∧ o2 p.2) := by
  intro W H eh fuel cs xs h hwt
  rw [List.mapM_cons] at h
  cases ha : DataW.trod eh P W 0 (fun _ => true) true fuel f.type ((cs.drop f.offset).take (P.cellsOf f.type)) with
  | none => rw [ha] at h; simp at h
  | some b =>
    rw [ha] at h
    cases hm : fs.mapM (fun f => DataW.trod eh P W 0 (fun _ => true) true fuel f.type ((cs.drop f.offset).take (P.cellsOf f.type))) with
    | none => rw [hm] at h; simp at h
    | some bs =>
      rw [hm] at h
      simp at h
      subst h
      simp only [List.map_cons, DataW.weightsEach] at hwt
      obtain ⟨a, a1, a2⟩ := h1 W H eh fuel _ _ ha (fun n hn => hwt n (List.mem_append.2 (.inl hn)))
      obtain ⟨c, c1, c2, c3⟩ := h2 W H eh fuel cs bs hm (fun n hn => hwt n (List.mem_append.2 (.inr hn)))
      refine ⟨(a, c), ⟨a1, c1⟩, by simp [hl, c2, hk], fun hle => ?_⟩
      simp only [List.map_cons, List.sum_cons, hk] at hle ⊢
      rw [ho, hk] at a2
      have := c3 (by omega)
      have e : (cs.drop off).take (k + (fs.map fun f => P.cellsOf f.type).sum) = (cs.drop off).take k ++ (cs.drop (off + k)).take (fs.map fun f => P.cellsOf f.type).sum := by
        rw [List.take_add, List.drop_drop]
      rw [e]
      exact a2.append this
theorem Rd.struct {t : TypeId} {fs : Array Go.Field} {α : Type} {enc : α → List AV} {ok : α → Prop} (hu : P.underlying t = some (.struct fs)) (hs : (fs.toList.map fun f => P.cellsOf f.type).sum = P.cellsOf t) (h : RdF P fs.toList 0 enc ok) : Rd P t enc ok := by
  intro W H eh fuel cs x hx hwt
  cases fuel with
  | zero => simp [DataW.trod] at hx
  | succ fuel =>
    unfold DataW.trod at hx
    rw [hu] at hx
    dsimp only at hx
    split at hx
    case isFalse => cases hx
    rename_i hc
    simp only [Option.map_eq_some_iff] at hx
    obtain ⟨xs, hx, hxe⟩ := hx
    subst hxe
    obtain ⟨a, a1, a2, a3⟩ := h W H eh fuel _ xs hx (by
      intro n hn
      refine hwt n ?_
      have : (DataW.agg (xs.map (·.1))).weights P t = DataW.weightsEach P (fs.toList.map (·.type)) (xs.map (·.1)) := by rw [DataW.weights, hu]
      rw [this]; exact hn)
    refine ⟨a, a1, ?_⟩
    have := a3 (by omega)
    rw [List.drop_zero, List.take_of_length_le (by omega)] at this
    exact this
end
end Go.AM
