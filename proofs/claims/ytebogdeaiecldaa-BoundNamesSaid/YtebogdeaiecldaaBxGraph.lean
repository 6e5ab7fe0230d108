/- Parts of the proof: B.Graph, B.Walk, B.GraphP, B.Longest, B.Of, B.Decl, B.LessP. -/
import Derived.Test.YtebogdeaiecldaaBxLeads
import Derived.Test.YtebogdeaiecldaaBxSolve
/- Package graph: its functions. -/
namespace Go.AM.B
open Go.Proofs.Ytebogdeaiecldaa.Tab
noncomputable section
set_option linter.unusedVariables false
set_option linter.unusedSimpArgs false
set_option maxHeartbeats 4000000

def toB (id : Int) : Bool := decide (0 ≤ id) && decide (id ≤ 65535)
theorem to_c (id : Int) : VC1 T 62 [.int .i64 id] (.bool (toB id)) := by
  refine VC1.of (vf := v62) rfl rfl ?_
  unfold v62
  repeat (first | refine W.seq ?_ | refine W.ops ?_ | refine WL.off rfl rfl ?_ | refine WL.val rfl rfl rfl ?_ | refine WL.nil ?_ | refine W.block ?_ | refine W.outBlock ?_ | refine W.skip ?_ | refine W.exit rfl ?_ | refine WL.box rfl rfl rfl ?_ | refine W.opsD ?_ | refine W.condT rfl ?_ | refine W.condF rfl ?_)
  refine WL.splitG rfl (fun h1 => ?_) (fun h1 => ?_)
  · repeat (first | refine W.seq ?_ | refine W.ops ?_ | refine WL.off rfl rfl ?_ | refine WL.val rfl rfl rfl ?_ | refine WL.nil ?_ | refine W.block ?_ | refine W.outBlock ?_ | refine W.skip ?_ | refine W.exit rfl ?_ | refine WL.box rfl rfl rfl ?_ | refine W.opsD ?_ | refine W.condT rfl ?_ | refine W.condF rfl ?_)
    refine W.ret ⟨_, rfl, retB ?_⟩
    rw [Bool.eq_iff_iff]
    simp [toB] at * <;> omega
  · repeat (first | refine W.seq ?_ | refine W.ops ?_ | refine WL.off rfl rfl ?_ | refine WL.val rfl rfl rfl ?_ | refine WL.nil ?_ | refine W.block ?_ | refine W.outBlock ?_ | refine W.skip ?_ | refine W.exit rfl ?_ | refine WL.box rfl rfl rfl ?_ | refine W.opsD ?_ | refine W.condT rfl ?_ | refine W.condF rfl ?_)
    refine W.ret ⟨_, rfl, retB ?_⟩
    rw [Bool.eq_iff_iff]
    simp [toB] at * <;> omega
def mayB (off width most : Int) : Bool := if width = 0 then decide (off = 0) else decide (0 < width) && decide (width ≤ most) && decide (0 ≤ off) && decide (off ≤ 2048)
theorem may_c (off width most : Int) : VC1 T 63 [.agg [.int .i64 off, .int .i64 width, .int .i64 most]] (.bool (mayB off width most)) := by
  refine VC1.of (vf := v63) rfl rfl ?_
  unfold v63
  repeat (first | refine W.seq ?_ | refine W.ops ?_ | refine WL.off rfl rfl ?_ | refine WL.val rfl rfl rfl ?_ | refine WL.nil ?_ | refine W.block ?_ | refine W.outBlock ?_ | refine W.skip ?_ | refine W.exit rfl ?_ | refine WL.box rfl rfl rfl ?_ | refine W.opsD ?_ | refine W.condT rfl ?_ | refine W.condF rfl ?_)
  refine W.condS rfl (fun h0 => ?_) (fun h0 => ?_)
  · have e : width = 0 := by simpa using h0
    subst e
    repeat (first | refine W.seq ?_ | refine W.ops ?_ | refine WL.off rfl rfl ?_ | refine WL.val rfl rfl rfl ?_ | refine WL.nil ?_ | refine W.block ?_ | refine W.outBlock ?_ | refine W.skip ?_ | refine W.exit rfl ?_ | refine WL.box rfl rfl rfl ?_ | refine W.opsD ?_ | refine W.condT rfl ?_ | refine W.condF rfl ?_)
    exact W.ret ⟨_, rfl, retB (by simp [mayB]; rfl)⟩
  have e : mayB off width most = (decide (0 < width) && decide (width ≤ most) && decide (0 ≤ off) && decide (off ≤ 2048)) := by
    have : width ≠ 0 := by simpa using h0
    simp [mayB, this]
  rw [e]
  clear e h0
  repeat (first | refine W.seq ?_ | refine W.ops ?_ | refine WL.off rfl rfl ?_ | refine WL.val rfl rfl rfl ?_ | refine WL.nil ?_ | refine W.block ?_ | refine W.outBlock ?_ | refine W.skip ?_ | refine W.exit rfl ?_ | refine WL.box rfl rfl rfl ?_ | refine W.opsD ?_ | refine W.condT rfl ?_ | refine W.condF rfl ?_)
  refine WL.splitG rfl (fun h1 => ?_) (fun h1 => ?_)
  · repeat (first | refine W.seq ?_ | refine W.ops ?_ | refine WL.off rfl rfl ?_ | refine WL.val rfl rfl rfl ?_ | refine WL.nil ?_ | refine W.block ?_ | refine W.outBlock ?_ | refine W.skip ?_ | refine W.exit rfl ?_ | refine WL.box rfl rfl rfl ?_ | refine W.opsD ?_ | refine W.condT rfl ?_ | refine W.condF rfl ?_)
    refine WL.splitG rfl (fun h2 => ?_) (fun h2 => ?_)
    · repeat (first | refine W.seq ?_ | refine W.ops ?_ | refine WL.off rfl rfl ?_ | refine WL.val rfl rfl rfl ?_ | refine WL.nil ?_ | refine W.block ?_ | refine W.outBlock ?_ | refine W.skip ?_ | refine W.exit rfl ?_ | refine WL.box rfl rfl rfl ?_ | refine W.opsD ?_ | refine W.condT rfl ?_ | refine W.condF rfl ?_)
      refine WL.splitG rfl (fun h3 => ?_) (fun h3 => ?_)
      · repeat (first | refine W.seq ?_ | refine W.ops ?_ | refine WL.off rfl rfl ?_ | refine WL.val rfl rfl rfl ?_ | refine WL.nil ?_ | refine W.block ?_ | refine W.outBlock ?_ | refine W.skip ?_ | refine W.exit rfl ?_ | refine WL.box rfl rfl rfl ?_ | refine W.opsD ?_ | refine W.condT rfl ?_ | refine W.condF rfl ?_)
        refine W.ret ⟨_, rfl, retB ?_⟩
        rw [Bool.eq_iff_iff]
        simp [toB] at * <;> omega
      · repeat (first | refine W.seq ?_ | refine W.ops ?_ | refine WL.off rfl rfl ?_ | refine WL.val rfl rfl rfl ?_ | refine WL.nil ?_ | refine W.block ?_ | refine W.outBlock ?_ | refine W.skip ?_ | refine W.exit rfl ?_ | refine WL.box rfl rfl rfl ?_ | refine W.opsD ?_ | refine W.condT rfl ?_ | refine W.condF rfl ?_)
        refine W.ret ⟨_, rfl, retB ?_⟩
        rw [Bool.eq_iff_iff]
        simp [toB] at * <;> omega
    · repeat (first | refine W.seq ?_ | refine W.ops ?_ | refine WL.off rfl rfl ?_ | refine WL.val rfl rfl rfl ?_ | refine WL.nil ?_ | refine W.block ?_ | refine W.outBlock ?_ | refine W.skip ?_ | refine W.exit rfl ?_ | refine WL.box rfl rfl rfl ?_ | refine W.opsD ?_ | refine W.condT rfl ?_ | refine W.condF rfl ?_)
      refine W.ret ⟨_, rfl, retB ?_⟩
      rw [Bool.eq_iff_iff]
      simp [toB] at * <;> omega
  · repeat (first | refine W.seq ?_ | refine W.ops ?_ | refine WL.off rfl rfl ?_ | refine WL.val rfl rfl rfl ?_ | refine WL.nil ?_ | refine W.block ?_ | refine W.outBlock ?_ | refine W.skip ?_ | refine W.exit rfl ?_ | refine WL.box rfl rfl rfl ?_ | refine W.opsD ?_ | refine W.condT rfl ?_ | refine W.condF rfl ?_)
    refine W.ret ⟨_, rfl, retB ?_⟩
    rw [Bool.eq_iff_iff]
    simp [toB] at * <;> omega
def unitB (x : Node) : Bool := if x.lenWidth = 0 then decide (x.lenUnit = 0) else decide (1 ≤ x.lenUnit) && decide (x.lenUnit ≤ 256)
theorem unit_c (x : Node) : VC1 T 64 [.agg x.enc] (.bool (unitB x)) := by
  refine VC1.of (vf := v64) rfl rfl ?_
  unfold v64
  repeat (first | refine W.seq ?_ | refine W.ops ?_ | refine WL.off rfl rfl ?_ | refine WL.val rfl rfl rfl ?_ | refine WL.nil ?_ | refine W.block ?_ | refine W.outBlock ?_ | refine W.skip ?_ | refine W.exit rfl ?_ | refine WL.box rfl rfl rfl ?_ | refine W.opsD ?_ | refine W.condT rfl ?_ | refine W.condF rfl ?_)
  refine W.condS rfl (fun h0 => ?_) (fun h0 => ?_)
  · have e : x.lenWidth = 0 := by simpa using h0
    repeat (first | refine W.seq ?_ | refine W.ops ?_ | refine WL.off rfl rfl ?_ | refine WL.val rfl rfl rfl ?_ | refine WL.nil ?_ | refine W.block ?_ | refine W.outBlock ?_ | refine W.skip ?_ | refine W.exit rfl ?_ | refine WL.box rfl rfl rfl ?_ | refine W.opsD ?_ | refine W.condT rfl ?_ | refine W.condF rfl ?_)
    exact W.ret ⟨_, rfl, retB (by simp [unitB, e]; rfl)⟩
  have e : unitB x = (decide (1 ≤ x.lenUnit) && decide (x.lenUnit ≤ 256)) := by
    have : x.lenWidth ≠ 0 := by simpa using h0
    simp [unitB, this]
  rw [e]
  clear e h0
  repeat (first | refine W.seq ?_ | refine W.ops ?_ | refine WL.off rfl rfl ?_ | refine WL.val rfl rfl rfl ?_ | refine WL.nil ?_ | refine W.block ?_ | refine W.outBlock ?_ | refine W.skip ?_ | refine W.exit rfl ?_ | refine WL.box rfl rfl rfl ?_ | refine W.opsD ?_ | refine W.condT rfl ?_ | refine W.condF rfl ?_)
  refine WL.splitG rfl (fun h1 => ?_) (fun h1 => ?_)
  · repeat (first | refine W.seq ?_ | refine W.ops ?_ | refine WL.off rfl rfl ?_ | refine WL.val rfl rfl rfl ?_ | refine WL.nil ?_ | refine W.block ?_ | refine W.outBlock ?_ | refine W.skip ?_ | refine W.exit rfl ?_ | refine WL.box rfl rfl rfl ?_ | refine W.opsD ?_ | refine W.condT rfl ?_ | refine W.condF rfl ?_)
    refine W.ret ⟨_, rfl, retB ?_⟩
    rw [Bool.eq_iff_iff]
    simp [toB] at * <;> omega
  · repeat (first | refine W.seq ?_ | refine W.ops ?_ | refine WL.off rfl rfl ?_ | refine WL.val rfl rfl rfl ?_ | refine WL.nil ?_ | refine W.block ?_ | refine W.outBlock ?_ | refine W.skip ?_ | refine W.exit rfl ?_ | refine WL.box rfl rfl rfl ?_ | refine W.opsD ?_ | refine W.condT rfl ?_ | refine W.condF rfl ?_)
    refine W.ret ⟨_, rfl, retB ?_⟩
    rw [Bool.eq_iff_iff]
    simp [toB] at * <;> omega

open Classical in
def dB (P : Prop) : Bool := decide P
theorem dB_no {P : Prop} (h : ¬ P) : false = dB P := by simp [dB, h]
theorem dB_yes {P : Prop} (h : P) : true = dB P := by simp [dB, h]
theorem dB_iff {P : Prop} : dB P = true ↔ P := by simp [dB]
theorem dB_false {P : Prop} : dB P = false ↔ ¬ P := by simp [dB]
def findN (l : List Node) (id : Int) : Option Node := l.find? fun x => x.id == id
def zeroNode : AV := .agg [.int .i64 0, .int .i64 0, .int .i64 0, .int .i64 0, .int .i64 0, .int .i64 0, .int .i64 0, .pslice [] 0 0 true, .int .i64 0]
def findAV (l : List Node) (id : Int) : AV := match findN l id with
  | some x => .tuple [.agg x.enc, .bool true]
  | none => .tuple [zeroNode, .bool false]
theorem take_find {α : Type} {p : α → Bool} {l : List α} {i : Nat} (hi : i < l.length) (h : ∀ j (hj : j < l.length), j < i → p l[j] = false) (hp : p l[i] = true) : l.find? p = some l[i] := by
  rw [List.find?_eq_some_iff_getElem]
  exact ⟨hp, i, hi, rfl, fun k hk => by simpa using h k (by omega) hk⟩
theorem take_none {α : Type} {p : α → Bool} {l : List α} (h : ∀ j (hj : j < l.length), p l[j] = false) : l.find? p = none := by
  rw [List.find?_eq_none]
  intro x hx
  obtain ⟨j, hj, rfl⟩ := List.mem_iff_getElem.1 hx
  simp [h j hj]
theorem find_c (nodes : Sl Node) (hl : nodes.l.length < 100000) (id : Int) : VC1 T 51 [nodes.av 9 Node.enc, .int .i64 id] (findAV nodes.l id) := by
  refine VC1.of (vf := v51) rfl rfl ?_
  unfold v51
  repeat (first | refine W.seq ?_ | refine W.ops ?_ | refine WL.off rfl rfl ?_ | refine WL.val rfl rfl rfl ?_ | refine WL.nil ?_ | refine W.block ?_ | refine W.outBlock ?_ | refine W.skip ?_ | refine W.exit rfl ?_ | refine WL.box rfl rfl rfl ?_ | refine W.opsD ?_ | refine W.condT rfl ?_ | refine W.condF rfl ?_)
  refine W.loopE (E0 := envOf [(1, _), (4, _), (8, _), (9, _), (10, _)]) rfl (β := Nat) (fun b => [(10, .v (.int .i64 b))])
    (fun b h n => b ≤ nodes.l.length ∧ h = Heap.empty ∧ ∀ j (hj : j < nodes.l.length), j < b → (nodes.l[j].id == id) = false) (fun b => nodes.l.length - b) 0 rfl ⟨by simp, rfl, by intro j _ h; simp at h⟩ ?_
  rintro i h n ⟨hi, rfl, hno⟩ ih
  repeat (first | refine W.seq ?_ | refine W.ops ?_ | refine WL.off rfl rfl ?_ | refine WL.val rfl rfl rfl ?_ | refine WL.nil ?_ | refine W.block ?_ | refine W.outBlock ?_ | refine W.skip ?_ | refine W.exit rfl ?_ | refine WL.box rfl rfl rfl ?_ | refine W.opsD ?_ | refine W.condT rfl ?_ | refine W.condF rfl ?_)
  refine W.cond rfl (fun hb2 => ?_) (fun hb2 => ?_)
  · have hlt : i < nodes.l.length := by simpa using hb2
    repeat (first | refine W.seq ?_ | refine W.ops ?_ | refine WL.off rfl rfl ?_ | refine WL.val rfl rfl rfl ?_ | refine WL.nil ?_ | refine W.block ?_ | refine W.outBlock ?_ | refine W.skip ?_ | refine W.exit rfl ?_ | refine WL.box rfl rfl rfl ?_ | refine W.opsD ?_ | refine W.condT rfl ?_ | refine W.condF rfl ?_)
    refine WL.val rfl (aop_iaddr_p rfl rfl hlt) rfl ?_
    refine WL.val rfl (aop_load_st (enc := Node.enc) rfl (fun _ => rfl) hlt) rfl ?_
    repeat (first | refine W.seq ?_ | refine W.ops ?_ | refine WL.off rfl rfl ?_ | refine WL.val rfl rfl rfl ?_ | refine WL.nil ?_ | refine W.block ?_ | refine W.outBlock ?_ | refine W.skip ?_ | refine W.exit rfl ?_ | refine WL.box rfl rfl rfl ?_ | refine W.opsD ?_ | refine W.condT rfl ?_ | refine W.condF rfl ?_)
    refine W.condS rfl (fun hb3 => ?_) (fun hb3 => ?_)
    · have e : (nodes.l[i].id == id) = true := hb3
      repeat (first | refine W.seq ?_ | refine W.ops ?_ | refine WL.off rfl rfl ?_ | refine WL.val rfl rfl rfl ?_ | refine WL.nil ?_ | refine W.block ?_ | refine W.outBlock ?_ | refine W.skip ?_ | refine W.exit rfl ?_ | refine WL.box rfl rfl rfl ?_ | refine W.opsD ?_ | refine W.condT rfl ?_ | refine W.condF rfl ?_)
      refine W.ret ⟨_, rfl, ?_⟩
      have : findN nodes.l id = some nodes.l[i] := take_find hlt hno e
      simp only [findAV, this]; rfl
    · have e : (nodes.l[i].id == id) = false := hb3
      repeat (first | refine W.seq ?_ | refine W.ops ?_ | refine WL.off rfl rfl ?_ | refine WL.val rfl rfl rfl ?_ | refine WL.nil ?_ | refine W.block ?_ | refine W.outBlock ?_ | refine W.skip ?_ | refine W.exit rfl ?_ | refine WL.box rfl rfl rfl ?_ | refine W.opsD ?_ | refine W.condT rfl ?_ | refine W.condF rfl ?_)
      refine ih (i + 1) _ _ _ ⟨hlt, rfl, fun j hj hji => ?_⟩ (by omega) (by rw [← wrap64_nat (k := i) (by omega)]; rfl)
      by_cases hj2 : j = i
      · subst hj2; exact e
      · exact hno j hj (by omega)
  · have hge : i = nodes.l.length := by simp at hb2; omega
    subst hge
    repeat (first | refine W.seq ?_ | refine W.ops ?_ | refine WL.off rfl rfl ?_ | refine WL.val rfl rfl rfl ?_ | refine WL.nil ?_ | refine W.block ?_ | refine W.outBlock ?_ | refine W.skip ?_ | refine W.exit rfl ?_ | refine WL.box rfl rfl rfl ?_ | refine W.opsD ?_ | refine W.condT rfl ?_ | refine W.condF rfl ?_)
    refine W.ret ⟨_, rfl, ?_⟩
    have : findN nodes.l id = none := take_none fun j hj => hno j hj hj
    simp only [findAV, this]; rfl
def goesL (x : Node) : List Int := x.other :: x.arms.l.map (·.next)
theorem goes_c (x : Node) (hl : x.arms.l.length < 100000) : ∃ v, VC1 T 52 [.agg x.enc] v ∧ SlV 1 ((goesL x).flatMap encI) (goesL x).length v := by
  suffices H : W T [.code v52.body] ⟨initEnv 0 [.agg x.enc], Heap.empty, 0⟩ fun s' => ∃ v, OwnS s'.heap 1 ((goesL x).flatMap encI) (goesL x).length v ∧ readRess s'.env s'.heap v52.results = some [v] by
    obtain ⟨s', h1, v, h2, h3⟩ := H
    obtain ⟨v', h4, h5⟩ := h2.pur 39 (fun a ha => by
      simp only [List.mem_flatMap, encI, List.mem_singleton] at ha
      obtain ⟨p, _, rfl⟩ := ha; rfl)
    exact ⟨v', VC1.of (vf := v52) rfl rfl ⟨s', h1, [v], h3, h4⟩, h5⟩
  unfold v52
  repeat (first | refine W.seq ?_ | refine W.ops ?_ | refine WL.off rfl rfl ?_ | refine WL.val rfl rfl rfl ?_ | refine WL.nil ?_ | refine W.block ?_ | refine W.outBlock ?_ | refine W.skip ?_ | refine W.exit rfl ?_ | refine WL.box rfl rfl rfl ?_ | refine W.opsD ?_ | refine W.condT rfl ?_ | refine W.condF rfl ?_)
  refine WL.heap rfl rfl rfl ?_
  repeat (first | refine W.seq ?_ | refine W.ops ?_ | refine WL.off rfl rfl ?_ | refine WL.val rfl rfl rfl ?_ | refine WL.nil ?_ | refine W.block ?_ | refine W.outBlock ?_ | refine W.skip ?_ | refine W.exit rfl ?_ | refine WL.box rfl rfl rfl ?_ | refine W.opsD ?_ | refine W.condT rfl ?_ | refine W.condF rfl ?_)
  refine W.loopE (E0 := envOf [(3, _), (10, _), (11, _), (12, _)]) rfl (β := Nat × AV) (fun b => [(3, .v b.2), (12, .v (.int .i64 b.1))])
    (fun b h n => b.1 ≤ x.arms.l.length ∧ OwnS h 1 ((x.other :: (x.arms.l.take b.1).map (·.next)).flatMap encI) (b.1 + 1) b.2 ∧ Fresh h n) (fun b => x.arms.l.length - b.1) (0, _) rfl ⟨by simp, .inr ⟨_, _, rfl, rfl, rfl⟩, (Fresh.empty _).put (by decide) (Nat.le_refl _)⟩ ?_
  rintro ⟨i, w⟩ h n ⟨hi, hw, hfr⟩ ih
  dsimp only at hi hw
  repeat (first | refine W.seq ?_ | refine W.ops ?_ | refine WL.off rfl rfl ?_ | refine WL.val rfl rfl rfl ?_ | refine WL.nil ?_ | refine W.block ?_ | refine W.outBlock ?_ | refine W.skip ?_ | refine W.exit rfl ?_ | refine WL.box rfl rfl rfl ?_ | refine W.opsD ?_ | refine W.condT rfl ?_ | refine W.condF rfl ?_)
  refine W.cond rfl (fun hb2 => ?_) (fun hb2 => ?_)
  · have hlt : i < x.arms.l.length := by simpa using hb2
    repeat (first | refine W.seq ?_ | refine W.ops ?_ | refine WL.off rfl rfl ?_ | refine WL.val rfl rfl rfl ?_ | refine WL.nil ?_ | refine W.block ?_ | refine W.outBlock ?_ | refine W.skip ?_ | refine W.exit rfl ?_ | refine WL.box rfl rfl rfl ?_ | refine W.opsD ?_ | refine W.condT rfl ?_ | refine W.condF rfl ?_)
    refine WL.val rfl (aop_iaddr_p rfl rfl hlt) rfl ?_
    refine WL.val rfl (aop_load_st (enc := Arm.enc) rfl (fun _ => rfl) hlt) rfl ?_
    repeat (first | refine W.seq ?_ | refine W.ops ?_ | refine WL.off rfl rfl ?_ | refine WL.val rfl rfl rfl ?_ | refine WL.nil ?_ | refine W.block ?_ | refine W.outBlock ?_ | refine W.skip ?_ | refine W.exit rfl ?_ | refine WL.box rfl rfl rfl ?_ | refine W.opsD ?_ | refine W.condT rfl ?_ | refine W.condF rfl ?_)
    refine WL.val rfl (aop_move_nj rfl hw.nj) rfl ?_
    repeat (first | refine W.seq ?_ | refine W.ops ?_ | refine WL.off rfl rfl ?_ | refine WL.val rfl rfl rfl ?_ | refine WL.nil ?_ | refine W.block ?_ | refine W.outBlock ?_ | refine W.skip ?_ | refine W.exit rfl ?_ | refine WL.box rfl rfl rfl ?_ | refine W.opsD ?_ | refine W.condT rfl ?_ | refine W.condF rfl ?_)
    refine WL.push (new := encI x.arms.l[i].next) rfl rfl rfl rfl rfl rfl (by decide) rfl hw (hfr.mono (by omega)) rfl (by omega) rfl (fun _ _ _ => rfl) (fun rd wr H' g1 g2 g3 => ?_)
    repeat (first | refine W.seq ?_ | refine W.ops ?_ | refine WL.off rfl rfl ?_ | refine WL.val rfl rfl rfl ?_ | refine WL.nil ?_ | refine W.block ?_ | refine W.outBlock ?_ | refine W.skip ?_ | refine W.exit rfl ?_ | refine WL.box rfl rfl rfl ?_ | refine W.opsD ?_ | refine W.condT rfl ?_ | refine W.condF rfl ?_)
    refine ih (i + 1, _) _ _ _ ⟨hlt, ?_, g3 _ (by omega)⟩ (by simp only; omega) (by rw [← wrap64_nat (k := i) (by omega)]; rfl)
    rw [map_snoc hlt, ← List.cons_append, List.flatMap_append]
    exact g1
  · have hge : i = x.arms.l.length := by simp at hb2; omega
    subst hge
    repeat (first | refine W.seq ?_ | refine W.ops ?_ | refine WL.off rfl rfl ?_ | refine WL.val rfl rfl rfl ?_ | refine WL.nil ?_ | refine W.block ?_ | refine W.outBlock ?_ | refine W.skip ?_ | refine W.exit rfl ?_ | refine WL.box rfl rfl rfl ?_ | refine W.opsD ?_ | refine W.condT rfl ?_ | refine W.condF rfl ?_)
    refine WL.val rfl (aop_move_nj rfl hw.nj) rfl ?_
    refine WL.val rfl (aop_move_nj rfl hw.nj) rfl ?_
    repeat (first | refine W.seq ?_ | refine W.ops ?_ | refine WL.off rfl rfl ?_ | refine WL.val rfl rfl rfl ?_ | refine WL.nil ?_ | refine W.block ?_ | refine W.outBlock ?_ | refine W.skip ?_ | refine W.exit rfl ?_ | refine WL.box rfl rfl rfl ?_ | refine W.opsD ?_ | refine W.condT rfl ?_ | refine W.condF rfl ?_)
    refine W.ret ⟨w, ?_, res1 rfl hw.nj⟩
    rw [List.take_length] at hw
    simpa [goesL] using hw

def shrV (x : Node) (a : Arm) : Int := (IntKind.wrap .u64 a.value).fdiv (2 ^ (Nat.min x.selWidth.toNat 64))
def armOk (x : Node) (i : Nat) : Prop := ∀ h : i < x.arms.l.length, ¬ shrV x x.arms.l[i] > 0 ∧ x.selWidth ≠ 0 ∧ (0 < i → ∀ h2 : i - 1 < x.arms.l.length, ¬ x.arms.l[i].value ≤ x.arms.l[i - 1].value) ∧ toB x.arms.l[i].next = true
def formOk (x : Node) : Prop := 1 ≤ x.id ∧ x.id ≤ 65534 ∧ 0 ≤ x.size ∧ x.size ≤ 256 ∧ toB x.other = true ∧ x.arms.l.length ≤ 32 ∧ mayB x.lenOff x.lenWidth 16 = true ∧ unitB x = true ∧ mayB x.selOff x.selWidth 32 = true ∧ ∀ i, armOk x i
def formB (x : Node) : Bool := dB (formOk x)
theorem formB_no {x : Node} (h : ¬ formOk x) : false = formB x := dB_no h
theorem formB_yes {x : Node} (h : formOk x) : true = formB x := dB_yes h
theorem aop_shr {E : Env} {H : Heap} {nid : AM.Id} {d : Option Nat} {x y : Operand} {k k' : IntKind} {a b : Int} (hx : evA E x = some (.int k a)) (hy : evA E y = some (.int k' b)) (hb : 0 ≤ b) :
    aop E H nid d (.bin .shr x y) = some ⟨.v (.int k (a.fdiv (2 ^ (Nat.min b.toNat k.bits)))), none, [], none, [], []⟩ := by
  have : decide (b < 0) = false := decide_eq_false (by omega)
  simp only [aop, hx, hy, binop, this, cond_false]
theorem form_c (x : Node) (hl : x.arms.l.length < 100000) : VC1 T 61 [.agg x.enc] (.bool (formB x)) := by
  have ht := to_c x.other
  have hm1 := may_c x.lenOff x.lenWidth 16
  have hu := unit_c x
  have hm2 := may_c x.selOff x.selWidth 32
  refine VC1.of (vf := v61) rfl rfl ?_
  unfold v61
  repeat (first | refine W.seq ?_ | refine W.ops ?_ | refine WL.off rfl rfl ?_ | refine WL.val rfl rfl rfl ?_ | refine WL.nil ?_ | refine W.block ?_ | refine W.outBlock ?_ | refine W.skip ?_ | refine W.exit rfl ?_ | refine WL.box rfl rfl rfl ?_ | refine W.opsD ?_ | refine W.condT rfl ?_ | refine W.condF rfl ?_)
  refine WL.splitG rfl (fun h1 => ?_) (fun h1 => ?_)
  · repeat (first | refine W.seq ?_ | refine W.ops ?_ | refine WL.off rfl rfl ?_ | refine WL.val rfl rfl rfl ?_ | refine WL.nil ?_ | refine W.block ?_ | refine W.outBlock ?_ | refine W.skip ?_ | refine W.exit rfl ?_ | refine WL.box rfl rfl rfl ?_ | refine W.opsD ?_ | refine W.condT rfl ?_ | refine W.condF rfl ?_)
    exact W.ret ⟨_, rfl, retB (formB_no (fun hf => by obtain ⟨f1, f2, f3, f4, f5, f6, f7, f8, f9, f10⟩ := hf; simp at *; omega))⟩
  repeat (first | refine W.seq ?_ | refine W.ops ?_ | refine WL.off rfl rfl ?_ | refine WL.val rfl rfl rfl ?_ | refine WL.nil ?_ | refine W.block ?_ | refine W.outBlock ?_ | refine W.skip ?_ | refine W.exit rfl ?_ | refine WL.box rfl rfl rfl ?_ | refine W.opsD ?_ | refine W.condT rfl ?_ | refine W.condF rfl ?_)
  refine WL.splitG rfl (fun h2 => ?_) (fun h2 => ?_)
  · repeat (first | refine W.seq ?_ | refine W.ops ?_ | refine WL.off rfl rfl ?_ | refine WL.val rfl rfl rfl ?_ | refine WL.nil ?_ | refine W.block ?_ | refine W.outBlock ?_ | refine W.skip ?_ | refine W.exit rfl ?_ | refine WL.box rfl rfl rfl ?_ | refine W.opsD ?_ | refine W.condT rfl ?_ | refine W.condF rfl ?_)
    exact W.ret ⟨_, rfl, retB (formB_no (fun hf => by obtain ⟨f1, f2, f3, f4, f5, f6, f7, f8, f9, f10⟩ := hf; simp at *; omega))⟩
  repeat (first | refine W.seq ?_ | refine W.ops ?_ | refine WL.off rfl rfl ?_ | refine WL.val rfl rfl rfl ?_ | refine WL.nil ?_ | refine W.block ?_ | refine W.outBlock ?_ | refine W.skip ?_ | refine W.exit rfl ?_ | refine WL.box rfl rfl rfl ?_ | refine W.opsD ?_ | refine W.condT rfl ?_ | refine W.condF rfl ?_)
  refine WL.splitG rfl (fun h3 => ?_) (fun h3 => ?_)
  · repeat (first | refine W.seq ?_ | refine W.ops ?_ | refine WL.off rfl rfl ?_ | refine WL.val rfl rfl rfl ?_ | refine WL.nil ?_ | refine W.block ?_ | refine W.outBlock ?_ | refine W.skip ?_ | refine W.exit rfl ?_ | refine WL.box rfl rfl rfl ?_ | refine W.opsD ?_ | refine W.condT rfl ?_ | refine W.condF rfl ?_)
    exact W.ret ⟨_, rfl, retB (formB_no (fun hf => by obtain ⟨f1, f2, f3, f4, f5, f6, f7, f8, f9, f10⟩ := hf; simp at *; omega))⟩
  repeat (first | refine W.seq ?_ | refine W.ops ?_ | refine WL.off rfl rfl ?_ | refine WL.val rfl rfl rfl ?_ | refine WL.nil ?_ | refine W.block ?_ | refine W.outBlock ?_ | refine W.skip ?_ | refine W.exit rfl ?_ | refine WL.box rfl rfl rfl ?_ | refine W.opsD ?_ | refine W.condT rfl ?_ | refine W.condF rfl ?_)
  refine WL.splitG rfl (fun h4 => ?_) (fun h4 => ?_)
  · repeat (first | refine W.seq ?_ | refine W.ops ?_ | refine WL.off rfl rfl ?_ | refine WL.val rfl rfl rfl ?_ | refine WL.nil ?_ | refine W.block ?_ | refine W.outBlock ?_ | refine W.skip ?_ | refine W.exit rfl ?_ | refine WL.box rfl rfl rfl ?_ | refine W.opsD ?_ | refine W.condT rfl ?_ | refine W.condF rfl ?_)
    exact W.ret ⟨_, rfl, retB (formB_no (fun hf => by obtain ⟨f1, f2, f3, f4, f5, f6, f7, f8, f9, f10⟩ := hf; simp at *; omega))⟩
  repeat (first | refine W.seq ?_ | refine W.ops ?_ | refine WL.off rfl rfl ?_ | refine WL.val rfl rfl rfl ?_ | refine WL.nil ?_ | refine W.block ?_ | refine W.outBlock ?_ | refine W.skip ?_ | refine W.exit rfl ?_ | refine WL.box rfl rfl rfl ?_ | refine W.opsD ?_ | refine W.condT rfl ?_ | refine W.condF rfl ?_)
  refine WL.view rfl rfl rfl ht rfl rfl ?_
  cases h5 : toB x.other
  · repeat (first | refine W.seq ?_ | refine W.ops ?_ | refine WL.off rfl rfl ?_ | refine WL.val rfl rfl rfl ?_ | refine WL.nil ?_ | refine W.block ?_ | refine W.outBlock ?_ | refine W.skip ?_ | refine W.exit rfl ?_ | refine WL.box rfl rfl rfl ?_ | refine W.opsD ?_ | refine W.condT rfl ?_ | refine W.condF rfl ?_)
    exact W.ret ⟨_, rfl, retB (formB_no (fun hf => by obtain ⟨f1, f2, f3, f4, f5, f6, f7, f8, f9, f10⟩ := hf; exact absurd f5 (by simp [h5])))⟩
  repeat (first | refine W.seq ?_ | refine W.ops ?_ | refine WL.off rfl rfl ?_ | refine WL.val rfl rfl rfl ?_ | refine WL.nil ?_ | refine W.block ?_ | refine W.outBlock ?_ | refine W.skip ?_ | refine W.exit rfl ?_ | refine WL.box rfl rfl rfl ?_ | refine W.opsD ?_ | refine W.condT rfl ?_ | refine W.condF rfl ?_)
  refine W.condS rfl (fun h7 => ?_) (fun h7 => ?_)
  · repeat (first | refine W.seq ?_ | refine W.ops ?_ | refine WL.off rfl rfl ?_ | refine WL.val rfl rfl rfl ?_ | refine WL.nil ?_ | refine W.block ?_ | refine W.outBlock ?_ | refine W.skip ?_ | refine W.exit rfl ?_ | refine WL.box rfl rfl rfl ?_ | refine W.opsD ?_ | refine W.condT rfl ?_ | refine W.condF rfl ?_)
    exact W.ret ⟨_, rfl, retB (formB_no (fun hf => by obtain ⟨f1, f2, f3, f4, f5, f6, f7, f8, f9, f10⟩ := hf; exact absurd f6 (by have := of_decide_eq_true h7; omega)))⟩
  have l6 : x.arms.l.length ≤ 32 := by have := of_decide_eq_false h7; omega
  repeat (first | refine W.seq ?_ | refine W.ops ?_ | refine WL.off rfl rfl ?_ | refine WL.val rfl rfl rfl ?_ | refine WL.nil ?_ | refine W.block ?_ | refine W.outBlock ?_ | refine W.skip ?_ | refine W.exit rfl ?_ | refine WL.box rfl rfl rfl ?_ | refine W.opsD ?_ | refine W.condT rfl ?_ | refine W.condF rfl ?_)
  refine WL.view rfl rfl rfl hm1 rfl rfl ?_
  cases h8 : mayB x.lenOff x.lenWidth 16
  · repeat (first | refine W.seq ?_ | refine W.ops ?_ | refine WL.off rfl rfl ?_ | refine WL.val rfl rfl rfl ?_ | refine WL.nil ?_ | refine W.block ?_ | refine W.outBlock ?_ | refine W.skip ?_ | refine W.exit rfl ?_ | refine WL.box rfl rfl rfl ?_ | refine W.opsD ?_ | refine W.condT rfl ?_ | refine W.condF rfl ?_)
    exact W.ret ⟨_, rfl, retB (formB_no (fun hf => by obtain ⟨f1, f2, f3, f4, f5, f6, f7, f8, f9, f10⟩ := hf; exact absurd f7 (by simp [h8])))⟩
  repeat (first | refine W.seq ?_ | refine W.ops ?_ | refine WL.off rfl rfl ?_ | refine WL.val rfl rfl rfl ?_ | refine WL.nil ?_ | refine W.block ?_ | refine W.outBlock ?_ | refine W.skip ?_ | refine W.exit rfl ?_ | refine WL.box rfl rfl rfl ?_ | refine W.opsD ?_ | refine W.condT rfl ?_ | refine W.condF rfl ?_)
  refine WL.view rfl rfl rfl hu rfl rfl ?_
  cases h9 : unitB x
  · repeat (first | refine W.seq ?_ | refine W.ops ?_ | refine WL.off rfl rfl ?_ | refine WL.val rfl rfl rfl ?_ | refine WL.nil ?_ | refine W.block ?_ | refine W.outBlock ?_ | refine W.skip ?_ | refine W.exit rfl ?_ | refine WL.box rfl rfl rfl ?_ | refine W.opsD ?_ | refine W.condT rfl ?_ | refine W.condF rfl ?_)
    exact W.ret ⟨_, rfl, retB (formB_no (fun hf => by obtain ⟨f1, f2, f3, f4, f5, f6, f7, f8, f9, f10⟩ := hf; exact absurd f8 (by simp [h9])))⟩
  repeat (first | refine W.seq ?_ | refine W.ops ?_ | refine WL.off rfl rfl ?_ | refine WL.val rfl rfl rfl ?_ | refine WL.nil ?_ | refine W.block ?_ | refine W.outBlock ?_ | refine W.skip ?_ | refine W.exit rfl ?_ | refine WL.box rfl rfl rfl ?_ | refine W.opsD ?_ | refine W.condT rfl ?_ | refine W.condF rfl ?_)
  refine WL.view rfl rfl rfl hm2 rfl rfl ?_
  cases h10 : mayB x.selOff x.selWidth 32
  · repeat (first | refine W.seq ?_ | refine W.ops ?_ | refine WL.off rfl rfl ?_ | refine WL.val rfl rfl rfl ?_ | refine WL.nil ?_ | refine W.block ?_ | refine W.outBlock ?_ | refine W.skip ?_ | refine W.exit rfl ?_ | refine WL.box rfl rfl rfl ?_ | refine W.opsD ?_ | refine W.condT rfl ?_ | refine W.condF rfl ?_)
    exact W.ret ⟨_, rfl, retB (formB_no (fun hf => by obtain ⟨f1, f2, f3, f4, f5, f6, f7, f8, f9, f10⟩ := hf; exact absurd f9 (by simp [h10])))⟩
  have hsw : 0 ≤ x.selWidth := by
    unfold mayB at h10
    split at h10
    · omega
    · simp at h10; omega
  repeat (first | refine W.seq ?_ | refine W.ops ?_ | refine WL.off rfl rfl ?_ | refine WL.val rfl rfl rfl ?_ | refine WL.nil ?_ | refine W.block ?_ | refine W.outBlock ?_ | refine W.skip ?_ | refine W.exit rfl ?_ | refine WL.box rfl rfl rfl ?_ | refine W.opsD ?_ | refine W.condT rfl ?_ | refine W.condF rfl ?_)
  refine W.loopE (E0 := envOf [(1, _), (57, _), (58, _), (59, _)]) rfl (β := Nat) (fun b => [(59, .v (.int .i64 b))])
    (fun b h n => b ≤ x.arms.l.length ∧ h = Heap.empty ∧ ∀ j, j < b → armOk x j) (fun b => x.arms.l.length - b) 0 rfl ⟨by simp, rfl, by intro j h; simp at h⟩ ?_
  rintro i h n ⟨hi, rfl, hok⟩ ih
  repeat (first | refine W.seq ?_ | refine W.ops ?_ | refine WL.off rfl rfl ?_ | refine WL.val rfl rfl rfl ?_ | refine WL.nil ?_ | refine W.block ?_ | refine W.outBlock ?_ | refine W.skip ?_ | refine W.exit rfl ?_ | refine WL.box rfl rfl rfl ?_ | refine W.opsD ?_ | refine W.condT rfl ?_ | refine W.condF rfl ?_)
  refine W.cond rfl (fun hb2 => ?_) (fun hb2 => ?_)
  · have hlt : i < x.arms.l.length := by simpa using hb2
    have hta := to_c x.arms.l[i].next
    repeat (first | refine W.seq ?_ | refine W.ops ?_ | refine WL.off rfl rfl ?_ | refine WL.val rfl rfl rfl ?_ | refine WL.nil ?_ | refine W.block ?_ | refine W.outBlock ?_ | refine W.skip ?_ | refine W.exit rfl ?_ | refine WL.box rfl rfl rfl ?_ | refine W.opsD ?_ | refine W.condT rfl ?_ | refine W.condF rfl ?_)
    refine WL.val rfl (aop_iaddr_p rfl rfl hlt) rfl ?_
    refine WL.val rfl (aop_load_st (enc := Arm.enc) rfl (fun _ => rfl) hlt) rfl ?_
    repeat (first | refine W.seq ?_ | refine W.ops ?_ | refine WL.off rfl rfl ?_ | refine WL.val rfl rfl rfl ?_ | refine WL.nil ?_ | refine W.block ?_ | refine W.outBlock ?_ | refine W.skip ?_ | refine W.exit rfl ?_ | refine WL.box rfl rfl rfl ?_ | refine W.opsD ?_ | refine W.condT rfl ?_ | refine W.condF rfl ?_)
    refine WL.val rfl (aop_shr rfl rfl hsw) rfl ?_
    repeat (first | refine W.seq ?_ | refine W.ops ?_ | refine WL.off rfl rfl ?_ | refine WL.val rfl rfl rfl ?_ | refine WL.nil ?_ | refine W.block ?_ | refine W.outBlock ?_ | refine W.skip ?_ | refine W.exit rfl ?_ | refine WL.box rfl rfl rfl ?_ | refine W.opsD ?_ | refine W.condT rfl ?_ | refine W.condF rfl ?_)
    refine WL.splitG rfl (fun h11 => ?_) (fun h11 => ?_)
    · repeat (first | refine W.seq ?_ | refine W.ops ?_ | refine WL.off rfl rfl ?_ | refine WL.val rfl rfl rfl ?_ | refine WL.nil ?_ | refine W.block ?_ | refine W.outBlock ?_ | refine W.skip ?_ | refine W.exit rfl ?_ | refine WL.box rfl rfl rfl ?_ | refine W.opsD ?_ | refine W.condT rfl ?_ | refine W.condF rfl ?_)
      exact W.ret ⟨_, rfl, retB (formB_no (fun hf => by obtain ⟨f1, f2, f3, f4, f5, f6, f7, f8, f9, f10⟩ := hf; exact absurd (of_decide_eq_true h11) (f10 i hlt).1))⟩
    repeat (first | refine W.seq ?_ | refine W.ops ?_ | refine WL.off rfl rfl ?_ | refine WL.val rfl rfl rfl ?_ | refine WL.nil ?_ | refine W.block ?_ | refine W.outBlock ?_ | refine W.skip ?_ | refine W.exit rfl ?_ | refine WL.box rfl rfl rfl ?_ | refine W.opsD ?_ | refine W.condT rfl ?_ | refine W.condF rfl ?_)
    refine WL.splitG rfl (fun h12 => ?_) (fun h12 => ?_)
    · repeat (first | refine W.seq ?_ | refine W.ops ?_ | refine WL.off rfl rfl ?_ | refine WL.val rfl rfl rfl ?_ | refine WL.nil ?_ | refine W.block ?_ | refine W.outBlock ?_ | refine W.skip ?_ | refine W.exit rfl ?_ | refine WL.box rfl rfl rfl ?_ | refine W.opsD ?_ | refine W.condT rfl ?_ | refine W.condF rfl ?_)
      exact W.ret ⟨_, rfl, retB (formB_no (fun hf => by obtain ⟨f1, f2, f3, f4, f5, f6, f7, f8, f9, f10⟩ := hf; exact absurd (by simpa using h12) (f10 i hlt).2.1))⟩
    repeat (first | refine W.seq ?_ | refine W.ops ?_ | refine WL.off rfl rfl ?_ | refine WL.val rfl rfl rfl ?_ | refine WL.nil ?_ | refine W.block ?_ | refine W.outBlock ?_ | refine W.skip ?_ | refine W.exit rfl ?_ | refine WL.box rfl rfl rfl ?_ | refine W.opsD ?_ | refine W.condT rfl ?_ | refine W.condF rfl ?_)
    refine WL.splitG rfl (fun h13 => ?_) (fun h13 => ?_)
    · repeat (first | refine W.seq ?_ | refine W.ops ?_ | refine WL.off rfl rfl ?_ | refine WL.val rfl rfl rfl ?_ | refine WL.nil ?_ | refine W.block ?_ | refine W.outBlock ?_ | refine W.skip ?_ | refine W.exit rfl ?_ | refine WL.box rfl rfl rfl ?_ | refine W.opsD ?_ | refine W.condT rfl ?_ | refine W.condF rfl ?_)
      have hi0 : 0 < i := by have := of_decide_eq_true h13; omega
      have ew : IntKind.wrap .i64 ((i : Int) - 1) = ((i - 1 : Nat) : Int) := by rw [wrap64 (by omega) (by omega)]; omega
      refine WL.val rfl (aop_iaddr_p rfl rfl (show i - 1 < x.arms.l.length by omega) ew) rfl ?_
      repeat (first | refine W.seq ?_ | refine W.ops ?_ | refine WL.off rfl rfl ?_ | refine WL.val rfl rfl rfl ?_ | refine WL.nil ?_ | refine W.block ?_ | refine W.outBlock ?_ | refine W.skip ?_ | refine W.exit rfl ?_ | refine WL.box rfl rfl rfl ?_ | refine W.opsD ?_ | refine W.condT rfl ?_ | refine W.condF rfl ?_)
      refine WL.val rfl (aop_load_el (enc := Arm.enc) (o := 0) rfl (fun _ => rfl) (show i - 1 < x.arms.l.length by omega) (by decide) rfl) rfl ?_
      repeat (first | refine W.seq ?_ | refine W.ops ?_ | refine WL.off rfl rfl ?_ | refine WL.val rfl rfl rfl ?_ | refine WL.nil ?_ | refine W.block ?_ | refine W.outBlock ?_ | refine W.skip ?_ | refine W.exit rfl ?_ | refine WL.box rfl rfl rfl ?_ | refine W.opsD ?_ | refine W.condT rfl ?_ | refine W.condF rfl ?_)
      refine WL.splitG rfl (fun h14 => ?_) (fun h14 => ?_)
      · repeat (first | refine W.seq ?_ | refine W.ops ?_ | refine WL.off rfl rfl ?_ | refine WL.val rfl rfl rfl ?_ | refine WL.nil ?_ | refine W.block ?_ | refine W.outBlock ?_ | refine W.skip ?_ | refine W.exit rfl ?_ | refine WL.box rfl rfl rfl ?_ | refine W.opsD ?_ | refine W.condT rfl ?_ | refine W.condF rfl ?_)
        exact W.ret ⟨_, rfl, retB (formB_no (fun hf => by obtain ⟨f1, f2, f3, f4, f5, f6, f7, f8, f9, f10⟩ := hf; exact absurd (of_decide_eq_true h14) ((f10 i hlt).2.2.1 hi0 (by omega))))⟩
      repeat (first | refine W.seq ?_ | refine W.ops ?_ | refine WL.off rfl rfl ?_ | refine WL.val rfl rfl rfl ?_ | refine WL.nil ?_ | refine W.block ?_ | refine W.outBlock ?_ | refine W.skip ?_ | refine W.exit rfl ?_ | refine WL.box rfl rfl rfl ?_ | refine W.opsD ?_ | refine W.condT rfl ?_ | refine W.condF rfl ?_)
      refine WL.view rfl rfl rfl hta rfl rfl ?_
      cases h15 : toB x.arms.l[i].next
      · repeat (first | refine W.seq ?_ | refine W.ops ?_ | refine WL.off rfl rfl ?_ | refine WL.val rfl rfl rfl ?_ | refine WL.nil ?_ | refine W.block ?_ | refine W.outBlock ?_ | refine W.skip ?_ | refine W.exit rfl ?_ | refine WL.box rfl rfl rfl ?_ | refine W.opsD ?_ | refine W.condT rfl ?_ | refine W.condF rfl ?_)
        exact W.ret ⟨_, rfl, retB (formB_no (fun hf => by obtain ⟨f1, f2, f3, f4, f5, f6, f7, f8, f9, f10⟩ := hf; exact absurd (f10 i hlt).2.2.2 (by simp [h15])))⟩
      repeat (first | refine W.seq ?_ | refine W.ops ?_ | refine WL.off rfl rfl ?_ | refine WL.val rfl rfl rfl ?_ | refine WL.nil ?_ | refine W.block ?_ | refine W.outBlock ?_ | refine W.skip ?_ | refine W.exit rfl ?_ | refine WL.box rfl rfl rfl ?_ | refine W.opsD ?_ | refine W.condT rfl ?_ | refine W.condF rfl ?_)
      refine ih (i + 1) _ _ _ ⟨hlt, rfl, fun j hj => ?_⟩ (by omega) (by rw [← wrap64_nat (k := i) (by omega)]; rfl)
      by_cases hji : j = i
      · subst hji
        exact fun hx => ⟨of_decide_eq_false h11, by simpa using h12, fun hp hq => of_decide_eq_false h14, h15⟩
      · exact hok j (by omega)
    · have h13' := of_decide_eq_false h13
      repeat (first | refine W.seq ?_ | refine W.ops ?_ | refine WL.off rfl rfl ?_ | refine WL.val rfl rfl rfl ?_ | refine WL.nil ?_ | refine W.block ?_ | refine W.outBlock ?_ | refine W.skip ?_ | refine W.exit rfl ?_ | refine WL.box rfl rfl rfl ?_ | refine W.opsD ?_ | refine W.condT rfl ?_ | refine W.condF rfl ?_)
      refine WL.view rfl rfl rfl hta rfl rfl ?_
      cases h15 : toB x.arms.l[i].next
      · repeat (first | refine W.seq ?_ | refine W.ops ?_ | refine WL.off rfl rfl ?_ | refine WL.val rfl rfl rfl ?_ | refine WL.nil ?_ | refine W.block ?_ | refine W.outBlock ?_ | refine W.skip ?_ | refine W.exit rfl ?_ | refine WL.box rfl rfl rfl ?_ | refine W.opsD ?_ | refine W.condT rfl ?_ | refine W.condF rfl ?_)
        exact W.ret ⟨_, rfl, retB (formB_no (fun hf => by obtain ⟨f1, f2, f3, f4, f5, f6, f7, f8, f9, f10⟩ := hf; exact absurd (f10 i hlt).2.2.2 (by simp [h15])))⟩
      repeat (first | refine W.seq ?_ | refine W.ops ?_ | refine WL.off rfl rfl ?_ | refine WL.val rfl rfl rfl ?_ | refine WL.nil ?_ | refine W.block ?_ | refine W.outBlock ?_ | refine W.skip ?_ | refine W.exit rfl ?_ | refine WL.box rfl rfl rfl ?_ | refine W.opsD ?_ | refine W.condT rfl ?_ | refine W.condF rfl ?_)
      refine ih (i + 1) _ _ _ ⟨hlt, rfl, fun j hj => ?_⟩ (by omega) (by rw [← wrap64_nat (k := i) (by omega)]; rfl)
      by_cases hji : j = i
      · subst hji
        exact fun hx => ⟨of_decide_eq_false h11, by simpa using h12, fun hp hq => absurd hp (by omega), h15⟩
      · exact hok j (by omega)
  · have hge : i = x.arms.l.length := by simp at hb2; omega
    subst hge
    repeat (first | refine W.seq ?_ | refine W.ops ?_ | refine WL.off rfl rfl ?_ | refine WL.val rfl rfl rfl ?_ | refine WL.nil ?_ | refine W.block ?_ | refine W.outBlock ?_ | refine W.skip ?_ | refine W.exit rfl ?_ | refine WL.box rfl rfl rfl ?_ | refine W.opsD ?_ | refine W.condT rfl ?_ | refine W.condF rfl ?_)
    refine W.ret ⟨_, rfl, retB (formB_yes ⟨?_, ?_, ?_, ?_, h5, l6, h8, h9, h10, fun j hj => hok j hj hj⟩)⟩
    · have := of_decide_eq_false h1; omega
    · have := of_decide_eq_false h2; omega
    · have := of_decide_eq_false h3; omega
    · have := of_decide_eq_false h4; omega

def formsOk (l : List Node) : Prop := ∀ i (hi : i < l.length), formB l[i] = true ∧ (0 < i → ∀ h2 : i - 1 < l.length, l[i - 1].id < l[i].id)
def formsB (l : List Node) : Bool := dB (formsOk l)
theorem forms_c (nodes : Sl Node) (hl : nodes.l.length < 100000) (ha : ∀ x ∈ nodes.l, x.arms.l.length < 100000) : VC1 T 48 [nodes.av 9 Node.enc] (.bool (formsB nodes.l)) := by
  refine VC1.of (vf := v48) rfl rfl ?_
  unfold v48
  repeat (first | refine W.seq ?_ | refine W.ops ?_ | refine WL.off rfl rfl ?_ | refine WL.val rfl rfl rfl ?_ | refine WL.nil ?_ | refine W.block ?_ | refine W.outBlock ?_ | refine W.skip ?_ | refine W.exit rfl ?_ | refine WL.box rfl rfl rfl ?_ | refine W.opsD ?_ | refine W.condT rfl ?_ | refine W.condF rfl ?_)
  refine W.loopE (E0 := envOf [(0, _), (5, _), (6, _), (7, _)]) rfl (β := Nat) (fun b => [(7, .v (.int .i64 b))])
    (fun b h n => b ≤ nodes.l.length ∧ h = Heap.empty ∧ ∀ j (hj : j < nodes.l.length), j < b → formB nodes.l[j] = true ∧ (0 < j → ∀ h2 : j - 1 < nodes.l.length, nodes.l[j - 1].id < nodes.l[j].id)) (fun b => nodes.l.length - b) 0 rfl ⟨by simp, rfl, by intro j _ h; simp at h⟩ ?_
  rintro i h n ⟨hi, rfl, hok⟩ ih
  repeat (first | refine W.seq ?_ | refine W.ops ?_ | refine WL.off rfl rfl ?_ | refine WL.val rfl rfl rfl ?_ | refine WL.nil ?_ | refine W.block ?_ | refine W.outBlock ?_ | refine W.skip ?_ | refine W.exit rfl ?_ | refine WL.box rfl rfl rfl ?_ | refine W.opsD ?_ | refine W.condT rfl ?_ | refine W.condF rfl ?_)
  refine W.cond rfl (fun hb2 => ?_) (fun hb2 => ?_)
  · have hlt : i < nodes.l.length := by simpa using hb2
    have hf := form_c nodes.l[i] (ha _ (List.getElem_mem hlt))
    repeat (first | refine W.seq ?_ | refine W.ops ?_ | refine WL.off rfl rfl ?_ | refine WL.val rfl rfl rfl ?_ | refine WL.nil ?_ | refine W.block ?_ | refine W.outBlock ?_ | refine W.skip ?_ | refine W.exit rfl ?_ | refine WL.box rfl rfl rfl ?_ | refine W.opsD ?_ | refine W.condT rfl ?_ | refine W.condF rfl ?_)
    refine WL.val rfl (aop_iaddr_p rfl rfl hlt) rfl ?_
    refine WL.val rfl (aop_load_st (enc := Node.enc) rfl (fun _ => rfl) hlt) rfl ?_
    repeat (first | refine W.seq ?_ | refine W.ops ?_ | refine WL.off rfl rfl ?_ | refine WL.val rfl rfl rfl ?_ | refine WL.nil ?_ | refine W.block ?_ | refine W.outBlock ?_ | refine W.skip ?_ | refine W.exit rfl ?_ | refine WL.box rfl rfl rfl ?_ | refine W.opsD ?_ | refine W.condT rfl ?_ | refine W.condF rfl ?_)
    refine WL.view rfl rfl rfl hf rfl rfl ?_
    cases h1 : formB nodes.l[i]
    · repeat (first | refine W.seq ?_ | refine W.ops ?_ | refine WL.off rfl rfl ?_ | refine WL.val rfl rfl rfl ?_ | refine WL.nil ?_ | refine W.block ?_ | refine W.outBlock ?_ | refine W.skip ?_ | refine W.exit rfl ?_ | refine WL.box rfl rfl rfl ?_ | refine W.opsD ?_ | refine W.condT rfl ?_ | refine W.condF rfl ?_)
      exact W.ret ⟨_, rfl, retB (dB_no (fun hq : formsOk nodes.l => by have := (hq i hlt).1; rw [h1] at this; cases this))⟩
    repeat (first | refine W.seq ?_ | refine W.ops ?_ | refine WL.off rfl rfl ?_ | refine WL.val rfl rfl rfl ?_ | refine WL.nil ?_ | refine W.block ?_ | refine W.outBlock ?_ | refine W.skip ?_ | refine W.exit rfl ?_ | refine WL.box rfl rfl rfl ?_ | refine W.opsD ?_ | refine W.condT rfl ?_ | refine W.condF rfl ?_)
    refine WL.splitG rfl (fun h2 => ?_) (fun h2 => ?_)
    · have hi0 : 0 < i := by have := of_decide_eq_true h2; omega
      have ew : IntKind.wrap .i64 ((i : Int) - 1) = ((i - 1 : Nat) : Int) := by rw [wrap64 (by omega) (by omega)]; omega
      repeat (first | refine W.seq ?_ | refine W.ops ?_ | refine WL.off rfl rfl ?_ | refine WL.val rfl rfl rfl ?_ | refine WL.nil ?_ | refine W.block ?_ | refine W.outBlock ?_ | refine W.skip ?_ | refine W.exit rfl ?_ | refine WL.box rfl rfl rfl ?_ | refine W.opsD ?_ | refine W.condT rfl ?_ | refine W.condF rfl ?_)
      refine WL.val rfl (aop_iaddr_p rfl rfl (show i - 1 < nodes.l.length by omega) ew) rfl ?_
      repeat (first | refine W.seq ?_ | refine W.ops ?_ | refine WL.off rfl rfl ?_ | refine WL.val rfl rfl rfl ?_ | refine WL.nil ?_ | refine W.block ?_ | refine W.outBlock ?_ | refine W.skip ?_ | refine W.exit rfl ?_ | refine WL.box rfl rfl rfl ?_ | refine W.opsD ?_ | refine W.condT rfl ?_ | refine W.condF rfl ?_)
      refine WL.val rfl (aop_load_el (enc := Node.enc) (o := 0) rfl (fun _ => rfl) (show i - 1 < nodes.l.length by omega) (by decide) rfl) rfl ?_
      repeat (first | refine W.seq ?_ | refine W.ops ?_ | refine WL.off rfl rfl ?_ | refine WL.val rfl rfl rfl ?_ | refine WL.nil ?_ | refine W.block ?_ | refine W.outBlock ?_ | refine W.skip ?_ | refine W.exit rfl ?_ | refine WL.box rfl rfl rfl ?_ | refine W.opsD ?_ | refine W.condT rfl ?_ | refine W.condF rfl ?_)
      refine W.condS rfl (fun h3 => ?_) (fun h3 => ?_)
      · repeat (first | refine W.seq ?_ | refine W.ops ?_ | refine WL.off rfl rfl ?_ | refine WL.val rfl rfl rfl ?_ | refine WL.nil ?_ | refine W.block ?_ | refine W.outBlock ?_ | refine W.skip ?_ | refine W.exit rfl ?_ | refine WL.box rfl rfl rfl ?_ | refine W.opsD ?_ | refine W.condT rfl ?_ | refine W.condF rfl ?_)
        exact W.ret ⟨_, rfl, retB (dB_no (fun hq : formsOk nodes.l => by have := (hq i hlt).2 hi0 (by omega); have := of_decide_eq_true h3; omega))⟩
      repeat (first | refine W.seq ?_ | refine W.ops ?_ | refine WL.off rfl rfl ?_ | refine WL.val rfl rfl rfl ?_ | refine WL.nil ?_ | refine W.block ?_ | refine W.outBlock ?_ | refine W.skip ?_ | refine W.exit rfl ?_ | refine WL.box rfl rfl rfl ?_ | refine W.opsD ?_ | refine W.condT rfl ?_ | refine W.condF rfl ?_)
      refine ih (i + 1) _ _ _ ⟨hlt, rfl, fun j hj hji => ?_⟩ (by omega) (by rw [← wrap64_nat (k := i) (by omega)]; rfl)
      by_cases e : j = i
      · subst e; exact ⟨h1, fun _ _ => by have := of_decide_eq_false h3; omega⟩
      · exact hok j hj (by omega)
    · repeat (first | refine W.seq ?_ | refine W.ops ?_ | refine WL.off rfl rfl ?_ | refine WL.val rfl rfl rfl ?_ | refine WL.nil ?_ | refine W.block ?_ | refine W.outBlock ?_ | refine W.skip ?_ | refine W.exit rfl ?_ | refine WL.box rfl rfl rfl ?_ | refine W.opsD ?_ | refine W.condT rfl ?_ | refine W.condF rfl ?_)
      refine ih (i + 1) _ _ _ ⟨hlt, rfl, fun j hj hji => ?_⟩ (by omega) (by rw [← wrap64_nat (k := i) (by omega)]; rfl)
      by_cases e : j = i
      · subst e; exact ⟨h1, fun hp _ => by have := of_decide_eq_false h2; omega⟩
      · exact hok j hj (by omega)
  · have hge : i = nodes.l.length := by simp at hb2; omega
    subst hge
    repeat (first | refine W.seq ?_ | refine W.ops ?_ | refine WL.off rfl rfl ?_ | refine WL.val rfl rfl rfl ?_ | refine WL.nil ?_ | refine W.block ?_ | refine W.outBlock ?_ | refine W.skip ?_ | refine W.exit rfl ?_ | refine WL.box rfl rfl rfl ?_ | refine W.opsD ?_ | refine W.condT rfl ?_ | refine W.condF rfl ?_)
    exact W.ret ⟨_, rfl, retB (dB_yes (fun j hj => hok j hj hj))⟩

def refOk (l : List Node) (id : Int) : Prop := (findN l id).isSome = true ∨ id = 0 ∨ id = 65535
def refsOk (l : List Node) : Prop := ∀ x ∈ l, ∀ id ∈ goesL x, refOk l id
def refsB (l : List Node) : Bool := dB (refsOk l)
theorem refs_c (nodes : Sl Node) (hl : nodes.l.length < 100000) (ha : ∀ x ∈ nodes.l, x.arms.l.length < 100000) : VC1 T 49 [nodes.av 9 Node.enc] (.bool (refsB nodes.l)) := by
  refine VC1.of (vf := v49) rfl rfl ?_
  unfold v49
  repeat (first | refine W.seq ?_ | refine W.ops ?_ | refine WL.off rfl rfl ?_ | refine WL.val rfl rfl rfl ?_ | refine WL.nil ?_ | refine W.block ?_ | refine W.outBlock ?_ | refine W.skip ?_ | refine W.exit rfl ?_ | refine WL.box rfl rfl rfl ?_ | refine W.opsD ?_ | refine W.condT rfl ?_ | refine W.condF rfl ?_)
  refine W.loopE (E0 := envOf [(0, _), (9, _), (10, _), (11, _)]) rfl (β := Nat) (fun b => [(11, .v (.int .i64 b))])
    (fun b h n => b ≤ nodes.l.length ∧ h = Heap.empty ∧ ∀ j (hj : j < nodes.l.length), j < b → ∀ id ∈ goesL nodes.l[j], refOk nodes.l id) (fun b => nodes.l.length - b) 0 rfl ⟨by simp, rfl, by intro j _ h; simp at h⟩ ?_
  rintro i h n ⟨hi, rfl, hok⟩ ih
  repeat (first | refine W.seq ?_ | refine W.ops ?_ | refine WL.off rfl rfl ?_ | refine WL.val rfl rfl rfl ?_ | refine WL.nil ?_ | refine W.block ?_ | refine W.outBlock ?_ | refine W.skip ?_ | refine W.exit rfl ?_ | refine WL.box rfl rfl rfl ?_ | refine W.opsD ?_ | refine W.condT rfl ?_ | refine W.condF rfl ?_)
  refine W.cond rfl (fun hb2 => ?_) (fun hb2 => ?_)
  · have hlt : i < nodes.l.length := by simpa using hb2
    obtain ⟨v, hg, hv⟩ := goes_c nodes.l[i] (ha _ (List.getElem_mem hlt))
    have hgl : (goesL nodes.l[i]).length < 200000 := by have := ha _ (List.getElem_mem hlt); simp [goesL]; omega
    repeat (first | refine W.seq ?_ | refine W.ops ?_ | refine WL.off rfl rfl ?_ | refine WL.val rfl rfl rfl ?_ | refine WL.nil ?_ | refine W.block ?_ | refine W.outBlock ?_ | refine W.skip ?_ | refine W.exit rfl ?_ | refine WL.box rfl rfl rfl ?_ | refine W.opsD ?_ | refine W.condT rfl ?_ | refine W.condF rfl ?_)
    refine WL.val rfl (aop_iaddr_p rfl rfl hlt) rfl ?_
    refine WL.val rfl (aop_load_st (enc := Node.enc) rfl (fun _ => rfl) hlt) rfl ?_
    repeat (first | refine W.seq ?_ | refine W.ops ?_ | refine WL.off rfl rfl ?_ | refine WL.val rfl rfl rfl ?_ | refine WL.nil ?_ | refine W.block ?_ | refine W.outBlock ?_ | refine W.skip ?_ | refine W.exit rfl ?_ | refine WL.box rfl rfl rfl ?_ | refine W.opsD ?_ | refine W.condT rfl ?_ | refine W.condF rfl ?_)
    refine WL.pure rfl rfl rfl hg rfl ?_
    refine WL.val rfl (aop_len_sl rfl hv) rfl ?_
    repeat (first | refine W.seq ?_ | refine W.ops ?_ | refine WL.off rfl rfl ?_ | refine WL.val rfl rfl rfl ?_ | refine WL.nil ?_ | refine W.block ?_ | refine W.outBlock ?_ | refine W.skip ?_ | refine W.exit rfl ?_ | refine WL.box rfl rfl rfl ?_ | refine W.opsD ?_ | refine W.condT rfl ?_ | refine W.condF rfl ?_)
    refine W.loopE (E0 := envOf [(0, _), (9, _), (10, _), (11, _), (16, _), (17, _), (18, _)]) rfl (β := Nat) (fun b => [(18, .v (.int .i64 b))])
      (fun b h n => b ≤ (goesL nodes.l[i]).length ∧ h = Heap.empty ∧ ∀ j (hj : j < (goesL nodes.l[i]).length), j < b → refOk nodes.l (goesL nodes.l[i])[j]) (fun b => (goesL nodes.l[i]).length - b) 0 rfl ⟨by simp, rfl, by intro j _ h; simp at h⟩ ?_
    rintro k h2 n2 ⟨hk, rfl, hok2⟩ ih2
    repeat (first | refine W.seq ?_ | refine W.ops ?_ | refine WL.off rfl rfl ?_ | refine WL.val rfl rfl rfl ?_ | refine WL.nil ?_ | refine W.block ?_ | refine W.outBlock ?_ | refine W.skip ?_ | refine W.exit rfl ?_ | refine WL.box rfl rfl rfl ?_ | refine W.opsD ?_ | refine W.condT rfl ?_ | refine W.condF rfl ?_)
    refine W.cond rfl (fun hb3 => ?_) (fun hb3 => ?_)
    · have hlt3 : k < (goesL nodes.l[i]).length := by simpa using hb3
      have hfi := find_c nodes hl (goesL nodes.l[i])[k]
      repeat (first | refine W.seq ?_ | refine W.ops ?_ | refine WL.off rfl rfl ?_ | refine WL.val rfl rfl rfl ?_ | refine WL.nil ?_ | refine W.block ?_ | refine W.outBlock ?_ | refine W.skip ?_ | refine W.exit rfl ?_ | refine WL.box rfl rfl rfl ?_ | refine W.opsD ?_ | refine W.condT rfl ?_ | refine W.condF rfl ?_)
      refine WL.val rfl (aop_iaddr_sl rfl hv rfl hlt3) rfl ?_
      refine WL.val rfl (aop_load_el (enc := encI) (o := 0) rfl (fun _ => rfl) hlt3 (by decide) rfl) rfl ?_
      repeat (first | refine W.seq ?_ | refine W.ops ?_ | refine WL.off rfl rfl ?_ | refine WL.val rfl rfl rfl ?_ | refine WL.nil ?_ | refine W.block ?_ | refine W.outBlock ?_ | refine W.skip ?_ | refine W.exit rfl ?_ | refine WL.box rfl rfl rfl ?_ | refine W.opsD ?_ | refine W.condT rfl ?_ | refine W.condF rfl ?_)
      refine WL.pure rfl rfl rfl hfi rfl ?_
      generalize hid : (goesL nodes.l[i])[k] = id at *
      have cont : refOk nodes.l id → ∀ j (hj : j < (goesL nodes.l[i]).length), j < k + 1 → refOk nodes.l (goesL nodes.l[i])[j] := by
        intro h1 j hj hjk
        by_cases e : j = k
        · subst e; rw [hid]; exact h1
        · exact hok2 j hj (by omega)
      have hmem : id ∈ goesL nodes.l[i] := by rw [← hid]; exact List.getElem_mem hlt3
      unfold findAV
      cases hfn : findN nodes.l id with
      | some x =>
        repeat (first | refine W.seq ?_ | refine W.ops ?_ | refine WL.off rfl rfl ?_ | refine WL.val rfl rfl rfl ?_ | refine WL.nil ?_ | refine W.block ?_ | refine W.outBlock ?_ | refine W.skip ?_ | refine W.exit rfl ?_ | refine WL.box rfl rfl rfl ?_ | refine W.opsD ?_ | refine W.condT rfl ?_ | refine W.condF rfl ?_)
        exact ih2 (k + 1) _ _ _ ⟨hlt3, rfl, cont (.inl (by rw [hfn]; rfl))⟩ (by omega) (by rw [← wrap64_nat (k := k) (by omega)]; rfl)
      | none =>
        repeat (first | refine W.seq ?_ | refine W.ops ?_ | refine WL.off rfl rfl ?_ | refine WL.val rfl rfl rfl ?_ | refine WL.nil ?_ | refine W.block ?_ | refine W.outBlock ?_ | refine W.skip ?_ | refine W.exit rfl ?_ | refine WL.box rfl rfl rfl ?_ | refine W.opsD ?_ | refine W.condT rfl ?_ | refine W.condF rfl ?_)
        refine WL.splitG rfl (fun h4 => ?_) (fun h4 => ?_)
        · have h4' : id ≠ 0 := by simpa using h4
          repeat (first | refine W.seq ?_ | refine W.ops ?_ | refine WL.off rfl rfl ?_ | refine WL.val rfl rfl rfl ?_ | refine WL.nil ?_ | refine W.block ?_ | refine W.outBlock ?_ | refine W.skip ?_ | refine W.exit rfl ?_ | refine WL.box rfl rfl rfl ?_ | refine W.opsD ?_ | refine W.condT rfl ?_ | refine W.condF rfl ?_)
          refine W.condS rfl (fun h5 => ?_) (fun h5 => ?_)
          · have h5' : id ≠ 65535 := by simpa using h5
            repeat (first | refine W.seq ?_ | refine W.ops ?_ | refine WL.off rfl rfl ?_ | refine WL.val rfl rfl rfl ?_ | refine WL.nil ?_ | refine W.block ?_ | refine W.outBlock ?_ | refine W.skip ?_ | refine W.exit rfl ?_ | refine WL.box rfl rfl rfl ?_ | refine W.opsD ?_ | refine W.condT rfl ?_ | refine W.condF rfl ?_)
            exact W.ret ⟨_, rfl, retB (by
              refine dB_no (fun hq : refsOk nodes.l => ?_)
              rcases hq _ (List.getElem_mem hlt) id hmem with q | q | q
              · rw [hfn] at q; cases q
              · exact h4' q
              · exact h5' q)⟩
          · have h5' : id = 65535 := by simpa using h5
            repeat (first | refine W.seq ?_ | refine W.ops ?_ | refine WL.off rfl rfl ?_ | refine WL.val rfl rfl rfl ?_ | refine WL.nil ?_ | refine W.block ?_ | refine W.outBlock ?_ | refine W.skip ?_ | refine W.exit rfl ?_ | refine WL.box rfl rfl rfl ?_ | refine W.opsD ?_ | refine W.condT rfl ?_ | refine W.condF rfl ?_)
            exact ih2 (k + 1) _ _ _ ⟨hlt3, rfl, cont (.inr (.inr h5'))⟩ (by omega) (by rw [← wrap64_nat (k := k) (by omega)]; rfl)
        · have h4' : id = 0 := by simpa using h4
          repeat (first | refine W.seq ?_ | refine W.ops ?_ | refine WL.off rfl rfl ?_ | refine WL.val rfl rfl rfl ?_ | refine WL.nil ?_ | refine W.block ?_ | refine W.outBlock ?_ | refine W.skip ?_ | refine W.exit rfl ?_ | refine WL.box rfl rfl rfl ?_ | refine W.opsD ?_ | refine W.condT rfl ?_ | refine W.condF rfl ?_)
          exact ih2 (k + 1) _ _ _ ⟨hlt3, rfl, cont (.inr (.inl h4'))⟩ (by omega) (by rw [← wrap64_nat (k := k) (by omega)]; rfl)
    · have hge : k = (goesL nodes.l[i]).length := by simp at hb3; omega
      subst hge
      repeat (first | refine W.seq ?_ | refine W.ops ?_ | refine WL.off rfl rfl ?_ | refine WL.val rfl rfl rfl ?_ | refine WL.nil ?_ | refine W.block ?_ | refine W.outBlock ?_ | refine W.skip ?_ | refine W.exit rfl ?_ | refine WL.box rfl rfl rfl ?_ | refine W.opsD ?_ | refine W.condT rfl ?_ | refine W.condF rfl ?_)
      refine ih (i + 1) _ _ _ ⟨hlt, rfl, fun j hj hji id hid => ?_⟩ (by omega) (by rw [← wrap64_nat (k := i) (by omega)]; rfl)
      by_cases e : j = i
      · subst e
        obtain ⟨q, hq, rfl⟩ := List.mem_iff_getElem.1 hid
        exact hok2 q hq hq
      · exact hok j hj (by omega) id hid
  · have hge : i = nodes.l.length := by simp at hb2; omega
    subst hge
    repeat (first | refine W.seq ?_ | refine W.ops ?_ | refine WL.off rfl rfl ?_ | refine WL.val rfl rfl rfl ?_ | refine WL.nil ?_ | refine W.block ?_ | refine W.outBlock ?_ | refine W.skip ?_ | refine W.exit rfl ?_ | refine WL.box rfl rfl rfl ?_ | refine W.opsD ?_ | refine W.condT rfl ?_ | refine W.condF rfl ?_)
    exact W.ret ⟨_, rfl, retB (by
      refine dB_yes (fun x hx id hid => ?_)
      obtain ⟨q, hq, rfl⟩ := List.mem_iff_getElem.1 hx
      exact hok q hq hq id hid)⟩
end
end Go.AM.B

/- Package graph: the longest ways. -/
namespace Go.AM.B
open Go.Proofs.Ytebogdeaiecldaa.Tab
noncomputable section
set_option linter.unusedVariables false
set_option linter.unusedSimpArgs false
set_option maxHeartbeats 4000000

abbrev MI := List (Int × Int)
structure GS where
  done : MI
  on : MI
  whole : Bool
def gi (m : MI) (id : Int) : Int := (mget m id).getD 0
def foldW (f : GS → Int → Option (GS × Int)) : GS → Int → List Int → Option (GS × Int)
  | st, most, [] => some (st, most)
  | st, most, y :: ys => match f st y with
    | none => none
    | some (st', r) => foldW f st' (max most r) ys
def walkF (l : List Node) : Nat → GS → Int → Option (GS × Int)
  | 0, _, _ => none
  | k + 1, st, id => match findN l id with
    | none => some (st, 0)
    | some x =>
      if gi st.on id > 0 then some ({ st with whole := false }, 0)
      else if gi st.done id > 0 then some (st, gi st.done id)
      else if gi st.on id = 0 then
        match foldW (walkF l k) { st with on := mput st.on id 1 } 0 (goesL x) with
        | none => none
        | some (st', most) => if gi st'.on id = 1 ∧ 0 ≤ most ∧ most < 1000000 then some ({ st' with on := mput st'.on id 0, done := mput st'.done id (most + 1) }, most + 1) else none
      else none
def kI (n : Int) : AV := .int .i64 n

structure GH (m : Nat) (nodes : Sl Node) (h : Heap) (n : Nat) (st : GS) : Prop where
  l : h.get (m, 0) = some (.cells [nodes.av 9 Node.enc])
  d : h.get (m + 1, 2) = some (.cells [.map (m + 1, 0)])
  o : h.get (m + 1, 3) = some (.cells [.map (m + 1, 1)])
  w : h.get (m + 2, 0) = some (.cells [.bool st.whole])
  f : h.get (m + 3, 0) = some (.cells [.func (.func 50) [] [.ptr (m, 0) 0, .ptr (m + 1, 3) 0, .ptr (m + 2, 0) 0, .ptr (m + 1, 2) 0, .ptr (m + 3, 0) 0]])
  dm : MapN kI h (m + 1, 0) st.done
  om : MapN kI h (m + 1, 1) st.on
  fr : Fresh h n
  n4 : m + 4 ≤ n
theorem GH.mono {nodes : Sl Node} {h : Heap} {n m n' : Nat} {st : GS} (H : GH m nodes h n st) (hm : n ≤ n') : GH m nodes h n' st := { H with fr := H.fr.mono hm, n4 := Nat.le_trans H.n4 hm }
theorem GH.putOn {nodes : Sl Node} {h : Heap} {m n : Nat} {st : GS} (H : GH m nodes h n st) {ob : AObj} {mm : MI} (hob : ∀ H' : Heap, H'.get (m + 1, 1) = some ob → MapN kI H' (m + 1, 1) mm) : GH m nodes (h.put (m + 1, 1) ob) n { st with on := mm } where
  l := by rw [Heap.get_put, if_neg (by simp)]; exact H.l
  d := by rw [Heap.get_put, if_neg (by simp)]; exact H.d
  o := by rw [Heap.get_put, if_neg (by simp)]; exact H.o
  w := by rw [Heap.get_put, if_neg (by simp)]; exact H.w
  f := by rw [Heap.get_put, if_neg (by simp)]; exact H.f
  dm := MapH.frame H.dm (by rw [Heap.get_put, if_neg (by simp)])
  om := hob _ (by rw [Heap.get_put, if_pos rfl])
  fr := H.fr.put (by have := H.n4; dsimp only; omega) (Nat.le_refl _)
  n4 := H.n4
theorem GH.putDone {nodes : Sl Node} {h : Heap} {m n : Nat} {st : GS} (H : GH m nodes h n st) {ob : AObj} {mm : MI} (hob : ∀ H' : Heap, H'.get (m + 1, 0) = some ob → MapN kI H' (m + 1, 0) mm) : GH m nodes (h.put (m + 1, 0) ob) n { st with done := mm } where
  l := by rw [Heap.get_put, if_neg (by simp)]; exact H.l
  d := by rw [Heap.get_put, if_neg (by simp)]; exact H.d
  o := by rw [Heap.get_put, if_neg (by simp)]; exact H.o
  w := by rw [Heap.get_put, if_neg (by simp)]; exact H.w
  f := by rw [Heap.get_put, if_neg (by simp)]; exact H.f
  om := MapH.frame H.om (by rw [Heap.get_put, if_neg (by simp)])
  dm := hob _ (by rw [Heap.get_put, if_pos rfl])
  fr := H.fr.put (by have := H.n4; dsimp only; omega) (Nat.le_refl _)
  n4 := H.n4
theorem GH.putWhole {nodes : Sl Node} {h : Heap} {m n : Nat} {st : GS} (H : GH m nodes h n st) (b : Bool) : GH m nodes (h.put (m + 2, 0) (.cells [.bool b])) n { st with whole := b } where
  l := by rw [Heap.get_put, if_neg (by simp)]; exact H.l
  d := by rw [Heap.get_put, if_neg (by simp)]; exact H.d
  o := by rw [Heap.get_put, if_neg (by simp)]; exact H.o
  w := by rw [Heap.get_put, if_pos rfl]
  f := by rw [Heap.get_put, if_neg (by simp)]; exact H.f
  om := MapH.frame H.om (by rw [Heap.get_put, if_neg (by simp)])
  dm := MapH.frame H.dm (by rw [Heap.get_put, if_neg (by simp)])
  fr := H.fr.put (by have := H.n4; dsimp only; omega) (Nat.le_refl _)
  n4 := H.n4

theorem walk_c (m : Nat) (nodes : Sl Node) (hl : nodes.l.length < 100000) (ha : ∀ x ∈ nodes.l, x.arms.l.length < 100000) : ∀ (k : Nat) (st : GS) (id : Int) (st' : GS) (r : Int) (h : Heap) (n : Nat), walkF nodes.l k st id = some (st', r) → GH m nodes h n st →
    CallsTo T 50 [.int .i64 id, .ptr (m, 0) 0, .ptr (m + 1, 3) 0, .ptr (m + 2, 0) 0, .ptr (m + 1, 2) 0, .ptr (m + 3, 0) 0] h n fun v h' n' => v = .int .i64 r ∧ GH m nodes h' n' st' := by
  intro k
  induction k with
  | zero => intro st id st' r h n hd; cases hd
  | succ k IH =>
    intro st id st' r h n hd hG
    have hfi := find_c nodes hl id
    simp only [walkF] at hd
    refine CallsTo.of (vf := v50) rfl rfl ?_
    unfold v50
    repeat (first | refine W.seq ?_ | refine W.ops ?_ | refine WL.off rfl rfl ?_ | refine WL.val rfl rfl rfl ?_ | refine WL.nil ?_ | refine W.block ?_ | refine W.outBlock ?_ | refine W.skip ?_ | refine W.exit rfl ?_ | refine WL.box rfl rfl rfl ?_ | refine W.opsD ?_ | refine W.condT rfl ?_ | refine W.condF rfl ?_)
    refine WL.val rfl (aop_load_h rfl hG.l rfl) rfl ?_
    repeat (first | refine W.seq ?_ | refine W.ops ?_ | refine WL.off rfl rfl ?_ | refine WL.val rfl rfl rfl ?_ | refine WL.nil ?_ | refine W.block ?_ | refine W.outBlock ?_ | refine W.skip ?_ | refine W.exit rfl ?_ | refine WL.box rfl rfl rfl ?_ | refine W.opsD ?_ | refine W.condT rfl ?_ | refine W.condF rfl ?_)
    refine WL.pure rfl rfl rfl hfi rfl ?_
    unfold findAV
    cases hfn : findN nodes.l id with
    | none =>
      rw [hfn] at hd
      simp only [Option.some.injEq, Prod.mk.injEq] at hd
      obtain ⟨rfl, rfl⟩ := hd
      repeat (first | refine W.seq ?_ | refine W.ops ?_ | refine WL.off rfl rfl ?_ | refine WL.val rfl rfl rfl ?_ | refine WL.nil ?_ | refine W.block ?_ | refine W.outBlock ?_ | refine W.skip ?_ | refine W.exit rfl ?_ | refine WL.box rfl rfl rfl ?_ | refine W.opsD ?_ | refine W.condT rfl ?_ | refine W.condF rfl ?_)
      exact W.ret ⟨_, rfl, rfl, hG.mono (by dsimp only; omega)⟩
    | some x =>
      rw [hfn] at hd
      dsimp only at hd
      have hx : x ∈ nodes.l := List.mem_of_find?_eq_some hfn
      obtain ⟨v, hgo, hv⟩ := goes_c x (ha x hx)
      have hgl : (goesL x).length < 200000 := by have := ha x hx; simp [goesL]; omega
      repeat (first | refine W.seq ?_ | refine W.ops ?_ | refine WL.off rfl rfl ?_ | refine WL.val rfl rfl rfl ?_ | refine WL.nil ?_ | refine W.block ?_ | refine W.outBlock ?_ | refine W.skip ?_ | refine W.exit rfl ?_ | refine WL.box rfl rfl rfl ?_ | refine W.opsD ?_ | refine W.condT rfl ?_ | refine W.condF rfl ?_)
      refine WL.val rfl (aop_load_h rfl hG.o rfl) rfl ?_
      repeat (first | refine W.seq ?_ | refine W.ops ?_ | refine WL.off rfl rfl ?_ | refine WL.val rfl rfl rfl ?_ | refine WL.nil ?_ | refine W.block ?_ | refine W.outBlock ?_ | refine W.skip ?_ | refine W.exit rfl ?_ | refine WL.box rfl rfl rfl ?_ | refine W.opsD ?_ | refine W.condT rfl ?_ | refine W.condF rfl ?_)
      refine WL.lookN (key := kI) (n := id) (mapIx_int (fun p : Int × Int => p.1) id st.on) rfl rfl rfl hG.om rfl ?_
      repeat (first | refine W.seq ?_ | refine W.ops ?_ | refine WL.off rfl rfl ?_ | refine WL.val rfl rfl rfl ?_ | refine WL.nil ?_ | refine W.block ?_ | refine W.outBlock ?_ | refine W.skip ?_ | refine W.exit rfl ?_ | refine WL.box rfl rfl rfl ?_ | refine W.opsD ?_ | refine W.condT rfl ?_ | refine W.condF rfl ?_)
      refine W.condS rfl (fun h1 => ?_) (fun h1 => ?_)
      · have h1' : gi st.on id > 0 := of_decide_eq_true h1
        rw [if_pos h1'] at hd
        simp only [Option.some.injEq, Prod.mk.injEq] at hd
        obtain ⟨rfl, rfl⟩ := hd
        repeat (first | refine W.seq ?_ | refine W.ops ?_ | refine WL.off rfl rfl ?_ | refine WL.val rfl rfl rfl ?_ | refine WL.nil ?_ | refine W.block ?_ | refine W.outBlock ?_ | refine W.skip ?_ | refine W.exit rfl ?_ | refine WL.box rfl rfl rfl ?_ | refine W.opsD ?_ | refine W.condT rfl ?_ | refine W.condF rfl ?_)
        refine WL.heap rfl (aop_store_h rfl rfl rfl rfl hG.w rfl) rfl ?_
        repeat (first | refine W.seq ?_ | refine W.ops ?_ | refine WL.off rfl rfl ?_ | refine WL.val rfl rfl rfl ?_ | refine WL.nil ?_ | refine W.block ?_ | refine W.outBlock ?_ | refine W.skip ?_ | refine W.exit rfl ?_ | refine WL.box rfl rfl rfl ?_ | refine W.opsD ?_ | refine W.condT rfl ?_ | refine W.condF rfl ?_)
        exact W.ret ⟨_, rfl, rfl, (hG.putWhole false).mono (by dsimp only; omega)⟩
      have h1' : ¬ gi st.on id > 0 := of_decide_eq_false h1
      rw [if_neg h1'] at hd
      repeat (first | refine W.seq ?_ | refine W.ops ?_ | refine WL.off rfl rfl ?_ | refine WL.val rfl rfl rfl ?_ | refine WL.nil ?_ | refine W.block ?_ | refine W.outBlock ?_ | refine W.skip ?_ | refine W.exit rfl ?_ | refine WL.box rfl rfl rfl ?_ | refine W.opsD ?_ | refine W.condT rfl ?_ | refine W.condF rfl ?_)
      refine WL.val rfl (aop_load_h rfl hG.d rfl) rfl ?_
      repeat (first | refine W.seq ?_ | refine W.ops ?_ | refine WL.off rfl rfl ?_ | refine WL.val rfl rfl rfl ?_ | refine WL.nil ?_ | refine W.block ?_ | refine W.outBlock ?_ | refine W.skip ?_ | refine W.exit rfl ?_ | refine WL.box rfl rfl rfl ?_ | refine W.opsD ?_ | refine W.condT rfl ?_ | refine W.condF rfl ?_)
      refine WL.lookN (key := kI) (n := id) (mapIx_int (fun p : Int × Int => p.1) id st.done) rfl rfl rfl hG.dm rfl ?_
      repeat (first | refine W.seq ?_ | refine W.ops ?_ | refine WL.off rfl rfl ?_ | refine WL.val rfl rfl rfl ?_ | refine WL.nil ?_ | refine W.block ?_ | refine W.outBlock ?_ | refine W.skip ?_ | refine W.exit rfl ?_ | refine WL.box rfl rfl rfl ?_ | refine W.opsD ?_ | refine W.condT rfl ?_ | refine W.condF rfl ?_)
      refine W.condS rfl (fun h2 => ?_) (fun h2 => ?_)
      · have h2' : gi st.done id > 0 := of_decide_eq_true h2
        rw [if_pos h2'] at hd
        simp only [Option.some.injEq, Prod.mk.injEq] at hd
        obtain ⟨rfl, rfl⟩ := hd
        repeat (first | refine W.seq ?_ | refine W.ops ?_ | refine WL.off rfl rfl ?_ | refine WL.val rfl rfl rfl ?_ | refine WL.nil ?_ | refine W.block ?_ | refine W.outBlock ?_ | refine W.skip ?_ | refine W.exit rfl ?_ | refine WL.box rfl rfl rfl ?_ | refine W.opsD ?_ | refine W.condT rfl ?_ | refine W.condF rfl ?_)
        refine WL.val rfl (aop_load_h rfl hG.d rfl) rfl ?_
        repeat (first | refine W.seq ?_ | refine W.ops ?_ | refine WL.off rfl rfl ?_ | refine WL.val rfl rfl rfl ?_ | refine WL.nil ?_ | refine W.block ?_ | refine W.outBlock ?_ | refine W.skip ?_ | refine W.exit rfl ?_ | refine WL.box rfl rfl rfl ?_ | refine W.opsD ?_ | refine W.condT rfl ?_ | refine W.condF rfl ?_)
        refine WL.lookN (key := kI) (n := id) (mapIx_int (fun p : Int × Int => p.1) id st.done) rfl rfl rfl hG.dm rfl ?_
        repeat (first | refine W.seq ?_ | refine W.ops ?_ | refine WL.off rfl rfl ?_ | refine WL.val rfl rfl rfl ?_ | refine WL.nil ?_ | refine W.block ?_ | refine W.outBlock ?_ | refine W.skip ?_ | refine W.exit rfl ?_ | refine WL.box rfl rfl rfl ?_ | refine W.opsD ?_ | refine W.condT rfl ?_ | refine W.condF rfl ?_)
        exact W.ret ⟨_, rfl, rfl, hG.mono (by dsimp only; omega)⟩
      have h2' : ¬ gi st.done id > 0 := of_decide_eq_false h2
      rw [if_neg h2'] at hd
      by_cases h3 : gi st.on id = 0
      case neg => rw [if_neg h3] at hd; cases hd
      rw [if_pos h3] at hd
      repeat (first | refine W.seq ?_ | refine W.ops ?_ | refine WL.off rfl rfl ?_ | refine WL.val rfl rfl rfl ?_ | refine WL.nil ?_ | refine W.block ?_ | refine W.outBlock ?_ | refine W.skip ?_ | refine W.exit rfl ?_ | refine WL.box rfl rfl rfl ?_ | refine W.opsD ?_ | refine W.condT rfl ?_ | refine W.condF rfl ?_)
      refine WL.val rfl (aop_load_h rfl hG.o rfl) rfl ?_
      repeat (first | refine W.seq ?_ | refine W.ops ?_ | refine WL.off rfl rfl ?_ | refine WL.val rfl rfl rfl ?_ | refine WL.nil ?_ | refine W.block ?_ | refine W.outBlock ?_ | refine W.skip ?_ | refine W.exit rfl ?_ | refine WL.box rfl rfl rfl ?_ | refine W.opsD ?_ | refine W.condT rfl ?_ | refine W.condF rfl ?_)
      refine WL.lookN (key := kI) (n := id) (mapIx_int (fun p : Int × Int => p.1) id st.on) rfl rfl rfl hG.om rfl ?_
      repeat (first | refine W.seq ?_ | refine W.ops ?_ | refine WL.off rfl rfl ?_ | refine WL.val rfl rfl rfl ?_ | refine WL.nil ?_ | refine W.block ?_ | refine W.outBlock ?_ | refine W.skip ?_ | refine W.exit rfl ?_ | refine WL.box rfl rfl rfl ?_ | refine W.opsD ?_ | refine W.condT rfl ?_ | refine W.condF rfl ?_)
      have e1 : IntKind.wrap .i64 ((mget st.on id).getD 0 + 1) = 1 := by
        have : (mget st.on id).getD 0 = 0 := h3
        rw [this]; rfl
      dsimp only [cond_false]
      rw [e1]
      refine WL.mapupN (key := kI) (n := id) (mapIx_int (fun p : Int × Int => p.1) id st.on) rfl rfl rfl rfl hG.om rfl (fun ob hob => ?_)
      have hG1 := hG.putOn hob
      repeat (first | refine W.seq ?_ | refine W.ops ?_ | refine WL.off rfl rfl ?_ | refine WL.val rfl rfl rfl ?_ | refine WL.nil ?_ | refine W.block ?_ | refine W.outBlock ?_ | refine W.skip ?_ | refine W.exit rfl ?_ | refine WL.box rfl rfl rfl ?_ | refine W.opsD ?_ | refine W.condT rfl ?_ | refine W.condF rfl ?_)
      refine WL.pure rfl rfl rfl hgo rfl ?_
      refine WL.val rfl (aop_len_sl rfl hv) rfl ?_
      repeat (first | refine W.seq ?_ | refine W.ops ?_ | refine WL.off rfl rfl ?_ | refine WL.val rfl rfl rfl ?_ | refine WL.nil ?_ | refine W.block ?_ | refine W.outBlock ?_ | refine W.skip ?_ | refine W.exit rfl ?_ | refine WL.box rfl rfl rfl ?_ | refine W.opsD ?_ | refine W.condT rfl ?_ | refine W.condF rfl ?_)
      cases hfo : foldW (walkF nodes.l k) { st with on := mput st.on id 1 } 0 (goesL x) with
      | none => rw [hfo] at hd; cases hd
      | some p =>
      obtain ⟨sf, mf⟩ := p
      rw [hfo] at hd
      dsimp only at hd
      by_cases hcd : gi sf.on id = 1 ∧ 0 ≤ mf ∧ mf < 1000000
      case neg => rw [if_neg hcd] at hd; cases hd
      rw [if_pos hcd] at hd
      simp only [Option.some.injEq, Prod.mk.injEq] at hd
      obtain ⟨rfl, rfl⟩ := hd
      refine W.loopE (E0 := envOf [(0, _), (2, _), (4, _), (5, _), (10, _), (40, _), (41, _), (42, _)]) rfl (β := Nat × GS × Int) (fun b => [(10, .v (.int .i64 b.2.2)), (42, .v (.int .i64 b.1))])
        (fun b h1 n1 => b.1 ≤ (goesL x).length ∧ GH m nodes h1 n1 b.2.1 ∧ foldW (walkF nodes.l k) b.2.1 b.2.2 ((goesL x).drop b.1) = some (sf, mf)) (fun b => (goesL x).length - b.1) (0, { st with on := mput st.on id 1 }, 0) rfl ⟨by simp, hG1.mono (by omega), hfo⟩ ?_
      rintro ⟨i, st1, m1⟩ h1 n1 ⟨hi, hG2, hfo1⟩ ih
      dsimp only at hi hG2 hfo1 ⊢
      repeat (first | refine W.seq ?_ | refine W.ops ?_ | refine WL.off rfl rfl ?_ | refine WL.val rfl rfl rfl ?_ | refine WL.nil ?_ | refine W.block ?_ | refine W.outBlock ?_ | refine W.skip ?_ | refine W.exit rfl ?_ | refine WL.box rfl rfl rfl ?_ | refine W.opsD ?_ | refine W.condT rfl ?_ | refine W.condF rfl ?_)
      refine W.cond rfl (fun hb2 => ?_) (fun hb2 => ?_)
      · have hlt : i < (goesL x).length := by simpa using hb2
        rw [List.drop_eq_getElem_cons hlt] at hfo1
        simp only [foldW] at hfo1
        repeat (first | refine W.seq ?_ | refine W.ops ?_ | refine WL.off rfl rfl ?_ | refine WL.val rfl rfl rfl ?_ | refine WL.nil ?_ | refine W.block ?_ | refine W.outBlock ?_ | refine W.skip ?_ | refine W.exit rfl ?_ | refine WL.box rfl rfl rfl ?_ | refine W.opsD ?_ | refine W.condT rfl ?_ | refine W.condF rfl ?_)
        refine WL.val rfl (aop_iaddr_sl rfl hv rfl hlt) rfl ?_
        refine WL.val rfl (aop_load_el (enc := encI) (o := 0) rfl (fun _ => rfl) hlt (by decide) rfl) rfl ?_
        repeat (first | refine W.seq ?_ | refine W.ops ?_ | refine WL.off rfl rfl ?_ | refine WL.val rfl rfl rfl ?_ | refine WL.nil ?_ | refine W.block ?_ | refine W.outBlock ?_ | refine W.skip ?_ | refine W.exit rfl ?_ | refine WL.box rfl rfl rfl ?_ | refine W.opsD ?_ | refine W.condT rfl ?_ | refine W.condF rfl ?_)
        refine WL.val rfl (aop_load_h rfl hG2.f rfl) rfl ?_
        repeat (first | refine W.seq ?_ | refine W.ops ?_ | refine WL.off rfl rfl ?_ | refine WL.val rfl rfl rfl ?_ | refine WL.nil ?_ | refine W.block ?_ | refine W.outBlock ?_ | refine W.skip ?_ | refine W.exit rfl ?_ | refine WL.box rfl rfl rfl ?_ | refine W.opsD ?_ | refine W.condT rfl ?_ | refine W.condF rfl ?_)
        cases hr : walkF nodes.l k st1 (goesL x)[i] with
        | none => rw [hr] at hfo1; cases hfo1
        | some p =>
        obtain ⟨st2, r2⟩ := p
        rw [hr] at hfo1
        refine WL.effv rfl rfl rfl rfl ((IH st1 (goesL x)[i] st2 r2 _ _ hr (hG2.mono (by omega))).mono ?_)
        rintro u h2 n2 ⟨rfl, hG3⟩
        repeat (first | refine W.seq ?_ | refine W.ops ?_ | refine WL.off rfl rfl ?_ | refine WL.val rfl rfl rfl ?_ | refine WL.nil ?_ | refine W.block ?_ | refine W.outBlock ?_ | refine W.skip ?_ | refine W.exit rfl ?_ | refine WL.box rfl rfl rfl ?_ | refine W.opsD ?_ | refine W.condT rfl ?_ | refine W.condF rfl ?_)
        exact ih (i + 1, st2, max m1 r2) _ _ _ ⟨hlt, hG3.mono (by omega), hfo1⟩ (by simp only; omega) (by rw [← wrap64_nat (k := i) (by omega)]; rfl)
      · have hge : i = (goesL x).length := by simp at hb2; omega
        subst hge
        rw [List.drop_length] at hfo1
        simp only [foldW, Option.some.injEq, Prod.mk.injEq] at hfo1
        obtain ⟨rfl, rfl⟩ := hfo1
        repeat (first | refine W.seq ?_ | refine W.ops ?_ | refine WL.off rfl rfl ?_ | refine WL.val rfl rfl rfl ?_ | refine WL.nil ?_ | refine W.block ?_ | refine W.outBlock ?_ | refine W.skip ?_ | refine W.exit rfl ?_ | refine WL.box rfl rfl rfl ?_ | refine W.opsD ?_ | refine W.condT rfl ?_ | refine W.condF rfl ?_)
        refine WL.val rfl (aop_load_h rfl hG2.o rfl) rfl ?_
        repeat (first | refine W.seq ?_ | refine W.ops ?_ | refine WL.off rfl rfl ?_ | refine WL.val rfl rfl rfl ?_ | refine WL.nil ?_ | refine W.block ?_ | refine W.outBlock ?_ | refine W.skip ?_ | refine W.exit rfl ?_ | refine WL.box rfl rfl rfl ?_ | refine W.opsD ?_ | refine W.condT rfl ?_ | refine W.condF rfl ?_)
        refine WL.lookN (key := kI) (n := id) (mapIx_int (fun p : Int × Int => p.1) id st1.on) rfl rfl rfl hG2.om rfl ?_
        repeat (first | refine W.seq ?_ | refine W.ops ?_ | refine WL.off rfl rfl ?_ | refine WL.val rfl rfl rfl ?_ | refine WL.nil ?_ | refine W.block ?_ | refine W.outBlock ?_ | refine W.skip ?_ | refine W.exit rfl ?_ | refine WL.box rfl rfl rfl ?_ | refine W.opsD ?_ | refine W.condT rfl ?_ | refine W.condF rfl ?_)
        have e2 : IntKind.wrap .i64 ((mget st1.on id).getD 0 - 1) = 0 := by
          have : (mget st1.on id).getD 0 = 1 := hcd.1
          rw [this]; rfl
        dsimp only [cond_false]
        rw [e2]
        refine WL.mapupN (key := kI) (n := id) (mapIx_int (fun p : Int × Int => p.1) id st1.on) rfl rfl rfl rfl hG2.om rfl (fun ob hob => ?_)
        have hG4 := hG2.putOn hob
        repeat (first | refine W.seq ?_ | refine W.ops ?_ | refine WL.off rfl rfl ?_ | refine WL.val rfl rfl rfl ?_ | refine WL.nil ?_ | refine W.block ?_ | refine W.outBlock ?_ | refine W.skip ?_ | refine W.exit rfl ?_ | refine WL.box rfl rfl rfl ?_ | refine W.opsD ?_ | refine W.condT rfl ?_ | refine W.condF rfl ?_)
        refine WL.val rfl (aop_load_h rfl hG4.d rfl) rfl ?_
        repeat (first | refine W.seq ?_ | refine W.ops ?_ | refine WL.off rfl rfl ?_ | refine WL.val rfl rfl rfl ?_ | refine WL.nil ?_ | refine W.block ?_ | refine W.outBlock ?_ | refine W.skip ?_ | refine W.exit rfl ?_ | refine WL.box rfl rfl rfl ?_ | refine W.opsD ?_ | refine W.condT rfl ?_ | refine W.condF rfl ?_)
        have e3 : IntKind.wrap .i64 (m1 + 1) = m1 + 1 := wrap64 (by omega) (by omega)
        rw [e3]
        refine WL.mapupN (key := kI) (n := id) (mapIx_int (fun p : Int × Int => p.1) id st1.done) rfl rfl rfl rfl hG4.dm rfl (fun ob hob => ?_)
        have hG5 := hG4.putDone hob
        repeat (first | refine W.seq ?_ | refine W.ops ?_ | refine WL.off rfl rfl ?_ | refine WL.val rfl rfl rfl ?_ | refine WL.nil ?_ | refine W.block ?_ | refine W.outBlock ?_ | refine W.skip ?_ | refine W.exit rfl ?_ | refine WL.box rfl rfl rfl ?_ | refine W.opsD ?_ | refine W.condT rfl ?_ | refine W.condF rfl ?_)
        rw [e3]
        exact W.ret ⟨_, rfl, rfl, hG5.mono (by dsimp only; omega)⟩

def runAll (l : List Node) (k : Nat) : GS → List Node → Option GS
  | st, [] => some st
  | st, x :: r => match walkF l k st x.id with
    | none => none
    | some (st', _) => runAll l k st' r
def gs0 : GS := ⟨[], [], true⟩
theorem longest_c (nodes : Sl Node) (hl : nodes.l.length < 100000) (ha : ∀ x ∈ nodes.l, x.arms.l.length < 100000) (k : Nat) (st' : GS) (hr : runAll nodes.l k gs0 nodes.l = some st') (m : Nat) :
    CallsTo T 39 [nodes.av 9 Node.enc] Heap.empty m fun v h' n' => v = .tuple [.func (.func 50) [] [.ptr (m, 0) 0, .ptr (m + 1, 3) 0, .ptr (m + 2, 0) 0, .ptr (m + 1, 2) 0, .ptr (m + 3, 0) 0], .bool st'.whole] ∧ GH m nodes h' n' st' := by
  refine CallsTo.of (vf := v39) rfl rfl ?_
  unfold v39
  repeat (first | refine W.seq ?_ | refine W.ops ?_ | refine WL.off rfl rfl ?_ | refine WL.val rfl rfl rfl ?_ | refine WL.nil ?_ | refine W.block ?_ | refine W.outBlock ?_ | refine W.skip ?_ | refine W.exit rfl ?_ | refine WL.box rfl rfl rfl ?_ | refine W.opsD ?_ | refine W.condT rfl ?_ | refine W.condF rfl ?_ | refine WL.heap rfl rfl rfl ?_)
  refine WL.heap rfl (aop_store_h (cs := [.nilm]) rfl rfl rfl rfl (by simp [Heap.get_put]) rfl) rfl ?_
  refine WL.heap rfl (aop_store_h (cs := [.nilm]) rfl rfl rfl rfl (by simp [Heap.get_put]) rfl) rfl ?_
  repeat (first | refine W.seq ?_ | refine W.ops ?_ | refine WL.off rfl rfl ?_ | refine WL.val rfl rfl rfl ?_ | refine WL.nil ?_ | refine W.block ?_ | refine W.outBlock ?_ | refine W.skip ?_ | refine W.exit rfl ?_ | refine WL.box rfl rfl rfl ?_ | refine W.opsD ?_ | refine W.condT rfl ?_ | refine W.condF rfl ?_ | refine WL.heap rfl rfl rfl ?_)
  refine WL.heap rfl (aop_store_h (cs := [.bool false]) rfl rfl rfl rfl (by simp [Heap.get_put]) rfl) rfl ?_
  repeat (first | refine W.seq ?_ | refine W.ops ?_ | refine WL.off rfl rfl ?_ | refine WL.val rfl rfl rfl ?_ | refine WL.nil ?_ | refine W.block ?_ | refine W.outBlock ?_ | refine W.skip ?_ | refine W.exit rfl ?_ | refine WL.box rfl rfl rfl ?_ | refine W.opsD ?_ | refine W.condT rfl ?_ | refine W.condF rfl ?_ | refine WL.heap rfl rfl rfl ?_)
  refine WL.heap rfl (aop_store_h (cs := [.nilf]) rfl rfl rfl rfl (by simp [Heap.get_put]) rfl) rfl ?_
  refine WL.nil ?_
  refine W.gen (P := fun h n => GH m nodes h n gs0) ?_ ?_
  · refine ⟨by simp [Heap.get_put, Nat.add_assoc]; rfl, by simp [Heap.get_put, Nat.add_assoc]; rfl, by simp [Heap.get_put, Nat.add_assoc]; rfl, by simp [Heap.get_put, Nat.add_assoc]; rfl, by simp [Heap.get_put, Nat.add_assoc]; rfl, ⟨[], 0, by simp [Heap.get_put, Nat.add_assoc]; rfl⟩, ⟨[], 0, by simp [Heap.get_put, Nat.add_assoc]; rfl⟩, ?_, by omega⟩
    repeat first | exact Fresh.empty _ | refine Fresh.put ?_ (by dsimp only; omega) (Nat.le_refl _)
  intro H0 N0 hG0
  repeat (first | refine W.seq ?_ | refine W.ops ?_ | refine WL.off rfl rfl ?_ | refine WL.val rfl rfl rfl ?_ | refine WL.nil ?_ | refine W.block ?_ | refine W.outBlock ?_ | refine W.skip ?_ | refine W.exit rfl ?_ | refine WL.box rfl rfl rfl ?_ | refine W.opsD ?_ | refine W.condT rfl ?_ | refine W.condF rfl ?_)
  refine WL.val rfl (aop_load_h rfl hG0.l rfl) rfl ?_
  repeat (first | refine W.seq ?_ | refine W.ops ?_ | refine WL.off rfl rfl ?_ | refine WL.val rfl rfl rfl ?_ | refine WL.nil ?_ | refine W.block ?_ | refine W.outBlock ?_ | refine W.skip ?_ | refine W.exit rfl ?_ | refine WL.box rfl rfl rfl ?_ | refine W.opsD ?_ | refine W.condT rfl ?_ | refine W.condF rfl ?_)
  refine W.loopE (E0 := envOf [(6, _), (7, _), (13, _), (14, _), (15, _)]) rfl (β := Nat × GS) (fun b => [(15, .v (.int .i64 b.1))])
    (fun b h1 n1 => b.1 ≤ nodes.l.length ∧ GH m nodes h1 n1 b.2 ∧ runAll nodes.l k b.2 (nodes.l.drop b.1) = some st') (fun b => nodes.l.length - b.1) (0, gs0) rfl ⟨by simp, hG0.mono (by omega), hr⟩ ?_
  rintro ⟨i, st1⟩ h1 n1 ⟨hi, hG, hr1⟩ ih
  dsimp only at hi hG hr1 ⊢
  repeat (first | refine W.seq ?_ | refine W.ops ?_ | refine WL.off rfl rfl ?_ | refine WL.val rfl rfl rfl ?_ | refine WL.nil ?_ | refine W.block ?_ | refine W.outBlock ?_ | refine W.skip ?_ | refine W.exit rfl ?_ | refine WL.box rfl rfl rfl ?_ | refine W.opsD ?_ | refine W.condT rfl ?_ | refine W.condF rfl ?_)
  refine W.cond rfl (fun hb2 => ?_) (fun hb2 => ?_)
  · have hlt : i < nodes.l.length := by simpa using hb2
    rw [List.drop_eq_getElem_cons hlt] at hr1
    simp only [runAll] at hr1
    repeat (first | refine W.seq ?_ | refine W.ops ?_ | refine WL.off rfl rfl ?_ | refine WL.val rfl rfl rfl ?_ | refine WL.nil ?_ | refine W.block ?_ | refine W.outBlock ?_ | refine W.skip ?_ | refine W.exit rfl ?_ | refine WL.box rfl rfl rfl ?_ | refine W.opsD ?_ | refine W.condT rfl ?_ | refine W.condF rfl ?_)
    refine WL.val rfl (aop_iaddr_p rfl rfl hlt) rfl ?_
    refine WL.val rfl (aop_load_st (enc := Node.enc) rfl (fun _ => rfl) hlt) rfl ?_
    repeat (first | refine W.seq ?_ | refine W.ops ?_ | refine WL.off rfl rfl ?_ | refine WL.val rfl rfl rfl ?_ | refine WL.nil ?_ | refine W.block ?_ | refine W.outBlock ?_ | refine W.skip ?_ | refine W.exit rfl ?_ | refine WL.box rfl rfl rfl ?_ | refine W.opsD ?_ | refine W.condT rfl ?_ | refine W.condF rfl ?_)
    refine WL.val rfl (aop_load_h rfl hG.f rfl) rfl ?_
    repeat (first | refine W.seq ?_ | refine W.ops ?_ | refine WL.off rfl rfl ?_ | refine WL.val rfl rfl rfl ?_ | refine WL.nil ?_ | refine W.block ?_ | refine W.outBlock ?_ | refine W.skip ?_ | refine W.exit rfl ?_ | refine WL.box rfl rfl rfl ?_ | refine W.opsD ?_ | refine W.condT rfl ?_ | refine W.condF rfl ?_)
    cases hw : walkF nodes.l k st1 nodes.l[i].id with
    | none => rw [hw] at hr1; cases hr1
    | some p =>
    obtain ⟨st2, r2⟩ := p
    rw [hw] at hr1
    refine WL.effv rfl rfl rfl rfl ((walk_c m nodes hl ha k st1 nodes.l[i].id st2 r2 _ _ hw (hG.mono (by omega))).mono ?_)
    rintro u h2 n2 ⟨rfl, hG3⟩
    repeat (first | refine W.seq ?_ | refine W.ops ?_ | refine WL.off rfl rfl ?_ | refine WL.val rfl rfl rfl ?_ | refine WL.nil ?_ | refine W.block ?_ | refine W.outBlock ?_ | refine W.skip ?_ | refine W.exit rfl ?_ | refine WL.box rfl rfl rfl ?_ | refine W.opsD ?_ | refine W.condT rfl ?_ | refine W.condF rfl ?_)
    exact ih (i + 1, st2) _ _ _ ⟨hlt, hG3.mono (by omega), hr1⟩ (by simp only; omega) (by rw [← wrap64_nat (k := i) (by omega)]; rfl)
  · have hge : i = nodes.l.length := by simp at hb2; omega
    subst hge
    rw [List.drop_length] at hr1
    simp only [runAll, Option.some.injEq] at hr1
    subst hr1
    repeat (first | refine W.seq ?_ | refine W.ops ?_ | refine WL.off rfl rfl ?_ | refine WL.val rfl rfl rfl ?_ | refine WL.nil ?_ | refine W.block ?_ | refine W.outBlock ?_ | refine W.skip ?_ | refine W.exit rfl ?_ | refine WL.box rfl rfl rfl ?_ | refine W.opsD ?_ | refine W.condT rfl ?_ | refine W.condF rfl ?_)
    refine WL.val rfl (aop_load_h rfl hG.f rfl) rfl ?_
    refine WL.val rfl (aop_load_h rfl hG.w rfl) rfl ?_
    repeat (first | refine W.seq ?_ | refine W.ops ?_ | refine WL.off rfl rfl ?_ | refine WL.val rfl rfl rfl ?_ | refine WL.nil ?_ | refine W.block ?_ | refine W.outBlock ?_ | refine W.skip ?_ | refine W.exit rfl ?_ | refine WL.box rfl rfl rfl ?_ | refine W.opsD ?_ | refine W.condT rfl ?_ | refine W.condF rfl ?_)
    exact W.ret ⟨_, rfl, rfl, hG.mono (by dsimp only; omega)⟩
end
end Go.AM.B

/- Package graph: what the walks come to (plain; no machine). -/
namespace Go.AM.B
noncomputable section
set_option linter.unusedVariables false
set_option linter.unusedSimpArgs false
variable {l : List Node}

def nexts (l : List Node) (id : Int) : List Int := match findN l id with
  | none => []
  | some x => goesL x
def Rg (l : List Node) (y x : Int) : Prop := y ∈ nexts l x
def acyG (l : List Node) : Prop := ∀ id, Acc (Rg l) id
theorem gi_mput (m : MI) (x y : Int) (v : Int) : gi (mput m x v) y = if x = y then v else gi m y := by
  unfold gi
  rw [mget_mput]
  by_cases h : x = y
  · subst h; simp
  · have : (x == y) = false := by simpa using h
    simp [this, h]

/-! ### it ends -/
def ids (l : List Node) : List Int := l.map (·.id)
def cntG (l : List Node) (st : GS) : Nat := (ids l).countP fun u => gi st.on u == 0 && gi st.done u == 0
def cntD (l : List Node) (st : GS) : Nat := (ids l).countP fun u => gi st.done u == 0
theorem countP_lt {α : Type} {p q : α → Bool} {L : List α} (h : ∀ u, q u = true → p u = true) {x : α} (hx : x ∈ L) (h0 : p x = true) (h1 : q x = false) : L.countP q < L.countP p := by
  induction L with
  | nil => cases hx
  | cons a L ih =>
    simp only [List.countP_cons]
    have hle : L.countP q ≤ L.countP p := List.countP_mono_left fun u _ hu => h u hu
    rcases List.mem_cons.1 hx with rfl | hx
    · rw [h0, h1]; simp; omega
    · have := ih hx
      have e : (if q a = true then 1 else 0) ≤ (if p a = true then 1 else 0) := by
        by_cases ha : q a = true
        · simp [ha, h a ha]
        · simp [ha]
      omega
theorem mem_ids {id : Int} {x : Node} (h : findN l id = some x) : id ∈ ids l ∧ x ∈ l ∧ x.id = id := by
  have h1 := List.mem_of_find?_eq_some h
  have h2 := List.find?_some h
  simp only [beq_iff_eq] at h2
  exact ⟨List.mem_map.2 ⟨x, h1, h2⟩, h1, h2⟩
structure GInv (l : List Node) (st : GS) : Prop where
  on : ∀ u, gi st.on u = 0 ∨ gi st.on u = 1
  dn : ∀ u, 0 ≤ gi st.done u ∧ gi st.done u + cntD l st ≤ l.length
  ex : ∀ u, gi st.on u = 1 → gi st.done u = 0
theorem cntD_le (st : GS) : cntD l st ≤ l.length := by
  unfold cntD
  refine Nat.le_trans List.countP_le_length (by simp [ids])
structure GPost (l : List Node) (st st' : GS) (r : Int) : Prop where
  inv : GInv l st'
  on : ∀ u, gi st'.on u = gi st.on u
  dn : ∀ u, 0 < gi st.done u → gi st'.done u = gi st.done u
  lo : 0 ≤ r
  hi : r + cntD l st' ≤ l.length
  wh : st'.whole = true → st.whole = true
theorem cntD_mono {st st' : GS} (h : ∀ u, 0 < gi st.done u → gi st'.done u = gi st.done u) (hi : GInv l st) : cntD l st' ≤ cntD l st := by
  unfold cntD
  refine List.countP_mono_left fun u _ hu => ?_
  simp only [beq_iff_eq] at hu ⊢
  have := (hi.dn u).1
  refine Decidable.byContradiction fun e => ?_
  have := h u (by omega)
  omega
theorem cntG_mono {st st' : GS} (hon : ∀ u, gi st'.on u = gi st.on u) (h : ∀ u, 0 < gi st.done u → gi st'.done u = gi st.done u) (hi : GInv l st) : cntG l st' ≤ cntG l st := by
  unfold cntG
  refine List.countP_mono_left fun u _ hu => ?_
  simp only [Bool.and_eq_true, beq_iff_eq] at hu ⊢
  have := (hi.dn u).1
  refine ⟨by rw [← hon]; exact hu.1, Decidable.byContradiction fun e => ?_⟩
  have := h u (by omega)
  omega
theorem walk_total (hl : l.length < 100000) : ∀ (k : Nat) (st : GS) (id : Int), GInv l st → cntG l st < k → ∃ st' r, walkF l k st id = some (st', r) ∧ GPost l st st' r := by
  intro k
  induction k with
  | zero => intro st id _ h; omega
  | succ k ih =>
    intro st id hi hk
    simp only [walkF]
    cases hf : findN l id with
    | none => exact ⟨_, _, rfl, hi, fun _ => rfl, fun _ _ => rfl, Int.le_refl 0, by have := cntD_le (l := l) st; omega, fun h => h⟩
    | some x =>
      obtain ⟨hm, hxl, hxid⟩ := mem_ids hf
      dsimp only
      by_cases h1 : gi st.on id > 0
      · rw [if_pos h1]
        exact ⟨_, _, rfl, ⟨hi.on, hi.dn, hi.ex⟩, fun _ => rfl, fun _ _ => rfl, Int.le_refl 0, by have := cntD_le (l := l) { st with whole := false }; omega, fun h => by cases h⟩
      rw [if_neg h1]
      by_cases h2 : gi st.done id > 0
      · rw [if_pos h2]
        exact ⟨_, _, rfl, hi, fun _ => rfl, fun _ _ => rfl, (hi.dn id).1, (hi.dn id).2, fun h => h⟩
      rw [if_neg h2]
      have h3 : gi st.on id = 0 := by rcases hi.on id with h | h <;> omega
      have h4 : gi st.done id = 0 := by have := (hi.dn id).1; omega
      rw [if_pos h3]
      have hi1 : GInv l { st with on := mput st.on id 1 } := by
        refine ⟨fun u => ?_, hi.dn, fun u hu => ?_⟩
        · dsimp only; rw [gi_mput]; split
          · exact .inr rfl
          · exact hi.on u
        · dsimp only at hu ⊢; rw [gi_mput] at hu; split at hu
          · rename_i e; rw [← e]; exact h4
          · exact hi.ex u hu
      have hc1 : cntG l { st with on := mput st.on id 1 } < k := by
        have : cntG l { st with on := mput st.on id 1 } < cntG l st := by
          unfold cntG
          refine countP_lt (x := id) (fun u hu => ?_) hm (by simp [h3, h4]) (by simp [gi_mput])
          simp only [Bool.and_eq_true, beq_iff_eq] at hu ⊢
          rw [gi_mput] at hu
          split at hu
          · exact absurd hu.1 (by decide)
          · exact hu
        omega
      have fold : ∀ (L : List Int) (st : GS) (most : Int), GInv l st → cntG l st < k → 0 ≤ most → most + cntD l st ≤ l.length → ∃ st' m, foldW (walkF l k) st most L = some (st', m) ∧ GPost l st st' m := by
        intro L
        induction L with
        | nil => intro st most hi _ h1 h2; exact ⟨_, _, rfl, hi, fun _ => rfl, fun _ _ => rfl, h1, h2, fun h => h⟩
        | cons y ys ih2 =>
          intro st most hi hc h1 h2
          obtain ⟨st1, r1, e1, p1⟩ := ih st y hi hc
          have hle := cntD_mono p1.dn hi
          obtain ⟨st2, m2, e2, p2⟩ := ih2 st1 (max most r1) p1.inv (Nat.lt_of_le_of_lt (cntG_mono p1.on p1.dn hi) hc) (by have := p1.lo; omega) (by have := p1.hi; omega)
          refine ⟨st2, m2, by simp only [foldW, e1, e2], p2.inv, fun u => (p2.on u).trans (p1.on u), fun u hu => ?_, p2.lo, p2.hi, fun h => p1.wh (p2.wh h)⟩
          have q := p1.dn u hu
          exact (p2.dn u (by omega)).trans q
      obtain ⟨st2, m2, e2, p2⟩ := fold (goesL x) _ 0 hi1 hc1 (Int.le_refl 0) (by have := cntD_le (l := l) { st with on := mput st.on id 1 }; omega)
      have hon2 : gi st2.on id = 1 := by rw [p2.on]; dsimp only; rw [gi_mput, if_pos rfl]
      have hd2 : gi st2.done id = 0 := p2.inv.ex id hon2
      have hm2 : m2 < 1000000 := by have := p2.hi; omega
      rw [e2]
      dsimp only
      rw [if_pos ⟨hon2, p2.lo, hm2⟩]
      have hlt : cntD l { st2 with on := mput st2.on id 0, done := mput st2.done id (m2 + 1) } < cntD l st2 := by
        unfold cntD
        refine countP_lt (x := id) (fun u hu => ?_) hm (by simp [hd2]) (by simp [gi_mput]; have := p2.lo; omega)
        simp only [beq_iff_eq] at hu ⊢
        rw [gi_mput] at hu
        split at hu
        · have := p2.lo; omega
        · exact hu
      refine ⟨_, _, rfl, ⟨fun u => ?_, fun u => ?_, fun u hu => ?_⟩, fun u => ?_, fun u hu => ?_, by have := p2.lo; omega, by have := p2.hi; omega, p2.wh⟩
      · dsimp only; rw [gi_mput]; split
        · exact .inl rfl
        · exact p2.inv.on u
      · dsimp only; rw [gi_mput]; split
        · exact ⟨by have := p2.lo; omega, by have := p2.hi; omega⟩
        · have := p2.inv.dn u; exact ⟨this.1, by omega⟩
      · dsimp only at hu ⊢
        rw [gi_mput] at hu ⊢
        split at hu
        · cases hu
        · rename_i e; rw [if_neg e]; exact p2.inv.ex u hu
      · dsimp only; rw [gi_mput]; split
        · rename_i e; rw [← e]; exact h3.symm
        · rename_i e; rw [p2.on]; dsimp only; rw [gi_mput, if_neg e]
      · dsimp only; rw [gi_mput]; split
        · rename_i e; rw [← e] at hu; omega
        · exact p2.dn u hu
theorem ginv0 : GInv l gs0 := by
  have h : ∀ u, gi ([] : MI) u = 0 := fun _ => rfl
  refine ⟨fun u => .inl (h u), fun u => ⟨by rw [show gi gs0.done u = 0 from h u]; exact Int.le_refl 0, ?_⟩, fun u _ => h u⟩
  rw [show gi gs0.done u = 0 from h u]
  have := cntD_le (l := l) gs0
  omega
theorem runAll_total (hl : l.length < 100000) : ∃ st', runAll l (l.length + 1) gs0 l = some st' ∧ GInv l st' ∧ ∀ u, gi st'.on u = 0 := by
  have key : ∀ (L : List Node) (st : GS), GInv l st → (∀ u, gi st.on u = 0) → ∃ st', runAll l (l.length + 1) st L = some st' ∧ GInv l st' ∧ ∀ u, gi st'.on u = 0 := by
    intro L
    induction L with
    | nil => intro st h1 h2; exact ⟨st, rfl, h1, h2⟩
    | cons x L ih =>
      intro st h1 h2
      obtain ⟨st1, r1, e1, p1⟩ := walk_total hl (l.length + 1) st x.id h1 (Nat.lt_succ_of_le (by unfold cntG; exact Nat.le_trans List.countP_le_length (by simp [ids])))
      obtain ⟨st2, e2, q1, q2⟩ := ih st1 p1.inv (fun u => (p1.on u).trans (h2 u))
      exact ⟨st2, by simp only [runAll, e1, e2], q1, q2⟩
  exact key l gs0 ginv0 (fun _ => rfl)

/-! ### what it says -/
theorem walk_on : ∀ (k : Nat) (st : GS) (id : Int) (st' : GS) (r : Int), walkF l k st id = some (st', r) → (∀ u, gi st'.on u = gi st.on u) ∧ (st'.whole = true → st.whole = true) := by
  intro k
  induction k with
  | zero => intro st id st' r h; cases h
  | succ k ih =>
    intro st id st' r h
    simp only [walkF] at h
    have fold : ∀ (L : List Int) (st : GS) (m : Int) (st' : GS) (m' : Int), foldW (walkF l k) st m L = some (st', m') → (∀ u, gi st'.on u = gi st.on u) ∧ (st'.whole = true → st.whole = true) := by
      intro L
      induction L with
      | nil => intro st m st' m' h; simp only [foldW, Option.some.injEq, Prod.mk.injEq] at h; rw [← h.1]; exact ⟨fun _ => rfl, fun h => h⟩
      | cons y ys ih2 =>
        intro st m st' m' h
        simp only [foldW] at h
        cases hr : walkF l k st y with
        | none => rw [hr] at h; cases h
        | some p =>
          obtain ⟨st1, r1⟩ := p
          rw [hr] at h
          obtain ⟨a1, a2⟩ := ih _ _ _ _ hr
          obtain ⟨b1, b2⟩ := ih2 _ _ _ _ h
          exact ⟨fun u => (b1 u).trans (a1 u), fun h => a2 (b2 h)⟩
    split at h
    · simp only [Option.some.injEq, Prod.mk.injEq] at h; rw [← h.1]; exact ⟨fun _ => rfl, fun h => h⟩
    · rename_i x hf
      split at h
      · simp only [Option.some.injEq, Prod.mk.injEq] at h; rw [← h.1]; exact ⟨fun _ => rfl, fun h => by cases h⟩
      · split at h
        · simp only [Option.some.injEq, Prod.mk.injEq] at h; rw [← h.1]; exact ⟨fun _ => rfl, fun h => h⟩
        · split at h
          · rename_i h3
            cases hr : foldW (walkF l k) { st with on := mput st.on id 1 } 0 (goesL x) with
            | none => rw [hr] at h; cases h
            | some p =>
              obtain ⟨st1, m1⟩ := p
              rw [hr] at h
              dsimp only at h
              obtain ⟨a1, a2⟩ := fold _ _ _ _ _ hr
              split at h
              · simp only [Option.some.injEq, Prod.mk.injEq] at h
                rw [← h.1]
                refine ⟨fun u => ?_, a2⟩
                dsimp only; rw [gi_mput]; split
                · rename_i e; rw [← e]; exact h3.symm
                · rename_i e; rw [a1]; dsimp only; rw [gi_mput, if_neg e]
              · cases h
          · cases h
def DoneG (l : List Node) (st : GS) : Prop := ∀ u, 0 < gi st.done u → Acc (Rg l) u
theorem walk_acc : ∀ (k : Nat) (st : GS) (id : Int) (st' : GS) (r : Int), DoneG l st → walkF l k st id = some (st', r) → st'.whole = true → DoneG l st' ∧ Acc (Rg l) id := by
  intro k
  induction k with
  | zero => intro st id st' r _ h; cases h
  | succ k ih =>
    intro st id st' r hd h hw
    have fold : ∀ (L : List Int) (st : GS) (m : Int) (st' : GS) (m' : Int), DoneG l st → foldW (walkF l k) st m L = some (st', m') → st'.whole = true → DoneG l st' ∧ ∀ y ∈ L, Acc (Rg l) y := by
      intro L
      induction L with
      | nil => intro st m st' m' hd h hw; simp only [foldW, Option.some.injEq, Prod.mk.injEq] at h; rw [← h.1]; exact ⟨hd, (fun y hy => by cases hy)⟩
      | cons y ys ih2 =>
        intro st m st' m' hd h hw
        simp only [foldW] at h
        cases hr : walkF l k st y with
        | none => rw [hr] at h; cases h
        | some p =>
          obtain ⟨st1, r1⟩ := p
          rw [hr] at h
          have hw1 : st1.whole = true := by
            have key : ∀ (L : List Int) (st : GS) (m : Int) (st' : GS) (m' : Int), foldW (walkF l k) st m L = some (st', m') → st'.whole = true → st.whole = true := by
              intro L
              induction L with
              | nil => intro st m st' m' h hw; simp only [foldW, Option.some.injEq, Prod.mk.injEq] at h; rw [h.1]; exact hw
              | cons y ys ih3 =>
                intro st m st' m' h hw
                simp only [foldW] at h
                cases hr : walkF l k st y with
                | none => rw [hr] at h; cases h
                | some p =>
                  rw [hr] at h
                  exact (walk_on _ _ _ _ _ hr).2 (ih3 _ _ _ _ h hw)
            exact key _ _ _ _ _ h hw
          obtain ⟨a1, a2⟩ := ih _ _ _ _ hd hr hw1
          obtain ⟨b1, b2⟩ := ih2 _ _ _ _ a1 h hw
          refine ⟨b1, fun z hz => ?_⟩
          rcases List.mem_cons.1 hz with rfl | hz
          · exact a2
          · exact b2 z hz
    simp only [walkF] at h
    split at h
    · rename_i hf
      simp only [Option.some.injEq, Prod.mk.injEq] at h
      rw [← h.1]
      exact ⟨hd, Acc.intro _ fun y hy => by unfold Rg nexts at hy; rw [hf] at hy; cases hy⟩
    · rename_i x hf
      split at h
      · simp only [Option.some.injEq, Prod.mk.injEq] at h; rw [← h.1] at hw; cases hw
      · split at h
        · rename_i h2
          simp only [Option.some.injEq, Prod.mk.injEq] at h; rw [← h.1]; exact ⟨hd, hd id h2⟩
        · split at h
          · rename_i h3
            cases hr : foldW (walkF l k) { st with on := mput st.on id 1 } 0 (goesL x) with
            | none => rw [hr] at h; cases h
            | some p =>
              obtain ⟨st1, m1⟩ := p
              rw [hr] at h
              dsimp only at h
              split at h
              · simp only [Option.some.injEq, Prod.mk.injEq] at h
                rw [← h.1] at hw ⊢
                obtain ⟨a1, a2⟩ := fold _ { st with on := mput st.on id 1 } _ _ _ hd hr hw
                have hacc : Acc (Rg l) id := Acc.intro _ fun y hy => by unfold Rg nexts at hy; rw [hf] at hy; exact a2 y hy
                refine ⟨fun u hu => ?_, hacc⟩
                dsimp only at hu; rw [gi_mput] at hu; split at hu
                · rename_i e; rw [← e]; exact hacc
                · exact a1 u hu
              · cases h
          · cases h
inductive WayN {α : Type} (N : α → List α) : α → α → Prop
  | one {x y} : y ∈ N x → WayN N x y
  | more {x y z} : WayN N x y → z ∈ N y → WayN N x z
theorem WayN.first {α : Type} {N : α → List α} {x z : α} (h : WayN N x z) : ∃ w, w ∈ N x ∧ (w = z ∨ WayN N w z) := by
  induction h with
  | one h => exact ⟨_, h, .inl rfl⟩
  | more h1 h2 ih =>
    obtain ⟨w, h3, h4⟩ := ih
    rcases h4 with rfl | h4
    · exact ⟨w, h3, .inr (.one h2)⟩
    · exact ⟨w, h3, .inr (.more h4 h2)⟩
theorem WayN.not_self {α : Type} {N : α → List α} {u : α} (ha : Acc (fun y x => y ∈ N x) u) : ¬ WayN N u u := by
  induction ha with
  | intro v _ ih =>
    intro h
    obtain ⟨w, h1, h2⟩ := h.first
    rcases h2 with rfl | h2
    · exact ih w h1 h
    · exact ih w h1 (.more h2 h1)
theorem walk_cyc : ∀ (k : Nat) (st : GS) (id : Int) (st' : GS) (r : Int), (∀ u, 0 < gi st.on u → WayN (nexts l) u id) → st.whole = true → walkF l k st id = some (st', r) → st'.whole = false → ∃ u, WayN (nexts l) u u := by
  intro k
  induction k with
  | zero => intro st id st' r _ _ h; cases h
  | succ k ih =>
    intro st id st' r hon hst h hw
    have fold : ∀ (L : List Int) (st : GS) (m : Int) (st' : GS) (m' : Int), (∀ y ∈ L, y ∈ nexts l id) → (∀ u, 0 < gi st.on u → u = id ∨ WayN (nexts l) u id) → st.whole = true → foldW (walkF l k) st m L = some (st', m') → st'.whole = false → ∃ u, WayN (nexts l) u u := by
      intro L
      induction L with
      | nil => intro st m st' m' _ _ hst h hw; simp only [foldW, Option.some.injEq, Prod.mk.injEq] at h; rw [← h.1, hst] at hw; cases hw
      | cons y ys ih2 =>
        intro st m st' m' hL hon hst h hw
        simp only [foldW] at h
        cases hr : walkF l k st y with
        | none => rw [hr] at h; cases h
        | some p =>
          obtain ⟨st1, r1⟩ := p
          rw [hr] at h
          cases hw1 : st1.whole with
          | false =>
            refine ih _ _ _ _ (fun u hu => ?_) hst hr hw1
            rcases hon u hu with rfl | h1
            · exact .one (hL y (by simp))
            · exact .more h1 (hL y (by simp))
          | true =>
            exact ih2 st1 _ st' m' (fun z hz => hL z (by simp [hz])) (fun u hu => hon u (by rw [← (walk_on _ _ _ _ _ hr).1]; exact hu)) hw1 h hw
    simp only [walkF] at h
    split at h
    · simp only [Option.some.injEq, Prod.mk.injEq] at h; rw [← h.1, hst] at hw; cases hw
    · rename_i x hf
      split at h
      · rename_i h1
        exact ⟨id, hon id h1⟩
      · split at h
        · simp only [Option.some.injEq, Prod.mk.injEq] at h; rw [← h.1, hst] at hw; cases hw
        · split at h
          · cases hr : foldW (walkF l k) { st with on := mput st.on id 1 } 0 (goesL x) with
            | none => rw [hr] at h; cases h
            | some p =>
              obtain ⟨st1, m1⟩ := p
              rw [hr] at h
              dsimp only at h
              split at h
              · simp only [Option.some.injEq, Prod.mk.injEq] at h
                rw [← h.1] at hw
                refine fold (goesL x) { st with on := mput st.on id 1 } 0 st1 m1 (fun y hy => by unfold nexts; rw [hf]; exact hy) (fun u hu => ?_) hst hr hw
                dsimp only at hu; rw [gi_mput] at hu; split at hu
                · rename_i e; exact .inl e.symm
                · exact .inr (hon u hu)
              · cases h
          · cases h
theorem runAll_sem : ∀ (k : Nat) (L : List Node) (st st' : GS), (∀ u, gi st.on u = 0) → DoneG l st → st.whole = true → runAll l k st L = some st' →
    (st'.whole = true → ∀ x ∈ L, Acc (Rg l) x.id) ∧ (st'.whole = false → ∃ u, WayN (nexts l) u u) := by
  intro k L
  induction L with
  | nil => intro st st' _ _ hw h; simp only [runAll, Option.some.injEq] at h; subst h; exact ⟨fun _ x hx => (by cases hx), fun h => by rw [hw] at h; cases h⟩
  | cons x L ih =>
    intro st st' hon hd hw h
    simp only [runAll] at h
    cases hr : walkF l k st x.id with
    | none => rw [hr] at h; cases h
    | some p =>
      obtain ⟨st1, r1⟩ := p
      rw [hr] at h
      dsimp only at h
      have hon1 : ∀ u, gi st1.on u = 0 := fun u => ((walk_on _ _ _ _ _ hr).1 u).trans (hon u)
      cases hw1 : st1.whole with
      | false =>
        have hc := walk_cyc k st x.id st1 r1 (fun u hu => by rw [hon u] at hu; cases hu) hw hr hw1
        refine ⟨fun h2 => ?_, fun _ => hc⟩
        have key : ∀ (L : List Node) (st st' : GS), runAll l k st L = some st' → st'.whole = true → st.whole = true := by
          intro L
          induction L with
          | nil => intro st st' h hw; simp only [runAll, Option.some.injEq] at h; rw [h]; exact hw
          | cons y ys ih3 =>
            intro st st' h hw
            simp only [runAll] at h
            cases hq : walkF l k st y.id with
            | none => rw [hq] at h; cases h
            | some p => rw [hq] at h; exact (walk_on _ _ _ _ _ hq).2 (ih3 _ _ h hw)
        rw [key L st1 st' h h2] at hw1; cases hw1
      | true =>
        obtain ⟨a1, a2⟩ := walk_acc k st x.id st1 r1 hd hr hw1
        obtain ⟨b1, b2⟩ := ih st1 st' hon1 a1 hw1 h
        refine ⟨fun h2 y hy => ?_, b2⟩
        rcases List.mem_cons.1 hy with rfl | hy
        · exact a2
        · exact b1 h2 y hy
theorem whole_iff {k : Nat} {st' : GS} (h : runAll l k gs0 l = some st') : st'.whole = true ↔ acyG l := by
  obtain ⟨h1, h2⟩ := runAll_sem k l gs0 st' (fun _ => rfl) (fun u hu => by have e : gi gs0.done u = 0 := rfl; omega) rfl h
  constructor
  · intro hw id
    cases hf : findN l id with
    | none => exact Acc.intro _ fun y hy => by unfold Rg nexts at hy; rw [hf] at hy; cases hy
    | some x =>
      obtain ⟨_, hx, e⟩ := mem_ids hf
      rw [← e]; exact h1 hw x hx
  · intro ha
    cases hw : st'.whole with
    | true => rfl
    | false =>
      obtain ⟨u, hu⟩ := h2 hw
      exact absurd hu (WayN.not_self (ha u))
/-! ### the numbers -/
def rankOf (l : List Node) (V : Int → Int) (id : Int) : Int := match findN l id with
  | none => 0
  | some x => ((goesL x).map V).foldl max 0 + 1
def IsRank (l : List Node) (V : Int → Int) : Prop := ∀ id, V id = rankOf l V id
theorem rank_congr {V W : Int → Int} {id : Int} (h : ∀ y ∈ nexts l id, V y = W y) : rankOf l V id = rankOf l W id := by
  unfold rankOf nexts at *
  cases hf : findN l id with
  | none => rfl
  | some x =>
    rw [hf] at h
    dsimp only
    rw [show (goesL x).map V = (goesL x).map W from List.map_congr_left h]
open Classical in
theorem rank_exists (ha : acyG l) : ∃ V, IsRank l V := by
  have wf : WellFounded (Rg l) := ⟨ha⟩
  refine ⟨wf.fix fun x rec => rankOf l (fun y => if h : Rg l y x then rec y h else 0) x, fun x => ?_⟩
  rw [wf.fix_eq]
  refine rank_congr fun y hy => ?_
  have : Rg l y x := hy
  simp only [this, dif_pos]
theorem rank_unique (ha : acyG l) {V W : Int → Int} (hV : IsRank l V) (hW : IsRank l W) : V = W := by
  funext x
  induction ha x with
  | intro x _ ih => rw [hV x, hW x]; exact rank_congr fun y hy => ih y hy
theorem walk_rank {V : Int → Int} (hV : IsRank l V) : ∀ (k : Nat) (st : GS) (id : Int) (st' : GS) (r : Int), (∀ u, 0 < gi st.done u → gi st.done u = V u) → walkF l k st id = some (st', r) → st'.whole = true → r = V id ∧ ∀ u, 0 < gi st'.done u → gi st'.done u = V u := by
  intro k
  induction k with
  | zero => intro st id st' r _ h; cases h
  | succ k ih =>
    intro st id st' r hd h hw
    have wh : ∀ (L : List Int) (st : GS) (m : Int) (st' : GS) (m' : Int), foldW (walkF l k) st m L = some (st', m') → st'.whole = true → st.whole = true := by
      intro L
      induction L with
      | nil => intro st m st' m' h hw; simp only [foldW, Option.some.injEq, Prod.mk.injEq] at h; rw [h.1]; exact hw
      | cons y ys ih3 =>
        intro st m st' m' h hw
        simp only [foldW] at h
        cases hr : walkF l k st y with
        | none => rw [hr] at h; cases h
        | some p => rw [hr] at h; exact (walk_on _ _ _ _ _ hr).2 (ih3 _ _ _ _ h hw)
    have fold : ∀ (L : List Int) (st : GS) (m : Int) (st' : GS) (m' : Int), (∀ u, 0 < gi st.done u → gi st.done u = V u) → foldW (walkF l k) st m L = some (st', m') → st'.whole = true → m' = (L.map V).foldl max m ∧ ∀ u, 0 < gi st'.done u → gi st'.done u = V u := by
      intro L
      induction L with
      | nil => intro st m st' m' hd h hw; simp only [foldW, Option.some.injEq, Prod.mk.injEq] at h; rw [← h.1, ← h.2]; exact ⟨rfl, hd⟩
      | cons y ys ih2 =>
        intro st m st' m' hd h hw
        simp only [foldW] at h
        cases hr : walkF l k st y with
        | none => rw [hr] at h; cases h
        | some p =>
          obtain ⟨st1, r1⟩ := p
          rw [hr] at h
          obtain ⟨rfl, a2⟩ := ih _ _ _ _ hd hr (wh _ _ _ _ _ h hw)
          exact ih2 _ _ _ _ a2 h hw
    simp only [walkF] at h
    split at h
    · rename_i hf
      simp only [Option.some.injEq, Prod.mk.injEq] at h
      rw [← h.1, ← h.2]
      exact ⟨by rw [hV id]; unfold rankOf; rw [hf], hd⟩
    · rename_i x hf
      split at h
      · simp only [Option.some.injEq, Prod.mk.injEq] at h; rw [← h.1] at hw; cases hw
      · split at h
        · rename_i h2
          simp only [Option.some.injEq, Prod.mk.injEq] at h; rw [← h.1, ← h.2]; exact ⟨hd id h2, hd⟩
        · split at h
          · cases hr : foldW (walkF l k) { st with on := mput st.on id 1 } 0 (goesL x) with
            | none => rw [hr] at h; cases h
            | some p =>
              obtain ⟨st1, m1⟩ := p
              rw [hr] at h
              dsimp only at h
              split at h
              · simp only [Option.some.injEq, Prod.mk.injEq] at h
                rw [← h.1] at hw ⊢
                obtain ⟨a1, a2⟩ := fold _ { st with on := mput st.on id 1 } _ _ _ hd hr hw
                have e : m1 + 1 = V id := by rw [hV id]; unfold rankOf; rw [hf, a1]
                refine ⟨by rw [← h.2]; exact e, fun u hu => ?_⟩
                dsimp only at hu ⊢; rw [gi_mput] at hu ⊢; split at hu
                · rename_i e1; rw [if_pos e1, ← e1]; exact e
                · rename_i e1; rw [if_neg e1]; exact a2 u hu
              · cases h
          · cases h
theorem runAll_rank {V : Int → Int} (hV : IsRank l V) (k : Nat) : ∀ (L : List Node) (st st' : GS), (∀ u, 0 < gi st.done u → gi st.done u = V u) → runAll l k st L = some st' → st'.whole = true → ∀ u, 0 < gi st'.done u → gi st'.done u = V u := by
  intro L
  induction L with
  | nil => intro st st' hd h _; simp only [runAll, Option.some.injEq] at h; subst h; exact hd
  | cons x L ih =>
    intro st st' hd h hw
    simp only [runAll] at h
    cases hr : walkF l k st x.id with
    | none => rw [hr] at h; cases h
    | some p =>
      obtain ⟨st1, r1⟩ := p
      rw [hr] at h
      have key : ∀ (L : List Node) (st st' : GS), runAll l k st L = some st' → st'.whole = true → st.whole = true := by
        intro L
        induction L with
        | nil => intro st st' h hw; simp only [runAll, Option.some.injEq] at h; rw [h]; exact hw
        | cons y ys ih3 =>
          intro st st' h hw
          simp only [runAll] at h
          cases hq : walkF l k st y.id with
          | none => rw [hq] at h; cases h
          | some p => rw [hq] at h; exact (walk_on _ _ _ _ _ hq).2 (ih3 _ _ h hw)
      exact ih st1 st' (walk_rank hV k st x.id st1 r1 hd hr (key L st1 st' h hw)).2 h hw
open Classical in
def rank (l : List Node) : Int → Int := if h : ∃ V, IsRank l V then h.choose else fun _ => 0
theorem rank_is (ha : acyG l) : IsRank l (rank l) := by
  have h := rank_exists ha
  unfold rank
  rw [dif_pos h]
  exact h.choose_spec
end
end Go.AM.B

/- Package graph: May and Longest, by what they tell. -/
namespace Go.AM.B
open Go.Proofs.Ytebogdeaiecldaa.Tab
noncomputable section
set_option linter.unusedVariables false
set_option linter.unusedSimpArgs false
set_option maxHeartbeats 4000000

def mayE (l : List Node) : Int := if formsB l = false then 3 else if 32 < l.length then 12 else if refsB l = false then 8 else if dB (acyG l) = false then 10 else 0
theorem may_ok (nodes : Sl Node) (hl : nodes.l.length < 100000) (ha : ∀ x ∈ nodes.l, x.arms.l.length < 100000) : VC1 T 38 [nodes.av 9 Node.enc] (.int .i64 (mayE nodes.l)) := by
  have h1 := forms_c nodes hl ha
  have h2 := refs_c nodes hl ha
  obtain ⟨st', e, hinv, hon⟩ := runAll_total (l := nodes.l) hl
  have hw := whole_iff e
  have h3 := longest_c nodes hl ha _ st' e
  have hwb : st'.whole = dB (acyG nodes.l) := by
    cases h : st'.whole with
    | true => exact dB_yes (hw.1 h)
    | false => exact dB_no (fun ha => by rw [hw.2 ha] at h; cases h)
  refine VC1.of (vf := v38) rfl rfl ?_
  unfold v38
  repeat (first | refine W.seq ?_ | refine W.ops ?_ | refine WL.off rfl rfl ?_ | refine WL.val rfl rfl rfl ?_ | refine WL.nil ?_ | refine W.block ?_ | refine W.outBlock ?_ | refine W.skip ?_ | refine W.exit rfl ?_ | refine WL.box rfl rfl rfl ?_ | refine W.opsD ?_ | refine W.condT rfl ?_ | refine W.condF rfl ?_)
  refine WL.view rfl rfl rfl h1 rfl rfl ?_
  unfold mayE
  cases c1 : formsB nodes.l
  · repeat (first | refine W.seq ?_ | refine W.ops ?_ | refine WL.off rfl rfl ?_ | refine WL.val rfl rfl rfl ?_ | refine WL.nil ?_ | refine W.block ?_ | refine W.outBlock ?_ | refine W.skip ?_ | refine W.exit rfl ?_ | refine WL.box rfl rfl rfl ?_ | refine W.opsD ?_ | refine W.condT rfl ?_ | refine W.condF rfl ?_)
    exact W.ret ⟨_, rfl, rfl⟩
  repeat (first | refine W.seq ?_ | refine W.ops ?_ | refine WL.off rfl rfl ?_ | refine WL.val rfl rfl rfl ?_ | refine WL.nil ?_ | refine W.block ?_ | refine W.outBlock ?_ | refine W.skip ?_ | refine W.exit rfl ?_ | refine WL.box rfl rfl rfl ?_ | refine W.opsD ?_ | refine W.condT rfl ?_ | refine W.condF rfl ?_)
  refine W.condS rfl (fun c2 => ?_) (fun c2 => ?_)
  · have c2' : 32 < nodes.l.length := by have := of_decide_eq_true c2; omega
    repeat (first | refine W.seq ?_ | refine W.ops ?_ | refine WL.off rfl rfl ?_ | refine WL.val rfl rfl rfl ?_ | refine WL.nil ?_ | refine W.block ?_ | refine W.outBlock ?_ | refine W.skip ?_ | refine W.exit rfl ?_ | refine WL.box rfl rfl rfl ?_ | refine W.opsD ?_ | refine W.condT rfl ?_ | refine W.condF rfl ?_)
    exact W.ret ⟨_, rfl, retI (by simp [c2'])⟩
  have c2' : ¬ 32 < nodes.l.length := by have := of_decide_eq_false c2; omega
  repeat (first | refine W.seq ?_ | refine W.ops ?_ | refine WL.off rfl rfl ?_ | refine WL.val rfl rfl rfl ?_ | refine WL.nil ?_ | refine W.block ?_ | refine W.outBlock ?_ | refine W.skip ?_ | refine W.exit rfl ?_ | refine WL.box rfl rfl rfl ?_ | refine W.opsD ?_ | refine W.condT rfl ?_ | refine W.condF rfl ?_)
  refine WL.view rfl rfl rfl h2 rfl rfl ?_
  cases c3 : refsB nodes.l
  · repeat (first | refine W.seq ?_ | refine W.ops ?_ | refine WL.off rfl rfl ?_ | refine WL.val rfl rfl rfl ?_ | refine WL.nil ?_ | refine W.block ?_ | refine W.outBlock ?_ | refine W.skip ?_ | refine W.exit rfl ?_ | refine WL.box rfl rfl rfl ?_ | refine W.opsD ?_ | refine W.condT rfl ?_ | refine W.condF rfl ?_)
    exact W.ret ⟨_, rfl, retI (by simp [c2'])⟩
  repeat (first | refine W.seq ?_ | refine W.ops ?_ | refine WL.off rfl rfl ?_ | refine WL.val rfl rfl rfl ?_ | refine WL.nil ?_ | refine W.block ?_ | refine W.outBlock ?_ | refine W.skip ?_ | refine W.exit rfl ?_ | refine WL.box rfl rfl rfl ?_ | refine W.opsD ?_ | refine W.condT rfl ?_ | refine W.condF rfl ?_)
  refine WL.eff rfl rfl rfl ((h3 _).mono ?_)
  rintro v h' n' ⟨rfl, hG⟩
  rw [hwb]
  cases c4 : dB (acyG nodes.l)
  · repeat (first | refine W.seq ?_ | refine W.ops ?_ | refine WL.off rfl rfl ?_ | refine WL.val rfl rfl rfl ?_ | refine WL.nil ?_ | refine W.block ?_ | refine W.outBlock ?_ | refine W.skip ?_ | refine W.exit rfl ?_ | refine WL.box rfl rfl rfl ?_ | refine W.opsD ?_ | refine W.condT rfl ?_ | refine W.condF rfl ?_)
    exact W.ret ⟨_, rfl, retI (by simp [c2'])⟩
  · repeat (first | refine W.seq ?_ | refine W.ops ?_ | refine WL.off rfl rfl ?_ | refine WL.val rfl rfl rfl ?_ | refine WL.nil ?_ | refine W.block ?_ | refine W.outBlock ?_ | refine W.skip ?_ | refine W.exit rfl ?_ | refine WL.box rfl rfl rfl ?_ | refine W.opsD ?_ | refine W.condT rfl ?_ | refine W.condF rfl ?_)
    exact W.ret ⟨_, rfl, retI (by simp [c2'])⟩
def longB (l : List Node) : Int := if mayE l = 0 then rank l 1 else 0
theorem longest_ok (nodes : Sl Node) (hl : nodes.l.length < 100000) (ha : ∀ x ∈ nodes.l, x.arms.l.length < 100000) : VC1 T 27 [nodes.av 9 Node.enc] (.int .i64 (longB nodes.l)) := by
  have h1 := may_ok nodes hl ha
  obtain ⟨st', e, hinv, hon⟩ := runAll_total (l := nodes.l) hl
  have hw := whole_iff e
  have h3 := longest_c nodes hl ha _ st' e
  refine VC1.of (vf := v27) rfl rfl ?_
  unfold v27
  repeat (first | refine W.seq ?_ | refine W.ops ?_ | refine WL.off rfl rfl ?_ | refine WL.val rfl rfl rfl ?_ | refine WL.nil ?_ | refine W.block ?_ | refine W.outBlock ?_ | refine W.skip ?_ | refine W.exit rfl ?_ | refine WL.box rfl rfl rfl ?_ | refine W.opsD ?_ | refine W.condT rfl ?_ | refine W.condF rfl ?_)
  refine WL.view rfl rfl rfl h1 rfl rfl ?_
  unfold longB
  by_cases hm : mayE nodes.l = 0
  · rw [hm, if_pos rfl]
    have hac : acyG nodes.l := by
      unfold mayE at hm
      split at hm
      · cases hm
      · split at hm
        · cases hm
        · split at hm
          · cases hm
          · split at hm
            · cases hm
            · rename_i c; simp only [Bool.not_eq_false] at c; exact dB_iff.1 c
    have hwt := hw.2 hac
    have hV := rank_is hac
    have hdn := runAll_rank hV _ nodes.l gs0 st' (fun u hu => by have e : gi gs0.done u = 0 := rfl; omega) e hwt
    obtain ⟨st2, r2, e2, p2⟩ := walk_total hl (nodes.l.length + 1) st' 1 hinv (Nat.lt_succ_of_le (by unfold cntG; exact Nat.le_trans List.countP_le_length (by simp [ids])))
    have hw2 : st2.whole = true := by
      cases h : st2.whole with
      | true => rfl
      | false =>
        obtain ⟨u, hu⟩ := walk_cyc _ st' 1 st2 r2 (fun u hu => by rw [hon u] at hu; cases hu) hwt e2 h
        exact absurd hu (WayN.not_self (hac u))
    have hr := (walk_rank hV _ st' 1 st2 r2 hdn e2 hw2).1
    repeat (first | refine W.seq ?_ | refine W.ops ?_ | refine WL.off rfl rfl ?_ | refine WL.val rfl rfl rfl ?_ | refine WL.nil ?_ | refine W.block ?_ | refine W.outBlock ?_ | refine W.skip ?_ | refine W.exit rfl ?_ | refine WL.box rfl rfl rfl ?_ | refine W.opsD ?_ | refine W.condT rfl ?_ | refine W.condF rfl ?_)
    refine WL.eff rfl rfl rfl ((h3 _).mono ?_)
    rintro v h' n' ⟨rfl, hG⟩
    repeat (first | refine W.seq ?_ | refine W.ops ?_ | refine WL.off rfl rfl ?_ | refine WL.val rfl rfl rfl ?_ | refine WL.nil ?_ | refine W.block ?_ | refine W.outBlock ?_ | refine W.skip ?_ | refine W.exit rfl ?_ | refine WL.box rfl rfl rfl ?_ | refine W.opsD ?_ | refine W.condT rfl ?_ | refine W.condF rfl ?_)
    refine WL.effv rfl rfl rfl rfl ((walk_c _ nodes hl ha _ st' 1 st2 r2 _ _ e2 (hG.mono (by omega))).mono ?_)
    rintro u h2 n2 ⟨rfl, hG2⟩
    repeat (first | refine W.seq ?_ | refine W.ops ?_ | refine WL.off rfl rfl ?_ | refine WL.val rfl rfl rfl ?_ | refine WL.nil ?_ | refine W.block ?_ | refine W.outBlock ?_ | refine W.skip ?_ | refine W.exit rfl ?_ | refine WL.box rfl rfl rfl ?_ | refine W.opsD ?_ | refine W.condT rfl ?_ | refine W.condF rfl ?_)
    exact W.ret ⟨_, rfl, retI hr⟩
  · rw [if_neg hm]
    have hne : (!(mayE nodes.l == 0)) = true := by simpa using hm
    repeat (first | refine W.seq ?_ | refine W.ops ?_ | refine WL.off rfl rfl ?_ | refine WL.val rfl rfl rfl ?_ | refine WL.nil ?_ | refine W.block ?_ | refine W.outBlock ?_ | refine W.skip ?_ | refine W.exit rfl ?_ | refine WL.box rfl rfl rfl ?_ | refine W.opsD ?_ | refine W.condT rfl ?_ | refine W.condF rfl ?_)
    refine W.condS rfl (fun c => ?_) (fun c => ?_)
    · repeat (first | refine W.seq ?_ | refine W.ops ?_ | refine WL.off rfl rfl ?_ | refine WL.val rfl rfl rfl ?_ | refine WL.nil ?_ | refine W.block ?_ | refine W.outBlock ?_ | refine W.skip ?_ | refine W.exit rfl ?_ | refine WL.box rfl rfl rfl ?_ | refine W.opsD ?_ | refine W.condT rfl ?_ | refine W.condF rfl ?_)
      exact W.ret ⟨_, rfl, rfl⟩
    · exact absurd c (by simpa using hm)
end
end Go.AM.B

/- Package bound: Of; the guard 'large'. -/
namespace Go.AM.B
open Go.Proofs.Ytebogdeaiecldaa.Tab
noncomputable section
set_option linter.unusedVariables false
set_option linter.unusedSimpArgs false
set_option maxHeartbeats 4000000

theorem codeV_bnd {V : Th → Int} (hV : ∀ y, 0 ≤ V y) : ∀ (l : List Instr), ∀ r ∈ codeV V l, 0 ≤ r ∧ r ≤ 65537 := by
  intro l
  induction l with
  | nil => intro r hr; simp only [codeV, List.mem_singleton] at hr; omega
  | cons i l ih =>
    intro r hr
    have h0 : ∀ k, 0 ≤ (codeV V l).getD k 0 := by
      intro k
      rw [List.getD_eq_getElem?_getD]
      cases h : (codeV V l)[k]? with
      | none => exact Int.le_refl 0
      | some v => exact (ih v (List.mem_of_getElem? h)).1
    simp only [codeV] at hr
    rcases List.mem_cons.1 hr with rfl | hr
    · have := h0 0
      have := h0 i.n.toNat
      have := hV (0, i.n)
      have := hV (2, i.n)
      unfold over
      split
      · omega
      · split
        · omega
        · split
          · omega
          · split <;> omega
    · exact ih r hr
theorem foldl_max_nn : ∀ (l : List Int) (n : Int), 0 ≤ n → 0 ≤ l.foldl max n := by
  intro l
  induction l with
  | nil => intro n h; exact h
  | cons a l ih => intro n h; exact ih _ (by omega)
theorem val_bnd {s : Solv} (ha : acy s) {V : Th → Int} (hV : IsVal s V) : ∀ x, 0 ≤ V x ∧ V x ≤ 65537 := by
  intro x
  induction ha x with
  | intro x _ ih =>
    have hle : V x ≤ 65537 := by rw [hV x]; unfold comb over; omega
    refine ⟨?_, hle⟩
    -- the numbers below are not negative
    let V' : Th → Int := fun y => max 0 (V y)
    have e : comb s V x = comb s V' x := comb_congr fun y hy => by have := (ih y hy).1; simp only [V']; omega
    rw [hV x, e]
    have hV' : ∀ y, 0 ≤ V' y := fun y => by simp only [V']; omega
    have h0 : 0 ≤ comb0 s V' x := by
      unfold comb0
      split
      · split
        · have := foldl_max_nn ((lookL s.tables x.2).map fun b => V' (1, b)) 0 (Int.le_refl 0); omega
        · exact foldl_max_nn _ 0 (Int.le_refl 0)
      · split
        · rw [List.getD_eq_getElem?_getD]
          cases h : (codeV V' (lookL s.blocks x.2))[0]? with
          | none => exact Int.le_refl 0
          | some v => exact (codeV_bnd hV' _ v (List.mem_of_getElem? h)).1
        · have key : ∀ (l : List Int) (n : Int), (∀ r ∈ l, 0 ≤ r) → 0 ≤ n → 0 ≤ l.foldl (fun n r => if kindOf (s.group x.2) = 1 then min over (n + r) else max n r) n := by
            intro l
            induction l with
            | nil => intro n _ h; exact h
            | cons a l ih2 =>
              intro n hl h
              refine ih2 _ (fun r hr => hl r (by simp [hr])) ?_
              have := hl a (by simp)
              dsimp only
              unfold over
              split <;> omega
          exact key _ 0 (fun r hr => by obtain ⟨b, _, rfl⟩ := List.mem_map.1 hr; exact hV' _) (Int.le_refl 0)
    unfold comb over
    omega
theorem rank_bnd {l : List Node} (hl : l.length < 100000) (ha : acyG l) : 0 ≤ rank l 1 ∧ rank l 1 ≤ l.length := by
  obtain ⟨st', e, hinv, hon⟩ := runAll_total (l := l) hl
  have hwt := (whole_iff e).2 ha
  have hV := rank_is ha
  have hdn := runAll_rank hV _ l gs0 st' (fun u hu => by have e : gi gs0.done u = 0 := rfl; omega) e hwt
  obtain ⟨st2, r2, e2, p2⟩ := walk_total hl (l.length + 1) st' 1 hinv (Nat.lt_succ_of_le (by unfold cntG; exact Nat.le_trans List.countP_le_length (by simp [ids])))
  have hw2 : st2.whole = true := by
    cases h : st2.whole with
    | true => rfl
    | false =>
      obtain ⟨u, hu⟩ := walk_cyc _ st' 1 st2 r2 (fun u hu => by rw [hon u] at hu; cases hu) hwt e2 h
      exact absurd hu (WayN.not_self (ha u))
  have hr := (walk_rank hV _ st' 1 st2 r2 hdn e2 hw2).1
  rw [← hr]
  exact ⟨p2.lo, by have := p2.hi; omega⟩
theorem mayE_acy {l : List Node} (hm : mayE l = 0) : acyG l := by
  unfold mayE at hm
  split at hm
  · cases hm
  · split at hm
    · cases hm
    · split at hm
      · cases hm
      · split at hm
        · cases hm
        · rename_i c; simp only [Bool.not_eq_false] at c; exact dB_iff.1 c
theorem longB_bnd {l : List Node} (hl : l.length < 100000) : 0 ≤ longB l ∧ longB l ≤ l.length := by
  unfold longB
  split
  · rename_i h; exact rank_bnd hl (mayE_acy h)
  · omega
/-- What Of tells. -/
def ofB (c : Config) : Int × Int := if (bnd (solve c) (0, 1)).2 = 0 then (min 65537 ((bnd (solve c) (0, 1)).1 + longB c.nodes.l), 0) else (0, 10)
theorem ofc_c (c : Config) (sm : Small c) : VC1 T 12 [.agg c.enc] (pairAV (ofB c)) := by
  have h1 := table_c c sm 1
  have h2 := longest_ok c.nodes sm.sn sm.sa
  have hb := longB_bnd (l := c.nodes.l) sm.sn
  have hn := sm.sn
  refine VC1.of (vf := v12) rfl rfl ?_
  unfold v12
  repeat (first | refine W.seq ?_ | refine W.ops ?_ | refine WL.off rfl rfl ?_ | refine WL.val rfl rfl rfl ?_ | refine WL.nil ?_ | refine W.block ?_ | refine W.outBlock ?_ | refine W.skip ?_ | refine W.exit rfl ?_ | refine WL.box rfl rfl rfl ?_ | refine W.opsD ?_ | refine W.condT rfl ?_ | refine W.condF rfl ?_)
  refine WL.view rfl rfl rfl h1 rfl rfl ?_
  by_cases ha : acy (solve c)
  · have e : bnd (solve c) (0, 1) = (val (solve c) (0, 1), 0) := by simp [bnd, ha]
    have hv := val_bnd ha (val_is ha) (0, 1)
    unfold ofB
    rw [e]
    have ew : IntKind.wrap .i64 (val (solve c) (0, 1) + longB c.nodes.l) = val (solve c) (0, 1) + longB c.nodes.l := wrap64 (by omega) (by omega)
    repeat (first | refine W.seq ?_ | refine W.ops ?_ | refine WL.off rfl rfl ?_ | refine WL.val rfl rfl rfl ?_ | refine WL.nil ?_ | refine W.block ?_ | refine W.outBlock ?_ | refine W.skip ?_ | refine W.exit rfl ?_ | refine WL.box rfl rfl rfl ?_ | refine W.opsD ?_ | refine W.condT rfl ?_ | refine W.condF rfl ?_)
    refine WL.view rfl rfl rfl h2 rfl rfl ?_
    repeat (first | refine W.seq ?_ | refine W.ops ?_ | refine WL.off rfl rfl ?_ | refine WL.val rfl rfl rfl ?_ | refine WL.nil ?_ | refine W.block ?_ | refine W.outBlock ?_ | refine W.skip ?_ | refine W.exit rfl ?_ | refine WL.box rfl rfl rfl ?_ | refine W.opsD ?_ | refine W.condT rfl ?_ | refine W.condF rfl ?_)
    refine W.ret ⟨_, rfl, ?_⟩
    rw [ew]; rfl
  · have e : bnd (solve c) (0, 1) = (0, 10) := by simp [bnd, ha]
    unfold ofB
    rw [e]
    repeat (first | refine W.seq ?_ | refine W.ops ?_ | refine WL.off rfl rfl ?_ | refine WL.val rfl rfl rfl ?_ | refine WL.nil ?_ | refine W.block ?_ | refine W.outBlock ?_ | refine W.skip ?_ | refine W.exit rfl ?_ | refine WL.box rfl rfl rfl ?_ | refine W.opsD ?_ | refine W.condT rfl ?_ | refine W.condF rfl ?_)
    exact W.ret ⟨_, rfl, rfl⟩
end
end Go.AM.B

/- What the solver holds, told by the configuration alone. -/
namespace Go.AM.B
noncomputable section
set_option linter.unusedVariables false
set_option linter.unusedSimpArgs false

def tabL (c : Config) (id : Int) : List Int := match c.tables.l.find? fun t => t.id == id with
  | none => []
  | some t => t.miss :: (c.entries.l.filter fun e => e.table == id).map (·.block)
def blkL (c : Config) (id : Int) : List Instr := ((c.blocks.l.find? fun b => b.id == id).map (·.code.l)).getD []

theorem find_addT (id : Int) : ∀ (l : List Table) (s : Solv), (l.foldl addT s).tables.find? (fun t => t.1 == id) = (s.tables.find? fun t => t.1 == id).or ((l.find? fun t => t.id == id).map fun t => (t.id, [t.miss])) := by
  intro l
  induction l with
  | nil => intro s; simp
  | cons t l ih =>
    intro s
    rw [List.foldl_cons, ih]
    unfold addT
    by_cases h : (s.tables.find? fun x => x.1 == t.id).isSome
    · rw [if_pos h]
      by_cases e : t.id = id
      · subst e
        obtain ⟨y, hy⟩ := Option.isSome_iff_exists.1 h
        rw [hy]; rfl
      · have e' : (t.id == id) = false := by simpa using e
        rw [List.find?_cons, e']
    · rw [if_neg h]
      dsimp only
      rw [List.find?_append]
      by_cases e : t.id = id
      · subst e
        have hn : (s.tables.find? fun x => x.1 == t.id) = none := Option.not_isSome_iff_eq_none.1 h
        rw [hn]
        simp
      · have e' : (t.id == id) = false := by simpa using e
        rw [List.find?_cons, List.find?_cons]
        dsimp only
        rw [e']
        simp
theorem find_set (k id b : Int) (X : List Int) : ∀ (l : List (Int × List Int)) (j : Nat), (l.findIdx? fun x => x.1 == k) = some j → X = lookL l k ++ [b] →
    (l.set j (k, X)).find? (fun t => t.1 == id) = (l.find? fun t => t.1 == id).map fun t => if k == id then (t.1, t.2 ++ [b]) else t := by
  intro l
  induction l with
  | nil => intro j h; simp at h
  | cons p r ih =>
    intro j h hX
    rw [List.findIdx?_cons] at h
    by_cases hp : p.1 = k
    · have hp' : (p.1 == k) = true := by simpa using hp
      rw [hp', if_pos rfl] at h
      simp only [Option.some.injEq] at h
      subst h
      simp only [List.set_cons_zero, List.find?_cons]
      have hX2 : X = p.2 ++ [b] := by rw [hX]; unfold lookL; rw [List.find?_cons, hp']; rfl
      by_cases e : k = id
      · subst e
        rw [hp']; simp [hX2, hp]
      · have e' : (k == id) = false := by simpa using e
        rw [hp, e']
        simp
    · have hp' : (p.1 == k) = false := by simpa using hp
      rw [hp'] at h
      simp only [Bool.false_eq_true, if_false] at h
      cases hr : r.findIdx? (fun x => x.1 == k) with
      | none => rw [hr] at h; cases h
      | some i =>
        rw [hr] at h
        simp only [Option.map_some, Option.some.injEq] at h
        subst h
        have hX2 : X = lookL r k ++ [b] := by rw [hX]; unfold lookL; rw [List.find?_cons, hp']
        rw [List.set_cons_succ, List.find?_cons, List.find?_cons]
        cases e : p.1 == id with
        | true =>
          have : k ≠ id := fun h => by rw [h] at hp; exact hp (by simpa using e)
          have : (k == id) = false := by simpa using this
          simp [this]
        | false => exact ih i hr hX2
theorem find_addE (id : Int) (e : Entry) (s : Solv) : (addE s e).tables.find? (fun t => t.1 == id) = (s.tables.find? fun t => t.1 == id).map fun t => if e.table == id then (t.1, t.2 ++ [e.block]) else t := by
  unfold addE
  cases h : s.tables.findIdx? (fun x => x.1 == e.table) with
  | some j => exact find_set _ _ _ _ _ _ h rfl
  | none =>
    dsimp only
    cases hf : s.tables.find? (fun t => t.1 == id) with
    | none => rfl
    | some t =>
      have h1 := List.find?_some hf
      have h2 := List.findIdx?_eq_none_iff.1 h t (List.mem_of_find?_eq_some hf)
      have : (e.table == id) = false := by
        simp only [beq_iff_eq, beq_eq_false_iff_ne, ne_eq] at h1 h2 ⊢
        exact fun e => h2 (by rw [h1, e])
      simp [this]
theorem find_foldE (id : Int) : ∀ (l : List Entry) (s : Solv), (l.foldl addE s).tables.find? (fun t => t.1 == id) = (s.tables.find? fun t => t.1 == id).map fun t => (t.1, t.2 ++ (l.filter fun e => e.table == id).map (·.block)) := by
  intro l
  induction l with
  | nil => intro s; cases h : s.tables.find? (fun t => t.1 == id) <;> simp [h]
  | cons e l ih =>
    intro s
    rw [List.foldl_cons, ih, find_addE]
    cases h : s.tables.find? (fun t => t.1 == id) with
    | none => rfl
    | some t =>
      cases he : e.table == id <;> simp [List.filter_cons, he]
theorem find_foldB (id : Int) : ∀ (l : List Block) (s : Solv), (l.foldl addB s).blocks.find? (fun t => t.1 == id) = (s.blocks.find? fun t => t.1 == id).or ((l.find? fun t => t.id == id).map fun t => (t.id, t.code.l)) := by
  intro l
  induction l with
  | nil => intro s; simp
  | cons t l ih =>
    intro s
    rw [List.foldl_cons, ih]
    unfold addB
    by_cases h : (s.blocks.find? fun x => x.1 == t.id).isSome
    · rw [if_pos h]
      by_cases e : t.id = id
      · subst e
        obtain ⟨y, hy⟩ := Option.isSome_iff_exists.1 h
        rw [hy]; rfl
      · have e' : (t.id == id) = false := by simpa using e
        rw [List.find?_cons, e']
    · rw [if_neg h]
      dsimp only
      rw [List.find?_append]
      by_cases e : t.id = id
      · subst e
        have hn : (s.blocks.find? fun x => x.1 == t.id) = none := Option.not_isSome_iff_eq_none.1 h
        rw [hn]
        simp
      · have e' : (t.id == id) = false := by simpa using e
        rw [List.find?_cons, List.find?_cons]
        dsimp only
        rw [e']
        simp
theorem find_foldG (id : Int) : ∀ (l : List Group) (s : Solv), (l.foldl addG s).groups.find? (fun t => t.id == id) = (s.groups.find? fun t => t.id == id).or (l.find? fun t => t.id == id) := by
  intro l
  induction l with
  | nil => intro s; simp
  | cons t l ih =>
    intro s
    rw [List.foldl_cons, ih]
    unfold addG
    by_cases h : (s.groups.find? fun x => x.id == t.id).isSome
    · rw [if_pos h]
      by_cases e : t.id = id
      · subst e
        obtain ⟨y, hy⟩ := Option.isSome_iff_exists.1 h
        rw [hy]; rfl
      · have e' : (t.id == id) = false := by simpa using e
        rw [List.find?_cons, e']
    · rw [if_neg h]
      dsimp only
      rw [List.find?_append]
      by_cases e : t.id = id
      · subst e
        have hn : (s.groups.find? fun x => x.id == t.id) = none := Option.not_isSome_iff_eq_none.1 h
        rw [hn]
        simp
      · have e' : (t.id == id) = false := by simpa using e
        rw [List.find?_cons, List.find?_cons]
        rw [e']
        simp
theorem solve_find (c : Config) (id : Int) : (solve c).tables.find? (fun t => t.1 == id) = (c.tables.l.find? fun t => t.id == id).map fun t => (t.id, t.miss :: (c.entries.l.filter fun e => e.table == id).map (·.block)) := by
  have e : (solve c).tables = (solve2 c).tables := (foldG _ _).1.trans (foldB _ _).1
  rw [e]
  show ((c.entries.l.foldl addE (solve1 c)).tables.find? _) = _
  rw [find_foldE]
  show ((c.tables.l.foldl addT ⟨[], [], [], []⟩).tables.find? _).map _ = _
  rw [find_addT]
  cases c.tables.l.find? (fun t => t.id == id) <;> simp
theorem solve_tab (c : Config) (id : Int) : lookL (solve c).tables id = tabL c id := by
  unfold lookL tabL
  rw [solve_find]
  cases c.tables.l.find? (fun t => t.id == id) <;> rfl
theorem solve_has (c : Config) (id : Int) : ((solve c).tables.find? fun t => t.1 == id).isSome = (c.tables.l.find? fun t => t.id == id).isSome := by
  rw [solve_find]; simp
theorem solve_blk (c : Config) (id : Int) : lookL (solve c).blocks id = blkL c id := by
  have e : (solve c).blocks = (solve3 c).blocks := (foldG _ _).2.1
  have e2 : (solve2 c).blocks = [] := (foldE _ _).1.trans (foldT _ _).1
  unfold lookL blkL
  rw [e]
  show (((c.blocks.l.foldl addB (solve2 c)).blocks.find? _).map _).getD _ = _
  rw [find_foldB, e2]
  cases c.blocks.l.find? (fun t => t.id == id) <;> rfl
theorem solve_grp (c : Config) (id : Int) : (solve c).group id = c.groups.l.find? fun g => g.id == id := by
  have e2 : (solve3 c).groups = [] := (foldB _ _).2.1.trans ((foldE _ _).2.1.trans (foldT _ _).2.1)
  unfold Solv.group
  show (c.groups.l.foldl addG (solve3 c)).groups.find? _ = _
  rw [find_foldG, e2]
  simp

/-- What leads where in one leads there in the other: then a cycle of the one is one of the other. -/
theorem acy_mono {s r : Solv} (h : ∀ x, ∀ y ∈ s.leads x, y ∈ r.leads x) (ha : acy r) : acy s :=
  fun x => Subrelation.accessible (fun {a b} hr => h b a hr) (ha x)
theorem find_app {α : Type} (p : α → Bool) (l m : List α) {a : α} (h : l.find? p = some a) : (l ++ m).find? p = some a := by
  rw [List.find?_append, h]; rfl
theorem leads_more {c d : Config} (ht : ∃ m, d.tables.l = c.tables.l ++ m) (he : ∃ m, d.entries.l = c.entries.l ++ m) (hb : ∃ m, d.blocks.l = c.blocks.l ++ m) (hg : ∃ m, d.groups.l = c.groups.l ++ m) :
    ∀ x, ∀ y ∈ (solve c).leads x, y ∈ (solve d).leads x := by
  obtain ⟨mt, ht⟩ := ht
  obtain ⟨me, he⟩ := he
  obtain ⟨mb, hb⟩ := hb
  obtain ⟨mg, hg⟩ := hg
  intro x y hy
  unfold Solv.leads at hy ⊢
  split at hy
  · rename_i h0
    rw [if_pos h0]
    rw [solve_tab] at hy ⊢
    obtain ⟨b, hb1, rfl⟩ := List.mem_map.1 hy
    refine List.mem_map.2 ⟨b, ?_, rfl⟩
    unfold tabL at hb1 ⊢
    cases hf : c.tables.l.find? (fun t => t.id == x.2) with
    | none => rw [hf] at hb1; cases hb1
    | some t =>
      rw [hf] at hb1
      rw [ht, find_app _ _ _ hf, he]
      rcases List.mem_cons.1 hb1 with h1 | h1
      · exact List.mem_cons.2 (.inl h1)
      · refine List.mem_cons.2 (.inr ?_)
        rw [List.filter_append, List.map_append]
        exact List.mem_append.2 (.inl h1)
  · rename_i h0
    rw [if_neg h0]
    split at hy
    · rename_i h1
      rw [if_pos h1]
      rw [solve_blk] at hy ⊢
      unfold blkL at hy ⊢
      cases hf : c.blocks.l.find? (fun t => t.id == x.2) with
      | none => rw [hf] at hy; cases hy
      | some t => rw [hf] at hy; rw [hb, find_app _ _ _ hf]; exact hy
    · rename_i h1
      rw [if_neg h1]
      unfold Solv.buckets at hy ⊢
      rw [solve_grp] at hy ⊢
      cases hf : c.groups.l.find? (fun t => t.id == x.2) with
      | none => rw [hf] at hy; cases hy
      | some t => rw [hf] at hy; rw [hg, find_app _ _ _ hf]; exact hy
theorem cyc_more {c d : Config} (ht : ∃ m, d.tables.l = c.tables.l ++ m) (he : ∃ m, d.entries.l = c.entries.l ++ m) (hb : ∃ m, d.blocks.l = c.blocks.l ++ m) (hg : ∃ m, d.groups.l = c.groups.l ++ m) (h : cycB (solve c) = true) : cycB (solve d) = true := by
  classical
  unfold cycB at h ⊢
  exact decide_eq_true fun ha => of_decide_eq_true h (acy_mono (leads_more ht he hb hg) ha)
/-- A group takes no less than each of its buckets' blocks. -/
theorem fold_ge (k : Int) : ∀ (l : List Int) (n : Int), (∀ r ∈ l, 0 ≤ r ∧ r ≤ 65537) → 0 ≤ n → n ≤ l.foldl (fun n r => if k = 1 then min over (n + r) else max n r) n ∨ 65537 ≤ l.foldl (fun n r => if k = 1 then min over (n + r) else max n r) n := by
  intro l
  induction l with
  | nil => intro n _ _; exact .inl (Int.le_refl _)
  | cons a l ih =>
    intro n hl hn
    obtain ⟨h1, h2⟩ := hl a List.mem_cons_self
    have ho : over = 65537 := rfl
    rw [List.foldl_cons]
    have hs : 0 ≤ (if k = 1 then min over (n + a) else max n a) ∧ (n ≤ (if k = 1 then min over (n + a) else max n a) ∨ 65537 ≤ (if k = 1 then min over (n + a) else max n a)) := by
      split <;> omega
    have := ih (if k = 1 then min over (n + a) else max n a) (fun r hr => hl r (List.mem_cons_of_mem _ hr)) hs.1
    omega
theorem fold_mem (k : Int) : ∀ (l : List Int) (n : Int), (∀ r ∈ l, 0 ≤ r ∧ r ≤ 65537) → 0 ≤ n → ∀ r ∈ l, r ≤ l.foldl (fun n r => if k = 1 then min over (n + r) else max n r) n := by
  intro l
  induction l with
  | nil => intro n _ _ r h; cases h
  | cons a l ih =>
    intro n hl hn r hr
    obtain ⟨h1, h2⟩ := hl a List.mem_cons_self
    have ho : over = 65537 := rfl
    rw [List.foldl_cons]
    have hs : 0 ≤ (if k = 1 then min over (n + a) else max n a) ∧ a ≤ (if k = 1 then min over (n + a) else max n a) := by
      split <;> omega
    have hl' : ∀ r ∈ l, 0 ≤ r ∧ r ≤ 65537 := fun r hr => hl r (List.mem_cons_of_mem _ hr)
    rcases List.mem_cons.1 hr with rfl | hr
    · have := fold_ge k l (if k = 1 then min over (n + r) else max n r) hl' hs.1
      omega
    · exact ih _ hl' hs.1 r hr
theorem group_ge {c : Config} (ha : acy (solve c)) {id : Int} {g : Group} (hg : (c.groups.l.find? fun g => g.id == id) = some g) {b : Bucket} (hb : b ∈ g.buckets.l) : val (solve c) (1, b.block) ≤ val (solve c) (2, id) := by
  have hv := val_bnd ha (val_is ha)
  have e := val_is ha (2, id)
  have e1 : (solve c).buckets id = g.buckets.l := by unfold Solv.buckets; rw [solve_grp, hg]; rfl
  have h0 : comb0 (solve c) (val (solve c)) (2, id) = (g.buckets.l.map fun b => val (solve c) (1, b.block)).foldl (fun n r => if kindOf ((solve c).group id) = 1 then min over (n + r) else max n r) 0 := by
    unfold comb0
    rw [if_neg (fun h => by cases h), if_neg (fun h => by cases h), e1]
  have h1 := fold_mem (kindOf ((solve c).group id)) (g.buckets.l.map fun b => val (solve c) (1, b.block)) 0 (by
    intro r hr
    obtain ⟨b, _, rfl⟩ := List.mem_map.1 hr
    exact hv _) (Int.le_refl _) _ (List.mem_map.2 ⟨b, hb, rfl⟩)
  rw [e]
  unfold comb
  rw [h0]
  have := (hv (1, b.block)).2
  have ho : over = 65537 := rfl
  omega
theorem ofB_bnd {c : Config} (ha : acy (solve c)) (hl : c.nodes.l.length < 100000) : (ofB c).2 = 0 ∧ 0 ≤ (ofB c).1 ∧ (ofB c).1 ≤ 65537 := by
  have hv := val_bnd ha (val_is ha) (0, 1)
  have hL := longB_bnd hl
  have e : bnd (solve c) (0, 1) = (val (solve c) (0, 1), 0) := by simp [bnd, ha]
  unfold ofB
  rw [e, if_pos rfl]
  dsimp only
  omega
end
end Go.AM.B

/- Less in, no more out. -/
namespace Go.AM.B
noncomputable section
set_option linter.unusedVariables false
set_option linter.unusedSimpArgs false

theorem getD_in {l : List Int} {i : Nat} (h : i < l.length) : l.getD i 0 = l[i] := by
  rw [List.getD_eq_getElem?_getD, List.getElem?_eq_getElem h]; rfl
theorem getD_out {l : List Int} {i : Nat} (h : l.length ≤ i) : l.getD i 0 = 0 := by
  rw [List.getD_eq_getElem?_getD, List.getElem?_eq_none h]; rfl
theorem getD_le {l m : List Int} (hl : l.length = m.length) (h : ∀ (i : Nat) (h1 : i < l.length) (h2 : i < m.length), l[i] ≤ m[i]) (i : Nat) : l.getD i 0 ≤ m.getD i 0 := by
  by_cases h1 : i < l.length
  · rw [getD_in h1, getD_in (hl ▸ h1)]; exact h i h1 (hl ▸ h1)
  · rw [getD_out (by omega), getD_out (by omega)]; exact Int.le_refl _
theorem codeV_len (V : Th → Int) : ∀ l : List Instr, (codeV V l).length = l.length + 1 := by
  intro l
  induction l with
  | nil => rfl
  | cons i r ih => simp only [codeV, List.length_cons, ih]
theorem codeV_mono {V W : Th → Int} : ∀ {l : List Instr}, (∀ y ∈ l.flatMap instrLead, V y ≤ W y) → ∀ (i : Nat) (h1 : i < (codeV V l).length) (h2 : i < (codeV W l).length), (codeV V l)[i] ≤ (codeV W l)[i] := by
  intro l
  induction l with
  | nil => intro _ i h1 h2; simp only [codeV] at h1 ⊢; have : i = 0 := by simpa using h1
           subst this; exact Int.le_refl _
  | cons a r ih =>
    intro h i h1 h2
    have ih' := ih (fun y hy => h y (by rw [List.flatMap_cons]; exact List.mem_append.2 (.inr hy)))
    have hg : ∀ j, (codeV V r).getD j 0 ≤ (codeV W r).getD j 0 := getD_le (by rw [codeV_len, codeV_len]) ih'
    cases i with
    | succ j => exact ih' j (by simpa [codeV] using h1) (by simpa [codeV] using h2)
    | zero =>
      simp only [codeV, List.getElem_cons_zero]
      have g0 := hg 0
      have gn := hg a.n.toNat
      split
      · omega
      · split
        · rename_i e
          have := h (0, a.n) (by rw [List.flatMap_cons]; exact List.mem_append.2 (.inl (by simp [instrLead, e])))
          omega
        · split
          · rename_i e
            have := h (2, a.n) (by rw [List.flatMap_cons]; exact List.mem_append.2 (.inl (by simp [instrLead, e])))
            omega
          · split <;> omega
theorem foldl_max_le : ∀ (l : List Int) (n N : Int), n ≤ N → (∀ r ∈ l, r ≤ N) → l.foldl max n ≤ N := by
  intro l
  induction l with
  | nil => intro n N h _; exact h
  | cons a l ih => intro n N h hl; exact ih _ _ (by have := hl a List.mem_cons_self; omega) (fun r hr => hl r (List.mem_cons_of_mem _ hr))
theorem foldl_max_ge : ∀ (l : List Int) (n : Int), n ≤ l.foldl max n ∧ ∀ r ∈ l, r ≤ l.foldl max n := by
  intro l
  induction l with
  | nil => intro n; exact ⟨Int.le_refl _, fun r h => by cases h⟩
  | cons a l ih =>
    intro n
    obtain ⟨h1, h2⟩ := ih (max n a)
    refine ⟨by rw [List.foldl_cons]; omega, fun r hr => ?_⟩
    rw [List.foldl_cons]
    rcases List.mem_cons.1 hr with rfl | hr
    · omega
    · exact h2 r hr
theorem fold_mono {α : Type} (k : Int) {V W : α → Int} : ∀ (l : List α) (n m : Int), n ≤ m → (∀ a ∈ l, V a ≤ W a) →
    (l.map V).foldl (fun n r => if k = 1 then min over (n + r) else max n r) n ≤ (l.map W).foldl (fun n r => if k = 1 then min over (n + r) else max n r) m := by
  intro l
  induction l with
  | nil => intro n m h _; exact h
  | cons a l ih =>
    intro n m h hl
    have h1 := hl a List.mem_cons_self
    refine ih _ _ ?_ (fun b hb => hl b (List.mem_cons_of_mem _ hb))
    by_cases hk : k = 1
    · simp only [if_pos hk]; omega
    · simp only [if_neg hk]; omega
/-- 'd' is 'c' with less in it. -/
structure LessC (d c : Config) : Prop where
  t : d.tables.l = c.tables.l
  e : ∀ x ∈ d.entries.l, x ∈ c.entries.l
  b : ∀ id, blkL d id = blkL c id ∨ blkL d id = []
  g : d.groups.l = c.groups.l
theorem LessC.tab {d c : Config} (h : LessC d c) {id b : Int} (hb : b ∈ tabL d id) : b ∈ tabL c id := by
  unfold tabL at hb ⊢
  rw [h.t] at hb
  cases hf : c.tables.l.find? (fun t => t.id == id) with
  | none => rw [hf] at hb; exact hb
  | some t =>
    rw [hf] at hb
    rcases List.mem_cons.1 hb with rfl | hb
    · exact List.mem_cons_self
    · obtain ⟨x, hx, rfl⟩ := List.mem_map.1 hb
      obtain ⟨h1, h2⟩ := List.mem_filter.1 hx
      exact List.mem_cons_of_mem _ (List.mem_map.2 ⟨x, List.mem_filter.2 ⟨h.e x h1, h2⟩, rfl⟩)
theorem LessC.buckets {d c : Config} (h : LessC d c) (id : Int) : (solve d).buckets id = (solve c).buckets id ∧ (solve d).group id = (solve c).group id := by
  have : (solve d).group id = (solve c).group id := by rw [solve_grp, solve_grp, h.g]
  exact ⟨by unfold Solv.buckets; rw [this], this⟩
theorem LessC.leads {d c : Config} (h : LessC d c) (x : Th) : ∀ y ∈ (solve d).leads x, y ∈ (solve c).leads x := by
  intro y hy
  unfold Solv.leads at hy ⊢
  split at hy
  · rename_i h0
    rw [if_pos h0]
    rw [solve_tab] at hy ⊢
    obtain ⟨b, hb1, rfl⟩ := List.mem_map.1 hy
    exact List.mem_map.2 ⟨b, h.tab hb1, rfl⟩
  · rename_i h0
    rw [if_neg h0]
    split at hy
    · rename_i h1
      rw [if_pos h1]
      rw [solve_blk] at hy ⊢
      rcases h.b x.2 with e | e
      · rw [← e]; exact hy
      · rw [e] at hy; cases hy
    · rename_i h1
      rw [if_neg h1]
      rw [← (h.buckets x.2).1]; exact hy
theorem LessC.acy {d c : Config} (h : LessC d c) (ha : acy (solve c)) : B.acy (solve d) := acy_mono h.leads ha
theorem LessC.val {d c : Config} (h : LessC d c) (ha : B.acy (solve c)) (x : Th) : B.val (solve d) x ≤ B.val (solve c) x := by
  have had := h.acy ha
  have hvd := val_is had
  have hvc := val_is ha
  have bc := val_bnd ha hvc
  induction ha x with
  | intro x _ ih =>
    have ih' : ∀ y ∈ (solve d).leads x, B.val (solve d) y ≤ B.val (solve c) y := fun y hy => ih y (h.leads x y hy)
    rw [hvd x, hvc x]
    suffices comb0 (solve d) (B.val (solve d)) x ≤ comb0 (solve c) (B.val (solve c)) x by unfold comb; omega
    obtain ⟨k, id⟩ := x
    unfold comb0
    dsimp only
    by_cases h0 : k = 0
    · subst h0
      rw [if_pos rfl, if_pos rfl]
      have hm : ((lookL (solve d).tables id).map fun b => B.val (solve d) (1, b)).foldl max 0 ≤ ((lookL (solve c).tables id).map fun b => B.val (solve c) (1, b)).foldl max 0 := by
        obtain ⟨g1, g2⟩ := foldl_max_ge ((lookL (solve c).tables id).map fun b => B.val (solve c) (1, b)) 0
        refine foldl_max_le _ _ _ g1 fun r hr => ?_
        obtain ⟨b, hb, rfl⟩ := List.mem_map.1 hr
        have i1 := ih' (1, b) (by rw [leads_0]; exact List.mem_map.2 ⟨b, hb, rfl⟩)
        rw [solve_tab] at hb
        have i2 := g2 _ (List.mem_map.2 ⟨b, by rw [solve_tab]; exact h.tab hb, rfl⟩)
        exact Int.le_trans i1 i2
      have hh : ((solve d).tables.find? fun t => t.1 == id).isSome = ((solve c).tables.find? fun t => t.1 == id).isSome := by rw [solve_has, solve_has, h.t]
      rw [hh]
      split <;> omega
    · rw [if_neg h0, if_neg h0]
      by_cases h1 : k = 1
      · subst h1
        rw [if_pos rfl, if_pos rfl]
        rw [leads_1] at ih'
        rw [solve_blk] at ih' ⊢
        rw [solve_blk]
        rcases h.b id with e | e
        · rw [e] at ih' ⊢
          exact getD_le (by rw [codeV_len, codeV_len]) (codeV_mono ih') 0
        · rw [e]
          have : (codeV (B.val (solve d)) []).getD 0 0 = 0 := rfl
          rw [this]
          have hc := codeV_bnd (fun y => (bc y).1) (blkL c id)
          have hl := codeV_len (B.val (solve c)) (blkL c id)
          rw [getD_in (by omega)]
          exact (hc _ (List.getElem_mem _)).1
      · rw [if_neg h1, if_neg h1, (h.buckets id).2, (h.buckets id).1]
        rw [leads_g _ _ h0 h1, (h.buckets id).1] at ih'
        exact fold_mono _ ((solve c).buckets id) 0 0 (Int.le_refl _) (fun b hb => ih' (1, b.block) (List.mem_map.2 ⟨b, hb, rfl⟩))
end
end Go.AM.B
